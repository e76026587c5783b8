/- Close. -/
import Derived.Test.YtfmgncajhjkdlaaSdl
import Derived.Deep.RegionWith
import Derived.Deep.CutRange
import Derived.Deep.Cut
namespace Go.Proofs.Ytfmgncajhjkdlaa
open Go.RowKit Go.PlainAid
open SP
set_option linter.unusedVariables false
set_option linter.unusedSimpArgs false

/-- a page by any number -/
def pageI (π : Pi) (p : Int) : Option Pg := if 0 ≤ p then π.page p.toNat else none
def rowKept (p : Nat) (l : List Int) : List Int := asI (kept p (l.map Int.toNat))
def clS (π : Pi) (p : Int) : Pi := match pageI π p with
  | none => π
  | some x => if x.cl then π else { setPg π p.toNat { x with cl := true } with rows := π.rows.set (ownC π p.toNat) (rowKept p.toNat (rowC π (ownC π p.toNat))) }
def clE (π : Pi) (p : Int) : Nat := match pageI π p with
  | none => 7
  | some x => if x.cl then 7 else 0
theorem fm_pageI (β : Bk) (π : Pi) (p : Int) : fm β π p = (pageI π p).map (fun _ => β.pb p.toNat) := by
  unfold fm pageI
  split <;> rfl

def ClPost1 (β : Bk) (π : Pi) (L : Nat) (p : Int) (w : World) (e : Ending) (w' : World) : Prop :=
  e = .returned (.int .i64 (clE π p : Nat)) ∧ ∃ β', Mem w' β' (clS π p) (L + 2000) ∧ Step w β π w' β' (clS π p)

theorem asI_toNat {l : List Int} (h : ∀ x ∈ l, 0 ≤ x) : asI (l.map Int.toNat) = l := by
  unfold asI
  rw [List.map_map]
  conv => rhs; rw [← List.map_id l]
  apply List.map_congr_left
  intro x hx
  have := h x hx
  simp
  omega
/-- a class's row without a page's chunks -/
theorem delRow {D : World} {v : Value} {l : List Int} (q bx : Nat) (hq : q < 1024) (ho : D.ownsRow 0 3 1 v l.length (l.map (.int .i64))) (hl : l.length ≤ 100000000) (hs : ∀ x ∈ l, 0 ≤ x ∧ x ≤ 4194303) (hbx : bx < D.heap.size) (hne : v.ownBlock ≠ some bx) (hb : D.cell? ⟨bx, 0, none⟩ = some (.int .i64 q)) :
    Calls Try.prog 33 #[v, .func (.func 34) #[] #[.pointer (some ⟨bx, 0, none⟩)]] D fun e w' => ∃ a' c', e = .returned (.slice a' (rowKept q l).length c') ∧ w'.ownsRow 0 3 1 (.slice a' (rowKept q l).length c') (rowKept q l).length ((rowKept q l).map (.int .i64)) ∧ D.grownBy w' v.ownBlock ∧ (Value.slice a' (rowKept q l).length c').ownBlock = v.ownBlock := by
  rcases ho.2 with ⟨h1, h2⟩ | ⟨g, cap, cur, h1, _⟩
  · have hl0 : l = [] := List.length_eq_zero_iff.1 h2
    subst h1 hl0
    refine (del_nil bx D).mono ?_
    rintro e w' ⟨rfl, rfl⟩
    exact ⟨none, 0, rfl, ho, World.grownBy.refl _ _, rfl⟩
  · subst h1
    have he : asI (l.map Int.toNat) = l := asI_toNat (fun x hx => (hs x hx).1)
    have hlen : l.length = (l.map Int.toNat).length := by simp
    have hsm : Sm (l.map Int.toNat) := fun m hm => by
      obtain ⟨x, hx, rfl⟩ := List.mem_map.1 hm
      have := hs x hx
      omega
    have := del_any (l.map Int.toNat) hsm q g cap bx D (by omega) hq (fun e => hne (by rw [e]; rfl)) hbx (by rw [he, ← hlen]; exact ho) hb
    rw [← hlen] at this
    refine this.mono ?_
    rintro e w' ⟨rfl, h3, h4⟩
    have e2 : (rowKept q l).length = (kept q (l.map Int.toNat)).length := by unfold rowKept asI; simp
    exact ⟨some ⟨g, 0, none⟩, cap, by rw [e2], by rw [e2]; exact h3, h4, rfl⟩

set_option maxRecDepth 100000 in
set_option maxHeartbeats 4000000 in
theorem close_any {w : World} {β : Bk} {π : Pi} {L : Nat} (h : Mem w β π L) (hw : Wf π L) (p : Int) (hp : -9223372036854775808 ≤ p ∧ p ≤ 9223372036854775807) (hm : L + 2000 ≤ 100000000) :
    Calls Try.prog 15 #[.pointer (some ⟨β.sb, 0, none⟩), .int .i64 p] w (ClPost1 β π L p w) := by
  have hB0 : Below w.heap.size w (w.alloc (.cells #[.int .i64 p] 3)) := (Below.refl _ w).alloc (Nat.le_refl _) _
  have M0 := h.below hB0
  have B3 := Boxed.new w 3 (.int .i64 p)
  obtain ⟨W0, hW0⟩ : ∃ W0, w.alloc (.cells #[.int .i64 p] 3) = W0 := ⟨_, rfl⟩
  have hs0 : W0.heap.size = w.heap.size + 1 := by rw [← hW0]; simp
  rw [hW0] at hB0 M0 B3
  have k3 := B3.cell
  have s3 := M0.s3
  have hlk := M0.drew.look p hp
  have S0 : Step w β π W0 β π := Step.of_below hB0
  cases hx : pageI π p with
  | none =>
    have Hp : Hid (∀ n, ClPost1 β π L p w (.returned (.int .i64 7)) (W0.drewN n)) := Lib.hid (fun n => by
      refine ⟨by unfold clE; rw [hx]; rfl, β, ?_⟩
      unfold clS; rw [hx]
      exact ⟨(M0.drewN n).more (by omega), S0.trans (Step.of_below (below_drewN (Below.refl _ W0) n))⟩)
    rw [fm_pageI, hx] at hlk
    simp only [Option.map_none, pval] at hlk
    clear h M0 hx S0
    go_enter Try.func15, Try.ntmps15
    go_wp2_with (fail)
    go_region
    go_wp2
    go_ret
    exact Hp.out 1
  | some x =>
    have hx2 := hx
    unfold pageI at hx2
    split at hx2
    case isFalse => cases hx2
    case isTrue h0 =>
    obtain ⟨q, rfl⟩ := Int.eq_ofNat_of_zero_le h0
    rw [Int.toNat_natCast] at hx2
    rw [fm_pageI, hx] at hlk
    simp only [Option.map_some, pval, Int.toNat_natCast] at hlk
    have kc := (M0.page hx2).2.2.1
    have kf := (M0.page hx2).2.2.2 2
    cases hcl : x.cl with
    | true =>
      have Hp : Hid (∀ n, ClPost1 β π L q w (.returned (.int .i64 7)) (W0.drewN n)) := Lib.hid (fun n => by
        refine ⟨by unfold clE; rw [hx]; dsimp only; rw [hcl]; rfl, β, ?_⟩
        unfold clS; rw [hx]; dsimp only; rw [hcl, if_pos rfl]
        exact ⟨(M0.drewN n).more (by omega), S0.trans (Step.of_below (below_drewN (Below.refl _ W0) n))⟩)
      rw [hcl] at kc
      have kc2 : W0.drew.cell? ⟨β.pb q, 2, none⟩ = some (.bool true) := kc
      clear h M0 hx S0 hx2 hcl
      go_enter Try.func15, Try.ntmps15
      go_wp2_with (fail)
      go_region
      go_wp2
      go_ret
      exact Hp.out 1
    | false =>
      rw [hcl] at kc
      have hps := hw.page_some hx2
      have hpl := hw.page_lt hx2
      have hnp := hw.np1
      have Md := M0.drew
      have kc2 : W0.drew.cell? ⟨β.pb q, 2, none⟩ = some (.bool false) := kc
      have kf2 : W0.drew.frozen? ⟨β.pb q, 2, none⟩ = false := kf
      have M1 := Md.setCl hx2 true
      obtain ⟨c, hc⟩ : ∃ c : Nat, π.ow[q]?.getD 0 = (c : Int) + 1 := ⟨(π.ow[q]?.getD 0 - 1).toNat, by omega⟩
      have hck : c < π.sz.length := by omega
      have hoc : ownC π q = c := by unfold ownC; omega
      have how : AP.owner π.ow q = c := by rw [AP.owner_at hpl]; omega
      obtain ⟨W1, hW1⟩ : ∃ W1, W0.drew.setCell ⟨β.pb q, 2, none⟩ (.bool true) = W1 := ⟨_, rfl⟩
      rw [hW1] at M1
      have s0 := M1.1.s0
      have hA1 : Ar W1.drew β.g β.k π.ow.length π.S β.bv π.ow π.bs := ⟨M1.1.drew.lie .ar, M1.1.drew.lie .own, M1.1.drew.lie .byt, rfl, hnp, hw.rng, by have := hw.siz; omega⟩
      have HO : Hid (Calls Try.prog 31 #[.pointer (some ⟨β.g, 0, none⟩), .int .i64 q] W1.drew fun e w' => e = .returned (.int .i64 c) ∧ W1.drew = w') := Lib.hid (by
        have := owner_any hA1 q
        rw [how] at this
        exact this)
      have s0d := M1.1.drew.s0
      have hs1 : W1.heap.size = w.heap.size + 1 := by rw [← hW1]; simp [hs0]
      have hpb := h.lt (.pg q) (β.pb q) (by simp [blk, hx2])
      have B1 : Boxed W1 w.heap.size 3 (.int .i64 q) := by
        rw [← hW1]
        exact (Below.heap_setCell _ _ _ _ (by show w.heap.size ≠ β.pb q; omega)).trans B3
      have k31 := B1.cell
      obtain ⟨D, hD⟩ : ∃ D, W1.drew.drew = D := ⟨_, rfl⟩
      have MD := M1.1.drew.drew
      rw [hD] at MD
      have hDs : D.heap.size = W1.heap.size := by rw [← hD]; rfl
      have kD3 : D.cell? ⟨w.heap.size, 0, none⟩ = some (.int .i64 (q : Int)) := by rw [← hD]; exact k31
      have s2 := MD.s2
      obtain ⟨a, rcap, l, hl, hrv, hrc, hro⟩ := MD.rowL hw.rl c hck
      have hrl := MD.rvl
      have hch := hw.ch c l hl
      have hrow : rowC π c = l := by unfold rowC; rw [show π.rows[c]? = some l from hl]; rfl
      have hrows : D.ownsRow 0 22 1 (.slice (some ⟨β.rb, 0, none⟩) π.sz.length β.rc) π.sz.length β.rv := MD.lie .rows
      obtain ⟨v, hv⟩ : ∃ v, v = Value.slice a l.length rcap := ⟨_, rfl⟩
      rw [← hv] at hrv hrc hro
      have hvrb : some β.rb ≠ v.ownBlock := fun e => by have := MD.inj .rows (.row c) β.rb rfl (by simp [blk, hrv, e]); cases this
      have hvsb : some β.sb ≠ v.ownBlock := fun e => by have := MD.inj .sl (.row c) β.sb rfl (by simp [blk, hrv, e]); cases this
      have hsr : β.sb ≠ β.rb := fun e => by have := MD.inj .sl .rows β.sb rfl (by rw [e]; rfl); cases this
      have hrbl := MD.lt .rows _ rfl
      have hsbl := MD.lt .sl _ rfl
      have hvbx : v.ownBlock ≠ some w.heap.size := fun e => by
        have hb1 : blk β π (.row c) = some w.heap.size := by simp [blk, hrv, e]
        have := h.lt (.row c) _ hb1
        omega
      have HD := Lib.hid (delRow q w.heap.size (by omega) hro (by have := hch.1; have := hw.lim; omega) (fun y hy => by
        obtain ⟨p', i', g', h1, h2, h3, h6, h4, h5⟩ := hch.2.2 y hy
        have := hw.page_lt h2
        have := (hw.page_some h2).2.2.2.2.2
        omega) (by omega) hvbx kD3)
      have hSD : Step w β π D β (setPg π q { x with cl := true }) := (S0.trans (Step.of_below (Below.refl _ W0).drew)).trans (M1.2.trans (by rw [← hD]; exact (Step.of_below (Below.refl _ W1).drew).trans (Step.of_below (Below.refl _ W1.drew).drew)))
      have HF : Hid (∀ v' w', w'.ownsRow 0 3 1 v' (rowKept q l).length ((rowKept q l).map (.int .i64)) → D.grownBy w' v.ownBlock → v'.ownBlock = v.ownBlock → w'.cell? ⟨β.rb, c, none⟩ = some v ∧ w'.frozen? ⟨β.rb, c, none⟩ = false ∧
          w'.cell? ⟨β.sb, 2, none⟩ = some (.slice (some ⟨β.rb, 0, none⟩) π.sz.length β.rc) ∧ ClPost1 β π L q w (.returned (.int .i64 0)) (w'.setCell ⟨β.rb, c, none⟩ v')) := by
        refine Lib.hid (fun v' w' ho' hg' hb' => ?_)
        have hrw : w'.ownsRow 0 22 1 (.slice (some ⟨β.rb, 0, none⟩) π.sz.length β.rc) π.sz.length β.rv := own_tchB hrows (Tch.of_grown hg') (fun b hb hx => hvrb (by rw [show b = β.rb by simpa [Value.ownBlock] using hb.symm] at hx; exact hx.symm))
        refine ⟨(hg'.cell_far ⟨β.rb, c, none⟩ hrbl hvrb).trans hrc, hrw.frozenAt c, (hg'.cell_far ⟨β.sb, 2, none⟩ hsbl hvsb).trans s2, by unfold clE; rw [hx]; dsimp only; rw [hcl]; rfl, ?_⟩
        have hfin := MD.setRowL hw.rl c hck v' (rowKept q l) (W := w'.setCell ⟨β.rb, c, none⟩ v') ((((Tch.of_grown hg').mono (T := rowT β c) (fun b hb => .inr (by rw [hrv]; exact hb)))).trans (Tch.setCell w' β.rb c v') (fun b hb => .inl (.inl hb))) (hrw.stored c v').1 (own_tchB ho' (Tch.setCell w' β.rb c v') (fun b hb e => hvrb (by rw [← hb', hb, e])))
          (fun b hb => .inl (by rw [hrv]; rw [hb'] at hb; exact hb))
        have e : clS π (q : Int) = { setPg π q { x with cl := true } with rows := (setPg π q { x with cl := true }).rows.set c (rowKept q l) } := by
          unfold clS
          rw [hx]
          dsimp only
          rw [hcl, if_neg (by simp), Int.toNat_natCast, hoc, hrow]
          rfl
        rw [e]
        exact ⟨_, hfin.1.more (by omega), hSD.trans hfin.2⟩
      have k2d : D.cell? ⟨β.rb, c, none⟩ = some v := hrc
      have hrbl0 := h.lt .rows _ rfl
      clear h M0 MD hx hx2 hcl hps hc hoc how hl hrv hro hrl hch hrow hrows hv hSD M1 hA1 S0 Md
      go_enter Try.func15, Try.ntmps15
      go_wp2_with (fail)
      go_region
      go_wp2_with (fail)
      go_cut [6] from 24 to 29 (fun s6 wx => s6 = .int .i64 c ∧ wx = W1.drew)
      case first =>
        go_region_with (go_at_call 31; refine HO.out.mono ?_; rintro e w' ⟨rfl, rfl⟩)
        all_goals go_wp2_with (fail)
        all_goals go_meet
        case rel => exact ⟨rfl, rfl⟩
        case rel => exact ⟨rfl, rfl⟩
      case rest =>
      obtain ⟨rfl, rfl⟩ := hcut
      all_goals go_wp2_with (fail)
      refine wp_region_held_drew (S := (fun w' => w'.cell? ⟨β.sb, 2, none⟩ = some (.slice (some ⟨β.rb, 0, none⟩) π.sz.length β.rc) ∧ w'.cell? ⟨w.heap.size, 0, none⟩ = some (.int .i64 (q : Int)))) (by kernel_rfl) ?_ (fun hHeld => ?_)
      · rw [hD]; exact ⟨s2, kD3⟩
      rw [hD] at hHeld ⊢
      refine wpAnyH_take (i := 0) (oi := _) (v := ?_) rfl (by kernel_rfl) (by kernel_rfl) (by kernel_rfl) (fun _ _ _ h => h) (Or.inl ⟨by rfl, ?_⟩) (by assumption) ?_
      rotate_left
      · intro w0 hS0; (try simp only [List.getElem_toArray, List.getElem_cons_succ, List.getElem_cons_zero]); go_simp; (try with_reducible rfl)
      (try simp only [Act.put, List.getElem_toArray, List.getElem_cons_succ, List.getElem_cons_zero, List.setIfInBounds_toArray, List.set_cons_zero, List.set_cons_succ])
      refine wpAnyH_take (i := 1) (oi := _) (v := ?_) rfl (by kernel_rfl) (by kernel_rfl) (by kernel_rfl) (fun _ _ _ h => h) (Or.inl ⟨by rfl, ?_⟩) (by assumption) ?_
      rotate_left
      · intro w0 hS0; (try simp only [List.getElem_toArray, List.getElem_cons_succ, List.getElem_cons_zero]); go_simp; (try with_reducible rfl)
      (try simp only [Act.put, List.getElem_toArray, List.getElem_cons_succ, List.getElem_cons_zero, List.setIfInBounds_toArray, List.set_cons_zero, List.set_cons_succ])
      refine wpAnyH_take (i := 2) (oi := _) (v := ?_) rfl (by kernel_rfl) (by kernel_rfl) (by kernel_rfl) (fun _ _ _ h => h) (Or.inl ⟨by rfl, ?_⟩) (by assumption) ?_
      rotate_left
      · intro w0 hS0; (try simp only [List.getElem_toArray, List.getElem_cons_succ, List.getElem_cons_zero]); go_simp; (try with_reducible rfl)
      (try simp only [Act.put, List.getElem_toArray, List.getElem_cons_succ, List.getElem_cons_zero, List.setIfInBounds_toArray, List.set_cons_zero, List.set_cons_succ])
      refine wpAnyH_take (i := 3) (oi := _) (v := ?_) rfl (by kernel_rfl) (by kernel_rfl) (by kernel_rfl) (fun _ _ _ h => h) (Or.inl ⟨by rfl, ?_⟩) (by assumption) ?_
      rotate_left
      · intro w0 hS0; (try simp only [List.getElem_toArray, List.getElem_cons_succ, List.getElem_cons_zero]); go_simp; (try with_reducible rfl)
      (try simp only [Act.put, List.getElem_toArray, List.getElem_cons_succ, List.getElem_cons_zero, List.setIfInBounds_toArray, List.set_cons_zero, List.set_cons_succ])
      refine wpAnyH_take (i := 4) (oi := _) (v := ?_) rfl (by kernel_rfl) (by kernel_rfl) (by kernel_rfl) (fun _ _ _ h => h) (Or.inl ⟨by rfl, ?_⟩) (by assumption) ?_
      rotate_left
      · intro w0 hS0; (try simp only [List.getElem_toArray, List.getElem_cons_succ, List.getElem_cons_zero]); go_simp; (try with_reducible rfl)
      (try simp only [Act.put, List.getElem_toArray, List.getElem_cons_succ, List.getElem_cons_zero, List.setIfInBounds_toArray, List.set_cons_zero, List.set_cons_succ])
      refine wpAnyH_take (i := 5) (oi := _) (v := ?_) rfl (by kernel_rfl) (by kernel_rfl) (by kernel_rfl) (fun _ _ _ h => h) (Or.inl ⟨by rfl, ?_⟩) (by assumption) ?_
      rotate_left
      · intro w0 hS0; (try simp only [List.getElem_toArray, List.getElem_cons_succ, List.getElem_cons_zero]); go_simp; (try with_reducible rfl)
      (try simp only [Act.put, List.getElem_toArray, List.getElem_cons_succ, List.getElem_cons_zero, List.setIfInBounds_toArray, List.set_cons_zero, List.set_cons_succ])
      refine wpAnyH_take (i := 6) (oi := _) (v := ?_) rfl (by kernel_rfl) (by kernel_rfl) (by kernel_rfl) (fun _ _ _ h => h) (Or.inl ⟨by rfl, ?_⟩) (by assumption) ?_
      rotate_left
      · intro w0 hS0; (try simp only [List.getElem_toArray, List.getElem_cons_succ, List.getElem_cons_zero]); go_simp; (try with_reducible rfl)
      (try simp only [Act.put, List.getElem_toArray, List.getElem_cons_succ, List.getElem_cons_zero, List.setIfInBounds_toArray, List.set_cons_zero, List.set_cons_succ])
      refine wpAnyH_take (i := 7) (oi := _) (v := ?_) rfl (by kernel_rfl) (by kernel_rfl) (by kernel_rfl) (fun _ _ _ h => h) (Or.inl ⟨by rfl, ?_⟩) (by assumption) ?_
      rotate_left
      · intro w0 hS0; (try simp only [List.getElem_toArray, List.getElem_cons_succ, List.getElem_cons_zero]); go_simp; (try with_reducible rfl)
      (try simp only [Act.put, List.getElem_toArray, List.getElem_cons_succ, List.getElem_cons_zero, List.setIfInBounds_toArray, List.set_cons_zero, List.set_cons_succ])
      refine wpAnyH_take (i := 8) (oi := _) (v := ?_) rfl (by kernel_rfl) (by kernel_rfl) (by kernel_rfl) (fun _ _ _ h => h) (Or.inl ⟨by rfl, ?_⟩) (by assumption) ?_
      rotate_left
      · intro w0 hS0; (try simp only [List.getElem_toArray, List.getElem_cons_succ, List.getElem_cons_zero]); go_simp; (try with_reducible rfl)
      (try simp only [Act.put, List.getElem_toArray, List.getElem_cons_succ, List.getElem_cons_zero, List.setIfInBounds_toArray, List.set_cons_zero, List.set_cons_succ])
      refine wpAnyH_take (i := 9) (oi := _) (v := ?_) rfl (by kernel_rfl) (by kernel_rfl) (by kernel_rfl) (fun _ _ _ h => h) (Or.inl ⟨by rfl, ?_⟩) (by assumption) ?_
      rotate_left
      · intro w0 hS0; (try simp only [List.getElem_toArray, List.getElem_cons_succ, List.getElem_cons_zero]); go_simp; (try with_reducible rfl)
      (try simp only [Act.put, List.getElem_toArray, List.getElem_cons_succ, List.getElem_cons_zero, List.setIfInBounds_toArray, List.set_cons_zero, List.set_cons_succ])
      refine wpAnyH_take (i := 10) (oi := _) (v := ?_) rfl (by kernel_rfl) (by kernel_rfl) (by kernel_rfl) (fun _ _ _ h => h) (Or.inl ⟨by rfl, ?_⟩) (by assumption) ?_
      rotate_left
      · intro w0 hS0; (try simp only [List.getElem_toArray, List.getElem_cons_succ, List.getElem_cons_zero]); go_simp; (try with_reducible rfl)
      (try simp only [Act.put, List.getElem_toArray, List.getElem_cons_succ, List.getElem_cons_zero, List.setIfInBounds_toArray, List.set_cons_zero, List.set_cons_succ])
      refine wpAnyH_take (i := 12) (oi := _) (v := ?_) rfl (by kernel_rfl) (by kernel_rfl) (by kernel_rfl) (fun _ _ _ h => h) (Or.inl ⟨by rfl, ?_⟩) (by assumption) ?_
      rotate_left
      · intro w0 hS0; (try simp only [List.getElem_toArray, List.getElem_cons_succ, List.getElem_cons_zero]); go_simp; (try with_reducible rfl)
      (try simp only [Act.put, List.getElem_toArray, List.getElem_cons_succ, List.getElem_cons_zero, List.setIfInBounds_toArray, List.set_cons_zero, List.set_cons_succ])
      refine wpAnyH_ready (rs := [11]) (by kernel_rfl) (by simp) ?_
      refine AllReadyH.cons (o := _) rfl (fun K hK => ?_) AllReadyH.nil
      rw [if_pos (by rfl)]
      (try simp only [List.getElem_toArray, List.getElem_cons_succ, List.getElem_cons_zero])
      go_simp
      refine hK.out _ _ (hHeld) (fun hHeld => ?_)
      clear hK K
      (try simp only [Act.put, List.getElem_toArray, List.getElem_cons_succ, List.getElem_cons_zero, List.setIfInBounds_toArray, List.set_cons_zero, List.set_cons_succ])
      refine wpAnyH_ready (rs := [13]) (by kernel_rfl) (by simp) ?_
      refine AllReadyH.cons (o := _) rfl (fun K hK => ?_) AllReadyH.nil
      rw [if_pos (by rfl)]
      (try simp only [List.getElem_toArray, List.getElem_cons_succ, List.getElem_cons_zero])
      go_simp
      refine HD.out.mono ?_
      rintro e w' ⟨a', c', rfl, hq1, hq2, hq3⟩
      have hk3' : w'.cell? ⟨w.heap.size, 0, none⟩ = some (.int .i64 (q : Int)) := (hq2.cell_far ⟨w.heap.size, 0, none⟩ (by show w.heap.size < _; omega) (fun e => hvbx e.symm)).trans kD3
      obtain ⟨f1, f2, f3, f4⟩ := HF.out _ w' hq1 hq2 hq3
      have Hf4 := Lib.hid f4
      clear f4 hq1 hq2 hq3
      dsimp only
      refine hK.out _ _ (⟨f3, hk3'⟩) (fun hHeld => ?_)
      clear hK K
      (try simp only [Act.put, List.getElem_toArray, List.getElem_cons_succ, List.getElem_cons_zero, List.setIfInBounds_toArray, List.set_cons_zero, List.set_cons_succ])
      refine wpAnyH_take (i := 14) (oi := _) (v := ?_) rfl (by kernel_rfl) (by kernel_rfl) (by kernel_rfl) (fun _ _ _ h => h) (Or.inl ⟨by rfl, ?_⟩) (by assumption) ?_
      rotate_left
      · intro w0 hS0; (try simp only [List.getElem_toArray, List.getElem_cons_succ, List.getElem_cons_zero]); go_simp; (try with_reducible rfl)
      (try simp only [Act.put, List.getElem_toArray, List.getElem_cons_succ, List.getElem_cons_zero, List.setIfInBounds_toArray, List.set_cons_zero, List.set_cons_succ])
      refine wpAnyH_ready (rs := [15]) (by kernel_rfl) (by simp) ?_
      refine AllReadyH.cons (o := _) rfl (fun K hK => ?_) AllReadyH.nil
      rw [if_pos (by rfl)]
      (try simp only [List.getElem_toArray, List.getElem_cons_succ, List.getElem_cons_zero])
      go_simp
      refine hK.out _ _ (⟨(World.cell?_setCell_far _ _ _ _ (by show β.rb ≠ β.sb; exact fun e => hsr e.symm)).trans f3, (World.cell?_setCell_far _ _ _ _ (by show β.rb ≠ w.heap.size; omega)).trans hk3'⟩) (fun hHeld => ?_)
      clear hK K
      (try simp only [Act.put, List.getElem_toArray, List.getElem_cons_succ, List.getElem_cons_zero, List.setIfInBounds_toArray, List.set_cons_zero, List.set_cons_succ])
      refine wpAnyH_done (by kernel_rfl) ?_ _
      go_wp2
      go_ret
      exact Hf4.out
end Go.Proofs.Ytfmgncajhjkdlaa
