/- a page's free chunks laid on its class's row. -/
import Derived.Test.YtfmgncajhjkdlaaSpn
import Derived.Deep.RegionHeld3
import Derived.Deep.AppendLies
import Derived.Deep.CutRange
import Derived.Deep.Cut
import Derived.Maps.AppendAt
import Derived.RangeFuncWrites
namespace Go.Proofs.Ytfmgncajhjkdlaa
open Go.RowKit Go.PlainAid Go.Shelf
open SP
set_option linter.unusedVariables false
set_option linter.unusedSimpArgs false

attribute [local go_sem] Oper.semAt_some

/-- the chunks that are laid -/
def psh (p : Nat) (l : List (Nat × Bool)) : List Int := (l.filter (fun x => !x.2)).map (fun x => IntKind.i64.wrap ((p : Int) * 4096 + (x.1 : Int)))
def layL (p : Nat) (us : List Bool) : List Int := psh p (bwd us us.length)
def rowsAdd (π : Pi) (c : Nat) (l : List Int) : Pi := { π with rows := π.rows.set c ((π.rows[c]?.getD []) ++ l) }

theorem psh_snoc (p : Nat) (l : List (Nat × Bool)) (x : Nat × Bool) : psh p (l ++ [x]) = psh p l ++ (if x.2 then [] else [IntKind.i64.wrap ((p : Int) * 4096 + (x.1 : Int))]) := by
  unfold psh
  rcases x with ⟨i, b⟩
  cases b <;> simp
theorem own_cells {w : World} {base : Nat} {e : TypeId} {n : Nat} {v : Value} {xs : List Value} (ho : w.ownsRow base e 1 v n xs) {b : Nat} (hb : v.ownBlock = some b) : ∃ o : Obj, w.heap[b]? = some o ∧ o.isCells = true ∧ base ≤ b ∧ b < w.heap.size := by
  rcases ho.2 with ⟨h1, _⟩ | ⟨g', cap', cur, rfl, h2, h3, h4⟩
  · rw [h1] at hb; cases hb
  · obtain rfl : g' = b := by simpa [Value.ownBlock] using hb
    exact ⟨_, h3, rfl, h2, (Array.getElem?_eq_some_iff.1 h3).1⟩
theorem own_grown {w w' : World} {base : Nat} {e : TypeId} {n : Nat} {v : Value} {xs : List Value} {row : Option Nat} (ho : w.ownsRow base e 1 v n xs) (hg : w.grownBy w' row) (hr : ∀ r, row = some r → ∃ o : Obj, w.heap[r]? = some o ∧ o.isCells = false) : w'.ownsRow base e 1 v n xs :=
  own_tchB ho (Tch.of_grown hg) (fun b hb hx => by
    obtain ⟨o, ho1, ho2⟩ := hr b hx
    obtain ⟨o', h1, h2, _⟩ := own_cells ho hb
    rw [h1] at ho1
    cases ho1
    rw [h2] at ho2; cases ho2)

/-- the blocks that a turn of a class's row may turn -/
def rowT (β : Bk) (c : Nat) (b : Nat) : Prop := b = β.rb ∨ (β.rv[c]?).bind (·.ownBlock) = some b
/-- a class's row turned -/
theorem Mem.setRowL {w W : World} {β : Bk} {π : Pi} {L : Nat} (h : Mem w β π L) (hr2 : π.rows.length = π.sz.length) (c : Nat) (hc : c < π.sz.length) (v : Value) (l : List Int) (ht : Tch (rowT β c) w W)
    (h1 : W.ownsRow 0 22 1 (.slice (some ⟨β.rb, 0, none⟩) π.sz.length β.rc) π.sz.length (β.rv.set c v)) (h2 : W.ownsRow 0 3 1 v l.length (l.map (.int .i64)))
    (h3 : ∀ b, v.ownBlock = some b → (β.rv[c]?).bind (·.ownBlock) = some b ∨ w.heap.size ≤ b) : Mem W { β with rv := β.rv.set c v } { π with rows := π.rows.set c l } L ∧ Step w β π W { β with rv := β.rv.set c v } { π with rows := π.rows.set c l } := by
  have hrl := h.rvl
  refine h.updS (fun i => i = .rows ∨ i = .row c) ht ?_ ?_ ?_ rfl rfl
  · rintro b (rfl | hb)
    · exact ⟨.rows, .inl rfl, rfl⟩
    · exact ⟨.row c, .inr rfl, hb⟩
  · intro i hi
    cases i with
    | row c' =>
      have hne : c ≠ c' := fun e => hi (.inr (by rw [e]))
      refine ⟨?_, fun W' hr => ?_⟩
      · simp only [blk]
        rw [List.getElem?_set_ne hne]
      · intro v' l' hv' hl'
        dsimp only at hv' hl'
        rw [List.getElem?_set_ne hne] at hv' hl'
        exact hr v' l' hv' hl'
    | rows => exact absurd (.inl rfl) hi
    | _ => exact ⟨rfl, fun W' hr => hr⟩
  · rintro i (rfl | rfl)
    · refine ⟨h1, fun b hb => ?_⟩
      obtain rfl : β.rb = b := by simpa [blk] using hb
      exact ⟨Nat.lt_of_lt_of_le (h.lt .rows _ rfl) ht.size, .inl rfl⟩
    · refine ⟨?_, fun b hb => ?_⟩
      · intro v' l' hv' hl'
        dsimp only at hv' hl'
        rw [List.getElem?_set_self (by omega)] at hv' hl'
        cases hv'; cases hl'
        exact h2
      · have hb' : v.ownBlock = some b := by
          simp only [blk] at hb
          rw [List.getElem?_set_self (by omega)] at hb
          exact hb
        refine ⟨(own_cells h2 hb').choose_spec.2.2.2, ?_⟩
        rcases h3 b hb' with h5 | h5
        · exact .inl h5
        · refine .inr ⟨h5, ?_⟩
          rintro j (rfl | rfl) hj
          · have : β.rb = b := by simpa [blk] using hj
            have := h.lt .rows _ rfl
            omega
          · rfl

theorem Mem.setRow {w W : World} {β : Bk} {π : Pi} {L : Nat} (h : Mem w β π L) (hw : Wf π L) (c : Nat) (hc : c < π.sz.length) (v : Value) (l : List Int) (ht : Tch (rowT β c) w W)
    (h1 : W.ownsRow 0 22 1 (.slice (some ⟨β.rb, 0, none⟩) π.sz.length β.rc) π.sz.length (β.rv.set c v)) (h2 : W.ownsRow 0 3 1 v l.length (l.map (.int .i64)))
    (h3 : ∀ b, v.ownBlock = some b → (β.rv[c]?).bind (·.ownBlock) = some b ∨ w.heap.size ≤ b) : Mem W { β with rv := β.rv.set c v } { π with rows := π.rows.set c l } L ∧ Step w β π W { β with rv := β.rv.set c v } { π with rows := π.rows.set c l } := h.setRowL hw.rl c hc v l ht h1 h2 h3
theorem psh_len (p : Nat) (l : List (Nat × Bool)) : (psh p l).length ≤ l.length := by unfold psh; simp; exact List.length_filter_le _ _
theorem intE_info : (Try.prog.info? 3).map (fun i => (i.zero, i.size, i.bytes)) = some (some (.int .i64 0), 1, 8) := by kernel_rfl

set_option maxRecDepth 100000 in
set_option maxHeartbeats 4000000 in
theorem lay_any {w : World} {β : Bk} {π : Pi} {L : Nat} (h : Mem w β π L) (hw : Wf π L) (p c : Nat) (x : Pg) (hx : π.page p = some x) (hown : AP.owner π.ow p = c) (hc : c < π.sz.length) (hp : p < 1024) (hpos : 0 < x.used.length) (hus : x.used.length ≤ 4096) :
    Calls Try.prog 36 #[.pointer (some ⟨β.sb, 0, none⟩), .int .i64 p] w fun e w' => (∃ v, e = .returned v) ∧ ∃ v', Mem w' { β with rv := β.rv.set c v' } (rowsAdd π c (layL p x.used)) L ∧ Step w β π w' { β with rv := β.rv.set c v' } (rowsAdd π c (layL p x.used)) := by
  have HM := Lib.hid h
  have hlt : ∀ i b, blk β π i = some b → b < w.heap.size := h.lt
  have hsl := hlt .sl _ rfl
  have Hown := Lib.hid (fun m => (owner_any ((h.drewN m).ar hw) p))
  refine (callsIn_wide (n := 10)).1 (callsIn_of_wp_marks Try.func36 rfl trivial ?_ rfl)
  simp only [Try.ntmps36, List.size_toArray, List.length_cons, List.length_nil, Nat.reduceAdd, Nat.reduceSub, Array.replicate_succ, Array.replicate_zero, List.push_toArray, List.append_toArray, List.nil_append, List.cons_append]
  refine wpIn_wide.2 ?_
  have b2 := Boxed.new w 24 (.pointer (some ⟨β.sb, 0, none⟩))
  have b3 := Boxed.new (w.alloc (.cells #[.pointer (some ⟨β.sb, 0, none⟩)] 24)) 3 (.int .i64 p)
  rw [World.size_alloc] at b3
  have hB0 : Below w.heap.size w ((w.alloc (.cells #[.pointer (some ⟨β.sb, 0, none⟩)] 24)).alloc (.cells #[.int .i64 p] 3)) := ((Below.refl _ w).alloc (Nat.le_refl _) _).alloc (by simp) _
  have HM1 := Lib.hid (h.below hB0)
  have c2 := (b2.alloc (.cells #[.int .i64 p] 3)).cell
  have c3 := b3.cell
  have c0 := HM1.out.s0
  go_wp2_with (fail)
  generalize hW2 : (w.alloc (.cells #[.pointer (some ⟨β.sb, 0, none⟩)] 24)).alloc (.cells #[.int .i64 p] 3) = W2 at *
  have hsz2 : W2.heap.size = w.heap.size + 2 := by rw [← hW2]; simp
  have HownB : Hid (∀ w', Below W2.heap.size W2 w' → Calls Try.prog 31 #[.pointer (some ⟨β.g, 0, none⟩), .int .i64 p] w' fun e w'' => e = .returned (.int .i64 c) ∧ w' = w'') :=
    Lib.hid (fun w' hb => by have := owner_any ((HM1.out.below hb).ar hw) p; rw [hown] at this; exact this)
  have HK : Hid (∀ w', Below W2.heap.size W2 w' → w'.cell? ⟨w.heap.size, 0, none⟩ = some (.pointer (some ⟨β.sb, 0, none⟩)) ∧ w'.cell? ⟨w.heap.size + 1, 0, none⟩ = some (.int .i64 p) ∧ w'.cell? ⟨β.sb, 0, none⟩ = some (.pointer (some ⟨β.g, 0, none⟩))) :=
    Lib.hid (fun w' hb => ⟨(hb.cell (p := ⟨w.heap.size, 0, none⟩) (by simp; omega)).trans c2, (hb.cell (p := ⟨w.heap.size + 1, 0, none⟩) (by simp; omega)).trans c3, (HM1.out.below hb).s0⟩)
  go_cut [4] from 4 to 12 (fun s4 wx => s4 = .pointer (some ⟨w.heap.size + 2, 0, none⟩) ∧ Hid (Boxed wx (w.heap.size + 2) 3 (.int .i64 c)) ∧ Hid (Below W2.heap.size W2 wx) ∧ wx.heap.size = w.heap.size + 3)
  case first =>
    go_region_held3 (fun w' => w'.cell? ⟨w.heap.size, 0, none⟩ = some (.pointer (some ⟨β.sb, 0, none⟩)) ∧ w'.cell? ⟨w.heap.size + 1, 0, none⟩ = some (.int .i64 p) ∧ w'.cell? ⟨β.sb, 0, none⟩ = some (.pointer (some ⟨β.g, 0, none⟩))) (first | exact ⟨c2, c3, c0⟩ | exact HK.out _ ((Below.refl _ _).drew.alloc (Nat.le_refl _) _) | exact HK.out _ (((Below.refl _ _).drew.alloc (Nat.le_refl _) _).setCell (Nat.le_refl _) _)) (first
      | (go_at_call 31; refine (HownB.out _ (by first | exact (Below.refl _ _).drew | exact ((Below.refl _ _).drew).alloc (Nat.le_refl _) _)).mono ?_; rintro e w' ⟨rfl, rfl⟩))
    all_goals
      go_wp2_with (fail)
      go_meet
      case rel => exact ⟨rfl, Lib.hid (by have := Boxed.new W2 3 (.int .i64 c); rw [hsz2] at this; exact this), Lib.hid (((Below.refl _ _).alloc (Nat.le_refl _) _).drew), by simp [hsz2]⟩
  case rest =>
    obtain ⟨rfl, B4, hBc, hszc⟩ := hcut
    have HMc := Lib.hid (HM1.out.below hBc.out)
    have B2 : Hid (Boxed wc w.heap.size 24 (.pointer (some ⟨β.sb, 0, none⟩))) := Lib.hid ((hBc.out.block _ (by omega)).trans (by rw [← hW2]; exact b2.alloc _))
    have B3 : Hid (Boxed wc (w.heap.size + 1) 3 (.int .i64 p)) := Lib.hid ((hBc.out.block _ (by omega)).trans b3)
    have k2 := B2.out.cell
    have k3 := B3.out.cell
    have s3 := HMc.out.s3
    have hpi : -9223372036854775808 ≤ (p : Int) ∧ (p : Int) ≤ 9223372036854775807 := by omega
    have hlook := HMc.out.drew.look p hpi
    have hfm : fm β π p = some (β.pb p) := by unfold fm; rw [if_pos (by omega), Int.toNat_natCast, hx]; rfl
    rw [hfm] at hlook
    simp only [pval, Option.map_some] at hlook
    obtain ⟨ub, ucap, hpv, hur, huc, huf⟩ := HMc.out.used hx hpos
    have kp := (HMc.out.page hx).1
    rw [hpv] at kp
    have HK2 : Hid (∀ w', Below wc.heap.size wc w' → w'.cell? ⟨w.heap.size, 0, none⟩ = some (.pointer (some ⟨β.sb, 0, none⟩)) ∧ w'.cell? ⟨w.heap.size + 1, 0, none⟩ = some (.int .i64 p) ∧ w'.cell? ⟨β.sb, 3, none⟩ = some (.map (some β.mb)) ∧ w'.cell? ⟨β.pb p, 0, none⟩ = some (.slice (some ⟨ub, 0, none⟩) x.used.length ucap)) :=
      Lib.hid (fun w' hb => ⟨(hb.cell (p := ⟨w.heap.size, 0, none⟩) (by simp; omega)).trans k2, (hb.cell (p := ⟨w.heap.size + 1, 0, none⟩) (by simp; omega)).trans k3, (HMc.out.below hb).s3, by rw [← hpv]; exact ((HMc.out.below hb).page hx).1⟩)
    have Hu := Lib.hid (And.intro hpv (And.intro hur (And.intro huc huf)))
    clear c2 c3 c0 b2 b3 hfm hpv hur huc huf
    go_wp2_with (fail)
    go_region_held3 (fun w' => w'.cell? ⟨w.heap.size, 0, none⟩ = some (.pointer (some ⟨β.sb, 0, none⟩)) ∧ w'.cell? ⟨w.heap.size + 1, 0, none⟩ = some (.int .i64 p) ∧ w'.cell? ⟨β.sb, 3, none⟩ = some (.map (some β.mb)) ∧ w'.cell? ⟨β.pb p, 0, none⟩ = some (.slice (some ⟨ub, 0, none⟩) x.used.length ucap)) (first | exact ⟨k2, k3, s3, kp⟩ | exact HK2.out _ ((Below.refl _ _).drew.alloc (Nat.le_refl _) _)) (first
      | (go_at_call 57; refine (((callsIn_wide (n := 1)).1 (back_in Fence.wide 1 trivial rfl (some ⟨ub, 0, none⟩) x.used.length ucap _))).mono ?_; rintro e w' ⟨rfl, rfl⟩))
    obtain ⟨W3, hW3⟩ : ∃ W3, (wc.alloc (.cells #[.slice (some ⟨ub, 0, none⟩) x.used.length ucap] 35)).drew = W3 := ⟨_, rfl⟩
    rw [hW3]
    go_wp2_with (fail)
    obtain ⟨hpv, hur, huc, huf⟩ := Hu.out
    have hsz3 : W3.heap.size = w.heap.size + 4 := by rw [← hW3]; simp [hszc]
    have hB3 : Below wc.heap.size wc W3 := by rw [← hW3]; exact ((Below.refl _ wc).alloc (Nat.le_refl _) _).drew
    have M3 := HMc.out.below hB3
    have X2 : Boxed W3 w.heap.size 24 (.pointer (some ⟨β.sb, 0, none⟩)) := (hB3.block _ (by omega)).trans B2.out
    have X3 : Boxed W3 (w.heap.size + 1) 3 (.int .i64 p) := (hB3.block _ (by omega)).trans B3.out
    have X4 : Boxed W3 (w.heap.size + 2) 3 (.int .i64 c) := (hB3.block _ (by omega)).trans B4.out
    have X5 : Boxed W3 (w.heap.size + 3) 35 (.slice (some ⟨ub, 0, none⟩) x.used.length ucap) := by
      rw [← hW3, ← hszc]; exact Boxed.new wc _ _
    have hubl : ub < w.heap.size := hlt (.use p) ub (by simp [blk, hx, hpv, Value.ownBlock])
    have hsbl : β.sb < w.heap.size := hlt .sl _ rfl
    have hrbl : β.rb < w.heap.size := hlt .rows _ rfl
    obtain ⟨ra, rcap, l0, hl0, hrv0, hrc0, hro0⟩ := M3.row hw c hc
    have hrl := M3.rvl
    have hdif : ∀ i j b, blk β π i = some b → blk β π j = some b → i = j := h.inj
    have hub1 : ub ≠ β.rb := fun e => by have := hdif (.use p) .rows ub (by simp [blk, hx, hpv, Value.ownBlock]) (by rw [e]; rfl); cases this
    have hub2 : ∀ b, (β.rv[c]?).bind (·.ownBlock) = some b → b < w.heap.size ∧ b ≠ ub ∧ b ≠ β.rb ∧ b ≠ β.sb := fun b hb => ⟨hlt (.row c) b hb,
      fun e => (by have := hdif (.use p) (.row c) b (by rw [e]; simp [blk, hx, hpv, Value.ownBlock]) hb; cases this),
      fun e => (by have := hdif .rows (.row c) b (by rw [e]; rfl) hb; cases this),
      fun e => (by have := hdif .sl (.row c) b (by rw [e]; rfl) hb; cases this)⟩
    have hsr : β.sb ≠ β.rb := fun e => by have := hdif .sl .rows β.sb rfl (by rw [e]; rfl); cases this
    have hrows : W3.ownsRow 0 22 1 (.slice (some ⟨β.rb, 0, none⟩) π.sz.length β.rc) π.sz.length β.rv := M3.lie .rows
    have hset0 : β.rv.set c (.slice ra l0.length rcap) = β.rv := by
      apply List.ext_getElem?
      intro i
      by_cases hi : i = c
      · subst hi; rw [List.getElem?_set_self (by omega), hrv0]
      · rw [List.getElem?_set_ne (by omega)]
    have hv0b : ∀ b, (Value.slice ra l0.length rcap).ownBlock = some b → (β.rv[c]?).bind (·.ownBlock) = some b := fun b hb => by rw [hrv0]; exact hb
    refine (wpIn_wide (n := 10)).1 ?_
    refine wpIn_rangeFunc_ownG (F := Fence.wide) (n := 10) (w0 := W3) (w := W3) rfl (by omega) (gf := 70) (lb := #[.pointer (some ⟨w.heap.size + 3, 0, none⟩)]) rfl trivial (enters_of Try.func70 (by kernel_rfl) rfl)
      (back_stops Fence.wide 9 trivial rfl (by omega) (w.heap.size + 3) ub ucap x.used (by omega) W3 (by omega) (by omega) X5.cell (fun j hj => (hB3.cell (p := ⟨ub, j, none⟩) (by show ub < _; omega)).trans (huc j hj)))
      (fun h1 h2 i hi => (h2 i hi).trans (h1 i hi)) ?hkb (Below.refl _ _) (fun _ => rfl)
      (fun pre W => ∃ v, W.ownsRow 0 22 1 (.slice (some ⟨β.rb, 0, none⟩) π.sz.length β.rc) π.sz.length (β.rv.set c v) ∧ W.ownsRow 0 3 1 v (l0 ++ psh p pre).length ((l0 ++ psh p pre).map (.int .i64)) ∧ (∀ b, v.ownBlock = some b → (β.rv[c]?).bind (·.ownBlock) = some b ∨ w.heap.size + 4 ≤ b) ∧ Tch (fun b => b = β.rb ∨ (β.rv[c]?).bind (·.ownBlock) = some b) W3 W)
      (fun _ _ _ => False) ?hI (fun _ _ _ _ _ hs _ _ => hs) ⟨.slice ra l0.length rcap, by rw [hset0]; exact hrows, by simp only [psh, List.filter_nil, List.map_nil, List.append_nil]; exact hro0, fun b hb => .inl (hv0b b hb), Tch.refl _ _⟩
      (fun y => { tmps := #[.pointer (some ⟨β.sb, 0, none⟩), .int .i64 p, .pointer (some ⟨w.heap.size, 0, none⟩), .pointer (some ⟨w.heap.size + 1, 0, none⟩), .pointer (some ⟨w.heap.size + 2, 0, none⟩), .int .i64 (y.1 : Int), .bool y.2, u7, u8, u9, u10, u11, u12,
          .pointer (some ⟨β.sb, 0, none⟩), .pointer (some ⟨β.sb, 0, none⟩), .pointer (some ⟨β.sb, 3, none⟩), .map (some β.mb), .int .i64 p, .pointer (some ⟨β.pb p, 0, none⟩), .pointer (some ⟨β.pb p, 0, none⟩), .pointer (some ⟨β.pb p, 0, none⟩), .slice (some ⟨ub, 0, none⟩) x.used.length ucap,
          .func (.func 70) #[] #[.pointer (some ⟨w.heap.size + 3, 0, none⟩)], .int .i64 (y.1 : Int), .bool y.2, undef, undef, undef, undef, undef, undef, undef, undef, undef, undef, undef, undef, undef, undef, undef, undef, undef, undef, undef, undef, undef], defers := [] })
      ?assign ?body ?done ?stop
    case hkb =>
      intro W l o o' hl _ _ _ i hi
      refine World.putObj_heap_other ?_
      rcases hi with rfl | rfl <;> omega
    case hI =>
      rintro pre A B row ⟨v, h1, h2, h3, h4⟩ hg hr
      exact ⟨v, own_grown h1 hg (fun r e => (hr r e).2), own_grown h2 hg (fun r e => (hr r e).2), h3, h4.trans (Tch.of_grown hg) (fun i hi => .inr (hr i hi).1)⟩
    case assign =>
      intro l y W K hK
      gi_wp2
      exact hK
    case stop =>
      rintro D c pre W _ _ h _
      exact h.elim
    case done =>
      rintro D ys W hD rfl ⟨v, h1, h2, h3, h4⟩ hK
      gi_wp2
      refine ⟨by simp, .inl ⟨_, _, rfl, run_takeDeferred hK, ?_⟩⟩
      have hTW : Tch (rowT β c) w (W.putObj D (.deferred none)) := by
        refine ((((Tch.of_below _ hB0).trans (Tch.of_below (rowT β c) hBc.out) (fun _ h => .inl h)).trans (Tch.of_below (rowT β c) hB3) (fun _ h => .inl h)).trans h4 (fun _ h => .inl h)).trans (Tch.of_grown (grownBy_putObj' W D (.deferred none))) (fun i hi => .inr ?_)
        have : D = i := by simpa using hi
        omega
      refine ⟨_, results_none rfl _ _ _, ⟨_, rfl⟩, v, ?_⟩
      have hfin := h.setRow hw c hc v (l0 ++ layL p x.used) hTW (ownsRow_putObj h1 _ hK rfl) (ownsRow_putObj h2 _ hK rfl) (fun b hb => (h3 b hb).imp_right (fun h5 => by omega))
      have : rowsAdd π c (layL p x.used) = { π with rows := π.rows.set c (l0 ++ layL p x.used) } := by unfold rowsAdd; rw [hl0]; rfl
      rw [this]
      exact hfin
    case body =>
      rintro l pre ⟨yi, yu⟩ W ⟨v, h1, h2, h3, h4⟩ hlt
      cases yu with
      | true =>
        gi_wp2
        refine ⟨KeepsFrom.refl _ _, fun _ _ => rfl, v, h1, ?_, h3, h4⟩
        rw [psh_snoc]
        simpa using h2
      | false =>
        gi_wp2
        have hWs : w.heap.size + 4 ≤ W.heap.size := by have := h4.size; omega
        have hfar : ∀ b, b < W3.heap.size → b ≠ β.rb → (∀ d, (β.rv[c]?).bind (·.ownBlock) = some d → b ≠ d) → ∀ i, W.cell? ⟨b, i, none⟩ = W3.cell? ⟨b, i, none⟩ := fun b hb h5 h6 i => World.cell?_of_block (h4.block b hb (fun hx => by
          rcases hx with hx | hx
          · exact h5 hx
          · exact h6 b hx rfl))
        have k1 : W.cell? ⟨w.heap.size, 0, none⟩ = some (.pointer (some ⟨β.sb, 0, none⟩)) := (hfar _ (by omega) (by omega) (fun b hb => by have := (hub2 b hb).1; omega) 0).trans X2.cell
        have k2 : W.cell? ⟨w.heap.size + 1, 0, none⟩ = some (.int .i64 p) := (hfar _ (by omega) (by omega) (fun b hb => by have := (hub2 b hb).1; omega) 0).trans X3.cell
        have k3 : W.cell? ⟨w.heap.size + 2, 0, none⟩ = some (.int .i64 c) := (hfar _ (by omega) (by omega) (fun b hb => by have := (hub2 b hb).1; omega) 0).trans X4.cell
        have k4 : W.cell? ⟨β.sb, 2, none⟩ = some (.slice (some ⟨β.rb, 0, none⟩) π.sz.length β.rc) := (hfar _ (by omega) hsr (fun b hb => fun e => (hub2 b hb).2.2.2 e.symm) 2).trans M3.s2
        have k5 : W.cell? ⟨β.rb, c, none⟩ = some v := by
          have := World.ownsRow.cellAt h1 c (by omega)
          rw [this, List.getElem?_set_self (by omega)]
        have k6 : W.frozen? ⟨β.rb, c, none⟩ = false := h1.frozenAt c
        have hm1 : IntKind.i64.wrap ((p : Int) * 4096) = (p : Int) * 4096 := IntWalk.i64_in _ ⟨by omega, by omega⟩
        have hci : (c : Int) < (π.sz.length : Int) := by omega
        have HS : Hid (∀ w', Tch (fun b => b = β.rb ∨ v.ownBlock = some b) W w' → (w'.cell? ⟨w.heap.size, 0, none⟩ = some (.pointer (some ⟨β.sb, 0, none⟩)) ∧ w'.cell? ⟨w.heap.size + 1, 0, none⟩ = some (.int .i64 p) ∧ w'.cell? ⟨w.heap.size + 2, 0, none⟩ = some (.int .i64 c) ∧ w'.cell? ⟨β.sb, 2, none⟩ = some (.slice (some ⟨β.rb, 0, none⟩) π.sz.length β.rc))) := Lib.hid (fun w' ht => by
          have hg : ∀ b, b < W.heap.size → b ≠ β.rb → some b ≠ v.ownBlock → ∀ i, w'.cell? ⟨b, i, none⟩ = W.cell? ⟨b, i, none⟩ := fun b hb h5 h6 i => World.cell?_of_block (ht.block b hb (fun hx => by
            rcases hx with hx | hx
            · exact h5 hx
            · exact h6 hx.symm))
          have hg2 : ∀ b, b < w.heap.size + 4 → (∀ d, (β.rv[c]?).bind (·.ownBlock) = some d → b ≠ d) → some b ≠ v.ownBlock := fun b hb h5 e => by
            rcases h3 b e.symm with h6 | h6
            · exact h5 b h6 rfl
            · omega
          exact ⟨(hg _ (by omega) (by omega) (hg2 _ (by omega) (fun b hb => by have := (hub2 b hb).1; omega)) 0).trans k1, (hg _ (by omega) (by omega) (hg2 _ (by omega) (fun b hb => by have := (hub2 b hb).1; omega)) 0).trans k2,
            (hg _ (by omega) (by omega) (hg2 _ (by omega) (fun b hb => by have := (hub2 b hb).1; omega)) 0).trans k3, (hg _ (by omega) hsr (hg2 _ (by omega) (fun b hb => fun e => (hub2 b hb).2.2.2 e.symm)) 2).trans k4⟩)
        have hvrb : some β.rb ≠ v.ownBlock := fun e => by
          rcases h3 _ e.symm with h5 | h5
          · exact (hub2 _ h5).2.2.1 rfl
          · omega
        have HF : Hid (∀ w', Tch (fun b => b = β.rb ∨ v.ownBlock = some b) W w' → KeepsFrom W3.heap.size W w' ∧ Kp2 ub (w.heap.size + 3) W w') := Lib.hid (fun w' ht => ⟨⟨ht.size, fun k o hk ho hoc => (ht.block k (Array.getElem?_eq_some_iff.1 ho).1 (fun hx => by
          rcases hx with hx | hx
          · omega
          · obtain ⟨o', h5, h6, _⟩ := own_cells h2 hx
            rw [ho] at h5; cases h5; rw [h6] at hoc; cases hoc)).trans ho⟩, fun i hi => ht.block i (by rcases hi with rfl | rfl <;> omega) (fun hx => by
          rcases hx with hx | hx
          · rcases hi with rfl | rfl
            · exact hub1 hx
            · omega
          · rcases h3 i hx with h5 | h5
            · rcases hi with rfl | rfl
              · exact (hub2 _ h5).2.1 rfl
              · have := (hub2 _ h5).1; omega
            · rcases hi with rfl | rfl <;> omega)⟩)
        refine wpIn_region_held_round (fun w' => w'.cell? ⟨w.heap.size, 0, none⟩ = some (.pointer (some ⟨β.sb, 0, none⟩)) ∧ w'.cell? ⟨w.heap.size + 1, 0, none⟩ = some (.int .i64 p) ∧ w'.cell? ⟨w.heap.size + 2, 0, none⟩ = some (.int .i64 c) ∧ w'.cell? ⟨β.sb, 2, none⟩ = some (.slice (some ⟨β.rb, 0, none⟩) π.sz.length β.rc)) (by kernel_rfl) (noDefer (by kernel_rfl)) ?_
        have hS := HS.out W.drew ((Tch.refl _ W).drewN 1)
        clear k1 k2 k3 k4
        refine wpAnyH_take (i := 0) (oi := _) (v := ?_) rfl (by kernel_rfl) (by kernel_rfl) (by kernel_rfl) (fun _ _ _ h => h) (Or.inl ⟨by rfl, ?_⟩) (by assumption) ?_
        rotate_left
        · intro w0 hS0; (try simp only [List.getElem_toArray, List.getElem_cons_succ, List.getElem_cons_zero]); go_simp; (try with_reducible rfl)
        simp only [Act.put, List.getElem_toArray, List.getElem_cons_succ, List.getElem_cons_zero, List.setIfInBounds_toArray, List.set_cons_zero, List.set_cons_succ]
        refine wpAnyH_take (i := 1) (oi := _) (v := ?_) rfl (by kernel_rfl) (by kernel_rfl) (by kernel_rfl) (fun _ _ _ h => h) (Or.inl ⟨by rfl, ?_⟩) (by assumption) ?_
        rotate_left
        · intro w0 hS0; (try simp only [List.getElem_toArray, List.getElem_cons_succ, List.getElem_cons_zero]); go_simp; (try with_reducible rfl)
        simp only [Act.put, List.getElem_toArray, List.getElem_cons_succ, List.getElem_cons_zero, List.setIfInBounds_toArray, List.set_cons_zero, List.set_cons_succ]
        refine wpAnyH_take (i := 2) (oi := _) (v := ?_) rfl (by kernel_rfl) (by kernel_rfl) (by kernel_rfl) (fun _ _ _ h => h) (Or.inl ⟨by rfl, ?_⟩) (by assumption) ?_
        rotate_left
        · intro w0 hS0; (try simp only [List.getElem_toArray, List.getElem_cons_succ, List.getElem_cons_zero]); go_simp; (try with_reducible rfl)
        simp only [Act.put, List.getElem_toArray, List.getElem_cons_succ, List.getElem_cons_zero, List.setIfInBounds_toArray, List.set_cons_zero, List.set_cons_succ]
        refine wpAnyH_take (i := 3) (oi := _) (v := ?_) rfl (by kernel_rfl) (by kernel_rfl) (by kernel_rfl) (fun _ _ _ h => h) (Or.inl ⟨by rfl, ?_⟩) (by assumption) ?_
        rotate_left
        · intro w0 hS0; (try simp only [List.getElem_toArray, List.getElem_cons_succ, List.getElem_cons_zero]); go_simp; (try with_reducible rfl)
        simp only [Act.put, List.getElem_toArray, List.getElem_cons_succ, List.getElem_cons_zero, List.setIfInBounds_toArray, List.set_cons_zero, List.set_cons_succ]
        refine wpAnyH_take (i := 4) (oi := _) (v := ?_) rfl (by kernel_rfl) (by kernel_rfl) (by kernel_rfl) (fun _ _ _ h => h) (Or.inl ⟨by rfl, ?_⟩) (by assumption) ?_
        rotate_left
        · intro w0 hS0; (try simp only [List.getElem_toArray, List.getElem_cons_succ, List.getElem_cons_zero]); go_simp; (try with_reducible rfl)
        simp only [Act.put, List.getElem_toArray, List.getElem_cons_succ, List.getElem_cons_zero, List.setIfInBounds_toArray, List.set_cons_zero, List.set_cons_succ]
        refine wpAnyH_take (i := 5) (oi := _) (v := ?_) rfl (by kernel_rfl) (by kernel_rfl) (by kernel_rfl) (fun _ _ _ h => h) (Or.inl ⟨by rfl, ?_⟩) (by assumption) ?_
        rotate_left
        · intro w0 hS0; (try simp only [List.getElem_toArray, List.getElem_cons_succ, List.getElem_cons_zero]); go_simp; (try with_reducible rfl)
        simp only [Act.put, List.getElem_toArray, List.getElem_cons_succ, List.getElem_cons_zero, List.setIfInBounds_toArray, List.set_cons_zero, List.set_cons_succ]
        refine wpAnyH_take (i := 6) (oi := _) (v := ?_) rfl (by kernel_rfl) (by kernel_rfl) (by kernel_rfl) (fun _ _ _ h => h) (Or.inl ⟨by rfl, ?_⟩) (by assumption) ?_
        rotate_left
        · intro w0 hS0; (try simp only [List.getElem_toArray, List.getElem_cons_succ, List.getElem_cons_zero]); go_simp; (try with_reducible rfl)
        simp only [Act.put, List.getElem_toArray, List.getElem_cons_succ, List.getElem_cons_zero, List.setIfInBounds_toArray, List.set_cons_zero, List.set_cons_succ]
        refine wpAnyH_take (i := 7) (oi := _) (v := ?_) rfl (by kernel_rfl) (by kernel_rfl) (by kernel_rfl) (fun _ _ _ h => h) (Or.inl ⟨by rfl, ?_⟩) (by assumption) ?_
        rotate_left
        · intro w0 hS0; (try simp only [List.getElem_toArray, List.getElem_cons_succ, List.getElem_cons_zero]); go_simp; (try with_reducible rfl)
        simp only [Act.put, List.getElem_toArray, List.getElem_cons_succ, List.getElem_cons_zero, List.setIfInBounds_toArray, List.set_cons_zero, List.set_cons_succ]
        refine wpAnyH_take (i := 8) (oi := _) (v := ?_) rfl (by kernel_rfl) (by kernel_rfl) (by kernel_rfl) (fun _ _ _ h => h) (Or.inl ⟨by rfl, ?_⟩) (by assumption) ?_
        rotate_left
        · intro w0 hS0; (try simp only [List.getElem_toArray, List.getElem_cons_succ, List.getElem_cons_zero]); go_simp; (try with_reducible rfl)
        simp only [Act.put, List.getElem_toArray, List.getElem_cons_succ, List.getElem_cons_zero, List.setIfInBounds_toArray, List.set_cons_zero, List.set_cons_succ]
        refine wpAnyH_take (i := 9) (oi := _) (v := ?_) rfl (by kernel_rfl) (by kernel_rfl) (by kernel_rfl) (fun _ _ _ h => h) (Or.inl ⟨by rfl, ?_⟩) (by assumption) ?_
        rotate_left
        · intro w0 hS0; (try simp only [List.getElem_toArray, List.getElem_cons_succ, List.getElem_cons_zero]); go_simp; (try with_reducible rfl)
        simp only [Act.put, List.getElem_toArray, List.getElem_cons_succ, List.getElem_cons_zero, List.setIfInBounds_toArray, List.set_cons_zero, List.set_cons_succ]
        refine wpAnyH_take (i := 10) (oi := _) (v := ?_) rfl (by kernel_rfl) (by kernel_rfl) (by kernel_rfl) (fun _ _ _ h => h) (Or.inl ⟨by rfl, ?_⟩) (by assumption) ?_
        rotate_left
        · intro w0 hS0; (try simp only [List.getElem_toArray, List.getElem_cons_succ, List.getElem_cons_zero]); go_simp; (try with_reducible rfl)
        simp only [Act.put, List.getElem_toArray, List.getElem_cons_succ, List.getElem_cons_zero, List.setIfInBounds_toArray, List.set_cons_zero, List.set_cons_succ]
        refine wpAnyH_take (i := 12) (oi := _) (v := ?_) rfl (by kernel_rfl) (by kernel_rfl) (by kernel_rfl) (fun _ _ _ h => h) (Or.inl ⟨by rfl, ?_⟩) (by assumption) ?_
        rotate_left
        · intro w0 hS0; (try simp only [List.getElem_toArray, List.getElem_cons_succ, List.getElem_cons_zero]); go_simp; (try with_reducible rfl)
        simp only [Act.put, List.getElem_toArray, List.getElem_cons_succ, List.getElem_cons_zero, List.setIfInBounds_toArray, List.set_cons_zero, List.set_cons_succ]
        refine wpAnyH_take (i := 13) (oi := _) (v := ?_) rfl (by kernel_rfl) (by kernel_rfl) (by kernel_rfl) (fun _ _ _ h => h) (Or.inl ⟨by rfl, ?_⟩) (by assumption) ?_
        rotate_left
        · intro w0 hS0; (try simp only [List.getElem_toArray, List.getElem_cons_succ, List.getElem_cons_zero]); go_simp; (try with_reducible rfl)
        simp only [Act.put, List.getElem_toArray, List.getElem_cons_succ, List.getElem_cons_zero, List.setIfInBounds_toArray, List.set_cons_zero, List.set_cons_succ]
        refine wpAnyH_take (i := 14) (oi := _) (v := ?_) rfl (by kernel_rfl) (by kernel_rfl) (by kernel_rfl) (fun _ _ _ h => h) (Or.inl ⟨by rfl, ?_⟩) (by assumption) ?_
        rotate_left
        · intro w0 hS0; (try simp only [List.getElem_toArray, List.getElem_cons_succ, List.getElem_cons_zero]); go_simp; (try with_reducible rfl)
        simp only [Act.put, List.getElem_toArray, List.getElem_cons_succ, List.getElem_cons_zero, List.setIfInBounds_toArray, List.set_cons_zero, List.set_cons_succ]
        refine wpAnyH_take (i := 15) (oi := _) (v := ?_) rfl (by kernel_rfl) (by kernel_rfl) (by kernel_rfl) (fun _ _ _ h => h) (Or.inl ⟨by rfl, ?_⟩) (by assumption) ?_
        rotate_left
        · intro w0 hS0; (try simp only [List.getElem_toArray, List.getElem_cons_succ, List.getElem_cons_zero]); go_simp; (try with_reducible rfl)
        simp only [Act.put, List.getElem_toArray, List.getElem_cons_succ, List.getElem_cons_zero, List.setIfInBounds_toArray, List.set_cons_zero, List.set_cons_succ]
        obtain ⟨X1, hX1⟩ : ∃ X1, (W.alloc (.cells #[.int .i64 (IntKind.i64.wrap ((p : Int) * 4096 + (yi : Int)))] 3)).drew = X1 := ⟨_, rfl⟩
        have hXs : X1.heap.size = W.heap.size + 1 := by rw [← hX1]; simp
        have hBX : Below W.heap.size W X1 := by rw [← hX1]; exact ((Below.refl _ W).alloc (Nat.le_refl _) _).drew
        have hTX : Tch (fun b => b = β.rb ∨ v.ownBlock = some b) W X1 := Tch.of_below _ hBX
        have hd5 : W.drew.cell? ⟨β.rb, c, none⟩ = some v := k5
        have hX5 : X1.cell? ⟨β.rb, c, none⟩ = some v := (hBX.cell (p := ⟨β.rb, c, none⟩) (by show β.rb < _; omega)).trans k5
        have hro1 : X1.ownsRow 0 3 1 v (l0 ++ psh p pre).length ((l0 ++ psh p pre).map (.int .i64)) := own_tchB h2 (Tch.of_below (fun _ => False) hBX) (fun _ _ x => x)
        have hnews := World.news_of_block (w := X1) (B := W.heap.size) (cs := #[.int .i64 (IntKind.i64.wrap ((p : Int) * 4096 + (yi : Int)))]) (t := 3) (fr := (0, 0)) (by rw [← hX1]; exact World.alloc_heap_new W _)
        have hpl := psh_len p pre
        have hl0L := (hw.ch c l0 hl0).1
        have hLim := hw.lim
        obtain ⟨i0, hi0, hz0, hz1, hz2⟩ := info_parts intE_info
        refine wpAnyH_ready (rs := [11, 16]) (by kernel_rfl) (by simp) ?_
        refine AllReadyH.cons (o := _) rfl (fun K hK => ?_) (AllReadyH.cons (o := _) rfl (fun K hK => ?_) AllReadyH.nil)
        · rw [if_pos (by rfl)]
          (try simp only [List.getElem_toArray, List.getElem_cons_succ, List.getElem_cons_zero])
          go_simp
          refine hK.out _ _ (HS.out _ ((Tch.refl _ W).drewN 1)) (fun hHeld => ?_)
          clear hK K
          (try simp only [Act.put, List.getElem_toArray, List.getElem_cons_succ, List.getElem_cons_zero, List.setIfInBounds_toArray, List.set_cons_zero, List.set_cons_succ])
          refine wpAnyH_ready (rs := [16]) (by kernel_rfl) (by simp) ?_
          refine AllReadyH.cons (o := _) rfl (fun K hK => ?_) AllReadyH.nil
          rw [if_pos (by rfl)]
          (try simp only [List.getElem_toArray, List.getElem_cons_succ, List.getElem_cons_zero])
          go_simp
          refine hK.out _ _ (HS.out _ hTX) (fun hHeld => ?_)
          clear hK K
          (try simp only [Act.put, List.getElem_toArray, List.getElem_cons_succ, List.getElem_cons_zero, List.setIfInBounds_toArray, List.set_cons_zero, List.set_cons_succ])
          refine wpAnyH_ready (rs := [17]) (by kernel_rfl) (by simp) ?_
          refine AllReadyH.cons (o := _) rfl (fun K hK => ?_) AllReadyH.nil
          refine step_append_lies X1 rfl (.tmp 38) (.tmp 43) 22 rfl 0 3 i0 (.int .i64 0) 1 8 Try.underlying22 hi0 hz0 hz1 hz2 rfl (by decide) v _ _ rfl hro1 ⟨W.heap.size, 0, none⟩ 1 1 [.int .i64 (IntKind.i64.wrap ((p : Int) * 4096 + (yi : Int)))] rfl rfl hnews (by simp [Value.oneCell']) (by omega) (by simp only [List.length_append]; unfold maxLen; omega) (by simp only [List.length_append]; omega) (by omega) (W.heap.size + 1) hXs ?_
          intro g' cap' w1 hown1 hgr1 hat1 hlt1
          obtain ⟨N1, hN1⟩ : ∃ N1, (l0 ++ psh p pre).length + 1 = N1 := ⟨_, rfl⟩
          rw [hN1] at hown1 ⊢
          have HN := Lib.hid hN1
          clear hN1
          refine hK.out _ _ (HS.out _ (hTX.trans (Tch.of_grown hgr1) (fun i hi => .inl (.inr hi)))) (fun hHeld => ?_)
          clear hK K
          (try simp only [Act.put, List.getElem_toArray, List.getElem_cons_succ, List.getElem_cons_zero, List.setIfInBounds_toArray, List.set_cons_zero, List.set_cons_succ])
          have hTw : Tch (fun b => b = β.rb ∨ v.ownBlock = some b) W w1 := hTX.trans (Tch.of_grown hgr1) (fun i hi => .inl (.inr hi))
          have hk5 : w1.cell? ⟨β.rb, c, none⟩ = some v := (hgr1.cell_far ⟨β.rb, c, none⟩ (by show β.rb < _; omega) hvrb).trans hX5
          have hrw1 : w1.ownsRow 0 22 1 (.slice (some ⟨β.rb, 0, none⟩) π.sz.length β.rc) π.sz.length (β.rv.set c v) := own_tchB (own_tchB h1 (Tch.of_below (fun _ => False) hBX) (fun _ _ x => x)) (Tch.of_grown hgr1) (fun b hb hx => hvrb (by rw [show b = β.rb by simpa [Value.ownBlock] using hb.symm] at hx; exact hx.symm))
          have hk6 : w1.frozen? ⟨β.rb, c, none⟩ = false := hrw1.frozenAt c
          refine wpAnyH_take (i := 18) (oi := _) (v := ?_) rfl (by kernel_rfl) (by kernel_rfl) (by kernel_rfl) (fun _ _ _ h => h) (Or.inl ⟨by rfl, ?_⟩) (by assumption) ?_
          rotate_left
          · intro w0 hS0; (try simp only [List.getElem_toArray, List.getElem_cons_succ, List.getElem_cons_zero]); go_simp; (try with_reducible rfl)
          (try simp only [Act.put, List.getElem_toArray, List.getElem_cons_succ, List.getElem_cons_zero, List.setIfInBounds_toArray, List.set_cons_zero, List.set_cons_succ])
          refine wpAnyH_ready (rs := [19]) (by kernel_rfl) (by simp) ?_
          refine AllReadyH.cons (o := _) rfl (fun K hK => ?_) AllReadyH.nil
          rw [if_pos (by rfl)]
          (try simp only [List.getElem_toArray, List.getElem_cons_succ, List.getElem_cons_zero])
          go_simp
          have hTs : Tch (fun b => b = β.rb ∨ v.ownBlock = some b) W (w1.setCell ⟨β.rb, c, none⟩ (.slice (some ⟨g', 0, none⟩) N1 cap')) := hTw.trans (Tch.setCell w1 β.rb c _) (fun i hi => .inl (.inl hi))
          refine hK.out _ _ (HS.out _ hTs) (fun hHeld => ?_)
          clear hK K
          (try simp only [Act.put, List.getElem_toArray, List.getElem_cons_succ, List.getElem_cons_zero, List.setIfInBounds_toArray, List.set_cons_zero, List.set_cons_succ])
          refine wpAnyH_done (by kernel_rfl) ?_ _
          have hst := (hrw1.stored c (.slice (some ⟨g', 0, none⟩) N1 cap')).1
          rw [List.set_set] at hst
          have hgrb : g' ≠ β.rb := by
            rcases hat1 with e | e
            · intro e'; exact hvrb (by rw [e, e'])
            · omega
          refine ⟨(HF.out _ hTs).1, (HF.out _ hTs).2, _, hst, ?_, ?_, ?_⟩
          · have := own_tchB hown1 (Tch.setCell w1 β.rb c (.slice (some ⟨g', 0, none⟩) N1 cap')) (fun b hb hx => hgrb ((show g' = b by simpa [Value.ownBlock] using hb).trans hx))
            have hN1 := HN.out
            rw [show (l0 ++ psh p (pre ++ [(yi, false)])).length = N1 by rw [← hN1, psh_snoc]; simp; omega]
            simpa only [psh_snoc, ← List.append_assoc, List.map_append, List.map_cons, List.map_nil, Bool.false_eq_true, if_false] using this
          · intro b hb
            have e : g' = b := by simpa [Value.ownBlock] using hb
            subst e
            rcases hat1 with e | e
            · exact h3 _ e
            · right; omega
          · exact h4.trans hTs (fun i hi => by
              rcases hi with hi | hi
              · exact .inl (.inl hi)
              · rcases h3 i hi with h5 | h5
                · exact .inl (.inr h5)
                · exact .inr (by omega))
        · rw [if_pos (by rfl)]
          (try simp only [List.getElem_toArray, List.getElem_cons_succ, List.getElem_cons_zero])
          go_simp
          refine hK.out _ _ (HS.out _ hTX) (fun hHeld => ?_)
          clear hK K
          (try simp only [Act.put, List.getElem_toArray, List.getElem_cons_succ, List.getElem_cons_zero, List.setIfInBounds_toArray, List.set_cons_zero, List.set_cons_succ])
          refine wpAnyH_ready (rs := [11]) (by kernel_rfl) (by simp) ?_
          refine AllReadyH.cons (o := _) rfl (fun K hK => ?_) AllReadyH.nil
          rw [if_pos (by rfl)]
          (try simp only [List.getElem_toArray, List.getElem_cons_succ, List.getElem_cons_zero])
          go_simp
          refine hK.out _ _ (HS.out _ hTX) (fun hHeld => ?_)
          clear hK K
          (try simp only [Act.put, List.getElem_toArray, List.getElem_cons_succ, List.getElem_cons_zero, List.setIfInBounds_toArray, List.set_cons_zero, List.set_cons_succ])
          refine wpAnyH_ready (rs := [17]) (by kernel_rfl) (by simp) ?_
          refine AllReadyH.cons (o := _) rfl (fun K hK => ?_) AllReadyH.nil
          refine step_append_lies X1 rfl (.tmp 38) (.tmp 43) 22 rfl 0 3 i0 (.int .i64 0) 1 8 Try.underlying22 hi0 hz0 hz1 hz2 rfl (by decide) v _ _ rfl hro1 ⟨W.heap.size, 0, none⟩ 1 1 [.int .i64 (IntKind.i64.wrap ((p : Int) * 4096 + (yi : Int)))] rfl rfl hnews (by simp [Value.oneCell']) (by omega) (by simp only [List.length_append]; unfold maxLen; omega) (by simp only [List.length_append]; omega) (by omega) (W.heap.size + 1) hXs ?_
          intro g' cap' w1 hown1 hgr1 hat1 hlt1
          obtain ⟨N1, hN1⟩ : ∃ N1, (l0 ++ psh p pre).length + 1 = N1 := ⟨_, rfl⟩
          rw [hN1] at hown1 ⊢
          have HN := Lib.hid hN1
          clear hN1
          refine hK.out _ _ (HS.out _ (hTX.trans (Tch.of_grown hgr1) (fun i hi => .inl (.inr hi)))) (fun hHeld => ?_)
          clear hK K
          (try simp only [Act.put, List.getElem_toArray, List.getElem_cons_succ, List.getElem_cons_zero, List.setIfInBounds_toArray, List.set_cons_zero, List.set_cons_succ])
          have hTw : Tch (fun b => b = β.rb ∨ v.ownBlock = some b) W w1 := hTX.trans (Tch.of_grown hgr1) (fun i hi => .inl (.inr hi))
          have hk5 : w1.cell? ⟨β.rb, c, none⟩ = some v := (hgr1.cell_far ⟨β.rb, c, none⟩ (by show β.rb < _; omega) hvrb).trans hX5
          have hrw1 : w1.ownsRow 0 22 1 (.slice (some ⟨β.rb, 0, none⟩) π.sz.length β.rc) π.sz.length (β.rv.set c v) := own_tchB (own_tchB h1 (Tch.of_below (fun _ => False) hBX) (fun _ _ x => x)) (Tch.of_grown hgr1) (fun b hb hx => hvrb (by rw [show b = β.rb by simpa [Value.ownBlock] using hb.symm] at hx; exact hx.symm))
          have hk6 : w1.frozen? ⟨β.rb, c, none⟩ = false := hrw1.frozenAt c
          refine wpAnyH_take (i := 18) (oi := _) (v := ?_) rfl (by kernel_rfl) (by kernel_rfl) (by kernel_rfl) (fun _ _ _ h => h) (Or.inl ⟨by rfl, ?_⟩) (by assumption) ?_
          rotate_left
          · intro w0 hS0; (try simp only [List.getElem_toArray, List.getElem_cons_succ, List.getElem_cons_zero]); go_simp; (try with_reducible rfl)
          (try simp only [Act.put, List.getElem_toArray, List.getElem_cons_succ, List.getElem_cons_zero, List.setIfInBounds_toArray, List.set_cons_zero, List.set_cons_succ])
          refine wpAnyH_ready (rs := [19]) (by kernel_rfl) (by simp) ?_
          refine AllReadyH.cons (o := _) rfl (fun K hK => ?_) AllReadyH.nil
          rw [if_pos (by rfl)]
          (try simp only [List.getElem_toArray, List.getElem_cons_succ, List.getElem_cons_zero])
          go_simp
          have hTs : Tch (fun b => b = β.rb ∨ v.ownBlock = some b) W (w1.setCell ⟨β.rb, c, none⟩ (.slice (some ⟨g', 0, none⟩) N1 cap')) := hTw.trans (Tch.setCell w1 β.rb c _) (fun i hi => .inl (.inl hi))
          refine hK.out _ _ (HS.out _ hTs) (fun hHeld => ?_)
          clear hK K
          (try simp only [Act.put, List.getElem_toArray, List.getElem_cons_succ, List.getElem_cons_zero, List.setIfInBounds_toArray, List.set_cons_zero, List.set_cons_succ])
          refine wpAnyH_done (by kernel_rfl) ?_ _
          have hst := (hrw1.stored c (.slice (some ⟨g', 0, none⟩) N1 cap')).1
          rw [List.set_set] at hst
          have hgrb : g' ≠ β.rb := by
            rcases hat1 with e | e
            · intro e'; exact hvrb (by rw [e, e'])
            · omega
          refine ⟨(HF.out _ hTs).1, (HF.out _ hTs).2, _, hst, ?_, ?_, ?_⟩
          · have := own_tchB hown1 (Tch.setCell w1 β.rb c (.slice (some ⟨g', 0, none⟩) N1 cap')) (fun b hb hx => hgrb ((show g' = b by simpa [Value.ownBlock] using hb).trans hx))
            have hN1 := HN.out
            rw [show (l0 ++ psh p (pre ++ [(yi, false)])).length = N1 by rw [← hN1, psh_snoc]; simp; omega]
            simpa only [psh_snoc, ← List.append_assoc, List.map_append, List.map_cons, List.map_nil, Bool.false_eq_true, if_false] using this
          · intro b hb
            have e : g' = b := by simpa [Value.ownBlock] using hb
            subst e
            rcases hat1 with e | e
            · exact h3 _ e
            · right; omega
          · exact h4.trans hTs (fun i hi => by
              rcases hi with hi | hi
              · exact .inl (.inl hi)
              · rcases h3 i hi with h5 | h5
                · exact .inl (.inr h5)
                · exact .inr (by omega))
end Go.Proofs.Ytfmgncajhjkdlaa
