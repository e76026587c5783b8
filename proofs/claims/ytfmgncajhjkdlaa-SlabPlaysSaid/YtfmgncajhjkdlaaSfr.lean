/- a fresh page; how many chunks a page holds; is there the class. -/
import Derived.Test.YtfmgncajhjkdlaaSla
import Derived.BigQuiet
import Derived.Deep.RegionHeld3
namespace Go.Proofs.Ytfmgncajhjkdlaa
open Go.RowKit Go.PlainAid
open SP
set_option linter.unusedVariables false
set_option linter.unusedSimpArgs false

namespace SP
def setPg (π : Pi) (p : Nat) (x : Pg) : Pi := { π with pg := π.pg.set p (some x) }
def per (π : Pi) (c : Nat) : Nat := π.S / (π.sz[c]?.getD 0).toNat
def frPg (π : Pi) (c : Nat) : Pg := ⟨List.replicate (per π c) false, 0, false⟩
end SP
def freshP (π : Pi) (p c : Nat) : Pi := rowsAdd (setPg π p (frPg π c)) c (layL p (List.replicate (per π c) false))
theorem Wf.mono {π : Pi} {L L' : Nat} (h : Wf π L) (hl : L ≤ L') (hm : L' ≤ 100000000) : Wf π L' :=
  ⟨h.np1, h.rng, h.siz, h.k1, h.sz, h.rl, h.pl, fun p hp => (h.pg p hp).imp_right id, fun c l hcl => ⟨by have := (h.ch c l hcl).1; omega, (h.ch c l hcl).2⟩, hm⟩

set_option maxHeartbeats 400000 in
theorem per_any {w : World} {b k cap : Nat} (c : Nat) (S x r : Int) (hc : c < k) (hk : k ≤ 63) (hS : 512 ≤ S ∧ S ≤ 65536) (hx : 64 ≤ x ∧ x ≤ S) (hcell : w.cell? ⟨b, c, none⟩ = some (.int .i64 x)) (hr : S / x = r) :
    Calls Try.prog 55 #[.slice (some ⟨b, 0, none⟩) k cap, .int .i64 c, .int .i64 S] w fun e w' => e = .returned (.int .i64 r) ∧ w = w' := by
  have Hr := Lib.hid hr
  clear hr
  go_enter Try.func55, Try.ntmps55
  go_wp2
  all_goals go_ret
  all_goals exact ⟨ret_int Hr.out, rfl⟩

set_option maxHeartbeats 400000 in
theorem class_any {w : World} {β : Bk} {π : Pi} {L : Nat} (h : Mem w β π L) (c : Int) :
    Calls Try.prog 28 #[.pointer (some ⟨β.sb, 0, none⟩), .int .i64 c] w fun e w' => e = .returned (.bool (decide (0 ≤ c ∧ c < (π.sz.length : Int)))) ∧ w = w' := by
  have s1 := h.s1
  clear h
  by_cases h0 : c < 0
  · go_enter Try.func28, Try.ntmps28
    go_wp2
    go_ret
    exact ⟨ret_bool (by simp; omega), rfl⟩
  · go_enter Try.func28, Try.ntmps28
    go_wp2
    go_ret
    exact ⟨ret_bool (by simp), rfl⟩

theorem page_setPg {π : Pi} {p : Nat} {x : Pg} (hp : p < π.pg.length) (q : Nat) : (setPg π p x).page q = if q = p then some x else π.page q := by
  unfold setPg Pi.page
  dsimp only
  by_cases h : q = p
  · subst h; rw [List.getElem?_set_self hp, if_pos rfl]; rfl
  · rw [List.getElem?_set_ne (fun e => h e.symm), if_neg h]
theorem boolE_info : (Try.prog.info? 4).map (fun i => (i.zero, i.size, i.bytes)) = some (some (.bool false), 1, 1) := by kernel_rfl

set_option maxRecDepth 100000 in
set_option maxHeartbeats 4000000 in
theorem fresh_any {w : World} {β : Bk} {π : Pi} {L : Nat} (h : Mem w β π L) (p c : Nat) (hw1 : Wf (setPg π p (frPg π c)) (L + 1)) (hown : AP.owner π.ow p = c) (hc : c < π.sz.length) (hp : p < π.ow.length) :
    Calls Try.prog 30 #[.pointer (some ⟨β.sb, 0, none⟩), .int .i64 p, .int .i64 c] w fun e w' => (∃ v, e = .returned v) ∧ ∃ β', Mem w' β' (freshP π p c) (L + 1) ∧ Step w β π w' β' (freshP π p c) := by
  have s0 := h.drew.s0
  have s1 := h.drew.s1
  have s3 := h.drew.s3
  obtain ⟨r, hr⟩ : ∃ r, r = per π c := ⟨_, rfl⟩
  have hS := hw1.siz
  have hk := hw1.k1
  have hsz := h.drew.size c hc
  have hnp := hw1.np1
  have hlim := hw1.lim
  dsimp only [setPg] at hS hk hnp
  have hx : 64 ≤ π.sz[c]?.getD 0 ∧ π.sz[c]?.getD 0 ≤ π.S := hw1.sz _ (by rw [List.getElem?_eq_getElem hc]; exact List.getElem_mem hc)
  have hA : Ar w.drew β.g β.k π.ow.length π.S β.bv π.ow π.bs := ⟨h.drew.lie .ar, h.drew.lie .own, h.drew.lie .byt, rfl, hnp, hw1.rng, by omega⟩
  have HA := Lib.hid hA
  have HM := Lib.hid h
  have hp1 : p < 1024 := by omega
  have hrb : 1 ≤ r ∧ r ≤ 1024 := by
    rw [hr]
    unfold per
    have e := Int.toNat_of_nonneg (show 0 ≤ π.sz[c]?.getD 0 by omega)
    generalize (π.sz[c]?.getD 0).toNat = d at *
    exact ⟨(Nat.le_div_iff_mul_le (by omega)).2 (by omega), Nat.le_trans (Nat.div_le_div_left (c := 64) (by omega) (by omega)) (by omega)⟩
  have Hper : Hid ((π.S : Int) / (π.sz[c]?.getD 0) = (r : Int)) := Lib.hid (by
    have e := Int.toNat_of_nonneg (show 0 ≤ π.sz[c]?.getD 0 by omega)
    rw [hr, ← e]
    unfold per
    rfl)
  have Hr := Lib.hid hr
  clear hr
  obtain ⟨i0, hi0, hz0, hz1, hz2⟩ := info_parts boolE_info
  obtain ⟨W1, hmk, ho1, hg1⟩ := run_make_full (P := Try.prog) w.drew 0 35 4 i0 (.bool false) 1 Try.underlying35 hi0 hz0 hz1 .i64 .i64 r (by rw [hz2]; omega) (by unfold maxLen; omega) (Nat.zero_le _)
  have hsd : w.drew.heap.size = w.heap.size := rfl
  rw [hsd] at hmk ho1
  have hb1 : Below w.heap.size w W1 := (Below.refl _ _).drew.grown hg1 (Nat.le_refl _) (fun _ h => by cases h)
  have hlt1 := (ho1.lt _ rfl).2
  have M1 := h.below hb1
  have M2 := M1.below ((Below.refl _ W1).alloc (Nat.le_refl _) (.cells #[.slice (some ⟨w.heap.size, 0, none⟩) r r, .int .i64 0, .bool false] 70))
  obtain ⟨W6, hmu, hmap, hg6⟩ := MapAt.put (M2.lie .map) (by unfold maxLen; omega) p (by omega) W1.heap.size
  have HM2 := Lib.hid M2
  have HM1 := Lib.hid M1
  have Hmap := Lib.hid hmap
  have Ho1 := Lib.hid ho1
  have hsm : β.sb ≠ β.mb := fun e => by have := h.inj .sl .map β.sb rfl (by rw [e]; rfl); cases this
  have k6 : ∀ i, W6.cell? ⟨β.sb, i, none⟩ = (W1.alloc (.cells #[.slice (some ⟨w.heap.size, 0, none⟩) r r, .int .i64 0, .bool false] 70)).cell? ⟨β.sb, i, none⟩ := fun i => World.cell?_of_block (hg6.block _ (M2.lt .sl _ rfl) (by simpa using hsm))
  clear M1 M2 hmap ho1 h hA
  go_enter Try.func30, Try.ntmps30
  go_wp2_with (fail)
  go_region_held3 (fun w' => w'.cell? ⟨β.sb, 0, none⟩ = some (.pointer (some ⟨β.g, 0, none⟩)) ∧ w'.cell? ⟨β.sb, 1, none⟩ = some (.slice (some ⟨β.zb, 0, none⟩) π.sz.length β.zc) ∧ w'.cell? ⟨β.sb, 3, none⟩ = some (.map (some β.mb))) (first | exact ⟨s0, s1, s3⟩ | exact ⟨HM1.out.s0, HM1.out.s1, HM1.out.s3⟩ | exact ⟨HM2.out.s0, HM2.out.s1, HM2.out.s3⟩ | exact ⟨(k6 0).trans HM2.out.s0, (k6 1).trans HM2.out.s1, (k6 3).trans HM2.out.s3⟩) (first
      | (go_at_call 38; refine (page_any HA.out).mono ?_; rintro e w' ⟨rfl, rfl⟩)
      | (go_at_call 55; refine (per_any c π.S _ r hc hk.2 (by omega) hx hsz Hper.out).mono ?_; rintro e w' ⟨rfl, rfl⟩))
  have hpl : p < π.pg.length := by
    have := hw1.pl
    simp only [setPg, List.length_set] at this
    omega
  have h := HM.out
  have ho1 := Ho1.out
  have hb2 := (Below.refl _ W1).alloc (Nat.le_refl _) (.cells #[.slice (some ⟨w.heap.size, 0, none⟩) r r, .int .i64 0, .bool false] 70)
  have hW2n := World.alloc_heap_new W1 (.cells #[.slice (some ⟨w.heap.size, 0, none⟩) r r, .int .i64 0, .bool false] 70)
  obtain ⟨W2, hW2⟩ : ∃ W2, W1.alloc (.cells #[.slice (some ⟨w.heap.size, 0, none⟩) r r, .int .i64 0, .bool false] 70) = W2 := ⟨_, rfl⟩
  rw [hW2] at hg6 hb2 hW2n
  have hs2 : W2.heap.size = W1.heap.size + 1 := by rw [← hW2]; simp
  have hmbl := h.lt .map _ rfl
  obtain ⟨x0, hx0⟩ : ∃ x0, x0 = frPg π c := ⟨_, rfl⟩
  have hx0u : x0.used = List.replicate r false := by rw [hx0, Hr.out]; rfl
  have hx0n : x0.n = 0 := by rw [hx0]; rfl
  have hx0c : x0.cl = false := by rw [hx0]; rfl
  have HX := Lib.hid hx0
  rw [← hx0] at hw1
  clear hx0
  have hpage := page_setPg (π := π) (p := p) (x := x0) hpl
  have M6 : Mem W6 { β with pb := fun q => if q = p then W1.heap.size else β.pb q, pv := fun q => if q = p then .slice (some ⟨w.heap.size, 0, none⟩) r r else β.pv q } (setPg π p x0) (L + 1) ∧ Step w β π W6 { β with pb := fun q => if q = p then W1.heap.size else β.pb q, pv := fun q => if q = p then .slice (some ⟨w.heap.size, 0, none⟩) r r else β.pv q } (setPg π p x0) := by
    refine h.updS (fun i => i = .map ∨ i = .pg p ∨ i = .use p) (T := fun b => b = β.mb) ?_ ?_ ?_ ?_ rfl rfl
    · exact ((Tch.of_below _ hb1).trans (Tch.of_below (fun b => b = β.mb) hb2) (fun _ h => .inl h)).trans (Tch.of_grown hg6) (fun i hi => .inl (by simpa using hi.symm))
    · rintro b rfl
      exact ⟨.map, .inl rfl, rfl⟩
    · intro i hi
      cases i with
      | pg q =>
        have hq : q ≠ p := fun e => hi (.inr (.inl (by rw [e])))
        refine ⟨by simp only [blk, hpage, if_neg hq], fun W' hr x hxq => ?_⟩
        rw [hpage, if_neg hq] at hxq
        dsimp only
        rw [if_neg hq, if_neg hq]
        exact hr x hxq
      | use q =>
        have hq : q ≠ p := fun e => hi (.inr (.inr (by rw [e])))
        refine ⟨by simp only [blk, hpage, if_neg hq], fun W' hr x hxq => ?_⟩
        rw [hpage, if_neg hq] at hxq
        dsimp only
        rw [if_neg hq]
        exact hr x hxq
      | map => exact absurd (.inl rfl) hi
      | row c' => exact ⟨rfl, fun W' hr => hr⟩
      | _ => exact ⟨rfl, fun W' hr => hr⟩
    · rintro i (rfl | rfl | rfl)
      · refine ⟨?_, fun b hb => ?_⟩
        · have e : (fun q : Int => if q = (p : Int) then some W1.heap.size else fm β π q) = fm { β with pb := fun q => if q = p then W1.heap.size else β.pb q, pv := fun q => if q = p then .slice (some ⟨w.heap.size, 0, none⟩) r r else β.pv q } (setPg π p x0) := by
            funext q
            unfold fm
            by_cases h0 : 0 ≤ q
            · obtain ⟨n, rfl⟩ := Int.eq_ofNat_of_zero_le h0
              rw [if_pos h0, if_pos h0, Int.toNat_natCast, hpage]
              by_cases hn : n = p
              · subst hn; simp
              · rw [if_neg (by omega), if_neg hn]
                dsimp only
                rw [if_neg hn]
            · rw [if_neg h0, if_neg h0, if_neg (by omega)]
          show MapAt W6 β.mb (L + 1) _
          rw [← e]
          exact Hmap.out
        · have e : β.mb = b := by simpa [blk] using hb
          subst e
          exact ⟨by have := hg6.size; have := hb1.size; omega, .inl rfl⟩
      · refine ⟨?_, fun b hb => ?_⟩
        · intro x hxq
          rw [hpage, if_pos rfl] at hxq
          cases hxq
          dsimp only
          rw [if_pos rfl, if_pos rfl, hx0n, hx0c]
          exact (hg6.block _ (by omega) (by simp; have := hb1.size; omega)).trans hW2n
        · have e : W1.heap.size = b := by simpa [blk, hpage] using hb
          subst e
          refine ⟨by have := hg6.size; omega, .inr ⟨hb1.size, ?_⟩⟩
          rintro j (rfl | rfl | rfl) hj
          · have : β.mb = W1.heap.size := by simpa [blk] using hj
            have := hb1.size
            omega
          · rfl
          · have : w.heap.size = W1.heap.size := by simpa [blk, hpage, Value.ownBlock] using hj
            omega
      · refine ⟨?_, fun b hb => ?_⟩
        · intro x hxq
          rw [hpage, if_pos rfl] at hxq
          cases hxq
          dsimp only
          rw [if_pos rfl, hx0u, List.length_replicate]
          have e : (madeCells (Value.bool false).cells (r * 1)).toList = (List.replicate r false).map .bool := by
            rw [Nat.mul_one]; exact (toList_madeCells_one _ r).trans (by simp)
          rw [e] at ho1
          exact own_tchB (own_tchB ho1 (Tch.of_below (fun _ => False) hb2) (fun _ _ x => x)) (Tch.of_grown hg6) (fun b hb hx => by
            have e1 : w.heap.size = b := by simpa [Value.ownBlock] using hb
            have e2 : β.mb = b := by simpa using hx
            omega)
        · have e : w.heap.size = b := by simpa [blk, hpage, Value.ownBlock] using hb
          subst e
          refine ⟨by have := hg6.size; omega, .inr ⟨Nat.le_refl _, ?_⟩⟩
          rintro j (rfl | rfl | rfl) hj
          · have : β.mb = w.heap.size := by simpa [blk] using hj
            omega
          · have : W1.heap.size = w.heap.size := by simpa [blk, hpage] using hj
            omega
          · rfl
  have HM6 := Lib.hid M6
  clear M6 ho1 h hpage
  go_wp2_with (go_at_call 36; refine (lay_any HM6.out.1 hw1 p c x0 (by rw [page_setPg hpl, if_pos rfl]) hown hc hp1 (by rw [hx0u]; simp; omega) (by rw [hx0u]; simp; omega)).mono ?_; rintro e w7 ⟨⟨v7, rfl⟩, vr, hM7, hS7⟩)
  go_end0
  have e : freshP π p c = rowsAdd (setPg π p x0) c (layL p x0.used) := by unfold freshP; rw [HX.out]; rfl
  rw [e]
  exact ⟨⟨_, rfl⟩, _, hM7, HM6.out.2.trans hS7⟩
end Go.Proofs.Ytfmgncajhjkdlaa
