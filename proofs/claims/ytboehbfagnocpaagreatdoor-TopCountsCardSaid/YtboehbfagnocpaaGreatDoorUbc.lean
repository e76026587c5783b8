/- Tct. -/
import Derived.Test.YtboehbfagnocpaaGreatDoorUaz
set_option linter.unusedVariables false
set_option linter.unusedSimpArgs false
set_option maxRecDepth 100000
open Go.Proofs.Tryz
open Go.Lib (hid)
namespace Go.Proofs.YtboehbfagnocpaaGreatDoor
open Go.RowKit Go.PlainAid Go.Shelf
section
variable {sx : Nat} {f : Nat → Int} {w : World}
theorem sts_at (h : (stsR sx f).R w) (k : Nat) (hk : k < 18) : w.cell? ⟨sx, k, none⟩ = some (.int .u64 (f k)) := by
  rw [cA h k]
  rw [List.getElem?_toArray, lst_get hk]
theorem sts_set (h : (stsR sx f).R w) (k : Nat) (x : Int) : Turn (stsR sx f) (stsR sx (PM.upd f k x)) w (w.setCell ⟨sx, k, none⟩ (.int .u64 x)) := by
  have t := cl_set h k (.int .u64 x)
  have e : ((lst 18 (fun k => Value.int .u64 (f k))).toArray.setIfInBounds k (.int .u64 x)) = (lst 18 (fun j => Value.int .u64 (PM.upd f k x j))).toArray := by
    rw [List.setIfInBounds_toArray, lst_set]
    congr 1
    refine lst_same (fun j _ => ?_)
    by_cases e : j = k
    · subst e; rw [PM.upd_same, PM.upd_same]
    · rw [PM.upd_ne _ _ e, PM.upd_ne _ _ e]
  rw [e] at t
  exact t
end
set_option maxHeartbeats 2000000 in
theorem count_get {sx : Nat} {f : Nat → Int} {w : World} (h : (stsR sx f).R w) {c : Cm} (hop : c.op = 1) (ak : ByteArray) (afl : Int) (av : ByteArray) (aca ala num : Int) :
    Calls prog 146 #[.pointer (some ⟨sx, 0, none⟩), .agg c.vs, .agg (ansF 1 ak afl av aca ala num), .int .i64 0] w fun e w' => e = .returned (.tuple #[]) ∧ ∃ f', Turn (stsR sx f) (stsR sx f') w w' := by
  obtain ⟨op, mode, ckey, value, flags, exp, tok, hasCas, delta, recache⟩ := c
  dsimp only at hop
  subst hop
  have J := ((Hav.start h).cells (Cm.vs ⟨1, mode, ckey, value, flags, exp, tok, hasCas, delta, recache⟩) 56).cells (ansF 1 ak afl av aca ala num) 52
  simp only [World.size_alloc] at J
  obtain ⟨N, hN⟩ : ∃ N, w.heap.size = N := ⟨_, rfl⟩
  obtain ⟨W, hW⟩ : ∃ W, (w.alloc (.cells (Cm.vs ⟨1, mode, ckey, value, flags, exp, tok, hasCas, delta, recache⟩) 56)).alloc (.cells (ansF 1 ak afl av aca ala num) 52) = W := ⟨_, rfl⟩
  rw [hN, hW] at J
  have HW := hid hW
  unfold Cm.vs ansF at HW
  dsimp only at HW
  have HJ := hid J
  have a0 : W.cell? ⟨N + 1, 0, none⟩ = some (.int .i64 1) := cA (J.get 0 rfl) 0
  have k0 : W.cell? ⟨N, 0, none⟩ = some (.int .i64 1) := cA (J.get 1 rfl) 0
  clear J h hW
  unfold Cm.vs ansF
  dsimp only
  go_enter func146, ntmps146
  go_upto_region 2 with fail
  rw [HW.out]
  clear HW hN
  have S0 : W.drew.cell? ⟨sx, 17, none⟩ = some (.int .u64 (f 17)) := sts_at (HJ.out.get 2 rfl) 17 (by decide)
  have zf : W.drew.frozen? ⟨sx, 17, none⟩ = false := cZ (HJ.out.get 2 rfl) 17
  refine wp_region_E (fun w' => w'.cell? ⟨sx, 17, none⟩ = some (.int .u64 (f 17))) 12 (by kernel_rfl) S0 (fun hHeld => ?_)
  refine wkE 0 rfl ?_
  (try simp only [lzP, lzA, lzS])
  refine wkE 1 rfl ?_
  (try simp only [lzP, lzA, lzS])
  refine wkE 2 rfl ?_
  (try simp only [lzP, lzA, lzS])
  refine wkE 3 rfl ?_
  (try simp only [lzP, lzA, lzS])
  refine wkE 4 rfl ?_
  (try simp only [lzP, lzA, lzS])
  refine wkE 5 rfl ?_
  (try simp only [lzP, lzA, lzS])
  refine wkE 6 rfl ?_
  (try simp only [lzP, lzA, lzS])
  refine wkE 7 rfl ?_
  (try simp only [lzP, lzA, lzS])
  refine wkE 8 rfl ?_
  (try simp only [lzP, lzA, lzS])
  refine wfE 9 rfl ?_
  (try simp only [lzP, lzA, lzS])
  refine wfE 10 rfl ?_
  (try simp only [lzP, lzA, lzS])
  refine wkE 11 rfl ?_
  (try simp only [lzP, lzA, lzS])
  refine wpAnyE_ready (rs := [12]) (by as_aux_lemma => kernel_rfl) (by simp) ?_
  refine AllReadyE.last (o := _) rfl (fun K hK => ?_)
  rw [if_pos (by as_aux_lemma => rfl)]
  (try simp only [lzA])
  go_simp
  refine hK.out _ _ trivial (fun _ => ?_)
  clear hK K
  (try simp only [lzP, lzA, lzS])
  refine wpAnyE_done (by as_aux_lemma => kernel_rfl) ?_ _
  clear hHeld S0 zf a0 k0
  have J1 := (HJ.out.turn 2 rfl (sts_set (HJ.out.get 2 rfl) 17 (IntKind.u64.wrap (f 17 + IntKind.u64.wrap 0)))).drew
  obtain ⟨W1, hW1⟩ : ∃ W', (W.setCell ⟨sx, 17, none⟩ (.int .u64 (IntKind.u64.wrap (f 17 + IntKind.u64.wrap 0)))).drew = W' := ⟨_, rfl⟩
  obtain ⟨f1, hf1⟩ : ∃ f', PM.upd f 17 (IntKind.u64.wrap (f 17 + IntKind.u64.wrap 0)) = f' := ⟨_, rfl⟩
  rw [hW1, hf1] at J1
  rw [hW1]
  clear HJ hW1 hf1
  have HJ := hid J1
  have a0 : W1.cell? ⟨N + 1, 0, none⟩ = some (.int .i64 1) := cA (J1.get 0 rfl) 0
  have k0 : W1.cell? ⟨N, 0, none⟩ = some (.int .i64 1) := cA (J1.get 1 rfl) 0
  clear J1
  go_upto_region 5 with fail
  have S0 : W1.drew.cell? ⟨sx, 0, none⟩ = some (.int .u64 (f1 0)) := sts_at (HJ.out.get 2 rfl) 0 (by decide)
  have zf : W1.drew.frozen? ⟨sx, 0, none⟩ = false := cZ (HJ.out.get 2 rfl) 0
  refine wp_region_E (fun w' => w'.cell? ⟨sx, 0, none⟩ = some (.int .u64 (f1 0))) 9 (by kernel_rfl) S0 (fun hHeld => ?_)
  refine wkE 0 rfl ?_
  (try simp only [lzP, lzA, lzS])
  refine wkE 1 rfl ?_
  (try simp only [lzP, lzA, lzS])
  refine wkE 2 rfl ?_
  (try simp only [lzP, lzA, lzS])
  refine wkE 3 rfl ?_
  (try simp only [lzP, lzA, lzS])
  refine wkE 4 rfl ?_
  (try simp only [lzP, lzA, lzS])
  refine wkE 5 rfl ?_
  (try simp only [lzP, lzA, lzS])
  refine wfE 6 rfl ?_
  (try simp only [lzP, lzA, lzS])
  refine wfE 7 rfl ?_
  (try simp only [lzP, lzA, lzS])
  refine wkE 8 rfl ?_
  (try simp only [lzP, lzA, lzS])
  refine wpAnyE_ready (rs := [9]) (by as_aux_lemma => kernel_rfl) (by simp) ?_
  refine AllReadyE.last (o := _) rfl (fun K hK => ?_)
  rw [if_pos (by as_aux_lemma => rfl)]
  (try simp only [lzA])
  go_simp
  refine hK.out _ _ trivial (fun _ => ?_)
  clear hK K
  (try simp only [lzP, lzA, lzS])
  refine wpAnyE_done (by as_aux_lemma => kernel_rfl) ?_ _
  clear hHeld S0 zf a0 k0
  have J2 := (HJ.out.turn 2 rfl (sts_set (HJ.out.get 2 rfl) 0 (IntKind.u64.wrap (f1 0 + 1)))).drew
  obtain ⟨W2, hW2⟩ : ∃ W', (W1.setCell ⟨sx, 0, none⟩ (.int .u64 (IntKind.u64.wrap (f1 0 + 1)))).drew = W' := ⟨_, rfl⟩
  obtain ⟨f2, hf2⟩ : ∃ f', PM.upd f1 0 (IntKind.u64.wrap (f1 0 + 1)) = f' := ⟨_, rfl⟩
  rw [hW2, hf2] at J2
  rw [hW2]
  clear HJ hW2 hf2
  have HJ := hid J2
  have a0 : W2.cell? ⟨N + 1, 0, none⟩ = some (.int .i64 1) := cA (J2.get 0 rfl) 0
  have k0 : W2.cell? ⟨N, 0, none⟩ = some (.int .i64 1) := cA (J2.get 1 rfl) 0
  clear J2
  go_upto_region 7 with fail
  have S0 : W2.drew.cell? ⟨sx, 4, none⟩ = some (.int .u64 (f2 4)) := sts_at (HJ.out.get 2 rfl) 4 (by decide)
  have zf : W2.drew.frozen? ⟨sx, 4, none⟩ = false := cZ (HJ.out.get 2 rfl) 4
  refine wp_region_E (fun w' => w'.cell? ⟨sx, 4, none⟩ = some (.int .u64 (f2 4))) 9 (by kernel_rfl) S0 (fun hHeld => ?_)
  refine wkE 0 rfl ?_
  (try simp only [lzP, lzA, lzS])
  refine wkE 1 rfl ?_
  (try simp only [lzP, lzA, lzS])
  refine wkE 2 rfl ?_
  (try simp only [lzP, lzA, lzS])
  refine wkE 3 rfl ?_
  (try simp only [lzP, lzA, lzS])
  refine wkE 4 rfl ?_
  (try simp only [lzP, lzA, lzS])
  refine wkE 5 rfl ?_
  (try simp only [lzP, lzA, lzS])
  refine wfE 6 rfl ?_
  (try simp only [lzP, lzA, lzS])
  refine wfE 7 rfl ?_
  (try simp only [lzP, lzA, lzS])
  refine wkE 8 rfl ?_
  (try simp only [lzP, lzA, lzS])
  refine wpAnyE_ready (rs := [9]) (by as_aux_lemma => kernel_rfl) (by simp) ?_
  refine AllReadyE.last (o := _) rfl (fun K hK => ?_)
  rw [if_pos (by as_aux_lemma => rfl)]
  (try simp only [lzA])
  go_simp
  refine hK.out _ _ trivial (fun _ => ?_)
  clear hK K
  (try simp only [lzP, lzA, lzS])
  refine wpAnyE_done (by as_aux_lemma => kernel_rfl) ?_ _
  clear hHeld S0 zf a0 k0
  have J3 := (HJ.out.turn 2 rfl (sts_set (HJ.out.get 2 rfl) 4 (IntKind.u64.wrap (f2 4 + 1)))).drew
  obtain ⟨W3, hW3⟩ : ∃ W', (W2.setCell ⟨sx, 4, none⟩ (.int .u64 (IntKind.u64.wrap (f2 4 + 1)))).drew = W' := ⟨_, rfl⟩
  obtain ⟨f3, hf3⟩ : ∃ f', PM.upd f2 4 (IntKind.u64.wrap (f2 4 + 1)) = f' := ⟨_, rfl⟩
  rw [hW3, hf3] at J3
  rw [hW3]
  clear HJ hW3 hf3
  have HJ := hid J3
  have a0 : W3.cell? ⟨N + 1, 0, none⟩ = some (.int .i64 1) := cA (J3.get 0 rfl) 0
  have k0 : W3.cell? ⟨N, 0, none⟩ = some (.int .i64 1) := cA (J3.get 1 rfl) 0
  clear J3
  go_wp2_with (fail)
  go_end0
  exact ⟨rfl, f3, (HJ.out.sub (.cons _ (.cons _ (List.Sublist.refl _)))).one⟩
set_option maxHeartbeats 2000000 in
theorem one_ok {sx g : Nat} {f : Nat → Int} {w : World} (h : (stsR sx f).R w) (hg : ∀ i x, [Value.int .i64 2, .int .i64 12, .int .i64 4, .int .i64 13, .int .i64 5, .int .i64 14][i]? = some x → w.cell? ⟨g, i, none⟩ = some x) {st : Int} (hst : st = 2 ∨ st = 4) :
    Calls prog 211 #[.pointer (some ⟨sx, 0, none⟩), .int .i64 st, .slice (some ⟨g, 0, none⟩) 3 3] w fun e w' => e = .returned (.tuple #[]) ∧ ∃ f', Turn (stsR sx f) (stsR sx f') w w' := by
  have HJ := hid (Hav.start h)
  have HG : Hid (∀ w', Below w.heap.size w w' → ∀ i x, [Value.int .i64 2, .int .i64 12, .int .i64 4, .int .i64 13, .int .i64 5, .int .i64 14][i]? = some x → w'.cell? ⟨g, i, none⟩ = some x) := hid (fun w' hb i x hi => (hb.cell (p := ⟨g, i, none⟩) (cell_lt (hg i x hi))).trans (hg i x hi))
  clear h hg
  have hs1 : (st = 2 ∧ (2 == st) = true) ∨ (st = 4 ∧ (2 == st) = false) := by rcases hst with rfl | rfl <;> decide
  go_enter func211, ntmps211
  go_wp2_with (fail)
  go_loopw [10] (fun i wr => (i = .int .i64 0 ∧ wr = w) ∨ (i = .int .i64 1 ∧ st = 4 ∧ Hid (Below w.heap.size w wr))) (fun i _ => 1 - (intOf i).toNat)
  case atStart => exact .inl ⟨rfl, rfl⟩
  case round =>
    rcases hrel with ⟨rfl, hr⟩ | ⟨rfl, h4, hb⟩
    · subst hr
      have g0 : wr.cell? ⟨g, 0, none⟩ = some (.int .i64 2) := HG.out wr (Below.refl _ _) 0 _ rfl
      have g1 : wr.cell? ⟨g, 1, none⟩ = some (.int .i64 12) := HG.out wr (Below.refl _ _) 1 _ rfl
      rcases hst with rfl | rfl
      · go_upto_region 4 with fail
        have J := (HJ.out.below (Below.refl _ _)).cells #[.int .i64 2, .int .i64 12] 315
        obtain ⟨P, hP⟩ : ∃ P, wr.heap.size = P := ⟨_, rfl⟩
        obtain ⟨X, hX⟩ : ∃ X, wr.alloc (.cells #[.int .i64 2, .int .i64 12] 315) = X := ⟨_, rfl⟩
        rw [hP, hX] at J
        rw [hP, hX]
        have S0 : X.drew.cell? ⟨P, 1, none⟩ = some (.int .i64 12) ∧ X.drew.cell? ⟨sx, 12, none⟩ = some (.int .u64 (f 12)) := ⟨cA (J.get 0 rfl) 1, sts_at (J.get 1 rfl) 12 (by decide)⟩
        have zf : X.drew.frozen? ⟨sx, 12, none⟩ = false := cZ (J.get 1 rfl) 12
        have s2 := S0.2
        have JJ := hid (J.turn 1 rfl (sts_set (J.get 1 rfl) 12 (IntKind.u64.wrap (f 12 + 1)))).drew
        clear J hX hP
        refine wp_region_E (fun w' => w'.cell? ⟨P, 1, none⟩ = some (.int .i64 12) ∧ w'.cell? ⟨sx, 12, none⟩ = some (.int .u64 (f 12))) 11 (by kernel_rfl) S0 (fun hHeld => ?_)
        refine wkE 0 rfl ?_
        (try simp only [lzP, lzA, lzS])
        refine wkE 1 rfl ?_
        (try simp only [lzP, lzA, lzS])
        refine wkE 2 rfl ?_
        (try simp only [lzP, lzA, lzS])
        refine wkE 3 rfl ?_
        (try simp only [lzP, lzA, lzS])
        refine wkE 4 rfl ?_
        (try simp only [lzP, lzA, lzS])
        refine wkE 5 rfl ?_
        (try simp only [lzP, lzA, lzS])
        refine wkE 6 rfl ?_
        (try simp only [lzP, lzA, lzS])
        refine wkE 7 rfl ?_
        (try simp only [lzP, lzA, lzS])
        refine wfE 8 rfl ?_
        (try simp only [lzP, lzA, lzS])
        refine wfE 9 rfl ?_
        (try simp only [lzP, lzA, lzS])
        refine wkE 10 rfl ?_
        (try simp only [lzP, lzA, lzS])
        refine wpAnyE_ready (rs := [11]) (by as_aux_lemma => kernel_rfl) (by simp) ?_
        refine AllReadyE.last (o := _) rfl (fun K hK => ?_)
        rw [if_pos (by as_aux_lemma => rfl)]
        (try simp only [lzA])
        go_simp
        refine hK.out _ _ trivial (fun _ => ?_)
        clear hK K
        (try simp only [lzP, lzA, lzS])
        refine wpAnyE_done (by as_aux_lemma => kernel_rfl) ?_ _
        clear hHeld S0 zf
        go_wp2_with (fail)
        refine bodyPost_ret (results_none rfl _ _ _) rfl ?_
        exact ⟨rfl, _, (JJ.out.sub (.cons _ (List.Sublist.refl _))).one⟩
      · go_wp2_with (fail)
        go_roundw
        case rel => exact .inr ⟨by first | rfl | trivial | simp, by first | rfl | trivial, hid (bA _ _)⟩
        case measure => simp [intOf]
    · subst h4
      have g0 : wr.cell? ⟨g, 2, none⟩ = some (.int .i64 4) := HG.out wr hb.out 2 _ rfl
      have g1 : wr.cell? ⟨g, 3, none⟩ = some (.int .i64 13) := HG.out wr hb.out 3 _ rfl
      go_upto_region 4 with fail
      have J := (HJ.out.below hb.out).cells #[.int .i64 4, .int .i64 13] 315
      obtain ⟨P, hP⟩ : ∃ P, wr.heap.size = P := ⟨_, rfl⟩
      obtain ⟨X, hX⟩ : ∃ X, wr.alloc (.cells #[.int .i64 4, .int .i64 13] 315) = X := ⟨_, rfl⟩
      rw [hP, hX] at J
      rw [hP, hX]
      have S0 : X.drew.cell? ⟨P, 1, none⟩ = some (.int .i64 13) ∧ X.drew.cell? ⟨sx, 13, none⟩ = some (.int .u64 (f 13)) := ⟨cA (J.get 0 rfl) 1, sts_at (J.get 1 rfl) 13 (by decide)⟩
      have zf : X.drew.frozen? ⟨sx, 13, none⟩ = false := cZ (J.get 1 rfl) 13
      have s2 := S0.2
      have JJ := hid (J.turn 1 rfl (sts_set (J.get 1 rfl) 13 (IntKind.u64.wrap (f 13 + 1)))).drew
      clear J hX hP
      refine wp_region_E (fun w' => w'.cell? ⟨P, 1, none⟩ = some (.int .i64 13) ∧ w'.cell? ⟨sx, 13, none⟩ = some (.int .u64 (f 13))) 11 (by kernel_rfl) S0 (fun hHeld => ?_)
      refine wkE 0 rfl ?_
      (try simp only [lzP, lzA, lzS])
      refine wkE 1 rfl ?_
      (try simp only [lzP, lzA, lzS])
      refine wkE 2 rfl ?_
      (try simp only [lzP, lzA, lzS])
      refine wkE 3 rfl ?_
      (try simp only [lzP, lzA, lzS])
      refine wkE 4 rfl ?_
      (try simp only [lzP, lzA, lzS])
      refine wkE 5 rfl ?_
      (try simp only [lzP, lzA, lzS])
      refine wkE 6 rfl ?_
      (try simp only [lzP, lzA, lzS])
      refine wkE 7 rfl ?_
      (try simp only [lzP, lzA, lzS])
      refine wfE 8 rfl ?_
      (try simp only [lzP, lzA, lzS])
      refine wfE 9 rfl ?_
      (try simp only [lzP, lzA, lzS])
      refine wkE 10 rfl ?_
      (try simp only [lzP, lzA, lzS])
      refine wpAnyE_ready (rs := [11]) (by as_aux_lemma => kernel_rfl) (by simp) ?_
      refine AllReadyE.last (o := _) rfl (fun K hK => ?_)
      rw [if_pos (by as_aux_lemma => rfl)]
      (try simp only [lzA])
      go_simp
      refine hK.out _ _ trivial (fun _ => ?_)
      clear hK K
      (try simp only [lzP, lzA, lzS])
      refine wpAnyE_done (by as_aux_lemma => kernel_rfl) ?_ _
      clear hHeld S0 zf
      go_wp2_with (fail)
      refine bodyPost_ret (results_none rfl _ _ _) rfl ?_
      exact ⟨rfl, _, (JJ.out.sub (.cons _ (List.Sublist.refl _))).one⟩
set_option maxHeartbeats 2000000 in
theorem count_set {sx : Nat} {f : Nat → Int} {w : World} (h : (stsR sx f).R w) {c : Cm} (hop : c.op = 2) {st : Int} (hst : st = 2 ∨ st = 4) (ak : ByteArray) (afl : Int) (av : ByteArray) (aca ala num : Int) :
    Calls prog 146 #[.pointer (some ⟨sx, 0, none⟩), .agg c.vs, .agg (ansF st ak afl av aca ala num), .int .i64 0] w fun e w' => e = .returned (.tuple #[]) ∧ ∃ f', Turn (stsR sx f) (stsR sx f') w w' := by
  obtain ⟨op, mode, ckey, value, flags, exp, tok, hasCas, delta, recache⟩ := c
  dsimp only at hop
  subst hop
  have J := ((Hav.start h).cells (Cm.vs ⟨2, mode, ckey, value, flags, exp, tok, hasCas, delta, recache⟩) 56).cells (ansF st ak afl av aca ala num) 52
  simp only [World.size_alloc] at J
  obtain ⟨N, hN⟩ : ∃ N, w.heap.size = N := ⟨_, rfl⟩
  obtain ⟨W, hW⟩ : ∃ W, (w.alloc (.cells (Cm.vs ⟨2, mode, ckey, value, flags, exp, tok, hasCas, delta, recache⟩) 56)).alloc (.cells (ansF st ak afl av aca ala num) 52) = W := ⟨_, rfl⟩
  rw [hN, hW] at J
  have HW := hid hW
  unfold Cm.vs ansF at HW
  dsimp only at HW
  have HJ := hid J
  have a0 : W.cell? ⟨N + 1, 0, none⟩ = some (.int .i64 st) := cA (J.get 0 rfl) 0
  have k0 : W.cell? ⟨N, 0, none⟩ = some (.int .i64 2) := cA (J.get 1 rfl) 0
  clear J h hW
  unfold Cm.vs ansF
  dsimp only
  have hg1 : ¬ st < 1 := by omega
  have hg2 : ¬ 12 < st := by omega
  have hg3 : decide (st < 1) = false := by simp; omega
  go_enter func146, ntmps146
  go_upto_region 2 with fail
  rw [HW.out]
  clear HW hN
  have S0 : W.drew.cell? ⟨sx, 17, none⟩ = some (.int .u64 (f 17)) := sts_at (HJ.out.get 2 rfl) 17 (by decide)
  have zf : W.drew.frozen? ⟨sx, 17, none⟩ = false := cZ (HJ.out.get 2 rfl) 17
  refine wp_region_E (fun w' => w'.cell? ⟨sx, 17, none⟩ = some (.int .u64 (f 17))) 12 (by kernel_rfl) S0 (fun hHeld => ?_)
  refine wkE 0 rfl ?_
  (try simp only [lzP, lzA, lzS])
  refine wkE 1 rfl ?_
  (try simp only [lzP, lzA, lzS])
  refine wkE 2 rfl ?_
  (try simp only [lzP, lzA, lzS])
  refine wkE 3 rfl ?_
  (try simp only [lzP, lzA, lzS])
  refine wkE 4 rfl ?_
  (try simp only [lzP, lzA, lzS])
  refine wkE 5 rfl ?_
  (try simp only [lzP, lzA, lzS])
  refine wkE 6 rfl ?_
  (try simp only [lzP, lzA, lzS])
  refine wkE 7 rfl ?_
  (try simp only [lzP, lzA, lzS])
  refine wkE 8 rfl ?_
  (try simp only [lzP, lzA, lzS])
  refine wfE 9 rfl ?_
  (try simp only [lzP, lzA, lzS])
  refine wfE 10 rfl ?_
  (try simp only [lzP, lzA, lzS])
  refine wkE 11 rfl ?_
  (try simp only [lzP, lzA, lzS])
  refine wpAnyE_ready (rs := [12]) (by as_aux_lemma => kernel_rfl) (by simp) ?_
  refine AllReadyE.last (o := _) rfl (fun K hK => ?_)
  rw [if_pos (by as_aux_lemma => rfl)]
  (try simp only [lzA])
  go_simp
  refine hK.out _ _ trivial (fun _ => ?_)
  clear hK K
  (try simp only [lzP, lzA, lzS])
  refine wpAnyE_done (by as_aux_lemma => kernel_rfl) ?_ _
  clear hHeld S0 zf a0 k0
  have J1 := (HJ.out.turn 2 rfl (sts_set (HJ.out.get 2 rfl) 17 (IntKind.u64.wrap (f 17 + IntKind.u64.wrap 0)))).drew
  obtain ⟨W1, hW1⟩ : ∃ W', (W.setCell ⟨sx, 17, none⟩ (.int .u64 (IntKind.u64.wrap (f 17 + IntKind.u64.wrap 0)))).drew = W' := ⟨_, rfl⟩
  obtain ⟨f1, hf1⟩ : ∃ f', PM.upd f 17 (IntKind.u64.wrap (f 17 + IntKind.u64.wrap 0)) = f' := ⟨_, rfl⟩
  rw [hW1, hf1] at J1
  rw [hW1]
  clear HJ hW1 hf1
  have HJ := hid J1
  have a0 : W1.cell? ⟨N + 1, 0, none⟩ = some (.int .i64 st) := cA (J1.get 0 rfl) 0
  have k0 : W1.cell? ⟨N, 0, none⟩ = some (.int .i64 2) := cA (J1.get 1 rfl) 0
  clear J1
  go_upto_region 10 with fail
  have S0 : W1.drew.cell? ⟨sx, 1, none⟩ = some (.int .u64 (f1 1)) := sts_at (HJ.out.get 2 rfl) 1 (by decide)
  have zf : W1.drew.frozen? ⟨sx, 1, none⟩ = false := cZ (HJ.out.get 2 rfl) 1
  refine wp_region_E (fun w' => w'.cell? ⟨sx, 1, none⟩ = some (.int .u64 (f1 1))) 9 (by kernel_rfl) S0 (fun hHeld => ?_)
  refine wkE 0 rfl ?_
  (try simp only [lzP, lzA, lzS])
  refine wkE 1 rfl ?_
  (try simp only [lzP, lzA, lzS])
  refine wkE 2 rfl ?_
  (try simp only [lzP, lzA, lzS])
  refine wkE 3 rfl ?_
  (try simp only [lzP, lzA, lzS])
  refine wkE 4 rfl ?_
  (try simp only [lzP, lzA, lzS])
  refine wkE 5 rfl ?_
  (try simp only [lzP, lzA, lzS])
  refine wfE 6 rfl ?_
  (try simp only [lzP, lzA, lzS])
  refine wfE 7 rfl ?_
  (try simp only [lzP, lzA, lzS])
  refine wkE 8 rfl ?_
  (try simp only [lzP, lzA, lzS])
  refine wpAnyE_ready (rs := [9]) (by as_aux_lemma => kernel_rfl) (by simp) ?_
  refine AllReadyE.last (o := _) rfl (fun K hK => ?_)
  rw [if_pos (by as_aux_lemma => rfl)]
  (try simp only [lzA])
  go_simp
  refine hK.out _ _ trivial (fun _ => ?_)
  clear hK K
  (try simp only [lzP, lzA, lzS])
  refine wpAnyE_done (by as_aux_lemma => kernel_rfl) ?_ _
  clear hHeld S0 zf a0 k0
  have J2 := (HJ.out.turn 2 rfl (sts_set (HJ.out.get 2 rfl) 1 (IntKind.u64.wrap (f1 1 + 1)))).drew
  obtain ⟨W2, hW2⟩ : ∃ W', (W1.setCell ⟨sx, 1, none⟩ (.int .u64 (IntKind.u64.wrap (f1 1 + 1)))).drew = W' := ⟨_, rfl⟩
  obtain ⟨f2, hf2⟩ : ∃ f', PM.upd f1 1 (IntKind.u64.wrap (f1 1 + 1)) = f' := ⟨_, rfl⟩
  rw [hW2, hf2] at J2
  rw [hW2]
  clear HJ hW2 hf2
  have HJ := hid J2
  have a0 : W2.cell? ⟨N + 1, 0, none⟩ = some (.int .i64 st) := cA (J2.get 0 rfl) 0
  have k0 : W2.cell? ⟨N, 0, none⟩ = some (.int .i64 2) := cA (J2.get 1 rfl) 0
  clear J2
  have k8 : W2.cell? ⟨N, 8, none⟩ = some (.bool hasCas) := cA (HJ.out.get 1 rfl) 8
  cases hasCas
  · go_wp2_with (fail)
    go_end0
    exact ⟨rfl, f2, (HJ.out.sub (.cons _ (.cons _ (List.Sublist.refl _)))).one⟩
  · have JR := HJ.out.made (row_new W2 #[.int .i64 2, .int .i64 12, .int .i64 4, .int .i64 13, .int .i64 5, .int .i64 14] 315 6 rfl (by decide))
    have HO := hid (one_ok (sx := sx) (g := W2.heap.size) (f := f2) (JR.get 3 rfl) (fun i x hi => by
      have h6 : i < 6 := (List.getElem?_eq_some_iff.1 hi).1
      rw [row_at (JR.get 0 rfl) i h6]; exact hi) hst)
    have HJ2 := hid JR
    clear JR HJ
    go_wp2_with (go_at_call 211; refine HO.out.mono ?_; rintro e w9 ⟨rfl, f', ht⟩)
    go_end0
    have J9 := HJ2.out.turn 3 rfl ht
    exact ⟨rfl, f', (J9.sub (.cons _ (.cons _ (.cons _ (List.Sublist.refl _))))).one⟩
end Go.Proofs.YtboehbfagnocpaaGreatDoor
