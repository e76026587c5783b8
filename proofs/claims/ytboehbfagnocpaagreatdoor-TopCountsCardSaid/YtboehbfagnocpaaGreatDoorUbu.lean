/- Tcm. -/
import Derived.Test.YtboehbfagnocpaaGreatDoorUbc
set_option linter.unusedVariables false
set_option linter.unusedSimpArgs false
set_option maxRecDepth 100000
open Go.Proofs.Tryz
open Go.Lib (hid)
namespace Go.Proofs.YtboehbfagnocpaaGreatDoor
open Go.RowKit Go.PlainAid Go.Shelf
theorem one_math {sx g : Nat} {f : Nat → Int} {w : World} (h : (stsR sx f).R w) (hg : ∀ i x, [Value.int .i64 6, .int .i64 8, .int .i64 5, .int .i64 9][i]? = some x → w.cell? ⟨g, i, none⟩ = some x) :
    Calls prog 211 #[.pointer (some ⟨sx, 0, none⟩), .int .i64 6, .slice (some ⟨g, 0, none⟩) 2 2] w fun e w' => e = .returned (.tuple #[]) ∧ ∃ f', Turn (stsR sx f) (stsR sx f') w w' := by
  have HJ := hid (Hav.start h)
  have g0 : w.cell? ⟨g, 0, none⟩ = some (.int .i64 6) := hg 0 _ rfl
  have g1 : w.cell? ⟨g, 1, none⟩ = some (.int .i64 8) := hg 1 _ rfl
  clear h hg
  go_enter func211, ntmps211
  go_wp2_with (fail)
  go_loopw [10] (fun i wr => i = .int .i64 0 ∧ wr = w) (fun _ _ => 0)
  case atStart => exact ⟨rfl, rfl⟩
  case round =>
    obtain ⟨rfl, hr⟩ := hrel
    subst hr
    go_upto_region 4 with fail
    have J := HJ.out.cells #[.int .i64 6, .int .i64 8] 315
    obtain ⟨P, hP⟩ : ∃ P, wr.heap.size = P := ⟨_, rfl⟩
    obtain ⟨X, hX⟩ : ∃ X, wr.alloc (.cells #[.int .i64 6, .int .i64 8] 315) = X := ⟨_, rfl⟩
    rw [hP, hX] at J
    rw [hP, hX]
    have S0 : X.drew.cell? ⟨P, 1, none⟩ = some (.int .i64 8) ∧ X.drew.cell? ⟨sx, 8, none⟩ = some (.int .u64 (f 8)) := ⟨cA (J.get 0 rfl) 1, sts_at (J.get 1 rfl) 8 (by decide)⟩
    have zf : X.drew.frozen? ⟨sx, 8, none⟩ = false := cZ (J.get 1 rfl) 8
    have s2 := S0.2
    have JJ := hid (J.turn 1 rfl (sts_set (J.get 1 rfl) 8 (IntKind.u64.wrap (f 8 + 1)))).drew
    clear J hX hP
    refine wp_region_E (fun w' => w'.cell? ⟨P, 1, none⟩ = some (.int .i64 8) ∧ w'.cell? ⟨sx, 8, none⟩ = some (.int .u64 (f 8))) 11 (by kernel_rfl) S0 (fun hHeld => ?_)
    refine wkE 0 rfl ?_
    (try simp only [lzP, lzA, lzS])
    refine wkE 1 rfl ?_
    (try simp only [lzP, lzA, lzS])
    refine wkE 2 rfl ?_
    (try simp only [lzP, lzA, lzS])
    refine wkE 3 rfl ?_
    (try simp only [lzP, lzA, lzS])
    refine wkE 4 rfl ?_
    (try simp only [lzP, lzA, lzS])
    refine wkE 5 rfl ?_
    (try simp only [lzP, lzA, lzS])
    refine wkE 6 rfl ?_
    (try simp only [lzP, lzA, lzS])
    refine wkE 7 rfl ?_
    (try simp only [lzP, lzA, lzS])
    refine wfE 8 rfl ?_
    (try simp only [lzP, lzA, lzS])
    refine wfE 9 rfl ?_
    (try simp only [lzP, lzA, lzS])
    refine wkE 10 rfl ?_
    (try simp only [lzP, lzA, lzS])
    refine wpAnyE_ready (rs := [11]) (by as_aux_lemma => kernel_rfl) (by simp) ?_
    refine AllReadyE.last (o := _) rfl (fun K hK => ?_)
    rw [if_pos (by as_aux_lemma => rfl)]
    (try simp only [lzA])
    go_simp
    refine hK.out _ _ trivial (fun _ => ?_)
    clear hK K
    (try simp only [lzP, lzA, lzS])
    refine wpAnyE_done (by as_aux_lemma => kernel_rfl) ?_ _
    clear hHeld S0 zf
    go_wp2_with (fail)
    refine bodyPost_ret (results_none rfl _ _ _) rfl ?_
    exact ⟨rfl, _, (JJ.out.sub (.cons _ (List.Sublist.refl _))).one⟩
set_option maxHeartbeats 2000000 in
theorem count_math {sx : Nat} {f : Nat → Int} {w : World} (h : (stsR sx f).R w) {c : Cm} (hop : c.op = 3) (ak : ByteArray) (afl : Int) (av : ByteArray) (aca ala num : Int) :
    Calls prog 146 #[.pointer (some ⟨sx, 0, none⟩), .agg c.vs, .agg (ansF 6 ak afl av aca ala num), .int .i64 0] w fun e w' => e = .returned (.tuple #[]) ∧ ∃ f', Turn (stsR sx f) (stsR sx f') w w' := by
  obtain ⟨op, mode, ckey, value, flags, exp, tok, hasCas, delta, recache⟩ := c
  dsimp only at hop
  subst hop
  have J := ((Hav.start h).cells (Cm.vs ⟨3, mode, ckey, value, flags, exp, tok, hasCas, delta, recache⟩) 56).cells (ansF 6 ak afl av aca ala num) 52
  simp only [World.size_alloc] at J
  obtain ⟨N, hN⟩ : ∃ N, w.heap.size = N := ⟨_, rfl⟩
  obtain ⟨W, hW⟩ : ∃ W, (w.alloc (.cells (Cm.vs ⟨3, mode, ckey, value, flags, exp, tok, hasCas, delta, recache⟩) 56)).alloc (.cells (ansF 6 ak afl av aca ala num) 52) = W := ⟨_, rfl⟩
  rw [hN, hW] at J
  have HW := hid hW
  unfold Cm.vs ansF at HW
  dsimp only at HW
  have HJ := hid J
  have a0 : W.cell? ⟨N + 1, 0, none⟩ = some (.int .i64 6) := cA (J.get 0 rfl) 0
  have k0 : W.cell? ⟨N, 0, none⟩ = some (.int .i64 3) := cA (J.get 1 rfl) 0
  clear J h hW
  unfold Cm.vs ansF
  dsimp only
  go_enter func146, ntmps146
  go_upto_region 2 with fail
  rw [HW.out]
  clear HW hN
  have S0 : W.drew.cell? ⟨sx, 17, none⟩ = some (.int .u64 (f 17)) := sts_at (HJ.out.get 2 rfl) 17 (by decide)
  have zf : W.drew.frozen? ⟨sx, 17, none⟩ = false := cZ (HJ.out.get 2 rfl) 17
  refine wp_region_E (fun w' => w'.cell? ⟨sx, 17, none⟩ = some (.int .u64 (f 17))) 12 (by kernel_rfl) S0 (fun hHeld => ?_)
  refine wkE 0 rfl ?_
  (try simp only [lzP, lzA, lzS])
  refine wkE 1 rfl ?_
  (try simp only [lzP, lzA, lzS])
  refine wkE 2 rfl ?_
  (try simp only [lzP, lzA, lzS])
  refine wkE 3 rfl ?_
  (try simp only [lzP, lzA, lzS])
  refine wkE 4 rfl ?_
  (try simp only [lzP, lzA, lzS])
  refine wkE 5 rfl ?_
  (try simp only [lzP, lzA, lzS])
  refine wkE 6 rfl ?_
  (try simp only [lzP, lzA, lzS])
  refine wkE 7 rfl ?_
  (try simp only [lzP, lzA, lzS])
  refine wkE 8 rfl ?_
  (try simp only [lzP, lzA, lzS])
  refine wfE 9 rfl ?_
  (try simp only [lzP, lzA, lzS])
  refine wfE 10 rfl ?_
  (try simp only [lzP, lzA, lzS])
  refine wkE 11 rfl ?_
  (try simp only [lzP, lzA, lzS])
  refine wpAnyE_ready (rs := [12]) (by as_aux_lemma => kernel_rfl) (by simp) ?_
  refine AllReadyE.last (o := _) rfl (fun K hK => ?_)
  rw [if_pos (by as_aux_lemma => rfl)]
  (try simp only [lzA])
  go_simp
  refine hK.out _ _ trivial (fun _ => ?_)
  clear hK K
  (try simp only [lzP, lzA, lzS])
  refine wpAnyE_done (by as_aux_lemma => kernel_rfl) ?_ _
  clear hHeld S0 zf a0 k0
  have J1 := (HJ.out.turn 2 rfl (sts_set (HJ.out.get 2 rfl) 17 (IntKind.u64.wrap (f 17 + IntKind.u64.wrap 0)))).drew
  obtain ⟨W1, hW1⟩ : ∃ W', (W.setCell ⟨sx, 17, none⟩ (.int .u64 (IntKind.u64.wrap (f 17 + IntKind.u64.wrap 0)))).drew = W' := ⟨_, rfl⟩
  obtain ⟨f1, hf1⟩ : ∃ f', PM.upd f 17 (IntKind.u64.wrap (f 17 + IntKind.u64.wrap 0)) = f' := ⟨_, rfl⟩
  rw [hW1, hf1] at J1
  rw [hW1]
  clear HJ hW1 hf1
  have HJ := hid J1
  have a0 : W1.cell? ⟨N + 1, 0, none⟩ = some (.int .i64 6) := cA (J1.get 0 rfl) 0
  have k0 : W1.cell? ⟨N, 0, none⟩ = some (.int .i64 3) := cA (J1.get 1 rfl) 0
  have k11 : W1.cell? ⟨N, 11, none⟩ = some (.bool false) := cA (J1.get 1 rfl) 11
  have JR := J1.made (row_new W1 #[.int .i64 6, .int .i64 8, .int .i64 5, .int .i64 9] 315 4 rfl (by decide))
  have HO := hid (one_math (sx := sx) (g := W1.heap.size) (f := f1) (JR.get 3 rfl) (fun i x hi => by
    have h6 : i < 4 := (List.getElem?_eq_some_iff.1 hi).1
    rw [row_at (JR.get 0 rfl) i h6]; exact hi))
  have HJ2 := hid JR
  clear J1 JR HJ
  go_wp2_with (go_at_call 211; refine HO.out.mono ?_; rintro e w9 ⟨rfl, f', ht⟩)
  go_end0
  have J9 := HJ2.out.turn 3 rfl ht
  exact ⟨rfl, f', (J9.sub (.cons _ (.cons _ (.cons _ (List.Sublist.refl _))))).one⟩
end Go.Proofs.YtboehbfagnocpaaGreatDoor
