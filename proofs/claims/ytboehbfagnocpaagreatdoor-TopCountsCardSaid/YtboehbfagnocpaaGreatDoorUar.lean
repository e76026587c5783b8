/- Tmd. -/
import Derived.Test.YtboehbfagnocpaaGreatDoorUaq
set_option linter.unusedVariables false
set_option linter.unusedSimpArgs false
set_option maxRecDepth 100000
open Go.Proofs.Tryz
open Go.Lib (hid)
namespace Go.Proofs.YtboehbfagnocpaaGreatDoor
open Go.RowKit Go.PlainAid Go.Shelf
def mnR (N : Nat) (cas : Int) (c : Cm) : Res := wdR N (.slice none 0 0) cas c false
def mfR (N g cap : Nat) (cas : Int) (c : Cm) (k : ByteArray) (fl : Int) (v : ByteArray) (ca la : Int) : Res := many [wdR N (.slice (some ⟨g, 0, none⟩) 1 cap) cas c false, rowI g cap k fl v ca la]
set_option maxHeartbeats 1000000 in
theorem put_no {N : Nat} {cas : Int} {c : Cm} {k2 v2 : ByteArray} {fl2 ca2 la2 : Int} {w : World} (h : (mnR N cas c).R w) (hc0 : 0 ≤ cas) (hc1 : cas ≤ 1000000) :
    Calls prog 169 #[.pointer (some ⟨N, 0, none⟩), itmV k2 fl2 v2 ca2 la2] w fun e w' => ∃ g cap, e = .returned (.pointer (some ⟨g, 0, none⟩)) ∧ Turn (mnR N cas c) (mfR N g cap (cas + 1) c k2 fl2 v2 (cas + 1) la2) w w' := by
  have e1 : IntKind.u64.wrap (cas + 1) = cas + 1 := by rw [IntKind.wrap_u64]; omega
  have J0 := ((Hav.start h).cells #[.string k2, .int .u32 fl2, .string v2, .int .i64 0, .int .u64 ca2, .int .i64 la2, .bool false, .bool false] 50)
  obtain ⟨X, hX⟩ : ∃ X, w.heap.size = X := ⟨_, rfl⟩
  obtain ⟨W, hW⟩ : ∃ W, w.alloc (.cells #[.string k2, .int .u32 fl2, .string v2, .int .i64 0, .int .u64 ca2, .int .i64 la2, .bool false, .bool false] 50) = W := ⟨_, rfl⟩
  rw [hX, hW] at J0
  have k1 : W.cell? ⟨N, 1, none⟩ = some (.int .u64 cas) := cA (J0.get 1 rfl) 1
  have f1 := cZ (J0.get 1 rfl) 1
  have k5 : W.cell? ⟨N, 22, none⟩ = some (.bool false) := cA (J0.get 1 rfl) 22
  obtain ⟨q0, z0, q1, z1, q2, z2, q3, z3, q4, z4, q5, z5, q6, z6, q7, z7⟩ : caf8 W X (.string k2) (.int .u32 fl2) (.string v2) (.int .i64 0) (.int .u64 ca2) (.int .i64 la2) (.bool false) (.bool false) := caf8' (J0.get 0 rfl)
  have hne : ¬ N = X := fun e => J0.apart (i := 1) (j := 0) rfl rfl (by decide) N rfl e
  have hne2 : ¬ X = N := fun e => hne e.symm
  have J1 := (J0.turn 1 rfl (cl_set (J0.get 1 rfl) 1 (.int .u64 (cas + 1))))
  have J2 := J1.turn 0 rfl (cl_set (J1.get 0 rfl) 4 (.int .u64 (cas + 1)))
  have JJ := hid J2
  clear J0 J1 J2 h
  unfold itmV
  go_enter func169, ntmps169
  go_wp2_with (fail)
  obtain ⟨V, hV⟩ : ∃ V, (W.setCell ⟨N, 1, none⟩ (.int .u64 (cas + 1))).setCell ⟨X, 4, none⟩ (.int .u64 (cas + 1)) = V := ⟨_, rfl⟩
  rw [hV] at JJ ⊢
  clear hV k1 f1 k5 q0 z0 q1 z1 q2 z2 q3 z3 q4 z4 q5 z5 q6 z6 q7 z7 hne hne2
  have HS : Hid (∀ w', Below V.heap.size V w' → w'.cell? ⟨N, 0, none⟩ = some (.slice none 0 0) ∧ w'.cell? ⟨N, 21, none⟩ = some (.int .i64 0) ∧ w'.cell? ⟨X, 0, none⟩ = some (.string k2) ∧ w'.cell? ⟨X, 1, none⟩ = some (.int .u32 fl2) ∧ w'.cell? ⟨X, 2, none⟩ = some (.string v2) ∧ w'.cell? ⟨X, 3, none⟩ = some (.int .i64 0) ∧ w'.cell? ⟨X, 4, none⟩ = some (.int .u64 (cas + 1)) ∧ w'.cell? ⟨X, 5, none⟩ = some (.int .i64 la2) ∧ w'.cell? ⟨X, 6, none⟩ = some (.bool false) ∧ w'.cell? ⟨X, 7, none⟩ = some (.bool false)) := hid (fun w' hb => by
    have h0 := (JJ.out.below hb).get 0 rfl
    have h1 := (JJ.out.below hb).get 1 rfl
    exact ⟨cA h1 0, cA h1 21, cA h0 0, cA h0 1, cA h0 2, cA h0 3, cA h0 4, cA h0 5, cA h0 6, cA h0 7⟩)
  have q0 := (HS.out _ (Below.refl _ _))
  have hfz := cZ (JJ.out.get 1 rfl) 0
  go_upto_region 5 with fail
  go_cut [] from 28 to 43 (fun wx => ∃ g cap, Hid (Turn (mnR N cas c) (mfR N g cap (cas + 1) c k2 fl2 v2 (cas + 1) la2) w wx))
  case first =>
    obtain ⟨a0, a1, a2, a3, a4, a5, a6, a7, a8, a9⟩ := q0
    have HN := hid (fun (W : World) (xb : Nat) (hc : ∀ j u, (itmL k2 fl2 v2 (cas + 1) la2)[j]? = some u → W.cell? ⟨xb, j, none⟩ = some u) => insI_0 hc)
    have HC : Hid (∀ j u, (itmL k2 fl2 v2 (cas + 1) la2)[j]? = some u → (V.alloc (.cells #[.string k2, .int .u32 fl2, .string v2, .int .i64 0, .int .u64 (cas + 1), .int .i64 la2, .bool false, .bool false] 50)).drew.cell? ⟨V.heap.size, j, none⟩ = some u) := hid (fun j u hj => by
      have h := cA (((Made.cells V #[.string k2, .int .u32 fl2, .string v2, .int .i64 0, .int .u64 (cas + 1), .int .i64 la2, .bool false, .bool false] 50).drew).here) j
      rw [h, ← Array.getElem?_toList]; exact hj)
    have JE := hid ((JJ.out.alloc (.cells #[.string k2, .int .u32 fl2, .string v2, .int .i64 0, .int .u64 (cas + 1), .int .i64 la2, .bool false, .bool false] 50)).drew)
    have d0 : (V.alloc (.cells #[.string k2, .int .u32 fl2, .string v2, .int .i64 0, .int .u64 (cas + 1), .int .i64 la2, .bool false, .bool false] 50)).drew.cell? ⟨N, 0, none⟩ = some (.slice none 0 0) := cA (JE.out.get 1 rfl) 0
    have d1 : (V.alloc (.cells #[.string k2, .int .u32 fl2, .string v2, .int .i64 0, .int .u64 (cas + 1), .int .i64 la2, .bool false, .bool false] 50)).drew.cell? ⟨N, 21, none⟩ = some (.int .i64 0) := cA (JE.out.get 1 rfl) 21
    clear JJ HS
    go_region_with ((go_at_call 225; (with_reducible refine (HN.out _ _ HC.out).mono ?_); rintro e w1 ⟨g, cap, rfl, hm⟩
                     have JF := JE.out.made hm
                     have b0 : w1.cell? ⟨N, 0, none⟩ = some (.slice none 0 0) := cA (JF.get 2 rfl) 0
                     have bf := cZ (JF.get 2 rfl) 0
                     have JG := JF.turn 2 rfl (cl_set (JF.get 2 rfl) 0 (.slice (some ⟨g, 0, none⟩) 1 cap))
                     have HF : Hid (Turn (mnR N cas c) (mfR N g cap (cas + 1) c k2 fl2 v2 (cas + 1) la2) w (w1.setCell ⟨N, 0, none⟩ (.slice (some ⟨g, 0, none⟩) 1 cap))) := hid (((JG.sub (.cons_cons _ (.cons _ (List.Sublist.refl _)))).perm (.swap _ _ _)).shut)
                     clear JF JG hm))
    all_goals (go_wp2_with fail)
    all_goals (go_meet; exact ⟨_, _, HF⟩)
  case rest =>
    obtain ⟨g, cap, ht⟩ := hcut
    have HI3 := hid (item_at (h := (Hav.open ht.out.here).get 0 rfl))
    clear q0 hfz HS JJ
    go_wp2_with (go_at_call 109; refine HI3.out.mono ?_; rintro e w1 ⟨rfl, m, rfl⟩)
    go_ret
    exact ⟨_, _, rfl, ht.out.drewN _⟩
end Go.Proofs.YtboehbfagnocpaaGreatDoor
