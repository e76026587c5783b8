/- Tmc. -/
import Derived.Test.YtboehbfagnocpaaGreatDoorUao
set_option linter.unusedVariables false
set_option linter.unusedSimpArgs false
set_option maxRecDepth 100000
open Go.Proofs.Tryz
open Go.Lib (hid)
namespace Go.Proofs.YtboehbfagnocpaaGreatDoor
open Go.RowKit Go.PlainAid Go.Shelf
def mwL (N g cap : Nat) (cas : Int) (c : Cm) (k : ByteArray) (fl : Int) (v : ByteArray) (ca la : Int) : List Res := [wdR N (.slice (some ⟨g, 0, none⟩) 1 cap) cas c true, rowI g cap k fl v ca la]
def mwR (N g cap : Nat) (cas : Int) (c : Cm) (k : ByteArray) (fl : Int) (v : ByteArray) (ca la : Int) : Res := many (mwL N g cap cas c k fl v ca la)
theorem mw_drewN {N g cap : Nat} {cas : Int} {c : Cm} {k v : ByteArray} {fl ca la : Int} {w : World} (h : (mwR N g cap cas c k fl v ca la).R w) (n : Nat) : (mwR N g cap cas c k fl v ca la).R (w.drewN n) := (Turn.rfl' h).drewN n |>.here
theorem other_at {N g cap : Nat} {cas : Int} {c : Cm} {k v : ByteArray} {fl ca la : Int} {w : World} {b : Bool} (h : (mwR N g cap cas c k fl v ca la).R w) (hb : (c.hasCas = false ∧ b = false) ∨ (c.hasCas = true ∧ ((ca = c.cas ∧ b = false) ∨ (¬ ca = c.cas ∧ b = true)))) :
    Calls prog 170 #[.pointer (some ⟨N, 0, none⟩)] w fun e w' => e = .returned (.bool b) ∧ ∃ m, w' = w.drewN m := by
  have I := Hav.open h
  have HI := hid (fun n => item_at (h := (Hav.open (mw_drewN h n)).get 0 rfl))
  have k2 : w.cell? ⟨N, 11, none⟩ = some (.int .u64 c.cas) := cA (I.get 0 rfl) 11
  have k3 : w.cell? ⟨N, 12, none⟩ = some (.bool c.hasCas) := cA (I.get 0 rfl) 12
  have k4 : w.cell? ⟨g, 4, none⟩ = some (.int .u64 ca) := row_at (I.get 1 rfl) 4 (Nat.lt_of_lt_of_eq (m := 8) (by decide) rfl)
  clear I h
  rcases hb with ⟨h1, rfl⟩ | ⟨h1, ⟨h2, rfl⟩ | ⟨h2, rfl⟩⟩ <;> rw [h1] at k3
  · go_enter func170, ntmps170
    go_wp2_with (fail)
    go_quiet ((go_at_call 109; exact Calls.quiet_of (HI.out _)))
    go_wp2
    go_ret
    exact ⟨rfl, _, rfl⟩
  · rw [h2] at k4
    have hq : (c.cas != c.cas) = false := by simp
    go_enter func170, ntmps170
    go_wp2_with (fail)
    go_quiet ((go_at_call 109; exact Calls.quiet_of (HI.out _)))
    go_wp2
    go_ret
    exact ⟨by simp, _, rfl⟩
  · have hq : (ca != c.cas) = true := by simpa using h2
    go_enter func170, ntmps170
    go_wp2_with (fail)
    go_quiet ((go_at_call 109; exact Calls.quiet_of (HI.out _)))
    go_wp2
    go_ret
    exact ⟨by first | rfl | simp [hq] | simp [h2], _, rfl⟩
def setsL : Nat → List Value → List Value → List Value
  | _, [], a => a
  | i, v :: l, a => setsL (i + 1) l (a.set i v)
theorem row_sets {g n cap E size : Nat} : ∀ {xs : List Value} {w : World} (h : (rowAt (.slice (some ⟨g, 0, none⟩) n cap) E size n xs).R w) (l : List Value) (i : Nat),
    Turn (rowAt (.slice (some ⟨g, 0, none⟩) n cap) E size n xs) (rowAt (.slice (some ⟨g, 0, none⟩) n cap) E size n (setsL i l xs)) w (setsW g i l w)
  | _, _, h, [], _ => Turn.rfl' h
  | _, _, h, v :: l, i => (row_set h i v).trans (row_sets (row_set h i v).here l (i + 1))
set_option maxHeartbeats 400000 in
theorem put_is {N g cap : Nat} {cas : Int} {c : Cm} {k v k2 v2 : ByteArray} {fl ca la fl2 ca2 la2 : Int} {w : World} (h : (mwR N g cap cas c k fl v ca la).R w) (hc0 : 0 ≤ cas) (hc1 : cas ≤ 1000000) :
    Calls prog 169 #[.pointer (some ⟨N, 0, none⟩), itmV k2 fl2 v2 ca2 la2] w fun e w' => e = .returned (.pointer (some ⟨g, 0, none⟩)) ∧ Turn (mwR N g cap cas c k fl v ca la) (mwR N g cap (cas + 1) c k2 fl2 v2 (cas + 1) la2) w w' := by
  have I0 := Hav.start h
  have e1 : IntKind.u64.wrap (cas + 1) = cas + 1 := by rw [IntKind.wrap_u64]; omega
  have J0 := ((Hav.open h).cells #[.string k2, .int .u32 fl2, .string v2, .int .i64 0, .int .u64 ca2, .int .i64 la2, .bool false, .bool false] 50)
  obtain ⟨X, hX⟩ : ∃ X, w.heap.size = X := ⟨_, rfl⟩
  obtain ⟨W, hW⟩ : ∃ W, w.alloc (.cells #[.string k2, .int .u32 fl2, .string v2, .int .i64 0, .int .u64 ca2, .int .i64 la2, .bool false, .bool false] 50) = W := ⟨_, rfl⟩
  rw [hX, hW] at J0
  have k1 : W.cell? ⟨N, 1, none⟩ = some (.int .u64 cas) := cA (J0.get 1 rfl) 1
  have f1 := cZ (J0.get 1 rfl) 1
  have k5 : W.cell? ⟨N, 22, none⟩ = some (.bool true) := cA (J0.get 1 rfl) 22
  obtain ⟨q0, z0, q1, z1, q2, z2, q3, z3, q4, z4, q5, z5, q6, z6, q7, z7⟩ : caf8 W X (.string k2) (.int .u32 fl2) (.string v2) (.int .i64 0) (.int .u64 ca2) (.int .i64 la2) (.bool false) (.bool false) := caf8' (J0.get 0 rfl)
  have hne : ¬ N = X := fun e => J0.apart (i := 1) (j := 0) rfl rfl (by decide) N rfl e
  have hne2 : ¬ X = N := fun e => hne e.symm
  have J1 := (J0.turn 1 rfl (cl_set (J0.get 1 rfl) 1 (.int .u64 (cas + 1))))
  have J2 := J1.turn 0 rfl (cl_set (J1.get 0 rfl) 4 (.int .u64 (cas + 1)))
  have JJ := hid J2
  clear J0 J1 J2 I0 h
  unfold itmV
  go_enter func169, ntmps169
  go_wp2_with (fail)
  obtain ⟨V, hV⟩ : ∃ V, (W.setCell ⟨N, 1, none⟩ (.int .u64 (cas + 1))).setCell ⟨X, 4, none⟩ (.int .u64 (cas + 1)) = V := ⟨_, rfl⟩
  rw [hV] at JJ ⊢
  clear hV k1 f1 k5 q0 z0 q1 z1 q2 z2 q3 z3 q4 z4 q5 z5 q6 z6 q7 z7 hne hne2
  obtain ⟨q0, q1, q2, q3, q4, q5, q6, q7⟩ : ca8 V X (.string k2) (.int .u32 fl2) (.string v2) (.int .i64 0) (.int .u64 (cas + 1)) (.int .i64 la2) (.bool false) (.bool false) := ca8' (JJ.out.get 0 rfl)
  obtain ⟨y0, z0, y1, z1, y2, z2, y3, z3, y4, z4, y5, z5, y6, z6, y7, z7⟩ : raf8 V g (.string k) (.int .u32 fl) (.string v) (.int .i64 0) (.int .u64 ca) (.int .i64 la) (.bool false) (.bool false) := raf8' (JJ.out.get 2 rfl)
  have HI := hid (item_at (h := JJ.out.get 1 rfl))
  have HI2 := hid (item_at (h := (JJ.out.drew).get 1 rfl))
  have JD := hid (fun n => (JJ.out.drewN n).turn 2 rfl (row_sets (JJ.out.drewN n |>.get 2 rfl) [.string k2, .int .u32 fl2, .string v2, .int .i64 0, .int .u64 (cas + 1), .int .i64 la2, .bool false, .bool false] 0))
  have hl : ∀ n, (setsW g 0 [.string k2, .int .u32 fl2, .string v2, .int .i64 0, .int .u64 (cas + 1), .int .i64 la2, .bool false, .bool false] (V.drewN n)).cell? ⟨X, 0, none⟩ = some (.string k2) ∧ (setsW g 0 [.string k2, .int .u32 fl2, .string v2, .int .i64 0, .int .u64 (cas + 1), .int .i64 la2, .bool false, .bool false] (V.drewN n)).cell? ⟨X, 1, none⟩ = some (.int .u32 fl2) ∧ (setsW g 0 [.string k2, .int .u32 fl2, .string v2, .int .i64 0, .int .u64 (cas + 1), .int .i64 la2, .bool false, .bool false] (V.drewN n)).cell? ⟨X, 2, none⟩ = some (.string v2) ∧ (setsW g 0 [.string k2, .int .u32 fl2, .string v2, .int .i64 0, .int .u64 (cas + 1), .int .i64 la2, .bool false, .bool false] (V.drewN n)).cell? ⟨X, 3, none⟩ = some (.int .i64 0) ∧ (setsW g 0 [.string k2, .int .u32 fl2, .string v2, .int .i64 0, .int .u64 (cas + 1), .int .i64 la2, .bool false, .bool false] (V.drewN n)).cell? ⟨X, 4, none⟩ = some (.int .u64 (cas + 1)) ∧ (setsW g 0 [.string k2, .int .u32 fl2, .string v2, .int .i64 0, .int .u64 (cas + 1), .int .i64 la2, .bool false, .bool false] (V.drewN n)).cell? ⟨X, 5, none⟩ = some (.int .i64 la2) ∧ (setsW g 0 [.string k2, .int .u32 fl2, .string v2, .int .i64 0, .int .u64 (cas + 1), .int .i64 la2, .bool false, .bool false] (V.drewN n)).cell? ⟨X, 6, none⟩ = some (.bool false) ∧ (setsW g 0 [.string k2, .int .u32 fl2, .string v2, .int .i64 0, .int .u64 (cas + 1), .int .i64 la2, .bool false, .bool false] (V.drewN n)).cell? ⟨X, 7, none⟩ = some (.bool false) := fun n => by
    have h := (JD.out n).get 0 rfl
    exact ⟨cA h 0, cA h 1, cA h 2, cA h 3, cA h 4, cA h 5, cA h 6, cA h 7⟩
  simp only [setsW] at hl
  have HS3 := hid hl
  have HS1 : Hid (∀ n, (V.drewN n).cell? ⟨X, 0, none⟩ = some (.string k2) ∧ (V.drewN n).cell? ⟨X, 1, none⟩ = some (.int .u32 fl2) ∧ (V.drewN n).cell? ⟨X, 2, none⟩ = some (.string v2) ∧ (V.drewN n).cell? ⟨X, 3, none⟩ = some (.int .i64 0) ∧ (V.drewN n).cell? ⟨X, 4, none⟩ = some (.int .u64 (cas + 1)) ∧ (V.drewN n).cell? ⟨X, 5, none⟩ = some (.int .i64 la2) ∧ (V.drewN n).cell? ⟨X, 6, none⟩ = some (.bool false) ∧ (V.drewN n).cell? ⟨X, 7, none⟩ = some (.bool false)) := hid (fun n => ⟨q0, q1, q2, q3, q4, q5, q6, q7⟩)
  have HS2 : Hid (V.drew.cell? ⟨X, 0, none⟩ = some (.string k2) ∧ V.drew.cell? ⟨X, 1, none⟩ = some (.int .u32 fl2) ∧ V.drew.cell? ⟨X, 2, none⟩ = some (.string v2) ∧ V.drew.cell? ⟨X, 3, none⟩ = some (.int .i64 0) ∧ V.drew.cell? ⟨X, 4, none⟩ = some (.int .u64 (cas + 1)) ∧ V.drew.cell? ⟨X, 5, none⟩ = some (.int .i64 la2) ∧ V.drew.cell? ⟨X, 6, none⟩ = some (.bool false) ∧ V.drew.cell? ⟨X, 7, none⟩ = some (.bool false)) := hid ⟨q0, q1, q2, q3, q4, q5, q6, q7⟩
  clear hl
  have hF : ∀ n, Turn (mwR N g cap cas c k fl v ca la) (mwR N g cap (cas + 1) c k2 fl2 v2 (cas + 1) la2) w (setsW g 0 [.string k2, .int .u32 fl2, .string v2, .int .i64 0, .int .u64 (cas + 1), .int .i64 la2, .bool false, .bool false] (V.drewN n)) := fun n => by
    have h := JD.out n
    simp only [List.set, setsL, itmL, rowI] at h
    exact (h.sub (.cons _ (List.Sublist.refl _))).shut
  simp only [setsW] at hF
  have HF := hid hF
  clear hF
  go_upto_region 4 with fail
  go_cut [25] from 24 to 27 (fun s25 wx => s25 = .pointer (some ⟨g, 0, none⟩) ∧ Hid (Turn (mwR N g cap cas c k fl v ca la) (mwR N g cap (cas + 1) c k2 fl2 v2 (cas + 1) la2) w wx))
  case first =>
    go_region_held3 (fun w' => w'.cell? ⟨X, 0, none⟩ = some (.string k2) ∧ w'.cell? ⟨X, 1, none⟩ = some (.int .u32 fl2) ∧ w'.cell? ⟨X, 2, none⟩ = some (.string v2) ∧ w'.cell? ⟨X, 3, none⟩ = some (.int .i64 0) ∧ w'.cell? ⟨X, 4, none⟩ = some (.int .u64 (cas + 1)) ∧ w'.cell? ⟨X, 5, none⟩ = some (.int .i64 la2) ∧ w'.cell? ⟨X, 6, none⟩ = some (.bool false) ∧ w'.cell? ⟨X, 7, none⟩ = some (.bool false)) (first | with_reducible exact ⟨q0, q1, q2, q3, q4, q5, q6, q7⟩ | with_reducible exact HS2.out | with_reducible exact HS1.out _ | with_reducible exact HS3.out _ | fail) (
      (go_at_call 109; (first | (with_reducible refine HI.out.mono ?_) | (with_reducible refine HI2.out.mono ?_)); rintro e w1 ⟨rfl, m, rfl⟩))
    all_goals (go_wp2_with fail)
    all_goals (go_meet; exact ⟨rfl, hid (HF.out _)⟩)
  case rest =>
    obtain ⟨rfl, ht⟩ := hcut
    have HI3 := hid (item_at (h := (Hav.open ht.out.here).get 0 rfl))
    clear q0 q1 q2 q3 q4 q5 q6 q7 y0 y1 y2 y3 y4 y5 y6 y7 z0 z1 z2 z3 z4 z5 z6 z7
    go_wp2_with (go_at_call 109; refine HI3.out.mono ?_; rintro e w1 ⟨rfl, m, rfl⟩)
    go_ret
    exact ⟨rfl, ht.out.drewN _⟩
theorem insI_0 {w : World} {xb : Nat} {k v : ByteArray} {fl ca la : Int} (hc : ∀ j u, (itmL k fl v ca la)[j]? = some u → w.cell? ⟨xb, j, none⟩ = some u) :
    Calls prog 225 #[.slice none 0 0, .int .i64 0, .slice (some ⟨xb, 0, none⟩) 1 1] w fun e w' => ∃ g cap, e = .returned (.slice (some ⟨g, 0, none⟩) 1 cap) ∧ Made (rowI g cap k fl v ca la) w w' := by
  have hc' : ∀ j u, (itmL k fl v ca la)[j]? = some u → w.cell? ((⟨xb, 0, none⟩ : Addr).add j) = some u := fun j u hj => by
    have h := hc j u hj
    cases j <;> simpa [Addr.add] using h
  have HC := hid hc'
  clear hc hc'
  go_enter func225, ntmps225
  go_wp2_with (at_builtin; go_must (refine wp_appSl elem_itm rfl _ _ ⟨xb, 0, none⟩ 1 rfl rfl (row_nil _ _ _) rfl (by rfl) HC.out (by simp [itmL, Value.oneCell']) (by omega) (by omega) ?_))
  intro g cap w2 ht
  go_wp2
  go_ret
  exact ⟨g, cap, rfl, (Made.mk (row_nil _ _ _) (Below.refl _ _) (fun b hb => by cases hb)).turn ht⟩
end Go.Proofs.YtboehbfagnocpaaGreatDoor
