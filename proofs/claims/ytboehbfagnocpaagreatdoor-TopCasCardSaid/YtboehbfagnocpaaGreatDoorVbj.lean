/- Tmm. -/
import Derived.Test.YtboehbfagnocpaaGreatDoorVai
import Derived.Test.YtboehbfagnocpaaGreatDoorVat
import Derived.Test.YtboehbfagnocpaaGreatDoorVau
set_option linter.unusedVariables false
set_option linter.unusedSimpArgs false
set_option maxRecDepth 100000
namespace Go.Proofs.YtboehbfagnocpaaGreatDoor
open Go.RowKit Go.PlainAid Go.Shelf
set_option maxHeartbeats 2000000 in
theorem store_ex {N g cap : Nat} {cas : Int} {k v key value : ByteArray} {fl ca la flags tok delta : Int} {w : World} (h : (mwR N g cap cas ⟨2, 0, key, value, flags, 0, tok, true, delta, -1⟩ k fl v ca la).R w) (hct : ¬ ca = tok) :
    Calls Tryz.prog 105 #[.pointer (some ⟨N, 0, none⟩)] w fun e w' => e = .returned (.agg (ans1 4 ⟨#[]⟩ 0 ⟨#[]⟩ 0 0 0)) ∧ Turn (mwR N g cap cas ⟨2, 0, key, value, flags, 0, tok, true, delta, -1⟩ k fl v ca la) (mwR N g cap cas ⟨2, 0, key, value, flags, 0, tok, true, delta, -1⟩ k fl v ca la) w w' := by
  have J0 := ((Hav.start h).cells (ansT 0) 52)
  have J1 := J0.cells (Cm.vs ⟨2, 0, key, value, flags, 0, tok, true, delta, -1⟩) 56
  simp only [World.size_alloc] at J1
  obtain ⟨X, hX⟩ : ∃ X, w.heap.size = X := ⟨_, rfl⟩
  have j0 := (Hav.open (J0.get 1 rfl)).get 0 rfl
  obtain ⟨W0, hW0⟩ : ∃ W0, w.alloc (.cells (ansT 0) 52) = W0 := ⟨_, rfl⟩
  rw [hW0] at j0 J1
  obtain ⟨W, hW⟩ : ∃ W, W0.alloc (.cells (Cm.vs ⟨2, 0, key, value, flags, 0, tok, true, delta, -1⟩) 56) = W := ⟨_, rfl⟩
  rw [hW, hX] at J1
  have hX2 : W0.heap.size = X + 1 := by rw [← hW0]; simp [hX]
  have o4 : W0.cell? ⟨N, 4, none⟩ = some (.int .i64 2) := cells_at j0 4
  have o5 : W0.cell? ⟨N, 5, none⟩ = some (.int .i64 0) := cells_at j0 5
  have o6 : W0.cell? ⟨N, 6, none⟩ = some (.string key) := cells_at j0 6
  have o7 : W0.cell? ⟨N, 7, none⟩ = some (.string value) := cells_at j0 7
  have o8 : W0.cell? ⟨N, 8, none⟩ = some (.int .u32 flags) := cells_at j0 8
  have o9 : W0.cell? ⟨N, 9, none⟩ = some (.int .i64 0) := cells_at j0 9
  have o10 : W0.cell? ⟨N, 10, none⟩ = some (.bool false) := cells_at j0 10
  have o11 : W0.cell? ⟨N, 11, none⟩ = some (.int .u64 tok) := cells_at j0 11
  have o12 : W0.cell? ⟨N, 12, none⟩ = some (.bool true) := cells_at j0 12
  have o13 : W0.cell? ⟨N, 13, none⟩ = some (.int .u64 delta) := cells_at j0 13
  have o14 : W0.cell? ⟨N, 14, none⟩ = some (.int .u64 0) := cells_at j0 14
  have o15 : W0.cell? ⟨N, 15, none⟩ = some (.bool false) := cells_at j0 15
  have o16 : W0.cell? ⟨N, 16, none⟩ = some (.bool false) := cells_at j0 16
  have o17 : W0.cell? ⟨N, 17, none⟩ = some (.int .i64 0) := cells_at j0 17
  have o18 : W0.cell? ⟨N, 18, none⟩ = some (.int .i64 (-1)) := cells_at j0 18
  have o19 : W0.cell? ⟨N, 19, none⟩ = some (.bool false) := cells_at j0 19
  have k22 : W.cell? ⟨N, 22, none⟩ = some (.bool true) := cells_at ((Hav.open (J1.get 2 rfl)).get 0 rfl) 22
  have HO := Lib.hid (other_at (b := true) (J1.get 2 rfl) (.inr ⟨rfl, .inr ⟨hct, rfl⟩⟩))
  obtain ⟨c0, c1, c2, c3, c4, c5, c6, c7, c8, c9, c10, c11, c12, c13, c14, c15⟩ : ca16 W (X + 1) (.int .i64 2) (.int .i64 0) (.string key) (.string value) (.int .u32 flags) (.int .i64 0) (.bool false) (.int .u64 tok) (.bool true) (.int .u64 delta) (.int .u64 0) (.bool false) (.bool false) (.int .i64 0) (.int .i64 (-1)) (.bool false) := ca16' (J1.get 0 rfl)
  have JJ := Lib.hid J1
  simp only [ansT, Cm.vs] at hW0 hW
  have HWW := Lib.hid hW
  clear J0 J1 j0 h hW
  go_enter Tryz.func105, Tryz.ntmps105
  go_upto_region 2 with fail
  rw [HWW.out]
  clear HWW
  go_wp2_with (go_at_call 170; refine HO.out.mono ?_; rintro e w1 ⟨rfl, m, rfl⟩)
  obtain ⟨V, hV⟩ : ∃ V, W.drewN m = V := ⟨_, rfl⟩
  have J1 := JJ.out.drewN m
  rw [hV] at J1
  rw [hV]
  have HT := Lib.hid (fun w' => told_ok 4 w')
  unfold ansT at HT
  clear hV JJ HO k22 hW0 hX hX2 o4 o5 o6 o7 o8 o9 o10 o11 o12 o13 o14 o15 o16 o17 o18 o19 c0 c1 c2 c3 c4 c5 c6 c7 c8 c9 c10 c11 c12 c13 c14 c15
  obtain ⟨c0, c1, c2, c3, c4, c5, c6, c7, c8, c9, c10, c11, c12, c13, c14, c15⟩ : ca16 V (X + 1) (.int .i64 2) (.int .i64 0) (.string key) (.string value) (.int .u32 flags) (.int .i64 0) (.bool false) (.int .u64 tok) (.bool true) (.int .u64 delta) (.int .u64 0) (.bool false) (.bool false) (.int .i64 0) (.int .i64 (-1)) (.bool false) := ca16' (J1.get 0 rfl)
  have HJ := Lib.hid J1
  clear J1
  go_wp2_with (fail)
  go_quiet (fail)
  obtain ⟨V2, hV2⟩ : ∃ V2, V.drewN nq = V2 := ⟨_, rfl⟩
  have J2 := HJ.out.drewN nq
  rw [hV2] at J2
  rw [hV2]
  have HJ2 := Lib.hid J2
  clear hV2 J2 HJ c0 c1 c2 c3 c4 c5 c6 c7 c8 c9 c10 c11 c12 c13 c14 c15
  go_wp2_with (fail)
  go_at_call 107
  refine (HT.out _).mono ?_
  rintro e w1 ⟨rfl, hb1⟩
  have J1 := HJ2.out.below hb1
  obtain ⟨r0, u0, r1, u1, r2, u2, r3, u3, r4, u4, r5, u5, r6, u6, r7, u7, r8, u8, r9, u9, r10, u10, r11, u11, r12, u12⟩ : caf13 w1 X (.int .i64 0) (.string ⟨#[]⟩) (.int .u32 0) (.string ⟨#[]⟩) (.int .i64 0) (.int .u64 0) (.int .i64 0) (.bool false) (.bool false) (.int .u64 0) (.bool false) (.bool false) (.bool false) := caf13' (J1.get 1 rfl)
  have hs := cl_sets X 52 [.int .i64 4, .string ⟨#[]⟩, .int .u32 0, .string ⟨#[]⟩, .int .i64 0, .int .u64 0, .int .i64 0, .bool false, .bool false, .int .u64 0, .bool false, .bool false, .bool false] 0 _ _ (J1.get 1 rfl)
  have k1 := J1.turn 1 rfl hs
  have h2 := k1.get 1 rfl
  rw [ans_set0] at h2
  have h3 := (k1.sub (.cons _ (.cons _ (List.Sublist.refl _)))).one
  simp only [setsW] at h2 h3
  have HE := Lib.hid (And.intro h2 h3)
  clear hs k1 h2 h3 J1 HJ2 hb1
  go_wp2_with (fail)
  exact ret_ans (N := X) rfl rfl HE.out.1 ⟨rfl, HE.out.2⟩
end Go.Proofs.YtboehbfagnocpaaGreatDoor
