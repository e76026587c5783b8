/- Tmk. -/
import Derived.Test.YtboehbfagnocpaaGreatDoorUar
import Derived.Test.YtboehbfagnocpaaGreatDoorUaw
set_option linter.unusedVariables false
set_option linter.unusedSimpArgs false
set_option maxRecDepth 100000
open Go.Proofs.Tryz
open Go.Lib (hid)
namespace Go.Proofs.YtboehbfagnocpaaGreatDoor
open Go.RowKit Go.PlainAid Go.Shelf
theorem Hav.emp {D : Nat → Prop} {w0 w : World} {L : List Res} (h : Hav D w0 L w) : Hav D w0 (emp :: L) w :=
  ⟨fun r hr => by rcases List.mem_cons.1 hr with rfl | h1; exact trivial; exact h.all r h1, List.pairwise_cons.2 ⟨fun _ _ _ hb => hb.elim, h.ap⟩, fun r hr b hb => by rcases List.mem_cons.1 hr with rfl | h1; exact hb.elim; exact h.lo r h1 b hb, h.tch⟩
set_option maxHeartbeats 1000000 in
theorem get_no {N : Nat} {cas : Int} {c : Cm} {w : World} (h : (mnR N cas c).R w) :
    Calls prog 104 #[.pointer (some ⟨N, 0, none⟩)] w fun e w' => e = .returned (.agg (ansT 5)) ∧ Below w.heap.size w w' := by
  have J0 := (Hav.none w).cells (ansT 0) 52
  have hbw := bA w (.cells (ansT 0) 52)
  have h0 := (mnR N cas c).keep h (Tch.of_below (fun _ => False) hbw) (fun _ _ x => x)
  obtain ⟨X, hX⟩ : ∃ X, w.heap.size = X := ⟨_, rfl⟩
  obtain ⟨W, hW⟩ : ∃ W, w.alloc (.cells (ansT 0) 52) = W := ⟨_, rfl⟩
  rw [hX, hW] at J0
  rw [hW] at h0
  have k22 : W.cell? ⟨N, 22, .none⟩ = some (.bool false) := cA h0 22
  have k16 : W.cell? ⟨N, 16, .none⟩ = some (.bool false) := cA h0 16
  have HJ := hid J0
  have HT := hid (fun w' => told_ok 5 w')
  unfold ansT at HT hW
  clear J0 h h0 hbw
  go_enter func104, ntmps104
  go_wp2_with (fail)
  go_at_call 107
  refine (HT.out _).mono ?_
  rintro e w1 ⟨rfl, hb1⟩
  have J1 := HJ.out.below hb1
  obtain ⟨r0, u0, r1, u1, r2, u2, r3, u3, r4, u4, r5, u5, r6, u6, r7, u7, r8, u8, r9, u9, r10, u10, r11, u11, r12, u12⟩ : caf13 w1 X (.int .i64 0) (.string ⟨#[]⟩) (.int .u32 0) (.string ⟨#[]⟩) (.int .i64 0) (.int .u64 0) (.int .i64 0) (.bool false) (.bool false) (.int .u64 0) (.bool false) (.bool false) (.bool false) := caf13' (J1.get 0 rfl)
  have hs := cl_sets X 52 [.int .i64 5, .string ⟨#[]⟩, .int .u32 0, .string ⟨#[]⟩, .int .i64 0, .int .u64 0, .int .i64 0, .bool false, .bool false, .int .u64 0, .bool false, .bool false, .bool false] 0 _ _ (J1.get 0 rfl)
  have k1 := J1.turn 0 rfl hs
  have h2 := k1.get 0 rfl
  rw [ans_set0] at h2
  have h3 := (k1.made0 0 rfl).bel
  simp only [setsW] at h2 h3
  have HE := hid (And.intro h2 h3)
  clear hs k1 h2 h3 J1 HJ hb1
  go_wp2_with (fail)
  exact ret_ans (N := X) rfl rfl HE.out.1 ⟨rfl, HE.out.2⟩
set_option maxHeartbeats 1000000 in
theorem store_tno {N : Nat} {cas : Int} {key value : ByteArray} {flags tok delta : Int} {w : World} (h : (mnR N cas ⟨2, 0, key, value, flags, 0, tok, true, delta, -1⟩).R w) :
    Calls prog 105 #[.pointer (some ⟨N, 0, none⟩)] w fun e w' => e = .returned (.agg (ansT 5)) ∧ Below w.heap.size w w' := by
  have J0 := (Hav.none w).cells (ansT 0) 52
  have hbw := bA w (.cells (ansT 0) 52)
  have h0 := (mnR N cas ⟨2, 0, key, value, flags, 0, tok, true, delta, -1⟩).keep h (Tch.of_below (fun _ => False) hbw) (fun _ _ x => x)
  obtain ⟨X, hX⟩ : ∃ X, w.heap.size = X := ⟨_, rfl⟩
  obtain ⟨W, hW⟩ : ∃ W, w.alloc (.cells (ansT 0) 52) = W := ⟨_, rfl⟩
  rw [hX, hW] at J0
  rw [hW] at h0
  have o4 : W.cell? ⟨N, 4, none⟩ = some (.int .i64 2) := cA h0 4
  have o5 : W.cell? ⟨N, 5, none⟩ = some (.int .i64 0) := cA h0 5
  have o6 : W.cell? ⟨N, 6, none⟩ = some (.string key) := cA h0 6
  have o7 : W.cell? ⟨N, 7, none⟩ = some (.string value) := cA h0 7
  have o8 : W.cell? ⟨N, 8, none⟩ = some (.int .u32 flags) := cA h0 8
  have o9 : W.cell? ⟨N, 9, none⟩ = some (.int .i64 0) := cA h0 9
  have o10 : W.cell? ⟨N, 10, none⟩ = some (.bool false) := cA h0 10
  have o11 : W.cell? ⟨N, 11, none⟩ = some (.int .u64 tok) := cA h0 11
  have o12 : W.cell? ⟨N, 12, none⟩ = some (.bool true) := cA h0 12
  have o13 : W.cell? ⟨N, 13, none⟩ = some (.int .u64 delta) := cA h0 13
  have o14 : W.cell? ⟨N, 14, none⟩ = some (.int .u64 0) := cA h0 14
  have o15 : W.cell? ⟨N, 15, none⟩ = some (.bool false) := cA h0 15
  have o16 : W.cell? ⟨N, 16, none⟩ = some (.bool false) := cA h0 16
  have o17 : W.cell? ⟨N, 17, none⟩ = some (.int .i64 0) := cA h0 17
  have o18 : W.cell? ⟨N, 18, none⟩ = some (.int .i64 (-1)) := cA h0 18
  have o19 : W.cell? ⟨N, 19, none⟩ = some (.bool false) := cA h0 19
  have k22 : W.cell? ⟨N, 22, none⟩ = some (.bool false) := cA h0 22
  have hNX : N < W.heap.size := (mnR N cas ⟨2, 0, key, value, flags, 0, tok, true, delta, -1⟩).lt h0 rfl
  have hNX2 : ¬ N = W.heap.size := by omega
  have J00 := J0.cells (Cm.vs ⟨2, 0, key, value, flags, 0, tok, true, delta, -1⟩) 56
  have k22b : (W.alloc (.cells (Cm.vs ⟨2, 0, key, value, flags, 0, tok, true, delta, -1⟩) 56)).cell? ⟨N, 22, none⟩ = some (.bool false) := ((bA W _).cell (p := ⟨N, 22, none⟩) hNX).trans k22
  unfold Cm.vs at J00 k22b
  dsimp only at J00 k22b
  have HJ0 := hid (J00.sub (.cons _ (List.Sublist.refl _)))
  have HT := hid (fun w' => told_ok 5 w')
  unfold ansT at HT hW
  clear J0 J00 h h0 hbw
  go_enter func105, ntmps105
  go_wp2_with (fail)
  go_at_call 107
  refine (HT.out _).mono ?_
  rintro e w1 ⟨rfl, hb1⟩
  have HJ := HJ0
  have J1 := HJ.out.below hb1
  obtain ⟨r0, u0, r1, u1, r2, u2, r3, u3, r4, u4, r5, u5, r6, u6, r7, u7, r8, u8, r9, u9, r10, u10, r11, u11, r12, u12⟩ : caf13 w1 X (.int .i64 0) (.string ⟨#[]⟩) (.int .u32 0) (.string ⟨#[]⟩) (.int .i64 0) (.int .u64 0) (.int .i64 0) (.bool false) (.bool false) (.int .u64 0) (.bool false) (.bool false) (.bool false) := caf13' (J1.get 0 rfl)
  have hs := cl_sets X 52 [.int .i64 5, .string ⟨#[]⟩, .int .u32 0, .string ⟨#[]⟩, .int .i64 0, .int .u64 0, .int .i64 0, .bool false, .bool false, .int .u64 0, .bool false, .bool false, .bool false] 0 _ _ (J1.get 0 rfl)
  have k1 := J1.turn 0 rfl hs
  have h2 := k1.get 0 rfl
  rw [ans_set0] at h2
  have h3 := (k1.made0 0 rfl).bel
  simp only [setsW] at h2 h3
  have HE := hid (And.intro h2 h3)
  clear hs k1 h2 h3 J1 HJ hb1 HJ0
  go_wp2_with (fail)
  exact ret_ans (N := X) rfl rfl HE.out.1 ⟨rfl, HE.out.2⟩
end Go.Proofs.YtboehbfagnocpaaGreatDoor
