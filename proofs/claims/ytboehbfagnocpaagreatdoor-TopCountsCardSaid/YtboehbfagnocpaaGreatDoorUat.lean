/- Tmf. -/
import Derived.Test.YtboehbfagnocpaaGreatDoorUar
import Derived.Test.YtboehbfagnocpaaGreatDoorUas
set_option linter.unusedVariables false
set_option linter.unusedSimpArgs false
set_option maxRecDepth 100000
open Go.Proofs.Tryz
open Go.Lib (hid)
namespace Go.Proofs.YtboehbfagnocpaaGreatDoor
open Go.RowKit Go.PlainAid Go.Shelf
set_option maxHeartbeats 2000000 in
theorem store_is {N g cap : Nat} {cas : Int} {k v key value : ByteArray} {fl ca la flags tok delta : Int} {w : World} (h : (mwR N g cap cas ⟨2, 0, key, value, flags, 0, tok, false, delta, -1⟩ k fl v ca la).R w) (hc0 : 0 ≤ cas) (hc1 : cas ≤ 1000000) (hk : key.size = 1) (hv : value.size ≤ 100) :
    Calls prog 105 #[.pointer (some ⟨N, 0, none⟩)] w fun e w' => e = .returned (.agg (ans1 2 key flags value (cas + 1) 0 0)) ∧ Turn (mwR N g cap cas ⟨2, 0, key, value, flags, 0, tok, false, delta, -1⟩ k fl v ca la) (mwR N g cap (cas + 1) ⟨2, 0, key, value, flags, 0, tok, false, delta, -1⟩ key flags value (cas + 1) 0) w w' := by
  have J0 := ((Hav.start h).cells (ansT 0) 52)
  have J1 := J0.cells (Cm.vs ⟨2, 0, key, value, flags, 0, tok, false, delta, -1⟩) 56
  simp only [World.size_alloc] at J1
  obtain ⟨X, hX⟩ : ∃ X, w.heap.size = X := ⟨_, rfl⟩
  have j0 := (Hav.open (J0.get 1 rfl)).get 0 rfl
  obtain ⟨W0, hW0⟩ : ∃ W0, w.alloc (.cells (ansT 0) 52) = W0 := ⟨_, rfl⟩
  rw [hW0] at j0 J1
  obtain ⟨W, hW⟩ : ∃ W, W0.alloc (.cells (Cm.vs ⟨2, 0, key, value, flags, 0, tok, false, delta, -1⟩) 56) = W := ⟨_, rfl⟩
  rw [hW, hX] at J1
  have hX2 : W0.heap.size = X + 1 := by rw [← hW0]; simp [hX]
  have o4 : W0.cell? ⟨N, 4, none⟩ = some (.int .i64 2) := cA j0 4
  have o5 : W0.cell? ⟨N, 5, none⟩ = some (.int .i64 0) := cA j0 5
  have o6 : W0.cell? ⟨N, 6, none⟩ = some (.string key) := cA j0 6
  have o7 : W0.cell? ⟨N, 7, none⟩ = some (.string value) := cA j0 7
  have o8 : W0.cell? ⟨N, 8, none⟩ = some (.int .u32 flags) := cA j0 8
  have o9 : W0.cell? ⟨N, 9, none⟩ = some (.int .i64 0) := cA j0 9
  have o10 : W0.cell? ⟨N, 10, none⟩ = some (.bool false) := cA j0 10
  have o11 : W0.cell? ⟨N, 11, none⟩ = some (.int .u64 tok) := cA j0 11
  have o12 : W0.cell? ⟨N, 12, none⟩ = some (.bool false) := cA j0 12
  have o13 : W0.cell? ⟨N, 13, none⟩ = some (.int .u64 delta) := cA j0 13
  have o14 : W0.cell? ⟨N, 14, none⟩ = some (.int .u64 0) := cA j0 14
  have o15 : W0.cell? ⟨N, 15, none⟩ = some (.bool false) := cA j0 15
  have o16 : W0.cell? ⟨N, 16, none⟩ = some (.bool false) := cA j0 16
  have o17 : W0.cell? ⟨N, 17, none⟩ = some (.int .i64 0) := cA j0 17
  have o18 : W0.cell? ⟨N, 18, none⟩ = some (.int .i64 (-1)) := cA j0 18
  have o19 : W0.cell? ⟨N, 19, none⟩ = some (.bool false) := cA j0 19
  have k22 : W.cell? ⟨N, 22, none⟩ = some (.bool true) := cA ((Hav.open (J1.get 2 rfl)).get 0 rfl) 22
  have HO := hid (other_at (b := false) (J1.get 2 rfl) (.inl ⟨rfl, rfl⟩))
  obtain ⟨c0, c1, c2, c3, c4, c5, c6, c7, c8, c9, c10, c11, c12, c13, c14, c15⟩ : ca16 W (X + 1) (.int .i64 2) (.int .i64 0) (.string key) (.string value) (.int .u32 flags) (.int .i64 0) (.bool false) (.int .u64 tok) (.bool false) (.int .u64 delta) (.int .u64 0) (.bool false) (.bool false) (.int .i64 0) (.int .i64 (-1)) (.bool false) := ca16' (J1.get 0 rfl)
  have JJ := hid J1
  simp only [ansT, Cm.vs] at hW0 hW
  have HWW := hid hW
  clear J0 J1 j0 h hW
  go_enter func105, ntmps105
  go_upto_region 2 with fail
  rw [HWW.out]
  clear HWW
  go_wp2_with (go_at_call 170; refine HO.out.mono ?_; rintro e w1 ⟨rfl, m, rfl⟩)
  obtain ⟨V, hV⟩ : ∃ V, W.drewN m = V := ⟨_, rfl⟩
  have JV : Hid (Hav (mwR N g cap cas ⟨2, 0, key, value, flags, 0, tok, false, delta, -1⟩ k fl v ca la).B w _ V) := hid (by rw [← hV]; exact JJ.out.drewN m)
  rw [hV]
  clear hV JJ HO k22 hW0 hX hX2 o4 o5 o6 o7 o8 o9 o10 o11 o12 o13 o14 o15 o16 o17 o18 o19 c0 c1 c2 c3 c4 c5 c6 c7 c8 c9 c10 c11 c12 c13 c14 c15
  have HS : Hid (∀ w', Below V.heap.size V w' → w'.cell? ⟨X + 1, 2, none⟩ = some (.string key) ∧ w'.cell? ⟨X + 1, 4, none⟩ = some (.int .u32 flags) ∧ w'.cell? ⟨X + 1, 3, none⟩ = some (.string value) ∧ w'.cell? ⟨X + 1, 5, none⟩ = some (.int .i64 0)) := hid (fun w' hb => by
    have h0 := (JV.out.below hb).get 0 rfl
    exact ⟨cA h0 2, cA h0 4, cA h0 3, cA h0 5⟩)
  have q0 := (HS.out _ (Below.refl _ _))
  have HM := hid (fun w' => moment_0 N w')
  go_upto_region 12 with fail
  go_cut [5] from 66 to 76 (fun s5 wx => ∃ A, s5 = .pointer (some ⟨A, 0, none⟩) ∧ Hid (Made (cAt A #[.string key, .int .u32 flags, .string value, .int .i64 0, .int .u64 0, .int .i64 0, .bool false, .bool false] 50) V wx))
  case first =>
    have HA := hid ((Made.cells V #[.string key, .int .u32 flags, .string value, .int .i64 0, .int .u64 0, .int .i64 0, .bool false, .bool false] 50).drew)
    go_region_held3 (fun w' => w'.cell? ⟨X + 1, 2, none⟩ = some (.string key) ∧ w'.cell? ⟨X + 1, 4, none⟩ = some (.int .u32 flags) ∧ w'.cell? ⟨X + 1, 3, none⟩ = some (.string value) ∧ w'.cell? ⟨X + 1, 5, none⟩ = some (.int .i64 0)) (first | with_reducible exact q0 | exact HS.out _ (by go_grown) | fail) (
      (go_at_call 108; refine (HM.out _).mono ?_; rintro e w1 ⟨rfl, rfl⟩))
    all_goals (go_wp2_with fail)
    all_goals (go_meet; exact ⟨_, rfl, HA⟩)
  case rest =>
    obtain ⟨A, rfl, hA⟩ := hcut
    have K0 := JV.out.made hA.out
    have c1 : wc.cell? ⟨X + 1, 1, none⟩ = some (.int .i64 0) := cA (K0.get 1 rfl) 1
    obtain ⟨a0, b0, a1, b1, a2, b2, a3, b3, a4, b4, a5, b5, a6, b6, a7, b7⟩ : caf8 wc A (.string key) (.int .u32 flags) (.string value) (.int .i64 0) (.int .u64 0) (.int .i64 0) (.bool false) (.bool false) := caf8' (K0.get 0 rfl)
    have h1 : ¬ N = A := fun e => K0.apart (i := 3) (j := 0) rfl rfl (by decide) N ⟨_, .head _, rfl⟩ e
    have h2 : ¬ X + 1 = A := fun e => K0.apart (i := 1) (j := 0) rfl rfl (by decide) (X + 1) rfl e
    have K1 := K0.turn 0 rfl (cl_sets A 50 [.bool false, .bool false] 6 _ _ (K0.get 0 rfl))
    simp only [setsW] at K1
    have KK := hid K1
    clear K0 K1 hA JV HS q0
    have hz1 : (key.size : Int) + (value.size : Int) ≤ 472 := by omega
    have hz2 : IntKind.i64.wrap ((key.size : Int) + (value.size : Int)) = (key.size : Int) + (value.size : Int) := by rw [IntKind.wrap_i64]; omega
    go_upto_region 21 with fail
    obtain ⟨Z, hZ⟩ : ∃ Z, (wc.setCell ⟨A, 6, none⟩ (.bool false)).setCell ⟨A, 7, none⟩ (.bool false) = Z := ⟨_, rfl⟩
    rw [hZ] at KK ⊢
    clear hZ a0 a1 a2 a3 a4 a5 a6 a7 b0 b1 b2 b3 b4 b5 b6 b7 c1 h1 h2
    obtain ⟨a0, a1, a2, a3, a4, a5, a6, a7⟩ : ca8 Z A (.string key) (.int .u32 flags) (.string value) (.int .i64 0) (.int .u64 0) (.int .i64 0) (.bool false) (.bool false) := ca8' (KK.out.get 0 rfl)
    have k20 : Z.cell? ⟨N, 20, none⟩ = some (.int .i64 472) := cA ((Hav.open (KK.out.get 3 rfl)).get 0 rfl) 20
    go_quiet (fail)
    obtain ⟨Y, hY⟩ : ∃ Y, Z.drewN nq = Y := ⟨_, rfl⟩
    have KY := (KK.out.drewN nq)
    rw [hY] at KY ⊢
    clear hY KK k20 a0 a1 a2 a3 a4 a5 a6 a7
    obtain ⟨a0, a1, a2, a3, a4, a5, a6, a7⟩ : ca8 Y A (.string key) (.int .u32 flags) (.string value) (.int .i64 0) (.int .u64 0) (.int .i64 0) (.bool false) (.bool false) := ca8' (KY.get 0 rfl)
    have HP := hid (put_is (k2 := key) (v2 := value) (fl2 := flags) (ca2 := 0) (la2 := 0) (KY.get 3 rfl) hc0 hc1)
    have KZ := hid KY
    clear KY
    unfold itmV at HP
    go_wp2_with (go_at_call 169; refine HP.out.mono ?_; rintro e w1 ⟨rfl, ht⟩
                 have L0 := KZ.out.turn 3 rfl ht
                 have g1 := (Hav.open (L0.get 3 rfl)).get 1 rfl
                 obtain ⟨y0, y1, y2, y3, y4, y5, y6, y7⟩ : ra8 w1 g (.string key) (.int .u32 flags) (.string value) (.int .i64 0) (.int .u64 (cas + 1)) (.int .i64 0) (.bool false) (.bool false) := ra8' (g1)
                 have hX2 := L0.get 2 rfl
                 obtain ⟨r0, u0, r1, u1, r2, u2, r3, u3, r4, u4, r5, u5, r6, u6, r7, u7, r8, u8, r9, u9, r10, u10, r11, u11, r12, u12⟩ : caf13 w1 X (.int .i64 0) (.string ⟨#[]⟩) (.int .u32 0) (.string ⟨#[]⟩) (.int .i64 0) (.int .u64 0) (.int .i64 0) (.bool false) (.bool false) (.int .u64 0) (.bool false) (.bool false) (.bool false) := caf13' (hX2)
                 have hs := cl_sets X 52 [.int .i64 2, .string key, .int .u32 flags, .string value, .int .i64 0, .int .u64 (cas + 1), .int .i64 0, .bool false, .bool false, .int .u64 0, .bool false, .bool false, .bool false] 0 _ _ hX2
                 have L2 := L0.turn 2 rfl hs
                 have he := hs.here
                 rw [ans_set0] at he
                 simp only [setsW] at L2 he
                 have L3 := hid (L2.sub (.cons _ (.cons _ (.cons _ (List.Sublist.refl _))))).one
                 have HE := hid he
                 clear hX2 hs L2 he g1 L0 ht)
    exact ret_ans (N := X) rfl rfl HE.out ⟨rfl, L3.out⟩
end Go.Proofs.YtboehbfagnocpaaGreatDoor
