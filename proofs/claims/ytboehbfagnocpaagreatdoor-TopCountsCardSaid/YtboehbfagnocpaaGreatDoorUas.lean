/- Tme. -/
import Derived.Test.YtboehbfagnocpaaGreatDoorUaq
set_option linter.unusedVariables false
set_option linter.unusedSimpArgs false
set_option maxRecDepth 100000
open Go.Proofs.Tryz
open Go.Lib (hid)
namespace Go.Proofs.YtboehbfagnocpaaGreatDoor
open Go.RowKit Go.PlainAid Go.Shelf
def ans1 (st : Int) (k : ByteArray) (fl : Int) (v : ByteArray) (ca la num : Int) : Array Value := #[.int .i64 st, .string k, .int .u32 fl, .string v, .int .i64 0, .int .u64 ca, .int .i64 la, .bool false, .bool false, .int .u64 num, .bool false, .bool false, .bool false]
theorem ans_set0 {st fl ca la num : Int} {k v : ByteArray} : setsV 0 [.int .i64 st, .string k, .int .u32 fl, .string v, .int .i64 0, .int .u64 ca, .int .i64 la, .bool false, .bool false, .int .u64 num, .bool false, .bool false, .bool false] (ansT 0) = #[.int .i64 st, .string k, .int .u32 fl, .string v, .int .i64 0, .int .u64 ca, .int .i64 la, .bool false, .bool false, .int .u64 num, .bool false, .bool false, .bool false] := by
  simp [setsV, ansT]
set_option maxHeartbeats 2000000 in
theorem get_is {N g cap : Nat} {cas : Int} {c : Cm} {k v : ByteArray} {fl ca la : Int} {w : World} (h : (mwR N g cap cas c k fl v ca la).R w) (hr : c.recache = -1) :
    Calls prog 104 #[.pointer (some ⟨N, 0, none⟩)] w fun e w' => e = .returned (.agg (ans1 1 k fl v ca 1 0)) ∧ Turn (mwR N g cap cas c k fl v ca la) (mwR N g cap cas c k fl v ca 1) w w' := by
  have J0 := ((Hav.open h).cells (ansT 0) 52)
  obtain ⟨X, hX⟩ : ∃ X, w.heap.size = X := ⟨_, rfl⟩
  obtain ⟨W, hW⟩ : ∃ W, w.alloc (.cells (ansT 0) 52) = W := ⟨_, rfl⟩
  rw [hX, hW] at J0
  have HI := hid (item_at (h := J0.get 1 rfl))
  have k22 : W.cell? ⟨N, 22, none⟩ = some (.bool true) := cA (J0.get 1 rfl) 22
  have k18 : W.cell? ⟨N, 18, none⟩ = some (.int .i64 c.recache) := cA (J0.get 1 rfl) 18
  have k3 : W.cell? ⟨N, 3, none⟩ = some (.int .i64 1) := cA (J0.get 1 rfl) 3
  have k10 : W.cell? ⟨N, 10, none⟩ = some (.bool false) := cA (J0.get 1 rfl) 10
  rw [hr] at k18
  obtain ⟨y0, z0, y1, z1, y2, z2, y3, z3, y4, z4, y5, z5, y6, z6, y7, z7⟩ : raf8 W g (.string k) (.int .u32 fl) (.string v) (.int .i64 0) (.int .u64 ca) (.int .i64 la) (.bool false) (.bool false) := raf8' (J0.get 2 rfl)
  have hW' := hW
  simp only [ansT] at hW'
  have JJ := hid J0
  clear J0 h hr
  go_enter func104, ntmps104
  go_wp2_with (go_at_call 109; refine HI.out.mono ?_; rintro e w1 ⟨rfl, m, rfl⟩)
  clear hW hW' hX
  go_quiet (fail)
  obtain ⟨V, hV⟩ : ∃ V, (W.drewN m).drewN nq = V := ⟨_, rfl⟩
  have JV : Hid (Hav (mwR N g cap cas c k fl v ca la).B w _ V) := hid (by rw [← hV]; exact ((JJ.out.drewN m).drewN nq))
  rw [hV]
  clear hV JJ HI k22 k18 k3 k10 y0 y1 y2 y3 y4 y5 y6 y7 z0 z1 z2 z3 z4 z5 z6 z7
  have HS : Hid (∀ w', Below V.heap.size V w' → w'.cell? ⟨g, 6, none⟩ = some (.bool false) ∧ w'.cell? ⟨g, 7, none⟩ = some (.bool false)) := hid (fun w' hb => by
    have h0 := (JV.out.below hb).get 2 rfl
    exact ⟨row_at h0 6 (Nat.lt_of_lt_of_eq (m := 8) (by decide) rfl), row_at h0 7 (Nat.lt_of_lt_of_eq (m := 8) (by decide) rfl)⟩)
  have q0 := (HS.out _ (Below.refl _ _))
  go_upto_region 7 with fail
  go_cut [5] from 68 to 90 (fun s5 wx => ∃ A, s5 = .pointer (some ⟨A, 0, none⟩) ∧ Hid (Made (cAt A (ansT 1) 52) V wx))
  case first =>
    have HA := hid ((Made.cells V (ansT 1) 52).drew)
    go_region_held3 (fun w' => w'.cell? ⟨g, 6, none⟩ = some (.bool false) ∧ w'.cell? ⟨g, 7, none⟩ = some (.bool false)) (first | with_reducible exact q0 | exact HS.out _ (by go_grown) | fail) (fail)
    all_goals (go_wp2_with fail)
    all_goals (go_meet; exact ⟨_, rfl, HA⟩)
  case rest =>
    obtain ⟨A, rfl, hA⟩ := hcut
    have K0 := JV.out.made hA.out
    have k3 : wc.cell? ⟨N, 3, none⟩ = some (.int .i64 1) := cA (K0.get 2 rfl) 3
    have k10 : wc.cell? ⟨N, 10, none⟩ = some (.bool false) := cA (K0.get 2 rfl) 10
    have y7 : wc.cell? ⟨g, 7, none⟩ = some (.bool false) := row_at (K0.get 3 rfl) 7 (Nat.lt_of_lt_of_eq (m := 8) (by decide) rfl)
    have y5 : wc.cell? ⟨g, 5, none⟩ = some (.int .i64 la) := row_at (K0.get 3 rfl) 5 (Nat.lt_of_lt_of_eq (m := 8) (by decide) rfl)
    have z7 := row_fz (K0.get 3 rfl) 7
    have z5 := row_fz (K0.get 3 rfl) 5
    have a3 : wc.cell? ⟨A, 3, none⟩ = some (.string ⟨#[]⟩) := cA (K0.get 0 rfl) 3
    have a10 : wc.cell? ⟨A, 3, none⟩ = some (.string ⟨#[]⟩) := cA (K0.get 0 rfl) 3
    have h1 : ¬ A = g := fun e => K0.apart (i := 0) (j := 3) rfl rfl (by decide) A rfl (by rw [e]; rfl)
    have h4 : ¬ N = g := fun e => K0.apart (i := 2) (j := 3) rfl rfl (by decide) N rfl (by rw [e]; rfl)
    have aW : wc.cell? ⟨A, 10, none⟩ = some (.bool false) := cA (K0.get 0 rfl) 10
    have K1 := K0.turn 3 rfl (row_set (K0.get 3 rfl) 7 (.bool false))
    have K2 := K1.turn 3 rfl (row_set (K1.get 3 rfl) 5 (.int .i64 1))
    have KK := hid K2
    clear K0 K1 K2 hA JV HS q0
    go_upto_region 12 with fail
    obtain ⟨Z, hZ⟩ : ∃ Z, (wc.setCell ⟨g, 7, none⟩ (.bool false)).setCell ⟨g, 5, none⟩ (.int .i64 1) = Z := ⟨_, rfl⟩
    rw [hZ] at KK ⊢
    clear hZ y7 y5 z7 z5 a3 a10 h1 h4 aW k3 k10
    obtain ⟨a0, b0, a1, b1, a2, b2, a3, b3, a4, b4, a5, b5, a6, b6, a7, b7, a8, b8, a9, b9, a10, b10, a11, b11, a12, b12⟩ : caf13 Z A (.int .i64 1) (.string ⟨#[]⟩) (.int .u32 0) (.string ⟨#[]⟩) (.int .i64 0) (.int .u64 0) (.int .i64 0) (.bool false) (.bool false) (.int .u64 0) (.bool false) (.bool false) (.bool false) := caf13' (KK.out.get 0 rfl)
    obtain ⟨y0, z0, y1, z1, y2, z2, y3, z3, y4, z4, y5, z5, y6, z6, y7, z7⟩ : raf8 Z g (.string k) (.int .u32 fl) (.string v) (.int .i64 0) (.int .u64 ca) (.int .i64 1) (.bool false) (.bool false) := raf8' (KK.out.get 3 rfl)
    have L1 := KK.out.turn 0 rfl (cl_sets A 52 [.string k, .int .u32 fl, .string v, .int .i64 0, .int .u64 ca, .int .i64 1, .bool false, .bool false] 1 _ _ (KK.out.get 0 rfl))
    have hL : (cAt A (setsV 1 [.string k, .int .u32 fl, .string v, .int .i64 0, .int .u64 ca, .int .i64 1, .bool false, .bool false] (ansT 1)) 52) = cAt A (ans1 1 k fl v ca 1 0) 52 := by
      congr 1
    simp only [setsW] at L1
    have LL := hid L1
    have HL := hid hL
    clear L1 KK hL
    go_upto_region 13 with fail
    obtain ⟨Z2, hZ2⟩ : ∃ Z2, (((((((Z.setCell ⟨A, 1, none⟩ (.string k)).setCell ⟨A, 2, none⟩ (.int .u32 fl)).setCell ⟨A, 3, none⟩ (.string v)).setCell ⟨A, 4, none⟩ (.int .i64 0)).setCell ⟨A, 5, none⟩ (.int .u64 ca)).setCell ⟨A, 6, none⟩ (.int .i64 1)).setCell ⟨A, 7, none⟩ (.bool false)).setCell ⟨A, 8, none⟩ (.bool false) = Z2 := ⟨_, rfl⟩
    have LL1 := LL.out
    rw [hZ2] at LL1
    rw [hZ2]
    clear hZ2 a0 a1 a2 a3 a4 a5 a6 a7 a8 a9 a10 a11 a12 b0 b1 b2 b3 b4 b5 b6 b7 b8 b9 b10 b11 b12 y0 y1 y2 y3 y4 y5 y6 y7 z0 z1 z2 z3 z4 z5 z6 z7
    have hA2 := LL1.get 0 rfl
    rw [HL.out] at hA2
    obtain ⟨a0, a1, a2, a3, a4, a5, a6, a7, a8, a9, a10, a11, a12⟩ : ca13 Z2 A (.int .i64 1) (.string k) (.int .u32 fl) (.string v) (.int .i64 0) (.int .u64 ca) (.int .i64 1) (.bool false) (.bool false) (.int .u64 0) (.bool false) (.bool false) (.bool false) := ca13' (hA2)
    have hX2 := LL1.get 1 rfl
    obtain ⟨r0, u0, r1, u1, r2, u2, r3, u3, r4, u4, r5, u5, r6, u6, r7, u7, r8, u8, r9, u9, r10, u10, r11, u11, r12, u12⟩ : caf13 Z2 X (.int .i64 0) (.string ⟨#[]⟩) (.int .u32 0) (.string ⟨#[]⟩) (.int .i64 0) (.int .u64 0) (.int .i64 0) (.bool false) (.bool false) (.int .u64 0) (.bool false) (.bool false) (.bool false) := caf13' (hX2)
    have hs := cl_sets X 52 [.int .i64 1, .string k, .int .u32 fl, .string v, .int .i64 0, .int .u64 ca, .int .i64 1, .bool false, .bool false, .int .u64 0, .bool false, .bool false, .bool false] 0 _ _ hX2
    have L2 := LL1.turn 1 rfl hs
    have he := hs.here
    rw [ans_set0] at he
    simp only [setsW] at L2 he
    have L3 := hid (L2.sub (.cons _ (.cons _ (List.Sublist.refl _)))).shut
    have HE := hid he
    clear LL1 hA2 hX2 hs L2 he LL
    go_wp2_with (fail)
    exact ret_ans (N := X) rfl rfl HE.out ⟨rfl, L3.out⟩
end Go.Proofs.YtboehbfagnocpaaGreatDoor
