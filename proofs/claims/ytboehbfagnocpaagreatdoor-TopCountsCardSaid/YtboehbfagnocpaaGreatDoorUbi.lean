/- Tzi. -/
import Derived.Test.YtboehbfagnocpaaGreatDoorUar
import Derived.Test.YtboehbfagnocpaaGreatDoorUaw
set_option linter.unusedVariables false
set_option linter.unusedSimpArgs false
set_option maxRecDepth 100000
open Go.Proofs.Tryz
open Go.Lib (hid)
namespace Go.Proofs.YtboehbfagnocpaaGreatDoor
open Go.RowKit Go.PlainAid Go.Shelf
set_option maxHeartbeats 4000000 in
theorem apply_is {xb xc f : Nat} {op cas cas2 st afl aca ala num : Int} {key v value ak av v2 : ByteArray} {fl ca la flags tok delta fl2 ca2 la2 : Int} {hasCas : Bool} {w : World} (hop : (op = 1 ∧ f = 104) ∨ (op = 2 ∧ f = 105) ∨ (op = 3 ∧ f = 106)) (hc : CmOk ⟨op, 0, key, value, flags, 0, tok, hasCas, delta, -1⟩) (hx : ∀ j u, (itmL key fl v ca la)[j]? = some u → w.cell? ⟨xb, j, none⟩ = some u)
    (HG : ∀ (N g cap : Nat) (W : World), Below w.heap.size w W → (mwR N g cap cas ⟨op, 0, key, value, flags, 0, tok, hasCas, delta, -1⟩ key fl v ca la).R W → Calls prog f #[.pointer (some ⟨N, 0, none⟩)] W fun e w' => e = .returned (.agg (ans1 st ak afl av aca ala num)) ∧ Turn (mwR N g cap cas ⟨op, 0, key, value, flags, 0, tok, hasCas, delta, -1⟩ key fl v ca la) (mwR N g cap cas2 ⟨op, 0, key, value, flags, 0, tok, hasCas, delta, -1⟩ key fl2 v2 ca2 la2) W w') :
    Calls prog 51 #[.agg #[.slice (some ⟨xb, 0, .none⟩) 1 xc, .int .u64 cas, .int .i64 0], .int .i64 1, .agg (Cm.vs ⟨op, 0, key, value, flags, 0, tok, hasCas, delta, -1⟩), .int .i64 472] w fun e w' => ∃ g cap, e = .returned (.tuple #[.agg #[.slice (some ⟨g, 0, none⟩) 1 cap, .int .u64 cas2, .int .i64 0], .agg (ans1 st ak afl av aca ala num)]) ∧ Made (rowI g cap key fl2 v2 ca2 la2) w w' := by
  have HM := hid (fun w' => may_ok hc w')
  have HG0 := hid HG
  have HOp := hid hop
  clear HG hop
  have J0 := (((((Hav.none w).cells #[.slice (some ⟨xb, 0, .none⟩) 1 xc, .int .u64 cas, .int .i64 0] 121).cells #[.int .i64 1] 2).cells (Cm.vs ⟨op, 0, key, value, flags, 0, tok, hasCas, delta, -1⟩) 56).cells stt0 121).cells (ansT 0) 52
  simp only [World.size_alloc] at J0
  have hbW : Below w.heap.size w (((((w.alloc (.cells #[.slice (some ⟨xb, 0, .none⟩) 1 xc, .int .u64 cas, .int .i64 0] 121)).alloc (.cells #[.int .i64 1] 2)).alloc (.cells (Cm.vs ⟨op, 0, key, value, flags, 0, tok, hasCas, delta, -1⟩) 56)).alloc (.cells stt0 121)).alloc (.cells (ansT 0) 52)) := by go_grown
  have HX := hid hx
  clear hx hc
  obtain ⟨N, hN⟩ : ∃ N, w.heap.size = N := ⟨_, rfl⟩
  unfold Cm.vs stt0 ansT at J0 hbW
  unfold Cm.vs at HM
  dsimp only at J0 hbW HM
  unfold Cm.vs
  dsimp only
  go_enter func51, ntmps51
  go_wp2_with (fail)
  go_at_call 99
  obtain ⟨W, hW⟩ : ∃ W, (((((w.alloc (.cells #[.slice (some ⟨xb, 0, .none⟩) 1 xc, .int .u64 cas, .int .i64 0] 121)).alloc (.cells #[.int .i64 1] 2)).alloc (.cells #[.int .i64 op, .int .i64 0, .string key, .string value, .int .u32 flags, .int .i64 0, .bool false, .int .u64 tok, .bool hasCas, .int .u64 delta, .int .u64 0, .bool false, .bool false, .int .i64 0, .int .i64 (-1), .bool false] 56)).alloc (.cells #[.slice none 0 0, .int .u64 0, .int .i64 0] 121)).alloc (.cells #[.int .i64 0, .string ⟨#[]⟩, .int .u32 0, .string ⟨#[]⟩, .int .i64 0, .int .u64 0, .int .i64 0, .bool false, .bool false, .int .u64 0, .bool false, .bool false, .bool false] 52)) = W := ⟨_, rfl⟩
  rw [hW] at J0 hbW ⊢
  clear hW
  rw [hN] at J0
  have hNW : N + 5 ≤ W.heap.size := by have := (cAt (N + 1 + 1 + 1 + 1) _ _).lt (J0.get 0 rfl) rfl; omega
  refine (HM.out _).mono ?_
  rintro e w1 ⟨rfl, hb1⟩
  have I1 := J0.below hb1
  have hbw1 := hbW.trans (hb1.mono hbW.size)
  obtain ⟨y0, y1, y2⟩ : ca3 w1 N (.slice (some ⟨xb, 0, .none⟩) 1 xc) (.int .u64 cas) (.int .i64 0) := ca3' (I1.get 4 rfl)
  have n0 : w1.cell? ⟨N + 1, 0, none⟩ = some (.int .i64 1) := cA (I1.get 3 rfl) 0
  obtain ⟨c0, c1, c2, c3, c4, c5, c6, c7, c8, c9, c10, c11, c12, c13, c14, c15⟩ : ca16 w1 (N + 1 + 1) (.int .i64 op) (.int .i64 0) (.string key) (.string value) (.int .u32 flags) (.int .i64 0) (.bool false) (.int .u64 tok) (.bool hasCas) (.int .u64 delta) (.int .u64 0) (.bool false) (.bool false) (.int .i64 0) (.int .i64 (-1)) (.bool false) := ca16' (I1.get 2 rfl)
  have I2 := I1.cells (wdC (.slice (some ⟨xb, 0, .none⟩) 1 xc) cas ⟨op, 0, key, value, flags, 0, tok, hasCas, delta, -1⟩ false) 200
  have hbw2 := hbw1.alloc (by have := hbw1.size; omega) (.cells (wdC (.slice (some ⟨xb, 0, .none⟩) 1 xc) cas ⟨op, 0, key, value, flags, 0, tok, hasCas, delta, -1⟩ false) 200)
  unfold wdC at I2 hbw2
  dsimp only at I2 hbw2
  have HI1 := hid I1
  clear J0 hb1 I1 HM
  go_upto_region 4 with fail
  obtain ⟨W2, hW2⟩ : ∃ W2, w1.alloc (.cells #[.slice (some ⟨xb, 0, .none⟩) 1 xc, .int .u64 cas, .int .i64 0, .int .i64 1, .int .i64 op, .int .i64 0, .string key, .string value, .int .u32 flags, .int .i64 0, .bool false, .int .u64 tok, .bool hasCas, .int .u64 delta, .int .u64 0, .bool false, .bool false, .int .i64 0, .int .i64 (-1), .bool false, .int .i64 472, .int .i64 0, .bool false] 200) = W2 := ⟨_, rfl⟩
  obtain ⟨P, hP⟩ : ∃ P, w1.heap.size = P := ⟨_, rfl⟩
  have hNP : N + 5 ≤ P := by have := (cAt (N + 1 + 1 + 1 + 1) _ _).lt (HI1.out.get 0 rfl) rfl; omega
  rw [hW2, hP] at I2
  rw [hW2] at hbw2
  rw [hW2]
  try rw [hP]
  have I2H := hid I2
  have HBW := hid hbw2
  clear hW2 hP y0 y1 y2 n0 c0 c1 c2 c3 c4 c5 c6 c7 c8 c9 c10 c11 c12 c13 c14 c15 I2 hbw1 hbw2 hbW hNW HI1
  have y0 : W2.cell? ⟨N, 0, none⟩ = some (.slice (some ⟨xb, 0, .none⟩) 1 xc) := cA (I2H.out.get 5 rfl) 0
  have HCl := hid (cloneI_1 (w := W2) (xb := xb) (c := xc) (fun j u hj => ((HBW.out.cell (p := ⟨xb, j, none⟩) (cell_lt (HX.out j u hj))).trans (HX.out j u hj))))
  have hmf : ∀ (fn : Fn) (first cap : Array Value) (w : World), (Instr.makeFunc fn first cap).run prog w = .ok (.func fn first cap) w := fun _ _ _ _ => rfl
  go_wp2_with (fail)
  go_at_call 101
  refine HCl.out.mono ?_
  rintro e w3 ⟨g, cap, rfl, hm⟩
  have I3 := I2H.out.made hm
  have HD := hid (delI_1 (nb := N + 1) (I3.get 0 rfl) (cA (I3.get 5 rfl) 0))
  have HI3 := hid I3
  have HBW3 := hid (HBW.out.trans (hm.bel.mono HBW.out.size))
  clear hm I3 I2H HBW y0 HCl
  go_wp2_with (fail)
  go_at_call 100
  refine HD.out.mono ?_
  rintro e w4 ⟨rfl, hb4⟩
  have I4 := HI3.out.below hb4
  have p0 : w4.cell? ⟨P, 0, none⟩ = some (.slice (some ⟨xb, 0, .none⟩) 1 xc) := cA (I4.get 1 rfl) 0
  have pf := cZ (I4.get 1 rfl) 0
  have n2 : w4.cell? ⟨N, 2, none⟩ = some (.int .i64 0) := cA (I4.get 6 rfl) 2
  have hPN : ¬ P = N := by omega
  have HI5 := hid (I4.turn 1 rfl (cl_set (I4.get 1 rfl) 0 (.slice (some ⟨g, 0, none⟩) 1 cap)))
  clear I4 HI3 HD hb4
  go_upto_region 7 with fail
  obtain ⟨V, hV⟩ : ∃ V, w4.setCell ⟨P, 0, none⟩ (.slice (some ⟨g, 0, none⟩) 1 cap) = V := ⟨_, rfl⟩
  rw [hV] at HI5 ⊢
  clear hV p0 pf n2
  have HS : Hid (∀ w', Below V.heap.size V w' → w'.cell? ⟨P, 0, none⟩ = some (.slice (some ⟨g, 0, none⟩) 1 cap) ∧ w'.cell? ⟨N + 1 + 1, 2, none⟩ = some (.string key)) := hid (fun w' hb => ⟨cA ((HI5.out.below hb).get 1 rfl) 0, cA ((HI5.out.below hb).get 4 rfl) 2⟩)
  have q0 := (HS.out _ (Below.refl _ _))
  have HFa := hid (mfind_1 (HI5.out.get 0 rfl))
  have HFb := hid (mfind_1 (HI5.out.drew.get 0 rfl))
  have pz1 := cZ (HI5.out.get 1 rfl) 21
  have pz2 := cZ (HI5.out.get 1 rfl) 22
  go_upto_region 7 with fail
  go_cut [] from 57 to 73 (fun wx => Hid (Hav (fun _ => False) w [rowI g cap key fl v ca la, wdR P (.slice (some ⟨g, 0, none⟩) 1 cap) cas ⟨op, 0, key, value, flags, 0, tok, hasCas, delta, -1⟩ true, cAt (N + 1 + 1 + 1 + 1) (ansT 0) 52, cAt (N + 1 + 1 + 1) stt0 121, cAt (N + 1 + 1) (Cm.vs ⟨op, 0, key, value, flags, 0, tok, hasCas, delta, -1⟩) 56] wx))
  case first =>
    go_region_held3 (fun w' => w'.cell? ⟨P, 0, none⟩ = some (.slice (some ⟨g, 0, none⟩) 1 cap) ∧ w'.cell? ⟨N + 1 + 1, 2, none⟩ = some (.string key)) (first | with_reducible exact q0 | with_reducible exact HQ5 | with_reducible exact HQ6 | with_reducible exact HQ7 | with_reducible exact HQ8 | with_reducible exact HQ9 | exact HS.out _ (by go_grown) | fail) (
      (go_at_call 103; (first | (with_reducible refine HFa.out.mono ?_; rintro e w5 ⟨rfl, hb5⟩; have hb6 : Below V.heap.size V w5 := hb5) | (with_reducible refine HFb.out.mono ?_; rintro e w5 ⟨rfl, hb5⟩; have hb6 : Below V.heap.size V w5 := (Below.refl V.heap.size V).drew.trans (by have h := hb5; exact (Eq.subst (motive := fun n => Below n V.drew w5) (show V.drew.heap.size = V.heap.size by simp) h))))
       clear hb5
       have J5 := HI5.out.below hb6
       have b21 : w5.cell? ⟨P, 21, none⟩ = some (.int .i64 0) := cA (J5.get 1 rfl) 21
       have b22 : w5.cell? ⟨P, 22, none⟩ = some (.bool false) := cA (J5.get 1 rfl) 22
       have bf1 := cZ (J5.get 1 rfl) 21
       have bf2 := cZ (J5.get 1 rfl) 22
       have HJ5 := hid J5
       have HQ5 : w5.cell? ⟨P, 0, none⟩ = some (.slice (some ⟨g, 0, none⟩) 1 cap) ∧ w5.cell? ⟨N + 1 + 1, 2, none⟩ = some (.string key) := HS.out _ hb6
       have J6 := J5.turn 1 rfl (cl_set (J5.get 1 rfl) 21 (.int .i64 0))
       have J7 := J6.turn 1 rfl (cl_set (J6.get 1 rfl) 22 (.bool true))
       have J8 := J5.turn 1 rfl (cl_set (J5.get 1 rfl) 22 (.bool true))
       have J9 := J8.turn 1 rfl (cl_set (J8.get 1 rfl) 21 (.int .i64 0))
       have HQ6 : (w5.setCell ⟨P, 21, none⟩ (.int .i64 0)).cell? ⟨P, 0, none⟩ = some (.slice (some ⟨g, 0, none⟩) 1 cap) ∧ (w5.setCell ⟨P, 21, none⟩ (.int .i64 0)).cell? ⟨N + 1 + 1, 2, none⟩ = some (.string key) := ⟨cA ((J6).get 1 rfl) 0, cA ((J6).get 4 rfl) 2⟩
       have HQ7 : ((w5.setCell ⟨P, 21, none⟩ (.int .i64 0)).setCell ⟨P, 22, none⟩ (.bool true)).cell? ⟨P, 0, none⟩ = some (.slice (some ⟨g, 0, none⟩) 1 cap) ∧ ((w5.setCell ⟨P, 21, none⟩ (.int .i64 0)).setCell ⟨P, 22, none⟩ (.bool true)).cell? ⟨N + 1 + 1, 2, none⟩ = some (.string key) := ⟨cA ((J7).get 1 rfl) 0, cA ((J7).get 4 rfl) 2⟩
       have HQ8 : (w5.setCell ⟨P, 22, none⟩ (.bool true)).cell? ⟨P, 0, none⟩ = some (.slice (some ⟨g, 0, none⟩) 1 cap) ∧ (w5.setCell ⟨P, 22, none⟩ (.bool true)).cell? ⟨N + 1 + 1, 2, none⟩ = some (.string key) := ⟨cA ((J8).get 1 rfl) 0, cA ((J8).get 4 rfl) 2⟩
       have HQ9 : ((w5.setCell ⟨P, 22, none⟩ (.bool true)).setCell ⟨P, 21, none⟩ (.int .i64 0)).cell? ⟨P, 0, none⟩ = some (.slice (some ⟨g, 0, none⟩) 1 cap) ∧ ((w5.setCell ⟨P, 22, none⟩ (.bool true)).setCell ⟨P, 21, none⟩ (.int .i64 0)).cell? ⟨N + 1 + 1, 2, none⟩ = some (.string key) := ⟨cA ((J9).get 1 rfl) 0, cA ((J9).get 4 rfl) 2⟩
       have HJ7 := hid J7
       have HJ9 := hid J9
       clear J5 J6 J7 J8 J9))
    all_goals (go_wp2_with fail)
    all_goals (go_meet)
    all_goals first
      | (have h := HJ7.out
         have e := wd_sets (x := .slice (some ⟨xb, 0, .none⟩) 1 xc) (y := .slice (some ⟨g, 0, none⟩) 1 cap) (b := true) (cas := cas) (c := ⟨op, 0, key, value, flags, 0, tok, hasCas, delta, -1⟩)
         dsimp only at e
         rw [e] at h
         exact hid (h.sub (.cons_cons _ (.cons_cons _ (.cons_cons _ (.cons_cons _ (.cons_cons _ (.cons _ (.cons _ .slnil)))))))))
      | (have h := HJ9.out
         have e := wd_sets' (x := .slice (some ⟨xb, 0, .none⟩) 1 xc) (y := .slice (some ⟨g, 0, none⟩) 1 cap) (b := true) (cas := cas) (c := ⟨op, 0, key, value, flags, 0, tok, hasCas, delta, -1⟩)
         dsimp only at e
         rw [e] at h
         exact hid (h.sub (.cons_cons _ (.cons_cons _ (.cons_cons _ (.cons_cons _ (.cons_cons _ (.cons _ (.cons _ .slnil)))))))))
  case rest =>
    have K0 := ((hcut.out.perm (.swap _ _ _)).join).cells (ansT 0) 52
    obtain ⟨Q, hQ⟩ : ∃ Q, wc.heap.size = Q := ⟨_, rfl⟩
    obtain ⟨W8, hW8⟩ : ∃ W8, wc.alloc (.cells (ansT 0) 52) = W8 := ⟨_, rfl⟩
    rw [hQ, hW8] at K0
    unfold ansT at hW8
    have o0 : W8.cell? ⟨N + 1 + 1, 0, none⟩ = some (.int .i64 op) := cA (K0.get 4 rfl) 0
    have HG := hid (HG0.out _ _ _ _ (K0.made0 1 rfl).bel (K0.get 1 rfl))
    have HK := hid K0
    clear K0 hcut HG0 pz1 pz2 HFa HFb q0 HS HI5
    have hop := HOp.out
    clear HOp
    rcases hop with ⟨rfl, rfl⟩ | ⟨rfl, rfl⟩ | ⟨rfl, rfl⟩
    all_goals (go_wp2_with (fail))
    all_goals first | go_at_call 104 | go_at_call 105 | go_at_call 106
    all_goals (
      refine HG.out.mono ?_
      rintro e w9 ⟨rfl, ht⟩
      clear hQ hW8 o0 HG
      have L0 := HK.out.turn 1 rfl ht
      obtain ⟨a0, b0, a1, b1, a2, b2, a3, b3, a4, b4, a5, b5, a6, b6, a7, b7, a8, b8, a9, b9, a10, b10, a11, b11, a12, b12⟩ : caf13 w9 Q (.int .i64 0) (.string ⟨#[]⟩) (.int .u32 0) (.string ⟨#[]⟩) (.int .i64 0) (.int .u64 0) (.int .i64 0) (.bool false) (.bool false) (.int .u64 0) (.bool false) (.bool false) (.bool false) := caf13' (L0.get 0 rfl)
      have hs := cl_sets Q 52 [.int .i64 st, .string ak, .int .u32 afl, .string av, .int .i64 0, .int .u64 aca, .int .i64 ala, .bool false, .bool false, .int .u64 num, .bool false, .bool false, .bool false] 0 _ _ (L0.get 0 rfl)
      rw [ans_set0] at hs
      have L1 := L0.turn 0 rfl hs
      simp only [setsW] at L1
      have HL := hid L1
      have o0 : w9.cell? ⟨N + 1 + 1, 0, none⟩ = some (.int .i64 _) := cA (L0.get 4 rfl) 0
      clear L0 L1 hs ht HK
      unfold ans1
      go_upto_region 29 with fail
      obtain ⟨Z, hZ⟩ : ∃ Z, (((((((((((((w9.setCell ⟨Q, 0, none⟩ (.int .i64 st)).setCell ⟨Q, 1, none⟩ (.string ak)).setCell ⟨Q, 2, none⟩ (.int .u32 afl)).setCell ⟨Q, 3, none⟩ (.string av)).setCell ⟨Q, 4, none⟩ (.int .i64 0)).setCell ⟨Q, 5, none⟩ (.int .u64 aca)).setCell ⟨Q, 6, none⟩ (.int .i64 ala)).setCell ⟨Q, 7, none⟩ (.bool false)).setCell ⟨Q, 8, none⟩ (.bool false)).setCell ⟨Q, 9, none⟩ (.int .u64 num)).setCell ⟨Q, 10, none⟩ (.bool false)).setCell ⟨Q, 11, none⟩ (.bool false)).setCell ⟨Q, 12, none⟩ (.bool false)) = Z := ⟨_, rfl⟩
      have HL1 := HL.out
      rw [hZ] at HL1
      rw [hZ]
      clear hZ HL a0 a1 a2 a3 a4 a5 a6 a7 a8 a9 a10 a11 a12 b0 b1 b2 b3 b4 b5 b6 b7 b8 b9 b10 b11 b12 o0
      have hwd := (Hav.open (HL1.get 1 rfl)).get 0 rfl
      have p0 : Z.cell? ⟨P, 0, none⟩ = some (.slice (some ⟨g, 0, none⟩) 1 cap) := cA hwd 0
      have p1 : Z.cell? ⟨P, 1, none⟩ = some (.int .u64 cas2) := cA hwd 1
      have p2 : Z.cell? ⟨P, 2, none⟩ = some (.int .i64 0) := cA hwd 2
      obtain ⟨a0, a1, a2, a3, a4, a5, a6, a7, a8, a9, a10, a11, a12⟩ : ca13 Z Q (.int .i64 st) (.string ak) (.int .u32 afl) (.string av) (.int .i64 0) (.int .u64 aca) (.int .i64 ala) (.bool false) (.bool false) (.int .u64 num) (.bool false) (.bool false) (.bool false) := ca13' (HL1.get 0 rfl)
      obtain ⟨r0, u0, r1, u1, r2, u2, r3, u3, r4, u4, r5, u5, r6, u6, r7, u7, r8, u8, r9, u9, r10, u10, r11, u11, r12, u12⟩ : caf13 Z (N + 1 + 1 + 1 + 1) (.int .i64 0) (.string ⟨#[]⟩) (.int .u32 0) (.string ⟨#[]⟩) (.int .i64 0) (.int .u64 0) (.int .i64 0) (.bool false) (.bool false) (.int .u64 0) (.bool false) (.bool false) (.bool false) := caf13' (HL1.get 2 rfl)
      obtain ⟨s0, t0, s1, t1, s2, t2⟩ : caf3 Z (N + 1 + 1 + 1) (.slice none 0 0) (.int .u64 0) (.int .i64 0) := caf3' (HL1.get 3 rfl)
      have q1 : ¬ Q = N + 1 + 1 + 1 := fun e => HL1.apart (i := 0) (j := 3) rfl rfl (by decide) Q rfl e
      have q2 : ¬ Q = N + 1 + 1 + 1 + 1 := fun e => HL1.apart (i := 0) (j := 2) rfl rfl (by decide) Q rfl e
      have q3 : ¬ N + 1 + 1 + 1 = Q := fun e => q1 e.symm
      have q4 : ¬ N + 1 + 1 + 1 + 1 = Q := fun e => q2 e.symm
      have q5 : ¬ P = N + 1 + 1 + 1 := fun e => HL1.apart (i := 1) (j := 3) rfl rfl (by decide) P ⟨_, .head _, rfl⟩ e
      have q6 : ¬ P = N + 1 + 1 + 1 + 1 := fun e => HL1.apart (i := 1) (j := 2) rfl rfl (by decide) P ⟨_, .head _, rfl⟩ e
      have q7 : ¬ N + 1 + 1 + 1 = P := fun e => q5 e.symm
      have q8 : ¬ N + 1 + 1 + 1 + 1 = P := fun e => q6 e.symm
      have hs1 := cl_sets (N + 1 + 1 + 1) 121 [.slice (some ⟨g, 0, none⟩) 1 cap, .int .u64 cas2, .int .i64 0] 0 _ _ (HL1.get 3 rfl)
      have L2 := HL1.turn 3 rfl hs1
      have hs2 := cl_sets (N + 1 + 1 + 1 + 1) 52 [.int .i64 st, .string ak, .int .u32 afl, .string av, .int .i64 0, .int .u64 aca, .int .i64 ala, .bool false, .bool false, .int .u64 num, .bool false, .bool false, .bool false] 0 _ _ (L2.get 2 rfl)
      have L3 := (L2.turn 2 rfl hs2).drew
      have f1 := L3.get 3 rfl
      have f2 := L3.get 2 rfl
      rw [ans_set0] at f2
      rw [stt_set] at f1
      have f3 := (L3.made0 1 rfl).conv (r' := rowI g cap key fl2 v2 ca2 la2) (fun h => (Hav.open h).get 1 rfl) (fun b hb => ⟨_, .tail _ (.head _), hb⟩)
      simp only [setsW] at f1 f2 f3
      have HE := hid (And.intro f1 (And.intro f2 f3))
      clear hs1 L2 hs2 L3 f1 f2 f3 HL1 hwd
      go_region_with (fail)
      all_goals (go_wp2_with fail)
      all_goals refine ret_two (M := N + 1 + 1 + 1) (N := N + 1 + 1 + 1 + 1) (s0 := .slice (some ⟨g, 0, none⟩) 1 cap) (s1 := .int .u64 cas2) (s2 := .int .i64 0) (v0 := .int .i64 st) (v1 := .string ak) (v2 := .int .u32 afl) (v3 := .string av) (v4 := .int .i64 0) (v5 := .int .u64 aca) (v6 := .int .i64 ala) (v7 := .bool false) (v8 := .bool false) (v9 := .int .u64 num) (v10 := .bool false) (v11 := .bool false) (v12 := .bool false) rfl rfl rfl ?_ ?_ ⟨g, cap, rfl, ?_⟩
      all_goals first
        | with_reducible exact HE.out.1
        | with_reducible exact HE.out.2.1
        | with_reducible exact HE.out.2.2
        | fail)
