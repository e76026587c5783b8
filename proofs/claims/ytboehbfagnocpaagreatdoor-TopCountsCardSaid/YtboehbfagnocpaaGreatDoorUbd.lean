/- Tsg. -/
import Derived.Test.YtboehbfagnocpaaGreatDoorUbb
set_option linter.unusedVariables false
set_option linter.unusedSimpArgs false
set_option maxRecDepth 100000
open Go.Proofs.Tryz
open Go.Lib (hid)
namespace Go.Proofs.YtboehbfagnocpaaGreatDoor
open Go.RowKit Go.PlainAid Go.Shelf
open SP
set_option maxHeartbeats 4000000 in
theorem one_full {key : ByteArray} {h : Int} {b : Nat} (hk : KeyI key h b) {m : SM} {cas cas' : Int} {x x' : PM.It} {c : Cm} {st afl aca ala anum : Int} {ak av : ByteArray} {w : World} (hR : (stF key h b m cas).R w) (ho : SOk key x m) (hnn : m.ps.num ≤ 1000000) (hck : c.key = key) (hop : c.op = 1 ∨ c.op = 2 ∨ c.op = 3) (hx' : ItOk x')
    (HA : ∀ (W : World) (xb : Nat), Tch (stF key h b m cas).B w W → (∀ j u, (itmL key x.fl (vlB x.v) x.cas x.last)[j]? = some u → W.cell? ⟨xb, j, none⟩ = some u) →
      Calls prog 51 #[.agg #[.slice (some ⟨xb, 0, none⟩) 1 1, .int .u64 cas, .int .i64 0], .int .i64 1, .agg c.vs, .int .i64 472] W fun e w' => ∃ g cap, e = .returned (.tuple #[.agg #[.slice (some ⟨g, 0, none⟩) 1 cap, .int .u64 cas', .int .i64 0], .agg #[.int .i64 st, .string ak, .int .u32 afl, .string av, .int .i64 0, .int .u64 aca, .int .i64 ala, .bool false, .bool false, .int .u64 anum, .bool false, .bool false, .bool false]]) ∧ Made (rowI g cap key x'.fl (vlB x'.v) x'.cas x'.last) W w') :
    Calls prog 55 #[.pointer (some ⟨m.s, 0, none⟩), .int .i64 1, .agg c.vs] w fun e w' => e = .returned (.tuple #[.agg #[.int .i64 st, .string ak, .int .u32 afl, .string av, .int .i64 0, .int .u64 aca, .int .i64 ala, .bool false, .bool false, .int .u64 anum, .bool false, .bool false, .bool false], .slice none 0 0]) ∧
      ∃ m' : SM, m'.s = m.s ∧ m'.ps.num ≤ m.ps.num + 1 ∧ SOk key x' m' ∧ Turn (stF key h b m cas) (stF key h b m' cas') w w' := by
  obtain ⟨op, mode, ckey, value, flags, exp, tok, hasCas, delta, recache⟩ := c
  dsimp only at hck hop
  subst hck
  have J0 := (((Hav.open hR).cells (Cm.vs ⟨op, mode, ckey, value, flags, exp, tok, hasCas, delta, recache⟩) 56).cells (ansT 0) 52).cells #[.slice none 0 0, .int .u64 cas, .int .i64 0] 121
  simp only [World.size_alloc] at J0
  have j0 := ((Hav.open hR).cells (Cm.vs ⟨op, mode, ckey, value, flags, exp, tok, hasCas, delta, recache⟩) 56).cells (ansT 0) 52
  obtain ⟨N, hN⟩ : ∃ N, w.heap.size = N := ⟨_, rfl⟩
  obtain ⟨W0, hW0⟩ : ∃ W0, (w.alloc (.cells (Cm.vs ⟨op, mode, ckey, value, flags, exp, tok, hasCas, delta, recache⟩) 56)).alloc (.cells (ansT 0) 52) = W0 := ⟨_, rfl⟩
  rw [hW0] at j0 J0
  have s5 : W0.cell? ⟨m.s, 5, none⟩ = some (.int .u64 cas) := cA (j0.get 2 rfl) 5
  have hs0 : W0.heap.size = N + 1 + 1 := by rw [← hW0]; simp [hN]
  rw [hN] at J0
  simp only [Cm.vs, ansT] at hW0
  have HW0 := hid hW0
  obtain ⟨W, hW⟩ : ∃ W, W0.alloc (.cells #[.slice none 0 0, .int .u64 cas, .int .i64 0] 121) = W := ⟨_, rfl⟩
  rw [hW] at J0
  have HW := hid hW
  have HJ := hid J0
  have HO := hid ho
  have HNN := hid hnn
  have HK := hid hk
  have HAA := hid HA
  have HOP := hid hop
  unfold Cm.vs at HAA
  dsimp only at HAA
  clear J0 j0 hR HA hk ho hop hW hnn
  unfold Cm.vs
  dsimp only
  go_enter func55, ntmps55
  go_upto_region 2 with fail
  rw [HW.out]
  clear HW HW0 hs0 s5 hW0 hN
  have c3 : W.cell? ⟨m.s, 3, none⟩ = some (.pointer (some ⟨m.tb, 0, none⟩)) := cA (HJ.out.get 3 rfl) 3
  have k2 : W.cell? ⟨N, 2, none⟩ = some (.string ckey) := cA (HJ.out.get 2 rfl) 2
  have HG := hid (fun n => get_1 HK.out (w := W.drewN n) ((HJ.out.drewN n).get 6 rfl))
  go_quiet ((go_at_call 115; exact Calls.quiet_of (HG.out _)))
  obtain ⟨Y, hY⟩ : ∃ Y, W.drewN nq = Y := ⟨_, rfl⟩
  have KY := HJ.out.drewN nq
  rw [hY] at KY ⊢
  have HAt := hid (at_ok (cas := cas) (key := ckey) (x := x) (KY.get 3 rfl) (KY.get 4 rfl) HO.out.wf (KY.apart (i := 3) (j := 4) rfl rfl (by decide) m.s rfl) HO.out.hold HO.out.it HK.out.size HK.out.keyB)
  have HY := hid KY
  clear hY KY HJ HG c3 k2
  unfold itmV at HAt
  go_wp2_with (fail)
  go_at_call 116
  refine HAt.out.mono ?_
  rintro e w1 ⟨rfl, β', hsb, hsg, ht⟩
  have J1 := HY.out.turn 4 rfl ht
  obtain ⟨m1, hm1⟩ : ∃ m1 : SM, m1 = { m with β := β' } := ⟨_, rfl⟩
  have hst : stC m1 cas = stC m cas := by rw [hm1]; unfold stC; rw [hsb, hsg]
  have J2 : Hav (stF ckey h b m cas).B w ([cAt (N + 1 + 1) #[.slice none 0 0, .int .u64 cas, .int .i64 0] 121, cAt (N + 1) (ansT 0) 52, cAt N (Cm.vs ⟨op, mode, ckey, value, flags, exp, tok, hasCas, delta, recache⟩) 56] ++ stL ckey h b m1 cas) w1 := by
    have h1 := J1
    unfold stL
    rw [hst, hm1]
    exact h1
  have HO1 : Hid (SOk ckey x m1) := hid (by rw [hm1]; exact ⟨HO.out.wf, HO.out.hold, HO.out.it, HO.out.held⟩)
  have HM : Hid (m1.s = m.s ∧ m1.ps = m.ps) := hid (by rw [hm1]; exact ⟨rfl, rfl⟩)
  clear hm1
  have J3 := J2.cells #[.string ckey, .int .u32 x.fl, .string (vlB x.v), .int .i64 0, .int .u64 x.cas, .int .i64 x.last, .bool false, .bool false] 50
  obtain ⟨X, hX⟩ : ∃ X, w1.heap.size = X := ⟨_, rfl⟩
  obtain ⟨V, hV⟩ : ∃ V, w1.alloc (.cells #[.string ckey, .int .u32 x.fl, .string (vlB x.v), .int .i64 0, .int .u64 x.cas, .int .i64 x.last, .bool false, .bool false] 50) = V := ⟨_, rfl⟩
  rw [hX, hV] at J3
  have HV := hid hV
  have HJ3 := hid J3
  clear J1 J2 J3 hst hsb hsg ht hV HY HAt HO
  go_upto_region 5 with fail
  rw [HV.out]
  clear HV hX
  obtain ⟨x0, x1, x2, x3, x4, x5, x6, x7⟩ : ca8 V X (.string ckey) (.int .u32 x.fl) (.string (vlB x.v)) (.int .i64 0) (.int .u64 x.cas) (.int .i64 x.last) (.bool false) (.bool false) := ca8' (HJ3.out.get 0 rfl)
  have HGo := hid (fun w' => gone_no ckey (vlB x.v) x.fl x.cas x.last w')
  unfold itmV at HGo
  go_wp2_with (fail)
  go_at_call 117
  refine (HGo.out _).mono ?_
  rintro e w2 ⟨rfl, hb2⟩
  have J4 := HJ3.out.below hb2
  clear x0 x1 x2 x3 x4 x5 x6 x7 HGo hb2 HJ3
  obtain ⟨x0, x1, x2, x3, x4, x5, x6, x7⟩ : ca8 w2 X (.string ckey) (.int .u32 x.fl) (.string (vlB x.v)) (.int .i64 0) (.int .u64 x.cas) (.int .i64 x.last) (.bool false) (.bool false) := ca8' (J4.get 0 rfl)
  obtain ⟨XB, hXB⟩ : ∃ XB, w2.heap.size = XB := ⟨_, rfl⟩
  have J5 := J4.made (rowEl_new w2 #[.string ckey, .int .u32 x.fl, .string (vlB x.v), .int .i64 0, .int .u64 x.cas, .int .i64 x.last, .bool false, .bool false] 50 8 rfl)
  rw [hXB] at J5
  have hwas : (w2.alloc (.cells #[.string ckey, .int .u32 x.fl, .string (vlB x.v), .int .i64 0, .int .u64 x.cas, .int .i64 x.last, .bool false, .bool false] 50)).cell? ⟨N + 1 + 1, 0, none⟩ = some (.slice none 0 0) := cA (J5.get 2 rfl) 0
  have hwasf := cZ (J5.get 2 rfl) 0
  have J6 := hid (J5.turn 2 rfl (cl_set (J5.get 2 rfl) 0 (.slice (some ⟨XB, 0, none⟩) 1 1)))
  clear J4 J5
  go_upto_region 9 with fail
  obtain ⟨W3, hW3⟩ : ∃ W3, (w2.alloc (.cells #[.string ckey, .int .u32 x.fl, .string (vlB x.v), .int .i64 0, .int .u64 x.cas, .int .i64 x.last, .bool false, .bool false] 50)).setCell ⟨N + 1 + 1, 0, none⟩ (.slice (some ⟨XB, 0, none⟩) 1 1) = W3 := ⟨_, rfl⟩
  have J7 := J6.out
  rw [hW3] at J7
  rw [hW3]
  have HJ7 := hid J7
  clear J7 J6 hW3 hXB hwas hwasf x0 x1 x2 x3 x4 x5 x6 x7
  obtain ⟨y0, y1, y2⟩ : ca3 W3 (N + 1 + 1) (.slice (some ⟨XB, 0, none⟩) 1 1) (.int .u64 cas) (.int .i64 0) := ca3' (HJ7.out.get 2 rfl)
  obtain ⟨c0, c1, c2, c3, c4, c5, c6, c7, c8, c9, c10, c11, c12, c13, c14, c15⟩ : ca16 W3 N (.int .i64 op) (.int .i64 mode) (.string ckey) (.string value) (.int .u32 flags) (.int .i64 exp) (.bool false) (.int .u64 tok) (.bool hasCas) (.int .u64 delta) (.int .u64 0) (.bool false) (.bool false) (.int .i64 0) (.int .i64 recache) (.bool false) := ca16' (HJ7.out.get 4 rfl)
  have HMo : Hid (∀ W', Below W3.heap.size W3 W' → Calls prog 52 #[.pointer (some ⟨m.s, 0, none⟩)] W' fun e w' => e = .returned (.int .i64 472) ∧ W' = w') := hid (fun W' hb => by
    rw [← HM.out.1]
    exact most_ok ((HJ7.out.below hb).get 5 rfl) ((HJ7.out.below hb).get 6 rfl) rfl)
  have HAp : Hid (∀ W', Below W3.heap.size W3 W' → Calls prog 51 #[.agg #[.slice (some ⟨XB, 0, none⟩) 1 1, .int .u64 cas, .int .i64 0], .int .i64 1, .agg #[.int .i64 op, .int .i64 mode, .string ckey, .string value, .int .u32 flags, .int .i64 exp, .bool false, .int .u64 tok, .bool hasCas, .int .u64 delta, .int .u64 0, .bool false, .bool false, .int .i64 0, .int .i64 recache, .bool false], .int .i64 472] W' fun e w' => ∃ g cap, e = .returned (.tuple #[.agg #[.slice (some ⟨g, 0, none⟩) 1 cap, .int .u64 cas', .int .i64 0], .agg #[.int .i64 st, .string ak, .int .u32 afl, .string av, .int .i64 0, .int .u64 aca, .int .i64 ala, .bool false, .bool false, .int .u64 anum, .bool false, .bool false, .bool false]]) ∧ Made (rowI g cap ckey x'.fl (vlB x'.v) x'.cas x'.last) W' w') := hid (fun W' hb => HAA.out W' XB (HJ7.out.below hb).tch (fun j u hj => by
    have h1 := row_at ((HJ7.out.below hb).get 0 rfl) j (by have := (List.getElem?_eq_some_iff.1 hj).1; exact this)
    rw [h1]; exact hj))
  go_upto_region 9 with fail
  obtain ⟨Q, hQ⟩ : ∃ Q, W3.heap.size = Q := ⟨_, rfl⟩
  have F1 := hid (fl1 hQ)
  have F2 := hid (fl2 hQ)
  have F3 := hid (fl3 hQ)
  have F4 := hid (fl4 hQ)
  have HS : Hid (∀ w', Below W3.heap.size W3 w' → w'.cell? ⟨N + 1 + 1, 0, none⟩ = some (.slice (some ⟨XB, 0, none⟩) 1 1) ∧ w'.cell? ⟨N + 1 + 1, 1, none⟩ = some (.int .u64 cas) ∧ w'.cell? ⟨N + 1 + 1, 2, none⟩ = some (.int .i64 0) ∧ w'.cell? ⟨N, 0, none⟩ = some (.int .i64 op) ∧ w'.cell? ⟨N, 1, none⟩ = some (.int .i64 mode) ∧ w'.cell? ⟨N, 2, none⟩ = some (.string ckey) ∧ w'.cell? ⟨N, 3, none⟩ = some (.string value) ∧ w'.cell? ⟨N, 4, none⟩ = some (.int .u32 flags) ∧ w'.cell? ⟨N, 5, none⟩ = some (.int .i64 exp) ∧ w'.cell? ⟨N, 6, none⟩ = some (.bool false) ∧ w'.cell? ⟨N, 7, none⟩ = some (.int .u64 tok) ∧ w'.cell? ⟨N, 8, none⟩ = some (.bool hasCas) ∧ w'.cell? ⟨N, 9, none⟩ = some (.int .u64 delta) ∧ w'.cell? ⟨N, 10, none⟩ = some (.int .u64 0) ∧ w'.cell? ⟨N, 11, none⟩ = some (.bool false) ∧ w'.cell? ⟨N, 12, none⟩ = some (.bool false) ∧ w'.cell? ⟨N, 13, none⟩ = some (.int .i64 0) ∧ w'.cell? ⟨N, 14, none⟩ = some (.int .i64 recache) ∧ w'.cell? ⟨N, 15, none⟩ = some (.bool false)) := hid (fun w' hb => by
    have h0 := (HJ7.out.below hb).get 2 rfl
    have h1 := (HJ7.out.below hb).get 4 rfl
    exact ⟨cA h0 0, cA h0 1, cA h0 2, cA h1 0, cA h1 1, cA h1 2, cA h1 3, cA h1 4, cA h1 5, cA h1 6, cA h1 7, cA h1 8, cA h1 9, cA h1 10, cA h1 11, cA h1 12, cA h1 13, cA h1 14, cA h1 15⟩)
  go_cut [12, 13] from 50 to 58 (fun s12 s13 wx => ∃ g cap A B, s12 = .pointer (some ⟨A, 0, none⟩) ∧ s13 = .pointer (some ⟨B, 0, none⟩) ∧ Hid (Hav (stF ckey h b m cas).B w ([cAt B #[.int .i64 st, .string ak, .int .u32 afl, .string av, .int .i64 0, .int .u64 aca, .int .i64 ala, .bool false, .bool false, .int .u64 anum, .bool false, .bool false, .bool false] 52, cAt A #[.slice (some ⟨g, 0, none⟩) 1 cap, .int .u64 cas', .int .i64 0] 121, rowI g cap ckey x'.fl (vlB x'.v) x'.cas x'.last, rowAt (.slice (some ⟨XB, 0, none⟩) 1 1) 50 8 1 #[.string ckey, .int .u32 x.fl, .string (vlB x.v), .int .i64 0, .int .u64 x.cas, .int .i64 x.last, .bool false, .bool false].toList, cAt X #[.string ckey, .int .u32 x.fl, .string (vlB x.v), .int .i64 0, .int .u64 x.cas, .int .i64 x.last, .bool false, .bool false] 50, cAt (N + 1 + 1) (#[.slice none 0 0, .int .u64 cas, .int .i64 0].setIfInBounds 0 (.slice (some ⟨XB, 0, none⟩) 1 1)) 121, cAt (N + 1) (ansT 0) 52, cAt N (Cm.vs ⟨op, mode, ckey, value, flags, exp, tok, hasCas, delta, recache⟩) 56] ++ stL ckey h b m1 cas) wx))
  case first =>
    go_region_held3 (fun w' => w'.cell? ⟨N + 1 + 1, 0, none⟩ = some (.slice (some ⟨XB, 0, none⟩) 1 1) ∧ w'.cell? ⟨N + 1 + 1, 1, none⟩ = some (.int .u64 cas) ∧ w'.cell? ⟨N + 1 + 1, 2, none⟩ = some (.int .i64 0) ∧ w'.cell? ⟨N, 0, none⟩ = some (.int .i64 op) ∧ w'.cell? ⟨N, 1, none⟩ = some (.int .i64 mode) ∧ w'.cell? ⟨N, 2, none⟩ = some (.string ckey) ∧ w'.cell? ⟨N, 3, none⟩ = some (.string value) ∧ w'.cell? ⟨N, 4, none⟩ = some (.int .u32 flags) ∧ w'.cell? ⟨N, 5, none⟩ = some (.int .i64 exp) ∧ w'.cell? ⟨N, 6, none⟩ = some (.bool false) ∧ w'.cell? ⟨N, 7, none⟩ = some (.int .u64 tok) ∧ w'.cell? ⟨N, 8, none⟩ = some (.bool hasCas) ∧ w'.cell? ⟨N, 9, none⟩ = some (.int .u64 delta) ∧ w'.cell? ⟨N, 10, none⟩ = some (.int .u64 0) ∧ w'.cell? ⟨N, 11, none⟩ = some (.bool false) ∧ w'.cell? ⟨N, 12, none⟩ = some (.bool false) ∧ w'.cell? ⟨N, 13, none⟩ = some (.int .i64 0) ∧ w'.cell? ⟨N, 14, none⟩ = some (.int .i64 recache) ∧ w'.cell? ⟨N, 15, none⟩ = some (.bool false)) (first | exact HS.out _ (by first | (go_grown; done) | (go_grown <;> first | omega | (simp; omega))) | fail) (first
      | (go_at_call 52; refine (HMo.out _ (by go_grown)).mono ?_; rintro e w4 ⟨rfl, rfl⟩)
      | (go_at_call 51; refine (HAp.out _ (by go_grown)).mono ?_; rintro e w4 ⟨g, cap, rfl, hm4⟩; have HM4 := hid hm4; (first
           | ((with_reducible (have kk := F1.out w4 hm4.bel)); obtain ⟨_, _, _, _, _, _⟩ := F1.out (w4.alloc (.cells az 52)) (hm4.bel.alloc hm4.bel.size _); obtain ⟨_, _, _, _, _, _⟩ := kk; have r0 := (((HJ7.out).cells sz 121).drew).made hm4; (try simp only [World.size_alloc] at r0); rw [hQ] at r0; have r1 := r0.turn 1 rfl (cl_sets _ 121 [.slice (some ⟨g, 0, none⟩) 1 cap, .int .u64 cas', .int .i64 0] 0 _ _ (r0.get 1 rfl)); rw [(show setsV 0 [.slice (some ⟨g, 0, none⟩) 1 cap, .int .u64 cas', .int .i64 0] #[.slice none 0 0, .int .u64 0, .int .i64 0] = #[.slice (some ⟨g, 0, none⟩) 1 cap, .int .u64 cas', .int .i64 0] by simp [setsV])] at r1; simp only [setsW, List.set] at r1; have hHR := hav_c ((r1).cells #[.int .i64 st, .string ak, .int .u32 afl, .string av, .int .i64 0, .int .u64 aca, .int .i64 ala, .bool false, .bool false, .int .u64 anum, .bool false, .bool false, .bool false] 52); (try simp only [World.size_alloc, World.size_setCell] at hHR); have HR := hid hHR; clear hHR; clear r0 r1; have q4 : Q < w4.heap.size := (by have h := hm4.bel.size; simp only [World.size_drew, World.size_alloc] at h; omega); have q5 : ¬ Q = w4.heap.size := (by omega); have q6 : ¬ w4.heap.size = Q := (by omega))
           | ((with_reducible (have kk := F2.out w4 hm4.bel)); obtain ⟨_, _, _, _, _, _, _, _, _, _, _, _, _, _, _, _, _, _, _, _, _, _, _, _, _, _⟩ := F2.out (w4.alloc (.cells sz 121)) (hm4.bel.alloc hm4.bel.size _); obtain ⟨_, _, _, _, _, _, _, _, _, _, _, _, _, _, _, _, _, _, _, _, _, _, _, _, _, _⟩ := kk; have r0 := (((HJ7.out).cells az 52).drew).made hm4; (try simp only [World.size_alloc] at r0); rw [hQ] at r0; have r2 := r0.turn 1 rfl (cl_sets _ 52 [.int .i64 st, .string ak, .int .u32 afl, .string av, .int .i64 0, .int .u64 aca, .int .i64 ala, .bool false, .bool false, .int .u64 anum, .bool false, .bool false, .bool false] 0 _ _ (r0.get 1 rfl)); rw [(show setsV 0 [.int .i64 st, .string ak, .int .u32 afl, .string av, .int .i64 0, .int .u64 aca, .int .i64 ala, .bool false, .bool false, .int .u64 anum, .bool false, .bool false, .bool false] #[.int .i64 0, .string ⟨#[]⟩, .int .u32 0, .string ⟨#[]⟩, .int .i64 0, .int .u64 0, .int .i64 0, .bool false, .bool false, .int .u64 0, .bool false, .bool false, .bool false] = #[.int .i64 st, .string ak, .int .u32 afl, .string av, .int .i64 0, .int .u64 aca, .int .i64 ala, .bool false, .bool false, .int .u64 anum, .bool false, .bool false, .bool false] by simp [setsV])] at r2; simp only [setsW, List.set] at r2; have hHR := hav_d ((r2).cells #[.slice (some ⟨g, 0, none⟩) 1 cap, .int .u64 cas', .int .i64 0] 121); (try simp only [World.size_alloc, World.size_setCell] at hHR); have HR := hid hHR; clear hHR; clear r0 r2; have q4 : Q < w4.heap.size := (by have h := hm4.bel.size; simp only [World.size_drew, World.size_alloc] at h; omega); have q5 : ¬ Q = w4.heap.size := (by omega); have q6 : ¬ w4.heap.size = Q := (by omega))
           | ((with_reducible (have kk := F3.out w4 hm4.bel)); obtain ⟨_, _, _, _, _, _, _, _, _, _, _, _, _, _, _, _, _, _, _, _, _, _, _, _, _, _, _, _, _, _, _, _⟩ := kk; have r0 := ((((HJ7.out).cells sz 121).cells az 52).drew).made hm4; (try simp only [World.size_alloc] at r0); rw [hQ] at r0; have r1 := r0.turn 2 rfl (cl_sets _ 121 [.slice (some ⟨g, 0, none⟩) 1 cap, .int .u64 cas', .int .i64 0] 0 _ _ (r0.get 2 rfl)); rw [(show setsV 0 [.slice (some ⟨g, 0, none⟩) 1 cap, .int .u64 cas', .int .i64 0] #[.slice none 0 0, .int .u64 0, .int .i64 0] = #[.slice (some ⟨g, 0, none⟩) 1 cap, .int .u64 cas', .int .i64 0] by simp [setsV])] at r1; simp only [setsW, List.set] at r1; have r2 := r1.turn 1 rfl (cl_sets _ 52 [.int .i64 st, .string ak, .int .u32 afl, .string av, .int .i64 0, .int .u64 aca, .int .i64 ala, .bool false, .bool false, .int .u64 anum, .bool false, .bool false, .bool false] 0 _ _ (r1.get 1 rfl)); rw [(show setsV 0 [.int .i64 st, .string ak, .int .u32 afl, .string av, .int .i64 0, .int .u64 aca, .int .i64 ala, .bool false, .bool false, .int .u64 anum, .bool false, .bool false, .bool false] #[.int .i64 0, .string ⟨#[]⟩, .int .u32 0, .string ⟨#[]⟩, .int .i64 0, .int .u64 0, .int .i64 0, .bool false, .bool false, .int .u64 0, .bool false, .bool false, .bool false] = #[.int .i64 st, .string ak, .int .u32 afl, .string av, .int .i64 0, .int .u64 aca, .int .i64 ala, .bool false, .bool false, .int .u64 anum, .bool false, .bool false, .bool false] by simp [setsV])] at r2; simp only [setsW, List.set] at r2; have hHR := hav_e r2; (try simp only [World.size_alloc, World.size_setCell] at hHR); have HR := hid hHR; clear hHR; clear r0 r1 r2; have q4 : Q < w4.heap.size := (by have h := hm4.bel.size; simp only [World.size_drew, World.size_alloc] at h; omega); have q5 : ¬ Q = w4.heap.size := (by omega); have q6 : ¬ w4.heap.size = Q := (by omega))
           | ((with_reducible (have kk := F4.out w4 hm4.bel)); obtain ⟨_, _, _, _, _, _, _, _, _, _, _, _, _, _, _, _, _, _, _, _, _, _, _, _, _, _, _, _, _, _, _, _⟩ := kk; have r0 := ((((HJ7.out).cells az 52).cells sz 121).drew).made hm4; (try simp only [World.size_alloc] at r0); rw [hQ] at r0; have r1 := r0.turn 1 rfl (cl_sets _ 121 [.slice (some ⟨g, 0, none⟩) 1 cap, .int .u64 cas', .int .i64 0] 0 _ _ (r0.get 1 rfl)); rw [(show setsV 0 [.slice (some ⟨g, 0, none⟩) 1 cap, .int .u64 cas', .int .i64 0] #[.slice none 0 0, .int .u64 0, .int .i64 0] = #[.slice (some ⟨g, 0, none⟩) 1 cap, .int .u64 cas', .int .i64 0] by simp [setsV])] at r1; simp only [setsW, List.set] at r1; have r2 := r1.turn 2 rfl (cl_sets _ 52 [.int .i64 st, .string ak, .int .u32 afl, .string av, .int .i64 0, .int .u64 aca, .int .i64 ala, .bool false, .bool false, .int .u64 anum, .bool false, .bool false, .bool false] 0 _ _ (r1.get 2 rfl)); rw [(show setsV 0 [.int .i64 st, .string ak, .int .u32 afl, .string av, .int .i64 0, .int .u64 aca, .int .i64 ala, .bool false, .bool false, .int .u64 anum, .bool false, .bool false, .bool false] #[.int .i64 0, .string ⟨#[]⟩, .int .u32 0, .string ⟨#[]⟩, .int .i64 0, .int .u64 0, .int .i64 0, .bool false, .bool false, .int .u64 0, .bool false, .bool false, .bool false] = #[.int .i64 st, .string ak, .int .u32 afl, .string av, .int .i64 0, .int .u64 aca, .int .i64 ala, .bool false, .bool false, .int .u64 anum, .bool false, .bool false, .bool false] by simp [setsV])] at r2; simp only [setsW, List.set] at r2; have hHR := hav_f r2; (try simp only [World.size_alloc, World.size_setCell] at hHR); have HR := hid hHR; clear hHR; clear r0 r1 r2; have q4 : Q < w4.heap.size := (by have h := hm4.bel.size; simp only [World.size_drew, World.size_alloc] at h; omega); have q5 : ¬ Q = w4.heap.size := (by omega); have q6 : ¬ w4.heap.size = Q := (by omega))
           | (have r0 := ((HJ7.out).drew).made hm4; have hHR := hav_a ((((r0).cells #[.slice (some ⟨g, 0, none⟩) 1 cap, .int .u64 cas', .int .i64 0] 121)).cells #[.int .i64 st, .string ak, .int .u32 afl, .string av, .int .i64 0, .int .u64 aca, .int .i64 ala, .bool false, .bool false, .int .u64 anum, .bool false, .bool false, .bool false] 52); (try simp only [World.size_alloc, World.size_setCell] at hHR); have HR := hid hHR; clear hHR; have hHR2 := hav_b ((((r0).cells #[.int .i64 st, .string ak, .int .u32 afl, .string av, .int .i64 0, .int .u64 aca, .int .i64 ala, .bool false, .bool false, .int .u64 anum, .bool false, .bool false, .bool false] 52)).cells #[.slice (some ⟨g, 0, none⟩) 1 cap, .int .u64 cas', .int .i64 0] 121); (try simp only [World.size_alloc, World.size_setCell] at hHR2); have HR2 := hid hHR2; clear hHR2; clear r0; skip)); have hb4 : Below W3.heap.size W3 w4 := Below.trans (by go_grown) (hm4.bel.mono (by first | (simp; done) | (simp; omega))); have hsz4 := hb4.size; have hne1 : ¬ w4.heap.size = w4.heap.size + 1 := (by omega); have hne2 : ¬ w4.heap.size + 1 = w4.heap.size := (by omega); have G1 := ((Made.cells w4 sz 121).below (bA _ (.cells az 52))).here; have G2 := ((Made.cells w4 az 52).below (bA _ (.cells sz 121))).here; obtain ⟨_, _, _, _, _, _⟩ := caf3' G1; obtain ⟨_, _, _, _, _, _, _, _, _, _, _, _, _, _, _, _, _, _, _, _, _, _, _, _, _, _⟩ := caf13' G2; clear G1 G2; clear hm4))
    all_goals (go_wp2_with fail)
    all_goals go_meet
    all_goals first
      | ((with_reducible refine ⟨g, cap, w4.heap.size, w4.heap.size + 1, rfl, rfl, ?_⟩); exact HR)
      | ((with_reducible refine ⟨g, cap, w4.heap.size + 1, w4.heap.size, rfl, rfl, ?_⟩); exact HR2)
      | ((with_reducible refine ⟨g, cap, _, _, rfl, rfl, ?_⟩); exact HR)
      | fail
  case rest =>
    obtain ⟨g, cap, A, B, rfl, rfl, hJ⟩ := hcut
    have HXX := hid hx'
    clear HMo HAp HS F1 F2 F3 F4 HAA hx' y0 y1 y2 c0 c1 c2 c3 c4 c5 c6 c7 c8 c9 c10 c11 c12 c13 c14 c15
    obtain ⟨a0, a1, a2⟩ : ca3 wc A (.slice (some ⟨g, 0, none⟩) 1 cap) (.int .u64 cas') (.int .i64 0) := ca3' (hJ.out.get 1 rfl)
    obtain ⟨i0, i1, i2, i3, i4, i5, i6, i7⟩ : ra8 wc g (.string ckey) (.int .u32 x'.fl) (.string (vlB x'.v)) (.int .i64 0) (.int .u64 x'.cas) (.int .i64 x'.last) (.bool false) (.bool false) := ra8' (hJ.out.get 2 rfl)
    have HE := hid (fun w' => enc_it HK.out.size HK.out.keyB HXX.out w')
    unfold itmV at HE
    go_wp2_with (fail)
    go_at_call 118
    refine (HE.out _).mono ?_
    rintro e w5 ⟨g2, cap2, rfl, hm5⟩
    have J5 := hid (hJ.out.made hm5)
    obtain ⟨nb, hnb⟩ : ∃ nb, (encI ckey x').length = nb := ⟨_, rfl⟩
    have HN := hid hnb
    rw [hnb]
    clear a0 a1 a2 i0 i1 i2 i3 i4 i5 i6 i7 HE hm5 hJ hnb
    have HC5 : Hid (∀ W', Below w5.heap.size w5 W' → Calls prog 119 #[.pointer (some ⟨m.s, 0, none⟩), .int .i64 0] W' fun e w' => e = .returned (.int .i64 0) ∧ Below W'.heap.size W' w') := hid (fun W' hb => by
      rw [← HM.out.1]
      exact (class_ok ((J5.out.below hb).get 9 rfl) ((J5.out.below hb).get 10 rfl) HO1.out.wf).mono (fun e w' h => ⟨h.1, by obtain ⟨n, rfl⟩ := h.2; exact below_drewN' _ _⟩))
    have HS5 : Hid (∀ W', Below w5.heap.size w5 W' → Calls prog 120 #[.slice (some ⟨m1.zb, 0, none⟩) 4 m1.zc, .int .i64 nb] W' fun e w' => e = .returned (.int .i64 0) ∧ Below W'.heap.size W' w') := hid (fun W' hb => by
      have := encI_len HK.out.size HXX.out
      have := HN.out
      exact sclass_ok ((J5.out.below hb).get 11 rfl) (by omega))
    have HZ : Hid (∀ w', Below w5.heap.size w5 w' → w'.cell? ⟨m.s, 2, none⟩ = some (.slice (some ⟨m1.zb, 0, none⟩) 4 m1.zc)) := hid (fun w' hb => by rw [← HM.out.1]; exact cA ((J5.out.below hb).get 9 rfl) 2)
    have hms : m1.s = m.s := HM.out.1
    go_upto_region 15 with fail
    go_cut [94] from 81 to 94 (fun s94 wx => s94 = .bool true ∧ Hid (Below w5.heap.size w5 wx))
    case first =>
      go_region_held3 (fun w' => w'.cell? ⟨m.s, 2, none⟩ = some (.slice (some ⟨m1.zb, 0, none⟩) 4 m1.zc)) (first | exact HZ.out _ HB6.out | exact HZ.out _ (Below.refl _ _) | exact HZ.out _ (Below.refl _ _).drew | fail) (first
        | (go_at_call 119; refine (HC5.out _ (by first | (go_grown; done) | exact HB6.out | (have := HB6.out; go_grown))).mono ?_; rintro e w6 ⟨rfl, hb6⟩; have hbb : Below w5.heap.size w5 w6 := Below.trans (by first | (go_grown; done) | exact HB6.out) (hb6.mono (by first | (simp; done) | exact HB6.out.size)); have HB6 := hid hbb; have z6 := HZ.out w6 hbb; clear hb6 hbb)
        | (go_at_call 120; refine (HS5.out _ (by first | (go_grown; done) | exact HB6.out)).mono ?_; rintro e w6 ⟨rfl, hb6⟩; have hbb : Below w5.heap.size w5 w6 := Below.trans (by first | (go_grown; done) | exact HB6.out) (hb6.mono (by first | (simp; done) | exact HB6.out.size)); have HB6 := hid hbb; have z6 := HZ.out w6 hbb; clear hb6 hbb))
      all_goals (go_wp2_with fail)
      all_goals (go_meet; exact ⟨rfl, hid (by first | exact HB6.out | (go_grown; done))⟩)
    case rest =>
      obtain ⟨rfl, hb6⟩ := hcut
      have J6 := J5.out.below hb6.out
      have hbl := HO1.out.hold.len
      have HP := hid (put_it (x := x') HK.out.size HXX.out (J6.get 10 rfl) HO1.out.wf (by rw [ext_len512 hbl]; exact hbl) (by rw [ext_len512 hbl]; exact HO1.out.hold.by') (by omega) (J6.get 0 rfl) (fun hx => J6.apart (i := 0) (j := 10) rfl rfl (by decide) g2 rfl hx))
      rw [HN.out] at HP
      have c0 : wc.cell? ⟨m.s, 0, none⟩ = some (.pointer (some ⟨m1.β.sb, 0, none⟩)) := by rw [← hms]; exact cA (J6.get 9 rfl) 0
      have HJ6 := hid J6
      clear J6 hb6 HC5 HS5 HZ J5 hbl
      go_upto_region 16 with fail
      go_wp2_with (fail)
      go_at_call 121
      refine HP.out.mono ?_
      rintro e w7 ⟨rfl, β2, bs2, hsb2, hsg2, hh2, ht2⟩
      have J7 := HJ6.out.turn 10 rfl ht2
      obtain ⟨m2, hm2⟩ : ∃ m2 : SM, m2 = { m1 with β := β2, bs := bs2 } := ⟨_, rfl⟩
      have hst : stC m2 cas = stC m1 cas := by rw [hm2]; unfold stC; rw [hsb2, hsg2]
      have hs2 : m2.s = m.s := by rw [hm2]; exact hms
      have HM2 : Hid (m2.s = m.s ∧ m2.ps = m.ps) := hid (by rw [hm2]; exact ⟨hms, HM.out.2⟩)
      have HO2 : Hid (SOk ckey x' m2) := hid (by rw [hm2]; exact ⟨wf_bs HO1.out.wf, hh2, HXX.out, HO1.out.held⟩)
      have HJ7 : Hid (Hav (stF ckey h b m cas).B w ([bytR g2 (encI ckey x').length cap2 (encI ckey x'), cAt B #[.int .i64 st, .string ak, .int .u32 afl, .string av, .int .i64 0, .int .u64 aca, .int .i64 ala, .bool false, .bool false, .int .u64 anum, .bool false, .bool false, .bool false] 52, cAt A #[.slice (some ⟨g, 0, none⟩) 1 cap, .int .u64 cas', .int .i64 0] 121, rowI g cap ckey x'.fl (vlB x'.v) x'.cas x'.last, rowAt (.slice (some ⟨XB, 0, none⟩) 1 1) 50 8 1 #[.string ckey, .int .u32 x.fl, .string (vlB x.v), .int .i64 0, .int .u64 x.cas, .int .i64 x.last, .bool false, .bool false].toList, cAt X #[.string ckey, .int .u32 x.fl, .string (vlB x.v), .int .i64 0, .int .u64 x.cas, .int .i64 x.last, .bool false, .bool false] 50, cAt (N + 1 + 1) (#[.slice none 0 0, .int .u64 cas, .int .i64 0].setIfInBounds 0 (.slice (some ⟨XB, 0, none⟩) 1 1)) 121, cAt (N + 1) (ansT 0) 52, cAt N (Cm.vs ⟨op, mode, ckey, value, flags, exp, tok, hasCas, delta, recache⟩) 56] ++ stL ckey h b m2 cas) w7) := hid (by
        have h1 := J7
        unfold stL
        rw [hst, hm2]
        exact h1)
      clear J7 hst ht2 hh2 hsb2 hsg2 hm2 HJ6 HP c0 HO1 HM HN hms
      have o0 : w7.cell? ⟨N, 0, none⟩ = some (.int .i64 op) := cA (HJ7.out.get 8 rfl) 0
      have g4 : (op != 4) = true := by have := HOP.out; simp; omega
      have g5 : (op != 5) = true := by have := HOP.out; simp; omega
      have g7 : (op != 7) = true := by have := HOP.out; simp; omega
      have HPo := hid (policy_ok (m := m2) (cas := cas) (HJ7.out.get 9 rfl) (HJ7.out.get 10 rfl) HO2.out.wf (HJ7.out.get 13 rfl))
      rw [hs2] at HPo
      have HPt := hid (fun n => pol_touch (s := m2.ps) (w := w7.drewN n) ((HJ7.out.drewN n).get 14 rfl) HO2.out.held (by rw [HM2.out.2]; exact HNN.out))
      go_wp2_with (go_at_call 122; refine HPo.out.mono ?_; rintro e w8 ⟨rfl, n8, rfl⟩)
      go_at_call 123
      refine (HPt.out _).mono ?_
      rintro e w8 ⟨rfl, s', hseg, hheld, hpb, hnum, ht⟩
      have J8 := (HJ7.out.drewN n8).turn 14 rfl ht
      obtain ⟨m3, hm3⟩ : ∃ m3 : SM, m3 = { m2 with ps := s' } := ⟨_, rfl⟩
      have hs3 : m3.s = m.s := by rw [hm3]; exact hs2
      have HM3 : Hid (m3.s = m.s ∧ m3.ps.num = m.ps.num + 1) := hid (by rw [hm3]; exact ⟨hs2, by rw [hnum, HM2.out.2]⟩)
      have HO3 : Hid (SOk ckey x' m3) := hid (by rw [hm3]; exact ⟨HO2.out.wf, HO2.out.hold, HXX.out, hheld⟩)
      have HJ8 : Hid (Hav (stF ckey h b m cas).B w ([bytR g2 (encI ckey x').length cap2 (encI ckey x'), cAt B #[.int .i64 st, .string ak, .int .u32 afl, .string av, .int .i64 0, .int .u64 aca, .int .i64 ala, .bool false, .bool false, .int .u64 anum, .bool false, .bool false, .bool false] 52, cAt A #[.slice (some ⟨g, 0, none⟩) 1 cap, .int .u64 cas', .int .i64 0] 121, rowI g cap ckey x'.fl (vlB x'.v) x'.cas x'.last, rowAt (.slice (some ⟨XB, 0, none⟩) 1 1) 50 8 1 #[.string ckey, .int .u32 x.fl, .string (vlB x.v), .int .i64 0, .int .u64 x.cas, .int .i64 x.last, .bool false, .bool false].toList, cAt X #[.string ckey, .int .u32 x.fl, .string (vlB x.v), .int .i64 0, .int .u64 x.cas, .int .i64 x.last, .bool false, .bool false] 50, cAt (N + 1 + 1) (#[.slice none 0 0, .int .u64 cas, .int .i64 0].setIfInBounds 0 (.slice (some ⟨XB, 0, none⟩) 1 1)) 121, cAt (N + 1) (ansT 0) 52, cAt N (Cm.vs ⟨op, mode, ckey, value, flags, exp, tok, hasCas, delta, recache⟩) 56] ++ stL ckey h b m3 cas) w8) := hid (by
        have h1 := J8
        unfold stL stQ
        rw [hm3, hpb]
        exact h1)
      clear J8 ht hseg hheld hpb hnum hm3 HJ7 HPo HPt HO2 HM2 hs2 o0
      go_upto_region 19 with fail
      have a1 : w8.cell? ⟨A, 1, none⟩ = some (.int .u64 cas') := cA (HJ8.out.get 2 rfl) 1
      have c5 : w8.cell? ⟨m.s, 5, none⟩ = some (.int .u64 cas) := by rw [← hs3]; exact cA (HJ8.out.get 9 rfl) 5
      have f5 : w8.frozen? ⟨m.s, 5, none⟩ = false := by rw [← hs3]; exact cZ (HJ8.out.get 9 rfl) 5
      have e5 : (stC m3 cas).setIfInBounds 5 (.int .u64 cas') = stC m3 cas' := by simp [stC]
      have t9 := cl_set (HJ8.out.get 9 rfl) 5 (.int .u64 cas')
      rw [e5] at t9
      have J9 := HJ8.out.turn 9 rfl t9
      rw [hs3] at J9
      go_upto_region 20 with fail
      obtain ⟨w9, hw9⟩ : ∃ w9, w8.setCell ⟨m.s, 5, none⟩ (.int .u64 cas') = w9 := ⟨_, rfl⟩
      rw [hw9] at J9
      rw [hw9]
      clear hw9 HJ8 t9 e5 a1 c5 f5
      have HJ9 := hid J9
      clear J9
      obtain ⟨b0, b1, b2, b3, b4, b5, b6, b7, b8, b9, b10, b11, b12⟩ : ca13 w9 B (.int .i64 st) (.string ak) (.int .u32 afl) (.string av) (.int .i64 0) (.int .u64 aca) (.int .i64 ala) (.bool false) (.bool false) (.int .u64 anum) (.bool false) (.bool false) (.bool false) := ca13' (HJ9.out.get 1 rfl)
      obtain ⟨r0, z0, r1, z1, r2, z2, r3, z3, r4, z4, r5, z5, r6, z6, r7, z7, r8, z8, r9, z9, r10, z10, r11, z11, r12, z12⟩ : caf13 w9 (N + 1) (.int .i64 0) (.string ⟨#[]⟩) (.int .u32 0) (.string ⟨#[]⟩) (.int .i64 0) (.int .u64 0) (.int .i64 0) (.bool false) (.bool false) (.int .u64 0) (.bool false) (.bool false) (.bool false) := caf13' (HJ9.out.get 7 rfl)
      have y1 : ¬ B = N + 1 := fun e => HJ9.out.apart (i := 1) (j := 7) rfl rfl (by decide) B rfl e
      have y2 : ¬ N + 1 = B := fun e => y1 e.symm
      have hs := cl_sets (N + 1) 52 [.int .i64 st, .string ak, .int .u32 afl, .string av, .int .i64 0, .int .u64 aca, .int .i64 ala, .bool false, .bool false, .int .u64 anum, .bool false, .bool false, .bool false] 0 _ _ (HJ9.out.get 7 rfl)
      have k1 := HJ9.out.turn 7 rfl hs
      have h2 := k1.get 7 rfl
      rw [ans_set] at h2
      have h3 := (k1.sub (.cons _ (.cons _ (.cons _ (.cons _ (.cons _ (.cons _ (.cons _ (.cons _ (.cons _ (List.Sublist.refl _))))))))))).shut
      rw [← hs3] at h3
      replace h3 : Turn (stF ckey h b m cas) (stF ckey h b m3 cas') w _ := h3
      simp only [setsW] at h2 h3
      have HE := hid (And.intro h2 h3)
      clear hs k1 h2 h3 HJ9
      go_wp2_with (fail)
      exact ret_ans2 (N := N + 1) (vm := .slice none 0 0) rfl rfl rfl HE.out.1 ⟨rfl, m3, HM3.out.1, Nat.le_of_eq HM3.out.2, HO3.out, HE.out.2⟩
end Go.Proofs.YtboehbfagnocpaaGreatDoor
