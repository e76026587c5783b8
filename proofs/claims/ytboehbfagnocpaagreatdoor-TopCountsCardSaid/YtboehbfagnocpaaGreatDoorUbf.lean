/- Tsj. -/
import Derived.Test.YtboehbfagnocpaaGreatDoorUbe
set_option linter.unusedVariables false
set_option linter.unusedSimpArgs false
set_option maxRecDepth 100000
open Go.Proofs.Tryz
open Go.Lib (hid)
namespace Go.Proofs.YtboehbfagnocpaaGreatDoor
open Go.RowKit Go.PlainAid Go.Shelf
open SP
theorem st_cas {key : ByteArray} {h : Int} {b : Nat} {m : SM} {cas cas' : Int} {w : World} (hR : (stF key h b m cas).R w) : Turn (stF key h b m cas) (stF key h b m cas') w (w.setCell ⟨m.s, 5, none⟩ (.int .u64 cas')) := by
  have J := Hav.open hR
  have t := cl_set (J.get 0 rfl) 5 (.int .u64 cas')
  have e : (stC m cas).setIfInBounds 5 (.int .u64 cas') = stC m cas' := by simp [stC]
  rw [e] at t
  exact (J.turn 0 rfl t).shut
theorem ext_nil : (AP.ext [] 512).length = 512 := by decide +kernel
theorem ext_nil_b : I8.P.Bytes (AP.ext [] 512) := by
  have h : ∀ y ∈ AP.ext [] 512, 0 ≤ y ∧ y < 256 := by decide +kernel
  exact h
set_option maxHeartbeats 4000000 in
theorem one_none {key : ByteArray} {h : Int} {b : Nat} (hk : KeyI key h b) {m : SM} {cas cas' : Int} {x' : PM.It} {c : Cm} {st afl aca ala anum : Int} {ak av : ByteArray} {w : World} (hR : (many (stPL pi0 b m cas)).R w) (ho : SOkE m) (hnn : m.ps.num ≤ 1000000) (hck : c.key = key) (hx' : ItOk x')
    (HA : ∀ (W : World),
      Calls prog 51 #[.agg #[.slice none 0 0, .int .u64 cas, .int .i64 0], .int .i64 1, .agg c.vs, .int .i64 472] W fun e w' => ∃ g cap, e = .returned (.tuple #[.agg #[.slice (some ⟨g, 0, none⟩) 1 cap, .int .u64 cas', .int .i64 0], .agg #[.int .i64 st, .string ak, .int .u32 afl, .string av, .int .i64 0, .int .u64 aca, .int .i64 ala, .bool false, .bool false, .int .u64 anum, .bool false, .bool false, .bool false]]) ∧ Made (rowI g cap key x'.fl (vlB x'.v) x'.cas x'.last) W w') :
    Calls prog 55 #[.pointer (some ⟨m.s, 0, none⟩), .int .i64 1, .agg c.vs] w fun e w' => e = .returned (.tuple #[.agg #[.int .i64 st, .string ak, .int .u32 afl, .string av, .int .i64 0, .int .u64 aca, .int .i64 ala, .bool false, .bool false, .int .u64 anum, .bool false, .bool false, .bool false], .slice none 0 0]) ∧
      ∃ m' : SM, m'.s = m.s ∧ m'.ps.num ≤ m.ps.num + 1 ∧ SOk key x' m' ∧ Turn (many (stPL pi0 b m cas)) (stF key h b m' cas') w w' := by
  obtain ⟨op, mode, ckey, value, flags, exp, tok, hasCas, delta, recache⟩ := c
  dsimp only at hck
  subst hck
  have J0 := (((Hav.start hR).cells (Cm.vs ⟨op, mode, ckey, value, flags, exp, tok, hasCas, delta, recache⟩) 56).cells (ansT 0) 52).cells #[.slice none 0 0, .int .u64 cas, .int .i64 0] 121
  simp only [World.size_alloc] at J0
  have j0 := ((Hav.start hR).cells (Cm.vs ⟨op, mode, ckey, value, flags, exp, tok, hasCas, delta, recache⟩) 56).cells (ansT 0) 52
  obtain ⟨N, hN⟩ : ∃ N, w.heap.size = N := ⟨_, rfl⟩
  obtain ⟨W0, hW0⟩ : ∃ W0, (w.alloc (.cells (Cm.vs ⟨op, mode, ckey, value, flags, exp, tok, hasCas, delta, recache⟩) 56)).alloc (.cells (ansT 0) 52) = W0 := ⟨_, rfl⟩
  rw [hW0] at j0 J0
  have s5 : W0.cell? ⟨m.s, 5, none⟩ = some (.int .u64 cas) := cA ((Hav.open (j0.get 2 rfl)).get 0 rfl) 5
  have hs0 : W0.heap.size = N + 1 + 1 := by rw [← hW0]; simp [hN]
  rw [hN] at J0
  simp only [Cm.vs, ansT] at hW0
  have HW0 := hid hW0
  obtain ⟨W, hW⟩ : ∃ W, W0.alloc (.cells #[.slice none 0 0, .int .u64 cas, .int .i64 0] 121) = W := ⟨_, rfl⟩
  rw [hW] at J0
  have HW := hid hW
  have HJ := hid J0
  have HO := hid ho
  have HNN := hid hnn
  have HK := hid hk
  have HAA := hid HA
  unfold Cm.vs at HAA
  dsimp only at HAA
  clear J0 j0 hR HA hk ho hW hnn
  unfold Cm.vs
  dsimp only
  go_enter func55, ntmps55
  go_upto_region 2 with fail
  rw [HW.out]
  clear HW HW0 hs0 s5 hW0 hN
  have c3 : W.cell? ⟨m.s, 3, none⟩ = some (.pointer (some ⟨m.tb, 0, none⟩)) := cA ((Hav.open (HJ.out.get 3 rfl)).get 0 rfl) 3
  have k2 : W.cell? ⟨N, 2, none⟩ = some (.string ckey) := cA (HJ.out.get 2 rfl) 2
  have HG := hid (fun n => get_0 HK.out (w := W.drewN n) ((Hav.open ((HJ.out.drewN n).get 3 rfl)).get 3 rfl))
  go_quiet ((go_at_call 115; exact Calls.quiet_of (HG.out _)))
  obtain ⟨W3, hY⟩ : ∃ Y, W.drewN nq = Y := ⟨_, rfl⟩
  have KY := HJ.out.drewN nq
  rw [hY] at KY ⊢
  have HJ7 := hid KY
  clear hY KY HJ HG c3 k2
  obtain ⟨y0, y1, y2⟩ : ca3 W3 (N + 1 + 1) (.slice none 0 0) (.int .u64 cas) (.int .i64 0) := ca3' (HJ7.out.get 0 rfl)
  obtain ⟨c0, c1, c2, c3, c4, c5, c6, c7, c8, c9, c10, c11, c12, c13, c14, c15⟩ : ca16 W3 N (.int .i64 op) (.int .i64 mode) (.string ckey) (.string value) (.int .u32 flags) (.int .i64 exp) (.bool false) (.int .u64 tok) (.bool hasCas) (.int .u64 delta) (.int .u64 0) (.bool false) (.bool false) (.int .i64 0) (.int .i64 recache) (.bool false) := ca16' (HJ7.out.get 2 rfl)
  have HMo : Hid (∀ W', Below W3.heap.size W3 W' → Calls prog 52 #[.pointer (some ⟨m.s, 0, none⟩)] W' fun e w' => e = .returned (.int .i64 472) ∧ W' = w') := hid (fun W' hb => by
    have JJ := Hav.open ((HJ7.out.below hb).get 3 rfl)
    exact most_ok (JJ.get 0 rfl) (JJ.get 1 rfl) rfl)
  have HAp : Hid (∀ W', Below W3.heap.size W3 W' → Calls prog 51 #[.agg #[.slice none 0 0, .int .u64 cas, .int .i64 0], .int .i64 1, .agg #[.int .i64 op, .int .i64 mode, .string ckey, .string value, .int .u32 flags, .int .i64 exp, .bool false, .int .u64 tok, .bool hasCas, .int .u64 delta, .int .u64 0, .bool false, .bool false, .int .i64 0, .int .i64 recache, .bool false], .int .i64 472] W' fun e w' => ∃ g cap, e = .returned (.tuple #[.agg #[.slice (some ⟨g, 0, none⟩) 1 cap, .int .u64 cas', .int .i64 0], .agg #[.int .i64 st, .string ak, .int .u32 afl, .string av, .int .i64 0, .int .u64 aca, .int .i64 ala, .bool false, .bool false, .int .u64 anum, .bool false, .bool false, .bool false]]) ∧ Made (rowI g cap ckey x'.fl (vlB x'.v) x'.cas x'.last) W' w') := hid (fun W' hb => HAA.out W')
  go_upto_region 9 with fail
  obtain ⟨Q, hQ⟩ : ∃ Q, W3.heap.size = Q := ⟨_, rfl⟩
  have F1 := hid (fl1 hQ)
  have F2 := hid (fl2 hQ)
  have F3 := hid (fl3 hQ)
  have F4 := hid (fl4 hQ)
  have HS : Hid (∀ w', Below W3.heap.size W3 w' → w'.cell? ⟨N + 1 + 1, 0, none⟩ = some (.slice none 0 0) ∧ w'.cell? ⟨N + 1 + 1, 1, none⟩ = some (.int .u64 cas) ∧ w'.cell? ⟨N + 1 + 1, 2, none⟩ = some (.int .i64 0) ∧ w'.cell? ⟨N, 0, none⟩ = some (.int .i64 op) ∧ w'.cell? ⟨N, 1, none⟩ = some (.int .i64 mode) ∧ w'.cell? ⟨N, 2, none⟩ = some (.string ckey) ∧ w'.cell? ⟨N, 3, none⟩ = some (.string value) ∧ w'.cell? ⟨N, 4, none⟩ = some (.int .u32 flags) ∧ w'.cell? ⟨N, 5, none⟩ = some (.int .i64 exp) ∧ w'.cell? ⟨N, 6, none⟩ = some (.bool false) ∧ w'.cell? ⟨N, 7, none⟩ = some (.int .u64 tok) ∧ w'.cell? ⟨N, 8, none⟩ = some (.bool hasCas) ∧ w'.cell? ⟨N, 9, none⟩ = some (.int .u64 delta) ∧ w'.cell? ⟨N, 10, none⟩ = some (.int .u64 0) ∧ w'.cell? ⟨N, 11, none⟩ = some (.bool false) ∧ w'.cell? ⟨N, 12, none⟩ = some (.bool false) ∧ w'.cell? ⟨N, 13, none⟩ = some (.int .i64 0) ∧ w'.cell? ⟨N, 14, none⟩ = some (.int .i64 recache) ∧ w'.cell? ⟨N, 15, none⟩ = some (.bool false)) := hid (fun w' hb => by
    have h0 := (HJ7.out.below hb).get 0 rfl
    have h1 := (HJ7.out.below hb).get 2 rfl
    exact ⟨cA h0 0, cA h0 1, cA h0 2, cA h1 0, cA h1 1, cA h1 2, cA h1 3, cA h1 4, cA h1 5, cA h1 6, cA h1 7, cA h1 8, cA h1 9, cA h1 10, cA h1 11, cA h1 12, cA h1 13, cA h1 14, cA h1 15⟩)
  go_cut [12, 13] from 50 to 58 (fun s12 s13 wx => ∃ g cap A B, s12 = .pointer (some ⟨A, 0, none⟩) ∧ s13 = .pointer (some ⟨B, 0, none⟩) ∧ Hid (Hav (many (stPL pi0 b m cas)).B w ([cAt B #[.int .i64 st, .string ak, .int .u32 afl, .string av, .int .i64 0, .int .u64 aca, .int .i64 ala, .bool false, .bool false, .int .u64 anum, .bool false, .bool false, .bool false] 52, cAt A #[.slice (some ⟨g, 0, none⟩) 1 cap, .int .u64 cas', .int .i64 0] 121, rowI g cap ckey x'.fl (vlB x'.v) x'.cas x'.last, cAt (N + 1 + 1) #[.slice none 0 0, .int .u64 cas, .int .i64 0] 121, cAt (N + 1) (ansT 0) 52, cAt N (Cm.vs ⟨op, mode, ckey, value, flags, exp, tok, hasCas, delta, recache⟩) 56, many (stPL pi0 b m cas)]) wx))
  case first =>
    go_region_held3 (fun w' => w'.cell? ⟨N + 1 + 1, 0, none⟩ = some (.slice none 0 0) ∧ w'.cell? ⟨N + 1 + 1, 1, none⟩ = some (.int .u64 cas) ∧ w'.cell? ⟨N + 1 + 1, 2, none⟩ = some (.int .i64 0) ∧ w'.cell? ⟨N, 0, none⟩ = some (.int .i64 op) ∧ w'.cell? ⟨N, 1, none⟩ = some (.int .i64 mode) ∧ w'.cell? ⟨N, 2, none⟩ = some (.string ckey) ∧ w'.cell? ⟨N, 3, none⟩ = some (.string value) ∧ w'.cell? ⟨N, 4, none⟩ = some (.int .u32 flags) ∧ w'.cell? ⟨N, 5, none⟩ = some (.int .i64 exp) ∧ w'.cell? ⟨N, 6, none⟩ = some (.bool false) ∧ w'.cell? ⟨N, 7, none⟩ = some (.int .u64 tok) ∧ w'.cell? ⟨N, 8, none⟩ = some (.bool hasCas) ∧ w'.cell? ⟨N, 9, none⟩ = some (.int .u64 delta) ∧ w'.cell? ⟨N, 10, none⟩ = some (.int .u64 0) ∧ w'.cell? ⟨N, 11, none⟩ = some (.bool false) ∧ w'.cell? ⟨N, 12, none⟩ = some (.bool false) ∧ w'.cell? ⟨N, 13, none⟩ = some (.int .i64 0) ∧ w'.cell? ⟨N, 14, none⟩ = some (.int .i64 recache) ∧ w'.cell? ⟨N, 15, none⟩ = some (.bool false)) (first | exact HS.out _ (by first | (go_grown; done) | (go_grown <;> first | omega | (simp; omega))) | fail) (first
      | (go_at_call 52; refine (HMo.out _ (by go_grown)).mono ?_; rintro e w4 ⟨rfl, rfl⟩)
      | (go_at_call 51; refine (HAp.out _ (by go_grown)).mono ?_; rintro e w4 ⟨g, cap, rfl, hm4⟩; have HM4 := hid hm4; (first
           | ((with_reducible (have kk := F1.out w4 hm4.bel)); obtain ⟨_, _, _, _, _, _⟩ := F1.out (w4.alloc (.cells az 52)) (hm4.bel.alloc hm4.bel.size _); obtain ⟨_, _, _, _, _, _⟩ := kk; have r0 := (((HJ7.out).cells sz 121).drew).made hm4; (try simp only [World.size_alloc] at r0); rw [hQ] at r0; have r1 := r0.turn 1 rfl (cl_sets _ 121 [.slice (some ⟨g, 0, none⟩) 1 cap, .int .u64 cas', .int .i64 0] 0 _ _ (r0.get 1 rfl)); rw [(show setsV 0 [.slice (some ⟨g, 0, none⟩) 1 cap, .int .u64 cas', .int .i64 0] #[.slice none 0 0, .int .u64 0, .int .i64 0] = #[.slice (some ⟨g, 0, none⟩) 1 cap, .int .u64 cas', .int .i64 0] by simp [setsV])] at r1; simp only [setsW, List.set] at r1; have hHR := hav_c ((r1).cells #[.int .i64 st, .string ak, .int .u32 afl, .string av, .int .i64 0, .int .u64 aca, .int .i64 ala, .bool false, .bool false, .int .u64 anum, .bool false, .bool false, .bool false] 52); (try simp only [World.size_alloc, World.size_setCell] at hHR); have HR := hid hHR; clear hHR; clear r0 r1; have q4 : Q < w4.heap.size := (by have h := hm4.bel.size; simp only [World.size_drew, World.size_alloc] at h; omega); have q5 : ¬ Q = w4.heap.size := (by omega); have q6 : ¬ w4.heap.size = Q := (by omega))
           | ((with_reducible (have kk := F2.out w4 hm4.bel)); obtain ⟨_, _, _, _, _, _, _, _, _, _, _, _, _, _, _, _, _, _, _, _, _, _, _, _, _, _⟩ := F2.out (w4.alloc (.cells sz 121)) (hm4.bel.alloc hm4.bel.size _); obtain ⟨_, _, _, _, _, _, _, _, _, _, _, _, _, _, _, _, _, _, _, _, _, _, _, _, _, _⟩ := kk; have r0 := (((HJ7.out).cells az 52).drew).made hm4; (try simp only [World.size_alloc] at r0); rw [hQ] at r0; have r2 := r0.turn 1 rfl (cl_sets _ 52 [.int .i64 st, .string ak, .int .u32 afl, .string av, .int .i64 0, .int .u64 aca, .int .i64 ala, .bool false, .bool false, .int .u64 anum, .bool false, .bool false, .bool false] 0 _ _ (r0.get 1 rfl)); rw [(show setsV 0 [.int .i64 st, .string ak, .int .u32 afl, .string av, .int .i64 0, .int .u64 aca, .int .i64 ala, .bool false, .bool false, .int .u64 anum, .bool false, .bool false, .bool false] #[.int .i64 0, .string ⟨#[]⟩, .int .u32 0, .string ⟨#[]⟩, .int .i64 0, .int .u64 0, .int .i64 0, .bool false, .bool false, .int .u64 0, .bool false, .bool false, .bool false] = #[.int .i64 st, .string ak, .int .u32 afl, .string av, .int .i64 0, .int .u64 aca, .int .i64 ala, .bool false, .bool false, .int .u64 anum, .bool false, .bool false, .bool false] by simp [setsV])] at r2; simp only [setsW, List.set] at r2; have hHR := hav_d ((r2).cells #[.slice (some ⟨g, 0, none⟩) 1 cap, .int .u64 cas', .int .i64 0] 121); (try simp only [World.size_alloc, World.size_setCell] at hHR); have HR := hid hHR; clear hHR; clear r0 r2; have q4 : Q < w4.heap.size := (by have h := hm4.bel.size; simp only [World.size_drew, World.size_alloc] at h; omega); have q5 : ¬ Q = w4.heap.size := (by omega); have q6 : ¬ w4.heap.size = Q := (by omega))
           | ((with_reducible (have kk := F3.out w4 hm4.bel)); obtain ⟨_, _, _, _, _, _, _, _, _, _, _, _, _, _, _, _, _, _, _, _, _, _, _, _, _, _, _, _, _, _, _, _⟩ := kk; have r0 := ((((HJ7.out).cells sz 121).cells az 52).drew).made hm4; (try simp only [World.size_alloc] at r0); rw [hQ] at r0; have r1 := r0.turn 2 rfl (cl_sets _ 121 [.slice (some ⟨g, 0, none⟩) 1 cap, .int .u64 cas', .int .i64 0] 0 _ _ (r0.get 2 rfl)); rw [(show setsV 0 [.slice (some ⟨g, 0, none⟩) 1 cap, .int .u64 cas', .int .i64 0] #[.slice none 0 0, .int .u64 0, .int .i64 0] = #[.slice (some ⟨g, 0, none⟩) 1 cap, .int .u64 cas', .int .i64 0] by simp [setsV])] at r1; simp only [setsW, List.set] at r1; have r2 := r1.turn 1 rfl (cl_sets _ 52 [.int .i64 st, .string ak, .int .u32 afl, .string av, .int .i64 0, .int .u64 aca, .int .i64 ala, .bool false, .bool false, .int .u64 anum, .bool false, .bool false, .bool false] 0 _ _ (r1.get 1 rfl)); rw [(show setsV 0 [.int .i64 st, .string ak, .int .u32 afl, .string av, .int .i64 0, .int .u64 aca, .int .i64 ala, .bool false, .bool false, .int .u64 anum, .bool false, .bool false, .bool false] #[.int .i64 0, .string ⟨#[]⟩, .int .u32 0, .string ⟨#[]⟩, .int .i64 0, .int .u64 0, .int .i64 0, .bool false, .bool false, .int .u64 0, .bool false, .bool false, .bool false] = #[.int .i64 st, .string ak, .int .u32 afl, .string av, .int .i64 0, .int .u64 aca, .int .i64 ala, .bool false, .bool false, .int .u64 anum, .bool false, .bool false, .bool false] by simp [setsV])] at r2; simp only [setsW, List.set] at r2; have hHR := hav_e r2; (try simp only [World.size_alloc, World.size_setCell] at hHR); have HR := hid hHR; clear hHR; clear r0 r1 r2; have q4 : Q < w4.heap.size := (by have h := hm4.bel.size; simp only [World.size_drew, World.size_alloc] at h; omega); have q5 : ¬ Q = w4.heap.size := (by omega); have q6 : ¬ w4.heap.size = Q := (by omega))
           | ((with_reducible (have kk := F4.out w4 hm4.bel)); obtain ⟨_, _, _, _, _, _, _, _, _, _, _, _, _, _, _, _, _, _, _, _, _, _, _, _, _, _, _, _, _, _, _, _⟩ := kk; have r0 := ((((HJ7.out).cells az 52).cells sz 121).drew).made hm4; (try simp only [World.size_alloc] at r0); rw [hQ] at r0; have r1 := r0.turn 1 rfl (cl_sets _ 121 [.slice (some ⟨g, 0, none⟩) 1 cap, .int .u64 cas', .int .i64 0] 0 _ _ (r0.get 1 rfl)); rw [(show setsV 0 [.slice (some ⟨g, 0, none⟩) 1 cap, .int .u64 cas', .int .i64 0] #[.slice none 0 0, .int .u64 0, .int .i64 0] = #[.slice (some ⟨g, 0, none⟩) 1 cap, .int .u64 cas', .int .i64 0] by simp [setsV])] at r1; simp only [setsW, List.set] at r1; have r2 := r1.turn 2 rfl (cl_sets _ 52 [.int .i64 st, .string ak, .int .u32 afl, .string av, .int .i64 0, .int .u64 aca, .int .i64 ala, .bool false, .bool false, .int .u64 anum, .bool false, .bool false, .bool false] 0 _ _ (r1.get 2 rfl)); rw [(show setsV 0 [.int .i64 st, .string ak, .int .u32 afl, .string av, .int .i64 0, .int .u64 aca, .int .i64 ala, .bool false, .bool false, .int .u64 anum, .bool false, .bool false, .bool false] #[.int .i64 0, .string ⟨#[]⟩, .int .u32 0, .string ⟨#[]⟩, .int .i64 0, .int .u64 0, .int .i64 0, .bool false, .bool false, .int .u64 0, .bool false, .bool false, .bool false] = #[.int .i64 st, .string ak, .int .u32 afl, .string av, .int .i64 0, .int .u64 aca, .int .i64 ala, .bool false, .bool false, .int .u64 anum, .bool false, .bool false, .bool false] by simp [setsV])] at r2; simp only [setsW, List.set] at r2; have hHR := hav_f r2; (try simp only [World.size_alloc, World.size_setCell] at hHR); have HR := hid hHR; clear hHR; clear r0 r1 r2; have q4 : Q < w4.heap.size := (by have h := hm4.bel.size; simp only [World.size_drew, World.size_alloc] at h; omega); have q5 : ¬ Q = w4.heap.size := (by omega); have q6 : ¬ w4.heap.size = Q := (by omega))
           | (have r0 := ((HJ7.out).drew).made hm4; have hHR := hav_a ((((r0).cells #[.slice (some ⟨g, 0, none⟩) 1 cap, .int .u64 cas', .int .i64 0] 121)).cells #[.int .i64 st, .string ak, .int .u32 afl, .string av, .int .i64 0, .int .u64 aca, .int .i64 ala, .bool false, .bool false, .int .u64 anum, .bool false, .bool false, .bool false] 52); (try simp only [World.size_alloc, World.size_setCell] at hHR); have HR := hid hHR; clear hHR; have hHR2 := hav_b ((((r0).cells #[.int .i64 st, .string ak, .int .u32 afl, .string av, .int .i64 0, .int .u64 aca, .int .i64 ala, .bool false, .bool false, .int .u64 anum, .bool false, .bool false, .bool false] 52)).cells #[.slice (some ⟨g, 0, none⟩) 1 cap, .int .u64 cas', .int .i64 0] 121); (try simp only [World.size_alloc, World.size_setCell] at hHR2); have HR2 := hid hHR2; clear hHR2; clear r0; skip)); have hb4 : Below W3.heap.size W3 w4 := Below.trans (by go_grown) (hm4.bel.mono (by first | (simp; done) | (simp; omega))); have hsz4 := hb4.size; have hne1 : ¬ w4.heap.size = w4.heap.size + 1 := (by omega); have hne2 : ¬ w4.heap.size + 1 = w4.heap.size := (by omega); have G1 := ((Made.cells w4 sz 121).below (bA _ (.cells az 52))).here; have G2 := ((Made.cells w4 az 52).below (bA _ (.cells sz 121))).here; obtain ⟨_, _, _, _, _, _⟩ := caf3' G1; obtain ⟨_, _, _, _, _, _, _, _, _, _, _, _, _, _, _, _, _, _, _, _, _, _, _, _, _, _⟩ := caf13' G2; clear G1 G2; clear hm4))
    all_goals (go_wp2_with fail)
    all_goals go_meet
    all_goals first
      | ((with_reducible refine ⟨g, cap, w4.heap.size, w4.heap.size + 1, rfl, rfl, ?_⟩); exact HR)
      | ((with_reducible refine ⟨g, cap, w4.heap.size + 1, w4.heap.size, rfl, rfl, ?_⟩); exact HR2)
      | ((with_reducible refine ⟨g, cap, _, _, rfl, rfl, ?_⟩); exact HR)
      | fail
  case rest =>
    obtain ⟨g, cap, A, B, rfl, rfl, hJ⟩ := hcut
    have HXX := hid hx'
    clear HMo HAp HS F1 F2 F3 F4 HAA hx' y0 y1 y2 c0 c1 c2 c3 c4 c5 c6 c7 c8 c9 c10 c11 c12 c13 c14 c15
    obtain ⟨a0, a1, a2⟩ : ca3 wc A (.slice (some ⟨g, 0, none⟩) 1 cap) (.int .u64 cas') (.int .i64 0) := ca3' (hJ.out.get 1 rfl)
    obtain ⟨i0, i1, i2, i3, i4, i5, i6, i7⟩ : ra8 wc g (.string ckey) (.int .u32 x'.fl) (.string (vlB x'.v)) (.int .i64 0) (.int .u64 x'.cas) (.int .i64 x'.last) (.bool false) (.bool false) := ra8' (hJ.out.get 2 rfl)
    have HE := hid (fun w' => enc_it HK.out.size HK.out.keyB HXX.out w')
    unfold itmV at HE
    go_wp2_with (fail)
    go_at_call 118
    refine (HE.out _).mono ?_
    rintro e w5 ⟨g2, cap2, rfl, hm5⟩
    have J5 := hid (hJ.out.made hm5)
    obtain ⟨nb, hnb⟩ : ∃ nb, (encI ckey x').length = nb := ⟨_, rfl⟩
    have HN := hid hnb
    rw [hnb]
    clear a0 a1 a2 i0 i1 i2 i3 i4 i5 i6 i7 HE hm5 hJ hnb
    go_upto_region 15 with fail
    go_quiet (fail)
    obtain ⟨w6, hw6⟩ : ∃ Y, w5.drewN nq = Y := ⟨_, rfl⟩
    have J6 := J5.out.drewN nq
    rw [hw6] at J6 ⊢
    have k2 : w6.cell? ⟨N, 2, none⟩ = some (.string ckey) := cA (J6.get 6 rfl) 2
    have HH := hid HK.out.hash
    have HRm := hid (room_ok (n := nb) (h := h) (J6.get 7 rfl) HO.out.L0 (by
      have := encI_len HK.out.size HXX.out
      have := HN.out
      omega))
    have HJ6 := hid J6
    clear J6 hw6 J5
    go_wp2_with (go_at_call 17; refine (HH.out _).mono ?_; rintro e w8 ⟨rfl, rfl⟩)
    go_at_call 124
    refine HRm.out.mono ?_
    rintro e w7 ⟨rfl, β', hsb, hsg, ht⟩
    have J7 := HJ6.out.turn 7 rfl ht
    obtain ⟨m2, hm2⟩ : ∃ m2 : SM, m2 = { m with β := β', L := 2000, bs := [] } := ⟨_, rfl⟩
    rw [← hm2] at J7
    have HM2 : Hid (m2.s = m.s ∧ m2.ps = m.ps ∧ m2.bs = [] ∧ m2.L = 2000) := hid (by rw [hm2]; exact ⟨rfl, rfl, rfl, rfl⟩)
    have hs2 := HM2.out.1
    have HOu := hid (out_no HK.out (J7.get 7 rfl))
    rw [hs2] at HOu
    have k3 : w7.cell? ⟨N, 2, none⟩ = some (.string ckey) := cA (J7.get 6 rfl) 2
    have HJ7' := hid J7
    clear J7 ht hsb hsg hm2 HJ6 HRm k2
    go_wp2_with (go_at_call 114; refine HOu.out.mono ?_; rintro e w8 ⟨rfl, hb8⟩; have J8 := HJ7'.out.below hb8; have k4 : w8.cell? ⟨N, 2, none⟩ = some (.string ckey) := cA (J8.get 6 rfl) 2; have HJ8 := hid J8; clear J8 hb8)
    go_at_call 125
    have HLy := lay_ok (x := x') (g := g2) (cap := cap2) (m := m2) (cas := cas) HK.out (by rw [HM2.out.2.2.1]; exact HJ8.out.get 7 rfl) (by rw [HM2.out.2.2.1, HM2.out.2.2.2]; exact wf_pi1 [] 2000 (by decide) (by decide)) HXX.out (by rw [HM2.out.2.2.1]; exact ext_nil) (by rw [HM2.out.2.2.1]; exact ext_nil_b) (by rw [HM2.out.2.2.1]; decide) (HJ8.out.get 0 rfl)
      (fun hx => HJ8.out.apart (i := 0) (j := 7) rfl rfl (by decide) g2 rfl ⟨slabR m2.β (pi1 []) m2.L, .tail _ (.head _), by rw [HM2.out.2.2.1] at hx; exact hx⟩) (by rw [HM2.out.2.1]; exact HO.out.held) (by rw [HM2.out.2.1]; exact HNN.out)
    rw [hs2, HN.out, HM2.out.2.2.1] at HLy
    refine HLy.mono ?_
    rintro e w9 ⟨rfl, m3, hs3, hn3, ho3, ht3⟩
    have J9 := HJ8.out.turn 7 rfl ht3
    have HM3 : Hid (m3.s = m.s ∧ m3.ps.num = m.ps.num + 1) := hid ⟨hs3, by rw [hn3, HM2.out.2.1]⟩
    have HO3 := hid ho3
    have HJ9 := hid J9
    clear J9 HJ8 HLy ht3 hn3 ho3 HJ7' HOu k3 k4
    have hs3' := HM3.out.1
    go_upto_region 27 with fail
    have a1 : w9.cell? ⟨A, 1, none⟩ = some (.int .u64 cas') := cA (HJ9.out.get 2 rfl) 1
    have c5 : w9.cell? ⟨m.s, 5, none⟩ = some (.int .u64 cas) := by rw [← hs3']; exact cA ((Hav.open (HJ9.out.get 7 rfl)).get 0 rfl) 5
    have f5 : w9.frozen? ⟨m.s, 5, none⟩ = false := by rw [← hs3']; exact cZ ((Hav.open (HJ9.out.get 7 rfl)).get 0 rfl) 5
    have J10 := HJ9.out.turn 7 rfl (st_cas (cas' := cas') (HJ9.out.get 7 rfl))
    go_upto_region 28 with fail
    rw [hs3'] at J10
    obtain ⟨w10, hw10⟩ : ∃ w9', w9.setCell ⟨m.s, 5, none⟩ (.int .u64 cas') = w9' := ⟨_, rfl⟩
    rw [hw10] at J10
    rw [hw10]
    clear hw10 HJ9 a1 c5 f5
    have HJ10 := hid J10
    clear J10
    obtain ⟨b0, b1, b2, b3, b4, b5, b6, b7, b8, b9, b10, b11, b12⟩ : ca13 w10 B (.int .i64 st) (.string ak) (.int .u32 afl) (.string av) (.int .i64 0) (.int .u64 aca) (.int .i64 ala) (.bool false) (.bool false) (.int .u64 anum) (.bool false) (.bool false) (.bool false) := ca13' (HJ10.out.get 1 rfl)
    obtain ⟨r0, z0, r1, z1, r2, z2, r3, z3, r4, z4, r5, z5, r6, z6, r7, z7, r8, z8, r9, z9, r10, z10, r11, z11, r12, z12⟩ : caf13 w10 (N + 1) (.int .i64 0) (.string ⟨#[]⟩) (.int .u32 0) (.string ⟨#[]⟩) (.int .i64 0) (.int .u64 0) (.int .i64 0) (.bool false) (.bool false) (.int .u64 0) (.bool false) (.bool false) (.bool false) := caf13' (HJ10.out.get 5 rfl)
    have y1 : ¬ B = N + 1 := fun e => HJ10.out.apart (i := 1) (j := 5) rfl rfl (by decide) B rfl e
    have y2 : ¬ N + 1 = B := fun e => y1 e.symm
    have hs := cl_sets (N + 1) 52 [.int .i64 st, .string ak, .int .u32 afl, .string av, .int .i64 0, .int .u64 aca, .int .i64 ala, .bool false, .bool false, .int .u64 anum, .bool false, .bool false, .bool false] 0 _ _ (HJ10.out.get 5 rfl)
    have k1 := HJ10.out.turn 5 rfl hs
    have h2 := k1.get 5 rfl
    rw [ans_set] at h2
    have h3 := (k1.sub (.cons _ (.cons _ (.cons _ (.cons _ (.cons _ (.cons _ (.cons _ (List.Sublist.refl _))))))))).one
    replace h3 : Turn (many (stPL pi0 b m cas)) (stF ckey h b m3 cas') w _ := h3
    simp only [setsW] at h2 h3
    have HEn := hid (And.intro h2 h3)
    clear hs k1 h2 h3 HJ10
    go_wp2_with (fail)
    exact ret_ans2 (N := N + 1) (vm := .slice none 0 0) rfl rfl rfl HEn.out.1 ⟨rfl, m3, HM3.out.1, Nat.le_of_eq HM3.out.2, HO3.out, HEn.out.2⟩
end Go.Proofs.YtboehbfagnocpaaGreatDoor
