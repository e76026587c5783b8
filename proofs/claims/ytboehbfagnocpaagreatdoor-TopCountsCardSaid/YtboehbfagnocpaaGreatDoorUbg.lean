/- Tdo. -/
import Derived.Test.YtboehbfagnocpaaGreatDoorUbe
set_option linter.unusedVariables false
set_option linter.unusedSimpArgs false
set_option maxRecDepth 100000
open Go.Proofs.Tryz
open Go.Lib (hid)
namespace Go.Proofs.YtboehbfagnocpaaGreatDoor
open Go.RowKit Go.PlainAid Go.Shelf
open SP
set_option maxHeartbeats 4000000 in
theorem do_gen {r : Res} {P : Res → Prop} {sb tb : Nat} {c : Cm} {st afl aca ala anum fst ffl fca fla fnum cas0 : Int} {ak av fak fav : ByteArray} {w : World} (hR : r.R w) (hop : c.op = 1 ∨ c.op = 2 ∨ c.op = 3) (hst : st ≠ 0)
    (HM : ∀ W, r.R W → Calls prog 52 #[.pointer (some ⟨sb, 0, none⟩)] W fun e w' => e = .returned (.int .i64 472) ∧ W = w')
    (H3 : ∀ W, r.R W → W.cell? ⟨sb, 3, none⟩ = some (.pointer (some ⟨tb, 0, none⟩)) ∧ W.cell? ⟨sb, 6, none⟩ = some (.int .i64 0))
    (HT : ∀ W, r.R W → Calls prog 53 #[.pointer (some ⟨tb, 0, none⟩)] W fun e w' => e = .returned (.bool false) ∧ W = w')
    (HA : ∀ W, Calls prog 51 #[.agg #[.slice none 0 0, .int .u64 0, .int .i64 0], .int .i64 1, .agg c.vs, .int .i64 472] W fun e w' => ∃ sa sn sc r0, e = .returned (.tuple #[.agg #[.slice sa sn sc, .int .u64 cas0, .int .i64 0], .agg #[.int .i64 st, .string ak, .int .u32 afl, .string av, .int .i64 0, .int .u64 aca, .int .i64 ala, .bool false, .bool false, .int .u64 anum, .bool false, .bool false, .bool false]]) ∧ Made r0 W w')
    (HO : ∀ W, Tch r.B w W → r.R W → Calls prog 55 #[.pointer (some ⟨sb, 0, none⟩), .int .i64 1, .agg c.vs] W fun e w' => e = .returned (.tuple #[.agg #[.int .i64 fst, .string fak, .int .u32 ffl, .string fav, .int .i64 0, .int .u64 fca, .int .i64 fla, .bool false, .bool false, .int .u64 fnum, .bool false, .bool false, .bool false], .slice none 0 0]) ∧ ∃ r', P r' ∧ Turn r r' W w') :
    Calls prog 18 #[.pointer (some ⟨sb, 0, none⟩), .int .i64 1, .agg c.vs] w fun e w' => e = .returned (.tuple #[.agg #[.int .i64 fst, .string fak, .int .u32 ffl, .string fav, .int .i64 0, .int .u64 fca, .int .i64 fla, .bool false, .bool false, .int .u64 fnum, .bool false, .bool false, .bool false], .slice none 0 0]) ∧ ∃ r', P r' ∧ Turn r r' w w' := by
  obtain ⟨op, mode, ckey, value, flags, exp, tok, hasCas, delta, recache⟩ := c
  dsimp only at hop
  have J0 := (((Hav.start hR).cells (Cm.vs ⟨op, mode, ckey, value, flags, exp, tok, hasCas, delta, recache⟩) 56).cells (ansT 0) 52)
  simp only [World.size_alloc] at J0
  obtain ⟨N, hN⟩ : ∃ N, w.heap.size = N := ⟨_, rfl⟩
  obtain ⟨W3, hW⟩ : ∃ W0, (w.alloc (.cells (Cm.vs ⟨op, mode, ckey, value, flags, exp, tok, hasCas, delta, recache⟩) 56)).alloc (.cells (ansT 0) 52) = W0 := ⟨_, rfl⟩
  rw [hN, hW] at J0
  simp only [Cm.vs, ansT] at hW
  have HW := hid hW
  have HJ7 := hid J0
  have HMM := hid HM
  have HH3 := hid H3
  have HTT := hid HT
  have HAA := hid HA
  have HOO := hid HO
  have HOP := hid (And.intro hop hst)
  unfold Cm.vs at HAA HOO
  dsimp only at HAA HOO
  clear J0 hR HM H3 HT HA HO hop hst hW
  unfold Cm.vs
  dsimp only
  go_enter func18, ntmps18
  go_upto_region 1 with fail
  rw [HW.out]
  clear HW hN
  obtain ⟨c0, c1, c2, c3, c4, c5, c6, c7, c8, c9, c10, c11, c12, c13, c14, c15⟩ : ca16 W3 N (.int .i64 op) (.int .i64 mode) (.string ckey) (.string value) (.int .u32 flags) (.int .i64 exp) (.bool false) (.int .u64 tok) (.bool hasCas) (.int .u64 delta) (.int .u64 0) (.bool false) (.bool false) (.int .i64 0) (.int .i64 recache) (.bool false) := ca16' (HJ7.out.get 1 rfl)
  have HMo : Hid (∀ W', Below W3.heap.size W3 W' → Calls prog 52 #[.pointer (some ⟨sb, 0, none⟩)] W' fun e w' => e = .returned (.int .i64 472) ∧ W' = w') := hid (fun W' hb => HMM.out W' ((HJ7.out.below hb).get 2 rfl))
  have HAp : Hid (∀ W', Below W3.heap.size W3 W' → Calls prog 51 #[.agg #[.slice none 0 0, .int .u64 0, .int .i64 0], .int .i64 1, .agg #[.int .i64 op, .int .i64 mode, .string ckey, .string value, .int .u32 flags, .int .i64 exp, .bool false, .int .u64 tok, .bool hasCas, .int .u64 delta, .int .u64 0, .bool false, .bool false, .int .i64 0, .int .i64 recache, .bool false], .int .i64 472] W' fun e w' => ∃ sa sn sc r0, e = .returned (.tuple #[.agg #[.slice sa sn sc, .int .u64 cas0, .int .i64 0], .agg #[.int .i64 st, .string ak, .int .u32 afl, .string av, .int .i64 0, .int .u64 aca, .int .i64 ala, .bool false, .bool false, .int .u64 anum, .bool false, .bool false, .bool false]]) ∧ Made r0 W' w') := hid (fun W' hb => HAA.out W')
  go_upto_region 1 with fail
  obtain ⟨Q, hQ⟩ : ∃ Q, W3.heap.size = Q := ⟨_, rfl⟩
  have F1 := hid (fl1 hQ)
  have F2 := hid (fl2 hQ)
  have F3 := hid (fl3 hQ)
  have F4 := hid (fl4 hQ)
  have HS : Hid (∀ w', Below W3.heap.size W3 w' → w'.cell? ⟨N, 0, none⟩ = some (.int .i64 op) ∧ w'.cell? ⟨N, 1, none⟩ = some (.int .i64 mode) ∧ w'.cell? ⟨N, 2, none⟩ = some (.string ckey) ∧ w'.cell? ⟨N, 3, none⟩ = some (.string value) ∧ w'.cell? ⟨N, 4, none⟩ = some (.int .u32 flags) ∧ w'.cell? ⟨N, 5, none⟩ = some (.int .i64 exp) ∧ w'.cell? ⟨N, 6, none⟩ = some (.bool false) ∧ w'.cell? ⟨N, 7, none⟩ = some (.int .u64 tok) ∧ w'.cell? ⟨N, 8, none⟩ = some (.bool hasCas) ∧ w'.cell? ⟨N, 9, none⟩ = some (.int .u64 delta) ∧ w'.cell? ⟨N, 10, none⟩ = some (.int .u64 0) ∧ w'.cell? ⟨N, 11, none⟩ = some (.bool false) ∧ w'.cell? ⟨N, 12, none⟩ = some (.bool false) ∧ w'.cell? ⟨N, 13, none⟩ = some (.int .i64 0) ∧ w'.cell? ⟨N, 14, none⟩ = some (.int .i64 recache) ∧ w'.cell? ⟨N, 15, none⟩ = some (.bool false)) := hid (fun w' hb => by
    have h1 := (HJ7.out.below hb).get 1 rfl
    exact ⟨cA h1 0, cA h1 1, cA h1 2, cA h1 3, cA h1 4, cA h1 5, cA h1 6, cA h1 7, cA h1 8, cA h1 9, cA h1 10, cA h1 11, cA h1 12, cA h1 13, cA h1 14, cA h1 15⟩)
  go_cut [8, 9] from 12 to 20 (fun s12 s13 wx => ∃ sa sn sc r0 A B, s12 = .pointer (some ⟨A, 0, none⟩) ∧ s13 = .pointer (some ⟨B, 0, none⟩) ∧ Hid (Hav (r).B w ([cAt B #[.int .i64 st, .string ak, .int .u32 afl, .string av, .int .i64 0, .int .u64 aca, .int .i64 ala, .bool false, .bool false, .int .u64 anum, .bool false, .bool false, .bool false] 52, cAt A #[.slice sa sn sc, .int .u64 cas0, .int .i64 0] 121, r0, cAt (N + 1) (ansT 0) 52, cAt N (Cm.vs ⟨op, mode, ckey, value, flags, exp, tok, hasCas, delta, recache⟩) 56, r]) wx))
  case first =>
    go_region_held3 (fun w' => w'.cell? ⟨N, 0, none⟩ = some (.int .i64 op) ∧ w'.cell? ⟨N, 1, none⟩ = some (.int .i64 mode) ∧ w'.cell? ⟨N, 2, none⟩ = some (.string ckey) ∧ w'.cell? ⟨N, 3, none⟩ = some (.string value) ∧ w'.cell? ⟨N, 4, none⟩ = some (.int .u32 flags) ∧ w'.cell? ⟨N, 5, none⟩ = some (.int .i64 exp) ∧ w'.cell? ⟨N, 6, none⟩ = some (.bool false) ∧ w'.cell? ⟨N, 7, none⟩ = some (.int .u64 tok) ∧ w'.cell? ⟨N, 8, none⟩ = some (.bool hasCas) ∧ w'.cell? ⟨N, 9, none⟩ = some (.int .u64 delta) ∧ w'.cell? ⟨N, 10, none⟩ = some (.int .u64 0) ∧ w'.cell? ⟨N, 11, none⟩ = some (.bool false) ∧ w'.cell? ⟨N, 12, none⟩ = some (.bool false) ∧ w'.cell? ⟨N, 13, none⟩ = some (.int .i64 0) ∧ w'.cell? ⟨N, 14, none⟩ = some (.int .i64 recache) ∧ w'.cell? ⟨N, 15, none⟩ = some (.bool false)) (first | exact HS.out _ (by first | (go_grown; done) | (go_grown <;> first | omega | (simp; omega))) | fail) (first
      | (go_at_call 52; refine (HMo.out _ (by go_grown)).mono ?_; rintro e w4 ⟨rfl, rfl⟩)
      | (go_at_call 51; refine (HAp.out _ (by go_grown)).mono ?_; rintro e w4 ⟨sa, sn, sc, r0, rfl, hm4⟩; have HM4 := hid hm4; (first
           | ((with_reducible (have kk := F1.out w4 hm4.bel)); obtain ⟨_, _, _, _, _, _⟩ := F1.out (w4.alloc (.cells az 52)) (hm4.bel.alloc hm4.bel.size _); obtain ⟨_, _, _, _, _, _⟩ := kk; have r0 := (((HJ7.out).cells sz 121).drew).made hm4; (try simp only [World.size_alloc] at r0); rw [hQ] at r0; have r1 := r0.turn 1 rfl (cl_sets _ 121 [.slice sa sn sc, .int .u64 cas0, .int .i64 0] 0 _ _ (r0.get 1 rfl)); rw [(show setsV 0 [.slice sa sn sc, .int .u64 cas0, .int .i64 0] #[.slice none 0 0, .int .u64 0, .int .i64 0] = #[.slice sa sn sc, .int .u64 cas0, .int .i64 0] by simp [setsV])] at r1; simp only [setsW, List.set] at r1; have hHR := hav_c ((r1).cells #[.int .i64 st, .string ak, .int .u32 afl, .string av, .int .i64 0, .int .u64 aca, .int .i64 ala, .bool false, .bool false, .int .u64 anum, .bool false, .bool false, .bool false] 52); (try simp only [World.size_alloc, World.size_setCell] at hHR); have HR := hid hHR; clear hHR; clear r0 r1; have q4 : Q < w4.heap.size := (by have h := hm4.bel.size; simp only [World.size_drew, World.size_alloc] at h; omega); have q5 : ¬ Q = w4.heap.size := (by omega); have q6 : ¬ w4.heap.size = Q := (by omega))
           | ((with_reducible (have kk := F2.out w4 hm4.bel)); obtain ⟨_, _, _, _, _, _, _, _, _, _, _, _, _, _, _, _, _, _, _, _, _, _, _, _, _, _⟩ := F2.out (w4.alloc (.cells sz 121)) (hm4.bel.alloc hm4.bel.size _); obtain ⟨_, _, _, _, _, _, _, _, _, _, _, _, _, _, _, _, _, _, _, _, _, _, _, _, _, _⟩ := kk; have r0 := (((HJ7.out).cells az 52).drew).made hm4; (try simp only [World.size_alloc] at r0); rw [hQ] at r0; have r2 := r0.turn 1 rfl (cl_sets _ 52 [.int .i64 st, .string ak, .int .u32 afl, .string av, .int .i64 0, .int .u64 aca, .int .i64 ala, .bool false, .bool false, .int .u64 anum, .bool false, .bool false, .bool false] 0 _ _ (r0.get 1 rfl)); rw [(show setsV 0 [.int .i64 st, .string ak, .int .u32 afl, .string av, .int .i64 0, .int .u64 aca, .int .i64 ala, .bool false, .bool false, .int .u64 anum, .bool false, .bool false, .bool false] #[.int .i64 0, .string ⟨#[]⟩, .int .u32 0, .string ⟨#[]⟩, .int .i64 0, .int .u64 0, .int .i64 0, .bool false, .bool false, .int .u64 0, .bool false, .bool false, .bool false] = #[.int .i64 st, .string ak, .int .u32 afl, .string av, .int .i64 0, .int .u64 aca, .int .i64 ala, .bool false, .bool false, .int .u64 anum, .bool false, .bool false, .bool false] by simp [setsV])] at r2; simp only [setsW, List.set] at r2; have hHR := hav_d ((r2).cells #[.slice sa sn sc, .int .u64 cas0, .int .i64 0] 121); (try simp only [World.size_alloc, World.size_setCell] at hHR); have HR := hid hHR; clear hHR; clear r0 r2; have q4 : Q < w4.heap.size := (by have h := hm4.bel.size; simp only [World.size_drew, World.size_alloc] at h; omega); have q5 : ¬ Q = w4.heap.size := (by omega); have q6 : ¬ w4.heap.size = Q := (by omega))
           | ((with_reducible (have kk := F3.out w4 hm4.bel)); obtain ⟨_, _, _, _, _, _, _, _, _, _, _, _, _, _, _, _, _, _, _, _, _, _, _, _, _, _, _, _, _, _, _, _⟩ := kk; have r0 := ((((HJ7.out).cells sz 121).cells az 52).drew).made hm4; (try simp only [World.size_alloc] at r0); rw [hQ] at r0; have r1 := r0.turn 2 rfl (cl_sets _ 121 [.slice sa sn sc, .int .u64 cas0, .int .i64 0] 0 _ _ (r0.get 2 rfl)); rw [(show setsV 0 [.slice sa sn sc, .int .u64 cas0, .int .i64 0] #[.slice none 0 0, .int .u64 0, .int .i64 0] = #[.slice sa sn sc, .int .u64 cas0, .int .i64 0] by simp [setsV])] at r1; simp only [setsW, List.set] at r1; have r2 := r1.turn 1 rfl (cl_sets _ 52 [.int .i64 st, .string ak, .int .u32 afl, .string av, .int .i64 0, .int .u64 aca, .int .i64 ala, .bool false, .bool false, .int .u64 anum, .bool false, .bool false, .bool false] 0 _ _ (r1.get 1 rfl)); rw [(show setsV 0 [.int .i64 st, .string ak, .int .u32 afl, .string av, .int .i64 0, .int .u64 aca, .int .i64 ala, .bool false, .bool false, .int .u64 anum, .bool false, .bool false, .bool false] #[.int .i64 0, .string ⟨#[]⟩, .int .u32 0, .string ⟨#[]⟩, .int .i64 0, .int .u64 0, .int .i64 0, .bool false, .bool false, .int .u64 0, .bool false, .bool false, .bool false] = #[.int .i64 st, .string ak, .int .u32 afl, .string av, .int .i64 0, .int .u64 aca, .int .i64 ala, .bool false, .bool false, .int .u64 anum, .bool false, .bool false, .bool false] by simp [setsV])] at r2; simp only [setsW, List.set] at r2; have hHR := hav_e r2; (try simp only [World.size_alloc, World.size_setCell] at hHR); have HR := hid hHR; clear hHR; clear r0 r1 r2; have q4 : Q < w4.heap.size := (by have h := hm4.bel.size; simp only [World.size_drew, World.size_alloc] at h; omega); have q5 : ¬ Q = w4.heap.size := (by omega); have q6 : ¬ w4.heap.size = Q := (by omega))
           | ((with_reducible (have kk := F4.out w4 hm4.bel)); obtain ⟨_, _, _, _, _, _, _, _, _, _, _, _, _, _, _, _, _, _, _, _, _, _, _, _, _, _, _, _, _, _, _, _⟩ := kk; have r0 := ((((HJ7.out).cells az 52).cells sz 121).drew).made hm4; (try simp only [World.size_alloc] at r0); rw [hQ] at r0; have r1 := r0.turn 1 rfl (cl_sets _ 121 [.slice sa sn sc, .int .u64 cas0, .int .i64 0] 0 _ _ (r0.get 1 rfl)); rw [(show setsV 0 [.slice sa sn sc, .int .u64 cas0, .int .i64 0] #[.slice none 0 0, .int .u64 0, .int .i64 0] = #[.slice sa sn sc, .int .u64 cas0, .int .i64 0] by simp [setsV])] at r1; simp only [setsW, List.set] at r1; have r2 := r1.turn 2 rfl (cl_sets _ 52 [.int .i64 st, .string ak, .int .u32 afl, .string av, .int .i64 0, .int .u64 aca, .int .i64 ala, .bool false, .bool false, .int .u64 anum, .bool false, .bool false, .bool false] 0 _ _ (r1.get 2 rfl)); rw [(show setsV 0 [.int .i64 st, .string ak, .int .u32 afl, .string av, .int .i64 0, .int .u64 aca, .int .i64 ala, .bool false, .bool false, .int .u64 anum, .bool false, .bool false, .bool false] #[.int .i64 0, .string ⟨#[]⟩, .int .u32 0, .string ⟨#[]⟩, .int .i64 0, .int .u64 0, .int .i64 0, .bool false, .bool false, .int .u64 0, .bool false, .bool false, .bool false] = #[.int .i64 st, .string ak, .int .u32 afl, .string av, .int .i64 0, .int .u64 aca, .int .i64 ala, .bool false, .bool false, .int .u64 anum, .bool false, .bool false, .bool false] by simp [setsV])] at r2; simp only [setsW, List.set] at r2; have hHR := hav_f r2; (try simp only [World.size_alloc, World.size_setCell] at hHR); have HR := hid hHR; clear hHR; clear r0 r1 r2; have q4 : Q < w4.heap.size := (by have h := hm4.bel.size; simp only [World.size_drew, World.size_alloc] at h; omega); have q5 : ¬ Q = w4.heap.size := (by omega); have q6 : ¬ w4.heap.size = Q := (by omega))
           | (have r0 := ((HJ7.out).drew).made hm4; have hHR := hav_a ((((r0).cells #[.slice sa sn sc, .int .u64 cas0, .int .i64 0] 121)).cells #[.int .i64 st, .string ak, .int .u32 afl, .string av, .int .i64 0, .int .u64 aca, .int .i64 ala, .bool false, .bool false, .int .u64 anum, .bool false, .bool false, .bool false] 52); (try simp only [World.size_alloc, World.size_setCell] at hHR); have HR := hid hHR; clear hHR; have hHR2 := hav_b ((((r0).cells #[.int .i64 st, .string ak, .int .u32 afl, .string av, .int .i64 0, .int .u64 aca, .int .i64 ala, .bool false, .bool false, .int .u64 anum, .bool false, .bool false, .bool false] 52)).cells #[.slice sa sn sc, .int .u64 cas0, .int .i64 0] 121); (try simp only [World.size_alloc, World.size_setCell] at hHR2); have HR2 := hid hHR2; clear hHR2; clear r0; skip)); have hb4 : Below W3.heap.size W3 w4 := Below.trans (by go_grown) (hm4.bel.mono (by first | (simp; done) | (simp; omega))); have hsz4 := hb4.size; have hne1 : ¬ w4.heap.size = w4.heap.size + 1 := (by omega); have hne2 : ¬ w4.heap.size + 1 = w4.heap.size := (by omega); have G1 := ((Made.cells w4 sz 121).below (bA _ (.cells az 52))).here; have G2 := ((Made.cells w4 az 52).below (bA _ (.cells sz 121))).here; obtain ⟨_, _, _, _, _, _⟩ := caf3' G1; obtain ⟨_, _, _, _, _, _, _, _, _, _, _, _, _, _, _, _, _, _, _, _, _, _, _, _, _, _⟩ := caf13' G2; clear G1 G2; clear hm4))
    all_goals (go_wp2_with fail)
    all_goals go_meet
    all_goals first
      | ((with_reducible refine ⟨sa, sn, sc, r0, w4.heap.size, w4.heap.size + 1, rfl, rfl, ?_⟩); exact HR)
      | ((with_reducible refine ⟨sa, sn, sc, r0, w4.heap.size + 1, w4.heap.size, rfl, rfl, ?_⟩); exact HR2)
      | ((with_reducible refine ⟨sa, sn, sc, r0, _, _, rfl, rfl, ?_⟩); exact HR)
      | fail
  case rest =>
    obtain ⟨sa, sn, sc, r0, A, B, rfl, rfl, hJ⟩ := hcut
    clear HMo HAp HS F1 F2 F3 F4 HAA HMM c0 c1 c2 c3 c4 c5 c6 c7 c8 c9 c10 c11 c12 c13 c14 c15
    have b0 : wc.cell? ⟨B, 0, none⟩ = some (.int .i64 st) := cA (hJ.out.get 0 rfl) 0
    have g0 : (st == 0) = false := by simpa using HOP.out.2
    have g6 : (op == 6) = false := by have := HOP.out.1; simp; omega
    have s3 := (HH3.out wc (hJ.out.get 5 rfl)).1
    have s6 := (HH3.out wc (hJ.out.get 5 rfl)).2
    obtain ⟨c0, c1, c2, c3, c4, c5, c6, c7, c8, c9, c10, c11, c12, c13, c14, c15⟩ : ca16 wc N (.int .i64 op) (.int .i64 mode) (.string ckey) (.string value) (.int .u32 flags) (.int .i64 exp) (.bool false) (.int .u64 tok) (.bool hasCas) (.int .u64 delta) (.int .u64 0) (.bool false) (.bool false) (.int .i64 0) (.int .i64 recache) (.bool false) := ca16' (hJ.out.get 4 rfl)
    have HSt := hid (HTT.out wc (hJ.out.get 5 rfl))
    have HO1 := hid (HOO.out wc hJ.out.tch (hJ.out.get 5 rfl))
    go_wp2_with (go_at_call 53; refine HSt.out.mono ?_; rintro e w4 ⟨rfl, rfl⟩)
    go_at_call 55
    refine HO1.out.mono ?_
    rintro e w5 ⟨rfl, r', hP, ht⟩
    have J5 := hJ.out.turn 5 rfl ht
    have HP := hid hP
    have HJ5 := hid J5
    clear J5 hJ ht hP HO1 HSt b0 s3 s6 c0 c1 c2 c3 c4 c5 c6 c7 c8 c9 c10 c11 c12 c13 c14 c15
    obtain ⟨r0, z0, r1, z1, r2, z2, r3, z3, r4, z4, r5, z5, r6, z6, r7, z7, r8, z8, r9, z9, r10, z10, r11, z11, r12, z12⟩ : caf13 w5 (N + 1) (.int .i64 0) (.string ⟨#[]⟩) (.int .u32 0) (.string ⟨#[]⟩) (.int .i64 0) (.int .u64 0) (.int .i64 0) (.bool false) (.bool false) (.int .u64 0) (.bool false) (.bool false) (.bool false) := caf13' (HJ5.out.get 3 rfl)
    have hs := cl_sets (N + 1) 52 [.int .i64 fst, .string fak, .int .u32 ffl, .string fav, .int .i64 0, .int .u64 fca, .int .i64 fla, .bool false, .bool false, .int .u64 fnum, .bool false, .bool false, .bool false] 0 _ _ (HJ5.out.get 3 rfl)
    have k1 := HJ5.out.turn 3 rfl hs
    have h2 := k1.get 3 rfl
    rw [ans_set] at h2
    have h3 := (k1.sub (.cons _ (.cons _ (.cons _ (.cons _ (.cons _ (List.Sublist.refl _))))))).one
    simp only [setsW] at h2 h3
    have HEn := hid (And.intro h2 h3)
    clear hs k1 h2 h3 HJ5
    go_wp2_with (fail)
    exact ret_ans2 (N := N + 1) (vm := .slice none 0 0) rfl rfl rfl HEn.out.1 ⟨rfl, r', HP.out, HEn.out.2⟩
end Go.Proofs.YtboehbfagnocpaaGreatDoor
