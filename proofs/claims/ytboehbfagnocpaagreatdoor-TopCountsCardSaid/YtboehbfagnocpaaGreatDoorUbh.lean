/- Tmm, Tpi, Tmy. -/
import Derived.Test.YtboehbfagnocpaaGreatDoorUar
import Derived.Test.YtboehbfagnocpaaGreatDoorUay
import Derived.Test.YtboehbfagnocpaaGreatDoorUan
set_option linter.unusedVariables false
set_option linter.unusedSimpArgs false
set_option maxRecDepth 100000
open Go.Proofs.Tryz
open Go.Lib (hid)
namespace Go.Proofs.YtboehbfagnocpaaGreatDoor
open Go.RowKit Go.PlainAid Go.Shelf
set_option maxHeartbeats 2000000 in
theorem store_ex {N g cap : Nat} {cas : Int} {k v key value : ByteArray} {fl ca la flags tok delta : Int} {w : World} (h : (mwR N g cap cas ⟨2, 0, key, value, flags, 0, tok, true, delta, -1⟩ k fl v ca la).R w) (hct : ¬ ca = tok) :
    Calls prog 105 #[.pointer (some ⟨N, 0, none⟩)] w fun e w' => e = .returned (.agg (ans1 4 ⟨#[]⟩ 0 ⟨#[]⟩ 0 0 0)) ∧ Turn (mwR N g cap cas ⟨2, 0, key, value, flags, 0, tok, true, delta, -1⟩ k fl v ca la) (mwR N g cap cas ⟨2, 0, key, value, flags, 0, tok, true, delta, -1⟩ k fl v ca la) w w' := by
  have J0 := ((Hav.start h).cells (ansT 0) 52)
  have J1 := J0.cells (Cm.vs ⟨2, 0, key, value, flags, 0, tok, true, delta, -1⟩) 56
  simp only [World.size_alloc] at J1
  obtain ⟨X, hX⟩ : ∃ X, w.heap.size = X := ⟨_, rfl⟩
  have j0 := (Hav.open (J0.get 1 rfl)).get 0 rfl
  obtain ⟨W0, hW0⟩ : ∃ W0, w.alloc (.cells (ansT 0) 52) = W0 := ⟨_, rfl⟩
  rw [hW0] at j0 J1
  obtain ⟨W, hW⟩ : ∃ W, W0.alloc (.cells (Cm.vs ⟨2, 0, key, value, flags, 0, tok, true, delta, -1⟩) 56) = W := ⟨_, rfl⟩
  rw [hW, hX] at J1
  have hX2 : W0.heap.size = X + 1 := by rw [← hW0]; simp [hX]
  have o4 : W0.cell? ⟨N, 4, none⟩ = some (.int .i64 2) := cA j0 4
  have o5 : W0.cell? ⟨N, 5, none⟩ = some (.int .i64 0) := cA j0 5
  have o6 : W0.cell? ⟨N, 6, none⟩ = some (.string key) := cA j0 6
  have o7 : W0.cell? ⟨N, 7, none⟩ = some (.string value) := cA j0 7
  have o8 : W0.cell? ⟨N, 8, none⟩ = some (.int .u32 flags) := cA j0 8
  have o9 : W0.cell? ⟨N, 9, none⟩ = some (.int .i64 0) := cA j0 9
  have o10 : W0.cell? ⟨N, 10, none⟩ = some (.bool false) := cA j0 10
  have o11 : W0.cell? ⟨N, 11, none⟩ = some (.int .u64 tok) := cA j0 11
  have o12 : W0.cell? ⟨N, 12, none⟩ = some (.bool true) := cA j0 12
  have o13 : W0.cell? ⟨N, 13, none⟩ = some (.int .u64 delta) := cA j0 13
  have o14 : W0.cell? ⟨N, 14, none⟩ = some (.int .u64 0) := cA j0 14
  have o15 : W0.cell? ⟨N, 15, none⟩ = some (.bool false) := cA j0 15
  have o16 : W0.cell? ⟨N, 16, none⟩ = some (.bool false) := cA j0 16
  have o17 : W0.cell? ⟨N, 17, none⟩ = some (.int .i64 0) := cA j0 17
  have o18 : W0.cell? ⟨N, 18, none⟩ = some (.int .i64 (-1)) := cA j0 18
  have o19 : W0.cell? ⟨N, 19, none⟩ = some (.bool false) := cA j0 19
  have k22 : W.cell? ⟨N, 22, none⟩ = some (.bool true) := cA ((Hav.open (J1.get 2 rfl)).get 0 rfl) 22
  have HO := hid (other_at (b := true) (J1.get 2 rfl) (.inr ⟨rfl, .inr ⟨hct, rfl⟩⟩))
  obtain ⟨c0, c1, c2, c3, c4, c5, c6, c7, c8, c9, c10, c11, c12, c13, c14, c15⟩ : ca16 W (X + 1) (.int .i64 2) (.int .i64 0) (.string key) (.string value) (.int .u32 flags) (.int .i64 0) (.bool false) (.int .u64 tok) (.bool true) (.int .u64 delta) (.int .u64 0) (.bool false) (.bool false) (.int .i64 0) (.int .i64 (-1)) (.bool false) := ca16' (J1.get 0 rfl)
  have JJ := hid J1
  simp only [ansT, Cm.vs] at hW0 hW
  have HWW := hid hW
  clear J0 J1 j0 h hW
  go_enter func105, ntmps105
  go_upto_region 2 with fail
  rw [HWW.out]
  clear HWW
  go_wp2_with (go_at_call 170; refine HO.out.mono ?_; rintro e w1 ⟨rfl, m, rfl⟩)
  obtain ⟨V, hV⟩ : ∃ V, W.drewN m = V := ⟨_, rfl⟩
  have J1 := JJ.out.drewN m
  rw [hV] at J1
  rw [hV]
  have HT := hid (fun w' => told_ok 4 w')
  unfold ansT at HT
  clear hV JJ HO k22 hW0 hX hX2 o4 o5 o6 o7 o8 o9 o10 o11 o12 o13 o14 o15 o16 o17 o18 o19 c0 c1 c2 c3 c4 c5 c6 c7 c8 c9 c10 c11 c12 c13 c14 c15
  obtain ⟨c0, c1, c2, c3, c4, c5, c6, c7, c8, c9, c10, c11, c12, c13, c14, c15⟩ : ca16 V (X + 1) (.int .i64 2) (.int .i64 0) (.string key) (.string value) (.int .u32 flags) (.int .i64 0) (.bool false) (.int .u64 tok) (.bool true) (.int .u64 delta) (.int .u64 0) (.bool false) (.bool false) (.int .i64 0) (.int .i64 (-1)) (.bool false) := ca16' (J1.get 0 rfl)
  have HJ := hid J1
  clear J1
  go_wp2_with (fail)
  go_quiet (fail)
  obtain ⟨V2, hV2⟩ : ∃ V2, V.drewN nq = V2 := ⟨_, rfl⟩
  have J2 := HJ.out.drewN nq
  rw [hV2] at J2
  rw [hV2]
  have HJ2 := hid J2
  clear hV2 J2 HJ c0 c1 c2 c3 c4 c5 c6 c7 c8 c9 c10 c11 c12 c13 c14 c15
  go_wp2_with (fail)
  go_at_call 107
  refine (HT.out _).mono ?_
  rintro e w1 ⟨rfl, hb1⟩
  have J1 := HJ2.out.below hb1
  obtain ⟨r0, u0, r1, u1, r2, u2, r3, u3, r4, u4, r5, u5, r6, u6, r7, u7, r8, u8, r9, u9, r10, u10, r11, u11, r12, u12⟩ : caf13 w1 X (.int .i64 0) (.string ⟨#[]⟩) (.int .u32 0) (.string ⟨#[]⟩) (.int .i64 0) (.int .u64 0) (.int .i64 0) (.bool false) (.bool false) (.int .u64 0) (.bool false) (.bool false) (.bool false) := caf13' (J1.get 1 rfl)
  have hs := cl_sets X 52 [.int .i64 4, .string ⟨#[]⟩, .int .u32 0, .string ⟨#[]⟩, .int .i64 0, .int .u64 0, .int .i64 0, .bool false, .bool false, .int .u64 0, .bool false, .bool false, .bool false] 0 _ _ (J1.get 1 rfl)
  have k1 := J1.turn 1 rfl hs
  have h2 := k1.get 1 rfl
  rw [ans_set0] at h2
  have h3 := (k1.sub (.cons _ (.cons _ (List.Sublist.refl _)))).one
  simp only [setsW] at h2 h3
  have HE := hid (And.intro h2 h3)
  clear hs k1 h2 h3 J1 HJ2 hb1
  go_wp2_with (fail)
  exact ret_ans (N := X) rfl rfl HE.out.1 ⟨rfl, HE.out.2⟩
theorem key_at {w : World} {lb wb cap : Nat} {key : ByteArray} (c1 : w.cell? ⟨lb, 1, none⟩ = some (.slice (some ⟨wb, 1, none⟩) 2 cap)) (hk : w.cell? ⟨wb, 1, none⟩ = some (.string key)) (hkey : W2.keyB key = true) (hks : key.size ≤ 250) :
    Calls prog 351 #[.pointer (some ⟨lb, 0, none⟩), .int .i64 0] w fun e w' => e = .returned (.string key) ∧ w = w' := by
  have HK := hid (fun w' => W2.key_any key w' (by unfold maxLen; omega))
  rw [hkey] at HK
  clear hkey hks
  go_enter func351, ntmps351
  go_wp2_with (first
    | (go_at_call 164; refine (HK.out _).mono ?_; rintro e w6 ⟨rfl, rfl⟩)
    | (go_at_call 344; refine (need_ok _ _).mono ?_; rintro e w1 ⟨rfl, rfl⟩))
  go_ret
  exact ⟨rfl, rfl⟩
set_option maxHeartbeats 2000000 in
theorem plain_incr {w : World} {lb wb cap d : Nat} {key dg behind : ByteArray} (hL : (cAt lb #[.string ⟨#[105, 110, 99, 114]⟩, .slice (some ⟨wb, 1, none⟩) 2 cap, .string behind, .int .i64 0, .bool false] 395).R w) (hws : ∀ i x, [key, dg][i]? = some x → w.cell? ⟨wb, 1 + i, none⟩ = some (.string x))
    (hdg : Dg dg 20) (hpd : Lib.parseUintB 64 dg.data.toList = .ok d) (hkey : W2.keyB key = true) (hks : key.size ≤ 250) (hlast : (dg.toList == [110, 111, 114, 101, 112, 108, 121]) = false) :
    Calls prog 320 #[.pointer (some ⟨lb, 0, none⟩)] w fun e w' => ∃ g cc, e = .returned (reqV 1 (.slice (some ⟨g, 0, none⟩) 1 cc) false false) ∧
      Turn (cAt lb #[.string ⟨#[105, 110, 99, 114]⟩, .slice (some ⟨wb, 1, none⟩) 2 cap, .string behind, .int .i64 0, .bool false] 395)
        (many [cAt lb #[.string ⟨#[105, 110, 99, 114]⟩, .slice (some ⟨wb, 1, none⟩) 2 cap, .string behind, .int .i64 0, .bool false] 395,
          rowAt (.slice (some ⟨g, 0, none⟩) 1 cc) 56 16 1 { cm0 with op := 3, key := key, delta := d, recache := -1 }.vs.toList]) w w' := by
  have h : LnF lb wb 2 cap ⟨#[105, 110, 99, 114]⟩ behind [key, dg] w := ⟨cA hL 0, cA hL 1, cA hL 2, cA hL 3, cA hL 4, hws⟩
  have I0 := (Hav.start hL).cells rq0 33
  obtain ⟨N, hN⟩ : ∃ N, w.heap.size = N := ⟨_, rfl⟩
  have B0 := bA w (.cells rq0 33)
  obtain ⟨W0, hW0⟩ : ∃ W0, w.alloc (.cells rq0 33) = W0 := ⟨_, rfl⟩
  rw [hW0] at B0 I0
  rw [hN] at I0
  have J0 := hid I0
  have hl0 : w.cell? ⟨lb, 0, none⟩ = some (.string ⟨#[105, 110, 99, 114]⟩) := cA hL 0
  clear I0 hL hws
  have H0 := hid (h.below B0)
  have a0 := H0.out.c0
  have a1 := H0.out.c1
  have w1' : W0.cell? ⟨wb, 2, none⟩ = some (.string dg) := H0.out.ws 1 dg rfl
  have w0' : W0.cell? ⟨wb, 1, none⟩ = some (.string key) := H0.out.ws 0 key rfl
  have HO := hid (off_no (n := 1) H0.out.c1 (H0.out.ws 1 dg rfl) hlast (by decide))
  have HC := hid (count_ok H0.out.c1 2 2 (by decide) (by decide))
  have HKy := hid (key_at H0.out.c1 w0' hkey hks)
  have HP1 := hid (fun w' => parse_yes hdg hpd w')
  obtain ⟨u, hu⟩ : ∃ u : Int, (d : Int) = u := ⟨_, rfl⟩
  rw [hu] at HP1
  have HU := hid hu
  clear h B0 hu hdg hpd hks hkey hlast w0'
  simp only [rq0] at hW0
  go_enter func320, ntmps320
  go_wp2_with (first
    | (go_at_call 347; refine HO.out.mono ?_; rintro e w1 ⟨rfl, rfl⟩)
    | (go_at_call 342; refine HC.out.mono ?_; rintro e w1 ⟨rfl, rfl⟩)
    | (go_at_call 351; refine HKy.out.mono ?_; rintro e w1 ⟨rfl, rfl⟩))
  go_at_call 173
  refine (HP1.out _).mono ?_
  rintro e w1 ⟨rfl, hb1⟩
  have H1 := hid (H0.out.below hb1)
  have b0 := H1.out.c0
  have J1 := (J0.out.below hb1).made (rowEl_new _ #[.int .i64 3, .int .i64 0, .string key, .string ⟨#[]⟩, .int .u32 0, .int .i64 0, .bool false, .int .u64 0, .bool false, .int .u64 u, .int .u64 0, .bool false, .bool false, .int .i64 0, .int .i64 0, .bool false] 56 16 rfl)
  have hlw := cell_lt b0
  have HD := hid (do_one (c := { cm0 with op := 3, key := key, delta := u }) (J1.get 0 rfl) (cA (J1.get 2 rfl) 4) (by have e : lb < w1.heap.size := hlw; omega))
  have J5 := hid J1
  clear hb1 H0 J0 HO HC HKy HP1 J1 hlw a0 a1 w1' H1
  go_wp2_with (first
    | (go_at_call 344; refine (need_ok _ _).mono ?_; rintro e w1 ⟨rfl, rfl⟩)
    | (go_at_call 345; refine HD.out.mono ?_; rintro e w2 ⟨rfl, ht⟩
       have J6 := J5.out.turn 0 rfl ht
       have hb1 : (cAt N rq0 33).R w2 := J6.get 1 rfl
       obtain ⟨n0, p0, n1, p1, n2, p2, n3, p3, n4, p4, n5, p5, n6, p6, n7, p7, n8, p8, n9, p9, n10, p10⟩ : caf11 w2 N (.int .i64 0) (.slice none 0 0) (.bool false) (.bool false) (.string ⟨#[]⟩) (.string ⟨#[]⟩) (.int .i64 0) (.bool false) (.string ⟨#[]⟩) (.slice none 0 0) (.string ⟨#[]⟩) := caf11' (hb1)
       have J7 := hid J6
       clear J6 ht hb1
       simp only [reqV]))
  have hs := cl_sets N 33 (rq1 (.slice (some ⟨w1.heap.size, 0, none⟩) 1 1) false) 0 _ w2 (J7.out.get 1 rfl)
  have J8 := (J7.out.turn 1 rfl hs)
  rw [rq_set] at hs
  simp only [setsW, rq1] at hs J8
  simp only [List.set] at J8
  have hu := HU.out
  subst hu
  refine ret_req (N := N) rfl rfl hs.here ⟨_, _, rfl, ?_⟩
  exact ((J8.sub (.cons_cons _ (.cons _ (.cons_cons _ .slnil)))).perm (.swap _ _ _)).shut
set_option maxHeartbeats 1000000 in
theorem read_incr {w : World} {lb wb cap : Nat} {r : Res} {r' : Nat → Nat → Res} (hr : r.R w) (h0 : w.cell? ⟨lb, 0, none⟩ = some (.string ⟨#[105, 110, 99, 114]⟩))
    (HG : ∀ W, Below w.heap.size w W → Calls prog 320 #[.pointer (some ⟨lb, 0, none⟩)] W fun e w' => ∃ cb cc, e = .returned (reqV 1 (.slice (some ⟨cb, 0, none⟩) 1 cc) false false) ∧ Turn r (r' cb cc) W w') :
    Calls prog 292 #[.pointer (some ⟨lb, 0, none⟩)] w fun e w' => ∃ cb cc, e = .returned (.tuple #[reqV 1 (.slice (some ⟨cb, 0, none⟩) 1 cc) false false, .bool false]) ∧ Turn r (r' cb cc) w w' := by
  have hmf : ∀ (fn : Fn) (first cap : Array Value) (w : World), (Instr.makeFunc fn first cap).run prog w = .ok (.func fn first cap) w := fun _ _ _ _ => rfl
  have J0 := ((Hav.start hr).cells rq0 33).cells #[.bool false] 4
  simp only [World.size_alloc] at J0
  have hb0 : Below w.heap.size w ((w.alloc (.cells rq0 33)).alloc (.cells #[.bool false] 4)) := (bA w _).alloc (by simp) _
  have HC := hid (HG _ hb0)
  have a0 := (hb0.cell (p := ⟨lb, 0, none⟩) (cell_lt h0)).trans h0
  obtain ⟨N, hN⟩ : ∃ N, w.heap.size = N := ⟨_, rfl⟩
  obtain ⟨W, hW⟩ : ∃ W, (w.alloc (.cells rq0 33)).alloc (.cells #[.bool false] 4) = W := ⟨_, rfl⟩
  rw [hW] at J0 HC a0
  rw [hN] at J0
  have JJ := hid J0
  simp only [rq0] at hW
  clear J0 HG hb0 h0 hr
  go_enter_defers func292, ntmps292
  go_wp2_with (go_at_call 320; refine HC.out.mono ?_; rintro e w1 ⟨cb, cc, rfl, ht⟩
               have J1 := JJ.out.turn 2 rfl ht
               obtain ⟨n0, p0, n1, p1, n2, p2, n3, p3, n4, p4, n5, p5, n6, p6, n7, p7, n8, p8, n9, p9, n10, p10⟩ : caf11 w1 N (.int .i64 0) (.slice none 0 0) (.bool false) (.bool false) (.string ⟨#[]⟩) (.string ⟨#[]⟩) (.int .i64 0) (.bool false) (.string ⟨#[]⟩) (.slice none 0 0) (.string ⟨#[]⟩) := caf11' (J1.get 1 rfl)
               have m0 : w1.cell? ⟨N + 1, 0, none⟩ = some (.bool false) := cA (J1.get 0 rfl) 0
               have mf := cZ (J1.get 0 rfl) 0
               have hE := fun tmps => read_fin (cs := .slice (some ⟨cb, 0, none⟩) 1 cc) (R := fun e w' => ∃ cb cc, e = .returned (.tuple #[reqV 1 (.slice (some ⟨cb, 0, none⟩) 1 cc) false false, .bool false]) ∧ Turn r (r' cb cc) w w') J1 (fun w' h => ⟨cb, cc, rfl, h⟩) tmps
               simp only [setsW, rq1] at hE
               have HE := hid hE
               clear J1 hE ht
               simp only [reqV])
  exact HE.out _ rfl rfl
set_option maxHeartbeats 2000000 in
theorem math_is {N g cap u d : Nat} {cas : Int} {key value : ByteArray} {fl ca la flags tok : Int} {w : World} (hT : Tab w) (hu : u < 18446744073709551616) (hd : d < 18446744073709551616) (h : (mwR N g cap cas ⟨3, 0, key, value, flags, 0, tok, false, d, -1⟩ key fl (dec u) ca la).R w) (hc0 : 0 ≤ cas) (hc1 : cas ≤ 1000000) (hk : key.size = 1) :
    Calls prog 106 #[.pointer (some ⟨N, 0, none⟩)] w fun e w' => e = .returned (.agg (ans1 6 key fl (dec ((u + d) % 18446744073709551616)) (cas + 1) la ((u + d) % 18446744073709551616 : Nat))) ∧ Turn (mwR N g cap cas ⟨3, 0, key, value, flags, 0, tok, false, d, -1⟩ key fl (dec u) ca la) (mwR N g cap (cas + 1) ⟨3, 0, key, value, flags, 0, tok, false, d, -1⟩ key fl (dec ((u + d) % 18446744073709551616)) (cas + 1) la) w w' := by
  have J0 := ((Hav.start h).cells (ansT 0) 52)
  have J1 := J0.cells (Cm.vs ⟨3, 0, key, value, flags, 0, tok, false, d, -1⟩) 56
  simp only [World.size_alloc] at J1
  obtain ⟨X, hX⟩ : ∃ X, w.heap.size = X := ⟨_, rfl⟩
  have j0 := (Hav.open (J0.get 1 rfl)).get 0 rfl
  have hbw : Below w.heap.size w ((w.alloc (.cells (ansT 0) 52)).alloc (.cells (Cm.vs ⟨3, 0, key, value, flags, 0, tok, false, d, -1⟩) 56)) := by go_grown
  obtain ⟨W0, hW0⟩ : ∃ W0, w.alloc (.cells (ansT 0) 52) = W0 := ⟨_, rfl⟩
  rw [hW0] at j0 J1 hbw
  obtain ⟨W, hW⟩ : ∃ W, W0.alloc (.cells (Cm.vs ⟨3, 0, key, value, flags, 0, tok, false, d, -1⟩) 56) = W := ⟨_, rfl⟩
  rw [hW, hX] at J1
  rw [hW] at hbw
  have hX2 : W0.heap.size = X + 1 := by rw [← hW0]; simp [hX]
  have o4 : W0.cell? ⟨N, 4, none⟩ = some (.int .i64 3) := cA j0 4
  have o5 : W0.cell? ⟨N, 5, none⟩ = some (.int .i64 0) := cA j0 5
  have o6 : W0.cell? ⟨N, 6, none⟩ = some (.string key) := cA j0 6
  have o7 : W0.cell? ⟨N, 7, none⟩ = some (.string value) := cA j0 7
  have o8 : W0.cell? ⟨N, 8, none⟩ = some (.int .u32 flags) := cA j0 8
  have o9 : W0.cell? ⟨N, 9, none⟩ = some (.int .i64 0) := cA j0 9
  have o10 : W0.cell? ⟨N, 10, none⟩ = some (.bool false) := cA j0 10
  have o11 : W0.cell? ⟨N, 11, none⟩ = some (.int .u64 tok) := cA j0 11
  have o12 : W0.cell? ⟨N, 12, none⟩ = some (.bool false) := cA j0 12
  have o13 : W0.cell? ⟨N, 13, none⟩ = some (.int .u64 d) := cA j0 13
  have o14 : W0.cell? ⟨N, 14, none⟩ = some (.int .u64 0) := cA j0 14
  have o15 : W0.cell? ⟨N, 15, none⟩ = some (.bool false) := cA j0 15
  have o16 : W0.cell? ⟨N, 16, none⟩ = some (.bool false) := cA j0 16
  have o17 : W0.cell? ⟨N, 17, none⟩ = some (.int .i64 0) := cA j0 17
  have o18 : W0.cell? ⟨N, 18, none⟩ = some (.int .i64 (-1)) := cA j0 18
  have o19 : W0.cell? ⟨N, 19, none⟩ = some (.bool false) := cA j0 19
  have JJ := hid J1
  have HBW := hid hbw
  have HT := hid hT
  simp only [ansT, Cm.vs] at hW0 hW
  have HWW := hid hW
  clear J0 J1 j0 h hW hbw hT
  go_enter func106, ntmps106
  go_upto_region 2 with fail
  rw [HWW.out]
  clear HWW hW0 hX hX2 o4 o5 o6 o7 o8 o9 o10 o11 o12 o13 o14 o15 o16 o17 o18 o19
  have HS : Hid (∀ w', Below W.heap.size W w' → w'.cell? ⟨X + 1, 2, none⟩ = some (.string key) ∧ w'.cell? ⟨X + 1, 10, none⟩ = some (.int .u64 0) ∧ w'.cell? ⟨X + 1, 13, none⟩ = some (.int .i64 0)) := hid (fun w' hb => by
    have h0 := (JJ.out.below hb).get 0 rfl
    exact ⟨cA h0 2, cA h0 10, cA h0 13⟩)
  have q0 := (HS.out _ (Below.refl _ _))
  have HM := hid (fun w' => moment_0 N w')
  have HX0 := hid (fun w' => text_small (n := 0) (by decide) w')
  go_cut [4] from 13 to 22 (fun s4 wx => ∃ A, s4 = .pointer (some ⟨A, 0, none⟩) ∧ Hid (Made (cAt A #[.string key, .int .u32 0, .string (dec 0), .int .i64 0, .int .u64 0, .int .i64 0, .bool false, .bool false] 50) W wx))
  case first =>
    have HA := hid ((Made.cells W #[.string key, .int .u32 0, .string (dec 0), .int .i64 0, .int .u64 0, .int .i64 0, .bool false, .bool false] 50).drew)
    go_region_held3 (fun w' => w'.cell? ⟨X + 1, 2, none⟩ = some (.string key) ∧ w'.cell? ⟨X + 1, 10, none⟩ = some (.int .u64 0) ∧ w'.cell? ⟨X + 1, 13, none⟩ = some (.int .i64 0)) (first | with_reducible exact q0 | exact HS.out _ (by go_grown) | fail) (first
      | (go_at_call 108; refine (HM.out _).mono ?_; rintro e w1 ⟨rfl, rfl⟩)
      | (go_at_call 27; refine (HX0.out _).mono ?_; rintro e w1 ⟨rfl, rfl⟩))
    all_goals (go_wp2_with fail)
    all_goals (go_meet; exact ⟨_, rfl, HA⟩)
  case rest =>
    obtain ⟨A, rfl, hA⟩ := hcut
    have K0 := JJ.out.made hA.out
    have HB2 := hid (HBW.out.trans (hA.out.bel.mono HBW.out.size))
    have k22 : wc.cell? ⟨N, 22, none⟩ = some (.bool true) := cA ((Hav.open (K0.get 3 rfl)).get 0 rfl) 22
    have HO := hid (other_at (b := false) (K0.get 3 rfl) (.inl ⟨rfl, rfl⟩))
    have KK := hid K0
    clear K0 hA JJ HS q0 HM HX0 HBW
    go_wp2_with (go_at_call 170; refine HO.out.mono ?_; rintro e w1 ⟨rfl, m, rfl⟩)
    obtain ⟨V, hV⟩ : ∃ V, wc.drewN m = V := ⟨_, rfl⟩
    have KV := KK.out.drewN m
    have HB3 := hid (HB2.out.trans ((below_drewN' wc m).mono HB2.out.size))
    rw [hV] at KV HB3 ⊢
    clear hV KK HO k22 HB2
    have HI := hid (item_at ((Hav.open (KV.get 3 rfl)).get 0 rfl))
    have HKV := hid KV
    clear KV
    go_at_call 109
    refine HI.out.mono ?_
    rintro e w2 ⟨rfl, m2, rfl⟩
    obtain ⟨U, hU⟩ : ∃ U, V.drewN m2 = U := ⟨_, rfl⟩
    have K2 := HKV.out.drewN m2
    have HB4 := hid (HB3.out.trans ((below_drewN' V m2).mono HB3.out.size))
    rw [hU] at K2 HB4 ⊢
    clear hU HKV HI HB3
    have h1 : ¬ g = A := fun e => K2.apart (i := 3) (j := 0) rfl rfl (by decide) g ⟨_, .tail _ (.head _), rfl⟩ e
    have h2 : ¬ X + 1 = A := fun e => K2.apart (i := 1) (j := 0) rfl rfl (by decide) (X + 1) rfl e
    have hg := (Hav.open (K2.get 3 rfl)).get 1 rfl
    obtain ⟨y0, y1, y2, y3, y4, y5, y6, y7⟩ : ra8 U g (.string key) (.int .u32 fl) (.string (dec u)) (.int .i64 0) (.int .u64 ca) (.int .i64 la) (.bool false) (.bool false) := ra8' (hg)
    obtain ⟨a0, b0, a1, b1, a2, b2, a3, b3, a4, b4, a5, b5, a6, b6, a7, b7⟩ : caf8 U A (.string key) (.int .u32 0) (.string (dec 0)) (.int .i64 0) (.int .u64 0) (.int .i64 0) (.bool false) (.bool false) := caf8' (K2.get 0 rfl)
    have c9 : U.cell? ⟨X + 1, 9, none⟩ = some (.int .u64 d) := cA (K2.get 1 rfl) 9
    have K3 := K2.turn 0 rfl (cl_sets A 50 [.string key, .int .u32 fl, .string (dec u), .int .i64 0, .int .u64 ca, .int .i64 la, .bool false, .bool false] 0 _ _ (K2.get 0 rfl))
    simp only [setsW] at K3
    have hTU := HT.out.below HB4.out
    have hA0 : w.heap.size ≤ A := (K2.lo _ (.head _) A rfl).elim (fun hD => absurd rfl (K2.apart (i := 3) (j := 0) rfl rfl (by decide) A hD)) id
    have hTZ : Hid (Tab (setsW A 0 [.string key, .int .u32 fl, .string (dec u), .int .i64 0, .int .u64 ca, .int .i64 la, .bool false, .bool false] U)) := hid (tab_block hTU (fun g' hg' hl => (cl_sets A 50 [.string key, .int .u32 fl, .string (dec u), .int .i64 0, .int .u64 ca, .int .i64 la, .bool false, .bool false] 0 _ _ (K2.get 0 rfl)).tch.block g' hl (fun e => by have e1 : g' = A := e; have := tab_lt HT.out hg'; omega)))
    simp only [setsW] at hTZ
    have HK3 := hid K3
    clear K2 K3 hg HB4 hTU hA0 HT
    go_upto_region 9 with fail
    obtain ⟨Z, hZ⟩ : ∃ Z, ((((((((U.setCell ⟨A, 0, none⟩ (.string key)).setCell ⟨A, 1, none⟩ (.int .u32 fl)).setCell ⟨A, 2, none⟩ (.string (dec u))).setCell ⟨A, 3, none⟩ (.int .i64 0)).setCell ⟨A, 4, none⟩ (.int .u64 ca)).setCell ⟨A, 5, none⟩ (.int .i64 la)).setCell ⟨A, 6, none⟩ (.bool false)).setCell ⟨A, 7, none⟩ (.bool false)) = Z := ⟨_, rfl⟩
    have K4 := HK3.out
    rw [hZ] at K4 ⊢
    rw [show setsV 0 [.string key, .int .u32 fl, .string (dec u), .int .i64 0, .int .u64 ca, .int .i64 la, .bool false, .bool false] #[.string key, .int .u32 0, .string (dec 0), .int .i64 0, .int .u64 0, .int .i64 0, .bool false, .bool false] = #[.string key, .int .u32 fl, .string (dec u), .int .i64 0, .int .u64 ca, .int .i64 la, .bool false, .bool false] from by simp [setsV]] at K4
    rw [hZ] at hTZ
    have a0 : Z.cell? ⟨A, 0, none⟩ = some (.string key) := cA (K4.get 0 rfl) 0
    have a2 : Z.cell? ⟨A, 2, none⟩ = some (.string (dec u)) := cA (K4.get 0 rfl) 2
    have HAd := hid (add_any hu hd Z hTZ.out)
    have HKZ := hid K4
    have h2' : ¬ A = X + 1 := fun e => h2 e.symm
    have c9' : Z.cell? ⟨X + 1, 9, none⟩ = some (.int .u64 d) := cA (K4.get 1 rfl) 9
    obtain ⟨s, hs⟩ : ∃ s, (u + d) % 18446744073709551616 = s := ⟨_, rfl⟩
    have hs64 : s < 18446744073709551616 := by rw [← hs]; exact Nat.mod_lt _ (by decide)
    rw [hs] at HAd
    have HSS := hid hs
    clear hs hZ K4 HK3 y0 y1 y2 y3 y4 y5 y6 y7 b0 b1 b2 b3 b4 b5 b6 b7 a1 a3 a4 a5 a6 a7 c9 hTZ
    go_wp2_with (fail)
    go_at_call 171
    refine HAd.out.mono ?_
    rintro e w3 ⟨rfl, hb3⟩
    have K5 := HKZ.out.below hb3
    have a2 : w3.cell? ⟨A, 2, none⟩ = some (.string (dec u)) := cA (K5.get 0 rfl) 2
    have f2 := cZ (K5.get 0 rfl) 2
    have c11 : w3.cell? ⟨X + 1, 11, none⟩ = some (.bool false) := cA (K5.get 1 rfl) 11
    have c6 : w3.cell? ⟨X + 1, 6, none⟩ = some (.bool false) := cA (K5.get 1 rfl) 6
    have K6 := K5.turn 0 rfl (cl_set (K5.get 0 rfl) 2 (.string (dec s)))
    have HK6 := hid K6
    clear K5 K6 HKZ HAd hb3 a0 c9'
    have hdz : (dec s).size ≤ 20 := by rw [dcz]; exact nd_le hs64
    have hz1 : (key.size : Int) + ((dec s).size : Int) ≤ 472 := by omega
    have hz2 : IntKind.i64.wrap ((key.size : Int) + ((dec s).size : Int)) = (key.size : Int) + ((dec s).size : Int) := by rw [IntKind.wrap_i64]; omega
    go_upto_region 17 with fail
    obtain ⟨Y, hY⟩ : ∃ Y, w3.setCell ⟨A, 2, none⟩ (.string (dec s)) = Y := ⟨_, rfl⟩
    have KY := HK6.out
    rw [hY] at KY ⊢
    clear hY HK6 a2 f2 c11 c6
    obtain ⟨a0, a1, a2, a3, a4, a5, a6, a7⟩ : ca8 Y A (.string key) (.int .u32 fl) (.string (dec s)) (.int .i64 0) (.int .u64 ca) (.int .i64 la) (.bool false) (.bool false) := ca8' (KY.get 0 rfl)
    have k20 : Y.cell? ⟨N, 20, none⟩ = some (.int .i64 472) := cA ((Hav.open (KY.get 3 rfl)).get 0 rfl) 20
    have HKY := hid KY
    clear KY
    go_quiet (fail)
    obtain ⟨Y2, hY2⟩ : ∃ Y2, Y.drewN nq = Y2 := ⟨_, rfl⟩
    have KY := (HKY.out.drewN nq)
    rw [hY2] at KY ⊢
    clear hY2 HKY k20 a0 a1 a2 a3 a4 a5 a6 a7
    obtain ⟨a0, a1, a2, a3, a4, a5, a6, a7⟩ : ca8 Y2 A (.string key) (.int .u32 fl) (.string (dec s)) (.int .i64 0) (.int .u64 ca) (.int .i64 la) (.bool false) (.bool false) := ca8' (KY.get 0 rfl)
    have HPa := hid (parse_dec hs64 Y2)
    have HKY := hid KY
    clear KY
    go_wp2_with (fail)
    go_at_call 173
    refine HPa.out.mono ?_
    rintro e w4 ⟨rfl, hb4⟩
    have K7 := HKY.out.below hb4
    clear HKY HPa hb4 a0 a1 a2 a3 a4 a5 a6 a7
    obtain ⟨a0, a1, a2, a3, a4, a5, a6, a7⟩ : ca8 w4 A (.string key) (.int .u32 fl) (.string (dec s)) (.int .i64 0) (.int .u64 ca) (.int .i64 la) (.bool false) (.bool false) := ca8' (K7.get 0 rfl)
    have HP := hid (put_is (k2 := key) (v2 := dec s) (fl2 := fl) (ca2 := ca) (la2 := la) (K7.get 3 rfl) hc0 hc1)
    have KZ := hid K7
    clear K7
    unfold itmV at HP
    go_wp2_with (fail)
    go_at_call 169
    refine HP.out.mono ?_
    rintro e w5 ⟨rfl, ht⟩
    have L0 := KZ.out.turn 3 rfl ht
    have g1 := (Hav.open (L0.get 3 rfl)).get 1 rfl
    obtain ⟨y0, y1, y2, y3, y4, y5, y6, y7⟩ : ra8 w5 g (.string key) (.int .u32 fl) (.string (dec s)) (.int .i64 0) (.int .u64 (cas + 1)) (.int .i64 la) (.bool false) (.bool false) := ra8' (g1)
    have hX2 := L0.get 2 rfl
    obtain ⟨r0, u0, r1, u1, r2, u2, r3, u3, r4, u4, r5, u5, r6, u6, r7, u7, r8, u8, r9, u9, r10, u10, r11, u11, r12, u12⟩ : caf13 w5 X (.int .i64 0) (.string ⟨#[]⟩) (.int .u32 0) (.string ⟨#[]⟩) (.int .i64 0) (.int .u64 0) (.int .i64 0) (.bool false) (.bool false) (.int .u64 0) (.bool false) (.bool false) (.bool false) := caf13' (hX2)
    have hs := cl_sets X 52 [.int .i64 6, .string key, .int .u32 fl, .string (dec s), .int .i64 0, .int .u64 (cas + 1), .int .i64 la, .bool false, .bool false, .int .u64 s, .bool false, .bool false, .bool false] 0 _ _ hX2
    have L2 := L0.turn 2 rfl hs
    have he := hs.here
    rw [ans_set0] at he
    simp only [setsW] at L2 he
    have L3 := hid (L2.sub (.cons _ (.cons _ (.cons _ (List.Sublist.refl _))))).one
    have HE := hid he
    clear hX2 hs L2 he g1 L0 ht
    go_wp2_with (fail)
    rw [HSS.out]
    exact ret_ans (N := X) rfl rfl HE.out ⟨rfl, L3.out⟩
set_option maxHeartbeats 1000000 in
theorem math_no {N d : Nat} {cas : Int} {key value : ByteArray} {flags tok : Int} {w : World} (h : (mnR N cas ⟨3, 0, key, value, flags, 0, tok, false, d, -1⟩).R w) :
    Calls prog 106 #[.pointer (some ⟨N, 0, none⟩)] w fun e w' => e = .returned (.agg (ansT 5)) ∧ Below w.heap.size w w' := by
  have J0 := (Hav.none w).cells (ansT 0) 52
  have hbw := bA w (.cells (ansT 0) 52)
  have h0 := (mnR N cas ⟨3, 0, key, value, flags, 0, tok, false, d, -1⟩).keep h (Tch.of_below (fun _ => False) hbw) (fun _ _ x => x)
  obtain ⟨X, hX⟩ : ∃ X, w.heap.size = X := ⟨_, rfl⟩
  obtain ⟨W0, hW0⟩ : ∃ W, w.alloc (.cells (ansT 0) 52) = W := ⟨_, rfl⟩
  rw [hX, hW0] at J0
  rw [hW0] at h0
  have o4 : W0.cell? ⟨N, 4, none⟩ = some (.int .i64 3) := cA h0 4
  have o5 : W0.cell? ⟨N, 5, none⟩ = some (.int .i64 0) := cA h0 5
  have o6 : W0.cell? ⟨N, 6, none⟩ = some (.string key) := cA h0 6
  have o7 : W0.cell? ⟨N, 7, none⟩ = some (.string value) := cA h0 7
  have o8 : W0.cell? ⟨N, 8, none⟩ = some (.int .u32 flags) := cA h0 8
  have o9 : W0.cell? ⟨N, 9, none⟩ = some (.int .i64 0) := cA h0 9
  have o10 : W0.cell? ⟨N, 10, none⟩ = some (.bool false) := cA h0 10
  have o11 : W0.cell? ⟨N, 11, none⟩ = some (.int .u64 tok) := cA h0 11
  have o12 : W0.cell? ⟨N, 12, none⟩ = some (.bool false) := cA h0 12
  have o13 : W0.cell? ⟨N, 13, none⟩ = some (.int .u64 d) := cA h0 13
  have o14 : W0.cell? ⟨N, 14, none⟩ = some (.int .u64 0) := cA h0 14
  have o15 : W0.cell? ⟨N, 15, none⟩ = some (.bool false) := cA h0 15
  have o16 : W0.cell? ⟨N, 16, none⟩ = some (.bool false) := cA h0 16
  have o17 : W0.cell? ⟨N, 17, none⟩ = some (.int .i64 0) := cA h0 17
  have o18 : W0.cell? ⟨N, 18, none⟩ = some (.int .i64 (-1)) := cA h0 18
  have o19 : W0.cell? ⟨N, 19, none⟩ = some (.bool false) := cA h0 19
  have hNX : N < W0.heap.size := (mnR N cas ⟨3, 0, key, value, flags, 0, tok, false, d, -1⟩).lt h0 rfl
  have hX2 : W0.heap.size = X + 1 := by rw [← hW0]; simp [hX]
  have J1 := J0.cells (Cm.vs ⟨3, 0, key, value, flags, 0, tok, false, d, -1⟩) 56
  have h1 := (mnR N cas ⟨3, 0, key, value, flags, 0, tok, false, d, -1⟩).keep h0 (Tch.of_below (fun _ => False) (bA W0 (.cells (Cm.vs ⟨3, 0, key, value, flags, 0, tok, false, d, -1⟩) 56))) (fun _ _ x => x)
  obtain ⟨W, hW⟩ : ∃ W, W0.alloc (.cells (Cm.vs ⟨3, 0, key, value, flags, 0, tok, false, d, -1⟩) 56) = W := ⟨_, rfl⟩
  rw [hX2, hW] at J1
  rw [hW] at h1
  have hbW : Below W0.heap.size W0 W := by rw [← hW]; exact bA _ _
  simp only [ansT, Cm.vs] at hW0 hW
  have JJ := hid J1
  have HWW := hid hW
  have HH1 := hid h1
  have HT := hid (fun w' => told_ok 5 w')
  unfold ansT at HT
  have HNX := hid (Nat.lt_of_lt_of_le hNX hbW.size)
  clear J0 J1 h h0 h1 hbw hNX hbW hW
  go_enter func106, ntmps106
  go_upto_region 2 with fail
  rw [HWW.out]
  clear HWW hW0 hX hX2 o4 o5 o6 o7 o8 o9 o10 o11 o12 o13 o14 o15 o16 o17 o18 o19
  have HS : Hid (∀ w', Below W.heap.size W w' → w'.cell? ⟨X + 1, 2, none⟩ = some (.string key) ∧ w'.cell? ⟨X + 1, 10, none⟩ = some (.int .u64 0) ∧ w'.cell? ⟨X + 1, 13, none⟩ = some (.int .i64 0)) := hid (fun w' hb => by
    have h0 := (JJ.out.below hb).get 0 rfl
    exact ⟨cA h0 2, cA h0 10, cA h0 13⟩)
  have q0 := (HS.out _ (Below.refl _ _))
  have HM := hid (fun w' => moment_0 N w')
  have HX0 := hid (fun w' => text_small (n := 0) (by decide) w')
  go_cut [4] from 13 to 22 (fun s4 wx => ∃ A, s4 = .pointer (some ⟨A, 0, none⟩) ∧ Hid (Made (cAt A #[.string key, .int .u32 0, .string (dec 0), .int .i64 0, .int .u64 0, .int .i64 0, .bool false, .bool false] 50) W wx))
  case first =>
    have HA := hid ((Made.cells W #[.string key, .int .u32 0, .string (dec 0), .int .i64 0, .int .u64 0, .int .i64 0, .bool false, .bool false] 50).drew)
    go_region_held3 (fun w' => w'.cell? ⟨X + 1, 2, none⟩ = some (.string key) ∧ w'.cell? ⟨X + 1, 10, none⟩ = some (.int .u64 0) ∧ w'.cell? ⟨X + 1, 13, none⟩ = some (.int .i64 0)) (first | with_reducible exact q0 | exact HS.out _ (by go_grown) | fail) (first
      | (go_at_call 108; refine (HM.out _).mono ?_; rintro e w1 ⟨rfl, rfl⟩)
      | (go_at_call 27; refine (HX0.out _).mono ?_; rintro e w1 ⟨rfl, rfl⟩))
    all_goals (go_wp2_with fail)
    all_goals (go_meet; exact ⟨_, rfl, HA⟩)
  case rest =>
    obtain ⟨A, rfl, hA⟩ := hcut
    have K0 := JJ.out.made hA.out
    have k22 : wc.cell? ⟨N, 22, none⟩ = some (.bool false) := cA ((mnR N cas ⟨3, 0, key, value, flags, 0, tok, false, d, -1⟩).keep HH1.out (Tch.of_below (fun _ => False) hA.out.bel) (fun _ _ x => x)) 22
    have c12 : wc.cell? ⟨X + 1, 12, none⟩ = some (.bool false) := cA (K0.get 1 rfl) 12
    have KK := hid (K0.sub (.cons _ (.cons _ (List.Sublist.refl _))))
    clear K0 hA JJ HS q0 HM HX0
    go_wp2_with (fail)
    go_at_call 107
    refine (HT.out _).mono ?_
    rintro e w1 ⟨rfl, hb1⟩
    have J1 := KK.out.below hb1
    obtain ⟨r0, u0, r1, u1, r2, u2, r3, u3, r4, u4, r5, u5, r6, u6, r7, u7, r8, u8, r9, u9, r10, u10, r11, u11, r12, u12⟩ : caf13 w1 X (.int .i64 0) (.string ⟨#[]⟩) (.int .u32 0) (.string ⟨#[]⟩) (.int .i64 0) (.int .u64 0) (.int .i64 0) (.bool false) (.bool false) (.int .u64 0) (.bool false) (.bool false) (.bool false) := caf13' (J1.get 0 rfl)
    have hs := cl_sets X 52 [.int .i64 5, .string ⟨#[]⟩, .int .u32 0, .string ⟨#[]⟩, .int .i64 0, .int .u64 0, .int .i64 0, .bool false, .bool false, .int .u64 0, .bool false, .bool false, .bool false] 0 _ _ (J1.get 0 rfl)
    have k1 := J1.turn 0 rfl hs
    have h2 := k1.get 0 rfl
    rw [ans_set0] at h2
    have h3 := (k1.made0 0 rfl).bel
    simp only [setsW] at h2 h3
    have HE := hid (And.intro h2 h3)
    clear hs k1 h2 h3 J1 KK hb1
    go_wp2_with (fail)
    exact ret_ans (N := X) rfl rfl HE.out.1 ⟨rfl, HE.out.2⟩
end Go.Proofs.YtboehbfagnocpaaGreatDoor
