/- Trd, Tpr, Tco, Tcp, Tce, Tse, Tsf, Tgd, Tcx, Tgs, Tgn, Tal, Tci, Tcq, Tsi, Tlf. -/
import Derived.Test.YtboehbfagnocpaaGreatDoorUap
import Derived.Test.YtboehbfagnocpaaGreatDoorUaw
set_option linter.unusedVariables false
set_option linter.unusedSimpArgs false
set_option maxRecDepth 100000
open Go.Proofs.Tryz
open Go.Lib (hid)
namespace Go.Proofs.YtboehbfagnocpaaGreatDoor
open Go.RowKit Go.PlainAid Go.Shelf
theorem catch_ok (rb mb : Nat) (w : World) : CallsD prog 317 #[.pointer (some ⟨rb, 0, none⟩), .pointer (some ⟨mb, 0, none⟩)] .returning w fun e u' w' => e = .returned (.tuple #[]) ∧ u' = .returning ∧ w' = w := by
  refine callsD_of_wpS func317 rfl fun c₀ cs hu => ?_
  apply wpS_seq
  apply wpS_region
  simp [wpOpsS, go_sem, recoverD, hu, ntmps317, Exit.thenS]
  refine wpS_of_wp ?_
  rw [show (#[.pointer (some ⟨rb, 0, none⟩), .pointer (some ⟨mb, 0, none⟩)] ++ (Array.replicate 11 undef).setIfInBounds 3 Value.nilIface : Array Value) = #[.pointer (some ⟨rb, 0, none⟩), .pointer (some ⟨mb, 0, none⟩), undef, undef, undef, .nilIface, undef, undef, undef, undef, undef, undef, undef] from rfl]
  go_wp2
  cases c₀
  simp_all [bodyPostS, results, results317]
theorem read_door {R : Ending → World → Prop} {tmps : Array Value} {W : World} {rb mb : Nat} {v0 v1 v2 v3 v4 v5 v6 v7 v8 v9 v10 vm : Value} (hk : tmps.getD 2 undef = .pointer (some ⟨rb, 0, none⟩)) (hm : tmps.getD 3 undef = .pointer (some ⟨mb, 0, none⟩))
    (hb : (cAt rb #[v0, v1, v2, v3, v4, v5, v6, v7, v8, v9, v10] 33).R W) (hc : W.cell? ⟨mb, 0, none⟩ = some vm)
    (hR : R (.returned (.tuple #[.agg #[v0, v1, v2, v3, v4, v5, v6, v7, v8, v9, v10], vm])) W) :
    bodyPostD prog f292 R .ret { tmps := tmps, defers := [{ target := .fn (.func 317) #[.pointer (some ⟨rb, 0, none⟩), .pointer (some ⟨mb, 0, none⟩)], args := #[] }] } W := by
  have h2' : tmps[2]?.getD undef = .pointer (some ⟨rb, 0, none⟩) := by simpa using hk
  have h3' : tmps[3]?.getD undef = .pointer (some ⟨mb, 0, none⟩) := by simpa using hm
  obtain ⟨x0, x1, x2, x3, x4, x5, x6, x7, x8, x9, x10⟩ : ca11 W rb v0 v1 v2 v3 v4 v5 v6 v7 v8 v9 v10 := ca11' (hb)
  refine leaves_cons (f := 317) (args := #[.pointer (some ⟨rb, 0, none⟩), .pointer (some ⟨mb, 0, none⟩)]) (by simp) (by simp [go_sem]) ?_
  refine (catch_ok rb mb W).mono ?_
  rintro e u' w'' ⟨rfl, rfl, rfl⟩
  simpa [Leaves, settle, results, results292, go_sem, h2', h3', x0, x1, x2, x3, x4, x5, x6, x7, x8, x9, x10, hc] using hR
theorem read_fin {r r' : Res} {w w1 : World} {N : Nat} {cs : Value} {R : Ending → World → Prop} (J : Hav r.B w [cAt (N + 1) #[.bool false] 4, cAt N rq0 33, r'] w1)
    (hR : ∀ w', Turn r r' w w' → R (.returned (.tuple #[reqV 1 cs false false, .bool false])) w') (tmps : Array Value) (hk : tmps.getD 2 undef = .pointer (some ⟨N, 0, none⟩)) (hm : tmps.getD 3 undef = .pointer (some ⟨N + 1, 0, none⟩)) :
    bodyPostD prog f292 R .ret { tmps := tmps, defers := [{ target := .fn (.func 317) #[.pointer (some ⟨N, 0, none⟩), .pointer (some ⟨N + 1, 0, none⟩)], args := #[] }] }
      ((setsW N 0 (rq1 cs false) w1).setCell ⟨N + 1, 0, none⟩ (.bool false)) := by
  have hs := cl_sets N 33 (rq1 cs false) 0 _ w1 (J.get 1 rfl)
  have J1 := J.turn 1 rfl hs
  have J2 := J1.turn 0 rfl (cl_set (J1.get 0 rfl) 0 (.bool false))
  have h1 := J2.get 1 rfl
  rw [rq_set] at h1
  refine read_door (rb := N) (mb := N + 1) hk hm h1 (cA (J2.get 0 rfl) 0) (hR _ ?_)
  exact (J2.sub (.cons _ (.cons _ (List.Sublist.refl _)))).one
theorem Turn.made0 {r : Res} {w w' : World} (h : Turn emp r w w') : Made r w w' := ⟨h.here, h.tch.below (Below.refl _ _) (Nat.le_refl _) (fun b hb => hb.elim), fun b hb => (h.nu b hb).elim (fun x => x.elim) id⟩
set_option maxHeartbeats 1000000 in
theorem read_get {w : World} {lb wb cap : Nat} {r : Res} {r' : Nat → Nat → Res} (hr : r.R w) (h0 : w.cell? ⟨lb, 0, none⟩ = some (.string ⟨#[103, 101, 116]⟩))
    (HG : ∀ W, Below w.heap.size w W → Calls prog 318 #[.pointer (some ⟨lb, 0, none⟩)] W fun e w' => ∃ cb cc, e = .returned (reqV 1 (.slice (some ⟨cb, 0, none⟩) 1 cc) false false) ∧ Turn r (r' cb cc) W w') :
    Calls prog 292 #[.pointer (some ⟨lb, 0, none⟩)] w fun e w' => ∃ cb cc, e = .returned (.tuple #[reqV 1 (.slice (some ⟨cb, 0, none⟩) 1 cc) false false, .bool false]) ∧ Turn r (r' cb cc) w w' := by
  have hmf : ∀ (fn : Fn) (first cap : Array Value) (w : World), (Instr.makeFunc fn first cap).run prog w = .ok (.func fn first cap) w := fun _ _ _ _ => rfl
  have J0 := ((Hav.start hr).cells rq0 33).cells #[.bool false] 4
  simp only [World.size_alloc] at J0
  have hb0 : Below w.heap.size w ((w.alloc (.cells rq0 33)).alloc (.cells #[.bool false] 4)) := (bA w _).alloc (by simp) _
  have HC := hid (HG _ hb0)
  have a0 := (hb0.cell (p := ⟨lb, 0, none⟩) (cell_lt h0)).trans h0
  obtain ⟨N, hN⟩ : ∃ N, w.heap.size = N := ⟨_, rfl⟩
  obtain ⟨W, hW⟩ : ∃ W, (w.alloc (.cells rq0 33)).alloc (.cells #[.bool false] 4) = W := ⟨_, rfl⟩
  rw [hW] at J0 HC a0
  rw [hN] at J0
  have JJ := hid J0
  simp only [rq0] at hW
  clear J0 HG hb0 h0 hr
  go_enter_defers func292, ntmps292
  go_wp2_with (go_at_call 318; refine HC.out.mono ?_; rintro e w1 ⟨cb, cc, rfl, ht⟩
               have J1 := JJ.out.turn 2 rfl ht
               obtain ⟨n0, p0, n1, p1, n2, p2, n3, p3, n4, p4, n5, p5, n6, p6, n7, p7, n8, p8, n9, p9, n10, p10⟩ : caf11 w1 N (.int .i64 0) (.slice none 0 0) (.bool false) (.bool false) (.string ⟨#[]⟩) (.string ⟨#[]⟩) (.int .i64 0) (.bool false) (.string ⟨#[]⟩) (.slice none 0 0) (.string ⟨#[]⟩) := caf11' (J1.get 1 rfl)
               have m0 : w1.cell? ⟨N + 1, 0, none⟩ = some (.bool false) := cA (J1.get 0 rfl) 0
               have mf := cZ (J1.get 0 rfl) 0
               have hE := fun tmps => read_fin (cs := .slice (some ⟨cb, 0, none⟩) 1 cc) (R := fun e w' => ∃ cb cc, e = .returned (.tuple #[reqV 1 (.slice (some ⟨cb, 0, none⟩) 1 cc) false false, .bool false]) ∧ Turn r (r' cb cc) w w') J1 (fun w' h => ⟨cb, cc, rfl, h⟩) tmps
               simp only [setsW, rq1] at hE
               have HE := hid hE
               clear J1 hE ht
               simp only [reqV])
  exact HE.out _ rfl rfl
set_option maxHeartbeats 1000000 in
theorem read_set {w : World} {lb wb cap : Nat} {r : Res} {r' : Nat → Nat → Res} (hr : r.R w) (h0 : w.cell? ⟨lb, 0, none⟩ = some (.string ⟨#[115, 101, 116]⟩))
    (HG : ∀ W, Below w.heap.size w W → Calls prog 319 #[.pointer (some ⟨lb, 0, none⟩)] W fun e w' => ∃ cb cc, e = .returned (.tuple #[reqV 1 (.slice (some ⟨cb, 0, none⟩) 1 cc) false false, .bool false]) ∧ Turn r (r' cb cc) W w') :
    Calls prog 292 #[.pointer (some ⟨lb, 0, none⟩)] w fun e w' => ∃ cb cc, e = .returned (.tuple #[reqV 1 (.slice (some ⟨cb, 0, none⟩) 1 cc) false false, .bool false]) ∧ Turn r (r' cb cc) w w' := by
  have hmf : ∀ (fn : Fn) (first cap : Array Value) (w : World), (Instr.makeFunc fn first cap).run prog w = .ok (.func fn first cap) w := fun _ _ _ _ => rfl
  have J0 := ((Hav.start hr).cells rq0 33).cells #[.bool false] 4
  simp only [World.size_alloc] at J0
  have hb0 : Below w.heap.size w ((w.alloc (.cells rq0 33)).alloc (.cells #[.bool false] 4)) := (bA w _).alloc (by simp) _
  have HC := hid (HG _ hb0)
  have a0 := (hb0.cell (p := ⟨lb, 0, none⟩) (cell_lt h0)).trans h0
  obtain ⟨N, hN⟩ : ∃ N, w.heap.size = N := ⟨_, rfl⟩
  obtain ⟨W, hW⟩ : ∃ W, (w.alloc (.cells rq0 33)).alloc (.cells #[.bool false] 4) = W := ⟨_, rfl⟩
  rw [hW] at J0 HC a0
  rw [hN] at J0
  have JJ := hid J0
  simp only [rq0] at hW
  clear J0 HG hb0 h0 hr
  go_enter_defers func292, ntmps292
  go_wp2_with (go_at_call 319; refine HC.out.mono ?_; rintro e w1 ⟨cb, cc, rfl, ht⟩
               have J1 := JJ.out.turn 2 rfl ht
               obtain ⟨n0, p0, n1, p1, n2, p2, n3, p3, n4, p4, n5, p5, n6, p6, n7, p7, n8, p8, n9, p9, n10, p10⟩ : caf11 w1 N (.int .i64 0) (.slice none 0 0) (.bool false) (.bool false) (.string ⟨#[]⟩) (.string ⟨#[]⟩) (.int .i64 0) (.bool false) (.string ⟨#[]⟩) (.slice none 0 0) (.string ⟨#[]⟩) := caf11' (J1.get 1 rfl)
               have m0 : w1.cell? ⟨N + 1, 0, none⟩ = some (.bool false) := cA (J1.get 0 rfl) 0
               have mf := cZ (J1.get 0 rfl) 0
               have hE := fun tmps => read_fin (cs := .slice (some ⟨cb, 0, none⟩) 1 cc) (R := fun e w' => ∃ cb cc, e = .returned (.tuple #[reqV 1 (.slice (some ⟨cb, 0, none⟩) 1 cc) false false, .bool false]) ∧ Turn r (r' cb cc) w w') J1 (fun w' h => ⟨cb, cc, rfl, h⟩) tmps
               simp only [setsW, rq1] at hE
               have HE := hid hE
               clear J1 hE ht
               simp only [reqV])
  exact HE.out _ rfl rfl
def lnC (name : ByteArray) (wb n cap : Nat) (behind : ByteArray) (used : Nat) : Array Value := #[.string name, .slice (some ⟨wb, 1, none⟩) n cap, .string behind, .int .i64 used, .bool false]
theorem split_row {ln : ByteArray} {Y w' : World} {e : Ending} (h : W2.SplitPost ln Y e w') {xs : List ByteArray} {k : Nat} (hw : (W2.P.words ln).map W2.P.mk = xs) (hk : xs.length = k + 1) :
    ∃ wb cap, e = .returned (.slice (some ⟨wb, 0, none⟩) (k + 1) cap) ∧ k + 1 ≤ cap ∧ cap ≤ maxLen ∧ Made (rowAt (.slice (some ⟨wb, 0, none⟩) (k + 1) cap) 9 1 (k + 1) (xs.map .string)) Y w' := by
  obtain ⟨v, rfl, ho, hb⟩ := h
  have e1 : (W2.P.words ln).map (fun l => Value.string (W2.P.mk l)) = xs.map .string := by rw [← hw, List.map_map]; rfl
  have e2 : (W2.P.words ln).length = k + 1 := by rw [← hk, ← hw, List.length_map]
  rw [e1, e2] at ho
  rcases ho.2 with ⟨_, h0⟩ | ⟨g, cap, cur, rfl, h2, h3, h4, h5, h6, h7⟩
  · omega
  · exact ⟨g, cap, rfl, h4, h5, own_zero ho, hb, fun b hx => (ho.lt b hx).1⟩
set_option maxHeartbeats 2000000 in
theorem parse_of {b ln name : ByteArray} {ws : List ByteArray} {n used : Nat} {row : Nat → Nat → Res} (hln : W2.lineT b = ln) (hn : W2.lineN b = n) (h1 : 1 ≤ n) (hnb : n ≤ b.size) (hb : b.size ≤ 2000) (hl : ln.size ≤ 2000) (hu : used ≤ 2000)
    (hw : (W2.P.words ln).map W2.P.mk = name :: ws) (hws : 1 ≤ ws.length)
    (HR : ∀ (W : World) (lb wb cap : Nat), (cAt lb (lnC name wb ws.length cap (b.extract n b.size) 0) 395).R W → (∀ i x, ws[i]? = some x → W.cell? ⟨wb, 1 + i, none⟩ = some (.string x)) →
      Calls prog 292 #[.pointer (some ⟨lb, 0, none⟩)] W fun e w' => ∃ cb cc, e = .returned (.tuple #[reqV 1 (.slice (some ⟨cb, 0, none⟩) 1 cc) false false, .bool false]) ∧
        Turn (cAt lb (lnC name wb ws.length cap (b.extract n b.size) 0) 395) (many [cAt lb (lnC name wb ws.length cap (b.extract n b.size) used) 395, row cb cc]) W w') (w : World) :
    Calls prog 251 #[.string b] w fun e w' => ∃ cb cc, e = .returned (.tuple #[reqV 1 (.slice (some ⟨cb, 0, none⟩) 1 cc) false false, .int .i64 (n + used : Nat)]) ∧ Made (row cb cc) w w' := by
  have J0 := (Hav.none w).cells rq0 33
  obtain ⟨N, hN⟩ : ∃ N, w.heap.size = N := ⟨_, rfl⟩
  obtain ⟨W, hW⟩ : ∃ W, w.alloc (.cells rq0 33) = W := ⟨_, rfl⟩
  rw [hN, hW] at J0
  have HJ := hid J0
  have HL := hid (fun w' => W2.line_any b w' (by unfold maxLen; omega))
  unfold W2.LinePost at HL
  rw [hln, hn] at HL
  have HS := hid (fun w' => W2.split_any ln w' (by omega))
  have hm : min (b.size : Int) 2048 = b.size := by omega
  have hx : b.extract 0 b.size = b := by simp
  have g1 : ¬ (n : Int) = 0 := by omega
  have g1b : ((n : Int) == 0) = false := by simpa using g1
  have g2 : (n : Int) ≤ b.size := by omega
  have HRR := hid HR
  have HH := hid (And.intro hb (And.intro hnb (And.intro hu (And.intro hws hw))))
  simp only [rq0] at hW
  clear J0 HR hln hn hw hl hb
  go_enter func251, ntmps251
  go_wp2_with (go_at_call 246; refine (HL.out _).mono ?_; rintro e w1 ⟨rfl, m, rfl⟩)
  obtain ⟨Y, hY⟩ : ∃ Y, W.drewN m = Y := ⟨_, rfl⟩
  have HJY : Hid (Hav (fun _ => False) w _ Y) := hid (by rw [← hY]; exact HJ.out.drewN m)
  rw [hY]
  clear hY HL hW hN HJ
  obtain ⟨k, hk⟩ : ∃ k, ws.length = k := ⟨_, rfl⟩
  have HS2 : Hid (∀ W', Below Y.heap.size Y W' → Calls prog 288 #[.string ln] W' fun e w' => ∃ wb cap, e = .returned (.slice (some ⟨wb, 0, none⟩) (k + 1) cap) ∧ k + 1 ≤ cap ∧ cap ≤ maxLen ∧ Made (rowAt (.slice (some ⟨wb, 0, none⟩) (k + 1) cap) 9 1 (k + 1) ((name :: ws).map .string)) W' w') :=
    hid (fun W' hb => (HS.out W').mono (fun e w' h => split_row h HH.out.2.2.2.2 (by simp [hk])))
  go_upto_region 8 with fail
  go_cut [7] from 34 to 40 (fun s7 wx => ∃ L wb cap, s7 = .pointer (some ⟨L, 0, none⟩) ∧ k + 1 ≤ cap ∧ cap ≤ maxLen ∧ Hid (Hav (fun _ => False) w [cAt L #[.string ⟨#[]⟩, .slice (some ⟨wb, 0, none⟩) (k + 1) cap, .string (b.extract n b.size), .int .i64 0, .bool false] 395, rowAt (.slice (some ⟨wb, 0, none⟩) (k + 1) cap) 9 1 (k + 1) ((name :: ws).map .string), cAt N rq0 33] wx))
  case first =>
    go_region_with ((go_at_call 288; refine (HS2.out _ (by go_grown)).mono ?_; rintro e w2 ⟨wb, cap, rfl, hc1, hc2, hm2⟩; have HM2 := hid hm2; clear hm2))
    all_goals (go_wp2_with fail)
    have hfin := ((HJY.out.drew).made HM2.out).cells #[.string ⟨#[]⟩, .slice (some ⟨wb, 0, none⟩) (k + 1) cap, .string (b.extract n b.size), .int .i64 0, .bool false] 395
    simp only [lzP, lzA, lzS]
    go_meet
    exact ⟨_, _, _, rfl, hc1, hc2, hid hfin⟩
  case rest =>
    obtain ⟨L, wb, cap, rfl, hc1, hc2, hJ⟩ := hcut
    obtain ⟨l0, f0, l1, f1, l2, f2, l3, f3, l4, f4⟩ : caf5 wc L (.string ⟨#[]⟩) (.slice (some ⟨wb, 0, none⟩) (k + 1) cap) (.string (b.extract n b.size)) (.int .i64 0) (.bool false) := caf5' (hJ.out.get 0 rfl)
    have x0 : wc.cell? ⟨wb, 0, none⟩ = some (.string name) := row_at (hJ.out.get 1 rfl) 0 (by simp)
    have i1 : (0 : Int) < (k : Int) + 1 := by omega
    have i2 : (1 : Int) ≤ (k : Int) + 1 := by omega
    have i3 : ((k : Int) + 1).toNat = k + 1 := by omega
    have i4 : ¬ cap = 1 := by have := HH.out.2.2.2.1; omega
    have i5 : ¬ 1 = cap := fun e => i4 e.symm
    have i6 : ¬ (k : Int) + 1 = 0 := by omega
    have i6b : ((k : Int) + 1 == 0) = false := by simpa using i6
    have hLw : ¬ L = wb := fun e => hJ.out.apart (i := 0) (j := 1) rfl rfl (by decide) L rfl (by rw [e]; rfl)
    go_wp2_with (fail)
    go_upto_region 11 with fail
    go_cut [] from 49 to 65 (fun wx => wx = ((wc.setCell ⟨L, 0, none⟩ (.string name)).setCell ⟨L, 1, none⟩ (.slice (some ⟨wb, 1, none⟩) k (cap - 1))).drew)
    case first =>
      go_region_with (fail)
      all_goals (go_wp2_with fail)
      all_goals (go_meet; rfl)
    case rest =>
      obtain rfl := hcut
      obtain ⟨Z, hZ⟩ : ∃ Z, ((wc.setCell ⟨L, 0, none⟩ (.string name)).setCell ⟨L, 1, none⟩ (.slice (some ⟨wb, 1, none⟩) k (cap - 1))).drew = Z := ⟨_, rfl⟩
      have j1 := hJ.out.turn 0 rfl (cl_set (hJ.out.get 0 rfl) 0 (.string name))
      have j2 := (j1.turn 0 rfl (cl_set (j1.get 0 rfl) 1 (.slice (some ⟨wb, 1, none⟩) k (cap - 1)))).drew
      rw [hZ] at j2
      rw [hZ]
      have hl0 : (cAt L (lnC name wb ws.length (cap - 1) (b.extract n b.size) 0) 395).R Z := by rw [hk]; exact j2.get 0 rfl
      have HRd := hid (HRR.out Z L wb (cap - 1) hl0 (fun i x hi => by
        have h := row_at (j2.get 1 rfl) (1 + i) (by have h1 := (List.getElem?_eq_some_iff.1 hi).1; simp; omega)
        rw [h, Nat.add_comm 1 i]
        simp [hi]))
      have j2' : Hav (fun _ => False) w [cAt L (lnC name wb ws.length (cap - 1) (b.extract n b.size) 0) 395, rowAt (.slice (some ⟨wb, 0, none⟩) (k + 1) cap) 9 1 (k + 1) ((name :: ws).map .string), cAt N rq0 33] Z := by rw [hk]; exact j2
      have HJ2 := hid j2'
      clear j1 j2 j2' hl0 hZ l0 l1 l2 l3 l4 f0 f1 f2 f3 f4 x0 hJ HRR HJY HS HS2
      go_wp2_with (fail)
      go_at_call 292
      refine HRd.out.mono ?_
      rintro e w9 ⟨cb, cc, rfl, ht⟩
      have j3 := HJ2.out.turn 0 rfl ht
      have j4 := j3.cells #[.int .i64 1, .slice (some ⟨cb, 0, none⟩) 1 cc, .bool false, .bool false, .string ⟨#[]⟩, .string ⟨#[]⟩, .int .i64 0, .bool false, .string ⟨#[]⟩, .slice none 0 0, .string ⟨#[]⟩] 33
      obtain ⟨X, hX⟩ : ∃ X, w9.heap.size = X := ⟨_, rfl⟩
      obtain ⟨V, hV⟩ : ∃ V, w9.alloc (.cells #[.int .i64 1, .slice (some ⟨cb, 0, none⟩) 1 cc, .bool false, .bool false, .string ⟨#[]⟩, .string ⟨#[]⟩, .int .i64 0, .bool false, .string ⟨#[]⟩, .slice none 0 0, .string ⟨#[]⟩] 33) = V := ⟨_, rfl⟩
      rw [hX, hV] at j4
      have HV := hid hV
      have HJ4 := hid j4
      clear j3 j4 ht hV HJ2 HRd
      simp only [reqV]
      go_upto_region 13 with fail
      rw [HV.out]
      clear HV hX
      have hl1 := (Hav.open (HJ4.out.get 1 rfl)).get 0 rfl
      have u3 : V.cell? ⟨L, 3, none⟩ = some (.int .i64 used) := cA hl1 3
      obtain ⟨x0, x1, x2, x3, x4, x5, x6, x7, x8, x9, x10⟩ : ca11 V X (.int .i64 1) (.slice (some ⟨cb, 0, none⟩) 1 cc) (.bool false) (.bool false) (.string ⟨#[]⟩) (.string ⟨#[]⟩) (.int .i64 0) (.bool false) (.string ⟨#[]⟩) (.slice none 0 0) (.string ⟨#[]⟩) := ca11' (HJ4.out.get 0 rfl)
      obtain ⟨r0, t0, r1, t1, r2, t2, r3, t3, r4, t4, r5, t5, r6, t6, r7, t7, r8, t8, r9, t9, r10, t10⟩ : caf11 V N (.int .i64 0) (.slice none 0 0) (.bool false) (.bool false) (.string ⟨#[]⟩) (.string ⟨#[]⟩) (.int .i64 0) (.bool false) (.string ⟨#[]⟩) (.slice none 0 0) (.string ⟨#[]⟩) := caf11' (HJ4.out.get 3 rfl)
      have y1 : ¬ X = N := fun e => HJ4.out.apart (i := 0) (j := 3) rfl rfl (by decide) X rfl e
      have y2 : ¬ N = X := fun e => y1 e.symm
      have y3 : ¬ L = N := fun e => HJ4.out.apart (i := 1) (j := 3) rfl rfl (by decide) L ⟨_, .head _, rfl⟩ e
      have y4 : ¬ N = L := fun e => y3 e.symm
      have hs := cl_sets N 33 (rq1 (.slice (some ⟨cb, 0, none⟩) 1 cc) false) 0 _ _ (HJ4.out.get 3 rfl)
      have k1 := (HJ4.out.turn 3 rfl hs).drew
      have h2 := k1.get 3 rfl
      rw [rq_set] at h2
      have h3 := (k1.made0 1 rfl).conv (r' := row cb cc) (fun h => (Hav.open h).get 1 rfl) (fun b hb => ⟨_, .tail _ (.head _), hb⟩)
      simp only [setsW, rq1] at h2 h3
      have HE := hid (And.intro h2 h3)
      have hsum : IntKind.i64.wrap ((n : Int) + (used : Int)) = ((n + used : Nat) : Int) := by have h := HH.out; rw [IntKind.wrap_i64]; omega
      clear hs k1 h2 h3 hl1 HJ4
      go_wp2_with (fail)
      go_region_with (fail)
      all_goals (go_wp2_with fail)
      all_goals (try simp only [lzP, lzA, lzS])
      all_goals refine ret_req2 (N := N) (vm := .int .i64 (n + used : Nat)) (v0 := .int .i64 1) (v1 := .slice (some ⟨cb, 0, none⟩) 1 cc) (v2 := .bool false) (v3 := .bool false) (v4 := .string ⟨#[]⟩) (v5 := .string ⟨#[]⟩) (v6 := .int .i64 0) (v7 := .bool false) (v8 := .string ⟨#[]⟩) (v9 := .slice none 0 0) (v10 := .string ⟨#[]⟩) rfl rfl (by first | rfl | simp [hsum]) ?_ ⟨cb, cc, rfl, ?_⟩
      all_goals first
        | with_reducible exact HE.out.1
        | with_reducible exact HE.out.2
        | fail
def cnR (c : Nat) (inn out : ByteArray) : Res := cAt c #[.string inn, .string out, .int .i64 0, .bool false] 160
theorem put_ok {w : World} {c : Nat} {inn out s : ByteArray} (h : (cnR c inn out).R w) (hs : out.size + s.size ≤ 70000) :
    Calls prog 143 #[.pointer (some ⟨c, 0, none⟩), .string s] w fun e w' => e = .returned (.tuple #[]) ∧ Turn (cnR c inn out) (cnR c inn (out ++ s)) w w' := by
  have k1 : w.cell? ⟨c, 1, none⟩ = some (.string out) := cA h 1
  have f1 := cZ h 1
  have HT := hid (cl_set h 1 (.string (out ++ s)))
  clear h
  go_enter func143, ntmps143
  go_wp2_with (fail)
  go_end0
  exact ⟨rfl, HT.out⟩
theorem write_ok {w : World} {c : Nat} {inn out : ByteArray} {n : Int} (h : (cnR c inn out).R w) (hn : (out.size : Int) ≤ n) :
    Calls prog 78 #[.pointer (some ⟨c, 0, none⟩), .int .i64 n] w fun e w' => e = .returned (.string out) ∧ Turn (cnR c inn out) (cnR c inn ⟨#[]⟩) w w' := by
  have k1 : w.cell? ⟨c, 1, none⟩ = some (.string out) := cA h 1
  have f1 := cZ h 1
  have HT := hid (cl_set h 1 (.string ⟨#[]⟩))
  have m1 : max (0 : Int) n = n := by omega
  have m2 : min n (out.size : Int) = out.size := by omega
  have x1 : out.extract 0 out.size = out := by simp
  clear h
  go_enter func78, ntmps78
  go_wp2
  go_ret
  exact ⟨rfl, HT.out⟩
theorem feed_ok {w : World} {c : Nat} {inn out s : ByteArray} (h : (cnR c inn out).R w) (hs : inn.size + s.size ≤ 70000) :
    Calls prog 41 #[.pointer (some ⟨c, 0, none⟩), .string s] w fun e w' => e = .returned (.int .i64 s.size) ∧ Turn (cnR c inn out) (cnR c (inn ++ s) out) w w' := by
  have k0 : w.cell? ⟨c, 0, none⟩ = some (.string inn) := cA h 0
  have k2 : w.cell? ⟨c, 2, none⟩ = some (.int .i64 0) := cA h 2
  have k3 : w.cell? ⟨c, 3, none⟩ = some (.bool false) := cA h 3
  have f0 := cZ h 0
  have f2 := cZ h 2
  have m1 : min (0 : Int) s.size = 0 := by omega
  have e1 : IntKind.i64.wrap (70000 - (inn.size : Int)) = 70000 - (inn.size : Int) := by rw [IntKind.wrap_i64]; omega
  have m2 : min (s.size : Int) (70000 - (inn.size : Int)) = s.size := by omega
  have x1 : s.extract 0 s.size = s := by simp
  have w0 : IntKind.i64.wrap 0 = 0 := by decide
  have w1 : IntKind.i64.wrap ((s.size : Int)) = s.size := by rw [IntKind.wrap_i64]; omega
  have h2 := cl_set h 2 (.int .i64 0)
  have HT := hid ((h2.trans (cl_set h2.here 0 (.string (inn ++ s)))).drew)
  have k02 : (w.setCell ⟨c, 2, none⟩ (.int .i64 0)).cell? ⟨c, 0, none⟩ = some (.string inn) := cA h2.here 0
  clear h h2
  go_enter func41, ntmps41
  go_wp2_with (fail)
  go_upto_region 8 with (fail)
  go_region_with (fail)
  all_goals (go_wp2_with fail)
  all_goals go_ret
  all_goals exact ⟨by simp [w1], HT.out⟩
structure RqF (b ln nm : ByteArray) (n : Nat) : Prop where
  lt : W2.lineT b = ln
  ln' : W2.lineN b = n
  n1 : 1 ≤ n
  nb : n ≤ b.size
  b2 : b.size ≤ 2000
  l2 : ln.size ≤ 2000
  tr : ∀ w, Calls prog 248 #[.string ln, .string ⟨#[32]⟩] w fun e w' => e = .returned (.string ln) ∧ w' = w
  cu : ∃ r f, W2.cutV 32 ln = .tuple #[.string nm, .string r, .bool f]
  nm2 : ¬ (nm.size : Int) = 2
set_option maxHeartbeats 1000000 in
theorem cparse_of {b ln nm : ByteArray} {n used : Nat} {row : Nat → Nat → Res} (h : RqF b ln nm n)
    (HP : ∀ w : World, Calls prog 251 #[.string b] w fun e w' => ∃ cb cc, e = .returned (.tuple #[reqV 1 (.slice (some ⟨cb, 0, none⟩) 1 cc) false false, .int .i64 (n + used : Nat)]) ∧ Made (row cb cc) w w') (w : World) :
    Calls prog 202 #[.string b] w fun e w' => ∃ cb cc, e = .returned (.tuple #[reqV 1 (.slice (some ⟨cb, 0, none⟩) 1 cc) false false, .int .i64 (n + used : Nat)]) ∧ Made (row cb cc) w w' := by
  have J0 := (Hav.none w).cells rq0 33
  obtain ⟨N, hN⟩ : ∃ N, w.heap.size = N := ⟨_, rfl⟩
  obtain ⟨W, hW⟩ : ∃ W, w.alloc (.cells rq0 33) = W := ⟨_, rfl⟩
  rw [hN, hW] at J0
  have HJ := hid J0
  have hb2 := h.b2
  have hl2 := h.l2
  have HL := hid (fun w' => W2.line_any b w' (by unfold maxLen; omega))
  unfold W2.LinePost at HL
  rw [h.lt, h.ln'] at HL
  have HT := hid h.tr
  obtain ⟨rr, ff, hcu⟩ := h.cu
  have HC := hid (fun w' => W2.cut_any 32 ln w' (by unfold maxLen; omega))
  rw [hcu] at HC
  have hm : min (b.size : Int) 2048 = b.size := by omega
  have hx : b.extract 0 b.size = b := by simp
  have g1 := h.nm2
  have g1b : ((nm.size : Int) == 2) = false := by simpa using g1
  have HPP := hid HP
  simp only [rq0] at hW
  clear J0 HP hcu h hb2 hl2
  go_enter func202, ntmps202
  go_wp2_with (first
    | (go_at_call 246; refine (HL.out _).mono ?_; rintro e w1 ⟨rfl, m, rfl⟩)
    | (go_at_call 248; refine (HT.out _).mono ?_; rintro e w1 ⟨rfl, rfl⟩)
    | (go_at_call 247; refine (HC.out _).mono ?_; rintro e w1 ⟨rfl, m2, rfl⟩))
  go_at_call 251
  refine (HPP.out _).mono ?_
  rintro e w1 ⟨cb, cc, rfl, hm1⟩
  have J1 := (HJ.out.drewN (m + m2)).made hm1
  obtain ⟨r0, t0, r1, t1, r2, t2, r3, t3, r4, t4, r5, t5, r6, t6, r7, t7, r8, t8, r9, t9, r10, t10⟩ : caf11 w1 N (.int .i64 0) (.slice none 0 0) (.bool false) (.bool false) (.string ⟨#[]⟩) (.string ⟨#[]⟩) (.int .i64 0) (.bool false) (.string ⟨#[]⟩) (.slice none 0 0) (.string ⟨#[]⟩) := caf11' (J1.get 1 rfl)
  have hs := cl_sets N 33 (rq1 (.slice (some ⟨cb, 0, none⟩) 1 cc) false) 0 _ _ (J1.get 1 rfl)
  have k1 := J1.turn 1 rfl hs
  have h2 := k1.get 1 rfl
  rw [rq_set] at h2
  have h3 := k1.made0 0 rfl
  simp only [setsW, rq1] at h2 h3
  have HE := hid (And.intro h2 h3)
  clear hs k1 h2 h3 J1 HJ hm1 hN hW
  simp only [reqV]
  go_wp2_with (fail)
  exact ret_req2 (N := N) (vm := .int .i64 (n + used : Nat)) (v0 := .int .i64 1) (v1 := .slice (some ⟨cb, 0, none⟩) 1 cc) (v2 := .bool false) (v3 := .bool false) (v4 := .string ⟨#[]⟩) (v5 := .string ⟨#[]⟩) (v6 := .int .i64 0) (v7 := .bool false) (v8 := .string ⟨#[]⟩) (v9 := .slice none 0 0) (v10 := .string ⟨#[]⟩) rfl rfl rfl HE.out.1 ⟨cb, cc, rfl, HE.out.2⟩
set_option maxHeartbeats 1000000 in
theorem next_of {b out : ByteArray} {n used c : Nat} {row : Nat → Nat → Res} {w : World} (h : (cnR c b out).R w) (ho : out.size ≤ 60000) (hb : b.size ≤ 2000) (hu : n + used ≤ b.size)
    (HP : ∀ w : World, Calls prog 202 #[.string b] w fun e w' => ∃ cb cc, e = .returned (.tuple #[reqV 1 (.slice (some ⟨cb, 0, none⟩) 1 cc) false false, .int .i64 (n + used : Nat)]) ∧ Made (row cb cc) w w') :
    Calls prog 142 #[.pointer (some ⟨c, 0, none⟩)] w fun e w' => ∃ cb cc, e = .returned (.tuple #[reqV 1 (.slice (some ⟨cb, 0, none⟩) 1 cc) false false, .bool true]) ∧
      Turn (cnR c b out) (many [cnR c (b.extract (n + used) b.size) out, row cb cc]) w w' := by
  have J0 := (Hav.start h).cells rq0 33
  obtain ⟨N, hN⟩ : ∃ N, w.heap.size = N := ⟨_, rfl⟩
  obtain ⟨W, hW⟩ : ∃ W, w.alloc (.cells rq0 33) = W := ⟨_, rfl⟩
  rw [hN, hW] at J0
  have k0 : W.cell? ⟨c, 0, none⟩ = some (.string b) := cA (J0.get 1 rfl) 0
  have k1 : W.cell? ⟨c, 1, none⟩ = some (.string out) := cA (J0.get 1 rfl) 1
  have k3 : W.cell? ⟨c, 3, none⟩ = some (.bool false) := cA (J0.get 1 rfl) 3
  have g0 : ¬ (100000 : Int) ≤ out.size := by omega
  have HJ := hid J0
  have HPP := hid HP
  obtain ⟨q, hq⟩ : ∃ q, n + used = q := ⟨_, rfl⟩
  rw [hq] at HPP hu ⊢
  simp only [rq0] at hW
  clear J0 HP h ho hq
  go_enter func142, ntmps142
  go_wp2_with (fail)
  go_at_call 202
  refine (HPP.out _).mono ?_
  rintro e w1 ⟨cb, cc, rfl, hm1⟩
  have J1 := HJ.out.made hm1
  have J2 := J1.cells #[.int .i64 1, .slice (some ⟨cb, 0, none⟩) 1 cc, .bool false, .bool false, .string ⟨#[]⟩, .string ⟨#[]⟩, .int .i64 0, .bool false, .string ⟨#[]⟩, .slice none 0 0, .string ⟨#[]⟩] 33
  obtain ⟨X, hX⟩ : ∃ X, w1.heap.size = X := ⟨_, rfl⟩
  obtain ⟨V, hV⟩ : ∃ V, w1.alloc (.cells #[.int .i64 1, .slice (some ⟨cb, 0, none⟩) 1 cc, .bool false, .bool false, .string ⟨#[]⟩, .string ⟨#[]⟩, .int .i64 0, .bool false, .string ⟨#[]⟩, .slice none 0 0, .string ⟨#[]⟩] 33) = V := ⟨_, rfl⟩
  rw [hX, hV] at J2
  have HV := hid hV
  have HJ2 := hid J2
  clear J1 J2 hm1 hV HPP HJ hW hN k0 k1 k3
  simp only [reqV]
  go_upto_region 4 with fail
  rw [HV.out]
  clear HV hX
  obtain ⟨x0, x1, x2, x3, x4, x5, x6, x7, x8, x9, x10⟩ : ca11 V X (.int .i64 1) (.slice (some ⟨cb, 0, none⟩) 1 cc) (.bool false) (.bool false) (.string ⟨#[]⟩) (.string ⟨#[]⟩) (.int .i64 0) (.bool false) (.string ⟨#[]⟩) (.slice none 0 0) (.string ⟨#[]⟩) := ca11' (HJ2.out.get 0 rfl)
  obtain ⟨r0, t0, r1, t1, r2, t2, r3, t3, r4, t4, r5, t5, r6, t6, r7, t7, r8, t8, r9, t9, r10, t10⟩ : caf11 V N (.int .i64 0) (.slice none 0 0) (.bool false) (.bool false) (.string ⟨#[]⟩) (.string ⟨#[]⟩) (.int .i64 0) (.bool false) (.string ⟨#[]⟩) (.slice none 0 0) (.string ⟨#[]⟩) := caf11' (HJ2.out.get 2 rfl)
  obtain ⟨k0, f0, k1, f1, k2, f2, k3, f3⟩ : caf4 V c (.string b) (.string out) (.int .i64 0) (.bool false) := caf4' (HJ2.out.get 3 rfl)
  have y1 : ¬ X = N := fun e => HJ2.out.apart (i := 0) (j := 2) rfl rfl (by decide) X rfl e
  have y2 : ¬ N = X := fun e => y1 e.symm
  have y3 : ¬ X = c := fun e => HJ2.out.apart (i := 0) (j := 3) rfl rfl (by decide) X rfl e
  have y4 : ¬ c = X := fun e => y3 e.symm
  have y5 : ¬ c = N := fun e => HJ2.out.apart (i := 3) (j := 2) rfl rfl (by decide) c rfl e
  have y6 : ¬ N = c := fun e => y5 e.symm
  have e1 : IntKind.i64.wrap ((b.size : Int) - (q : Int)) = (b.size : Int) - (q : Int) := by rw [IntKind.wrap_i64]; omega
  have e2 : min (0 : Int) ((b.size : Int) - (q : Int)) = 0 := by omega
  have e3 : IntKind.i64.wrap ((q : Int)) = q := by rw [IntKind.wrap_i64]; omega
  have e4 : IntKind.i64.wrap 0 = 0 := by decide
  have e5 : (q : Int) ≤ b.size := by omega
  go_wp2_with (fail)
  go_quiet (fail)
  obtain ⟨Y, hY⟩ : ∃ Y, V.drewN nq = Y := ⟨_, rfl⟩
  have K1 := HJ2.out.drewN nq
  rw [hY] at K1 ⊢
  have HK := hid K1
  clear K1 hY HJ2 x0 x1 x2 x3 x4 x5 x6 x7 x8 x9 x10 r0 r1 r2 r3 r4 r5 r6 r7 r8 r9 r10 t0 t1 t2 t3 t4 t5 t6 t7 t8 t9 t10 k0 k1 k2 k3 f0 f1 f2 f3
  have x6 : Y.cell? ⟨X, 6, none⟩ = some (.int .i64 0) := cA (HK.out.get 0 rfl) 6
  obtain ⟨k0, f0, k1, f1, k2, f2, k3, f3⟩ : caf4 Y c (.string b) (.string out) (.int .i64 0) (.bool false) := caf4' (HK.out.get 3 rfl)
  go_upto_region 7 with fail
  go_cut [] from 42 to 59 (fun wx => wx = ((Y.setCell ⟨c, 0, none⟩ (.string (b.extract q b.size))).setCell ⟨c, 2, none⟩ (.int .i64 0)).drew)
  case first =>
    go_region_with (fail)
    all_goals (go_wp2_with fail)
    all_goals (go_meet; rfl)
  case rest =>
    obtain rfl := hcut
    obtain ⟨Z, hZ⟩ : ∃ Z, ((Y.setCell ⟨c, 0, none⟩ (.string (b.extract q b.size))).setCell ⟨c, 2, none⟩ (.int .i64 0)).drew = Z := ⟨_, rfl⟩
    have j1 := HK.out.turn 3 rfl (cl_set (HK.out.get 3 rfl) 0 (.string (b.extract q b.size)))
    have j2 := (j1.turn 3 rfl (cl_set (j1.get 3 rfl) 2 (.int .i64 0))).drew
    rw [hZ] at j2
    rw [hZ]
    have HL := hid j2
    clear j1 j2 hZ HK x6 k0 k1 k2 k3 f0 f1 f2 f3
    obtain ⟨x0, x1, x2, x3, x4, x5, x6, x7, x8, x9, x10⟩ : ca11 Z X (.int .i64 1) (.slice (some ⟨cb, 0, none⟩) 1 cc) (.bool false) (.bool false) (.string ⟨#[]⟩) (.string ⟨#[]⟩) (.int .i64 0) (.bool false) (.string ⟨#[]⟩) (.slice none 0 0) (.string ⟨#[]⟩) := ca11' (HL.out.get 0 rfl)
    obtain ⟨r0, t0, r1, t1, r2, t2, r3, t3, r4, t4, r5, t5, r6, t6, r7, t7, r8, t8, r9, t9, r10, t10⟩ : caf11 Z N (.int .i64 0) (.slice none 0 0) (.bool false) (.bool false) (.string ⟨#[]⟩) (.string ⟨#[]⟩) (.int .i64 0) (.bool false) (.string ⟨#[]⟩) (.slice none 0 0) (.string ⟨#[]⟩) := caf11' (HL.out.get 2 rfl)
    have hs := cl_sets N 33 (rq1 (.slice (some ⟨cb, 0, none⟩) 1 cc) false) 0 _ _ (HL.out.get 2 rfl)
    have k1 := HL.out.turn 2 rfl hs
    have h2 := k1.get 2 rfl
    rw [rq_set] at h2
    have h3 := (((k1.sub (.cons _ (.cons_cons _ (.cons _ (List.Sublist.refl _))))).perm (.swap _ _ _))).shut
    simp only [setsW, rq1] at h2 h3
    have HE := hid (And.intro h2 h3)
    clear hs k1 h2 h3 HL
    go_wp2_with (fail)
    exact ret_req2 (N := N) (vm := .bool true) (v0 := .int .i64 1) (v1 := .slice (some ⟨cb, 0, none⟩) 1 cc) (v2 := .bool false) (v3 := .bool false) (v4 := .string ⟨#[]⟩) (v5 := .string ⟨#[]⟩) (v6 := .int .i64 0) (v7 := .bool false) (v8 := .string ⟨#[]⟩) (v9 := .slice none 0 0) (v10 := .string ⟨#[]⟩) rfl rfl rfl HE.out.1 ⟨cb, cc, rfl, HE.out.2⟩
def rqE : Value := .agg #[.int .i64 0, .slice none 0 0, .bool false, .bool false, .string ⟨#[]⟩, .string ⟨#[]⟩, .int .i64 0, .bool false, .string ⟨#[]⟩, .slice none 0 0, .string ⟨#[]⟩]
theorem line_e (w : World) : Calls prog 246 #[.string ⟨#[]⟩] w fun e w' => e = .returned (.tuple #[.string ⟨#[]⟩, .int .i64 0]) ∧ ∃ n, w' = w.drewN n := by
  have h := W2.line_any ⟨#[]⟩ w (by decide)
  unfold W2.LinePost at h
  rw [show W2.lineT ⟨#[]⟩ = ⟨#[]⟩ by decide +kernel, show W2.lineN ⟨#[]⟩ = 0 by decide +kernel] at h
  exact h
theorem parse_e (w : World) : Calls prog 251 #[.string ⟨#[]⟩] w fun e w' => e = .returned (.tuple #[rqE, .int .i64 0]) ∧ Below w.heap.size w w' := by
  have h0 := cells_new w rq0 33
  have hb := bA w (.cells rq0 33)
  obtain ⟨N, hN⟩ : ∃ N, w.heap.size = N := ⟨_, rfl⟩
  obtain ⟨W, hW⟩ : ∃ W, w.alloc (.cells rq0 33) = W := ⟨_, rfl⟩
  rw [hW] at h0 hb
  rw [hN] at h0
  have HL := hid (fun w' => line_e w')
  have H0 := hid (And.intro h0 hb)
  simp only [rq0] at hW
  clear h0 hb
  go_enter func251, ntmps251
  go_upto_region 3 with (go_at_call 246; refine (HL.out _).mono ?_; rintro e w1 ⟨rfl, m, rfl⟩)
  have J1 := (cAt N rq0 33).keep H0.out.1 ((Tch.refl (fun _ => False) W).drewN m) (fun _ _ x => x)
  have hb1 : Below w.heap.size w (W.drewN m) := by have h := H0.out.2; exact ⟨h.1, h.2, h.3, h.4, h.5⟩
  obtain ⟨Y, hY⟩ : ∃ Y, W.drewN m = Y := ⟨_, rfl⟩
  rw [hY] at J1 hb1 ⊢
  clear hY hW H0 HL
  obtain ⟨r0, t0, r1, t1, r2, t2, r3, t3, r4, t4, r5, t5, r6, t6, r7, t7, r8, t8, r9, t9, r10, t10⟩ : caf11 Y N (.int .i64 0) (.slice none 0 0) (.bool false) (.bool false) (.string ⟨#[]⟩) (.string ⟨#[]⟩) (.int .i64 0) (.bool false) (.string ⟨#[]⟩) (.slice none 0 0) (.string ⟨#[]⟩) := caf11' (J1)
  have hs := cl_sets N 33 [.int .i64 0, .slice none 0 0, .bool false, .bool false, .string ⟨#[]⟩, .string ⟨#[]⟩, .int .i64 0, .bool false, .string ⟨#[]⟩, .slice none 0 0, .string ⟨#[]⟩] 0 _ _ J1
  have h2 := hs.here
  rw [show setsV 0 [.int .i64 0, .slice none 0 0, .bool false, .bool false, .string ⟨#[]⟩, .string ⟨#[]⟩, .int .i64 0, .bool false, .string ⟨#[]⟩, .slice none 0 0, .string ⟨#[]⟩] rq0 = #[.int .i64 0, .slice none 0 0, .bool false, .bool false, .string ⟨#[]⟩, .string ⟨#[]⟩, .int .i64 0, .bool false, .string ⟨#[]⟩, .slice none 0 0, .string ⟨#[]⟩] by simp [setsV, rq0]] at h2
  have h3 := hs.tch.below hb1 hb1.size (fun b hx => by have e : b = N := hx; omega)
  simp only [setsW] at h2 h3
  have HE := hid (And.intro h2 h3)
  clear hs h2 h3 J1 hb1
  go_wp2_with (fail)
  exact ret_req2 (N := N) (vm := .int .i64 0) (v0 := .int .i64 0) (v1 := .slice none 0 0) (v2 := .bool false) (v3 := .bool false) (v4 := .string ⟨#[]⟩) (v5 := .string ⟨#[]⟩) (v6 := .int .i64 0) (v7 := .bool false) (v8 := .string ⟨#[]⟩) (v9 := .slice none 0 0) (v10 := .string ⟨#[]⟩) rfl rfl rfl HE.out.1 ⟨rfl, HE.out.2⟩
theorem cparse_e (w : World) : Calls prog 202 #[.string ⟨#[]⟩] w fun e w' => e = .returned (.tuple #[rqE, .int .i64 0]) ∧ Below w.heap.size w w' := by
  have J0 := (Hav.none w).cells rq0 33
  obtain ⟨N, hN⟩ : ∃ N, w.heap.size = N := ⟨_, rfl⟩
  obtain ⟨W, hW⟩ : ∃ W, w.alloc (.cells rq0 33) = W := ⟨_, rfl⟩
  rw [hN, hW] at J0
  have HJ := hid J0
  have HL := hid (fun w' => line_e w')
  have HT := hid (fun w' => Tryz.strings_TrimLeft_one ⟨#[]⟩ 32 (by decide) w')
  rw [show (⟨(Lib.trimLeftB (⟨#[]⟩ : ByteArray).data.toList 32).toArray⟩ : ByteArray) = ⟨#[]⟩ by decide +kernel] at HT
  have HC := hid (fun w' => W2.cut_any 32 ⟨#[]⟩ w' (by decide))
  rw [W2.cutV_no (c := 32) (s := ⟨#[]⟩) (by decide +kernel)] at HC
  have HP := hid (fun w' => parse_e w')
  unfold rqE at HP
  simp only [rq0] at hW
  clear J0
  unfold rqE
  go_enter func202, ntmps202
  go_wp2_with (first
    | (go_at_call 246; refine (HL.out _).mono ?_; rintro e w1 ⟨rfl, m, rfl⟩)
    | (go_at_call 248; refine (HT.out _).mono ?_; rintro e w1 ⟨rfl, rfl⟩)
    | (go_at_call 247; refine (HC.out _).mono ?_; rintro e w1 ⟨rfl, m2, rfl⟩))
  go_at_call 251
  refine (HP.out _).mono ?_
  rintro e w1 ⟨rfl, hb1⟩
  have J1 := (HJ.out.drewN (m + m2)).below hb1
  obtain ⟨r0, t0, r1, t1, r2, t2, r3, t3, r4, t4, r5, t5, r6, t6, r7, t7, r8, t8, r9, t9, r10, t10⟩ : caf11 w1 N (.int .i64 0) (.slice none 0 0) (.bool false) (.bool false) (.string ⟨#[]⟩) (.string ⟨#[]⟩) (.int .i64 0) (.bool false) (.string ⟨#[]⟩) (.slice none 0 0) (.string ⟨#[]⟩) := caf11' (J1.get 0 rfl)
  have hs := cl_sets N 33 [.int .i64 0, .slice none 0 0, .bool false, .bool false, .string ⟨#[]⟩, .string ⟨#[]⟩, .int .i64 0, .bool false, .string ⟨#[]⟩, .slice none 0 0, .string ⟨#[]⟩] 0 _ _ (J1.get 0 rfl)
  have k1 := J1.turn 0 rfl hs
  have h2 := k1.get 0 rfl
  rw [show setsV 0 [.int .i64 0, .slice none 0 0, .bool false, .bool false, .string ⟨#[]⟩, .string ⟨#[]⟩, .int .i64 0, .bool false, .string ⟨#[]⟩, .slice none 0 0, .string ⟨#[]⟩] rq0 = #[.int .i64 0, .slice none 0 0, .bool false, .bool false, .string ⟨#[]⟩, .string ⟨#[]⟩, .int .i64 0, .bool false, .string ⟨#[]⟩, .slice none 0 0, .string ⟨#[]⟩] by simp [setsV, rq0]] at h2
  have h3 := (k1.made0 0 rfl).bel
  simp only [setsW] at h2 h3
  have HE := hid (And.intro h2 h3)
  clear hs k1 h2 h3 J1 HJ hb1 hN hW
  go_wp2_with (fail)
  exact ret_req2 (N := N) (vm := .int .i64 0) (v0 := .int .i64 0) (v1 := .slice none 0 0) (v2 := .bool false) (v3 := .bool false) (v4 := .string ⟨#[]⟩) (v5 := .string ⟨#[]⟩) (v6 := .int .i64 0) (v7 := .bool false) (v8 := .string ⟨#[]⟩) (v9 := .slice none 0 0) (v10 := .string ⟨#[]⟩) rfl rfl rfl HE.out.1 ⟨rfl, HE.out.2⟩
theorem next_e {out : ByteArray} {c : Nat} {w : World} (h : (cnR c ⟨#[]⟩ out).R w) (ho : out.size ≤ 60000) :
    Calls prog 142 #[.pointer (some ⟨c, 0, none⟩)] w fun e w' => e = .returned (.tuple #[rqE, .bool false]) ∧ Below w.heap.size w w' := by
  have J0 := (Hav.none w).cells rq0 33
  have hbw := bA w (.cells rq0 33)
  obtain ⟨N, hN⟩ : ∃ N, w.heap.size = N := ⟨_, rfl⟩
  obtain ⟨W, hW⟩ : ∃ W, w.alloc (.cells rq0 33) = W := ⟨_, rfl⟩
  rw [hN, hW] at J0
  rw [hW] at hbw
  have hc := (cnR c ⟨#[]⟩ out).keep h (Tch.of_below (fun _ => False) hbw) (fun _ _ x => x)
  have k0 : W.cell? ⟨c, 0, none⟩ = some (.string ⟨#[]⟩) := cA hc 0
  have k1 : W.cell? ⟨c, 1, none⟩ = some (.string out) := cA hc 1
  have k3 : W.cell? ⟨c, 3, none⟩ = some (.bool false) := cA hc 3
  have g0 : ¬ (100000 : Int) ≤ out.size := by omega
  have HJ := hid J0
  have HPP := hid (fun w' => cparse_e w')
  unfold rqE at HPP
  simp only [rq0] at hW
  clear J0 h ho hc hbw
  unfold rqE
  go_enter func142, ntmps142
  go_wp2_with (fail)
  go_at_call 202
  refine (HPP.out _).mono ?_
  rintro e w1 ⟨rfl, hb1⟩
  have J1 := HJ.out.below hb1
  have J2 := J1.cells #[.int .i64 0, .slice none 0 0, .bool false, .bool false, .string ⟨#[]⟩, .string ⟨#[]⟩, .int .i64 0, .bool false, .string ⟨#[]⟩, .slice none 0 0, .string ⟨#[]⟩] 33
  obtain ⟨X, hX⟩ : ∃ X, w1.heap.size = X := ⟨_, rfl⟩
  obtain ⟨V, hV⟩ : ∃ V, w1.alloc (.cells #[.int .i64 0, .slice none 0 0, .bool false, .bool false, .string ⟨#[]⟩, .string ⟨#[]⟩, .int .i64 0, .bool false, .string ⟨#[]⟩, .slice none 0 0, .string ⟨#[]⟩] 33) = V := ⟨_, rfl⟩
  rw [hX, hV] at J2
  have HJ2 := hid J2
  have HV := hid hV
  clear J1 J2 hb1 HPP HJ hN k0 k1 k3 hV hW g0
  go_upto_region 4 with fail
  rw [HV.out]
  clear HV
  have x0 : V.cell? ⟨X, 0, none⟩ = some (.int .i64 0) := cA (HJ2.out.get 0 rfl) 0
  clear hX
  obtain ⟨r0, t0, r1, t1, r2, t2, r3, t3, r4, t4, r5, t5, r6, t6, r7, t7, r8, t8, r9, t9, r10, t10⟩ : caf11 V N (.int .i64 0) (.slice none 0 0) (.bool false) (.bool false) (.string ⟨#[]⟩) (.string ⟨#[]⟩) (.int .i64 0) (.bool false) (.string ⟨#[]⟩) (.slice none 0 0) (.string ⟨#[]⟩) := caf11' (HJ2.out.get 1 rfl)
  have hs := cl_sets N 33 [.int .i64 0, .slice none 0 0, .bool false, .bool false, .string ⟨#[]⟩, .string ⟨#[]⟩, .int .i64 0, .bool false, .string ⟨#[]⟩, .slice none 0 0, .string ⟨#[]⟩] 0 _ _ (HJ2.out.get 1 rfl)
  have k1 := HJ2.out.turn 1 rfl hs
  have h2 := k1.get 1 rfl
  rw [show setsV 0 [.int .i64 0, .slice none 0 0, .bool false, .bool false, .string ⟨#[]⟩, .string ⟨#[]⟩, .int .i64 0, .bool false, .string ⟨#[]⟩, .slice none 0 0, .string ⟨#[]⟩] rq0 = #[.int .i64 0, .slice none 0 0, .bool false, .bool false, .string ⟨#[]⟩, .string ⟨#[]⟩, .int .i64 0, .bool false, .string ⟨#[]⟩, .slice none 0 0, .string ⟨#[]⟩] by simp [setsV, rq0]] at h2
  have h3 := (k1.made0 1 rfl).bel
  simp only [setsW] at h2 h3
  have HE := hid (And.intro h2 h3)
  clear hs k1 h2 h3 HJ2
  go_wp2_with (fail)
  exact ret_req2 (N := N) (vm := .bool false) (v0 := .int .i64 0) (v1 := .slice none 0 0) (v2 := .bool false) (v3 := .bool false) (v4 := .string ⟨#[]⟩) (v5 := .string ⟨#[]⟩) (v6 := .int .i64 0) (v7 := .bool false) (v8 := .string ⟨#[]⟩) (v9 := .slice none 0 0) (v10 := .string ⟨#[]⟩) rfl rfl rfl HE.out.1 ⟨rfl, HE.out.2⟩
open SP
structure SM where
  (s : Nat)
  (β : Bk)
  (L zb zc tb rb eb qb qc : Nat)
  (q1 q2 q3 cm : Value)
  (ps : PS)
  (bs : List Int)
def stC (m : SM) (cas : Int) : Array Value := #[.pointer (some ⟨m.β.sb, 0, none⟩), .pointer (some ⟨m.β.g, 0, none⟩), .slice (some ⟨m.zb, 0, none⟩) 4 m.zc, .pointer (some ⟨m.tb, 0, none⟩), .slice (some ⟨m.qb, 0, none⟩) 4 m.qc, .int .u64 cas, .int .i64 0, m.cm]
def stQ (m : SM) : Res := rowAt (.slice (some ⟨m.qb, 0, none⟩) 4 m.qc) 97 1 4 [.pointer (some ⟨m.ps.pb, 0, none⟩), m.q1, m.q2, m.q3]
def stZ (m : SM) : Res := rowAt (.slice (some ⟨m.zb, 0, none⟩) 4 m.zc) 3 1 4 (ints zs)
theorem class_ok {m : SM} {cas : Int} {w : World} (hc : (cAt m.s (stC m cas) 105).R w) (hm : Mem w m.β (pi1 m.bs) m.L) (hw : Wf (pi1 m.bs) m.L) :
    Calls prog 119 #[.pointer (some ⟨m.s, 0, none⟩), .int .i64 0] w fun e w' => e = .returned (.int .i64 0) ∧ ∃ n, w' = w.drewN n := by
  have c0 : w.cell? ⟨m.s, 0, none⟩ = some (.pointer (some ⟨m.β.sb, 0, none⟩)) := cA hc 0
  have c1 : w.cell? ⟨m.s, 1, none⟩ = some (.pointer (some ⟨m.β.g, 0, none⟩)) := cA hc 1
  have HW := hid (where_at hm hw 0 (by decide) (whP_pi1 m.bs) (whA_pi1 m.bs) (whS_pi1 m.bs))
  have HO := hid (fun n => owner_any ((hm.drewN n).ar hw) 0)
  have ho : AP.owner (pi1 m.bs).ow 0 = 0 := by show AP.owner [1] 0 = 0; decide
  rw [ho] at HO
  clear hc hm hw ho
  go_enter func119, ntmps119
  go_wp2_with (first
    | (go_at_call 180; refine HW.out.mono ?_; rintro e w1 ⟨rfl, n, rfl⟩)
    | (go_at_call 187; refine (HO.out _).mono ?_; rintro e w1 ⟨rfl, rfl⟩))
  go_ret
  exact ⟨rfl, _, rfl⟩
theorem policy_ok {m : SM} {cas : Int} {w : World} (hc : (cAt m.s (stC m cas) 105).R w) (hm : Mem w m.β (pi1 m.bs) m.L) (hw : Wf (pi1 m.bs) m.L) (hq : (stQ m).R w) :
    Calls prog 122 #[.pointer (some ⟨m.s, 0, none⟩), .int .i64 0] w fun e w' => e = .returned (.pointer (some ⟨m.ps.pb, 0, none⟩)) ∧ ∃ n, w' = w.drewN n := by
  have c4 : w.cell? ⟨m.s, 4, none⟩ = some (.slice (some ⟨m.qb, 0, none⟩) 4 m.qc) := cA hc 4
  have p0 : w.cell? ⟨m.qb, 0, none⟩ = some (.pointer (some ⟨m.ps.pb, 0, none⟩)) := row_at hq 0 (Nat.lt_of_lt_of_eq (m := 4) (by decide) rfl)
  have HC := hid (fun n => class_ok (w := w.drewN n) ((cAt m.s (stC m cas) 105).keep hc ((Tch.refl (fun _ => False) w).drewN n) (fun _ _ x => x)) (hm.drewN n) hw)
  clear hc hm hw hq
  go_enter func122, ntmps122
  go_wp2_with (fail)
  go_quiet ((go_at_call 119; exact Calls.quiet_of (HC.out _)))
  go_wp2
  go_ret
  exact ⟨rfl, _, rfl⟩
theorem most_ok {m : SM} {cas : Int} {π : Pi} {w : World} (hc : (cAt m.s (stC m cas) 105).R w) (hm : Mem w m.β π m.L) (hS : π.S = 512) :
    Calls prog 52 #[.pointer (some ⟨m.s, 0, none⟩)] w fun e w' => e = .returned (.int .i64 472) ∧ w = w' := by
  have c1 : w.cell? ⟨m.s, 1, none⟩ = some (.pointer (some ⟨m.β.g, 0, none⟩)) := cA hc 1
  have a0 : w.cell? ⟨m.β.g, 0, none⟩ = some (.int .i64 (512 : Nat)) := by rw [← hS]; exact cell_of (hm.lie .ar) 0
  clear hc hm
  go_enter func52, ntmps52
  go_wp2
  go_ret
  exact ⟨rfl, rfl⟩
theorem ret_itm {fn : Func} {k : Nat} (hres : fn.results = #[.cell k 50]) {R : Ending → World → Prop} {tmps : Array Value} {W : World} {N : Nat} {v0 v1 v2 v3 v4 v5 v6 v7 : Value}
    (h2 : tmps.getD k undef = .pointer (some ⟨N, 0, none⟩)) (hb : (cAt N #[v0, v1, v2, v3, v4, v5, v6, v7] 50).R W)
    (hR : R (.returned (.agg #[v0, v1, v2, v3, v4, v5, v6, v7])) W) :
    bodyPost prog fn R .ret { tmps := tmps, defers := [] } W := by
  refine bodyPost_ret (v := .agg #[v0, v1, v2, v3, v4, v5, v6, v7]) ?_ rfl hR
  have h2' : tmps[k]?.getD undef = .pointer (some ⟨N, 0, none⟩) := by simpa using h2
  obtain ⟨x0, x1, x2, x3, x4, x5, x6, x7⟩ : ca8 W N v0 v1 v2 v3 v4 v5 v6 v7 := ca8' (hb)
  simp [results, hres, go_sem, h2', x0, x1, x2, x3, x4, x5, x6, x7]
set_option maxHeartbeats 1000000 in
theorem at_ok {m : SM} {cas : Int} {key : ByteArray} {x : PM.It} {w : World} (hc : (cAt m.s (stC m cas) 105).R w) (hm : Mem w m.β (pi1 m.bs) m.L) (hw : Wf (pi1 m.bs) m.L) (hd : ¬ foot m.β (pi1 m.bs) m.s)
    (hh : Holds key x m.bs) (hx : ItOk x) (hk : key.size = 1) (hkr : I8.keyB key = true) :
    Calls prog 116 #[.pointer (some ⟨m.s, 0, none⟩), .int .i64 0] w fun e w' => e = .returned (itmV key x.fl (vlB x.v) x.cas x.last) ∧ ∃ β', β'.sb = m.β.sb ∧ β'.g = m.β.g ∧ Turn (slabR m.β (pi1 m.bs) m.L) (slabR β' (pi1 m.bs) m.L) w w' := by
  have J0 := (Hav.start (r := slabR m.β (pi1 m.bs) m.L) hm).cells #[.string ⟨#[]⟩, .int .u32 0, .string ⟨#[]⟩, .int .i64 0, .int .u64 0, .int .i64 0, .bool false, .bool false] 50
  have hb0 := bA w (.cells #[.string ⟨#[]⟩, .int .u32 0, .string ⟨#[]⟩, .int .i64 0, .int .u64 0, .int .i64 0, .bool false, .bool false] 50)
  obtain ⟨N, hN⟩ : ∃ N, w.heap.size = N := ⟨_, rfl⟩
  have hA := cells_new w #[.string ⟨#[]⟩, .int .u32 0, .string ⟨#[]⟩, .int .i64 0, .int .u64 0, .int .i64 0, .bool false, .bool false] 50
  obtain ⟨W, hW⟩ : ∃ W, w.alloc (.cells #[.string ⟨#[]⟩, .int .u32 0, .string ⟨#[]⟩, .int .i64 0, .int .u64 0, .int .i64 0, .bool false, .bool false] 50) = W := ⟨_, rfl⟩
  rw [hW] at hb0 hA J0
  rw [hN] at hA J0
  have hc1 := (cAt m.s (stC m cas) 105).keep hc (Tch.of_below (fun _ => False) hb0) (fun _ _ x => x)
  have hm1 := hm.below hb0
  have c0 : W.cell? ⟨m.s, 0, none⟩ = some (.pointer (some ⟨m.β.sb, 0, none⟩)) := cA hc1 0
  have HW := hid (where_at hm1 hw 0 (by decide) (whP_pi1 m.bs) (whA_pi1 m.bs) (whS_pi1 m.bs))
  have HG := hid (fun n => get_any (hm1.drewN n) hw 0 64 (by decide) (by decide) (by decide) (by show m.bs.length ≤ _; rw [hh.len]; decide))
  unfold GtPost at HG
  obtain ⟨e1, e2, e3⟩ := gt_pi1 m.bs hh.len
  rw [e1, e2, e3] at HG
  obtain ⟨t, ht⟩ := hh.pre
  have hlen := encI_len hk hx
  have htk : m.bs.take 64 = encI key x ++ t.take (64 - (encI key x).length) := by
    rw [ht, List.take_append, List.take_of_length_le (by omega)]
  have hl64 : (m.bs.take 64).length = 64 := by rw [List.length_take, hh.len]; decide
  have hby : I8.P.Bytes (m.bs.take 64) := fun y hy => hh.by' y (List.mem_of_mem_take hy)
  have hde := I8.dec_enc key (vlB x.v) x.fl 0 x.cas x.last false false (t.take (64 - (encI key x).length)) (by
    unfold I8.rightB
    have := hx.v
    simp [hkr]; omega) (by omega) (by have := hx.v; omega) (by omega) (by have := hx.fl; omega) (by decide) (by decide) (by omega) (by have := hx.cas; omega) (by omega) (by have := hx.last; omega)
  have hR : I8.decR (m.bs.take 64) = itI key x ∧ I8.decE (m.bs.take 64) = 0 := by
    rw [htk]
    have e := hde
    unfold encI at e
    unfold I8.decR I8.decE encI
    rw [e.1, if_pos rfl, if_pos rfl, e.2]
    exact ⟨rfl, rfl⟩
  have HD := hid (fun (W' : World) (g cap : Nat) (h : I8.RB W' (.slice (some ⟨g, 0, none⟩) 64 cap) (m.bs.take 64)) (h1 : 64 ≤ cap) (h2 : cap ≤ maxLen) => I8.decode_all (m.bs.take 64) (some ⟨g, 0, none⟩) 64 cap W' h h1 h2 hby)
  unfold I8.DecPost at HD
  rw [hR.1, hR.2] at HD
  rw [hl64] at HG
  unfold itI I8.itV at HD
  dsimp only at HD
  have HJ := hid J0
  clear hb0 hA hc hm hc1 hm1 hw hh hx hk ht htk hl64 hby hde hR e1 e2 e3 hlen J0 hkr hd
  unfold itmV
  go_enter func116, ntmps116
  go_wp2_with (first
    | (go_at_call 180; refine HW.out.mono ?_; rintro e w1 ⟨rfl, n, rfl⟩))
  go_at_call 181
  refine (HG.out _).mono ?_
  rintro e w1 ⟨v, B, β', rfl, hB, hown, hm2, hs2, hf⟩
  obtain ⟨g, cap, rfl, h1, h2⟩ : ∃ g cap, v = .slice (some ⟨g, 0, none⟩) 64 cap ∧ 64 ≤ cap ∧ cap ≤ maxLen := by
    rcases hown.2 with ⟨_, h0⟩ | ⟨g, cap, cur, rfl, _, _, h4, h5, _⟩
    · cases h0
    · exact ⟨g, cap, rfl, h4, h5⟩
  have hrb : I8.RB w1 (.slice (some ⟨g, 0, none⟩) 64 cap) (m.bs.take 64) := rb_own hown
  have HDD := hid (HD.out w1 g cap hrb h1 h2)
  have J1 := (HJ.out.drewN n).turn 1 rfl (slab_turn hm2 hs2)
  have HJ1 := hid J1
  have hsb := hs2.sb
  have hsg := hs2.g
  have HSB := hid (And.intro hsb hsg)
  clear hrb hown hm2 hs2 hf hB J1 HJ HG HW HD hsb hsg h1 h2 c0 hW hN
  go_wp2_with (fail)
  go_at_call 182
  refine HDD.out.mono ?_
  rintro e w2 ⟨rfl, hb2⟩
  have J2 := (HJ1.out.below hb2).cells #[.string key, .int .u32 x.fl, .string (vlB x.v), .int .i64 0, .int .u64 x.cas, .int .i64 x.last, .bool false, .bool false] 50
  obtain ⟨Q, hQ⟩ : ∃ Q, w2.heap.size = Q := ⟨_, rfl⟩
  obtain ⟨V, hV⟩ : ∃ V, w2.alloc (.cells #[.string key, .int .u32 x.fl, .string (vlB x.v), .int .i64 0, .int .u64 x.cas, .int .i64 x.last, .bool false, .bool false] 50) = V := ⟨_, rfl⟩
  rw [hQ, hV] at J2
  have HV := hid hV
  have HJ2 := hid J2
  clear J2 hV hb2 HJ1 HDD
  go_upto_region 4 with fail
  rw [HV.out]
  clear HV hQ
  obtain ⟨x0, x1, x2, x3, x4, x5, x6, x7⟩ : ca8 V Q (.string key) (.int .u32 x.fl) (.string (vlB x.v)) (.int .i64 0) (.int .u64 x.cas) (.int .i64 x.last) (.bool false) (.bool false) := ca8' (HJ2.out.get 0 rfl)
  obtain ⟨r0, u0, r1, u1, r2, u2, r3, u3, r4, u4, r5, u5, r6, u6, r7, u7⟩ : caf8 V N (.string ⟨#[]⟩) (.int .u32 0) (.string ⟨#[]⟩) (.int .i64 0) (.int .u64 0) (.int .i64 0) (.bool false) (.bool false) := caf8' (HJ2.out.get 1 rfl)
  have y1 : ¬ Q = N := fun e => HJ2.out.apart (i := 0) (j := 1) rfl rfl (by decide) Q rfl e
  have y2 : ¬ N = Q := fun e => y1 e.symm
  have hs := cl_sets N 50 [.string key, .int .u32 x.fl, .string (vlB x.v), .int .i64 0, .int .u64 x.cas, .int .i64 x.last, .bool false, .bool false] 0 _ _ (HJ2.out.get 1 rfl)
  have k1 := HJ2.out.turn 1 rfl hs
  have h2 := k1.get 1 rfl
  rw [show setsV 0 [.string key, .int .u32 x.fl, .string (vlB x.v), .int .i64 0, .int .u64 x.cas, .int .i64 x.last, .bool false, .bool false] #[.string ⟨#[]⟩, .int .u32 0, .string ⟨#[]⟩, .int .i64 0, .int .u64 0, .int .i64 0, .bool false, .bool false] = #[.string key, .int .u32 x.fl, .string (vlB x.v), .int .i64 0, .int .u64 x.cas, .int .i64 x.last, .bool false, .bool false] by simp [setsV]] at h2
  have h3 := (k1.sub (.cons _ (.cons _ (List.Sublist.refl _)))).one
  simp only [setsW] at h2 h3
  have HE := hid (And.intro h2 h3)
  clear hs k1 h2 h3 HJ2
  go_wp2_with (fail)
  exact ret_itm (N := N) rfl rfl HE.out.1 ⟨rfl, β', HSB.out.1, HSB.out.2, HE.out.2⟩
theorem gone_no (k v : ByteArray) (fl ca la : Int) (w : World) : Calls prog 117 #[itmV k fl v ca la, .int .i64 1] w fun e w' => e = .returned (.bool false) ∧ Below w.heap.size w w' := by
  unfold itmV
  go_enter func117, ntmps117
  go_wp2
  go_ret
  exact ⟨rfl, by go_grown⟩
theorem sclass_idx {m : SM} {n : Nat} {xb : Nat} {w : World} (hz : (stZ m).R w) (hn : n ≤ 64) (hx : w.cell? ⟨xb, 0, none⟩ = some (.int .i64 n)) :
    Calls prog 188 #[.slice (some ⟨m.zb, 0, none⟩) 4 m.zc, .func (.func 189) #[] #[.pointer (some ⟨xb, 0, none⟩)]] w fun e w' => e = .returned (.int .i64 0) ∧ w = w' := by
  have z0 : w.cell? ⟨m.zb, 0, none⟩ = some (.int .i64 64) := row_at hz 0 (Nat.lt_of_lt_of_eq (m := 4) (by decide) rfl)
  have hn' : (n : Int) ≤ 64 := by omega
  clear hz hn
  go_enter func188, ntmps188
  go_wp2
  go_loop [8] (fun i => i = .int .i64 0) (fun _ => 0)
  case atStart => rfl
  case round =>
    subst hrel
    go_wp2
    go_ret
    exact ⟨rfl, rfl⟩
theorem sclass_ok {m : SM} {n : Nat} {w : World} (hz : (stZ m).R w) (hn : n ≤ 64) :
    Calls prog 120 #[.slice (some ⟨m.zb, 0, none⟩) 4 m.zc, .int .i64 n] w fun e w' => e = .returned (.int .i64 0) ∧ Below w.heap.size w w' := by
  have hmf : ∀ (fn : Fn) (first cap : Array Value) (w : World), (Instr.makeFunc fn first cap).run prog w = .ok (.func fn first cap) w := fun _ _ _ _ => rfl
  have hb := bA w (.cells #[.int .i64 n] 3)
  have HI := hid (sclass_idx (xb := w.heap.size) ((stZ m).keep hz (Tch.of_below (fun _ => False) hb) (fun _ _ x => x)) hn (cA (cells_new w #[.int .i64 n] 3) 0))
  clear hz
  go_enter func120, ntmps120
  go_wp2_with (go_at_call 188; refine HI.out.mono ?_; rintro e w1 ⟨rfl, rfl⟩)
  go_ret
  exact ⟨rfl, hb⟩
end Go.Proofs.YtboehbfagnocpaaGreatDoor
namespace Go.Proofs.YtboehbfagnocpaaGreatDoor.PM
section
variable {S C A : Type} {step : S → C → S × A} {a0 : A} {gc : C → Prop} {ga : C → A → Prop} {gs : S → Nat → Prop} {nw nc B : Nat} {s : St S C A}
structure Within (gc : C → Prop) (ga : C → A → Prop) (gs : S → Nat → Prop) (nw nc B : Nat) (s : St S C A) : Prop where
  who : ∀ w k, s.wk w = some k → w < nw ∧ k.of < nc ∧ k.ph ≤ 2 ∧ gc k.cmd ∧ (k.ph = 2 → ga k.cmd k.ans)
  qs : ∀ c, nc ≤ c → s.q c = []
  qc : ∀ c x, x ∈ s.q c → gc x
  qn : ∀ c, 4 * (s.q c).length ≤ B
  outs : ∀ c, (s.out c).length + left nw nc s ≤ B
  outa : ∀ c x, x ∈ s.out c → ga x.1 x.2
  ev : s.ev.length + left nw nc s ≤ B
  seq : ∀ c, s.seq c + left nw nc s ≤ B
  data : gs s.data (left nw nc s)
theorem left_yes (h : Within gc ga gs nw nc B s) {w c : Nat} (hw : w < nw) (hy : (work step a0 s w c).1 = true) : left nw nc (work step a0 s w c).2 + 1 = left nw nc s := by
  unfold work at hy ⊢
  cases hk : s.wk w with
  | none =>
    rw [hk] at hy
    dsimp only at hy ⊢
    cases hb : s.busy c with
    | true => rw [hb] at hy; cases hy
    | false =>
      cases hq : s.q c with
      | nil => rw [hb, hq] at hy; cases hy
      | cons x rest =>
        have hcn : c < nc := Nat.lt_of_not_le (fun hh => by rw [h.qs c hh] at hq; cases hq)
        have h1 := sumTo_upd (fun (l : List C) => 4 * l.length) s.q c rest hcn
        have h2 := sumTo_upd rem s.wk w (some ⟨c, s.seq c + 1, x, 0, a0⟩) hw
        rw [hq] at h1
        rw [hk] at h2
        simp only [List.length_cons, rem_none, rem_some] at h1 h2
        show sumTo (fun d => 4 * (upd s.q c rest d).length) nc + sumTo (fun v => rem (upd s.wk w _ v)) nw + 1 = _
        unfold left
        omega
  | some k =>
    rw [hk] at hy
    have hp := (h.who w k hk).2.2.1
    dsimp only at hy ⊢
    have h2 := fun k' => sumTo_upd rem s.wk w k' hw
    simp only [hk, rem_some] at h2
    by_cases h0 : k.ph = 0
    · rw [if_pos h0] at hy ⊢
      cases hh : s.holder with
      | some v => rw [hh] at hy; cases hy
      | none =>
        have := h2 (some { k with ph := 1 })
        rw [rem_some] at this
        show sumTo (fun c => 4 * (s.q c).length) nc + sumTo (fun v => rem (upd s.wk w _ v)) nw + 1 = _
        unfold left
        dsimp only at this ⊢
        omega
    · rw [if_neg h0]
      by_cases h1 : k.ph = 1
      · rw [if_pos h1]
        have := h2 (some { k with ph := 2, ans := (step s.data k.cmd).2 })
        rw [rem_some] at this
        show sumTo (fun c => 4 * (s.q c).length) nc + sumTo (fun v => rem (upd s.wk w _ v)) nw + 1 = _
        unfold left
        dsimp only at this ⊢
        omega
      · rw [if_neg h1]
        have := h2 none
        rw [rem_none] at this
        show sumTo (fun c => 4 * (s.q c).length) nc + sumTo (fun v => rem (upd s.wk w _ v)) nw + 1 = _
        unfold left
        omega
theorem upd_all {α : Type} {P : Nat → α → Prop} {f : Nat → α} {i : Nat} {x : α} (h : ∀ j, P j (f j)) (hx : P i x) : ∀ j, P j (upd f i x j) := fun j => by
  by_cases e : j = i
  · subst e; rw [upd_same]; exact hx
  · rw [upd_ne _ _ e]; exact h j
theorem Within.work (hgs : ∀ s n c, gs s (n + 1) → gc c → gs (step s c).1 n ∧ ga c (step s c).2) (hmono : ∀ s n, gs s (n + 1) → gs s n) (h : Within gc ga gs nw nc B s) {w c : Nat} (hw : w < nw) : Within gc ga gs nw nc B (work step a0 s w c).2 := by
  cases hy : (PM.work step a0 s w c).1 with
  | false => rw [work_no s w c hy]; exact h
  | true =>
    have hl := left_yes (step := step) (a0 := a0) h hw hy
    have ho := h.outs
    have he := h.ev
    have hs := h.seq
    have hd := h.data
    rw [← hl] at ho he hs hd
    clear hl
    revert hy ho he hs hd
    unfold PM.work
    cases hk : s.wk w with
    | none =>
      dsimp only
      cases hb : s.busy c with
      | true => intro hy; cases hy
      | false =>
        cases hq : s.q c with
        | nil => intro hy; cases hy
        | cons x rest =>
          intro _ ho he hs hd
          dsimp only at ho he hs hd ⊢
          have hcn : c < nc := Nat.lt_of_not_le (fun hh => by rw [h.qs c hh] at hq; cases hq)
          have hx : gc x := h.qc c x (by rw [hq]; exact .head _)
          refine ⟨upd_all (P := fun w' (o : Option (Wk C A)) => ∀ k, o = some k → w' < nw ∧ k.of < nc ∧ k.ph ≤ 2 ∧ gc k.cmd ∧ (k.ph = 2 → ga k.cmd k.ans)) h.who (fun k e => by cases e; exact ⟨hw, hcn, Nat.zero_le _, hx, fun e => by cases e⟩),
            upd_all (P := fun d (l : List C) => nc ≤ d → l = []) h.qs (fun e => by omega),
            upd_all (P := fun d (l : List C) => ∀ y, y ∈ l → gc y) h.qc (fun y hy => h.qc c y (by rw [hq]; exact .tail _ hy)),
            upd_all (P := fun d (l : List C) => 4 * l.length ≤ B) h.qn (by have := h.qn c; rw [hq] at this; simp at this; omega), fun d => by have := ho d; show (s.out d).length + _ ≤ B; omega, h.outa, by show s.ev.length + _ ≤ B; omega,
            upd_all (P := fun d n => n + _ ≤ B) (fun d => by have := hs d; omega) (by have := hs c; omega), hmono _ _ hd⟩
    | some k =>
      dsimp only
      obtain ⟨g1, g2, g3, g4, g5⟩ := h.who w k hk
      by_cases h0 : k.ph = 0
      · rw [if_pos h0]
        cases hh : s.holder with
        | some v => intro hy; cases hy
        | none =>
          intro _ ho he hs hd
          simp only [Option.isSome, Bool.false_eq_true, if_false] at ho he hs hd ⊢
          refine ⟨upd_all (P := fun w' (o : Option (Wk C A)) => ∀ k, o = some k → w' < nw ∧ k.of < nc ∧ k.ph ≤ 2 ∧ gc k.cmd ∧ (k.ph = 2 → ga k.cmd k.ans)) h.who (fun k' e => by cases e; exact ⟨g1, g2, by dsimp only; omega, g4, fun e => by cases e⟩),
            h.qs, h.qc, h.qn, fun d => by have := ho d; show (s.out d).length + _ ≤ B; omega, h.outa, by show s.ev.length + _ ≤ B; omega, fun d => by have := hs d; show s.seq d + _ ≤ B; omega, hmono _ _ hd⟩
      · rw [if_neg h0]
        by_cases h1 : k.ph = 1
        · rw [if_pos h1]
          intro _ ho he hs hd
          dsimp only at ho he hs hd ⊢
          have hg := hgs _ _ _ hd g4
          refine ⟨upd_all (P := fun w' (o : Option (Wk C A)) => ∀ k, o = some k → w' < nw ∧ k.of < nc ∧ k.ph ≤ 2 ∧ gc k.cmd ∧ (k.ph = 2 → ga k.cmd k.ans)) h.who (fun k' e => by cases e; exact ⟨g1, g2, Nat.le_refl _, g4, fun _ => hg.2⟩),
            h.qs, h.qc, h.qn, fun d => by have := ho d; show (s.out d).length + _ ≤ B; omega, h.outa, ?_, fun d => by have := hs d; show s.seq d + _ ≤ B; omega, hg.1⟩
          show (s.ev ++ [_]).length + _ ≤ B
          rw [List.length_append, List.length_singleton]
          omega
        · rw [if_neg h1]
          intro _ ho he hs hd
          dsimp only at ho he hs hd ⊢
          have h2 : k.ph = 2 := by omega
          refine ⟨upd_all (P := fun w' (o : Option (Wk C A)) => ∀ k, o = some k → w' < nw ∧ k.of < nc ∧ k.ph ≤ 2 ∧ gc k.cmd ∧ (k.ph = 2 → ga k.cmd k.ans)) h.who (fun k' e => by cases e),
            h.qs, h.qc, h.qn, upd_all (P := fun d (l : List (C × A)) => l.length + _ ≤ B) (fun d => by have := ho d; omega) (by have := ho k.of; rw [List.length_append, List.length_singleton]; omega),
            upd_all (P := fun d (l : List (C × A)) => ∀ y, y ∈ l → ga y.1 y.2) h.outa (fun y hy => ?_), by show s.ev.length + _ ≤ B; omega, fun d => by have := hs d; show s.seq d + _ ≤ B; omega, hmono _ _ hd⟩
          rcases List.mem_append.1 hy with h3 | h3
          · exact h.outa _ y h3
          · rw [List.mem_singleton.1 h3]; exact g5 h2
end
theorem mem_donec {C A : Type} {l : List (Ev C A)} {e : Ev C A} (h : e ∈ l) : (e.cmd, e.ans) ∈ donec l e.of := by
  unfold donec
  exact List.mem_map.2 ⟨e, List.mem_filter.2 ⟨h, by simp⟩, rfl⟩
theorem donec_cons {C A : Type} (e : Ev C A) (l : List (Ev C A)) (c : Nat) : donec (e :: l) c = if c = e.of then (e.cmd, e.ans) :: donec l c else donec l c := by
  unfold donec
  by_cases h : c = e.of
  · subst h; simp
  · have : ¬ e.of = c := fun x => h x.symm
    simp [this, h]
theorem len_donec {C A : Type} {n : Nat} : ∀ {l : List (Ev C A)}, (∀ e ∈ l, e.of < n) → l.length = sumTo (fun c => (donec l c).length) n
  | [], _ => by
    have : ∀ n, sumTo (fun c => (donec ([] : List (Ev C A)) c).length) n = 0 := fun n => by
      induction n with
      | zero => rfl
      | succ n ih => unfold sumTo; rw [ih]; rfl
    rw [this]; rfl
  | e :: l, h => by
    have h1 := len_donec (l := l) (fun x hx => h x (.tail _ hx))
    have h2 := sumTo_upd (fun (k : Nat) => k) (fun c => (donec l c).length) e.of ((donec l e.of).length + 1) (h e (.head _))
    have h3 : sumTo (fun c => (donec (e :: l) c).length) n = sumTo (fun j => upd (fun c => (donec l c).length) e.of ((donec l e.of).length + 1) j) n :=
      sumTo_same (fun j _ => by
        rw [donec_cons]
        by_cases e1 : j = e.of
        · subst e1; rw [if_pos rfl, upd_same]; rfl
        · rw [if_neg e1, upd_ne _ _ e1])
    rw [h3, List.length_cons]
    omega
theorem sumTo_const (k : Nat) : ∀ n, sumTo (fun _ => k) n = n * k
  | 0 => by simp [sumTo]
  | n + 1 => by unfold sumTo; rw [sumTo_const k n, Nat.succ_mul]
theorem incr_final {i s : St Sd Cd An} {fl t la d m n : Nat} {l : List (Ev Cd An)} (hd : i.data = ⟨some ⟨fl, .num 0, t, la⟩, t⟩) (hq : ∀ c, i.q c = if c < n then List.replicate m (.incr d) else [])
    (hr : Runs stp i.data l s.data) (ho : ∀ c, (donec l c).map (·.1) = i.q c ∧ s.out c = i.out c ++ donec l c) :
    s.data = ⟨some ⟨fl, .num (n * m * d % two64), t + n * m, la⟩, t + n * m⟩ := by
  have hof : ∀ e ∈ l, e.of < n ∧ e.cmd = .incr d := fun e he => by
    have h1 := mem_donec he
    have h2 : e.cmd ∈ i.q e.of := by rw [← (ho e.of).1]; exact List.mem_map.2 ⟨_, h1, rfl⟩
    rw [hq] at h2
    by_cases hlt : e.of < n
    · rw [if_pos hlt] at h2; exact ⟨hlt, (List.mem_replicate.1 h2).2⟩
    · rw [if_neg hlt] at h2; cases h2
  have hl : l.length = n * m := by
    rw [len_donec (fun e he => (hof e he).1), sumTo_same (g := fun _ => m) (fun c hc => by
      have := congrArg List.length (ho c).1
      rw [List.length_map, hq, if_pos hc, List.length_replicate] at this
      exact this), sumTo_const]
  have h1 := incr_runs hr hd (by decide) (fun e he => (hof e he).2)
  rw [h1, hl, Nat.zero_add]
def vOk : Vl → Prop
  | .txt b => b.size ≤ 20
  | .num n => n < two64
def cOk : Cd → Prop
  | .get => True
  | .set fl v => fl < 100 ∧ vOk v
  | .cas t v => t ≤ 1000000 ∧ vOk v
  | .incr d => d < two64
structure ItG (tok : Nat) (x : It) : Prop where
  v : vOk x.v
  fl : x.fl < 100
  cas : x.cas ≤ tok
  last : x.last ≤ 1
def sOk (need : Bool) (B : Nat) (s : Sd) (n : Nat) : Prop := s.tok + n ≤ B ∧ (need = true → s.it.isSome = true) ∧ ∀ x, s.it = some x → ItG s.tok x
def stOk : Cd → An → Prop
  | .get, a => (a.st = 1 ∧ a.it.isSome = true) ∨ (a.st = 5 ∧ a.it = none)
  | .set _ _, a => a.st = 2
  | .cas _ _, a => a.st = 2 ∨ a.st = 4 ∨ a.st = 5
  | .incr _, a => a.st = 6 ∨ a.st = 5 ∨ a.st = 7
def aOk (c : Cd) (a : An) : Prop := stOk c a ∧ a.num < two64 ∧ ∀ x, a.it = some x → vOk x.v ∧ x.fl < 100
theorem sOk_mono {need : Bool} {B : Nat} (s : Sd) (n : Nat) (h : sOk need B s (n + 1)) : sOk need B s n := ⟨by have := h.1; omega, h.2⟩
theorem stp_ok {need : Bool} {B : Nat} (s : Sd) (n : Nat) (c : Cd) (h : sOk need B s (n + 1)) (hc : cOk c) : sOk need B (stp s c).1 n ∧ aOk c (stp s c).2 := by
  obtain ⟨it, tok⟩ := s
  obtain ⟨h1, h2, h3⟩ := h
  dsimp only at h1 h2 h3
  have two0 : 0 < two64 := by decide
  cases it with
  | none =>
    cases c with
    | get => exact ⟨⟨by show tok + n ≤ B; omega, h2, h3⟩, .inr ⟨rfl, rfl⟩, two0, fun x e => by cases e⟩
    | set fl v => exact ⟨⟨by show tok + 1 + n ≤ B; omega, fun _ => rfl, fun x e => by cases e; exact ⟨hc.2, hc.1, Nat.le_refl _, Nat.zero_le _⟩⟩, rfl, two0, fun x e => by cases e; exact ⟨hc.2, hc.1⟩⟩
    | cas t v => exact ⟨⟨by show tok + n ≤ B; omega, h2, h3⟩, .inr (.inr rfl), two0, fun x e => by cases e⟩
    | incr d => exact ⟨⟨by show tok + n ≤ B; omega, h2, h3⟩, .inr (.inl rfl), two0, fun x e => by cases e⟩
  | some x =>
    have hx := h3 x rfl
    cases c with
    | get => exact ⟨⟨by show tok + n ≤ B; omega, fun _ => rfl, fun y e => by cases e; exact ⟨hx.v, hx.fl, hx.cas, Nat.le_refl _⟩⟩, .inl ⟨rfl, rfl⟩, two0, fun y e => by cases e; exact ⟨hx.v, hx.fl⟩⟩
    | set fl v => exact ⟨⟨by show tok + 1 + n ≤ B; omega, fun _ => rfl, fun x e => by cases e; exact ⟨hc.2, hc.1, Nat.le_refl _, Nat.zero_le _⟩⟩, rfl, two0, fun x e => by cases e; exact ⟨hc.2, hc.1⟩⟩
    | cas t v =>
      by_cases e : x.cas = t
      · simp only [stp, if_pos e]
        exact ⟨⟨by show tok + 1 + n ≤ B; omega, fun _ => rfl, fun x e => by cases e; exact ⟨hc.2, by dsimp only; decide, Nat.le_refl _, Nat.zero_le _⟩⟩, .inl rfl, two0, fun x e => by cases e; exact ⟨hc.2, by dsimp only; decide⟩⟩
      · simp only [stp, if_neg e]
        exact ⟨⟨by show tok + n ≤ B; omega, fun _ => rfl, h3⟩, .inr (.inl rfl), two0, fun x e => by cases e⟩
    | incr d =>
      obtain ⟨fl, v, ca, la⟩ := x
      cases v with
      | txt b => exact ⟨⟨by show tok + n ≤ B; omega, fun _ => rfl, h3⟩, .inr (.inr rfl), two0, fun x e => by cases e⟩
      | num u =>
        have hm : (u + d) % two64 < two64 := Nat.mod_lt _ two0
        exact ⟨⟨by show tok + 1 + n ≤ B; omega, fun _ => rfl, fun x e => by cases e; exact ⟨hm, hx.fl, Nat.le_refl _, hx.last⟩⟩, .inl rfl, hm, fun x e => by cases e; exact ⟨hm, hx.fl⟩⟩
abbrev Wi (need : Bool) (nw nc B : Nat) (s : St Sd Cd An) : Prop := Within cOk aOk (sOk need B) nw nc B s
theorem Wi.work {need : Bool} {nw nc B : Nat} {s : St Sd Cd An} (h : Wi need nw nc B s) {w c : Nat} (hw : w < nw) : Wi need nw nc B (work stp an0 s w c).2 := Within.work (fun s n c => stp_ok s n c) sOk_mono h hw
def numV : Vl → Prop
  | .num _ => True
  | .txt _ => False
def numC : Cd → Prop
  | .set _ v => numV v
  | .cas _ v => numV v
  | _ => True
def numS (s : Sd) : Prop := ∃ y, s.it = some y ∧ numV y.v
theorem stp_num {s : Sd} {c : Cd} (h : numS s) (hc : numC c) : numS (stp s c).1 ∧ ∀ d, c = .incr d → (stp s c).2.st = 6 := by
  obtain ⟨it, tok⟩ := s
  obtain ⟨y, hy, hv⟩ := h
  dsimp only at hy
  subst hy
  cases c with
  | get => exact ⟨⟨_, rfl, hv⟩, fun d e => by cases e⟩
  | set fl v => exact ⟨⟨_, rfl, hc⟩, fun d e => by cases e⟩
  | cas t v =>
    refine ⟨?_, fun d e => by cases e⟩
    by_cases e : y.cas = t
    · simp only [stp, if_pos e]; exact ⟨_, rfl, hc⟩
    · simp only [stp, if_neg e]; exact ⟨_, rfl, hv⟩
  | incr d =>
    obtain ⟨fl, v, ca, la⟩ := y
    cases v with
    | txt b => exact hv.elim
    | num u => exact ⟨⟨_, rfl, trivial⟩, fun _ _ => rfl⟩
theorem upd_upd {α : Type} (f : Nat → α) (i : Nat) (x y : α) : upd (upd f i x) i y = upd f i y := by
  funext j
  by_cases e : j = i
  · subst e; rw [upd_same, upd_same]
  · rw [upd_ne _ _ e, upd_ne _ _ e, upd_ne _ _ e]
theorem upd_self {α : Type} (f : Nat → α) (i : Nat) {x : α} (h : f i = x) : upd f i x = f := by
  funext j
  by_cases e : j = i
  · subst e; rw [upd_same, h]
  · rw [upd_ne _ _ e]
section
variable {S C A : Type} (step : S → C → S × A) (a0 : A)
def wr (s : St S C A) (c : Nat) : St S C A := { s with out := upd s.out c [] }
def fd (s : St S C A) (c : Nat) (x : C) : St S C A := { s with q := upd s.q c (s.q c ++ [x]) }
def allS (s : St S C A) (c : Nat) : Nat → St S C A
  | 0 => s
  | k + 1 => wr (work step a0 (allS s c k) 0 c).2 c
def allE (s : St S C A) (c : Nat) (x : C) : St S C A :=
  { s with q := upd s.q c [], seq := upd s.seq c (s.seq c + 1), data := (step s.data x).1, ev := s.ev ++ [⟨c, s.seq c + 1, x, (step s.data x).2⟩] }
variable {step a0} {s : St S C A} {c : Nat} {x : C}
theorem all_run (hw : s.wk 0 = none) (hb : s.busy c = false) (hh : s.holder = none) (hq : s.q c = [x]) (ho : s.out c = []) :
    (∀ k, k < 4 → (work step a0 (allS step a0 s c k) 0 c).1 = true) ∧ (work step a0 (allS step a0 s c 4) 0 c).1 = false ∧
    (∀ k, k < 4 → (work step a0 (allS step a0 s c k) 0 c).2.out c = if k = 3 then [(x, (step s.data x).2)] else []) ∧ allS step a0 s c 4 = allE step s c x ∧ (∀ k, k ≤ 4 → (allS step a0 s c k).out c = []) := by
  have e1 : work step a0 s 0 c = (true, take a0 s 0 c x []) := by unfold work; rw [hw, hb, hq]
  have s1 : allS step a0 s c 1 = take a0 s 0 c x [] := by
    show wr (work step a0 s 0 c).2 c = _
    rw [e1]
    unfold wr take
    dsimp only
    rw [upd_self s.out c ho]
  have e2 : work step a0 (allS step a0 s c 1) 0 c = (true, lock (take a0 s 0 c x []) 0 ⟨c, s.seq c + 1, x, 0, a0⟩) := by
    rw [s1]
    unfold work
    simp only [take, upd_same, if_pos, hh, Option.isSome, Bool.false_eq_true, if_false]
  have s2 : allS step a0 s c 2 = lock (take a0 s 0 c x []) 0 ⟨c, s.seq c + 1, x, 0, a0⟩ := by
    show wr (work step a0 (allS step a0 s c 1) 0 c).2 c = _
    rw [e2]
    unfold wr lock take
    dsimp only
    rw [upd_self s.out c ho]
  have e3 : work step a0 (allS step a0 s c 2) 0 c = (true, doit step (lock (take a0 s 0 c x []) 0 ⟨c, s.seq c + 1, x, 0, a0⟩) 0 ⟨c, s.seq c + 1, x, 1, a0⟩) := by
    rw [s2]
    unfold work
    simp only [take, lock, upd_same]
    rfl
  have s3 : allS step a0 s c 3 = doit step (lock (take a0 s 0 c x []) 0 ⟨c, s.seq c + 1, x, 0, a0⟩) 0 ⟨c, s.seq c + 1, x, 1, a0⟩ := by
    show wr (work step a0 (allS step a0 s c 2) 0 c).2 c = _
    rw [e3]
    unfold wr doit lock take
    dsimp only
    rw [upd_self s.out c ho]
  have e4 : work step a0 (allS step a0 s c 3) 0 c = (true, leave (doit step (lock (take a0 s 0 c x []) 0 ⟨c, s.seq c + 1, x, 0, a0⟩) 0 ⟨c, s.seq c + 1, x, 1, a0⟩) 0 ⟨c, s.seq c + 1, x, 2, (step s.data x).2⟩) := by
    rw [s3]
    unfold work
    simp only [take, lock, doit, upd_same]
    rfl
  have s4 : allS step a0 s c 4 = allE step s c x := by
    show wr (work step a0 (allS step a0 s c 3) 0 c).2 c = _
    rw [e4]
    unfold wr leave doit lock take allE
    dsimp only
    simp only [upd_upd]
    rw [upd_self s.out c ho, upd_self s.busy c hb, upd_self s.wk 0 hw, hh]
  have e5 : (work step a0 (allS step a0 s c 4) 0 c).1 = false := by
    rw [s4]
    unfold work allE
    dsimp only
    rw [hw, hb, upd_same]
  have o4 : (work step a0 (allS step a0 s c 3) 0 c).2.out c = [(x, (step s.data x).2)] := by
    rw [e4]
    unfold leave doit lock take
    dsimp only
    rw [upd_same, ho]
    rfl
  refine ⟨fun k hk => ?_, e5, fun k hk => ?_, s4, fun k hk => ?_⟩
  · rcases (by omega : k = 0 ∨ k = 1 ∨ k = 2 ∨ k = 3) with rfl | rfl | rfl | rfl
    · show (work step a0 s 0 c).1 = true; rw [e1]
    · rw [e2]
    · rw [e3]
    · rw [e4]
  · rcases (by omega : k = 0 ∨ k = 1 ∨ k = 2 ∨ k = 3) with rfl | rfl | rfl | rfl
    · show (work step a0 s 0 c).2.out c = []; rw [e1]; exact ho
    · rw [e2]; exact ho
    · rw [e3]; exact ho
    · exact o4
  · rcases (by omega : k = 0 ∨ k = 1 ∨ k = 2 ∨ k = 3 ∨ k = 4) with rfl | rfl | rfl | rfl | rfl
    · exact ho
    · rw [s1]; exact ho
    · rw [s2]; exact ho
    · rw [s3]; exact ho
    · rw [s4]; exact ho
end
def ini : St Sd Cd An := ⟨fun _ => [], fun _ => false, fun _ => 0, fun _ => [], fun _ => none, none, sd0, []⟩
structure Idle (s : St Sd Cd An) : Prop where
  busy : ∀ c, s.busy c = false
  wk : ∀ w, s.wk w = none
  hold : s.holder = none
theorem idle_ini : Idle ini := ⟨fun _ => rfl, fun _ => rfl, rfl⟩
theorem Idle.fd {s : St Sd Cd An} (h : Idle s) (c : Nat) (x : Cd) : Idle (fd s c x) := ⟨h.busy, h.wk, h.hold⟩
theorem Idle.wr {s : St Sd Cd An} (h : Idle s) (c : Nat) : Idle (wr s c) := ⟨h.busy, h.wk, h.hold⟩
theorem Idle.allE {s : St Sd Cd An} (h : Idle s) (c : Nat) (x : Cd) : Idle (allE stp s c x) := ⟨h.busy, h.wk, h.hold⟩
theorem Idle.wi {s : St Sd Cd An} (h : Idle s) {need : Bool} {nw nc B : Nat} (hq : ∀ c, nc ≤ c → s.q c = []) (hc : ∀ c x, x ∈ s.q c → cOk x) {Q : Nat} (hl : ∀ c, (s.q c).length ≤ Q) (hQ : 4 * Q ≤ B) {T : Nat} (hT : nc * (4 * Q) ≤ T)
    (ho : ∀ c, (s.out c).length + T ≤ B) (hoa : ∀ c x, x ∈ s.out c → aOk x.1 x.2) (he : s.ev.length + T ≤ B) (hs : ∀ c, s.seq c + T ≤ B) (ht : s.data.tok + T ≤ B) (hn : need = true → s.data.it.isSome = true) (hi : ∀ x, s.data.it = some x → ItG s.data.tok x) : Wi need nw nc B s := by
  have hle : left nw nc s ≤ T := by
    have h1 : ∀ n, sumTo (fun w => rem (s.wk w)) n = 0 := fun n => by
      induction n with
      | zero => rfl
      | succ n ih => unfold sumTo; rw [ih, h.wk]; rfl
    have h2 : ∀ n, sumTo (fun c => 4 * (s.q c).length) n ≤ n * (4 * Q) := fun n => by
      induction n with
      | zero => unfold sumTo; omega
      | succ n ih =>
        unfold sumTo
        have h3 := hl n
        have h4 : (n + 1) * (4 * Q) = n * (4 * Q) + 4 * Q := Nat.succ_mul _ _
        omega
    unfold left
    have h1 := h1 nw
    have h2 := h2 nc
    omega
  exact ⟨fun w k hk => absurd hk (by rw [h.wk]; simp), hq, hc, fun c => by have := hl c; omega, fun c => by have := ho c; omega, hoa, by omega, fun c => by have := hs c; omega, ⟨by omega, hn, hi⟩⟩
def vV : Vl := .txt ⟨#[118]⟩
def c1 : St Sd Cd An := fd ini 0 (.set 0 vV)
def c2 : St Sd Cd An := allE stp c1 0 (.set 0 vV)
def c3 (n : Nat) : St Sd Cd An := { c2 with q := fun c => if c < n then [.cas 1 (.num c)] else [] }
theorem vV_ok : vOk vV := by show (⟨#[118]⟩ : ByteArray).size ≤ 20; decide
def prs : List (Nat × Nat) := [(0, 0), (0, 1), (0, 2), (0, 3), (1, 0), (1, 1), (1, 2), (1, 3), (2, 0), (2, 1), (2, 2), (2, 3), (3, 0), (3, 1), (3, 2), (3, 3)]
def nV : Vl := .num 0
def d1 : St Sd Cd An := fd ini 0 (.set 0 nV)
def d2 : St Sd Cd An := allE stp d1 0 (.set 0 nV)
def dq (m d c i : Nat) (j : Nat) : List Cd := if j < c then List.replicate m (.incr d) else if j = c then List.replicate i (.incr d) else []
def d3 (m d c i : Nat) : St Sd Cd An := { d2 with q := dq m d c i }
theorem d2_q : d2.q = fun _ => [] := by
  funext c
  show upd _ 0 [] c = []
  unfold upd
  split
  · rfl
  · rename_i h
    show upd _ 0 _ c = []
    rw [upd_ne _ _ h]; rfl
theorem d3_0 (m d : Nat) : d3 m d 0 0 = d2 := by
  unfold d3
  have : dq m d 0 0 = d2.q := by
    rw [d2_q]; funext c
    unfold dq
    rw [if_neg (by omega)]
    split <;> rfl
  rw [this]
theorem d3_succ (m d c i : Nat) : fd (d3 m d c i) c (.incr d) = d3 m d c (i + 1) := by
  unfold fd d3
  dsimp only
  congr 1
  funext j
  by_cases e : j = c
  · subst e
    rw [upd_same]
    unfold dq
    rw [if_neg (by omega), if_pos rfl, if_neg (by omega), if_pos rfl, List.replicate_succ']
  · rw [upd_ne _ _ e]
    unfold dq
    by_cases h : j < c
    · rw [if_pos h, if_pos h]
    · rw [if_neg h, if_neg h, if_neg e, if_neg e]
theorem d3_next (m d c : Nat) : d3 m d c m = d3 m d (c + 1) 0 := by
  unfold d3
  have : dq m d c m = dq m d (c + 1) 0 := by
    funext j
    unfold dq
    by_cases h : j < c
    · rw [if_pos h, if_pos (by omega)]
    · rw [if_neg h]
      by_cases e : j = c
      · rw [if_pos e, if_pos (by omega)]
      · rw [if_neg e, if_neg (by omega)]
        split <;> rfl
  rw [this]
theorem idle_d1 : Idle d1 := idle_ini.fd _ _
theorem idle_d2 : Idle d2 := idle_d1.allE _ _
theorem idle_d3 (m d c i : Nat) : Idle (d3 m d c i) := ⟨idle_d2.busy, idle_d2.wk, idle_d2.hold⟩
theorem left_d3 (m d : Nat) : left 4 4 (d3 m d 4 0) = 16 * m := by
  have hw : ∀ v, rem ((d3 m d 4 0).wk v) = 0 := fun v => by rw [(idle_d3 m d 4 0).wk v]; rfl
  unfold left
  simp only [sumTo, hw]
  show 0 + 4 * (dq m d 4 0 0).length + 4 * (dq m d 4 0 1).length + 4 * (dq m d 4 0 2).length + 4 * (dq m d 4 0 3).length + _ = _
  simp only [dq, List.length_replicate, Nat.reduceLT, if_true]
  omega
theorem nV_ok : vOk nV := by show (0 : Nat) < two64; decide
theorem counts_done {m d : Nat} (hm : m ≤ 8) {l : List (Nat × Nat)} (hl : ∀ p ∈ l, p.1 < 4) :
    ∃ s, (List.replicate 200 prs).foldl (works stp an0) (works stp an0 (d3 m d 4 0) l) = s ∧ Idle s ∧ (∀ c, s.q c = []) ∧ s.data = ⟨some ⟨0, .num (4 * m * d % two64), 1 + 4 * m, 0⟩, 1 + 4 * m⟩ := by
  have h0 : Ok stp 4 4 (d3 m d 4 0) (d3 m d 4 0) := Ok.start (idle_d3 m d 4 0).busy (idle_d3 m d 4 0).wk (idle_d3 m d 4 0).hold (fun c hc => by
    show dq m d 4 0 c = []
    unfold dq
    rw [if_neg (by omega)]
    split <;> rfl)
  have h1 := h0.works (a0 := an0) hl
  have hp : ∀ p ∈ prs, p.1 < 4 := by decide
  have hle := left_le (a0 := an0) h0 hl
  rw [left_d3] at hle
  have hall : ∀ w c, w < 4 → c < 4 → (w, c) ∈ prs := by
    intro w c hw hc
    rcases (by omega : w = 0 ∨ w = 1 ∨ w = 2 ∨ w = 3) with rfl | rfl | rfl | rfl <;> rcases (by omega : c = 0 ∨ c = 1 ∨ c = 2 ∨ c = 3) with rfl | rfl | rfl | rfl <;> decide
  have h2 := rounds (a0 := an0) h1 (by decide) (by decide) hp hall 200 (by omega)
  have h3 : ∀ (n : Nat) (s : St Sd Cd An), Ok stp 4 4 (d3 m d 4 0) s → Ok stp 4 4 (d3 m d 4 0) ((List.replicate n prs).foldl (works stp an0) s) := by
    intro n
    induction n with
    | zero => intro s h; exact h
    | succ n ih => intro s h; rw [List.replicate_succ, List.foldl_cons]; exact ih _ (h.works hp)
  obtain ⟨l', e1, e2, e3, e4, e5, e6, e7⟩ := (h3 200 _ h1).done h2
  have h4 := incr_final (i := d3 m d 4 0) (n := 4) (m := m) (d := d) (fl := 0) (t := 1) (la := 0) rfl (fun c => by
    show dq m d 4 0 c = _
    unfold dq
    by_cases h : c < 4
    · rw [if_pos h, if_pos h]
    · rw [if_neg h, if_neg h]
      split <;> rfl) e2 e3
  exact ⟨_, rfl, ⟨e5, e6, e7⟩, e4, h4⟩
end Go.Proofs.YtboehbfagnocpaaGreatDoor.PM
namespace Go.Proofs.YtboehbfagnocpaaGreatDoor
open Go.RowKit Go.PlainAid Go.Shelf
open SP
open PM (Cd An Sd Vl)
def stL (key : ByteArray) (h : Int) (b : Nat) (m : SM) (cas : Int) : List Res := [cAt m.s (stC m cas) 105, slabR m.β (pi1 m.bs) m.L, stZ m, tab1 m.tb m.rb b m.eb key h 0, stQ m, polR m.ps]
def stF (key : ByteArray) (h : Int) (b : Nat) (m : SM) (cas : Int) : Res := many (stL key h b m cas)
structure SOk (key : ByteArray) (x : PM.It) (m : SM) : Prop where
  wf : Wf (pi1 m.bs) m.L
  hold : Holds key x m.bs
  it : ItOk x
  held : m.ps.held = true
section
variable {D : Nat → Prop} {w0 w : World} {a b c : Res} {L : List Res}
theorem hav_a (h : Hav D w0 (a :: b :: c :: L) w) : Hav D w0 (a :: b :: c :: L) w := h
theorem hav_b (h : Hav D w0 (b :: a :: c :: L) w) : Hav D w0 (a :: b :: c :: L) w := h.perm (.swap _ _ _)
theorem hav_c (h : Hav D w0 (a :: c :: b :: L) w) : Hav D w0 (a :: b :: c :: L) w := h.perm (.cons _ (.swap _ _ _))
theorem hav_d (h : Hav D w0 (b :: c :: a :: L) w) : Hav D w0 (a :: b :: c :: L) w := hav_b (h.perm (.cons _ (.swap _ _ _)))
theorem hav_e (h : Hav D w0 (c :: a :: b :: L) w) : Hav D w0 (a :: b :: c :: L) w := hav_c (h.perm (.swap _ _ _))
theorem hav_f (h : Hav D w0 (c :: b :: a :: L) w) : Hav D w0 (a :: b :: c :: L) w := hav_d (h.perm (.swap _ _ _))
end
def stEL (b : Nat) (m : SM) (cas : Int) : List Res := [cAt m.s (stC m cas) 105, slabR m.β pi0 m.L, stZ m, tab0 m.tb m.rb b, stQ m, polR m.ps]
structure SOkE (m : SM) : Prop where
  L0 : m.L = 0
  held : m.ps.held = false
def stoR (key : ByteArray) (h : Int) (b : Nat) (m : SM) (s : Sd) : Res := match s.it with
  | none => many (stEL b m s.tok)
  | some _ => stF key h b m s.tok
def StoOk (key : ByteArray) (m : SM) (s : Sd) : Prop := match s.it with
  | none => SOkE m
  | some x => SOk key x m
end Go.Proofs.YtboehbfagnocpaaGreatDoor
namespace Go.Proofs.YtboehbfagnocpaaGreatDoor
open Go.RowKit Go.PlainAid
def lst {α : Type} (n : Nat) (f : Nat → α) : List α := (List.range n).map f
section
variable {α : Type} {n i : Nat} {f g : Nat → α}
theorem lst_len : (lst n f).length = n := by simp [lst]
theorem lst_get (h : i < n) : (lst n f)[i]? = some (f i) := by simp [lst, List.getElem?_range h]
theorem lst_set (x : α) : (lst n f).set i x = lst n (PM.upd f i x) := by
  apply List.ext_getElem?
  intro j
  rw [List.getElem?_set]
  by_cases hj : j < n
  · by_cases e : i = j
    · subst e; rw [if_pos rfl, lst_get hj, if_pos (by rw [lst_len]; exact hj), PM.upd_same]
    · rw [if_neg e, lst_get hj, lst_get hj, PM.upd_ne _ _ (fun e2 => e e2.symm)]
  · have h1 : (lst n f)[j]? = none := List.getElem?_eq_none (by rw [lst_len]; omega)
    have h2 : (lst n (PM.upd f i x))[j]? = none := List.getElem?_eq_none (by rw [lst_len]; omega)
    rw [h1, h2]
    by_cases e : i = j
    · subst e; rw [if_pos rfl, if_neg (by rw [lst_len]; exact hj)]
    · rw [if_neg e]
theorem lst_snoc : lst (n + 1) f = lst n f ++ [f n] := by simp [lst, List.range_succ]
theorem lst_same (h : ∀ j, j < n → f j = g j) : lst n f = lst n g := by
  unfold lst
  exact List.map_congr_left (fun j hj => h j (List.mem_range.1 hj))
end
def fam (n : Nat) (f : Nat → Res) : Res := many (lst n f)
section
variable {n i : Nat} {f : Nat → Res} {w w' : World} {r' : Res}
theorem fam_get (h : (fam n f).R w) (hi : i < n) : (f i).R w := h.1 _ (List.mem_of_getElem? (lst_get hi))
theorem fam_turn (h : (fam n f).R w) (hi : i < n) (t : Turn (f i) r' w w') : Turn (fam n f) (fam n (PM.upd f i r')) w w' := by
  have h1 := ((Hav.open h).turn i (lst_get hi) t).shut
  rw [lst_set] at h1
  exact h1
theorem fam_new0 (w : World) : (fam 0 f).R w := ⟨fun r hr => by simp [lst] at hr, by simp [lst]⟩
theorem fam_ap (h : (fam n f).R w) (hr : (f n).R w) (ha : ∀ b, (fam n f).B b → ¬ (f n).B b) : (fam (n + 1) f).R w := by
  unfold fam
  rw [lst_snoc]
  refine ⟨fun r hr' => ?_, List.pairwise_append.2 ⟨h.2, List.pairwise_singleton _ _, fun r hr' s hs b hb hx => ?_⟩⟩
  · rcases List.mem_append.1 hr' with h1 | h1
    · exact h.1 r h1
    · rw [List.mem_singleton.1 h1]; exact hr
  · rw [List.mem_singleton.1 hs] at hx
    exact ha b ⟨r, hr', hb⟩ hx
end
section
variable {D : Nat → Prop} {w0 w w' : World} {L : List Res} {i n : Nat} {r r' a x : Res} {f : Nat → Res}
theorem Turn.conv (h : r.R w) (hR : r.R w → r'.R w) (hB : ∀ b, r'.B b → r.B b) : Turn r r' w w := ⟨hR h, Tch.refl _ _, fun b hb => .inl (hB b hb)⟩
theorem Hav.unjoin (h : Hav D w0 L w) (i : Nat) (hi : L[i]? = some (many [a, x])) : Hav D w0 (x :: L.set i a) w := by
  have hil : i < L.length := (List.getElem?_eq_some_iff.1 hi).1
  have hri : L[i] = many [a, x] := (List.getElem?_eq_some_iff.1 hi).2
  have hR := h.get i hi
  have hra : a.R w := hR.1 a (.head _)
  have hrx : x.R w := hR.1 x (.tail _ (.head _))
  have hax : ∀ b, a.B b → ¬ x.B b := (List.pairwise_cons.1 hR.2).1 x (.head _)
  have hap := List.pairwise_iff_getElem.1 h.ap
  have hne : ∀ j (hj : j < L.length), j ≠ i → ∀ b, (a.B b ∨ x.B b) → ¬ (L[j]).B b := fun j hj hne b hb hx => by
    have hb' : (many [a, x]).B b := hb.elim (fun h => ⟨a, .head _, h⟩) (fun h => ⟨x, .tail _ (.head _), h⟩)
    rcases Nat.lt_or_gt_of_ne hne with h1 | h1
    · exact hap j i hj hil h1 b hx (by rw [hri]; exact hb')
    · exact hap i j hil hj h1 b (by rw [hri]; exact hb') hx
  refine ⟨fun s hs => ?_, List.pairwise_cons.2 ⟨fun s hs b hb hx => ?_, List.pairwise_iff_getElem.2 fun j k hj hk hjk => ?_⟩, fun s hs b hb => ?_, h.tch⟩
  · rcases List.mem_cons.1 hs with rfl | h1
    · exact hrx
    · rcases List.mem_or_eq_of_mem_set h1 with h2 | rfl
      · exact h.all s h2
      · exact hra
  · obtain ⟨j, hj, rfl⟩ := List.mem_iff_getElem.1 hs
    rw [List.length_set] at hj
    by_cases e : i = j
    · subst e; rw [List.getElem_set_self] at hx; exact hax b hx hb
    · rw [List.getElem_set_ne e] at hx
      exact hne j hj (fun e2 => e e2.symm) b (.inr hb) hx
  · rw [List.length_set] at hj hk
    intro b hx hy
    by_cases e1 : i = j
    · subst e1
      rw [List.getElem_set_self] at hx
      rw [List.getElem_set_ne (by omega)] at hy
      exact hne k hk (by omega) b (.inl hx) hy
    · rw [List.getElem_set_ne e1] at hx
      by_cases e2 : i = k
      · subst e2
        rw [List.getElem_set_self] at hy
        exact hne j hj (by omega) b (.inl hy) hx
      · rw [List.getElem_set_ne e2] at hy
        exact hap j k hj hk hjk b hx hy
  · rcases List.mem_cons.1 hs with rfl | h1
    · exact h.lo _ (List.mem_of_getElem? hi) b ⟨s, .tail _ (.head _), hb⟩
    · rcases List.mem_or_eq_of_mem_set h1 with h2 | rfl
      · exact h.lo s h2 b hb
      · exact h.lo _ (List.mem_of_getElem? hi) b ⟨s, .head _, hb⟩
theorem Hav.group (h : Hav D w0 (x :: L) w) : Hav D w0 [many L, x] w := by
  have hp := List.pairwise_cons.1 h.ap
  refine ⟨fun s hs => ?_, List.pairwise_cons.2 ⟨fun s hs b hb hx => ?_, List.pairwise_singleton _ _⟩, fun s hs b hb => ?_, h.tch⟩
  · rcases List.mem_cons.1 hs with rfl | h1
    · exact ⟨fun t ht => h.all t (.tail _ ht), hp.2⟩
    · rw [List.mem_singleton.1 h1]; exact h.all x (.head _)
  · rw [List.mem_singleton.1 hs] at hx
    obtain ⟨t, ht, hb⟩ := hb
    exact hp.1 t ht b hx hb
  · rcases List.mem_cons.1 hs with rfl | h1
    · obtain ⟨t, ht, hb⟩ := hb
      exact h.lo t (.tail _ ht) b hb
    · rw [List.mem_singleton.1 h1] at hb; exact h.lo x (.head _) b hb
theorem fam_out (h : (fam n f).R w) (hi : i < n) (t : Turn (f i) (many [a, x]) w w') : Turn (fam n f) (many [fam n (PM.upd f i a), x]) w w' := by
  have h1 := ((Hav.open h).turn i (lst_get hi) t).unjoin i (by rw [lst_set, lst_get hi, PM.upd_same])
  rw [List.set_set, lst_set] at h1
  exact h1.group.shut
theorem Hav.pull (h : Hav D w0 L w) (i : Nat) (hi : L[i]? = some r) (t : Turn r (many [a, x]) w w') : Hav D w0 (x :: L.set i a) w' := by
  have hil : i < L.length := (List.getElem?_eq_some_iff.1 hi).1
  have h1 := (h.turn i hi t).unjoin i (by rw [List.getElem?_set_self hil])
  rw [List.set_set] at h1
  exact h1
theorem and_out {s : Res} (h : (s.and r).R w) (t : Turn r (many [a, x]) w w') : Turn (s.and r) (many [s.and a, x]) w w' := by
  have t1 := t.right h
  refine t1.trans (Turn.conv t1.here (fun k => ?_) (fun b hb => ?_))
  · have hax : ∀ b, a.B b → ¬ x.B b := (List.pairwise_cons.1 k.2.1.2).1 x (.head _)
    refine ⟨fun u hu => ?_, List.pairwise_cons.2 ⟨fun u hu b hb hx => ?_, List.pairwise_singleton _ _⟩⟩
    · rcases List.mem_cons.1 hu with rfl | hu
      · exact ⟨k.1, k.2.1.1 a (.head _), fun b hb hx => k.2.2 b hb ⟨a, .head _, hx⟩⟩
      · rw [List.mem_singleton.1 hu]; exact k.2.1.1 x (.tail _ (.head _))
    · rw [List.mem_singleton.1 hu] at hx
      rcases hb with hb | hb
      · exact k.2.2 b hb ⟨x, .tail _ (.head _), hx⟩
      · exact hax b hb hx
  · obtain ⟨u, hu, hb⟩ := hb
    rcases List.mem_cons.1 hu with rfl | hu
    · exact hb.imp_right (fun h => ⟨a, .head _, h⟩)
    · rw [List.mem_singleton.1 hu] at hb
      exact .inr ⟨x, .tail _ (.head _), hb⟩
end
section
variable {D : Nat → Prop} {w0 w w' : World} {L : List Res} {i n : Nat} {r r' r1 a x : Res} {f : Nat → Res}
theorem Hav.push (h : Hav D w0 (x :: L) w) (i : Nat) (hi : L[i]? = some a) (hR : a.R w → x.R w → (∀ b, a.B b → ¬ x.B b) → r'.R w) (hB : ∀ b, r'.B b → a.B b ∨ x.B b) : Hav D w0 (L.set i r') w := by
  have hil : i < L.length := (List.getElem?_eq_some_iff.1 hi).1
  have hri : L[i] = a := (List.getElem?_eq_some_iff.1 hi).2
  have hp := List.pairwise_cons.1 h.ap
  have hap := List.pairwise_iff_getElem.1 hp.2
  have hra : a.R w := h.all a (.tail _ (List.mem_of_getElem? hi))
  have hrx : x.R w := h.all x (.head _)
  have hne : ∀ j (hj : j < L.length), j ≠ i → ∀ b, r'.B b → ¬ (L[j]).B b := fun j hj hne b hb hx => by
    rcases hB b hb with h1 | h1
    · rcases Nat.lt_or_gt_of_ne hne with h2 | h2
      · exact hap j i hj hil h2 b hx (by rw [hri]; exact h1)
      · exact hap i j hil hj h2 b (by rw [hri]; exact h1) hx
    · exact hp.1 _ (List.getElem_mem hj) b h1 hx
  refine ⟨fun s hs => ?_, List.pairwise_iff_getElem.2 fun j k hj hk hjk => ?_, fun s hs b hb => ?_, h.tch⟩
  · rcases List.mem_or_eq_of_mem_set hs with h2 | rfl
    · exact h.all s (.tail _ h2)
    · exact hR hra hrx (fun b hb hx => hp.1 a (List.mem_of_getElem? hi) b hx hb)
  · rw [List.length_set] at hj hk
    intro b hx hy
    by_cases e1 : i = j
    · subst e1
      rw [List.getElem_set_self] at hx
      rw [List.getElem_set_ne (by omega)] at hy
      exact hne k hk (by omega) b hx hy
    · rw [List.getElem_set_ne e1] at hx
      by_cases e2 : i = k
      · subst e2
        rw [List.getElem_set_self] at hy
        exact hne j hj (by omega) b hy hx
      · rw [List.getElem_set_ne e2] at hy
        exact hap j k hj hk hjk b hx hy
  · rcases List.mem_or_eq_of_mem_set hs with h2 | rfl
    · exact h.lo s (.tail _ h2) b hb
    · rcases hB b hb with h1 | h1
      · exact h.lo a (.tail _ (List.mem_of_getElem? hi)) b h1
      · exact h.lo x (.head _) b h1
theorem fam_push (hi : i < n) (hR : (f i).R w → x.R w → (∀ b, (f i).B b → ¬ x.B b) → r1.R w) (hB : ∀ b, r1.B b → (f i).B b ∨ x.B b) :
    ((fam n f).R w → x.R w → (∀ b, (fam n f).B b → ¬ x.B b) → (fam n (PM.upd f i r1)).R w) ∧ ∀ b, (fam n (PM.upd f i r1)).B b → (fam n f).B b ∨ x.B b := by
  have hmem : ∀ s ∈ lst n (PM.upd f i r1), s ∈ lst n f ∨ s = r1 := fun s hs => by
    rw [← lst_set] at hs
    exact List.mem_or_eq_of_mem_set hs
  have hf : f i ∈ lst n f := List.mem_of_getElem? (lst_get hi)
  refine ⟨fun h hx ha => ?_, fun b hb => ?_⟩
  · have H : Hav (fun b => (fam n f).B b ∨ x.B b) w (x :: lst n f) w := ⟨fun s hs => by
      rcases List.mem_cons.1 hs with rfl | h1
      · exact hx
      · exact h.1 s h1, List.pairwise_cons.2 ⟨fun s hs b hb hy => ha b ⟨s, hs, hy⟩ hb, h.2⟩, fun s hs b hb => by
      rcases List.mem_cons.1 hs with rfl | h1
      · exact .inl (.inr hb)
      · exact .inl (.inl ⟨s, h1, hb⟩), Tch.refl _ _⟩
    have H2 := H.push i (lst_get hi) hR hB
    rw [lst_set] at H2
    exact ⟨H2.all, H2.ap⟩
  · obtain ⟨s, hs, hb⟩ := hb
    rcases hmem s hs with h1 | rfl
    · exact .inl ⟨s, h1, hb⟩
    · rcases hB b hb with h1 | h1
      · exact .inl ⟨f i, hf, h1⟩
      · exact .inr h1
end
end Go.Proofs.YtboehbfagnocpaaGreatDoor
