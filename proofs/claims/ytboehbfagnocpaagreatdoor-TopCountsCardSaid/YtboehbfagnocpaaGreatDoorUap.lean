/- Tst. -/
import Derived.Test.YtboehbfagnocpaaGreatDoorUao
set_option linter.unusedVariables false
set_option linter.unusedSimpArgs false
set_option maxRecDepth 100000
open Go.Proofs.Tryz
open Go.Lib (hid)
namespace Go.Proofs.YtboehbfagnocpaaGreatDoor
open Go.RowKit Go.PlainAid Go.Shelf
structure LnF (lb wb n cap : Nat) (name behind : ByteArray) (ws : List ByteArray) (w : World) : Prop where
  c0 : w.cell? ⟨lb, 0, none⟩ = some (.string name)
  c1 : w.cell? ⟨lb, 1, none⟩ = some (.slice (some ⟨wb, 1, none⟩) n cap)
  c2 : w.cell? ⟨lb, 2, none⟩ = some (.string behind)
  c3 : w.cell? ⟨lb, 3, none⟩ = some (.int .i64 0)
  c4 : w.cell? ⟨lb, 4, none⟩ = some (.bool false)
  ws : ∀ i x, ws[i]? = some x → w.cell? ⟨wb, 1 + i, none⟩ = some (.string x)
theorem LnF.below {lb wb n cap : Nat} {name behind : ByteArray} {ws : List ByteArray} {w w' : World} (h : LnF lb wb n cap name behind ws w) (hb : Below w.heap.size w w') : LnF lb wb n cap name behind ws w' :=
  ⟨(hb.cell (p := ⟨lb, 0, none⟩) (cell_lt h.c0)).trans h.c0, (hb.cell (p := ⟨lb, 1, none⟩) (cell_lt h.c1)).trans h.c1, (hb.cell (p := ⟨lb, 2, none⟩) (cell_lt h.c2)).trans h.c2, (hb.cell (p := ⟨lb, 3, none⟩) (cell_lt h.c3)).trans h.c3, (hb.cell (p := ⟨lb, 4, none⟩) (cell_lt h.c4)).trans h.c4,
    fun i x hi => (hb.cell (p := ⟨wb, 1 + i, none⟩) (cell_lt (h.ws i x hi))).trans (h.ws i x hi)⟩
structure LnN (fl ex ln : ByteArray) (f n : Nat) (x : Int) : Prop where
  dl : Dg ln 20
  pl : Lib.parseUintB 64 ln.data.toList = .ok n
  df : Dg fl 20
  pf : Lib.parseUintB 64 fl.data.toList = .ok f
  de : Dg ex 19
  te : Lib.trimPrefix ex.data.toList [45] = ex.data.toList
  pe : Lib.parseIntB 64 ex.data.toList = .ok x
  hf : f ≤ 4294967295
  hn : n ≤ 1000
  h1 : -1099511627776 ≤ x
  h2 : x ≤ 1099511627776
def mds : List ByteArray := [⟨#[115, 101, 116]⟩, ⟨#[97, 100, 100]⟩, ⟨#[114, 101, 112, 108, 97, 99, 101]⟩, ⟨#[97, 112, 112, 101, 110, 100]⟩, ⟨#[112, 114, 101, 112, 101, 110, 100]⟩]
theorem idx_modes (x : ByteArray) {W : World} {M : Nat} (h : (cAt M #[.string ⟨#[115, 101, 116]⟩, .string ⟨#[97, 100, 100]⟩, .string ⟨#[114, 101, 112, 108, 97, 99, 101]⟩, .string ⟨#[97, 112, 112, 101, 110, 100]⟩, .string ⟨#[112, 114, 101, 112, 101, 110, 100]⟩] 9).R W) : Calls prog 349 #[.slice (some ⟨M, 0, none⟩) 5 5, .string x] W fun e w' => e = .returned (.int .i64 (Lib.idxOfS mds x)) ∧ w' = W :=
  Tryz.slices_Index_string M 0 5 5 mds x W (by decide) (by decide) (fun j hj => by
    rw [Nat.zero_add]
    have := cA h j
    rw [this]
    have hj : j < 5 := hj
    rcases (by omega : j = 0 ∨ j = 1 ∨ j = 2 ∨ j = 3 ∨ j = 4) with rfl | rfl | rfl | rfl | rfl <;> rfl)
theorem idx_set : Lib.idxOfS mds ⟨#[115, 101, 116]⟩ = 0 := by decide +kernel
theorem rowEl_new (w : World) (vs : Array Value) (E size : Nat) (h : vs.size = size) : Made (rowAt (.slice (some ⟨w.heap.size, 0, none⟩) 1 1) E size 1 vs.toList) w (w.alloc (.cells vs E)) :=
  ⟨⟨by simp [h], .inr ⟨w.heap.size, 1, vs, rfl, Nat.zero_le _, heap_alloc_new w _, Nat.le_refl _, by decide, by omega, by rw [Nat.one_mul, ← h, ← Array.length_toList, List.take_length]⟩⟩, bA w _, fun b hb => by have e : some w.heap.size = some b := hb; cases e; exact Nat.le_refl _⟩
set_option maxHeartbeats 4000000 in
theorem store_set {w : World} {lb wb cap f n : Nat} {x : Int} {key fl ex ln behind : ByteArray} (hL : (cAt lb #[.string ⟨#[115, 101, 116]⟩, .slice (some ⟨wb, 1, none⟩) 4 cap, .string behind, .int .i64 0, .bool false] 395).R w) (hws : ∀ i x, [key, fl, ex, ln][i]? = some x → w.cell? ⟨wb, 1 + i, none⟩ = some (.string x)) (hn : LnN fl ex ln f n x) (hkey : W2.keyB key = true) (hks : key.size ≤ 250)
    (hlast : (ln.toList == [110, 111, 114, 101, 112, 108, 121]) = false) (hb : n + 2 ≤ behind.size) (hbm : behind.size ≤ 100000) (hs : Lib.hasSuffix (behind.extract 0 (n + 2)).data.toList [13, 10] = true) :
    Calls prog 319 #[.pointer (some ⟨lb, 0, none⟩)] w fun e w' => ∃ g, e = .returned (.tuple #[reqV 1 (.slice (some ⟨g, 0, none⟩) 1 1) false false, .bool false]) ∧
      Turn (cAt lb #[.string ⟨#[115, 101, 116]⟩, .slice (some ⟨wb, 1, none⟩) 4 cap, .string behind, .int .i64 0, .bool false] 395)
        (many [cAt lb #[.string ⟨#[115, 101, 116]⟩, .slice (some ⟨wb, 1, none⟩) 4 cap, .string behind, .int .i64 (n + 2 : Nat), .bool false] 395,
          rowAt (.slice (some ⟨g, 0, none⟩) 1 1) 56 16 1 { cm0 with op := 2, key := key, flags := f, exp := x, value := ⟨(Lib.trimSuffix (behind.extract 0 (n + 2)).data.toList [13, 10]).toArray⟩, recache := -1 }.vs.toList]) w w' := by
  have h : LnF lb wb 4 cap ⟨#[115, 101, 116]⟩ behind [key, fl, ex, ln] w := ⟨cA hL 0, cA hL 1, cA hL 2, cA hL 3, cA hL 4, hws⟩
  have I0 := (Hav.start hL).cells rq0 33
  obtain ⟨N, hN⟩ : ∃ N, w.heap.size = N := ⟨_, rfl⟩
  have B0 := bA w (.cells rq0 33)
  obtain ⟨W0, hW0⟩ : ∃ W0, w.alloc (.cells rq0 33) = W0 := ⟨_, rfl⟩
  rw [hW0] at B0 I0
  rw [hN] at I0
  have J0 := hid I0
  clear I0 hL hws
  have H0 := hid (h.below B0)
  have a0 := H0.out.c0
  have a1 := H0.out.c1
  have w3 : W0.cell? ⟨wb, 4, none⟩ = some (.string ln) := H0.out.ws 3 ln rfl
  have HO := hid (off_no (n := 3) H0.out.c1 (H0.out.ws 3 ln rfl) hlast (by decide))
  have HC := hid (count_ok H0.out.c1 4 4 (by decide) (by decide))
  have HP1 := hid (fun w' => parse_yes hn.dl hn.pl w')
  have HP2 := hid (fun w' => parse_yes hn.df hn.pf w')
  have HP3 := hid (fun w' => seconds_ok hn.de hn.te hn.pe hn.h1 hn.h2 w')
  obtain ⟨u, hu⟩ : ∃ u : Int, (n : Int) = u := ⟨_, rfl⟩
  obtain ⟨v, hv⟩ : ∃ v : Int, (f : Int) = v := ⟨_, rfl⟩
  have hnn : u ≤ 1073741824 := by have := hn.hn; omega
  have HNB := hid (And.intro hb hbm)
  rw [hu] at HP1
  rw [hv] at HP2
  have B0' := hid B0
  have HU := hid (And.intro hu hv)
  have HNN := hid hn
  have HKS := hid hks
  have HKY := hid hkey
  have HSF := hid hs
  clear h B0 hu hv hn hb hbm hks hs hkey
  go_enter func319, ntmps319
  go_wp2_with (fail)
  rw [show w.alloc (.cells #[.int .i64 0, .slice none 0 0, .bool false, .bool false, .string ⟨#[]⟩, .string ⟨#[]⟩, .int .i64 0, .bool false, .string ⟨#[]⟩, .slice none 0 0, .string ⟨#[]⟩] 33) = W0 from hW0]
  clear hW0
  go_wp2_with (first
    | (go_at_call 347; refine HO.out.mono ?_; rintro e w1 ⟨rfl, rfl⟩)
    | (go_at_call 342; refine HC.out.mono ?_; rintro e w1 ⟨rfl, rfl⟩))
  go_at_call 173
  refine (HP1.out _).mono ?_
  rintro e w1 ⟨rfl, hb1⟩
  have H1 := hid (H0.out.below hb1)
  have b1 := H1.out.c1
  have x1 : w1.cell? ⟨wb, 2, none⟩ = some (.string fl) := H1.out.ws 1 fl rfl
  have HB1 := hid hb1
  clear hb1
  go_wp2_with (first
    | (go_at_call 344; refine (need_ok _ _).mono ?_; rintro e w1 ⟨rfl, rfl⟩))
  go_at_call 173
  refine (HP2.out _).mono ?_
  rintro e w2 ⟨rfl, hb2⟩
  have H2 := hid (H1.out.below hb2)
  have b2 := H2.out.c1
  have x2 : w2.cell? ⟨wb, 3, none⟩ = some (.string ex) := H2.out.ws 2 ex rfl
  have HB2 := hid (HB1.out.trans (hb2.mono HB1.out.size))
  clear hb2 HB1 x1 b1 H1
  go_wp2_with (fail)
  go_at_call 348
  refine (HP3.out _).mono ?_
  rintro e w4 ⟨rfl, hb3⟩
  have H4 := hid (H2.out.below hb3)
  have HB4 := hid (HB2.out.trans (hb3.mono HB2.out.size))
  clear hb3 HB2 x2 b2 H2
  go_wp2_with (fail)
  have q0 := H4.out.c0
  have q1 := H4.out.c1
  have qk : w4.cell? ⟨wb, 1, none⟩ = some (.string key) := H4.out.ws 0 key rfl
  have HQ : Hid (∀ w', Below w4.heap.size w4 w' → w'.cell? ⟨lb, 0, none⟩ = some (.string ⟨#[115, 101, 116]⟩) ∧ w'.cell? ⟨lb, 1, none⟩ = some (.slice (some ⟨wb, 1, none⟩) 4 cap) ∧ w'.cell? ⟨wb, 1, none⟩ = some (.string key)) :=
    hid (fun w' hb => ⟨(H4.out.below hb).c0, (H4.out.below hb).c1, (H4.out.below hb).ws 0 key rfl⟩)
  have HI0 : ∀ (V W' : World), Below (V.heap.size + 1) (V.alloc (.cells #[.string ⟨#[115, 101, 116]⟩, .string ⟨#[97, 100, 100]⟩, .string ⟨#[114, 101, 112, 108, 97, 99, 101]⟩, .string ⟨#[97, 112, 112, 101, 110, 100]⟩, .string ⟨#[112, 114, 101, 112, 101, 110, 100]⟩] 9)) W' → Calls prog 349 #[.slice (some ⟨V.heap.size, 0, none⟩) 5 5, .string ⟨#[115, 101, 116]⟩] W' fun e w' => e = .returned (.int .i64 0) ∧ w' = W' :=
    (fun V W' hb => by
      have hm := (Made.cells V #[.string ⟨#[115, 101, 116]⟩, .string ⟨#[97, 100, 100]⟩, .string ⟨#[114, 101, 112, 108, 97, 99, 101]⟩, .string ⟨#[97, 112, 112, 101, 110, 100]⟩, .string ⟨#[112, 114, 101, 112, 101, 110, 100]⟩] 9).below (by simpa using hb)
      have := idx_modes ⟨#[115, 101, 116]⟩ hm.here
      rw [idx_set] at this
      exact this)
  have HIa := hid (HI0 w4 _ (Below.refl _ _).drew)
  have HIb := hid (fun o : Obj => HI0 (w4.alloc o) _ (Below.refl _ _).drew)
  have HIc := hid (fun o : Obj => HI0 w4 _ ((Below.refl _ _).alloc (by simp) o).drew)
  simp only [World.size_alloc] at HIb
  have HM := hid (fun W : World => modes_any W)
  clear HI0
  have MA := fun o : Obj => (((Made.cells (w4.alloc o) #[.int .i64 2, .int .i64 0, .string key, .string ⟨#[]⟩, .int .u32 (IntKind.u32.wrap v), .int .i64 x, .bool false, .int .u64 0, .bool false, .int .u64 0, .int .u64 0, .bool false, .bool false, .int .i64 0, .int .i64 0, .bool false] 56).drew).here)
  simp only [World.size_alloc] at MA
  have MB := fun o : Obj => (((Made.cells w4 #[.int .i64 2, .int .i64 0, .string key, .string ⟨#[]⟩, .int .u32 (IntKind.u32.wrap v), .int .i64 x, .bool false, .int .u64 0, .bool false, .int .u64 0, .int .u64 0, .bool false, .bool false, .int .i64 0, .int .i64 0, .bool false] 56).below (bA _ o)).drew.here)
  have HMA := hid MA
  have HMB := hid MB
  clear MA MB
  go_upto_region 10 with fail
  go_cut [11] from 63 to 80 (fun s11 wx => ∃ cb, s11 = .pointer (some ⟨cb, 0, none⟩) ∧ Hid (Made (cAt cb { cm0 with op := 2, key := key, flags := IntKind.u32.wrap v, exp := x }.vs 56) w4 wx))
  case first =>
    go_region_held3 (fun w' => w'.cell? ⟨lb, 0, none⟩ = some (.string ⟨#[115, 101, 116]⟩) ∧ w'.cell? ⟨lb, 1, none⟩ = some (.slice (some ⟨wb, 1, none⟩) 4 cap) ∧ w'.cell? ⟨wb, 1, none⟩ = some (.string key)) (first | exact HQ.out _ (by go_grown) | fail) (first
      | (go_at_call 350; refine (HM.out _).mono ?_; rintro e w5 ⟨rfl, rfl⟩)
      | (go_at_call 349; (first | (with_reducible refine HIa.out.mono ?_) | (with_reducible refine (HIb.out _).mono ?_) | (with_reducible refine (HIc.out _).mono ?_)); rintro e w6 ⟨rfl, rfl⟩))
    all_goals (go_wp2_with fail)
    all_goals (go_meet; refine ⟨_, rfl, hid ⟨?_, by go_grown, fun b hb => ?_⟩⟩)
    all_goals first
      | exact HMA.out _
      | exact HMB.out _
      | (have e1 : b = w4.heap.size + 1 := hb; omega)
      | (have e1 : b = w4.heap.size := hb; omega)
  case rest =>
    obtain ⟨cb, rfl, hcut⟩ := hcut
    have hu1 : u ≤ 1000 := by have := HNN.out.hn; have := HU.out.1; omega
    have hu0 : 0 ≤ u := by have := HU.out.1; omega
    have hv1 : v ≤ 4294967295 := by have := HNN.out.hf; have := HU.out.2; omega
    have hv0 : 0 ≤ v := by have := HU.out.2; omega
    have J1 := hid (((J0.out.below HB4.out).made hcut.out))
    have HX := hid (H4.out.below hcut.out.bel)
    have e1 : IntKind.u32.wrap v = v := by rw [IntKind.wrap_u32]; omega
    have e2 : IntKind.i64.wrap u = u := by rw [IntKind.wrap_i64]; omega
    have e3 : IntKind.i64.wrap (u + 2) = u + 2 := by rw [IntKind.wrap_i64]; omega
    rw [e1] at J1
    have z2 : wc.cell? ⟨cb, 2, none⟩ = some (.string key) := cA (J1.out.get 0 rfl) 2
    have y2 := HX.out.c2
    have y3 := HX.out.c3
    have yf := cZ (J1.out.get 2 rfl) 3
    have g1 : ¬ v > 4294967295 := by omega
    have g2 : ¬ u > 65536 := by omega
    have g3 : ¬ (behind.size : Int) < u + 2 := by have := HNB.out.1; have := HU.out.1; omega
    have HK := hid (fun w' => W2.key_any key w' (by have := HKS.out; unfold maxLen; omega))
    rw [HKY.out] at HK
    clear H4 HB4 J0 HIa HIb HIc HM HQ H0 HMA HMB hcut HP1 HP2 HP3 HO HC
    have HCS := hid (fun w' => Tryz.strings_CutSuffix (behind.extract 0 (u + 2).toNat) ⟨#[13, 10]⟩ w' (by have := HNB.out; simp; omega))
    have e4 : (u + 2).toNat = n + 2 := by have := HU.out.1; omega
    have e5 : Lib.hasSuffix (behind.extract 0 (u + 2).toNat).data.toList [13, 10] = true := by rw [e4]; exact HSF.out
    have HE4 := hid e4
    rw [show (⟨#[13, 10]⟩ : ByteArray).data.toList = [13, 10] from rfl] at HCS
    obtain ⟨val, hval⟩ : ∃ val : ByteArray, ⟨(Lib.trimSuffix (behind.extract 0 (u + 2).toNat).data.toList [13, 10]).toArray⟩ = val := ⟨_, rfl⟩
    rw [e5, hval] at HCS
    have HV := hid hval
    clear e4 e5 hval
    obtain ⟨k0, c0, k1, c1, k2, c2, k3, c3, k4, c4, k5, c5, k6, c6, k7, c7, k8, c8, k9, c9, k10, c10, k11, c11, k12, c12, k13, c13, k14, c14, k15, c15⟩ : caf16 wc cb (.int .i64 2) (.int .i64 0) (.string key) (.string ⟨#[]⟩) (.int .u32 v) (.int .i64 x) (.bool false) (.int .u64 0) (.bool false) (.int .u64 0) (.int .u64 0) (.bool false) (.bool false) (.int .i64 0) (.int .i64 0) (.bool false) := caf16' (J1.out.get 0 rfl)
    have hne : ¬ cb = lb := fun e => J1.out.apart (i := 0) (j := 2) rfl rfl (by decide) cb rfl e
    have hne2 : ¬ lb = cb := fun e => hne e.symm
    have J2 := J1.out.turn 2 rfl (cl_set (J1.out.get 2 rfl) 3 (.int .i64 (u + 2)))
    have J3 := J2.turn 0 rfl (cl_set (J2.get 0 rfl) 3 (.string val))
    have J4 := J3.made (rowEl_new _ #[.int .i64 2, .int .i64 0, .string key, .string val, .int .u32 v, .int .i64 x, .bool false, .int .u64 0, .bool false, .int .u64 0, .int .u64 0, .bool false, .bool false, .int .i64 0, .int .i64 0, .bool false] 56 16 rfl)
    have hsz : ((wc.setCell ⟨lb, 3, none⟩ (.int .i64 (u + 2))).setCell ⟨cb, 3, none⟩ (.string val)).heap.size = wc.heap.size := by simp
    rw [hsz] at J4
    have HD := hid (do_one (c := { cm0 with op := 2, key := key, flags := v, exp := x, value := val }) (J4.get 0 rfl) (cA (J4.get 3 rfl) 4) (by have := cell_lt y2; omega))
    have J5 := hid J4
    clear J2 J3 J4
    go_wp2_with (first
      | (go_at_call 164; refine (HK.out _).mono ?_; rintro e w6 ⟨rfl, rfl⟩)
      | (go_at_call 316; refine (HCS.out _).mono ?_; rintro e w6 ⟨rfl, rfl⟩)
      | (go_at_call 345; refine HD.out.mono ?_; rintro e w1 ⟨rfl, ht⟩
         have J6 := J5.out.turn 0 rfl ht
         have hb1 : (cAt N rq0 33).R w1 := J6.get 2 rfl
         obtain ⟨n0, p0, n1, p1, n2, p2, n3, p3, n4, p4, n5, p5, n6, p6, n7, p7, n8, p8, n9, p9, n10, p10⟩ : caf11 w1 N (.int .i64 0) (.slice none 0 0) (.bool false) (.bool false) (.string ⟨#[]⟩) (.string ⟨#[]⟩) (.int .i64 0) (.bool false) (.string ⟨#[]⟩) (.slice none 0 0) (.string ⟨#[]⟩) := caf11' (hb1)
         have J7 := hid J6
         clear J6 ht hb1
         simp only [reqV]))
    have hs := cl_sets N 33 (rq1 (.slice (some ⟨wc.heap.size, 0, none⟩) 1 1) false) 0 _ w1 (J7.out.get 2 rfl)
    have J8 := (J7.out.turn 2 rfl hs)
    rw [rq_set] at hs
    simp only [setsW, rq1] at hs J8
    simp only [List.set] at J8
    obtain ⟨hu, hv⟩ := HU.out
    subst hu hv
    have hval := HV.out
    rw [HE4.out] at hval
    subst hval
    refine ret_req2 (N := N) rfl rfl rfl hs.here ⟨_, rfl, ?_⟩
    exact ((J8.sub (.cons_cons _ (.cons _ (.cons _ (.cons_cons _ .slnil))))).perm (.swap _ _ _)).shut
end Go.Proofs.YtboehbfagnocpaaGreatDoor
