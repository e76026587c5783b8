/- Tsc. -/
import Derived.Test.YtboehbfagnocpaaGreatDoorVai
import Derived.Test.YtboehbfagnocpaaGreatDoorVaq
set_option linter.unusedVariables false
set_option linter.unusedSimpArgs false
set_option maxRecDepth 100000
namespace Go.Proofs.YtboehbfagnocpaaGreatDoor
open Go.RowKit Go.PlainAid Go.Shelf
set_option maxHeartbeats 4000000 in
theorem store_cas {w : World} {lb wb cap f n tn : Nat} {x : Int} {key fl ex ln tk behind : ByteArray} (hL : (cellsAt lb #[.string ⟨#[99, 97, 115]⟩, .slice (some ⟨wb, 1, none⟩) 5 cap, .string behind, .int .i64 0, .bool false] 395).R w) (hws : ∀ i x, [key, fl, ex, ln, tk][i]? = some x → w.cell? ⟨wb, 1 + i, none⟩ = some (.string x)) (hn : LnN fl ex ln f n x) (htk : Dg tk 20) (hpt : Lib.parseUintB 64 tk.data.toList = .ok tn) (hkey : W2.keyB key = true) (hks : key.size ≤ 250)
    (hlast : (tk.toList == [110, 111, 114, 101, 112, 108, 121]) = false) (hb : n + 2 ≤ behind.size) (hbm : behind.size ≤ 100000) (hs : Lib.hasSuffix (behind.extract 0 (n + 2)).data.toList [13, 10] = true) :
    Calls Tryz.prog 319 #[.pointer (some ⟨lb, 0, none⟩)] w fun e w' => ∃ g, e = .returned (.tuple #[reqV 1 (.slice (some ⟨g, 0, none⟩) 1 1) false false, .bool false]) ∧
      Turn (cellsAt lb #[.string ⟨#[99, 97, 115]⟩, .slice (some ⟨wb, 1, none⟩) 5 cap, .string behind, .int .i64 0, .bool false] 395)
        (many [cellsAt lb #[.string ⟨#[99, 97, 115]⟩, .slice (some ⟨wb, 1, none⟩) 5 cap, .string behind, .int .i64 (n + 2 : Nat), .bool false] 395,
          rowAt (.slice (some ⟨g, 0, none⟩) 1 1) 56 16 1 { cm0 with op := 2, key := key, flags := f, exp := x, cas := tn, hasCas := true, value := ⟨(Lib.trimSuffix (behind.extract 0 (n + 2)).data.toList [13, 10]).toArray⟩, recache := -1 }.vs.toList]) w w' := by
  have h : LnF lb wb 5 cap ⟨#[99, 97, 115]⟩ behind [key, fl, ex, ln, tk] w := ⟨cells_at hL 0, cells_at hL 1, cells_at hL 2, cells_at hL 3, cells_at hL 4, hws⟩
  have I0 := (Hav.start hL).cells rq0 33
  obtain ⟨N, hN⟩ : ∃ N, w.heap.size = N := ⟨_, rfl⟩
  have B0 := below_alloc' w (.cells rq0 33)
  obtain ⟨W0, hW0⟩ : ∃ W0, w.alloc (.cells rq0 33) = W0 := ⟨_, rfl⟩
  rw [hW0] at B0 I0
  rw [hN] at I0
  have J0 := Lib.hid I0
  clear I0 hL hws
  have H0 := Lib.hid (h.below B0)
  have a0 := H0.out.c0
  have a1 := H0.out.c1
  have w3 : W0.cell? ⟨wb, 4, none⟩ = some (.string ln) := H0.out.ws 3 ln rfl
  have HO := Lib.hid (off_no (n := 4) H0.out.c1 (H0.out.ws 4 tk rfl) hlast (by decide))
  have w5t : W0.cell? ⟨wb, 5, none⟩ = some (.string tk) := H0.out.ws 4 tk rfl
  have HP4 := Lib.hid (fun w' => parse_yes htk hpt w')
  obtain ⟨tv, htv⟩ : ∃ tv : Int, (tn : Int) = tv := ⟨_, rfl⟩
  rw [htv] at HP4
  have HTV := Lib.hid htv
  clear htk hpt htv
  have HC := Lib.hid (count_ok H0.out.c1 5 5 (by decide) (by decide))
  have HP1 := Lib.hid (fun w' => parse_yes hn.dl hn.pl w')
  have HP2 := Lib.hid (fun w' => parse_yes hn.df hn.pf w')
  have HP3 := Lib.hid (fun w' => seconds_ok hn.de hn.te hn.pe hn.h1 hn.h2 w')
  obtain ⟨u, hu⟩ : ∃ u : Int, (n : Int) = u := ⟨_, rfl⟩
  obtain ⟨v, hv⟩ : ∃ v : Int, (f : Int) = v := ⟨_, rfl⟩
  have hnn : u ≤ 1073741824 := by have := hn.hn; omega
  have HNB := Lib.hid (And.intro hb hbm)
  rw [hu] at HP1
  rw [hv] at HP2
  have B0' := Lib.hid B0
  have HU := Lib.hid (And.intro hu hv)
  have HNN := Lib.hid hn
  have HKS := Lib.hid hks
  have HKY := Lib.hid hkey
  have HSF := Lib.hid hs
  clear h B0 hu hv hn hb hbm hks hs hkey
  go_enter Tryz.func319, Tryz.ntmps319
  go_wp2_with (fail)
  rw [show w.alloc (.cells #[.int .i64 0, .slice none 0 0, .bool false, .bool false, .string ⟨#[]⟩, .string ⟨#[]⟩, .int .i64 0, .bool false, .string ⟨#[]⟩, .slice none 0 0, .string ⟨#[]⟩] 33) = W0 from hW0]
  clear hW0
  go_wp2_with (first
    | (go_at_call 347; refine HO.out.mono ?_; rintro e w1 ⟨rfl, rfl⟩)
    | (go_at_call 342; refine HC.out.mono ?_; rintro e w1 ⟨rfl, rfl⟩))
  go_at_call 173
  refine (HP1.out _).mono ?_
  rintro e w1 ⟨rfl, hb1⟩
  have H1 := Lib.hid (H0.out.below hb1)
  have b1 := H1.out.c1
  have x1 : w1.cell? ⟨wb, 2, none⟩ = some (.string fl) := H1.out.ws 1 fl rfl
  have HB1 := Lib.hid hb1
  clear hb1
  go_wp2_with (first
    | (go_at_call 344; refine (need_ok _ _).mono ?_; rintro e w1 ⟨rfl, rfl⟩))
  go_at_call 173
  refine (HP2.out _).mono ?_
  rintro e w2 ⟨rfl, hb2⟩
  have H2 := Lib.hid (H1.out.below hb2)
  have b2 := H2.out.c1
  have x2 : w2.cell? ⟨wb, 3, none⟩ = some (.string ex) := H2.out.ws 2 ex rfl
  have HB2 := Lib.hid (HB1.out.trans (hb2.mono HB1.out.size))
  clear hb2 HB1 x1 b1 H1
  go_wp2_with (fail)
  go_at_call 348
  refine (HP3.out _).mono ?_
  rintro e w4 ⟨rfl, hb3⟩
  have H4 := Lib.hid (H2.out.below hb3)
  have HB4 := Lib.hid (HB2.out.trans (hb3.mono HB2.out.size))
  clear hb3 HB2 x2 b2 H2
  go_wp2_with (fail)
  have q0 := H4.out.c0
  have q1 := H4.out.c1
  have qk : w4.cell? ⟨wb, 1, none⟩ = some (.string key) := H4.out.ws 0 key rfl
  have HQ : Hid (∀ w', Below w4.heap.size w4 w' → w'.cell? ⟨lb, 0, none⟩ = some (.string ⟨#[99, 97, 115]⟩) ∧ w'.cell? ⟨lb, 1, none⟩ = some (.slice (some ⟨wb, 1, none⟩) 5 cap) ∧ w'.cell? ⟨wb, 1, none⟩ = some (.string key)) :=
    Lib.hid (fun w' hb => ⟨(H4.out.below hb).c0, (H4.out.below hb).c1, (H4.out.below hb).ws 0 key rfl⟩)
  have HI0 : ∀ (V W' : World), Below (V.heap.size + 1) (V.alloc (.cells #[.string ⟨#[115, 101, 116]⟩, .string ⟨#[97, 100, 100]⟩, .string ⟨#[114, 101, 112, 108, 97, 99, 101]⟩, .string ⟨#[97, 112, 112, 101, 110, 100]⟩, .string ⟨#[112, 114, 101, 112, 101, 110, 100]⟩] 9)) W' → Calls Tryz.prog 349 #[.slice (some ⟨V.heap.size, 0, none⟩) 5 5, .string ⟨#[99, 97, 115]⟩] W' fun e w' => e = .returned (.int .i64 (-1)) ∧ w' = W' :=
    (fun V W' hb => by
      have hm := (Made.cells V #[.string ⟨#[115, 101, 116]⟩, .string ⟨#[97, 100, 100]⟩, .string ⟨#[114, 101, 112, 108, 97, 99, 101]⟩, .string ⟨#[97, 112, 112, 101, 110, 100]⟩, .string ⟨#[112, 114, 101, 112, 101, 110, 100]⟩] 9).below (by simpa using hb)
      have := idx_modes ⟨#[99, 97, 115]⟩ hm.here
      rw [idx_cas] at this
      exact this)
  have HIa := Lib.hid (HI0 w4 _ (Below.refl _ _).drew)
  have HIb := Lib.hid (fun o : Obj => HI0 (w4.alloc o) _ (Below.refl _ _).drew)
  have HIc := Lib.hid (fun o : Obj => HI0 w4 _ ((Below.refl _ _).alloc (by simp) o).drew)
  simp only [World.size_alloc] at HIb
  have HM := Lib.hid (fun W : World => modes_any W)
  clear HI0
  have MA := fun o : Obj => (((Made.cells (w4.alloc o) #[.int .i64 2, .int .i64 0, .string key, .string ⟨#[]⟩, .int .u32 (IntKind.u32.wrap v), .int .i64 x, .bool false, .int .u64 0, .bool true, .int .u64 0, .int .u64 0, .bool false, .bool false, .int .i64 0, .int .i64 0, .bool false] 56).drew).here)
  simp only [World.size_alloc] at MA
  have MB := fun o : Obj => (((Made.cells w4 #[.int .i64 2, .int .i64 0, .string key, .string ⟨#[]⟩, .int .u32 (IntKind.u32.wrap v), .int .i64 x, .bool false, .int .u64 0, .bool true, .int .u64 0, .int .u64 0, .bool false, .bool false, .int .i64 0, .int .i64 0, .bool false] 56).below (below_alloc' _ o)).drew.here)
  have HMA := Lib.hid MA
  have HMB := Lib.hid MB
  clear MA MB
  go_upto_region 10 with fail
  go_cut [11] from 63 to 80 (fun s11 wx => ∃ cb, s11 = .pointer (some ⟨cb, 0, none⟩) ∧ Hid (Made (cellsAt cb { cm0 with op := 2, key := key, flags := IntKind.u32.wrap v, exp := x, hasCas := true }.vs 56) w4 wx))
  case first =>
    go_region_held3 (fun w' => w'.cell? ⟨lb, 0, none⟩ = some (.string ⟨#[99, 97, 115]⟩) ∧ w'.cell? ⟨lb, 1, none⟩ = some (.slice (some ⟨wb, 1, none⟩) 5 cap) ∧ w'.cell? ⟨wb, 1, none⟩ = some (.string key)) (first | exact HQ.out _ (by go_grown) | fail) (first
      | (go_at_call 350; refine (HM.out _).mono ?_; rintro e w5 ⟨rfl, rfl⟩)
      | (go_at_call 349; (first | (with_reducible refine HIa.out.mono ?_) | (with_reducible refine (HIb.out _).mono ?_) | (with_reducible refine (HIc.out _).mono ?_)); rintro e w6 ⟨rfl, rfl⟩))
    all_goals (go_wp2_with fail)
    all_goals (go_meet; refine ⟨_, rfl, Lib.hid ⟨?_, by go_grown, fun b hb => ?_⟩⟩)
    all_goals first
      | exact HMA.out _
      | exact HMB.out _
      | (have e1 : b = w4.heap.size + 1 := hb; omega)
      | (have e1 : b = w4.heap.size := hb; omega)
  case rest =>
    obtain ⟨cb, rfl, hcut⟩ := hcut
    have hu1 : u ≤ 1000 := by have := HNN.out.hn; have := HU.out.1; omega
    have hu0 : 0 ≤ u := by have := HU.out.1; omega
    have hv1 : v ≤ 4294967295 := by have := HNN.out.hf; have := HU.out.2; omega
    have hv0 : 0 ≤ v := by have := HU.out.2; omega
    have HX0 := H4.out.below hcut.out.bel
    have v1 := HX0.c1
    have v2 : wc.cell? ⟨wb, 5, none⟩ = some (.string tk) := HX0.ws 4 tk rfl
    clear HX0
    go_wp2_with (fail)
    go_at_call 173
    refine (HP4.out _).mono ?_
    rintro e wd ⟨rfl, hbd⟩
    have hcut2 := Lib.hid (hcut.out.below hbd)
    clear v1 v2 hbd
    have J1 := Lib.hid (((J0.out.below HB4.out).made hcut2.out))
    have HX := Lib.hid (H4.out.below hcut2.out.bel)
    have e1 : IntKind.u32.wrap v = v := by rw [IntKind.wrap_u32]; omega
    have e2 : IntKind.i64.wrap u = u := by rw [IntKind.wrap_i64]; omega
    have e3 : IntKind.i64.wrap (u + 2) = u + 2 := by rw [IntKind.wrap_i64]; omega
    rw [e1] at J1
    have z2 : wd.cell? ⟨cb, 2, none⟩ = some (.string key) := cells_at (J1.out.get 0 rfl) 2
    have y2 := HX.out.c2
    have y3 := HX.out.c3
    have yf := cells_fz (J1.out.get 2 rfl) 3
    have g1 : ¬ v > 4294967295 := by omega
    have g2 : ¬ u > 65536 := by omega
    have g3 : ¬ (behind.size : Int) < u + 2 := by have := HNB.out.1; have := HU.out.1; omega
    have HK := Lib.hid (fun w' => W2.key_any key w' (by have := HKS.out; unfold maxLen; omega))
    rw [HKY.out] at HK
    clear H4 HB4 J0 HIa HIb HIc HM HQ H0 HMA HMB hcut hcut2 HP1 HP2 HP3 HO HC
    have HCS := Lib.hid (fun w' => Tryz.strings_CutSuffix (behind.extract 0 (u + 2).toNat) ⟨#[13, 10]⟩ w' (by have := HNB.out; simp; omega))
    have e4 : (u + 2).toNat = n + 2 := by have := HU.out.1; omega
    have e5 : Lib.hasSuffix (behind.extract 0 (u + 2).toNat).data.toList [13, 10] = true := by rw [e4]; exact HSF.out
    have HE4 := Lib.hid e4
    rw [show (⟨#[13, 10]⟩ : ByteArray).data.toList = [13, 10] from rfl] at HCS
    obtain ⟨val, hval⟩ : ∃ val : ByteArray, ⟨(Lib.trimSuffix (behind.extract 0 (u + 2).toNat).data.toList [13, 10]).toArray⟩ = val := ⟨_, rfl⟩
    rw [e5, hval] at HCS
    have HV := Lib.hid hval
    clear e4 e5 hval
    obtain ⟨k0, c0, k1, c1, k2, c2, k3, c3, k4, c4, k5, c5, k6, c6, k7, c7, k8, c8, k9, c9, k10, c10, k11, c11, k12, c12, k13, c13, k14, c14, k15, c15⟩ : caf16 wd cb (.int .i64 2) (.int .i64 0) (.string key) (.string ⟨#[]⟩) (.int .u32 v) (.int .i64 x) (.bool false) (.int .u64 0) (.bool true) (.int .u64 0) (.int .u64 0) (.bool false) (.bool false) (.int .i64 0) (.int .i64 0) (.bool false) := caf16' (J1.out.get 0 rfl)
    have hne : ¬ cb = lb := fun e => J1.out.apart (i := 0) (j := 2) rfl rfl (by decide) cb rfl e
    have hne2 : ¬ lb = cb := fun e => hne e.symm
    have J1b := J1.out.turn 0 rfl (cl_set (J1.out.get 0 rfl) 7 (.int .u64 tv))
    have J2 := J1b.turn 2 rfl (cl_set (J1b.get 2 rfl) 3 (.int .i64 (u + 2)))
    have J3 := J2.turn 0 rfl (cl_set (J2.get 0 rfl) 3 (.string val))
    have J4 := J3.made (rowEl_new _ #[.int .i64 2, .int .i64 0, .string key, .string val, .int .u32 v, .int .i64 x, .bool false, .int .u64 tv, .bool true, .int .u64 0, .int .u64 0, .bool false, .bool false, .int .i64 0, .int .i64 0, .bool false] 56 16 rfl)
    have hsz : (((wd.setCell ⟨cb, 7, none⟩ (.int .u64 tv)).setCell ⟨lb, 3, none⟩ (.int .i64 (u + 2))).setCell ⟨cb, 3, none⟩ (.string val)).heap.size = wd.heap.size := by simp
    rw [hsz] at J4
    have HD := Lib.hid (do_one (c := { cm0 with op := 2, key := key, flags := v, exp := x, cas := tv, hasCas := true, value := val }) (J4.get 0 rfl) (cells_at (J4.get 3 rfl) 4) (by have := cell_lt y2; omega))
    have J5 := Lib.hid J4
    clear J1b J2 J3 J4
    go_wp2_with (first
      | (go_at_call 164; refine (HK.out _).mono ?_; rintro e w6 ⟨rfl, rfl⟩)
      | (go_at_call 316; refine (HCS.out _).mono ?_; rintro e w6 ⟨rfl, rfl⟩)
      | (go_at_call 345; refine HD.out.mono ?_; rintro e w1 ⟨rfl, ht⟩
         have J6 := J5.out.turn 0 rfl ht
         have hb1 : (cellsAt N rq0 33).R w1 := J6.get 2 rfl
         obtain ⟨n0, p0, n1, p1, n2, p2, n3, p3, n4, p4, n5, p5, n6, p6, n7, p7, n8, p8, n9, p9, n10, p10⟩ : caf11 w1 N (.int .i64 0) (.slice none 0 0) (.bool false) (.bool false) (.string ⟨#[]⟩) (.string ⟨#[]⟩) (.int .i64 0) (.bool false) (.string ⟨#[]⟩) (.slice none 0 0) (.string ⟨#[]⟩) := caf11' (hb1)
         have J7 := Lib.hid J6
         clear J6 ht hb1
         simp only [reqV]))
    have hs := cl_sets N 33 (rq1 (.slice (some ⟨wd.heap.size, 0, none⟩) 1 1) false) 0 _ w1 (J7.out.get 2 rfl)
    have J8 := (J7.out.turn 2 rfl hs)
    rw [rq_set] at hs
    simp only [setsW, rq1] at hs J8
    simp only [List.set] at J8
    obtain ⟨hu, hv⟩ := HU.out
    have htv := HTV.out
    subst hu hv htv
    have hval := HV.out
    rw [HE4.out] at hval
    subst hval
    refine ret_req2 (N := N) rfl rfl rfl hs.here ⟨_, rfl, ?_⟩
    exact ((J8.sub (.cons_cons _ (.cons _ (.cons _ (.cons_cons _ .slnil))))).perm (.swap _ _ _)).shut
end Go.Proofs.YtboehbfagnocpaaGreatDoor
