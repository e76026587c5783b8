/- Trv. -/
import Derived.Test.YtboehbfagnocpaaGreatDoorUaz
set_option linter.unusedVariables false
set_option linter.unusedSimpArgs false
set_option maxRecDepth 100000
open Go.Proofs.Tryz
open Go.Lib (hid)
namespace Go.Proofs.YtboehbfagnocpaaGreatDoor
open Go.RowKit Go.PlainAid Go.Shelf
def vaW : ByteArray := ⟨#[86, 65, 76, 85, 69]⟩
def valL (key v : ByteArray) (fl : Nat) : ByteArray := W2.joinB [vaW, key, dec fl, dec v.size] ++ ⟨#[13, 10]⟩ ++ v ++ ⟨#[13, 10]⟩
theorem IsB.below {T E : TypeId} {B b : Nat} {bs : List Value} {w w' : World} (h : Lib.IsBuilder T E B b bs w) (hb : Below w.heap.size w w') : Lib.IsBuilder T E B b bs w' := by
  rcases h with ⟨h1, v, h2, h3, h4⟩ | ⟨h1, v, h2, h3, h4⟩
  · exact .inl ⟨h1, v, (hb.5 b (Array.getElem?_eq_some_iff.1 h2).1).trans h2, W2.own_below h3 hb, h4⟩
  · exact .inr ⟨h1, v, (hb.5 b (Array.getElem?_eq_some_iff.1 h2).1).trans h2, W2.own_below h3 hb, h4⟩
theorem dec_sz : ∀ n, n < 100 → (dec n).size ≤ 2 := by decide +kernel
theorem valL_size {key v : ByteArray} {fl : Nat} (hfl : fl < 100) (hv : v.size ≤ 20) (hk : key.size = 1) : (valL key v fl).size ≤ 200 := by
  have h1 := dec_sz fl hfl
  have h2 := dec_sz v.size (by omega)
  have h3 : vaW.size = 5 := rfl
  have h4 := W2.joinB_size [vaW, key, dec fl, dec v.size]
  simp only [W2.sumS] at h4
  unfold valL
  simp only [ByteArray.size_append]
  show (W2.joinB _).size + 2 + v.size + 2 ≤ 200
  omega
set_option maxHeartbeats 4000000 in
theorem values_ok {ab ac fl : Nat} {key v : ByteArray} {aca ala num : Int} {w : World} (hfl : fl < 100) (hv : v.size ≤ 20) (hk : key.size = 1)
    (ha : (rowAt (.slice (some ⟨ab, 0, none⟩) 1 ac) 52 13 1 (ansF 1 key fl v aca ala num).toList).R w) :
    Calls prog 259 #[.slice (some ⟨ab, 0, none⟩) 1 ac, .bool false] w fun e w' => e = .returned (.string (valL key v fl ++ ⟨#[69, 78, 68, 13, 10]⟩)) ∧ Below w.heap.size w w' := by
  have J := (Hav.start ha).cells #[.pointer none, .slice none 0 0] 366
  have hB := Lib.fresh_isBuilder 366 5 w
  have hbW := bA w (.cells #[.pointer none, .slice none 0 0] 366)
  obtain ⟨b, hb⟩ : ∃ b, w.heap.size = b := ⟨_, rfl⟩
  obtain ⟨W, hW⟩ : ∃ W, w.alloc (.cells #[.pointer none, .slice none 0 0] 366) = W := ⟨_, rfl⟩
  have hsz : W.heap.size = b + 1 := by rw [← hW]; simp [hb]
  rw [hb, hW] at J hB hbW
  obtain ⟨a0, a1, a2, a3, a4, a5, a6, a7, a8, a9, a10, a11, a12⟩ : ra13 W ab (.int .i64 1) (.string key) (.int .u32 fl) (.string v) (.int .i64 0) (.int .u64 aca) (.int .i64 ala) (.bool false) (.bool false) (.int .u64 num) (.bool false) (.bool false) (.bool false) := ra13' (J.get 1 rfl)
  have HB := hid hB
  have HBW := hid hbW
  have HSZ := hid hsz
  have HT1 := hid (fun w' => text_small hfl w')
  have HT2 := hid (fun w' => text_small (n := v.size) (by omega) w')
  have e1 : IntKind.u64.wrap (fl : Int) = fl := by rw [IntKind.wrap_u64]; omega
  have e2 : IntKind.u64.wrap (v.size : Int) = v.size := by rw [IntKind.wrap_u64]; omega
  have HV := hid (And.intro hfl (And.intro hv hk))
  have HWB := hid hb
  clear J hB hbW ha hfl hv hk hsz
  rw [hb]
  go_enter func259, ntmps259
  go_wp2_with (fail)
  try rw [hb]
  try rw [hW]
  clear hW hb
  go_loopw [12] (fun i wr => (i = .int .i64 0 ∧ wr = W) ∨ (i = .int .i64 1 ∧ Hid (Lib.IsBuilder 366 5 b b (Lib.strCells (valL key v fl)) wr) ∧ Hid (Below b w wr))) (fun i _ => 1 - (intOf i).toNat)
  case atStart => exact .inl ⟨rfl, rfl⟩
  case round =>
    rcases hrel with ⟨rfl, hr⟩ | ⟨rfl, hB2, hb2⟩
    · subst hr
      go_upto_region 7 with fail
      obtain ⟨W1, hW1⟩ : ∃ W1, wr.alloc (.cells #[.int .i64 1, .string key, .int .u32 fl, .string v, .int .i64 0, .int .u64 aca, .int .i64 ala, .bool false, .bool false, .int .u64 num, .bool false, .bool false, .bool false] 52) = W1 := ⟨_, rfl⟩
      have hs1 : W1.heap.size = wr.heap.size + 1 := by rw [← hW1]; simp
      have hb1 : Below wr.heap.size wr W1 := by rw [← hW1]; exact bA _ _
      have c1 := cells_new W1 #[.string key, .int .u32 fl, .string v, .int .i64 0, .int .u64 aca, .int .i64 ala, .bool false, .bool false] 50
      have hb2 := bA W1 (.cells #[.string key, .int .u32 fl, .string v, .int .i64 0, .int .u64 aca, .int .i64 ala, .bool false, .bool false] 50)
      obtain ⟨X, hX⟩ : ∃ X, W1.alloc (.cells #[.string key, .int .u32 fl, .string v, .int .i64 0, .int .u64 aca, .int .i64 ala, .bool false, .bool false] 50) = X := ⟨_, rfl⟩
      obtain ⟨xb, hxb⟩ : ∃ xb, wr.heap.size + 1 = xb := ⟨_, rfl⟩
      rw [hW1, hX, hxb]
      rw [hX, hs1, hxb] at c1
      rw [hX] at hb2
      have hbX : Below wr.heap.size wr X := hb1.trans (hb2.mono hb1.size)
      have HBX : Hid (Lib.IsBuilder 366 5 b b [] X ∧ Below b w X) := hid ⟨IsB.below HB.out hbX, HBW.out.trans (hbX.mono (by have := HSZ.out; omega))⟩
      have x0 : X.cell? ⟨xb, 0, none⟩ = some (.string key) := cA c1 0
      have x1 : X.cell? ⟨xb, 1, none⟩ = some (.int .u32 fl) := cA c1 1
      have x2 : X.cell? ⟨xb, 2, none⟩ = some (.string v) := cA c1 2
      have HX : Hid (∀ w', Below X.heap.size X w' → w'.cell? ⟨xb, 0, none⟩ = some (.string key) ∧ w'.cell? ⟨xb, 1, none⟩ = some (.int .u32 fl) ∧ w'.cell? ⟨xb, 2, none⟩ = some (.string v)) := hid (fun w' hb => by
        have h := (cAt xb #[.string key, .int .u32 fl, .string v, .int .i64 0, .int .u64 aca, .int .i64 ala, .bool false, .bool false] 50).keep c1 (Tch.of_below (fun _ => False) hb) (fun _ _ x => x)
        exact ⟨cA h 0, cA h 1, cA h 2⟩)
      have MR := hid (row_new X #[.string vaW, .string key, .string (dec fl), .string (dec v.size)] 9 4 rfl (by decide))
      clear hW1 hX hs1 hb1 hb2 c1 hbX hxb a0 a1 a2 a3 a4 a5 a6 a7 a8 a9 a10 a11 a12 HB HBW
      go_region_held3 (fun w' => w'.cell? ⟨xb, 0, none⟩ = some (.string key) ∧ w'.cell? ⟨xb, 1, none⟩ = some (.int .u32 fl) ∧ w'.cell? ⟨xb, 2, none⟩ = some (.string v)) (first | exact ⟨x0, x1, x2⟩ | exact HX.out _ (by go_grown) | fail) (first
        | (go_at_call 27; (first | (with_reducible refine (HT1.out _).mono ?_) | (with_reducible refine (HT2.out _).mono ?_)); rintro e w1 ⟨rfl, rfl⟩))
      rename_i hHeld
      have MY := MR.out.drew
      obtain ⟨R, hR⟩ : ∃ R, X.heap.size = R := ⟨_, rfl⟩
      obtain ⟨Y, hY⟩ : ∃ Y, (X.alloc (.cells #[.string vaW, .string key, .string (dec fl), .string (dec v.size)] 9)).drew = Y := ⟨_, rfl⟩
      rw [hY, hR] at MY
      rw [show (X.alloc (.cells #[.string ⟨#[86, 65, 76, 85, 69]⟩, .string key, .string (dec fl), .string (dec v.size)] 9)).drew = Y from hY, hR]
      have hzs : W2.sumS [vaW, key, dec fl, dec v.size] ≤ 100 := by
        obtain ⟨h1, h2, h3⟩ := HV.out
        have := dec_sz fl h1
        have := dec_sz v.size (by omega)
        have : vaW.size = 5 := rfl
        simp only [W2.sumS]
        omega
      have hjz := W2.joinB_size [vaW, key, dec fl, dec v.size]
      have hrs : W2.RS Y (.slice (some ⟨R, 0, none⟩) 4 4) [vaW, key, dec fl, dec v.size] := W2.rs_own (base := 0) MY.here
      have HJo : Hid (∀ W', Below Y.heap.size Y W' → Calls prog 293 #[.slice (some ⟨R, 0, none⟩) 4 4] W' fun e w' => e = .returned (.string (W2.joinB [vaW, key, dec fl, dec v.size])) ∧ Below W'.heap.size W' w') :=
        hid (fun W' hb => W2.join_any (W2.RS.below hrs hb) (by decide) (by omega))
      obtain ⟨j, hj⟩ : ∃ j, W2.joinB [vaW, key, dec fl, dec v.size] = j := ⟨_, rfl⟩
      rw [hj] at HJo hjz
      have hvz := HV.out.2.1
      have z1 : j.size + (⟨#[13, 10]⟩ : ByteArray).size ≤ 300 := by show j.size + 2 ≤ 300; omega
      have z2 : (j ++ ⟨#[13, 10]⟩).size + v.size ≤ 300 := by rw [ByteArray.size_append]; show j.size + 2 + v.size ≤ 300; omega
      have z3 : (j ++ ⟨#[13, 10]⟩ ++ v).size + (⟨#[13, 10]⟩ : ByteArray).size ≤ 300 := by rw [ByteArray.size_append, ByteArray.size_append]; show j.size + 2 + v.size + 2 ≤ 300; omega
      have hl : j ++ ⟨#[13, 10]⟩ ++ v ++ ⟨#[13, 10]⟩ = valL key v fl := by unfold valL; rw [hj]
      have HL := hid hl
      have z4 : (valL key v fl).size ≤ 400 ∧ 0 < (valL key v fl).size := by
        rw [← hl]
        simp only [ByteArray.size_append]
        show j.size + 2 + v.size + 2 ≤ 400 ∧ 0 < j.size + 2 + v.size + 2
        omega
      have HYB : Hid (∀ W', Below Y.heap.size Y W' → Lib.IsBuilder 366 5 b b [] W' ∧ Below b w W') := hid (fun W' hb => by
        have hsz := HBX.out.2.size
        have hwb := HWB.out
        have h1 := MY.bel.trans (hb.mono MY.bel.size)
        exact ⟨IsB.below HBX.out.1 h1, HBX.out.2.trans (h1.mono (by omega))⟩)
      have HWr : Hid (∀ W', Below Y.heap.size Y W' → Calls prog 261 #[.pointer (some ⟨b, 0, none⟩), .string (valL key v fl)] W' fun e w' => e = .returned (.tuple #[.int .i64 (valL key v fl).size, .nilIface]) ∧ (Lib.IsBuilder 366 5 b b (Lib.strCells (valL key v fl)) w' ∧ Below b w w')) := hid (fun W' hb => by
        obtain ⟨h1, h2⟩ := HYB.out W' hb
        have h3 := h2.size
        have hwb := HWB.out
        refine (writeString_any b b [] (valL key v fl) W' h1 (by simp; omega) z4.2 (by omega)).mono ?_
        rintro e w' ⟨rfl, h4, h5⟩
        exact ⟨rfl, by simpa using h4, h2.trans h5⟩)
      have HX2 : Hid (∀ w', Below Y.heap.size Y w' → w'.cell? ⟨xb, 2, none⟩ = some (.string v)) := hid (fun w' hb => (HX.out w' (MY.bel.trans (hb.mono MY.bel.size))).2.2)
      have y2 : Y.cell? ⟨xb, 2, none⟩ = some (.string v) := HX2.out Y (Below.refl _ _)
      clear hHeld MR HX HBX x0 x1 x2 MY hrs hY hR hzs hjz hj hvz hl z4
      go_wp2_with (fail)
      go_region_with (first
        | (go_at_call 293; refine (HJo.out _ (by go_grown)).mono ?_; rintro e w4 ⟨rfl, hb4⟩; have hbb : Below Y.heap.size Y w4 := Below.trans (by go_grown) (hb4.mono (by simp)); have HB4 := hid hbb; have y4 := HX2.out w4 hbb; clear hb4 hbb)
        | (rw [HL.out]; go_at_call 261; refine (HWr.out _ (by exact HB4.out)).mono ?_; rintro e w5 ⟨rfl, h5, hb5⟩; have H5 := hid h5; have HB5 := hid hb5; clear h5 hb5))
      all_goals (go_wp2_with fail)
      all_goals go_roundw
      all_goals first
        | exact .inr ⟨by first | rfl | trivial | simp, H5, HB5⟩
        | simp [intOf]
    · have c0 := hb2
      have HWr : Hid (Calls prog 261 #[.pointer (some ⟨b, 0, none⟩), .string ⟨#[69, 78, 68, 13, 10]⟩] wr fun e w' => e = .returned (.tuple #[.int .i64 (5 : Nat), .nilIface]) ∧ (Lib.IsBuilder 366 5 b b (Lib.byteCells (valL key v fl ++ ⟨#[69, 78, 68, 13, 10]⟩).data.toList) w' ∧ Below b w w')) := hid (by
        have h3 := hb2.out.size
        have hwb := HWB.out
        refine (writeString_any b b _ ⟨#[69, 78, 68, 13, 10]⟩ wr hB2.out ?_ (by decide) (by omega)).mono ?_
        · rw [Lib.strCells_length]
          have := valL_size HV.out.1 HV.out.2.1 HV.out.2.2
          show _ + 5 ≤ _
          omega
        · rintro e w' ⟨rfl, h4, h5⟩
          refine ⟨rfl, ?_, hb2.out.trans h5⟩
          simpa [Lib.strCells, Lib.byteCells, ByteArray.data_append] using h4)
      have HStr : Hid (∀ W', Lib.IsBuilder 366 5 b b (Lib.byteCells (valL key v fl ++ ⟨#[69, 78, 68, 13, 10]⟩).data.toList) W' ∧ Below b w W' → Calls prog 262 #[.pointer (some ⟨b, 0, none⟩)] W' fun e w' => e = .returned (.string (valL key v fl ++ ⟨#[69, 78, 68, 13, 10]⟩)) ∧ Below b w w') := hid (fun W' h => by
        have h3 := h.2.size
        have hwb := HWB.out
        refine (Tryz.Builder_String_any b b _ W' h.1 (by omega)).mono ?_
        rintro e w' ⟨rfl, h4⟩
        exact ⟨rfl, h.2.trans h4⟩)
      clear hb2 hB2 c0
      go_wp2_with (first
        | (go_at_call 261; refine HWr.out.mono ?_; rintro e w5 ⟨rfl, h5⟩; have H5 := hid h5; clear h5)
        | (go_at_call 262; refine (HStr.out _ H5.out).mono ?_; rintro e w6 ⟨rfl, h6⟩))
      go_ret
      exact ⟨rfl, h6⟩
theorem reply_get {fl : Nat} {key v : ByteArray} {aca ala num : Int} {cb cc ab ac : Nat} {w : World} (hfl : fl < 100) (hv : v.size ≤ 20) (hk : key.size = 1) (hc : w.cell? ⟨cb, 0, none⟩ = some (.int .i64 1))
    (ha : (rowAt (.slice (some ⟨ab, 0, none⟩) 1 ac) 52 13 1 (ansF 1 key fl v aca ala num).toList).R w) :
    Calls prog 205 #[reqV 1 (.slice (some ⟨cb, 0, none⟩) 1 cc) false false, .slice (some ⟨ab, 0, none⟩) 1 ac] w fun e w' => e = .returned (.string (valL key v fl ++ ⟨#[69, 78, 68, 13, 10]⟩)) ∧ Below w.heap.size w w' := by
  have hcl := cell_lt hc
  have J := (Hav.start ha).cells #[.int .i64 1, .slice (some ⟨cb, 0, none⟩) 1 cc, .bool false, .bool false, .string ⟨#[]⟩, .string ⟨#[]⟩, .int .i64 0, .bool false, .string ⟨#[]⟩, .slice none 0 0, .string ⟨#[]⟩] 33
  have hb := bA w (.cells #[.int .i64 1, .slice (some ⟨cb, 0, none⟩) 1 cc, .bool false, .bool false, .string ⟨#[]⟩, .string ⟨#[]⟩, .int .i64 0, .bool false, .string ⟨#[]⟩, .slice none 0 0, .string ⟨#[]⟩] 33)
  have c0 := (hb.cell (p := ⟨cb, 0, none⟩) hcl).trans hc
  obtain ⟨N, hN⟩ : ∃ N, w.heap.size = N := ⟨_, rfl⟩
  obtain ⟨W, hW⟩ : ∃ W, w.alloc (.cells #[.int .i64 1, .slice (some ⟨cb, 0, none⟩) 1 cc, .bool false, .bool false, .string ⟨#[]⟩, .string ⟨#[]⟩, .int .i64 0, .bool false, .string ⟨#[]⟩, .slice none 0 0, .string ⟨#[]⟩] 33) = W := ⟨_, rfl⟩
  rw [hN, hW] at J
  rw [hW] at c0 hb
  have HV := hid (fun m => values_ok (w := W.drewN m) hfl hv hk ((J.drewN m).get 1 rfl))
  have HV0 := hid (values_ok (w := W) hfl hv hk (J.get 1 rfl))
  have HW := hid hW
  have HB := hid hb
  obtain ⟨r0, r1, r2, r3, r4, r5, r6, r7, r8, r9, r10⟩ : ca11 W N (.int .i64 1) (.slice (some ⟨cb, 0, none⟩) 1 cc) (.bool false) (.bool false) (.string ⟨#[]⟩) (.string ⟨#[]⟩) (.int .i64 0) (.bool false) (.string ⟨#[]⟩) (.slice none 0 0) (.string ⟨#[]⟩) := ca11' (J.get 0 rfl)
  clear J hc ha hcl hW hb
  unfold reqV
  go_enter func205, ntmps205
  go_upto_region 1 with fail
  rw [HW.out]
  clear HW hN
  go_wp2_with (go_at_call 259; refine HV0.out.mono ?_; rintro e w1 ⟨rfl, hb1⟩)
  go_ret
  exact ⟨rfl, HB.out.trans (hb1.mono HB.out.size)⟩
set_option maxHeartbeats 2000000 in
theorem values_no {ab ac : Nat} {ak av : ByteArray} {afl aca ala num : Int} {w : World}
    (ha : (rowAt (.slice (some ⟨ab, 0, none⟩) 1 ac) 52 13 1 (ansF 5 ak afl av aca ala num).toList).R w) :
    Calls prog 259 #[.slice (some ⟨ab, 0, none⟩) 1 ac, .bool false] w fun e w' => e = .returned (.string ⟨#[69, 78, 68, 13, 10]⟩) ∧ Below w.heap.size w w' := by
  have J := (Hav.start ha).cells #[.pointer none, .slice none 0 0] 366
  have hB := Lib.fresh_isBuilder 366 5 w
  have hbW := bA w (.cells #[.pointer none, .slice none 0 0] 366)
  obtain ⟨b, hb⟩ : ∃ b, w.heap.size = b := ⟨_, rfl⟩
  obtain ⟨W, hW⟩ : ∃ W, w.alloc (.cells #[.pointer none, .slice none 0 0] 366) = W := ⟨_, rfl⟩
  have hsz : W.heap.size = b + 1 := by rw [← hW]; simp [hb]
  rw [hb, hW] at J hB hbW
  obtain ⟨a0, a1, a2, a3, a4, a5, a6, a7, a8, a9, a10, a11, a12⟩ : ra13 W ab (.int .i64 5) (.string ak) (.int .u32 afl) (.string av) (.int .i64 0) (.int .u64 aca) (.int .i64 ala) (.bool false) (.bool false) (.int .u64 num) (.bool false) (.bool false) (.bool false) := ra13' (J.get 1 rfl)
  have HB := hid hB
  have HBW := hid hbW
  have HWB := hid hb
  have HSZ := hid hsz
  clear J hB hbW ha hsz
  rw [hb]
  go_enter func259, ntmps259
  go_wp2_with (fail)
  try rw [hb]
  try rw [hW]
  clear hW hb
  go_loopw [12] (fun i wr => (i = .int .i64 0 ∧ wr = W) ∨ (i = .int .i64 1 ∧ Hid (Lib.IsBuilder 366 5 b b [] wr) ∧ Hid (Below b w wr))) (fun i _ => 1 - (intOf i).toNat)
  case atStart => exact .inl ⟨rfl, rfl⟩
  case round =>
    rcases hrel with ⟨rfl, hr⟩ | ⟨rfl, hB2, hb2⟩
    · subst hr
      go_wp2_with (fail)
      go_roundw
      case rel =>
        refine .inr ⟨by first | rfl | trivial | simp, hid (IsB.below HB.out (bA _ _)), hid (HBW.out.trans ((bA _ _).mono (by have := HSZ.out; omega)))⟩
      case measure => simp [intOf]
    · have HWr : Hid (Calls prog 261 #[.pointer (some ⟨b, 0, none⟩), .string ⟨#[69, 78, 68, 13, 10]⟩] wr fun e w' => e = .returned (.tuple #[.int .i64 (5 : Nat), .nilIface]) ∧ (Lib.IsBuilder 366 5 b b (Lib.byteCells (⟨#[69, 78, 68, 13, 10]⟩ : ByteArray).data.toList) w' ∧ Below b w w')) := hid (by
        have h3 := hb2.out.size
        have hwb := HWB.out
        refine (writeString_any b b [] ⟨#[69, 78, 68, 13, 10]⟩ wr hB2.out (by decide) (by decide) (by omega)).mono ?_
        rintro e w' ⟨rfl, h4, h5⟩
        exact ⟨rfl, h4, hb2.out.trans h5⟩)
      have HStr : Hid (∀ W', Lib.IsBuilder 366 5 b b (Lib.byteCells (⟨#[69, 78, 68, 13, 10]⟩ : ByteArray).data.toList) W' ∧ Below b w W' → Calls prog 262 #[.pointer (some ⟨b, 0, none⟩)] W' fun e w' => e = .returned (.string ⟨#[69, 78, 68, 13, 10]⟩) ∧ Below b w w') := hid (fun W' h => by
        have h3 := h.2.size
        have hwb := HWB.out
        refine (Tryz.Builder_String_any b b _ W' h.1 (by omega)).mono ?_
        rintro e w' ⟨rfl, h4⟩
        exact ⟨rfl, h.2.trans h4⟩)
      clear hb2 hB2
      go_wp2_with (first
        | (go_at_call 261; refine HWr.out.mono ?_; rintro e w5 ⟨rfl, h5⟩; have H5 := hid h5; clear h5)
        | (go_at_call 262; refine (HStr.out _ H5.out).mono ?_; rintro e w6 ⟨rfl, h6⟩))
      go_ret
      exact ⟨rfl, h6⟩
theorem reply_gno {ak av : ByteArray} {afl aca ala num : Int} {cb cc ab ac : Nat} {w : World} (hc : w.cell? ⟨cb, 0, none⟩ = some (.int .i64 1))
    (ha : (rowAt (.slice (some ⟨ab, 0, none⟩) 1 ac) 52 13 1 (ansF 5 ak afl av aca ala num).toList).R w) :
    Calls prog 205 #[reqV 1 (.slice (some ⟨cb, 0, none⟩) 1 cc) false false, .slice (some ⟨ab, 0, none⟩) 1 ac] w fun e w' => e = .returned (.string (⟨#[69, 78, 68, 13, 10]⟩)) ∧ Below w.heap.size w w' := by
  have hcl := cell_lt hc
  have J := (Hav.start ha).cells #[.int .i64 1, .slice (some ⟨cb, 0, none⟩) 1 cc, .bool false, .bool false, .string ⟨#[]⟩, .string ⟨#[]⟩, .int .i64 0, .bool false, .string ⟨#[]⟩, .slice none 0 0, .string ⟨#[]⟩] 33
  have hb := bA w (.cells #[.int .i64 1, .slice (some ⟨cb, 0, none⟩) 1 cc, .bool false, .bool false, .string ⟨#[]⟩, .string ⟨#[]⟩, .int .i64 0, .bool false, .string ⟨#[]⟩, .slice none 0 0, .string ⟨#[]⟩] 33)
  have c0 := (hb.cell (p := ⟨cb, 0, none⟩) hcl).trans hc
  obtain ⟨N, hN⟩ : ∃ N, w.heap.size = N := ⟨_, rfl⟩
  obtain ⟨W, hW⟩ : ∃ W, w.alloc (.cells #[.int .i64 1, .slice (some ⟨cb, 0, none⟩) 1 cc, .bool false, .bool false, .string ⟨#[]⟩, .string ⟨#[]⟩, .int .i64 0, .bool false, .string ⟨#[]⟩, .slice none 0 0, .string ⟨#[]⟩] 33) = W := ⟨_, rfl⟩
  rw [hN, hW] at J
  rw [hW] at c0 hb
  have HV := hid (fun m => values_no (w := W.drewN m) ((J.drewN m).get 1 rfl))
  have HV0 := hid (values_no (w := W) (J.get 1 rfl))
  have HW := hid hW
  have HB := hid hb
  obtain ⟨r0, r1, r2, r3, r4, r5, r6, r7, r8, r9, r10⟩ : ca11 W N (.int .i64 1) (.slice (some ⟨cb, 0, none⟩) 1 cc) (.bool false) (.bool false) (.string ⟨#[]⟩) (.string ⟨#[]⟩) (.int .i64 0) (.bool false) (.string ⟨#[]⟩) (.slice none 0 0) (.string ⟨#[]⟩) := ca11' (J.get 0 rfl)
  clear J hc ha hcl hW hb
  unfold reqV
  go_enter func205, ntmps205
  go_upto_region 1 with fail
  rw [HW.out]
  clear HW hN
  go_wp2_with (go_at_call 259; refine HV0.out.mono ?_; rintro e w1 ⟨rfl, hb1⟩)
  go_ret
  exact ⟨rfl, HB.out.trans (hb1.mono HB.out.size)⟩
end Go.Proofs.YtboehbfagnocpaaGreatDoor
