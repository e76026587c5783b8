/- b64.Decode: contract. -/
import Derived.Test.YtkajdnaanipngaaDoorE
import Derived.Test.YtkajdnaanipngaaDoorPd
namespace Go.Proofs.YtkajdnaanipngaaDoor
open Go.RowKit Go.PlainAid
set_option linter.unusedVariables false
set_option linter.unusedSimpArgs false

theorem trim_any (s : ByteArray) (w : World) (hs : s.size ≤ maxLen) : Calls Tryd.prog 18 #[.string s, .string ⟨#[61]⟩] w fun e w' => e = .returned (.string (P.bodyS s)) ∧ w = w' := by
  refine (Tryd.strings_TrimRight_one s 61 (by decide) w hs).mono ?_
  rintro e w' ⟨rfl, rfl⟩
  exact ⟨rfl, rfl⟩
theorem idx_nat : ∀ n : Nat, n < 256 → Lib.indexByte (ByteArray.mk #[65, 66, 67, 68, 69, 70, 71, 72, 73, 74, 75, 76, 77, 78, 79, 80, 81, 82, 83, 84, 85, 86, 87, 88, 89, 90, 97, 98, 99, 100, 101, 102, 103, 104, 105, 106, 107, 108, 109, 110, 111, 112, 113, 114, 115, 116, 117, 118, 119, 120, 121, 122, 48, 49, 50, 51, 52, 53, 54, 55, 56, 57, 43, 47]).data.toList ((n : Int).toNat.toUInt8) = P.val n := by decide +kernel
theorem index_any (c : Int) (h0 : 0 ≤ c) (h1 : c ≤ 255) (w : World) : Calls Tryd.prog 19 #[.string (ByteArray.mk #[65, 66, 67, 68, 69, 70, 71, 72, 73, 74, 75, 76, 77, 78, 79, 80, 81, 82, 83, 84, 85, 86, 87, 88, 89, 90, 97, 98, 99, 100, 101, 102, 103, 104, 105, 106, 107, 108, 109, 110, 111, 112, 113, 114, 115, 116, 117, 118, 119, 120, 121, 122, 48, 49, 50, 51, 52, 53, 54, 55, 56, 57, 43, 47]), .int .u8 c] w fun e w' => e = .returned (.int .i64 (P.val c)) ∧ w = w' := by
  obtain ⟨n, rfl⟩ := Int.eq_ofNat_of_zero_le h0
  refine (Tryd.strings_IndexByte _ (n : Int) w).mono ?_
  rintro e w' ⟨rfl, rfl⟩
  exact ⟨by rw [idx_nat n (by omega)], rfl⟩

def DecPost (s : ByteArray) (w : World) (e : Ending) (w' : World) : Prop := e = .returned (.tuple #[.string (P.decS s), .bool (P.okD s)]) ∧ Below w.heap.size w w'
theorem dec_ret_no {s : ByteArray} (h : P.okD s = false) {v : Value} (hv : v = .tuple #[.string ⟨#[]⟩, .bool false]) : Ending.returned v = Ending.returned (.tuple #[.string (P.decS s), .bool (P.okD s)]) := by rw [P.dec_no h, h, hv]
theorem dec_ret_yes {s : ByteArray} (h : P.okD s = true) {v : Value} (hv : v = .tuple #[.string (strOfNums (P.byts (P.dv s) (6 * P.bl s / 8))), .bool true]) : Ending.returned v = Ending.returned (.tuple #[.string (P.decS s), .bool (P.okD s)]) := by rw [P.dec_yes h, h, hv]

set_option maxRecDepth 100000 in
set_option maxHeartbeats 1000000 in
theorem decode_any (s : ByteArray) (w : World) (hs : s.size ≤ 1000000000) : Calls Tryd.prog 12 #[.string s] w (DecPost s w) := by
  obtain ⟨hb1, hb2, hb3, hb4⟩ := P.body_facts s
  by_cases c1 : s.size % 4 = 0
  · by_cases c2 : s.size - P.bl s ≤ 2
    · obtain ⟨n, hn⟩ : ∃ n, P.bl s = n := ⟨_, rfl⟩
      have hsz : (P.bodyS s).size = n := hn
      have hb := get_bt (P.bodyS s)
      have hle : n ≤ 1000000000 := by omega
      have c1' : (s.size : Int) % 4 = 0 := by omega
      have c2' : (s.size : Int) - (n : Int) ≤ 2 := by omega
      rw [hn] at hb1 hb2
      have H1 := Lib.hid (And.intro c1 (And.intro c2 hn))
      have H2 := Lib.hid hb2
      clear c1 c2 hn hb2 hb3 hb4
      have hsz' : (((P.bodyS s).size : Nat) : Int) = (n : Int) := by omega
      go_enter Tryd.func12, Tryd.ntmps12
      go_wp2_with (go_at_call 18; refine (trim_any s _ (by unfold maxLen; omega)).mono ?_; rintro e w' ⟨rfl, rfl⟩)
      clear c1'
      go_loopw [6, 7, 26] (fun v6 v7 v26 wr => ∃ (k : Nat) (x : Int), k ≤ n ∧ v26 = .int .i64 k ∧ v6 = .int .u32 x ∧ v7 = .int .i64 ((6 * k % 8 : Nat) : Int) ∧ 0 ≤ x ∧ x < 4294967296 ∧ (0 < k → x % 64 = P.dv s (k - 1)) ∧ (∀ i, i < k → 0 ≤ P.dv s i) ∧ Bd w (P.byts (P.dv s) (6 * k / 8)) wr) (fun _ _ i _ => n - (intOf i).toNat)
      case atStart => exact ⟨0, 0, Nat.zero_le _, rfl, rfl, rfl, by omega, by omega, fun h => absurd h (by omega), fun i hi => absurd hi (by omega), bd_new w⟩
      case round =>
        obtain ⟨k, x, hk, rfl, rfl, rfl, hx0, hx1, hxk, hall, hB⟩ := hrel
        by_cases hlt : k < n
        · have hltI : (k : Int) < (n : Int) := by omega
          have ebt : bt (P.bodyS s) k = bt s k := H2.out k hlt
          have hn0 := bt_nonneg s k
          have hl0 := bt_le s k
          have Hix : Hid (∀ w', Calls Tryd.prog 19 #[.string (ByteArray.mk #[65, 66, 67, 68, 69, 70, 71, 72, 73, 74, 75, 76, 77, 78, 79, 80, 81, 82, 83, 84, 85, 86, 87, 88, 89, 90, 97, 98, 99, 100, 101, 102, 103, 104, 105, 106, 107, 108, 109, 110, 111, 112, 113, 114, 115, 116, 117, 118, 119, 120, 121, 122, 48, 49, 50, 51, 52, 53, 54, 55, 56, 57, 43, 47]), .int .u8 (bt s k)] w' fun e w'' => e = .returned (.int .i64 (P.dv s k)) ∧ w' = w'') := Lib.hid (fun w' => index_any (bt s k) hn0 hl0 w')
          obtain ⟨d0, d1⟩ := P.dv_bound s k
          have Hall := Lib.hid hall
          clear hall
          obtain ⟨d, hd⟩ : ∃ d, P.dv s k = d := ⟨_, rfl⟩
          rw [hd] at d0 d1 Hix
          have Hd := Lib.hid hd
          clear hd
          by_cases hneg : d < 0
          · have Hno := Lib.hid (P.not_ok (s := s) (fun h => by have h1 := h.2.2.1 k (by rw [H1.out.2.2]; exact hlt); rw [Hd.out] at h1; omega))
            clear hxk
            go_wp2_with (go_at_call 19; refine (Hix.out _).mono ?_; rintro e w' ⟨rfl, rfl⟩)
            go_ret2
            exact ⟨dec_ret_no Hno.out rfl, hB.2⟩
          · have e6 := P.or6 x d hx0 hx1 (by omega) d1
            have ed : IntKind.u32.wrap d = d := by rw [IntKind.wrap_u32]; omega
            have ey0 : 0 ≤ x * 64 % 4294967296 + d := by omega
            have ey1 : x * 64 % 4294967296 + d < 4294967296 := by omega
            have Hey := Lib.hid (show (x * 64 % 4294967296 + d) % 64 = d by omega)
            have Hyp : Hid (0 < k → (x * 64 % 4294967296 + d) % 4096 = P.dv s (k - 1) * 64 + d) := Lib.hid (fun h => by have := hxk h; omega)
            have Hall2 : Hid (∀ i, i < k + 1 → 0 ≤ P.dv s i) := Lib.hid (fun i hi => by rcases Nat.lt_succ_iff_lt_or_eq.1 hi with h | rfl; exact Hall.out i h; rw [Hd.out]; omega)
            clear hxk
            obtain ⟨q, hq⟩ : ∃ q, k = 4 * q ∨ k = 4 * q + 1 ∨ k = 4 * q + 2 ∨ k = 4 * q + 3 := ⟨k / 4, by omega⟩
            rcases hq with hq | hq | hq | hq
            · have ep : ((6 * k % 8 : Nat) : Int) = 0 := by omega
              rw [ep]
              have Hq := Lib.hid hq
              have hB' : Bd w (P.byts (P.dv s) (3 * q)) wr := by rw [show 6 * k / 8 = 3 * q by omega] at hB; exact hB
              clear hq hB ep
              go_wp2_with (go_at_call 19; refine (Hix.out _).mono ?_; rintro e w' ⟨rfl, rfl⟩)
              go_roundw
              case rel => exact ⟨k + 1, x * 64 % 4294967296 + d, by omega, by go_num, rfl, by rw [show ((6 * (k + 1) % 8 : Nat) : Int) = 6 by have := Hq.out; omega], ey0, ey1, fun _ => by rw [Nat.add_sub_cancel, Hd.out]; exact Hey.out, Hall2.out, by rw [show 6 * (k + 1) / 8 = 3 * q by have := Hq.out; omega]; exact hB'⟩
              case measure => simp [intOf]; omega
            · have ep : ((6 * k % 8 : Nat) : Int) = 6 := by omega
              rw [ep]
              have Hq := Lib.hid hq
              have hB' : Bd w (P.byts (P.dv s) (3 * q)) wr := by rw [show 6 * k / 8 = 3 * q by omega] at hB; exact hB
              have ev : ((x * 64 % 4294967296 + d) / 16) % 256 = P.dx (P.dv s) (3 * q) := by
                have h1 := Hey.out
                have h2 := Hyp.out (by omega)
                have h3 := Hd.out
                rw [P.dx0]
                rw [show 4 * q + 1 = k by omega, show 4 * q = k - 1 by omega, h3]
                have h4 := Hall.out (k - 1) (by omega)
                have h5 := P.dv_bound s (k - 1)
                omega
              have ew : IntKind.u8.wrap ((x * 64 % 4294967296 + d) / 16) = P.dx (P.dv s) (3 * q) := by rw [IntKind.wrap_u8, ev]
              clear hq hB ep ev
              go_wp2_with (first | (go_at_call 19; refine (Hix.out _).mono ?_; rintro e w' ⟨rfl, rfl⟩) | fail)
              refine (bd_write hB' (P.dx (P.dv s) (3 * q)) (l' := P.byts (P.dv s) (3 * q + 1)) (by rw [P.byts_succ]) (by rw [P.byts_len]; have := Hq.out; omega)).mono ?_
              rintro e w2 ⟨rfl, hz⟩
              go_wp2_with (fail)
              go_roundw
              case rel => exact ⟨k + 1, x * 64 % 4294967296 + d, by omega, by go_num, rfl, by rw [show ((6 * (k + 1) % 8 : Nat) : Int) = 4 by have := Hq.out; omega], ey0, ey1, fun _ => by rw [Nat.add_sub_cancel, Hd.out]; exact Hey.out, Hall2.out, by rw [show 6 * (k + 1) / 8 = 3 * q + 1 by have := Hq.out; omega]; exact hz⟩
              case measure => simp [intOf]; omega
            · have ep : ((6 * k % 8 : Nat) : Int) = 4 := by omega
              rw [ep]
              have Hq := Lib.hid hq
              have hB' : Bd w (P.byts (P.dv s) (3 * q + 1)) wr := by rw [show 6 * k / 8 = 3 * q + 1 by omega] at hB; exact hB
              have ev : ((x * 64 % 4294967296 + d) / 4) % 256 = P.dx (P.dv s) (3 * q + 1) := by
                have h1 := Hey.out
                have h2 := Hyp.out (by omega)
                have h3 := Hd.out
                rw [P.dx1]
                rw [show 4 * q + 2 = k by omega, show 4 * q + 1 = k - 1 by omega, h3]
                have h4 := Hall.out (k - 1) (by omega)
                have h5 := P.dv_bound s (k - 1)
                omega
              have ew : IntKind.u8.wrap ((x * 64 % 4294967296 + d) / 4) = P.dx (P.dv s) (3 * q + 1) := by rw [IntKind.wrap_u8, ev]
              clear hq hB ep ev
              go_wp2_with (first | (go_at_call 19; refine (Hix.out _).mono ?_; rintro e w' ⟨rfl, rfl⟩) | fail)
              refine (bd_write hB' (P.dx (P.dv s) (3 * q + 1)) (l' := P.byts (P.dv s) (3 * q + 2)) (by rw [P.byts_succ]) (by rw [P.byts_len]; have := Hq.out; omega)).mono ?_
              rintro e w2 ⟨rfl, hz⟩
              go_wp2_with (fail)
              go_roundw
              case rel => exact ⟨k + 1, x * 64 % 4294967296 + d, by omega, by go_num, rfl, by rw [show ((6 * (k + 1) % 8 : Nat) : Int) = 2 by have := Hq.out; omega], ey0, ey1, fun _ => by rw [Nat.add_sub_cancel, Hd.out]; exact Hey.out, Hall2.out, by rw [show 6 * (k + 1) / 8 = 3 * q + 2 by have := Hq.out; omega]; exact hz⟩
              case measure => simp [intOf]; omega
            · have ep : ((6 * k % 8 : Nat) : Int) = 2 := by omega
              rw [ep]
              have Hq := Lib.hid hq
              have hB' : Bd w (P.byts (P.dv s) (3 * q + 2)) wr := by rw [show 6 * k / 8 = 3 * q + 2 by omega] at hB; exact hB
              have ev : ((x * 64 % 4294967296 + d)) % 256 = P.dx (P.dv s) (3 * q + 2) := by
                have h1 := Hey.out
                have h2 := Hyp.out (by omega)
                have h3 := Hd.out
                rw [P.dx2]
                rw [show 4 * q + 3 = k by omega, show 4 * q + 2 = k - 1 by omega, h3]
                have h4 := Hall.out (k - 1) (by omega)
                have h5 := P.dv_bound s (k - 1)
                omega
              have ew : IntKind.u8.wrap ((x * 64 % 4294967296 + d)) = P.dx (P.dv s) (3 * q + 2) := by rw [IntKind.wrap_u8, ev]
              clear hq hB ep ev
              go_wp2_with (first | (go_at_call 19; refine (Hix.out _).mono ?_; rintro e w' ⟨rfl, rfl⟩) | fail)
              refine (bd_write hB' (P.dx (P.dv s) (3 * q + 2)) (l' := P.byts (P.dv s) (3 * q + 3)) (by rw [P.byts_succ]) (by rw [P.byts_len]; have := Hq.out; omega)).mono ?_
              rintro e w2 ⟨rfl, hz⟩
              go_wp2_with (fail)
              go_roundw
              case rel => exact ⟨k + 1, x * 64 % 4294967296 + d, by omega, by go_num, rfl, by rw [show ((6 * (k + 1) % 8 : Nat) : Int) = 0 by have := Hq.out; omega], ey0, ey1, fun _ => by rw [Nat.add_sub_cancel, Hd.out]; exact Hey.out, Hall2.out, by rw [show 6 * (k + 1) / 8 = 3 * q + 3 by have := Hq.out; omega]; exact hz⟩
              case measure => simp [intOf]; omega
        · obtain rfl : k = n := by omega
          obtain ⟨q, hq⟩ : ∃ q, k = 4 * q ∨ k = 4 * q + 2 ∨ k = 4 * q + 3 := ⟨k / 4, by have := H1.out; omega⟩
          have Hall := Lib.hid hall
          clear hall hk hlt
          have Hby : Hid (∀ y ∈ P.byts (P.dv s) (6 * k / 8), 0 ≤ y ∧ y ≤ 255) := Lib.hid (fun y hy => by
            obtain ⟨j, hj, rfl⟩ := List.mem_map.1 hy
            have hj' := List.mem_range.1 hj
            exact P.dx_bound (n := k) (fun i hi => ⟨Hall.out i hi, (P.dv_bound s i).2⟩) (by omega))
          rcases hq with hq | hq | hq
          · have ep : ((6 * k % 8 : Nat) : Int) = 0 := by omega
            rw [ep]
            have ea := P.and0 x hx0 hx1
            have Hok := Lib.hid ((P.okD_iff s).2 ⟨H1.out.1, H1.out.2.1, fun i hi => Hall.out i (by rw [← H1.out.2.2]; exact hi), fun h => by rw [H1.out.2.2] at h; omega, fun h => by rw [H1.out.2.2] at h; omega⟩)
            clear hq ep hxk
            go_wp2_with (fail)
            refine (bd_string hB Hby.out (s := strOfNums (P.byts (P.dv s) (6 * P.bl s / 8))) (by rw [H1.out.2.2])).mono ?_
            rintro e w4 ⟨rfl, hb4'⟩
            go_wp2_with (fail)
            go_ret2
            exact ⟨dec_ret_yes Hok.out rfl, hb4'⟩
          · have ep : ((6 * k % 8 : Nat) : Int) = 4 := by omega
            rw [ep]
            have ea := P.and15 x hx0 hx1
            have hxk' := hxk (by omega)
            by_cases hz : P.dv s (k - 1) % 16 = 0
            · have hx16 : x % 16 = 0 := by omega
              have Hok := Lib.hid ((P.okD_iff s).2 ⟨H1.out.1, H1.out.2.1, fun i hi => Hall.out i (by rw [← H1.out.2.2]; exact hi), fun h => by rw [H1.out.2.2] at h ⊢; omega, fun h => by rw [H1.out.2.2] at h ⊢; omega⟩)
              clear hq ep hxk hxk' hz
              go_wp2_with (fail)
              refine (bd_string hB Hby.out (s := strOfNums (P.byts (P.dv s) (6 * P.bl s / 8))) (by rw [H1.out.2.2])).mono ?_
              rintro e w4 ⟨rfl, hb4'⟩
              go_wp2_with (fail)
              go_ret2
              exact ⟨dec_ret_yes Hok.out rfl, hb4'⟩
            · have hx16 : ¬ x % 16 = 0 := by omega
              have hx16b : (x % 16 == 0) = false := by simp; omega
              have Hno := Lib.hid (P.not_ok (s := s) (fun h => by have h1 := h.2.2.2.1; rw [H1.out.2.2] at h1; exact hz (h1 (by omega))))
              clear hq ep hxk hxk' hz
              go_wp2_with (fail)
              go_ret2
              exact ⟨dec_ret_no Hno.out rfl, hB.2⟩
          · have ep : ((6 * k % 8 : Nat) : Int) = 2 := by omega
            rw [ep]
            have ea := P.and3 x hx0 hx1
            have hxk' := hxk (by omega)
            by_cases hz : P.dv s (k - 1) % 4 = 0
            · have hx16 : x % 4 = 0 := by omega
              have Hok := Lib.hid ((P.okD_iff s).2 ⟨H1.out.1, H1.out.2.1, fun i hi => Hall.out i (by rw [← H1.out.2.2]; exact hi), fun h => by rw [H1.out.2.2] at h ⊢; omega, fun h => by rw [H1.out.2.2] at h ⊢; omega⟩)
              clear hq ep hxk hxk' hz
              go_wp2_with (fail)
              refine (bd_string hB Hby.out (s := strOfNums (P.byts (P.dv s) (6 * P.bl s / 8))) (by rw [H1.out.2.2])).mono ?_
              rintro e w4 ⟨rfl, hb4'⟩
              go_wp2_with (fail)
              go_ret2
              exact ⟨dec_ret_yes Hok.out rfl, hb4'⟩
            · have hx16 : ¬ x % 4 = 0 := by omega
              have hx16b : (x % 4 == 0) = false := by simp; omega
              have Hno := Lib.hid (P.not_ok (s := s) (fun h => by have h1 := h.2.2.2.2; rw [H1.out.2.2] at h1; exact hz (h1 (by omega))))
              clear hq ep hxk hxk' hz
              go_wp2_with (fail)
              go_ret2
              exact ⟨dec_ret_no Hno.out rfl, hB.2⟩
    · have Hno := Lib.hid (P.not_ok (s := s) (fun h => c2 h.2.1))
      have c1' : (s.size : Int) % 4 = 0 := by omega
      have c2' : 2 < (s.size : Int) - (P.bl s : Int) := by omega
      have hbl : (P.bodyS s).size = P.bl s := rfl
      clear hb2 hb3 hb4 c1 c2
      go_enter Tryd.func12, Tryd.ntmps12
      go_wp2_with (go_at_call 18; refine (trim_any s _ (by unfold maxLen; omega)).mono ?_; rintro e w' ⟨rfl, rfl⟩)
      go_ret2
      exact ⟨dec_ret_no Hno.out rfl, Below.refl _ _⟩
  · have Hno := Lib.hid (P.not_ok (s := s) (fun h => c1 h.1))
    have c1' : ¬ (s.size : Int) % 4 = 0 := by omega
    have c1b : ((s.size : Int) % 4 == 0) = false := by simp; omega
    clear hb2 hb3 hb4 c1
    go_enter Tryd.func12, Tryd.ntmps12
    go_wp2_with (go_at_call 18; refine (trim_any s _ (by unfold maxLen; omega)).mono ?_; rintro e w' ⟨rfl, rfl⟩)
    go_ret2
    exact ⟨dec_ret_no Hno.out rfl, Below.refl _ _⟩
end Go.Proofs.YtkajdnaanipngaaDoor
