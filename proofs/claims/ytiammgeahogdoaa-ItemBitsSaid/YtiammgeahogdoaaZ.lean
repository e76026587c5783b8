/- ambryref08.Decode: contracts. -/
import Derived.Test.YtiammgeahogdoaaX
namespace Go.Proofs.Ytiammgeahogdoaa
open Go.RowKit Go.PlainAid
set_option linter.unusedVariables false
set_option linter.unusedSimpArgs false

set_option maxRecDepth 100000 in
set_option maxHeartbeats 1000000 in
theorem refDecode_len (a : Option Addr) (n cap : Nat) (l : List Int) (w : World) (hln : l.length = n) (hn : n < 40) :
    Calls Try.prog 15 #[.slice a n cap] w (DecPost l w) := by
  have Hr := Lib.hid (refused_len (l := l) (by omega))
  clear hln
  go_enter Try.func15, Try.ntmps15
  go_wp2_with (fail)
  go_returns
  exact decPost_no Hr.out (by go_grown)

theorem num3 {l : List Int} (hn : 4 ≤ l.length) : P.num (sub l 1 3) = l[1]?.getD 0 + 256 * (l[2]?.getD 0) + 65536 * (l[3]?.getD 0) := by
  match l, hn with
  | a :: b :: c :: d :: l, _ => simp [sub, P.num]; omega

theorem refused_num {l : List Int} {t : Int} (hb : P.Bytes l) (hn : 4 ≤ l.length) (ht : P.num (sub l 1 3) = t) (h : 3 < t) : decR l = noIt ∧ decE l = 9 := by
  rw [num3 hn] at ht
  have b1 := hb.at 1
  have b2 := hb.at 2
  have b3 := hb.at 3
  exact refused_bits (by omega)

set_option maxRecDepth 100000 in
set_option maxHeartbeats 1000000 in
theorem refDecode_no (bk o n cap kz : Nat) (t z : Int) (l : List Int) (w : World) (hln : l.length = n) (hn : 40 ≤ n) (hcap : n ≤ cap) (hcm : cap ≤ maxLen) (hb : P.Bytes l)
    (hc : ∀ i, i < n → w.cell? ⟨bk, o + i, none⟩ = some (.int .u8 (l[i]?.getD 0)))
    (hkz : l[0]?.getD 0 = (kz : Int)) (ht : P.num (sub l 1 3) = t) (hz : P.num (sub l 8 8) = z) (hfit : 3 < t ∨ 65536 < z ∨ (n : Int) - 40 < (kz : Int) + z) :
    Calls Try.prog 15 #[.slice (some ⟨bk, o, none⟩) n cap] w (DecPost l w) := by
  have hz0 : 0 ≤ z := by rw [← hz]; exact (P.num_bound _ ((hb.drop 8).take 8)).1
  have ht0 : 0 ≤ t := by rw [← ht]; exact (P.num_bound _ ((hb.drop 1).take 3)).1
  have Hr : Hid (decR l = noIt ∧ decE l = 9) := by
    rcases hfit with h | h | h
    · exact Lib.hid (refused_num hb (by omega) ht h)
    · exact Lib.hid (refused_val (by omega))
    · obtain ⟨vz, rfl⟩ := Int.eq_ofNat_of_zero_le hz0
      exact Lib.hid (refused_fit hln hkz hz (by omega))
  have hobk : bk < w.heap.size := World.block_lt_of_cell? _ _ (hc 0 (by omega))
  have c0 := hc 0 (by omega)
  rw [hkz] at c0
  have a0 := (hb.at 0).2
  rw [hkz] at a0
  have hnm : n ≤ 9223372036854775807 := by unfold maxLen at hcm; omega
  have i40 : (40 : Int) ≤ (n : Int) := by omega
  have r8 : ¬ cap = 8 := by omega
  have r1 : ¬ cap = 1 := by omega
  have Hrb := Lib.hid (rb_part (by rw [hln]; exact hc) 8 8 (cap - 8) (by rw [hln]; omega))
  have Hrb1 := Lib.hid (rb_part (by rw [hln]; exact hc) 1 3 (cap - 1) (by rw [hln]; omega))
  have Hl8 : Hid ((sub l 8 8).length ≤ 8) := Lib.hid (by rw [sub_len (by omega)]; omega)
  have Hl3 : Hid ((sub l 1 3).length ≤ 8) := Lib.hid (by rw [sub_len (by omega)]; omega)
  have Hb8 : Hid (P.Bytes (sub l 8 8)) := Lib.hid ((hb.drop 8).take 8)
  have Hb3 : Hid (P.Bytes (sub l 1 3)) := Lib.hid ((hb.drop 1).take 3)
  have Hz := Lib.hid hz
  have Ht := Lib.hid ht
  clear hc hln hkz hz hb ht
  simp only [Nat.add_zero] at c0
  by_cases hb1 : 3 < t
  · clear hfit
    go_enter Try.func15, Try.ntmps15
    go_wp2_with (fail)
    refine (number_w Ht.out (Hrb1.out.below (below_new w _)) Hb3.out Hl3.out).mono ?_
    rintro e w' ⟨rfl, rfl⟩
    go_wp2_with (fail)
    refine (number_w Hz.out (Hrb.out.below (below_new w _)) Hb8.out Hl8.out).mono ?_
    rintro e w' ⟨rfl, rfl⟩
    go_wp2_with (fail)
    go_returns
    exact decPost_no Hr.out (by go_grown)
  by_cases hb2 : 65536 < z
  · clear hfit
    go_enter Try.func15, Try.ntmps15
    go_wp2_with (fail)
    refine (number_w Ht.out (Hrb1.out.below (below_new w _)) Hb3.out Hl3.out).mono ?_
    rintro e w' ⟨rfl, rfl⟩
    go_wp2_with (fail)
    refine (number_w Hz.out (Hrb.out.below (below_new w _)) Hb8.out Hl8.out).mono ?_
    rintro e w' ⟨rfl, rfl⟩
    go_wp2_with (fail)
    go_returns
    exact decPost_no Hr.out (by go_grown)
  · have hf : (n : Int) - 40 < (kz : Int) + z := by omega
    clear hfit
    go_enter Try.func15, Try.ntmps15
    go_wp2_with (fail)
    refine (number_w Ht.out (Hrb1.out.below (below_new w _)) Hb3.out Hl3.out).mono ?_
    rintro e w' ⟨rfl, rfl⟩
    go_wp2_with (fail)
    refine (number_w Hz.out (Hrb.out.below (below_new w _)) Hb8.out Hl8.out).mono ?_
    rintro e w' ⟨rfl, rfl⟩
    go_wp2_with (fail)
    go_returns
    exact decPost_no Hr.out (by go_grown)
end Go.Proofs.Ytiammgeahogdoaa
