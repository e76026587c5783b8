/- words.Key and ambryref02.Key: contracts. -/
import Derived.Test.YtfiicnajiefiaaaDoorRows
import Derived.Test.YtfiicnajiefiaaaDoorSh
import Derived.Test.YtfiicnajiefiaaaDoorP
import Derived.WalkKit
import Derived.WalkSpells
import Derived.WalkLawsBesides
import Derived.Lib.Hide
import Derived.Deep.QuietTactic
import Derived.BigQuiet
import Derived.Handy
import Derived.PlainAid
import Derived.Deep.DeepMust
namespace Go.Proofs.YtfiicnajiefiaaaDoor
open Go.RowKit Go.PlainAid
set_option linter.unusedVariables false
set_option linter.unusedSimpArgs false

theorem ret_int {k : IntKind} {a b : Int} (h : a = b) : Ending.returned (.int k a) = .returned (.int k b) := by rw [h]
theorem ret_bool {a b : Bool} (h : a = b) : Ending.returned (.bool a) = .returned (.bool b) := by rw [h]
theorem below_drewN {B : Nat} {a w : World} (h : Below B a w) (n : Nat) : Below B a (w.drewN n) := ⟨h.os, h.tape, h.output, h.size, h.block⟩

/-- is a text a key? -/
def keyB (s : ByteArray) : Bool := decide (1 ≤ s.size ∧ s.size ≤ 250 ∧ ∀ i, i < s.size → 32 < bt s i ∧ bt s i ≠ 127)

theorem toList_eq (s : ByteArray) : s.toList = s.data.toList := ByteArray.toList_eq s
theorem empty_of_size {s : ByteArray} (h : s.size = 0) : s.toList.isEmpty = true ∧ s.toList = [] := by
  have e : s.data.toList = [] := List.eq_nil_of_length_eq_zero (by simpa using h)
  rw [toList_eq, e]; exact ⟨rfl, rfl⟩
theorem nonempty_of_size {s : ByteArray} (h : 0 < s.size) : s.toList.isEmpty = false ∧ s.toList ≠ [] := by
  have e : s.data.toList ≠ [] := fun h0 => by
    have := congrArg List.length h0
    simp at this
    rw [this] at h
    exact absurd h (by decide)
  rw [toList_eq]; exact ⟨by simpa using e, e⟩
theorem key_no {s : ByteArray} (h : ¬ ∀ i, i < s.size → 32 < bt s i ∧ bt s i ≠ 127) : keyB s = false := by
  unfold keyB; apply decide_eq_false; exact fun ⟨_, _, h3⟩ => h h3
theorem key_len {s : ByteArray} (h : s.size = 0 ∨ 250 < s.size) : keyB s = false := by
  unfold keyB; apply decide_eq_false; rintro ⟨h1, h2, _⟩; omega
theorem key_eq {s : ByteArray} (h : 1 ≤ s.size) (h3 : ∀ i, i < s.size → 32 < bt s i ∧ bt s i ≠ 127) : keyB s = decide ((s.size : Int) ≤ 250) := by
  unfold keyB
  by_cases h2 : s.size ≤ 250
  · rw [decide_eq_true (by omega : (s.size : Int) ≤ 250)]; exact decide_eq_true ⟨h, h2, h3⟩
  · rw [decide_eq_false (by omega : ¬ (s.size : Int) ≤ 250)]; exact decide_eq_false (fun h' => h2 h'.2.1)
theorem key_yes {s : ByteArray} (h : 1 ≤ s.size) (h2 : s.size ≤ 250) (h3 : ∀ i, i < s.size → 32 < bt s i ∧ bt s i ≠ 127) : keyB s = true := by
  unfold keyB; exact decide_eq_true ⟨h, h2, h3⟩

set_option maxHeartbeats 400000 in
/-- words.Key -/
theorem key_any (s : ByteArray) (w : World) (hs : s.size ≤ maxLen) : Calls Tryd.prog 17 #[.string s] w fun e w' => e = .returned (.bool (keyB s)) ∧ w = w' := by
  unfold maxLen at hs
  have hb := get_bt s
  go_enter Tryd.func17, Tryd.ntmps17
  go_wp2
  go_loop [7] (fun i => ∃ k : Nat, k ≤ s.size ∧ i = .int .i64 k ∧ (∀ j, j < k → 32 < bt s j ∧ bt s j ≠ 127)) (fun i => s.size - (intOf i).toNat)
  case atStart => exact ⟨0, Nat.zero_le _, rfl, fun j hj => by omega⟩
  case round =>
    obtain ⟨k, hk, rfl, hall⟩ := hrel
    have Hall := Lib.hid hall
    clear hall
    by_cases hlt : k < s.size
    · have hn := bt_nonneg s k
      have hl := bt_le s k
      by_cases h1 : bt s k ≤ 32
      · go_wp2
        go_ret
        exact ⟨ret_bool (key_no (fun h => by have := (h k hlt).1; omega)).symm, rfl⟩
      · by_cases h2 : bt s k = 127
        · have h2' : (bt s k == 127) = true := by simp [h2]
          have H2 := Lib.hid h2
          clear h2
          go_wp2
          go_ret
          exact ⟨ret_bool (key_no (fun h => (h k hlt).2 H2.out)).symm, rfl⟩
        · have h2' : (bt s k == 127) = false := by simp [h2]
          have H2 := Lib.hid h2
          clear h2
          go_wp2
          go_round
          case rel =>
            refine ⟨k + 1, by omega, by go_num, fun j hj => ?_⟩
            rcases Nat.lt_succ_iff_lt_or_eq.1 hj with h | rfl
            · exact Hall.out j h
            · exact ⟨by omega, H2.out⟩
          case measure => simp [intOf]; omega
    · by_cases h0 : s.size = 0
      · obtain ⟨e1, e2⟩ := empty_of_size h0
        have Hk0 := Lib.hid (key_len (s := s) (by omega))
        have h0' : decide (1 ≤ (s.size : Int)) = false := by simp; omega
        clear h0
        go_wp2
        go_ret
        exact ⟨ret_bool Hk0.out.symm, rfl⟩
      · obtain ⟨e1, e2⟩ := nonempty_of_size (s := s) (by omega)
        have h1' : 1 ≤ s.size := by omega
        have Hky := Lib.hid (key_eq (s := s) (by omega) (fun i hi => Hall.out i (by omega)))
        go_wp2
        go_ret
        exact ⟨ret_bool Hky.out.symm, rfl⟩

set_option maxHeartbeats 400000 in
/-- ambryref02.Key -/
theorem refKey_any (s : ByteArray) (w : World) (hs : s.size ≤ maxLen) : Calls Tryd.prog 18 #[.string s] w fun e w' => e = .returned (.bool (keyB s)) ∧ w = w' := by
  unfold maxLen at hs
  have hb := get_bt s
  go_enter Tryd.func18, Tryd.ntmps18
  go_wp2
  go_loop [3] (fun i => ∃ k : Nat, k ≤ s.size ∧ i = .int .i64 k ∧ (∀ j, j < k → 32 < bt s j ∧ bt s j ≠ 127)) (fun i => s.size - (intOf i).toNat)
  case atStart => exact ⟨0, Nat.zero_le _, rfl, fun j hj => by omega⟩
  case round =>
    obtain ⟨k, hk, rfl, hall⟩ := hrel
    have Hall := Lib.hid hall
    clear hall
    by_cases hlt : k < s.size
    · have hn := bt_nonneg s k
      have hl := bt_le s k
      by_cases h1 : bt s k ≤ 32
      · go_wp2
        go_ret
        exact ⟨ret_bool (key_no (fun h => by have := (h k hlt).1; omega)).symm, rfl⟩
      · by_cases h2 : bt s k = 127
        · have h2' : (bt s k == 127) = true := by simp [h2]
          have H2 := Lib.hid h2
          clear h2
          go_wp2
          go_ret
          exact ⟨ret_bool (key_no (fun h => (h k hlt).2 H2.out)).symm, rfl⟩
        · have h2' : (bt s k == 127) = false := by simp [h2]
          have H2 := Lib.hid h2
          clear h2
          go_wp2
          go_round
          case rel =>
            refine ⟨k + 1, by omega, by go_num, fun j hj => ?_⟩
            rcases Nat.lt_succ_iff_lt_or_eq.1 hj with h | rfl
            · exact Hall.out j h
            · exact ⟨by omega, H2.out⟩
          case measure => simp [intOf]; omega
    · by_cases h0 : s.size = 0
      · obtain ⟨e1, e2⟩ := empty_of_size h0
        have Hk0 := Lib.hid (key_len (s := s) (by omega))
        have h0' : decide (1 ≤ (s.size : Int)) = false := by simp; omega
        clear h0
        go_wp2
        go_ret
        exact ⟨ret_bool Hk0.out.symm, rfl⟩
      · obtain ⟨e1, e2⟩ := nonempty_of_size (s := s) (by omega)
        have h1' : 1 ≤ s.size := by omega
        have Hky := Lib.hid (key_eq (s := s) (by omega) (fun i hi => Hall.out i (by omega)))
        go_wp2
        go_ret
        exact ⟨ret_bool Hky.out.symm, rfl⟩

end Go.Proofs.YtfiicnajiefiaaaDoor
