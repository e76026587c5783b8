/- base64, read back: plain functions and facts; no program in sight. -/
import Derived.Test.YtkajdnaanipngaaDoorP
import Derived.Lib.TrimByte
import Derived.Lib.Bytealg
namespace Go.Proofs.YtkajdnaanipngaaDoor.P
open Go.PlainAid
set_option linter.unusedVariables false

theorem trim_facts (l : List UInt8) (c : UInt8) : ∃ k, k ≤ l.length ∧ Lib.trimRightB l c = l.take k ∧ (∀ (j : Nat) b, k ≤ j → l[j]? = some b → b = c) ∧ (∀ b, 0 < k → l[k - 1]? = some b → b ≠ c) := by
  unfold Lib.trimRightB
  generalize hr : l.reverse = r
  have hl : l = r.reverse := by rw [← hr, List.reverse_reverse]
  subst hl
  clear hr
  induction r with
  | nil => exact ⟨0, by simp, by simp, fun j b _ h => by simp at h, fun b h => absurd h (by omega)⟩
  | cons a r ih =>
    by_cases h : a = c
    · subst h
      obtain ⟨k, hk, he, h1, h2⟩ := ih
      simp only [List.length_reverse] at hk
      refine ⟨k, by simp; omega, ?_, ?_, ?_⟩
      · rw [List.dropWhile_cons, if_pos (by simp), he, List.reverse_cons, List.take_append_of_le_length (by simpa using hk)]
      · intro j b hj hb
        rw [List.reverse_cons] at hb
        by_cases hlt : j < r.reverse.length
        · rw [List.getElem?_append_left hlt] at hb; exact h1 j b hj hb
        · rw [List.getElem?_append_right (by omega)] at hb
          have : j - r.reverse.length = 0 := by
            have := (List.getElem?_eq_some_iff.1 hb).1
            simp at this
            simpa using this
          rw [this] at hb
          simpa using hb.symm
      · intro b h0 hb
        rw [List.reverse_cons, List.getElem?_append_left (by simp; omega)] at hb
        exact h2 b h0 hb
    · refine ⟨r.length + 1, by simp, ?_, ?_, ?_⟩
      · rw [List.dropWhile_cons, if_neg (by simpa using h)]
        rw [List.take_of_length_le (by simp)]
      · intro j b hj hb
        have := (List.getElem?_eq_some_iff.1 hb).1
        simp at this; omega
      · intro b _ hb
        rw [List.reverse_cons, Nat.add_sub_cancel, List.getElem?_append_right (by simp)] at hb
        simp at hb
        subst hb; exact h

/-- a text without the signs at its end -/
def bodyS (s : ByteArray) : ByteArray := ⟨(Lib.trimRightB s.data.toList 61).toArray⟩
def bl (s : ByteArray) : Nat := (bodyS s).size

theorem bt_list (s : ByteArray) (i : Nat) : bt s i = ((s.data.toList[i]?).map (fun b => (b.toNat : Int))).getD 0 := by
  unfold bt
  by_cases h : i < s.size
  · rw [dif_pos h]
    have h' : i < s.data.toList.length := by simpa using h
    rw [List.getElem?_eq_getElem h']
    simp
    rfl
  · rw [dif_neg h]
    have h' : ¬ i < s.data.toList.length := by simpa using h
    rw [List.getElem?_eq_none (by omega)]
    rfl

theorem body_facts (s : ByteArray) : bl s ≤ s.size ∧ (∀ i, i < bl s → bt (bodyS s) i = bt s i) ∧ (∀ i, bl s ≤ i → i < s.size → bt s i = 61) ∧ (0 < bl s → bt s (bl s - 1) ≠ 61) := by
  obtain ⟨k, hk, he, h1, h2⟩ := trim_facts s.data.toList 61
  have hkl : k ≤ s.size := by simpa using hk
  have hbl : bl s = k := by
    have e1 : bl s = (Lib.trimRightB s.data.toList 61).length := rfl
    rw [e1, he, List.length_take]
    omega
  rw [hbl]
  refine ⟨hkl, ?_, ?_, ?_⟩
  · intro i hi
    rw [bt_list, bt_list]
    unfold bodyS
    rw [he]
    simp only [List.getElem?_take, if_pos hi]
  · intro i hi hlt
    rw [bt_list]
    have h' : i < s.data.toList.length := by simpa using hlt
    have := h1 i _ hi (List.getElem?_eq_getElem h')
    rw [List.getElem?_eq_getElem h', this]
    rfl
  · intro h0 heq
    rw [bt_list] at heq
    have h' : k - 1 < s.data.toList.length := by omega
    have h3 := h2 _ h0 (List.getElem?_eq_getElem h')
    rw [List.getElem?_eq_getElem h', Option.map_some, Option.getD_some] at heq
    apply h3
    apply UInt8.toNat_inj.1
    have : (s.data.toList[k - 1]).toNat = 61 := by omega
    rw [this]; rfl

/-- the number of a text's letter -/
def dv (s : ByteArray) (i : Nat) : Int := val (bt s i)
def okD (s : ByteArray) : Bool :=
  decide (s.size % 4 = 0) && decide (s.size - bl s ≤ 2) && (List.range (bl s)).all (fun i => decide (0 ≤ dv s i)) &&
    decide (bl s % 4 = 2 → dv s (bl s - 1) % 16 = 0) && decide (bl s % 4 = 3 → dv s (bl s - 1) % 4 = 0)
def decS (s : ByteArray) : ByteArray := if okD s = true then strOfNums (byts (dv s) (6 * bl s / 8)) else ⟨#[]⟩
theorem okD_iff (s : ByteArray) : okD s = true ↔ s.size % 4 = 0 ∧ s.size - bl s ≤ 2 ∧ (∀ i, i < bl s → 0 ≤ dv s i) ∧ (bl s % 4 = 2 → dv s (bl s - 1) % 16 = 0) ∧ (bl s % 4 = 3 → dv s (bl s - 1) % 4 = 0) := by
  unfold okD
  simp only [Bool.and_eq_true, decide_eq_true_eq, List.all_eq_true, List.mem_range]
  exact ⟨fun ⟨⟨⟨⟨a, b⟩, c⟩, d⟩, e⟩ => ⟨a, b, c, d, e⟩, fun ⟨a, b, c, d, e⟩ => ⟨⟨⟨⟨a, b⟩, c⟩, d⟩, e⟩⟩
theorem dec_yes {s : ByteArray} (h : okD s = true) : decS s = strOfNums (byts (dv s) (6 * bl s / 8)) := by unfold decS; rw [if_pos h]
theorem dec_no {s : ByteArray} (h : okD s = false) : decS s = ⟨#[]⟩ := by unfold decS; rw [if_neg (by simp [h])]
theorem not_ok {s : ByteArray} (h : ¬ (s.size % 4 = 0 ∧ s.size - bl s ≤ 2 ∧ (∀ i, i < bl s → 0 ≤ dv s i) ∧ (bl s % 4 = 2 → dv s (bl s - 1) % 16 = 0) ∧ (bl s % 4 = 3 → dv s (bl s - 1) % 4 = 0))) : okD s = false := by
  rcases h' : okD s with _ | _
  · rfl
  · exact absurd ((okD_iff s).1 h') h
theorem dv_bound (s : ByteArray) (i : Nat) : -1 ≤ dv s i ∧ dv s i < 64 := val_lt _
theorem dx_bound {d : Nat → Int} {n : Nat} (h : ∀ i, i < n → 0 ≤ d i ∧ d i < 64) {j : Nat} (hj : 8 * (j + 1) ≤ 6 * n) : 0 ≤ dx d j ∧ dx d j ≤ 255 := by
  obtain ⟨q, hq⟩ : ∃ q, j = 3 * q ∨ j = 3 * q + 1 ∨ j = 3 * q + 2 := ⟨j / 3, by omega⟩
  rcases hq with rfl | rfl | rfl
  · have h1 := h (4 * q) (by omega); have h2 := h (4 * q + 1) (by omega)
    rw [dx0]; omega
  · have h1 := h (4 * q + 1) (by omega); have h2 := h (4 * q + 2) (by omega)
    rw [dx1]; omega
  · have h1 := h (4 * q + 2) (by omega); have h2 := h (4 * q + 3) (by omega)
    rw [dx2]; omega
theorem and_mask (x : Int) (k : Nat) (h0 : 0 ≤ x) (h1 : x < 4294967296) (hk : k < 32) : bits .and .u32 x ((2 ^ k - 1 : Nat) : Int) = x % ((2 ^ k : Nat) : Int) := by
  obtain ⟨a, rfl⟩ := Int.eq_ofNat_of_zero_le h0
  have ha : a < 4294967296 := by omega
  have h32 : (2 : Nat) ^ k ≤ 2 ^ 31 := Nat.pow_le_pow_right (by decide) (by omega)
  rw [u32_and_nat a (2 ^ k - 1) ha (by omega), Nat.and_two_pow_sub_one_eq_mod]
  exact Int.natCast_emod a (2 ^ k)
theorem and15 (x : Int) (h0 : 0 ≤ x) (h1 : x < 4294967296) : bits .and .u32 x 15 = x % 16 := and_mask x 4 h0 h1 (by decide)
theorem and3 (x : Int) (h0 : 0 ≤ x) (h1 : x < 4294967296) : bits .and .u32 x 3 = x % 4 := and_mask x 2 h0 h1 (by decide)
theorem and0 (x : Int) (h0 : 0 ≤ x) (h1 : x < 4294967296) : bits .and .u32 x 0 = 0 := by have := and_mask x 0 h0 h1 (by decide); simpa using this
end Go.Proofs.YtkajdnaanipngaaDoor.P
