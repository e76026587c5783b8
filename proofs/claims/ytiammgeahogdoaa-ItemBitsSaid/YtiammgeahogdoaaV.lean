/- what bytes mean as an item: plain facts. -/
import Derived.Test.YtiammgeahogdoaaJ
namespace Go.Proofs.Ytiammgeahogdoaa
open Go.RowKit Go.PlainAid
set_option linter.unusedVariables false
set_option linter.unusedSimpArgs false

structure It where
  k : ByteArray
  v : ByteArray
  fl : Int
  ex : Int
  ca : Int
  la : Int
  st : Bool
  wo : Bool

def itV (i : It) : Value := .agg #[.string i.k, .int .u32 i.fl, .string i.v, .int .i64 i.ex, .int .u64 i.ca, .int .i64 i.la, .bool i.st, .bool i.wo]
def noIt : It := ⟨⟨#[]⟩, ⟨#[]⟩, 0, 0, 0, 0, false, false⟩

def sub (l : List Int) (i m : Nat) : List Int := (l.drop i).take m
def decKz (l : List Int) : Nat := (l[0]?.getD 0).toNat
def decVz (l : List Int) : Nat := (P.num (sub l 8 8)).toNat
def decI (l : List Int) : It :=
  ⟨strOfNums (sub l 40 (decKz l)), strOfNums (sub l (40 + decKz l) (decVz l)), P.num (sub l 4 4), wrap64 (P.num (sub l 16 8)), P.num (sub l 24 8), wrap64 (P.num (sub l 32 8)), decide (l[1]?.getD 0 % 2 = 1), decide (l[1]?.getD 0 / 2 = 1)⟩
def headOk (l : List Int) : Bool :=
  decide (40 ≤ l.length ∧ l[1]?.getD 0 ≤ 3 ∧ l[2]?.getD 0 = 0 ∧ l[3]?.getD 0 = 0 ∧ P.num (sub l 8 8) ≤ 65536 ∧ decKz l + decVz l + 40 ≤ l.length)
def decOk (l : List Int) : Bool := headOk l && rightB (decI l).k (decI l).v (decI l).ex (decI l).la
/-- what a Decode answers -/
def decR (l : List Int) : It := if decOk l = true then decI l else noIt
def decE (l : List Int) : Int := if decOk l = true then 0 else 9

theorem sub_mid {l a b c : List Int} {i m : Nat} (h : l = a ++ (b ++ c)) (hi : a.length = i) (hm : b.length = m) : sub l i m = b := by
  subst h hi hm; unfold sub; simp
theorem sub_len {l : List Int} {i m : Nat} (h : i + m ≤ l.length) : (sub l i m).length = m := by unfold sub; simp; omega
theorem strOfNums_strB (s : ByteArray) : strOfNums (strB s) = s := by
  refine ByteArray.ext (Array.ext' ?_)
  rw [strOfNums_data]; unfold strB
  rw [List.map_map]
  conv => rhs; rw [← List.map_id s.data.toList]
  refine List.map_congr_left fun b _ => ?_
  simp
theorem sub_take {l : List Int} {i m c : Nat} (h : i + m ≤ c) : sub (l.take c) i m = sub l i m := by
  unfold sub
  rw [List.drop_take, List.take_take, Nat.min_eq_left (by omega)]
theorem at_take {l : List Int} {i c : Nat} (h : i < c) : (l.take c)[i]?.getD 0 = l[i]?.getD 0 := by
  rw [List.getElem?_take, if_pos h]

theorem bitsI_st (st wo : Bool) : decide (bitsI st wo % 2 = 1) = st ∧ decide (bitsI st wo / 2 = 1) = wo := by cases st <;> cases wo <;> decide

theorem enc_parts (k v : ByteArray) (fl ex ca la : Int) (st wo : Bool) (b : List Int) (hk : k.size < 256) (hv : v.size ≤ 65536) (hf0 : 0 ≤ fl) (hf1 : fl < 4294967296) (hx0 : 0 ≤ ex) (hx1 : ex ≤ 9223372036854775807) (hc0 : 0 ≤ ca) (hc1 : ca ≤ 18446744073709551615) (hl0 : 0 ≤ la) (hl1 : la ≤ 9223372036854775807) :
    let l := encL k v fl ex ca la st wo ++ b
    l[0]?.getD 0 = (k.size : Int) ∧ l[1]?.getD 0 = bitsI st wo ∧ l[2]?.getD 0 = 0 ∧ l[3]?.getD 0 = 0 ∧ P.num (sub l 4 4) = fl ∧ P.num (sub l 8 8) = (v.size : Int) ∧ P.num (sub l 16 8) = ex ∧ P.num (sub l 24 8) = ca ∧ P.num (sub l 32 8) = la ∧ sub l 40 k.size = strB k ∧ sub l (40 + k.size) v.size = strB v := by
  have p8 : (256 : Int) ^ 8 = 18446744073709551616 := by decide
  have p4 : (256 : Int) ^ 4 = 4294967296 := by decide
  have hb := bitsI_le st wo
  intro l
  have l4 : (P.le 4 fl).length = 4 := P.le_len _ _
  have l5 : (P.le 8 (v.size : Int)).length = 8 := P.le_len _ _
  have l6 : (P.le 8 ex).length = 8 := P.le_len _ _
  have l7 : (P.le 8 ca).length = 8 := P.le_len _ _
  have l8 : (P.le 8 la).length = 8 := P.le_len _ _
  have lk : (strB k).length = k.size := strB_len k
  have lv : (strB v).length = v.size := strB_len v
  have hl : l = [(k.size : Int), bitsI st wo, 0, 0] ++ (P.le 4 fl ++ (P.le 8 v.size ++ (P.le 8 ex ++ (P.le 8 ca ++ (P.le 8 la ++ (strB k ++ (strB v ++ b))))))) := by
    show encL k v fl ex ca la st wo ++ b = _
    unfold encL
    have e : P.le 1 (k.size : Int) ++ P.le 3 (bitsI st wo) = [(k.size : Int), bitsI st wo, 0, 0] := by
      simp only [P.le, List.cons_append, List.nil_append]
      rw [show (k.size : Int) % 256 = k.size by omega, show bitsI st wo % 256 = bitsI st wo by omega, show bitsI st wo / 256 = 0 by omega]; rfl
    rw [e]; simp [List.append_assoc]
  clear_value l
  refine ⟨by rw [hl]; simp, by rw [hl]; simp, by rw [hl]; simp, by rw [hl]; simp, ?_, ?_, ?_, ?_, ?_, ?_, ?_⟩
  · rw [sub_mid (i := 4) hl rfl l4, P.num_le 4 fl hf0 (by omega)]
  · rw [← List.append_assoc] at hl
    rw [sub_mid hl (by simp [l4]) l5, P.num_le 8 _ (by omega) (by omega)]
  · rw [← List.append_assoc, ← List.append_assoc] at hl
    rw [sub_mid hl (by simp [l4, l5]) l6, P.num_le 8 _ (by omega) (by omega)]
  · rw [← List.append_assoc, ← List.append_assoc, ← List.append_assoc] at hl
    rw [sub_mid hl (by simp [l4, l5, l6]) l7, P.num_le 8 _ (by omega) (by omega)]
  · rw [← List.append_assoc, ← List.append_assoc, ← List.append_assoc, ← List.append_assoc] at hl
    rw [sub_mid hl (by simp [l4, l5, l6, l7]) l8, P.num_le 8 _ (by omega) (by omega)]
  · rw [← List.append_assoc, ← List.append_assoc, ← List.append_assoc, ← List.append_assoc, ← List.append_assoc] at hl
    rw [sub_mid hl (by simp [l4, l5, l6, l7, l8]) lk]
  · rw [← List.append_assoc, ← List.append_assoc, ← List.append_assoc, ← List.append_assoc, ← List.append_assoc, ← List.append_assoc] at hl
    rw [sub_mid hl (by simp [l4, l5, l6, l7, l8, lk]; omega) lv]

/-- what is written is read as it was, whatever stands behind -/
theorem dec_enc (k v : ByteArray) (fl ex ca la : Int) (st wo : Bool) (b : List Int) (hr : rightB k v ex la = true) (hk : k.size < 256) (hv : v.size ≤ 65536) (hf0 : 0 ≤ fl) (hf1 : fl < 4294967296) (hx0 : 0 ≤ ex) (hx1 : ex ≤ 9223372036854775807) (hc0 : 0 ≤ ca) (hc1 : ca ≤ 18446744073709551615) (hl0 : 0 ≤ la) (hl1 : la ≤ 9223372036854775807) :
    decOk (encL k v fl ex ca la st wo ++ b) = true ∧ decI (encL k v fl ex ca la st wo ++ b) = ⟨k, v, fl, ex, ca, la, st, wo⟩ := by
  have hp := enc_parts k v fl ex ca la st wo b hk hv hf0 hf1 hx0 hx1 hc0 hc1 hl0 hl1
  have hlen : (encL k v fl ex ca la st wo ++ b).length = 40 + k.size + v.size + b.length := by rw [List.length_append, encL_len]
  generalize encL k v fl ex ca la st wo ++ b = l at *
  obtain ⟨h0, h1, h2, h3, h4, h5, h6, h7, h8, h9, h10⟩ := hp
  have hb := bitsI_le st wo
  have hkz : decKz l = k.size := by unfold decKz; rw [h0]; rfl
  have hvz : decVz l = v.size := by unfold decVz; rw [h5]; rfl
  have hI : decI l = ⟨k, v, fl, ex, ca, la, st, wo⟩ := by
    unfold decI
    rw [hkz, hvz, h9, h10, h4, h6, h7, h8, h1, (bitsI_st st wo).1, (bitsI_st st wo).2, strOfNums_strB, strOfNums_strB]
    unfold wrap64
    rw [show (ex + 9223372036854775808) % 18446744073709551616 - 9223372036854775808 = ex by omega, show (la + 9223372036854775808) % 18446744073709551616 - 9223372036854775808 = la by omega]
  refine ⟨?_, hI⟩
  unfold decOk
  rw [hI]
  simp only [hr, Bool.and_true]
  unfold headOk
  refine decide_eq_true ⟨by omega, by omega, h2, h3, by omega, by omega⟩

/-- a beginning of it is not -/
theorem dec_cut (k v : ByteArray) (fl ex ca la : Int) (st wo : Bool) (c : Nat) (hk : k.size < 256) (hv : v.size ≤ 65536) (hf0 : 0 ≤ fl) (hf1 : fl < 4294967296) (hx0 : 0 ≤ ex) (hx1 : ex ≤ 9223372036854775807) (hc0 : 0 ≤ ca) (hc1 : ca ≤ 18446744073709551615) (hl0 : 0 ≤ la) (hl1 : la ≤ 9223372036854775807) (hc : c < 40 + k.size + v.size) :
    decOk ((encL k v fl ex ca la st wo).take c) = false := by
  have hp := enc_parts k v fl ex ca la st wo [] hk hv hf0 hf1 hx0 hx1 hc0 hc1 hl0 hl1
  rw [List.append_nil] at hp
  have hlen := encL_len k v fl ex ca la st wo
  generalize encL k v fl ex ca la st wo = l at *
  obtain ⟨h0, h1, h2, h3, h4, h5, h6, h7, h8, h9, h10⟩ := hp
  have hlt : (l.take c).length = c := by simp; omega
  unfold decOk
  have : headOk (l.take c) = false := by
    unfold headOk
    apply decide_eq_false
    rw [hlt]
    rintro ⟨a1, a2, a3, a4, a5, a6⟩
    have hkz : decKz (l.take c) = k.size := by unfold decKz; rw [at_take (by omega), h0]; rfl
    have hvz : decVz (l.take c) = v.size := by unfold decVz; rw [sub_take (by omega), h5]; rfl
    omega
  rw [this]; rfl

theorem sub_set {l : List Int} {i m j : Nat} {c : Int} (h : j < i ∨ i + m ≤ j) : sub (l.set j c) i m = sub l i m := by
  unfold sub
  rcases h with h | h
  · rw [List.drop_set, if_pos h]
  · rw [List.drop_set, if_neg (by omega), List.take_set_of_le (by omega)]
theorem at_set {l : List Int} {i j : Nat} {c : Int} (h : j ≠ i) : (l.set j c)[i]?.getD 0 = l[i]?.getD 0 := by
  rw [List.getElem?_set_ne h]
theorem at_set_self {l : List Int} {j : Nat} {c : Int} (h : j < l.length) : (l.set j c)[j]?.getD 0 = c := by
  rw [List.getElem?_set_self h]; rfl
theorem num_set : ∀ (l : List Int) (i : Nat) (c : Int), i < l.length → P.num (l.set i c) = P.num l + (c - l[i]?.getD 0) * 256 ^ i := by
  intro l
  induction l with
  | nil => intro i c h; simp at h
  | cons x l ih =>
    intro i c h
    cases i with
    | zero => simp [P.num]; omega
    | succ i =>
      have h' : i < l.length := by simpa using h
      simp only [List.set_cons_succ, P.num, ih i c h', List.getElem?_cons_succ, Int.pow_succ]
      rw [Int.mul_add, ← Int.mul_assoc _ (256 ^ i) 256, Int.mul_comm _ 256]
      omega

theorem sub_set_in {l : List Int} {i m j : Nat} {c : Int} (h : i ≤ j) (h2 : j < i + m) : sub (l.set j c) i m = (sub l i m).set (j - i) c := by
  unfold sub
  rw [List.drop_set, if_neg (by omega), List.take_set]

theorem enc_high (k v : ByteArray) (fl ex ca la : Int) (st wo : Bool) (hv : v.size ≤ 65536) (j : Nat) (h1 : 12 ≤ j) (h2 : j < 16) : (encL k v fl ex ca la st wo)[j]?.getD 0 = 0 := by
  have e : encL k v fl ex ca la st wo = P.le 1 k.size ++ P.le 3 (bitsI st wo) ++ P.le 4 fl ++ P.le 4 v.size ++ [0, 0, 0, 0] ++ (P.le 8 ex ++ P.le 8 ca ++ P.le 8 la ++ strB k ++ strB v) := by
    unfold encL; rw [le_high (v.size : Int) (by omega) (by omega)]; simp [List.append_assoc]
  rw [e]
  have hl : (P.le 1 (k.size : Int) ++ P.le 3 (bitsI st wo) ++ P.le 4 fl ++ P.le 4 (v.size : Int)).length = 12 := by simp [P.le_len]
  generalize P.le 1 (k.size : Int) ++ P.le 3 (bitsI st wo) ++ P.le 4 fl ++ P.le 4 (v.size : Int) = H at *
  rw [List.append_assoc, List.getElem?_append_right (by omega), hl]
  obtain ⟨i, rfl⟩ : ∃ i, j = 12 + i := ⟨j - 12, by omega⟩
  rw [show 12 + i - 12 = i by omega]
  match i, (by omega : i < 4) with
  | 0, _ => rfl
  | 1, _ => rfl
  | 2, _ => rfl
  | 3, _ => rfl

/-- what is not among an item's bits is refused -/
theorem dec_bad (k v : ByteArray) (fl ex ca la : Int) (st wo : Bool) (j : Nat) (c : Int) (hk : k.size < 256) (hv : v.size ≤ 65536) (hf0 : 0 ≤ fl) (hf1 : fl < 4294967296) (hx0 : 0 ≤ ex) (hx1 : ex ≤ 9223372036854775807) (hc0 : 0 ≤ ca) (hc1 : ca ≤ 18446744073709551615) (hl0 : 0 ≤ la) (hl1 : la ≤ 9223372036854775807)
    (hj : j = 1 ∧ 3 < c ∨ j = 2 ∧ 0 < c ∨ j = 3 ∧ 0 < c ∨ 12 ≤ j ∧ j < 16 ∧ 0 < c) :
    decOk ((encL k v fl ex ca la st wo).set j c) = false := by
  have hp := enc_parts k v fl ex ca la st wo [] hk hv hf0 hf1 hx0 hx1 hc0 hc1 hl0 hl1
  rw [List.append_nil] at hp
  have hh := enc_high k v fl ex ca la st wo hv j
  have hlen := encL_len k v fl ex ca la st wo
  generalize encL k v fl ex ca la st wo = l at *
  obtain ⟨h0, h1, h2, h3, h4, h5, h6, h7, h8, h9, h10⟩ := hp
  have : headOk (l.set j c) = false := by
    unfold headOk
    apply decide_eq_false
    rintro ⟨a1, a2, a3, a4, a5, a6⟩
    rcases hj with ⟨rfl, hc⟩ | ⟨rfl, hc⟩ | ⟨rfl, hc⟩ | ⟨hj1, hj2, hc⟩
    · rw [at_set_self (by omega)] at a2; omega
    · rw [at_set_self (by omega)] at a3; omega
    · rw [at_set_self (by omega)] at a4; omega
    · rw [sub_set_in (by omega) (by omega), num_set _ _ _ (by rw [sub_len (by omega)]; omega), h5] at a5
      have hz : (sub l 8 8)[j - 8]?.getD 0 = 0 := by
        unfold sub
        rw [List.getElem?_take, if_pos (by omega), List.getElem?_drop, show 8 + (j - 8) = j by omega]
        exact hh hj1 hj2
      rw [hz, Int.sub_zero] at a5
      have hp4 : (256 : Int) ^ 4 ≤ 256 ^ (j - 8) := P.pow_le (by omega)
      have e4 : (256 : Int) ^ 4 = 4294967296 := by decide
      have := Int.mul_le_mul_of_nonneg_right (show 1 ≤ c by omega) (by omega : (0 : Int) ≤ 256 ^ (j - 8))
      omega
  unfold decOk; rw [this]; rfl

theorem dec_bits (k v : ByteArray) (fl ex ca la : Int) (st wo : Bool) (c : Int) (hr : rightB k v ex la = true) (hk : k.size < 256) (hv : v.size ≤ 65536) (hf0 : 0 ≤ fl) (hf1 : fl < 4294967296) (hx0 : 0 ≤ ex) (hx1 : ex ≤ 9223372036854775807) (hc0 : 0 ≤ ca) (hc1 : ca ≤ 18446744073709551615) (hl0 : 0 ≤ la) (hl1 : la ≤ 9223372036854775807) (h0 : 0 ≤ c) (h3 : c ≤ 3) :
    decOk ((encL k v fl ex ca la st wo).set 1 c) = true ∧ decI ((encL k v fl ex ca la st wo).set 1 c) = ⟨k, v, fl, ex, ca, la, decide (c % 2 = 1), decide (c / 2 = 1)⟩ := by
  have e : ∃ s u, bitsI s u = c := by
    have : c = 0 ∨ c = 1 ∨ c = 2 ∨ c = 3 := by omega
    rcases this with rfl | rfl | rfl | rfl
    · exact ⟨false, false, rfl⟩
    · exact ⟨true, false, rfl⟩
    · exact ⟨false, true, rfl⟩
    · exact ⟨true, true, rfl⟩
  obtain ⟨s, u, rfl⟩ := e
  have hs : (encL k v fl ex ca la st wo).set 1 (bitsI s u) = encL k v fl ex ca la s u ++ [] := by
    have hb := bitsI_le st wo
    have e : ∀ a b, P.le 1 (k.size : Int) ++ P.le 3 (bitsI a b) = [(k.size : Int), bitsI a b, 0, 0] := by
      intro a b
      have hb := bitsI_le a b
      simp only [P.le, List.cons_append, List.nil_append]
      rw [show (k.size : Int) % 256 = k.size by omega, show bitsI a b % 256 = bitsI a b by omega, show bitsI a b / 256 = 0 by omega]; rfl
    unfold encL
    rw [e, e]
    simp
  rw [hs, (bitsI_st s u).1, (bitsI_st s u).2]
  exact dec_enc k v fl ex ca la s u [] hr hk hv hf0 hf1 hx0 hx1 hc0 hc1 hl0 hl1
end Go.Proofs.Ytiammgeahogdoaa
