/- flat bytes and pages: plain laws. -/
import Derived.Test.YtmkfnnhhioeioaaAph
namespace Go.Proofs.Ytmkfnnhhioeioaa
open Go.RowKit Go.PlainAid

theorem pg_len {F : List Int} {S np i : Nat} (hF : F.length = np * S) (hi : i < np) : (pg F S i).length = S := by
  have h1 : (i + 1) * S ≤ np * S := Nat.mul_le_mul_right S (by omega)
  rw [Nat.succ_mul] at h1
  simp [pg]; omega
theorem pg_at {F : List Int} {S j : Nat} (i : Nat) (hj : j < S) : (pg F S i)[j]?.getD 0 = F[i * S + j]?.getD 0 := by
  simp [pg, hj]
theorem list_getD_ext {a b : List Int} (hl : a.length = b.length) (h : ∀ j, j < a.length → a[j]?.getD 0 = b[j]?.getD 0) : a = b := by
  apply List.ext_getElem hl
  intro j h1 h2
  have := h j h1
  simpa [h1, h2] using this
theorem pg_splice {F l : List Int} {S np q a : Nat} (hF : F.length = np * S) (hq : q < np) (ha : a + l.length ≤ S) : pg (AP.splice F (q * S + a) l) S q = AP.splice (pg F S q) a l := by
  have h1 : (q + 1) * S ≤ np * S := Nat.mul_le_mul_right S (by omega)
  rw [Nat.succ_mul] at h1
  have e1 : (AP.splice F (q * S + a) l).length = np * S := (AP.splice_len (by omega)).trans hF
  have e2 := pg_len hF hq
  have e3 : (AP.splice (pg F S q) a l).length = S := (AP.splice_len (by omega)).trans e2
  apply list_getD_ext ((pg_len e1 hq).trans e3.symm)
  intro j hj
  rw [pg_len e1 hq] at hj
  rw [pg_at q hj, AP.splice_at (by omega), AP.splice_at (by omega), pg_at q hj]
  by_cases h : a ≤ j ∧ j < a + l.length
  · rw [if_pos (by omega), if_pos h, show q * S + j - (q * S + a) = j - a by omega]
  · rw [if_neg (by omega), if_neg h]
theorem pg_splice_ne {F l : List Int} {S np q a i : Nat} (hF : F.length = np * S) (hq : q < np) (hi : i < np) (hne : i ≠ q) (ha : a + l.length ≤ S) : pg (AP.splice F (q * S + a) l) S i = pg F S i := by
  have h1 : (q + 1) * S ≤ np * S := Nat.mul_le_mul_right S (by omega)
  rw [Nat.succ_mul] at h1
  have e1 : (AP.splice F (q * S + a) l).length = np * S := (AP.splice_len (by omega)).trans hF
  apply list_getD_ext ((pg_len e1 hi).trans (pg_len hF hi).symm)
  intro j hj
  rw [pg_len e1 hi] at hj
  rw [pg_at i hj, pg_at i hj, AP.splice_at (by omega), if_neg]
  rcases Nat.lt_or_gt_of_ne hne with h | h
  · have h2 : (i + 1) * S ≤ q * S := Nat.mul_le_mul_right S (by omega)
    rw [Nat.succ_mul] at h2
    omega
  · have h2 : (q + 1) * S ≤ i * S := Nat.mul_le_mul_right S (by omega)
    rw [Nat.succ_mul] at h2
    omega
theorem pg_cut {F : List Int} {S q a n : Nat} (h : a + n ≤ S) : ((pg F S q).drop a).take n = (F.drop (q * S + a)).take n := by
  unfold pg
  rw [List.drop_take, List.take_take, List.drop_drop, Nat.min_eq_left (by omega)]

theorem splice_ext {bs l : List Int} {M T off : Nat} (hT : T ≤ M) (ho : off + l.length ≤ T) (hb : bs.length ≤ M) : AP.ext (AP.splice (AP.ext bs T) off l) M = AP.splice (AP.ext bs M) off l := by
  have e1 := AP.ext_len bs T
  have e2 := AP.ext_len bs M
  have e3 : (AP.splice (AP.ext bs T) off l).length = (AP.ext bs T).length := AP.splice_len (by omega)
  have e4 : (AP.splice (AP.ext bs M) off l).length = (AP.ext bs M).length := AP.splice_len (by omega)
  have hx : ∀ (c : List Int) (K j : Nat), (AP.ext c K)[j]?.getD 0 = c[j]?.getD 0 := by
    intro c K j
    unfold AP.ext
    rw [List.getElem?_append]
    split
    · rfl
    · rw [List.getElem?_replicate]
      rw [show c[j]? = none from List.getElem?_eq_none (by omega)]
      split <;> rfl
  apply list_getD_ext
  · rw [AP.ext_len]; omega
  · intro j _
    rw [hx, AP.splice_at (by omega), AP.splice_at (by omega), hx, hx]
theorem ext_getD (c : List Int) (K j : Nat) : (AP.ext c K)[j]?.getD 0 = c[j]?.getD 0 := by
  unfold AP.ext
  rw [List.getElem?_append]
  split
  · rfl
  · rw [List.getElem?_replicate]
    rw [show c[j]? = none from List.getElem?_eq_none (by omega)]
    split <;> rfl
theorem ext_ext {bs : List Int} {M T : Nat} (hT : T ≤ M) (hb : bs.length ≤ M) : AP.ext (AP.ext bs T) M = AP.ext bs M := by
  apply list_getD_ext
  · rw [AP.ext_len, AP.ext_len, AP.ext_len]; omega
  · intro j _
    rw [ext_getD, ext_getD, ext_getD]
theorem cut_ext {bs : List Int} {M T off n : Nat} (hT : T ≤ M) (ho : off + n ≤ T) (hb : bs.length ≤ M) : ((AP.ext bs T).drop off).take n = ((AP.ext bs M).drop off).take n := by
  have e1 := AP.ext_len bs T
  have e2 := AP.ext_len bs M
  apply list_getD_ext
  · simp; omega
  · intro j hj
    have hjn : j < n := by simp at hj; omega
    rw [List.getElem?_take, List.getElem?_take, if_pos hjn, if_pos hjn, List.getElem?_drop, List.getElem?_drop, ext_getD, ext_getD]
end Go.Proofs.Ytmkfnnhhioeioaa
