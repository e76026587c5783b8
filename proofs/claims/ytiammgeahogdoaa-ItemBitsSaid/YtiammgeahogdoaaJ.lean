/- an item's bytes tell the item. -/
import Derived.Test.YtiammgeahogdoaaQ
namespace Go.Proofs.Ytiammgeahogdoaa
open Go.RowKit Go.PlainAid
set_option linter.unusedVariables false
set_option linter.unusedSimpArgs false

theorem str_inj {a b : List Int} (ha : P.Bytes a) (hb : P.Bytes b) (h : strOfNums a = strOfNums b) : a = b := by
  have h1 : (strOfNums a).data.toList = (strOfNums b).data.toList := by rw [h]
  rw [strOfNums_data, strOfNums_data] at h1
  clear h
  induction a generalizing b with
  | nil => cases b with
    | nil => rfl
    | cons y b => simp at h1
  | cons x a ih =>
    cases b with
    | nil => simp at h1
    | cons y b =>
      simp only [List.map_cons, List.cons.injEq] at h1
      have hx := ha x (by simp)
      have hy := hb y (by simp)
      have e : x = y := by
        have := congrArg UInt8.toNat h1.1
        rw [UInt8.toNat_ofNat', UInt8.toNat_ofNat'] at this
        omega
      rw [e, ih (fun z hz => ha z (by simp [hz])) (fun z hz => hb z (by simp [hz])) h1.2]

theorem strB_inj {a b : ByteArray} (h : strB a = strB b) : a = b := by
  have h1 : a.data.toList = b.data.toList := by
    unfold strB at h
    have hi : Function.Injective (fun b : UInt8 => (b.toNat : Int)) := by
      intro x y hxy
      have hxy' : (x.toNat : Int) = (y.toNat : Int) := hxy
      have : x.toNat = y.toNat := by omega
      exact UInt8.toNat_inj.1 this
    exact (List.map_inj_right (fun x y hxy => hi hxy)).1 h
  exact ByteArray.ext (Array.ext' h1)

theorem le_inj {m : Nat} {a b : Int} (ha : 0 ≤ a) (ha' : a < 256 ^ m) (hb : 0 ≤ b) (hb' : b < 256 ^ m) (h : P.le m a = P.le m b) : a = b := by
  rw [← P.num_le m a ha ha', ← P.num_le m b hb hb', h]

theorem bitsI_inj {a b c d : Bool} (h : bitsI a b = bitsI c d) : a = c ∧ b = d := by
  cases a <;> cases b <;> cases c <;> cases d <;> first | exact ⟨rfl, rfl⟩ | (exfalso; revert h; decide)

theorem encL_bytes (k v : ByteArray) (fl ex ca la : Int) (st wo : Bool) : P.Bytes (encL k v fl ex ca la st wo) := by
  unfold encL
  exact ((((((((P.le_bytes _ _).append (P.le_bytes _ _)).append (P.le_bytes _ _)).append (P.le_bytes _ _)).append (P.le_bytes _ _)).append (P.le_bytes _ _)).append (P.le_bytes _ _)).append (strB_bytes _)).append (strB_bytes _)

theorem encL_inj {k v : ByteArray} {fl ex ca la : Int} {st wo : Bool} {k' v' : ByteArray} {fl' ex' ca' la' : Int} {st' wo' : Bool}
    (hk : k.size < 256) (hv : v.size ≤ 65536) (hf0 : 0 ≤ fl) (hf1 : fl < 4294967296) (hx0 : 0 ≤ ex) (hx1 : ex ≤ 9223372036854775807) (hc0 : 0 ≤ ca) (hc1 : ca ≤ 18446744073709551615) (hl0 : 0 ≤ la) (hl1 : la ≤ 9223372036854775807)
    (hk' : k'.size < 256) (hv' : v'.size ≤ 65536) (hf0' : 0 ≤ fl') (hf1' : fl' < 4294967296) (hx0' : 0 ≤ ex') (hx1' : ex' ≤ 9223372036854775807) (hc0' : 0 ≤ ca') (hc1' : ca' ≤ 18446744073709551615) (hl0' : 0 ≤ la') (hl1' : la' ≤ 9223372036854775807)
    (h : encL k v fl ex ca la st wo = encL k' v' fl' ex' ca' la' st' wo') : k = k' ∧ fl = fl' ∧ v = v' ∧ ex = ex' ∧ ca = ca' ∧ la = la' ∧ st = st' ∧ wo = wo' := by
  unfold encL at h
  simp only [List.append_assoc] at h
  obtain ⟨a1, h⟩ := List.append_inj h (by rw [P.le_len, P.le_len])
  obtain ⟨a2, h⟩ := List.append_inj h (by rw [P.le_len, P.le_len])
  obtain ⟨a3, h⟩ := List.append_inj h (by rw [P.le_len, P.le_len])
  obtain ⟨a4, h⟩ := List.append_inj h (by rw [P.le_len, P.le_len])
  obtain ⟨a5, h⟩ := List.append_inj h (by rw [P.le_len, P.le_len])
  obtain ⟨a6, h⟩ := List.append_inj h (by rw [P.le_len, P.le_len])
  obtain ⟨a7, h⟩ := List.append_inj h (by rw [P.le_len, P.le_len])
  have p4 : (256 : Int) ^ 4 = 4294967296 := by decide
  have p8 : (256 : Int) ^ 8 = 18446744073709551616 := by decide
  have p3 : (256 : Int) ^ 3 = 16777216 := by decide
  have p1 : (256 : Int) ^ 1 = 256 := by decide
  have b1 := bitsI_le st wo
  have b2 := bitsI_le st' wo'
  have e1 := le_inj (by omega) (by rw [p1]; omega) (by omega) (by rw [p1]; omega) a1
  have e2 := le_inj (by omega) (by rw [p3]; omega) (by omega) (by rw [p3]; omega) a2
  have e3 := le_inj (by omega) (by rw [p4]; omega) (by omega) (by rw [p4]; omega) a3
  have e5 := le_inj (by omega) (by rw [p8]; omega) (by omega) (by rw [p8]; omega) a5
  have e6 := le_inj (by omega) (by rw [p8]; omega) (by omega) (by rw [p8]; omega) a6
  have e7 := le_inj (by omega) (by rw [p8]; omega) (by omega) (by rw [p8]; omega) a7
  obtain ⟨c1, c2⟩ := List.append_inj h (by rw [strB_len, strB_len]; omega)
  obtain ⟨d1, d2⟩ := bitsI_inj e2
  exact ⟨strB_inj c1, e3, strB_inj c2, e5, e6, e7, d1, d2⟩

theorem str_beq_false {a b : ByteArray} (h : a ≠ b) : (a.toList == b.toList) = false := by
  rw [beq_eq_false_iff_ne]; exact fun he => h ((toList_inj a b).1 he)
end Go.Proofs.Ytiammgeahogdoaa
