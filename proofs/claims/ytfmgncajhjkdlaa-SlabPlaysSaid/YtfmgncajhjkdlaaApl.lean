/- an arena's owners: plain functions and facts; no program in sight. -/
import GoSem.Claim
namespace Go.Proofs.Ytfmgncajhjkdlaa.AP

/-- whom a page is granted to; -1: it is free, or there is none -/
def owner (ow : List Int) (p : Int) : Int := if 0 ≤ p ∧ p < ow.length then ow[p.toNat]?.getD 0 - 1 else -1
/-- the least free page, or the number of pages -/
def least (ow : List Int) : Nat := ow.findIdx (fun x => x == 0)
def idx (ow : List Int) : Int := if least ow < ow.length then (least ow : Int) else -1
/-- the number of granted pages -/
def granted (ow : List Int) : Int := ow.countP (fun x => 0 < x)
/-- an owner's pages -/
def pages (ow : List Int) (o : Int) : List Int := ((List.range ow.length).filter (fun i => decide (0 < ow[i]?.getD 0 ∧ ow[i]?.getD 0 - 1 = o))).map (fun i : Nat => (i : Int))
def okO (o : Int) : Bool := decide (0 ≤ o ∧ o < 63)
def grP (ow : List Int) (o : Int) : Int := if okO o = true ∧ least ow < ow.length then (least ow : Int) else -1
def grE (ow : List Int) (o : Int) : Int := if okO o = true then (if least ow < ow.length then 0 else 5) else 1
def grO (ow : List Int) (o : Int) : List Int := if okO o = true ∧ least ow < ow.length then ow.set (least ow) (o + 1) else ow
def reE (ow : List Int) (p : Int) : Int := if owner ow p < 0 then 7 else 0
def reO (ow : List Int) (p : Int) : List Int := if owner ow p < 0 then ow else ow.set p.toNat 0
def paE (ow : List Int) (p o : Int) : Int := if owner ow p < 0 then 7 else if okO o = true then 0 else 1
def paO (ow : List Int) (p o : Int) : List Int := if owner ow p < 0 then ow else if okO o = true then ow.set p.toNat (o + 1) else ow
/-- 0: free; else an owner and 1 -/
def Rng (ow : List Int) : Prop := ∀ x ∈ ow, 0 ≤ x ∧ x ≤ 63

theorem Rng.at {ow : List Int} (h : Rng ow) (i : Nat) : 0 ≤ ow[i]?.getD 0 ∧ ow[i]?.getD 0 ≤ 63 := by
  by_cases hi : i < ow.length
  · simp [hi]; exact h _ (by simp)
  · simp [hi]
theorem Rng.set {ow : List Int} (h : Rng ow) {i : Nat} {c : Int} (h0 : 0 ≤ c) (h1 : c ≤ 63) : Rng (ow.set i c) := by
  intro x hx
  rcases List.mem_or_eq_of_mem_set hx with h2 | h2
  · exact h x h2
  · omega
theorem Rng.grO {ow : List Int} (h : Rng ow) (o : Int) : Rng (grO ow o) := by
  unfold AP.grO okO
  split
  · rename_i h1; simp at h1; exact h.set (by omega) (by omega)
  · exact h
theorem Rng.reO {ow : List Int} (h : Rng ow) (p : Int) : Rng (reO ow p) := by
  unfold AP.reO; split
  · exact h
  · exact h.set (by omega) (by omega)
theorem Rng.paO {ow : List Int} (h : Rng ow) (p o : Int) : Rng (paO ow p o) := by
  unfold AP.paO okO; split
  · exact h
  · split
    · rename_i h1; simp at h1; exact h.set (by omega) (by omega)
    · exact h
theorem grO_len (ow : List Int) (o : Int) : (grO ow o).length = ow.length := by unfold grO; split <;> simp
theorem reO_len (ow : List Int) (o : Int) : (reO ow o).length = ow.length := by unfold reO; split <;> simp
theorem paO_len (ow : List Int) (p o : Int) : (paO ow p o).length = ow.length := by unfold paO; split <;> (try split) <;> simp

theorem owner_at {ow : List Int} {k : Nat} (h : k < ow.length) : owner ow (k : Int) = ow[k]?.getD 0 - 1 := by
  unfold owner; rw [if_pos ⟨by omega, by omega⟩]; rfl
theorem owner_out {ow : List Int} {p : Int} (h : p < 0 ∨ (ow.length : Int) ≤ p) : owner ow p = -1 := by
  unfold owner; rw [if_neg (by omega)]

/-- the first k are not free: the least free one is not among them -/
theorem least_ge {ow : List Int} {k : Nat} (h : ∀ j, j < k → ow[j]?.getD 0 ≠ 0) (hk : k ≤ ow.length) : k ≤ least ow := by
  unfold least
  refine Nat.le_of_not_lt fun hlt => ?_
  have hl : ow.findIdx (fun x => x == 0) < ow.length := by omega
  have := List.findIdx_getElem (w := hl)
  refine h _ hlt ?_
  simp [hl] at this ⊢
  exact this
theorem least_at {ow : List Int} {k : Nat} (h : ∀ j, j < k → ow[j]?.getD 0 ≠ 0) (hk : k < ow.length) (h0 : ow[k]?.getD 0 = 0) : least ow = k := by
  have h1 := least_ge h (by omega)
  refine Nat.le_antisymm (Nat.le_of_not_lt fun hlt => ?_) h1
  have := List.not_of_lt_findIdx hlt
  simp [hk] at h0 this
  exact this h0
theorem least_none {ow : List Int} (h : ∀ j, j < ow.length → ow[j]?.getD 0 ≠ 0) : least ow = ow.length := by
  have h1 := least_ge h (Nat.le_refl _)
  have : least ow ≤ ow.length := List.findIdx_le_length
  omega
theorem least_zero {ow : List Int} (h : least ow < ow.length) : ow[least ow]?.getD 0 = 0 := by
  have := List.findIdx_getElem (w := h)
  unfold least at *
  simp [h] at this ⊢
  exact this

theorem granted_snoc (ow : List Int) (k : Nat) (h : k < ow.length) (hr : Rng ow) : granted (ow.take (k + 1)) = granted (ow.take k) + min (ow[k]?.getD 0) 1 := by
  have := (hr.at k).1
  rw [List.take_succ_eq_append_getElem h]
  unfold granted
  rw [List.countP_append]
  have e : ow[k]?.getD 0 = ow[k] := by simp [h]
  rw [e] at this ⊢
  by_cases h0 : 0 < ow[k]
  · simp [h0]; omega
  · simp [h0]; omega
theorem granted_le (ow : List Int) : 0 ≤ granted ow ∧ granted ow ≤ ow.length := by
  unfold granted
  have := List.countP_le_length (p := fun x : Int => decide (0 < x)) (l := ow)
  omega

theorem pages_upto_succ (ow : List Int) (o : Int) (k : Nat) : ((List.range (k + 1)).filter (fun i => decide (0 < ow[i]?.getD 0 ∧ ow[i]?.getD 0 - 1 = o))).map (fun i : Nat => (i : Int)) =
    ((List.range k).filter (fun i => decide (0 < ow[i]?.getD 0 ∧ ow[i]?.getD 0 - 1 = o))).map (fun i : Nat => (i : Int)) ++ (if 0 < ow[k]?.getD 0 ∧ ow[k]?.getD 0 - 1 = o then [(k : Int)] else []) := by
  rw [List.range_succ, List.filter_append, List.map_append]
  congr 1
  by_cases h : 0 < ow[k]?.getD 0 ∧ ow[k]?.getD 0 - 1 = o
  · rw [if_pos h, List.filter_cons_of_pos (by exact decide_eq_true h)]; rfl
  · rw [if_neg h, List.filter_cons_of_neg (by simpa using h)]; rfl
end Go.Proofs.Ytfmgncajhjkdlaa.AP
