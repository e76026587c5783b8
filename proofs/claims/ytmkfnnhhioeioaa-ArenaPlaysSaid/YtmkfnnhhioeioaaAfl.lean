/- ArenaFull's plain facts. -/
import Derived.Test.YtmkfnnhhioeioaaApl
namespace Go.Proofs.Ytmkfnnhhioeioaa.AP
set_option linter.unusedVariables false

/-- of N pages the first j are granted, page i to i modulo 63 -/
def full (N j : Nat) : List Int := (List.range N).map (fun i : Nat => if i < j then ((i % 63 + 1 : Nat) : Int) else 0)
theorem full_len (N j : Nat) : (full N j).length = N := by simp [full]
theorem full_at {N j i : Nat} (h : i < N) : (full N j)[i]?.getD 0 = if i < j then ((i % 63 + 1 : Nat) : Int) else 0 := by
  unfold full
  rw [List.getElem?_map, List.getElem?_range h]; rfl
theorem full_zero (N : Nat) : full N 0 = List.replicate N 0 := by
  unfold full
  refine List.ext_getElem (by simp) (fun i h1 h2 => by simp)
theorem full_least {N j : Nat} (h : j < N) : least (full N j) = j := by
  refine least_at (fun q hq => ?_) (by rw [full_len]; exact h) ?_
  · rw [full_at (by omega), if_pos hq]; omega
  · rw [full_at h, if_neg (by omega)]
theorem full_set {N j : Nat} (h : j < N) : (full N j).set j (((j % 63 : Nat) : Int) + 1) = full N (j + 1) := by
  refine List.ext_getElem (by simp [full_len]) (fun i h1 h2 => ?_)
  have hi : i < N := by rw [full_len] at h2; exact h2
  rw [List.getElem_set]
  have e1 : (full N j)[i]'(by rw [full_len]; exact hi) = if i < j then ((i % 63 + 1 : Nat) : Int) else 0 := by
    have := full_at (j := j) hi; rw [List.getElem?_eq_getElem (by rw [full_len]; exact hi)] at this; simpa using this
  have e2 : (full N (j + 1))[i]'h2 = if i < j + 1 then ((i % 63 + 1 : Nat) : Int) else 0 := by
    have := full_at (j := j + 1) hi; rw [List.getElem?_eq_getElem h2] at this; simpa using this
  rw [e1, e2]
  by_cases hij : j = i
  · subst hij; rw [if_pos rfl, if_pos (by omega)]; omega
  · rw [if_neg hij]
    by_cases hlt : i < j
    · rw [if_pos hlt, if_pos (by omega)]
    · rw [if_neg hlt, if_neg (by omega)]
theorem full_grant {N j : Nat} (h : j < N) : grP (full N j) ((j : Int) % 63) = j ∧ grE (full N j) ((j : Int) % 63) = 0 ∧ grO (full N j) ((j : Int) % 63) = full N (j + 1) := by
  have hok : okO ((j : Int) % 63) = true := by unfold okO; exact decide_eq_true (by omega)
  have hl := full_least h
  have hlt : least (full N j) < (full N j).length := by rw [hl, full_len]; exact h
  refine ⟨?_, ?_, ?_⟩
  · unfold grP; rw [if_pos ⟨hok, hlt⟩, hl]
  · unfold grE; rw [if_pos hok, if_pos hlt]
  · unfold grO; rw [if_pos ⟨hok, hlt⟩, hl, ← full_set h, show ((j : Int) % 63) = ((j % 63 : Nat) : Int) by omega]
theorem countP_range (p : Nat → Bool) : ∀ n, (List.range n).countP p ≤ n := fun n => by have := List.countP_le_length (p := p) (l := List.range n); simpa using this
theorem full_granted {N j : Nat} (h : j ≤ N) : granted (full N j) = j := by
  have e : ∀ M, (full M j).countP (fun x => decide (0 < x)) = min M j := by
    intro M
    induction M with
    | zero => simp [full]
    | succ M ih =>
      unfold full at ih ⊢
      rw [List.range_succ, List.map_append, List.countP_append, ih]
      by_cases hm : M < j
      · rw [show min (M + 1) j = min M j + 1 by omega]; simp [hm]; omega
      · rw [show min (M + 1) j = min M j by omega]; simp [hm]
  unfold granted; rw [e]; omega
theorem full_end {N : Nat} : grP (full N N) 0 = -1 ∧ grE (full N N) 0 = 5 ∧ grO (full N N) 0 = full N N := by
  have hl : least (full N N) = N := by
    have := least_none (ow := full N N) (fun j hj => by rw [full_len] at hj; rw [full_at hj, if_pos hj]; omega)
    rw [full_len] at this; exact this
  have hlt : ¬ least (full N N) < (full N N).length := by rw [hl, full_len]; omega
  refine ⟨?_, ?_, ?_⟩
  · unfold grP; rw [if_neg (fun h => hlt h.2)]
  · unfold grE; rw [if_pos (by decide), if_neg hlt]
  · unfold grO; rw [if_neg (fun h => hlt h.2)]
theorem full_back {N k : Nat} (h : k < N) : reE (full N N) k = 0 ∧ reO (full N N) k = (full N N).set k 0 := by
  have ho : ¬ owner (full N N) (k : Int) < 0 := by rw [owner_at (by rw [full_len]; exact h), full_at h, if_pos h]; omega
  exact ⟨by unfold reE; rw [if_neg ho], by unfold reO; rw [if_neg ho]; rfl⟩
theorem full_back2 {N k : Nat} (h : k < N) : reE ((full N N).set k 0) k = 7 ∧ reO ((full N N).set k 0) k = (full N N).set k 0 := by
  have ho : owner ((full N N).set k 0) (k : Int) < 0 := by
    rw [owner_at (by simp [full_len]; exact h), List.getElem?_set_self (by rw [full_len]; exact h)]; decide
  exact ⟨by unfold reE; rw [if_pos ho], by unfold reO; rw [if_pos ho]⟩
theorem full_again {N k : Nat} (h : k < N) : grP ((full N N).set k 0) 7 = k ∧ grE ((full N N).set k 0) 7 = 0 ∧ owner (grO ((full N N).set k 0) 7) k = 7 := by
  have hl : least ((full N N).set k 0) = k := by
    refine least_at (fun q hq => ?_) (by simp [full_len]; exact h) ?_
    · rw [List.getElem?_set_ne (by omega), full_at (by omega), if_pos (by omega)]; omega
    · rw [List.getElem?_set_self (by rw [full_len]; exact h)]; rfl
  have hlt : least ((full N N).set k 0) < ((full N N).set k 0).length := by rw [hl]; simp [full_len]; exact h
  refine ⟨?_, ?_, ?_⟩
  · unfold grP; rw [if_pos ⟨by decide, hlt⟩, hl]
  · unfold grE; rw [if_pos (by decide), if_pos hlt]
  · unfold grO; rw [if_pos ⟨by decide, hlt⟩, hl, owner_at (by simp [full_len]; exact h), List.getElem?_set_self (by simp [full_len]; exact h)]; rfl
end Go.Proofs.Ytmkfnnhhioeioaa.AP
