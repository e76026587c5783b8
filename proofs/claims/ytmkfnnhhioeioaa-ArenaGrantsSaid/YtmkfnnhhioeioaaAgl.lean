/- ArenaGrants' plain facts. -/
import Derived.Test.YtmkfnnhhioeioaaApl
namespace Go.Proofs.Ytmkfnnhhioeioaa.AP
set_option linter.unusedVariables false

def R5 (ow : List Int) : Prop := ∀ x ∈ ow, 0 ≤ x ∧ x ≤ 5
theorem R5.at {ow : List Int} (h : R5 ow) (i : Nat) : 0 ≤ ow[i]?.getD 0 ∧ ow[i]?.getD 0 ≤ 5 := by
  by_cases hi : i < ow.length
  · simp [hi]; exact h _ (by simp)
  · simp [hi]
theorem R5.set {ow : List Int} (h : R5 ow) {i : Nat} {c : Int} (h0 : 0 ≤ c) (h1 : c ≤ 5) : R5 (ow.set i c) := by
  intro x hx
  rcases List.mem_or_eq_of_mem_set hx with h2 | h2
  · exact h x h2
  · omega
theorem R5_zero (N : Nat) : R5 (List.replicate N 0) := fun x hx => by have := List.eq_of_mem_replicate hx; omega

theorem set_noop {ow : List Int} {q : Nat} (h : q < ow.length) (h0 : ow[q]?.getD 0 = 0) : ow.set q 0 = ow := by
  refine List.ext_getElem (by simp) (fun i h1 h2 => ?_)
  rw [List.getElem_set]
  split
  · rename_i e; subst e; rw [List.getElem?_eq_getElem h] at h0; simpa using h0.symm
  · rfl
/-- a return: the page was granted just if it is said so; behind it it is free -/
theorem return_facts {ow : List Int} {q : Nat} (h : q < ow.length) (hr : R5 ow) : reE ow q = (if 0 < ow[q]?.getD 0 then 0 else 7) ∧ reO ow q = ow.set q 0 := by
  have ho := owner_at h
  have hb := hr.at q
  unfold reE reO
  rw [ho]
  by_cases h0 : 0 < ow[q]?.getD 0
  · have h1 : ¬ ow[q]?.getD 0 - 1 < 0 := by omega
    rw [if_neg h1, if_neg h1, if_pos h0]; exact ⟨rfl, rfl⟩
  · have h1 : ow[q]?.getD 0 - 1 < 0 := by omega
    rw [if_pos h1, if_pos h1, if_neg h0]; exact ⟨rfl, (set_noop h (by omega)).symm⟩

/-- a grant -/
theorem grant_yes {ow : List Int} {o : Int} (h0 : 0 ≤ o) (h1 : o < 5) (hl : least ow < ow.length) : grP ow o = least ow ∧ grE ow o = 0 ∧ grO ow o = ow.set (least ow) (o + 1) := by
  have hok : okO o = true := by unfold okO; exact decide_eq_true (by omega)
  unfold grP grE grO
  rw [if_pos ⟨hok, hl⟩, if_pos hok, if_pos hl, if_pos ⟨hok, hl⟩]; exact ⟨rfl, rfl, rfl⟩
theorem grant_full {ow : List Int} {o : Int} (h0 : 0 ≤ o) (h1 : o < 5) (hl : ¬ least ow < ow.length) : grP ow o = -1 ∧ grE ow o = 5 ∧ grO ow o = ow := by
  have hok : okO o = true := by unfold okO; exact decide_eq_true (by omega)
  unfold grP grE grO
  rw [if_neg (fun h => hl h.2), if_pos hok, if_neg hl, if_neg (fun h => hl h.2)]; exact ⟨rfl, rfl, rfl⟩

/-- how many are granted to the owners below o -/
def cnt (ow : List Int) (o : Int) : Int := ow.countP (fun x => decide (0 < x ∧ x ≤ o))
theorem list_range (l : List Int) : l = (List.range l.length).map (fun i => l[i]?.getD 0) := by
  refine List.ext_getElem (by simp) (fun i h1 h2 => ?_)
  simp [h1]
theorem pages_len (ow : List Int) (o : Int) : (pages ow o).length = ow.countP (fun x => decide (0 < x ∧ x - 1 = o)) := by
  unfold pages
  rw [List.length_map]
  conv => rhs; rw [list_range ow]
  rw [List.countP_map, List.countP_eq_length_filter]; rfl
theorem cnt_zero (ow : List Int) : cnt ow 0 = 0 := by
  unfold cnt
  have : ow.countP (fun x => decide (0 < x ∧ x ≤ 0)) = 0 := by
    rw [List.countP_eq_zero]; intro x _; simp
  rw [this]; rfl
theorem cnt_succ (ow : List Int) (o : Int) (h : 0 ≤ o) : cnt ow (o + 1) = cnt ow o + (pages ow o).length := by
  rw [pages_len]; unfold cnt
  induction ow with
  | nil => rfl
  | cons x l ih =>
    simp only [List.countP_cons]
    by_cases h1 : 0 < x ∧ x ≤ o
    · rw [if_pos (by exact decide_eq_true (by omega)), if_pos (by exact decide_eq_true h1), if_neg (by simp; omega)]; omega
    · by_cases h2 : 0 < x ∧ x - 1 = o
      · rw [if_pos (by exact decide_eq_true (by omega)), if_neg (by simp; omega), if_pos (by exact decide_eq_true h2)]; omega
      · rw [if_neg (by simp; omega), if_neg (by simp; omega), if_neg (by simp; omega)]; omega
theorem cnt_all {ow : List Int} (h : R5 ow) : granted ow = cnt ow 5 := by
  unfold granted cnt
  have : ow.countP (fun x => decide (0 < x)) = ow.countP (fun x => decide (0 < x ∧ x ≤ 5)) := by
    refine List.countP_congr (fun x hx => ?_)
    have := h x hx
    simp; omega
  rw [this]
theorem cnt_le (ow : List Int) (o : Int) : 0 ≤ cnt ow o ∧ cnt ow o ≤ ow.length := by
  unfold cnt
  have := List.countP_le_length (p := fun x : Int => decide (0 < x ∧ x ≤ o)) (l := ow)
  omega
theorem pages_len_le (ow : List Int) (o : Int) : (pages ow o).length ≤ ow.length := by
  rw [pages_len]; exact List.countP_le_length

/-- an owner's page -/
theorem pages_at {ow : List Int} {o : Int} {i : Nat} (h : i < (pages ow o).length) : ∃ q : Nat, (pages ow o)[i]?.getD 0 = (q : Int) ∧ q < ow.length ∧ ow[q]?.getD 0 = o + 1 := by
  have hm : (pages ow o)[i] ∈ pages ow o := List.getElem_mem h
  have e : (pages ow o)[i]?.getD 0 = (pages ow o)[i] := by simp [h]
  rw [e]
  generalize (pages ow o)[i] = x at hm
  unfold pages at hm
  obtain ⟨q, hq, rfl⟩ := List.mem_map.1 hm
  rw [List.mem_filter] at hq
  obtain ⟨h1, h2⟩ := hq
  simp at h1 h2
  exact ⟨q, rfl, h1, by omega⟩
theorem pages_rise {ow : List Int} {o : Int} {i : Nat} (h : i + 1 < (pages ow o).length) : (pages ow o)[i]?.getD 0 < (pages ow o)[i + 1]?.getD 0 := by
  have hp : (pages ow o).Pairwise (· < ·) := by
    unfold pages
    rw [List.pairwise_map]
    refine List.Pairwise.imp (fun {a b} hab => ?_) (List.Pairwise.filter _ List.pairwise_lt_range)
    omega
  have := List.pairwise_iff_getElem.1 hp i (i + 1) (by omega) h (by omega)
  simpa [h, show i < (pages ow o).length by omega] using this
end Go.Proofs.Ytmkfnnhhioeioaa.AP
