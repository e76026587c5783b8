/- SlabTurns: the plain law. -/
import Derived.Test.YtfmgncajhjkdlaaSsh
namespace Go.Proofs.Ytfmgncajhjkdlaa
open Go.RowKit Go.PlainAid
open SP
set_option linter.unusedVariables false
set_option linter.unusedSimpArgs false

/-- a page of eight chunks, of which fs are free -/
def tP (fs : List Nat) : Pi := ⟨512, [1], [], [64, 512], [fs.map (fun (k : Nat) => (k : Int)), []], [some ⟨(List.range 8).map (fun k => !fs.contains k), 8 - (fs.length : Int), false⟩]⟩
def alN : Nat → Pi → Pi
  | 0, π => π
  | n + 1, π => alS (alN n π) 0
theorem turn8 : alN 8 (madeP 1 512 [64, 512]) = tP [] := by decide
theorem turnFull : alOk (tP []) 0 = 5 := by decide
theorem tP_page (fs : List Nat) : (tP fs).page 0 = some ⟨(List.range 8).map (fun k => !fs.contains k), 8 - (fs.length : Int), false⟩ := rfl
theorem tP_at (fs : List Nat) {k : Nat} (hk : k < 8) : ((List.range 8).map (fun j => !fs.contains j))[k]?.getD false = !fs.contains k := by
  rw [List.getElem?_map, List.getElem?_range hk]; rfl
theorem tP_used (fs : List Nat) {k : Nat} (hk : k < 8) : usedP (tP fs) (k : Int) = !fs.contains k := by
  unfold usedP
  rw [if_neg (by omega), show ((k : Int) / 4096).toNat = 0 by omega, show ((k : Int) % 4096).toNat = k by omega, tP_page]
  dsimp only
  rw [tP_at fs hk]
  simp [hk]
theorem tP_set (fs : List Nat) (k : Nat) : ((List.range 8).map (fun j => !fs.contains j)).set k false = (List.range 8).map (fun j => !(fs ++ [k]).contains j) := by
  apply List.ext_getElem?
  intro j
  by_cases hj : j < 8
  · by_cases e : k = j
    · subst e
      rw [List.getElem?_set_self (by simpa using hj), List.getElem?_map, List.getElem?_range hj]
      simp
    · rw [List.getElem?_set_ne e, List.getElem?_map, List.getElem?_map, List.getElem?_range hj]
      simp
      intro h
      omega
  · rw [List.getElem?_eq_none (by simp; omega), List.getElem?_eq_none (by simp; omega)]
theorem tP_set2 (fs : List Nat) (k : Nat) (h : k ∉ fs) : ((List.range 8).map (fun j => !(fs ++ [k]).contains j)).set k true = (List.range 8).map (fun j => !fs.contains j) := by
  apply List.ext_getElem?
  intro j
  by_cases hj : j < 8
  · by_cases e : k = j
    · subst e
      rw [List.getElem?_set_self (by simpa using hj), List.getElem?_map, List.getElem?_range hj]
      simp [h]
    · rw [List.getElem?_set_ne e, List.getElem?_map, List.getElem?_map, List.getElem?_range hj]
      simp
      intro h
      omega
  · rw [List.getElem?_eq_none (by simp; omega), List.getElem?_eq_none (by simp; omega)]
theorem tP_free (fs : List Nat) {k : Nat} (hk : k < 8) (h : k ∉ fs) : frE (tP fs) (k : Int) = 0 ∧ frS (tP fs) (k : Int) = tP (fs ++ [k]) := by
  have hu : usedP (tP fs) (k : Int) = true := by rw [tP_used fs hk]; simp [h]
  have e1 : ((k : Int) / 4096).toNat = 0 := by omega
  have e2 : ((k : Int) % 4096).toNat = k := by omega
  unfold frE frS
  rw [hu]
  refine ⟨rfl, ?_⟩
  rw [if_pos rfl, e1, show closedP (tP fs) 0 = false from rfl, if_neg (by simp)]
  unfold SP.mark
  rw [e1, e2, tP_page]
  have e3 : ownC (tP fs) 0 = 0 := rfl
  rw [e3]
  show Pi.mk 512 [1] [] [64, 512] [fs.map (fun (k : Nat) => (k : Int)) ++ [(k : Int)], []] [some ⟨((List.range 8).map (fun j => !fs.contains j)).set k false, 8 - (fs.length : Int) + (-1), false⟩] = _
  rw [tP_set]
  unfold tP
  simp only [List.map_append, List.map_cons, List.map_nil, List.length_append, List.length_cons, List.length_nil]
  rw [show (8 : Int) - (fs.length : Int) + -1 = 8 - ((fs.length + (0 + 1) : Nat) : Int) by omega]
theorem tP_alloc (fs : List Nat) {k : Nat} (hk : k < 8) (h : k ∉ fs) : (alC (tP (fs ++ [k])) 0 = k ∧ alOk (tP (fs ++ [k])) 0 = 0) ∧ alS (tP (fs ++ [k])) 0 = tP fs := by
  have hrow : rowC (tP (fs ++ [k])) 0 = fs.map (fun (k : Nat) => (k : Int)) ++ [(k : Int)] := by unfold rowC tP; simp
  have hne : rowC (tP (fs ++ [k])) 0 ≠ [] := by rw [hrow]; simp
  have hok : alOk (tP (fs ++ [k])) 0 = 0 := by
    unfold alOk
    rw [if_neg (by simp [tP]), if_neg (fun hh => hne hh.1)]
  have hpre : preP (tP (fs ++ [k])) 0 = tP (fs ++ [k]) := by unfold preP; rw [if_neg hne]
  have hlast : lastC (rowC (tP (fs ++ [k])) 0) = k := by
    rw [hrow]; unfold lastC
    simp
  unfold alC alS
  rw [hok, if_pos rfl, if_pos rfl, show (0 : Int).toNat = 0 from rfl, hpre]
  refine ⟨⟨hlast, rfl⟩, ?_⟩
  unfold popP
  rw [hlast, hrow]
  unfold SP.mark
  have e1 : ((k : Int) / 4096).toNat = 0 := by omega
  have e2 : ((k : Int) % 4096).toNat = k := by omega
  rw [e1, e2]
  show Pi.mk 512 [1] [] [64, 512] [(fs.map (fun (k : Nat) => (k : Int)) ++ [(k : Int)]).dropLast, []] [some ⟨((List.range 8).map (fun j => !(fs ++ [k]).contains j)).set k true, 8 - ((fs ++ [k]).length : Int) + 1, false⟩] = _
  rw [tP_set2 fs k h, List.dropLast_concat]
  unfold tP
  simp only [List.length_append, List.length_cons, List.length_nil]
  rw [show (8 : Int) - ((fs.length + (0 + 1) : Nat) : Int) + 1 = 8 - (fs.length : Int) by omega]
end Go.Proofs.Ytfmgncajhjkdlaa
