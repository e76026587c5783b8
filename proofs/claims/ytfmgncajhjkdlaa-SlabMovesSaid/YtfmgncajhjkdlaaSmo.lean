/- SlabMoves: the plain law. -/
import Derived.Test.YtfmgncajhjkdlaaStu
import Derived.Test.YtfmgncajhjkdlaaScn
namespace Go.Proofs.Ytfmgncajhjkdlaa
open Go.RowKit Go.PlainAid
open SP
set_option linter.unusedVariables false
set_option linter.unusedSimpArgs false

def usL (fs : List Nat) : List Bool := (List.range 8).map (fun k => !fs.contains k)
theorem usL_len (fs : List Nat) : (usL fs).length = 8 := by simp [usL]
theorem usL_at (fs : List Nat) {k : Nat} (hk : k < 8) : (usL fs)[k]?.getD false = !fs.contains k := tP_at fs hk
theorem usL_set (fs : List Nat) (k : Nat) : (usL fs).set k false = usL (fs ++ [k]) := tP_set fs k
theorem usL_same (fs : List Nat) {k : Nat} (h : k ∈ fs) : (usL fs).set k false = usL fs := by
  rw [usL_set]
  unfold usL
  apply List.map_congr_left
  intro j _
  simp
  intro hj e
  subst e
  exact hj h
/-- a page of eight chunks of the first of three classes, of which fs are free -/
def oP (fs : List Nat) : Pi := ⟨512, [1], [], [64, 128, 512], [fs.map (fun (k : Nat) => (k : Int)), [], []], [some ⟨usL fs, 8 - (fs.length : Int), false⟩]⟩
/-- it is closed -/
def cP (fs : List Nat) : Pi := ⟨512, [1], [], [64, 128, 512], [[], [], []], [some ⟨usL fs, 8 - (fs.length : Int), true⟩]⟩
def mv0 : Pi := madeP 1 512 [64, 128, 512]
theorem mv8 : alN 8 mv0 = oP [] := by decide
theorem mvI : ∀ i, i < 8 → alC (alN i mv0) 0 = (i : Int) ∧ alOk (alN i mv0) 0 = 0 := by decide
theorem nums {k : Nat} (hk : k < 8) : ((k : Int) / 4096).toNat = 0 ∧ ((k : Int) % 4096).toNat = k := by omega
theorem oP_used (fs : List Nat) {k : Nat} (hk : k < 8) : usedP (oP fs) (k : Int) = !fs.contains k := by
  unfold usedP
  rw [if_neg (by omega), (nums hk).1, (nums hk).2, show (oP fs).page 0 = some ⟨usL fs, 8 - (fs.length : Int), false⟩ from rfl]
  dsimp only
  rw [usL_at fs hk, usL_len]
  simp [hk]
theorem cP_used (fs : List Nat) {k : Nat} (hk : k < 8) : usedP (cP fs) (k : Int) = !fs.contains k := by
  unfold usedP
  rw [if_neg (by omega), (nums hk).1, (nums hk).2, show (cP fs).page 0 = some ⟨usL fs, 8 - (fs.length : Int), true⟩ from rfl]
  dsimp only
  rw [usL_at fs hk, usL_len]
  simp [hk]
theorem oP_free (fs : List Nat) {k : Nat} (hk : k < 8) (h : k ∉ fs) : frE (oP fs) (k : Int) = 0 ∧ frS (oP fs) (k : Int) = oP (fs ++ [k]) := by
  have hu : usedP (oP fs) (k : Int) = true := by rw [oP_used fs hk]; simp [h]
  unfold frE frS
  rw [hu]
  refine ⟨rfl, ?_⟩
  rw [if_pos rfl, (nums hk).1, show closedP (oP fs) 0 = false from rfl, if_neg (by simp)]
  unfold SP.mark
  rw [(nums hk).1, (nums hk).2, show (oP fs).page 0 = some ⟨usL fs, 8 - (fs.length : Int), false⟩ from rfl, show ownC (oP fs) 0 = 0 from rfl]
  show Pi.mk 512 [1] [] [64, 128, 512] [fs.map (fun (k : Nat) => (k : Int)) ++ [(k : Int)], [], []] [some ⟨(usL fs).set k false, 8 - (fs.length : Int) + (-1), false⟩] = _
  rw [usL_set]
  unfold oP
  simp only [List.map_append, List.map_cons, List.map_nil, List.length_append, List.length_cons, List.length_nil]
  rw [show (8 : Int) - (fs.length : Int) + -1 = 8 - ((fs.length + (0 + 1) : Nat) : Int) by omega]
theorem oP_not (fs : List Nat) {k : Nat} (hk : k < 8) (h : k ∈ fs) : frE (oP fs) (k : Int) = 8 ∧ frS (oP fs) (k : Int) = oP fs := by
  have hu : usedP (oP fs) (k : Int) = false := by rw [oP_used fs hk]; simp [h]
  unfold frE frS
  rw [hu]
  exact ⟨rfl, rfl⟩
theorem cP_free (fs : List Nat) {k : Nat} (hk : k < 8) (h : k ∉ fs) : frE (cP fs) (k : Int) = 0 ∧ frS (cP fs) (k : Int) = cP (fs ++ [k]) := by
  have hu : usedP (cP fs) (k : Int) = true := by rw [cP_used fs hk]; simp [h]
  unfold frE frS
  rw [hu]
  refine ⟨rfl, ?_⟩
  rw [if_pos rfl, (nums hk).1, show closedP (cP fs) 0 = true from rfl, if_pos rfl]
  unfold SP.mark
  rw [(nums hk).1, (nums hk).2, show (cP fs).page 0 = some ⟨usL fs, 8 - (fs.length : Int), true⟩ from rfl]
  show Pi.mk 512 [1] [] [64, 128, 512] [[], [], []] [some ⟨(usL fs).set k false, 8 - (fs.length : Int) + (-1), true⟩] = _
  rw [usL_set]
  unfold cP
  simp only [List.length_append, List.length_cons, List.length_nil]
  rw [show (8 : Int) - (fs.length : Int) + -1 = 8 - ((fs.length + (0 + 1) : Nat) : Int) by omega]
theorem cP_not (fs : List Nat) {k : Nat} (hk : k < 8) (h : k ∈ fs) : frE (cP fs) (k : Int) = 8 ∧ frS (cP fs) (k : Int) = cP fs := by
  have hu : usedP (cP fs) (k : Int) = false := by rw [cP_used fs hk]; simp [h]
  unfold frE frS
  rw [hu]
  exact ⟨rfl, rfl⟩
theorem oP_close (fs : List Nat) (h : ∀ k ∈ fs, k < 8) : clE (oP fs) 0 = 0 ∧ clS (oP fs) 0 = cP fs := by
  refine ⟨rfl, ?_⟩
  show Pi.mk 512 [1] [] [64, 128, 512] [rowKept 0 (fs.map (fun (k : Nat) => (k : Int))), [], []] [some ⟨usL fs, 8 - (fs.length : Int), true⟩] = _
  have e : rowKept 0 (fs.map (fun (k : Nat) => (k : Int))) = [] := by
    unfold rowKept kept asI
    rw [List.map_map, List.map_eq_nil_iff, List.filter_eq_nil_iff]
    intro m hm
    obtain ⟨k, hk, rfl⟩ := List.mem_map.1 hm
    have := h k hk
    simp [hit]
    omega
  rw [e]
  rfl
theorem cP_close (fs : List Nat) : clE (cP fs) 0 = 7 ∧ clS (cP fs) 0 = cP fs := ⟨rfl, rfl⟩
theorem cP_alloc (fs : List Nat) : (alC (cP fs) 0 = -1 ∧ alOk (cP fs) 0 = 5) ∧ alS (cP fs) 0 = cP fs := ⟨⟨rfl, rfl⟩, rfl⟩
theorem cnt (fs : List Nat) (hn : fs.Nodup) (h : ∀ k ∈ fs, k < 8) : ((List.range 8).filter (fun k => !fs.contains k)).length + fs.length = 8 := by
  have h1 : ((List.range 8).filter (fun k => fs.contains k)).length = fs.length := by
    apply List.Perm.length_eq
    rw [List.perm_ext_iff_of_nodup (List.nodup_range.filter _) hn]
    intro k
    rw [List.mem_filter, List.mem_range]
    simp
    exact fun hk => h k hk
  have h2 := List.length_eq_countP_add_countP (fun k => fs.contains k) (l := List.range 8)
  rw [List.countP_eq_length_filter, List.countP_eq_length_filter, h1, List.length_range] at h2
  have e : (List.range 8).filter (fun k => decide (¬ fs.contains k = true)) = (List.range 8).filter (fun k => !fs.contains k) := by
    apply List.filter_congr
    intro k _
    simp
  rw [e] at h2
  omega
theorem cP_chunks (fs : List Nat) (hn : fs.Nodup) (h : ∀ k ∈ fs, k < 8) : (chL (cP fs) 0).length + fs.length = 8 := by
  rw [← cnt fs hn h]
  show (chU 0 (usL fs) (usL fs).length).length + _ = _
  rw [usL_len]
  unfold chU
  rw [List.length_map]
  have e : (List.range 8).filter (fun i => (usL fs)[i]?.getD false) = (List.range 8).filter (fun k => !fs.contains k) := by
    apply List.filter_congr
    intro k hk
    exact usL_at fs (List.mem_range.1 hk)
  rw [e]
theorem cP_busy (fs : List Nat) (h : fs.length < 8) : mvE (cP fs) 0 1 = 10 ∧ mvS (cP fs) 0 1 = cP fs := by
  have h1 : mvE (cP fs) 0 1 = 10 := by
    show (if true = false then 7 else if ¬ ((0 : Int) ≤ 1 ∧ (1 : Int) < 3) then 1 else if 0 < 8 - (fs.length : Int) then 10 else 0) = 10
    rw [if_neg (by simp), if_neg (by simp), if_pos (by omega)]
  refine ⟨h1, ?_⟩
  unfold mvS
  rw [h1]; rfl
/-- all are free -/
def cE : Pi := ⟨512, [1], [], [64, 128, 512], [[], [], []], [some ⟨List.replicate 8 false, 0, true⟩]⟩
theorem cP_all (fs : List Nat) (hn : fs.Nodup) (h : ∀ k ∈ fs, k < 8) (hl : fs.length = 8) : cP fs = cE := by
  have h1 := cnt fs hn h
  have h2 : (List.range 8).filter (fun k => !fs.contains k) = [] := List.length_eq_zero_iff.1 (by omega)
  rw [List.filter_eq_nil_iff] at h2
  have e : usL fs = List.replicate 8 false := by
    unfold usL
    rw [show List.replicate 8 false = (List.range 8).map (fun _ => false) from rfl]
    apply List.map_congr_left
    intro k hk
    have := h2 k hk
    simpa using this
  unfold cP cE
  rw [e, hl]
  rfl
def mE : Pi := mvS cE 0 1
theorem mE_1 : mvE cE 0 1 = 0 := by decide
theorem mE_2 : coP mE 1 = 1 ∧ coU mE 1 = 0 ∧ coF mE 1 = 4 := by decide
theorem mE_3 : alC mE 1 = 0 ∧ alOk mE 1 = 0 := by decide
theorem mE_4 : whP (alS mE 1) 0 = 0 ∧ whA (alS mE 1) 0 = 0 ∧ whS (alS mE 1) 0 = 128 := by decide
theorem mE_5 : opE (alS mE 1) 0 = 7 := by decide
end Go.Proofs.Ytfmgncajhjkdlaa
