/- slices that came in. -/
import Derived.Test.YtfiicnajiefiaaaDoorU
import Derived.SliceStrings
import Derived.ProofKit
import Derived.OpenShut
import Derived.SizedLaws
namespace Go.Proofs.YtfiicnajiefiaaaDoor
open Go.RowKit Go.ChangeShapes Go.WideShapes Go.ChangeAt
set_option linter.unusedVariables false
set_option linter.unusedSimpArgs false

/-- the slice value v reads as the ints l -/
def RI (w : World) (v : Value) (l : List Int) : Prop :=
  ∃ a cap, v = .slice a l.length cap ∧ (l ≠ [] → ∃ b o, a = some ⟨b, o, none⟩ ∧ ∀ i, i < l.length → w.cell? ⟨b, o + i, none⟩ = some (.int .i64 (l[i]?.getD 0)))
def I64s (l : List Int) : Prop := ∀ x ∈ l, -9223372036854775808 ≤ x ∧ x ≤ 9223372036854775807
theorem I64s.at {l : List Int} (h : I64s l) (i : Nat) : -9223372036854775808 ≤ l[i]?.getD 0 ∧ l[i]?.getD 0 ≤ 9223372036854775807 := by
  by_cases hi : i < l.length
  · simp [hi]; exact h _ (by simp)
  · simp [hi]
theorem RI.below {w w' : World} {v : Value} {l : List Int} (h : RI w v l) (hb : Below w.heap.size w w') : RI w' v l := by
  obtain ⟨a, cap, rfl, hc⟩ := h
  refine ⟨a, cap, rfl, fun hne => ?_⟩
  obtain ⟨b, o, rfl, hcc⟩ := hc hne
  refine ⟨b, o, rfl, fun i hi => ?_⟩
  have h1 := hcc i hi
  rw [hb.cell (World.block_lt_of_cell? _ _ h1)]
  exact h1
theorem RI.at {w : World} {a : Option Addr} {n cap : Nat} {l : List Int} (h : RI w (.slice a n cap) l) {i : Nat} (hi : i < n) : ∃ b o, a = some ⟨b, o, none⟩ ∧ b < w.heap.size ∧ w.cell? ⟨b, o + i, none⟩ = some (.int .i64 (l[i]?.getD 0)) := by
  obtain ⟨a', cap', e, hc⟩ := h
  simp only [Value.slice.injEq] at e
  obtain ⟨rfl, hln, rfl⟩ := e
  obtain ⟨b, o, rfl, hcc⟩ := hc (by rintro rfl; simp at hln; omega)
  have := hcc i (by omega)
  exact ⟨b, o, rfl, World.block_lt_of_cell? _ _ this, this⟩

/-- what a slice of ints that came in reads as -/
theorem ri_of {H : Type} {enc : TypeId × Value → H} {W : World} {a0 : Option Addr} {len cap : Nat} {d : DataW H} {p : List MemPlace}
    (h : DataW.Trod enc Tryd.prog W 0 (fun _ => true) true 31 (.slice a0 len cap) d p) : ∃ l : List Int, RI W (.slice a0 len cap) l ∧ I64s l ∧ l.length = len ∧ len ≤ cap ∧ cap ≤ maxLen ∧ (len = 0 ∨ ∃ els sp, d = .slice els sp ∧ els.length = len) := by
  obtain ⟨fuel, hf⟩ := h
  rcases open_ints Tryd.underlying31 Tryd.underlying3 (by kernel_rfl) hf with ⟨hcs, _⟩ | ⟨y, l, c, zs, hcs, _, hl, hm, hz, hx, hcell, hwf⟩
  · simp [Value.cells] at hcs
    obtain ⟨rfl, rfl, rfl⟩ := hcs
    exact ⟨[], ⟨none, 0, rfl, fun h => absurd rfl h⟩, fun x hx => by simp at hx, rfl, Nat.le_refl _, Nat.zero_le _, .inl rfl⟩
  · simp [Value.cells] at hcs
    obtain ⟨rfl, rfl, rfl⟩ := hcs
    simp only [if_true] at hz
    have hlen : (zs.take len).length = len := by simp; omega
    refine ⟨zs.take len, ⟨some y, cap, by rw [hlen], fun hne => ?_⟩, fun x hx => bd_i64 (hwf x (List.mem_of_mem_take hx)), hlen, hl, hm, .inr ⟨_, _, (Prod.mk.inj hx).1, by simp [lits]; omega⟩⟩
    have hpos : 0 < len := by
      rcases Nat.eq_zero_or_pos len with h0 | h0
      · subst h0; simp at hne
      · exact h0
    obtain ⟨b, off, spot⟩ := y
    have hc := hcell 0 (by omega)
    have hspot : spot = none := by simpa [Addr.add] using World.cell?_spot hc
    subst hspot
    refine ⟨b, off, rfl, fun i hi => ?_⟩
    have := hcell i (by omega)
    rw [Addr.add_lit] at this
    rw [this]
    simp [show i < len by omega]
theorem bytesOf3 : Tryd.prog.bytesOf 3 = 8 := by kernel_rfl

/-- so many letters, and one for each text -/
def sumS : List ByteArray → Nat
  | [] => 0
  | s :: l => s.size + 1 + sumS l
theorem sumS_le {l : List ByteArray} {s : ByteArray} (h : s ∈ l) : s.size + 1 ≤ sumS l := by
  induction l with
  | nil => cases h
  | cons x l ih =>
    simp only [sumS]
    rcases List.mem_cons.1 h with rfl | h
    · omega
    · have := ih h; omega
theorem sumS_len (l : List ByteArray) : l.length ≤ sumS l := by
  induction l with
  | nil => simp
  | cons x l ih => simp only [sumS, List.length_cons]; omega
theorem bulk_strs {H : Type} (l : List ByteArray) : Rows.uptoBulkAll (strs l : List (DataW H)) = sumS l := by
  induction l with
  | nil => rfl
  | cons s l ih =>
    have e : (strs (s :: l) : List (DataW H)) = .lit (.string s.data.toList) :: strs l := rfl
    rw [e]
    simp only [Rows.uptoBulkAll, Rows.uptoBulk, sumS, ih]
    have : s.data.toList.length = s.size := by rw [Array.length_toList]; rfl
    omega
/-- what a slice of texts that came in reads as -/
theorem rs_of {H : Type} {enc : TypeId × Value → H} {W : World} {a0 : Option Addr} {len cap : Nat} {d : DataW H} {p : List MemPlace}
    (h : DataW.Trod enc Tryd.prog W 0 (fun _ => true) true 26 (.slice a0 len cap) d p) : ∃ l : List ByteArray, RS W (.slice a0 len cap) l ∧ l.length = len ∧ len ≤ cap ∧ cap ≤ maxLen ∧ (Rows.uptoBulk d ≤ 1048576 → sumS l ≤ 1048576) := by
  obtain ⟨fuel, hf⟩ := h
  rcases open_strings Tryd.underlying26 Tryd.underlying9 (by kernel_rfl) hf with ⟨hcs, _⟩ | ⟨y, l, c, zs, hcs, _, hl, hm, hz, hx, hcell, hsz⟩
  · simp [Value.cells] at hcs
    obtain ⟨rfl, rfl, rfl⟩ := hcs
    exact ⟨[], ⟨none, 0, rfl, fun h => absurd rfl h⟩, rfl, Nat.le_refl _, Nat.zero_le _, fun _ => by simp [sumS]⟩
  · simp [Value.cells] at hcs
    obtain ⟨rfl, rfl, rfl⟩ := hcs
    simp only [if_true] at hz
    have hlen : (zs.take len).length = len := by simp; omega
    refine ⟨zs.take len, ⟨some y, cap, by rw [hlen], fun hne => ?_⟩, hlen, hl, hm, fun hb => ?_⟩
    · have hpos : 0 < len := by
        rcases Nat.eq_zero_or_pos len with h0 | h0
        · subst h0; simp at hne
        · exact h0
      obtain ⟨b, off, spot⟩ := y
      have hc := hcell 0 (by omega)
      have hspot : spot = none := by simpa [Addr.add] using World.cell?_spot hc
      subst hspot
      refine ⟨b, off, rfl, fun i hi => ?_⟩
      have := hcell i (by omega)
      rw [Addr.add_lit] at this
      rw [this]
      have hi' : i < len := by omega
      simp [hi', show i < zs.length by omega]
    · rw [(Prod.mk.inj hx).1] at hb
      simp only [Rows.uptoBulk, bulk_strs] at hb
      omega
theorem RS.at {w : World} {a : Option Addr} {n cap : Nat} {l : List ByteArray} (h : RS w (.slice a n cap) l) {i : Nat} (hi : i < n) : ∃ b o, a = some ⟨b, o, none⟩ ∧ b < w.heap.size ∧ w.cell? ⟨b, o + i, none⟩ = some (.string (l[i]?.getD ⟨#[]⟩)) := by
  obtain ⟨a', cap', e, hc⟩ := h
  simp only [Value.slice.injEq] at e
  obtain ⟨rfl, hln, rfl⟩ := e
  obtain ⟨b, o, rfl, hcc⟩ := hc (by rintro rfl; simp at hln; omega)
  have := hcc i (by omega)
  exact ⟨b, o, rfl, World.block_lt_of_cell? _ _ this, this⟩
end Go.Proofs.YtfiicnajiefiaaaDoor
