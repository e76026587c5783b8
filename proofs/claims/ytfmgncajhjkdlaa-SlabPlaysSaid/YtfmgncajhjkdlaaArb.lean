/- an arena's bytes: what memory does. -/
import Derived.Test.YtfmgncajhjkdlaaArp
import Derived.Lib.AppendZerosOnto
import Derived.Deep.DeepAppendWide
namespace Go.Proofs.Ytfmgncajhjkdlaa
open Go.RowKit Go.PlainAid
set_option linter.unusedVariables false
set_option linter.unusedSimpArgs false

namespace AP
/-- bytes, with so many zeros behind that there are M -/
def ext (bs : List Int) (M : Nat) : List Int := bs ++ List.replicate (M - bs.length) 0
theorem ext_len (bs : List Int) (M : Nat) : (ext bs M).length = max bs.length M := by unfold ext; simp; omega
theorem ext_none {bs : List Int} {M : Nat} (h : M ≤ bs.length) : ext bs M = bs := by unfold ext; rw [show M - bs.length = 0 by omega]; simp
/-- ys laid over xs from off on -/
def splice (xs : List Int) (off : Nat) (ys : List Int) : List Int := xs.take off ++ ys ++ xs.drop (off + ys.length)
theorem splice_nil (xs : List Int) (off : Nat) : splice xs off [] = xs := by simp [splice]
theorem splice_len {xs : List Int} {off : Nat} {ys : List Int} (h : off + ys.length ≤ xs.length) : (splice xs off ys).length = xs.length := by
  simp [splice]; omega
theorem splice_at {xs : List Int} {off : Nat} {ys : List Int} (h : off + ys.length ≤ xs.length) (i : Nat) : (splice xs off ys)[i]?.getD 0 = if off ≤ i ∧ i < off + ys.length then ys[i - off]?.getD 0 else xs[i]?.getD 0 := by
  unfold splice
  have h1 : (xs.take off).length = off := by simp; omega
  by_cases ha : i < off
  · rw [if_neg (by omega), List.append_assoc, List.getElem?_append_left (by omega), List.getElem?_take, if_pos ha]
  · by_cases hb : i < off + ys.length
    · rw [if_pos ⟨by omega, hb⟩, List.append_assoc, List.getElem?_append_right (by omega), h1, List.getElem?_append_left (by omega)]
    · rw [if_neg (by omega), List.getElem?_append_right (by simp; omega), List.getElem?_drop]
      congr 2
      simp; omega
end AP

/-- the slice value v reads as the bytes l -/
def RB (w : World) (v : Value) (l : List Int) : Prop :=
  ∃ a cap, v = .slice a l.length cap ∧ (l ≠ [] → ∃ b o, a = some ⟨b, o, none⟩ ∧ ∀ i, i < l.length → w.cell? ⟨b, o + i, none⟩ = some (.int .u8 (l[i]?.getD 0)))
theorem RB.below {w w' : World} {v : Value} {l : List Int} (h : RB w v l) (hb : Below w.heap.size w w') : RB w' v l := by
  obtain ⟨a, cap, rfl, hc⟩ := h
  refine ⟨a, cap, rfl, fun hne => ?_⟩
  obtain ⟨b, o, rfl, hcc⟩ := hc hne
  refine ⟨b, o, rfl, fun i hi => ?_⟩
  have h1 := hcc i hi
  rw [hb.cell (World.block_lt_of_cell? _ _ h1)]
  exact h1
theorem rb_own {w : World} {base n : Nat} {v : Value} {l : List Int} (h : w.ownsRow base 5 1 v n (l.map (.int .u8))) : RB w v l := by
  have hn : l.length = n := by simpa using h.1
  subst hn
  rcases h.2 with ⟨rfl, h0⟩ | ⟨g, cap, cur, rfl, _⟩
  · exact ⟨none, 0, by rw [h0], fun hne => absurd (List.eq_nil_of_length_eq_zero h0) hne⟩
  · refine ⟨some ⟨g, 0, none⟩, cap, rfl, fun _ => ⟨g, 0, rfl, fun i hi => ?_⟩⟩
    have := h.cellAt i (by omega)
    rw [Nat.zero_add, this]
    simp [hi]

theorem zeros_u8 (k : Nat) : (Builtin.zeroCells (Value.int .u8 0).cells k).toList = (List.replicate k (0 : Int)).map (.int .u8) := by
  refine List.ext_getElem (by simp [Builtin.zeroCells, Value.cells]) (fun i h1 h2 => ?_)
  simp [Builtin.zeroCells, Value.cells, Nat.mod_one]
theorem zeros_size (k : Nat) : (Builtin.zeroCells (Value.int .u8 0).cells k).size = k := by simp [Builtin.zeroCells, Value.cells]

/-- append of so many zeros to a row of bytes -/
theorem run_app_zeros (w : World) (ty : TypeId) (base : Nat) (v : Value) (n : Nat) (xs : List Int) (hown : w.ownsRow base 5 1 v n (xs.map (.int .u8))) (k : Nat) (h0 : 0 < k) (hn : n + k ≤ 100000000) (hbase : base ≤ w.heap.size) :
    ∃ h cap w', (Builtin.append_ #[46, 3] ty #[v, .int .i64 k]).run Try.prog w = .ok (.slice (some ⟨h, 0, none⟩) (n + k) cap) w' ∧ w'.ownsRow base 5 1 (.slice (some ⟨h, 0, none⟩) (n + k) cap) (n + k) ((xs ++ List.replicate k 0).map (.int .u8)) ∧ w.grownBy w' v.ownBlock ∧ (v.ownBlock = some h ∨ w.heap.size ≤ h) := by
  obtain ⟨i0, hi, hz0, hz1, hz2⟩ := info_parts Try.infoB
  have hlx : xs.length = n := by simpa using hown.1
  have fresh : ∀ old, old < n + k → (w.drew.alloc (.cells ((xs.map (Value.int .u8)).toArray ++ Builtin.zeroCells (Value.int .u8 0).cells k ++ Builtin.zeroCells (Value.int .u8 0).cells (grownCap w (n + k) old 5 - (n + k))) 5)).ownsRow base 5 1
        (.slice (some ⟨w.heap.size, 0, none⟩) (n + k) (grownCap w (n + k) old 5)) (n + k) ((xs ++ List.replicate k 0).map (.int .u8)) := by
    intro old ho
    have hge := grownCap_ge w (n + k) old 5
    have hcm : grownCap w (n + k) old 5 ≤ maxLen := grownCap_le_maxLen w (n + k) old 5 (by unfold maxLen; omega)
    refine ⟨by simp [hlx], .inr ⟨w.heap.size, _, _, rfl, hbase, heap_alloc_new w.drew _, hge, hcm, ?_, ?_⟩⟩
    · simp only [Array.size_append, List.size_toArray, zeros_size, List.length_map, hlx]; omega
    · simp only [Array.toList_append, List.append_assoc, zeros_u8, Nat.mul_one]
      rw [← List.append_assoc, ← List.map_append]
      exact List.take_left' (by simp [hlx])
  have grown : ∀ (o : Obj) (row : Option Nat), w.grownBy (w.drew.alloc o) row := fun o row => ⟨rfl, rfl, rfl, by simp, fun j hj _ => Below.heap_alloc w.drew o j hj⟩
  rcases hown.2 with ⟨rfl, rfl⟩ | ⟨g, cap, cur, rfl, hbg, hg, hnc, hcm, hcs, htake⟩
  · obtain rfl : xs = [] := List.eq_nil_of_length_eq_zero hlx
    have hr := Lib.run_append_nil_zeros (P := Try.prog) w 46 3 ty 5 i0 (.int .u8 0) .i64 .i64 Try.underlying46 Try.underlying3 hi hz0 k h0 (by omega) (by omega) (by rw [hz2]; omega)
    have hf := fresh 0 (by omega)
    simp only [Nat.zero_add, List.nil_append, List.map_nil] at hf ⊢
    exact ⟨_, _, _, hr, by simpa using hf, grown _ _, .inr (Nat.le_refl _)⟩
  · by_cases hroom : n + k ≤ cap
    · have hst := run_storeCells_at Try.prog g n 5 ((List.replicate k (0 : Int)).map (.int .u8)) 0 cur w hg (by simp; omega) (by
        intro u hu
        obtain ⟨z, _, rfl⟩ := List.mem_map.1 hu
        rfl)
      simp only [Nat.add_zero] at hst
      have hk : k ≠ 0 := by omega
      have hw : IntKind.i64.wrap (k : Int) = k := by rw [IntKind.wrap_i64]; omega
      have hneg : ¬ ((k : Int) < 0) := by omega
      have h48i : ¬ (281474976710656 < (k : Int) * (i0.bytes : Int)) := by rw [hz2]; omega
      refine ⟨g, cap, w.setRow g (cur.toList.take n ++ (List.replicate k (0 : Int)).map (Value.int .u8) ++ cur.toList.drop (n + ((List.replicate k (0 : Int)).map (Value.int .u8)).length)).toArray, ?_, ⟨by simp [hlx], .inr ⟨g, cap, _, rfl, hbg, setRow_heap w g cur _ 5 _ hg, hroom, hcm, ?_, ?_⟩⟩, ⟨rfl, rfl, rfl, by simp, fun j _ hj => setRow_other w g j _ (fun e => hj (by simp [Value.ownBlock, e]))⟩, .inl rfl⟩
      · have hzz : (Builtin.zeroCells (Value.int IntKind.u8 0).cells k).toList = (List.replicate k (0 : Int)).map (.int .u8) := zeros_u8 k
        simp [-List.map_replicate, Builtin.append_, run_underlying Try.underlying46, run_underlying Try.underlying3, sizeOf, typeInfo, zeroValue, hi, hz0, hz1, asInt, asIntOf, hw, hneg, hk, h48i, hroom, Addr.add_lit, hzz, hst]
      · simp; omega
      · have hxt : cur.toList.take n = xs.map (.int .u8) := by rw [← htake, Nat.mul_one]
        rw [hxt, ← List.map_append, Nat.mul_one]
        exact List.take_left' (by simp [hlx])
    · have holds : ∀ j u, (xs.map (Value.int .u8))[j]? = some u → w.drew.cell? ((⟨g, 0, none⟩ : Addr).add j) = some u := hown.cells (g := g) rfl
      have hold := run_firstCells_some (P := Try.prog) w.drew i0.size n ⟨g, 0, none⟩ n cap (xs.map (Value.int .u8)) (by rw [hz1]; simp [hlx]) holds
      have hr := Lib.run_append_grow_zeros (P := Try.prog) w 46 3 ty 5 i0 (.int .u8 0) .i64 .i64 Try.underlying46 Try.underlying3 hi hz0 (some ⟨g, 0, none⟩) n cap (xs.map (Value.int .u8)) hold k h0 (by omega) (by omega) (by omega) (by rw [hz2]; omega) (growslice_fits (by omega) (by rw [hz2]; omega))
      exact ⟨_, _, _, hr, fresh cap (by omega), grown _ _, .inr (Nat.le_refl _)⟩

/-- append of zeros, for the walk -/
theorem wp_appZ {ops : Array Oper} {rest : List Oper} {o : Oper} {a : Act} {Q : Exit → Act → World → Prop} (w : World) (hgd : o.guard = none) (s x : Operand)
    (ho : o.op = .call { callee := .builtin .append, args := #[s, x], argTypes := #[46, 3] }) (base : Nat) (v : Value) (n k : Nat) (xs : List Int)
    (hs : a.eval s = v) (hown : w.ownsRow base 5 1 v n (xs.map (.int .u8))) (hx : a.eval x = .int .i64 k) (h0 : 0 < k)
    (hn : n + k ≤ 100000000) (hbase : base ≤ w.heap.size)
    (h : ∀ h cap w', w'.ownsRow base 5 1 (.slice (some ⟨h, 0, none⟩) (n + k) cap) (n + k) ((xs ++ List.replicate k 0).map (.int .u8)) → w.grownBy w' v.ownBlock → (v.ownBlock = some h ∨ w.heap.size ≤ h) → wpList Try.prog ops Q rest (a.put o.dst (.slice (some ⟨h, 0, none⟩) (n + k) cap)) w') :
    wpList Try.prog ops Q (o :: rest) a w := by
  obtain ⟨q, cap, w', hrun, h2, h3, h4⟩ := run_app_zeros w o.type base v n xs hown k h0 hn hbase
  exact Lib.wpList_append_run w hgd s x _ _ ho v _ hs hx _ w' hrun (h q cap w' h2 h3 h4)
end Go.Proofs.Ytfmgncajhjkdlaa
