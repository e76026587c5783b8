/- Sri. -/
import Derived.Test.YtboehbfagnocpaaGreatDoorUab
set_option linter.unusedVariables false
set_option linter.unusedSimpArgs false
set_option maxRecDepth 100000
open Go.Proofs.Tryz
open Go.Lib (hid)
namespace Go.Proofs.YtboehbfagnocpaaGreatDoor
open Go.RowKit Go.PlainAid
open SP
theorem bd_i64 {n : Int} (h : (Lit.int .i64 n).wf = true) : -9223372036854775808 ≤ n ∧ n ≤ 9223372036854775807 := by
  simpa [Lit.wf, IntKind.min, IntKind.max, IntKind.signed, IntKind.bits] using h
def RI (w : World) (v : Value) (l : List Int) : Prop :=
  ∃ a cap, v = .slice a l.length cap ∧ (l ≠ [] → ∃ b o, a = some ⟨b, o, none⟩ ∧ ∀ i, i < l.length → w.cell? ⟨b, o + i, none⟩ = some (.int .i64 (l[i]?.getD 0)))
def I64s (l : List Int) : Prop := ∀ x ∈ l, -9223372036854775808 ≤ x ∧ x ≤ 9223372036854775807
theorem I64s.at {l : List Int} (h : I64s l) (i : Nat) : -9223372036854775808 ≤ l[i]?.getD 0 ∧ l[i]?.getD 0 ≤ 9223372036854775807 := by
  by_cases hi : i < l.length
  · simp [hi]; exact h _ (by simp)
  · simp [hi]
theorem RI.below {w w' : World} {v : Value} {l : List Int} (h : RI w v l) (hb : Below w.heap.size w w') : RI w' v l := by
  obtain ⟨a, cap, rfl, hc⟩ := h
  refine ⟨a, cap, rfl, fun hne => ?_⟩
  obtain ⟨b, o, rfl, hcc⟩ := hc hne
  refine ⟨b, o, rfl, fun i hi => ?_⟩
  have h1 := hcc i hi
  rw [hb.cell (World.block_lt_of_cell? _ _ h1)]
  exact h1
theorem RI.at {w : World} {a : Option Addr} {n cap : Nat} {l : List Int} (h : RI w (.slice a n cap) l) {i : Nat} (hi : i < n) : ∃ b o, a = some ⟨b, o, none⟩ ∧ b < w.heap.size ∧ w.cell? ⟨b, o + i, none⟩ = some (.int .i64 (l[i]?.getD 0)) := by
  obtain ⟨a', cap', e, hc⟩ := h
  simp only [Value.slice.injEq] at e
  obtain ⟨rfl, hln, rfl⟩ := e
  obtain ⟨b, o, rfl, hcc⟩ := hc (by rintro rfl; simp at hln; omega)
  have := hcc i (by omega)
  exact ⟨b, o, rfl, World.block_lt_of_cell? _ _ this, this⟩
theorem run_app_noneI (w : World) (ty : TypeId) (base : Nat) (v : Value) (n c : Nat) (xs : List Value) (hown : w.ownsRow base 3 1 v n xs) : (Builtin.append_ #[39, 39] ty #[v, .slice none 0 c]).run prog w = .ok v w := by
  obtain ⟨i0, hi, hz0, hz1, hz2⟩ := info_parts intE_info
  rcases hown.2 with ⟨rfl, rfl⟩ | ⟨g, cap, cur, rfl, _, _, hnc, _⟩
  · simp [Builtin.append_, run_underlying underlying39, sizeOf, typeInfo, hi, Builtin.lenOf, Builtin.firstCells]
  · simp [Builtin.append_, run_underlying underlying39, sizeOf, typeInfo, hi, Builtin.lenOf, Builtin.firstCells, hnc, storeCells]
theorem run_appRI (w : World) (ty : TypeId) (base : Nat) (v x : Value) (n : Nat) (xs ys : List Int) (hown : w.ownsRow base 3 1 v n (xs.map (.int .i64))) (hr : RI w x ys)
    (h63 : n + ys.length ≤ 10000000000) (hbase : base ≤ w.heap.size) :
    ∃ v' w', (Builtin.append_ #[39, 39] ty #[v, x]).run prog w = .ok v' w' ∧ w'.ownsRow base 3 1 v' (n + ys.length) ((xs ++ ys).map (.int .i64)) ∧ Below base w w' ∧ (v' = .slice none 0 0 → v = .slice none 0 0) := by
  obtain ⟨i0, hi, hz0, hz1, hz2⟩ := info_parts intE_info
  obtain ⟨a, c, rfl, hc⟩ := hr
  cases a with
  | none =>
    have hy : ys = [] := by
      cases ys with
      | nil => rfl
      | cons y ys => obtain ⟨b, o, h, _⟩ := hc (by simp); cases h
    subst hy
    exact ⟨v, w, run_app_noneI w ty base v n c _ hown, by simpa using hown, Below.refl _ _, fun h => h⟩
  | some ad =>
    obtain ⟨v', w', hrun, ho, hg, hiff⟩ := run_append_own_wide (P := prog) w base 39 ty 3 i0 (.int .i64 0) 1 8 underlying39 hi hz0 hz1 hz2 rfl (by decide) v n _ hown ad ys.length c (ys.map (.int .i64)) (by simp) (by
        intro j u hj
        have hjl : j < ys.length := by have := (List.getElem?_eq_some_iff.1 hj).1; simpa using this
        obtain ⟨b, o, e, hcc⟩ := hc (by intro h; rw [h] at hjl; simp at hjl)
        obtain rfl := Option.some.inj e
        rw [Addr.add_lit, hcc j hjl]
        simp [hjl] at hj ⊢
        exact hj) (by
        intro u hu
        obtain ⟨z, _, rfl⟩ := List.mem_map.1 hu
        rfl) (by unfold maxLen; omega) (by omega) hbase
    exact ⟨v', w', hrun, by simpa using ho, (Below.refl _ _).grown hg hbase (fun k hk => (hown.lt k hk).1), fun h => (hiff.1 h).1⟩
theorem wp_appRI {ops : Array Oper} {rest : List Oper} {o : Oper} {a : Act} {Q : Exit → Act → World → Prop} (w0 w : World) (hgd : o.guard = none) (s x : Operand)
    (ho : o.op = .call { callee := .builtin .append, args := #[s, x], argTypes := #[39, 39] }) (base : Nat) (v vx : Value) (n : Nat) (xs ys : List Int)
    (hs : a.eval s = v) (hown : w.ownsRow base 3 1 v n (xs.map (.int .i64))) (hx : a.eval x = vx) (hr : RI w vx ys)
    (hbel : Below base w0 w) (hn : n + ys.length ≤ 10000000000) (hbase : base ≤ w.heap.size)
    (h : ∀ v' w', w'.ownsRow base 3 1 v' (n + ys.length) ((xs ++ ys).map (.int .i64)) → Below base w0 w' → (v' = .slice none 0 0 → v = .slice none 0 0) → wpList prog ops Q rest (a.put o.dst v') w') :
    wpList prog ops Q (o :: rest) a w := by
  obtain ⟨v', w', hrun, h2, h3, h4⟩ := run_appRI w o.type base v vx n xs ys hown hr hn hbase
  exact Lib.wpList_append_run w hgd s x _ _ ho v _ hs hx _ w' hrun (h v' w' h2 (hbel.trans h3) h4)
theorem own_newI (w : World) : (w.alloc (.cells #[] 3)).ownsRow w.heap.size 3 1 (.slice (some ⟨w.heap.size, 0, none⟩) 0 0) 0 (([] : List Int).map (.int .i64)) :=
  World.ownsRow_lit w #[] 0 (Nat.le_refl _) (by decide) (by simp)
def ClPostI (l : List Int) (w : World) (e : Ending) (w' : World) : Prop :=
  ∃ v, e = .returned v ∧ w'.ownsRow w.heap.size 3 1 v l.length (l.map (.int .i64)) ∧ Below w.heap.size w w'
set_option maxHeartbeats 400000 in
theorem cloneI_some (A : Addr) (n c : Nat) (l : List Int) (w : World) (hr : RI w (.slice (some A) n c) l) (hl : l.length ≤ 10000000000) : Calls prog 97 #[.slice (some A) n c] w (ClPostI l w) := by
  have hra := hid (hr.below (w' := w.alloc (.cells #[] 3)) ((Below.refl _ _).alloc (Nat.le_refl _) _))
  have hq := run_eql_slice_nil (P := prog) w 39 3 (some A) n c underlying39
  clear hr
  go_enter func97, ntmps97
  go_wp2_with (at_builtin; go_must (refine wp_appRI w _ rfl _ _ rfl w.heap.size (.slice (some ⟨w.heap.size, 0, none⟩) 0 0) (.slice (some A) n c) 0 [] l rfl (own_newI w) rfl hra.out ((Below.refl _ _).alloc (Nat.le_refl _) _) (by omega) (by simp) ?_); intro v2 w2 ho2 hb2 hn2)
  go_ret
  exact ⟨_, rfl, by simpa using ho2, hb2⟩
end Go.Proofs.YtboehbfagnocpaaGreatDoor
