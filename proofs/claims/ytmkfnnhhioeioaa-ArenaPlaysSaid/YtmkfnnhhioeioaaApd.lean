/- a step on both: what holds along it. -/
import Derived.Test.YtmkfnnhhioeioaaApv
namespace Go.Proofs.Ytmkfnnhhioeioaa
open Go.RowKit Go.PlainAid
set_option linter.unusedVariables false
set_option linter.unusedSimpArgs false

/-- the world along a step: the pair, and the step in a block of its own -/
structure Pre (X Y : Nat → Prop) (w0 wx : World) (s : St) (hb : Nat) (K A B C : Int) (va : Option Addr) (n vc : Nat) (l : List Int) : Prop where
  st : Step X Y w0 wx s
  box : wx.heap[hb]? = some (.cells #[.int .i64 K, .int .i64 A, .int .i64 B, .int .i64 C, .slice va n vc] 48 (0, 0))
  low : w0.heap.size ≤ hb
  nx : ¬ Y hb
  rb : ∀ w', Tch (fun i => Y i ∨ w0.heap.size ≤ i) wx w' → RB w' (.slice va n vc) l
  len : l.length = n
  cap : n ≤ vc ∧ vc ≤ maxLen
  two : n ≤ 2000
  byt : ∀ x ∈ l, 0 ≤ x ∧ x ≤ 255

theorem pre_one {w : World} {X : Nat → Prop} {s : St} (h : PairI w X s) {K A B C : Int} {va : Option Addr} {n vc : Nat} {l : List Int} (hn : n ≤ 2000)
    (hrb : ∀ w', Tch (fun i => X i ∨ w.heap.size ≤ i) w w' → RB w' (.slice va n vc) l) (hl : l.length = n) (hc : n ≤ vc ∧ vc ≤ maxLen) (hby : ∀ x ∈ l, 0 ≤ x ∧ x ≤ 255) :
    Pre X X w (w.alloc (.cells #[.int .i64 K, .int .i64 A, .int .i64 B, .int .i64 C, .slice va n vc] 48)) s w.heap.size K A B C va n vc l := by
  have ht : Tch (fun i => X i ∨ w.heap.size ≤ i) w (w.alloc (.cells #[.int .i64 K, .int .i64 A, .int .i64 B, .int .i64 C, .slice va n vc] 48)) := Tch.of_below _ ((Below.refl w.heap.size w).alloc (Nat.le_refl _) _)
  refine ⟨(Step.refl h).below ((Below.refl w.heap.size w).alloc (Nat.le_refl _) _), heap_alloc_new w _, Nat.le_refl _, fun hx => by have := h.xl _ hx; omega, fun w' ht' => hrb w' (ht.trans ht' (fun i hi => .inl hi)), hl, hc, hn, hby⟩
theorem pre_two {w : World} {X : Nat → Prop} {s : St} (h : PairI w X s) {K A B C : Int} {va : Option Addr} {n vc : Nat} {l : List Int} (hn : 2000 < n)
    (hrb : ∀ w', Tch (fun i => X i ∨ w.heap.size ≤ i) w w' → RB w' (.slice va n vc) l) (hl : l.length = n) (hc : n ≤ vc ∧ vc ≤ maxLen) (hby : ∀ x ∈ l, 0 ≤ x ∧ x ≤ 255) :
    Pre X X w (w.alloc (.cells #[.int .i64 K, .int .i64 A, .int .i64 B, .int .i64 C, .slice va 2000 vc] 48)) s w.heap.size K A B C va 2000 vc (l.take 2000) :=
  pre_one h (Nat.le_refl _) (fun w' ht => rb_takeN (hrb w' ht) 2000 (by omega)) (by simp; omega) ⟨by omega, hc.2⟩ (fun x hx => hby x (List.mem_of_mem_take hx))

section
variable {X Y : Nat → Prop} {w0 wx : World} {s : St} {hb : Nat} {K A B C : Int} {va : Option Addr} {n vc : Nat} {l : List Int}
theorem Pre.p0 (h : Pre X Y w0 wx s hb K A B C va n vc l) : wx.cell? ⟨hb, 0, none⟩ = some (.int .i64 K) := cell_of h.box 0
theorem Pre.p1 (h : Pre X Y w0 wx s hb K A B C va n vc l) : wx.cell? ⟨hb, 1, none⟩ = some (.int .i64 A) := cell_of h.box 1
theorem Pre.p2 (h : Pre X Y w0 wx s hb K A B C va n vc l) : wx.cell? ⟨hb, 2, none⟩ = some (.int .i64 B) := cell_of h.box 2
theorem Pre.p3 (h : Pre X Y w0 wx s hb K A B C va n vc l) : wx.cell? ⟨hb, 3, none⟩ = some (.int .i64 C) := cell_of h.box 3
theorem Pre.p4 (h : Pre X Y w0 wx s hb K A B C va n vc l) : wx.cell? ⟨hb, 4, none⟩ = some (.slice va n vc) := cell_of h.box 4
theorem Pre.blt (h : Pre X Y w0 wx s hb K A B C va n vc l) : hb < wx.heap.size := (Array.getElem?_eq_some_iff.1 h.box).1
theorem Pre.drew (h : Pre X Y w0 wx s hb K A B C va n vc l) : Pre X Y w0 wx.drew s hb K A B C va n vc l :=
  ⟨h.st.drew, h.box, h.low, h.nx, fun w' ht => h.rb w' (((Tch.refl _ wx).drewN 1).trans ht (fun i hi => .inl hi)), h.len, h.cap, h.two, h.byt⟩
theorem Pre.drewN (h : Pre X Y w0 wx s hb K A B C va n vc l) (m : Nat) : Pre X Y w0 (wx.drewN m) s hb K A B C va n vc l :=
  ⟨h.st.drewN m, h.box, h.low, h.nx, fun w' ht => h.rb w' (((Tch.refl _ wx).drewN m).trans ht (fun i hi => .inl hi)), h.len, h.cap, h.two, h.byt⟩
/-- the pair goes on -/
theorem Pre.go {Z : Nat → Prop} {w' : World} {s' : St} (h : Pre X Y w0 wx s hb K A B C va n vc l) (k : Step Y Z wx w' s') : Pre X Z w0 w' s' hb K A B C va n vc l := by
  refine ⟨h.st.trans k, (k.tc.block hb h.blt h.nx).trans h.box, h.low, fun hz => ?_, fun w2 ht => h.rb w2 ((k.tc.mono (T := fun i => Y i ∨ w0.heap.size ≤ i) (fun i hi => .inl hi)).trans ht (fun i hi => ?_)), h.len, h.cap, h.two, h.byt⟩
  · have := h.blt
    rcases k.nu hb hz with h1 | h1
    · exact h.nx h1
    · omega
  · have := h.st.tc.size
    rcases hi with h1 | h1
    · rcases k.nu i h1 with h2 | h2
      · exact .inl (.inl h2)
      · exact .inr h2
    · exact .inl (.inr h1)
/-- beside the pair -/
theorem Pre.beside {T : Nat → Prop} {w' : World} (h : Pre X Y w0 wx s hb K A B C va n vc l) (ht : Tch T wx w') (hT : ∀ i, T i → ¬ Y i ∧ w0.heap.size ≤ i ∧ i ≠ hb) : Pre X Y w0 w' s hb K A B C va n vc l := by
  refine ⟨h.st.beside ht (fun i hi => ⟨(hT i hi).1, (hT i hi).2.1⟩), (ht.block hb h.blt (fun hx => (hT hb hx).2.2 rfl)).trans h.box, h.low, h.nx, fun w2 ht2 => h.rb w2 ((ht.mono (T := fun i => Y i ∨ w0.heap.size ≤ i) (fun i hi => .inr (hT i hi).2.1)).trans ht2 (fun i hi => .inl hi)), h.len, h.cap, h.two, h.byt⟩
theorem Pre.below {w' : World} (h : Pre X Y w0 wx s hb K A B C va n vc l) (hb' : Below wx.heap.size wx w') : Pre X Y w0 w' s hb K A B C va n vc l :=
  h.beside (Tch.of_below (fun _ => False) hb') (fun i hi => hi.elim)
theorem Pre.rbn (h : Pre X Y w0 wx s hb K A B C va n vc l) : RB wx (.slice va n vc) l := h.rb wx (Tch.refl _ wx)
theorem Pre.yl (h : Pre X Y w0 wx s hb K A B C va n vc l) (i : Nat) (hi : wx.heap.size ≤ i) : ¬ Y i := fun hy => by have := h.st.pr.xl i hy; omega
end

/-- a row of the call's own, where its block is not turned -/
theorem own_tch {w w' : World} {T : Nat → Prop} {base : Nat} {e : TypeId} {n : Nat} {v : Value} {xs : List Value} (ho : w.ownsRow base e 1 v n xs) (ht : Tch T w w') (hb : ∀ b, v.ownBlock = some b → ¬ T b) : w'.ownsRow base e 1 v n xs := by
  refine ⟨ho.1, ?_⟩
  rcases ho.2 with h1 | ⟨g', cap', cur, rfl, h2, h3, h4⟩
  · exact .inl h1
  · exact .inr ⟨g', cap', cur, rfl, h2, (ht.block g' (Array.getElem?_eq_some_iff.1 h3).1 (hb g' rfl)).trans h3, h4⟩
theorem own_len {w : World} {base n : Nat} {e : TypeId} {v : Value} {xs : List Value} (h : w.ownsRow base e 1 v n xs) : n ≤ 9223372036854775807 := by
  rcases h.2 with ⟨_, rfl⟩ | ⟨b, cap, cur, _, _, _, h1, h2, _⟩
  · omega
  · unfold maxLen at h2; omega
theorem fill_set {l : List Int} {j : Nat} (c : Int) (h : j < l.length) : (List.replicate j c ++ l.drop j).set j c = List.replicate (j + 1) c ++ l.drop (j + 1) := by
  rw [List.set_append_right _ _ (by simp), List.length_replicate, Nat.sub_self]
  rw [List.drop_eq_getElem_cons h, List.set_cons_zero, List.replicate_succ', List.append_assoc]; rfl
theorem fill_at {l : List Int} {j : Nat} (c : Int) (h : j < l.length) : (List.replicate j c ++ l.drop j)[j]?.getD 0 = l[j]?.getD 0 := by
  rw [List.getElem?_append_right (by simp)]; simp
theorem own_cell {w : World} {base g N cap : Nat} {K : IntKind} {e : TypeId} {r : List Int} (h : w.ownsRow base e 1 (.slice (some ⟨g, 0, none⟩) N cap) N (r.map (.int K))) (i : Nat) (hi : i < N) :
    w.cell? ⟨g, i, none⟩ = some (.int K (r[i]?.getD 0)) := by
  have hl : r.length = N := by have := h.1; simpa using this
  rw [h.cellAt i (by omega)]
  simp [show i < r.length by omega]
end Go.Proofs.Ytmkfnnhhioeioaa
