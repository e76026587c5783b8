/- the document's arena: New: contract. -/
import Derived.Test.YtmkfnnhhioeioaaApr
namespace Go.Proofs.Ytmkfnnhhioeioaa
open Go.RowKit Go.PlainAid
set_option linter.unusedVariables false
set_option linter.unusedSimpArgs false

theorem Try.infoS : (Try.prog.info? 36).map (fun i => (i.zero, i.size, i.bytes)) = some (some (.slice none 0 0), 1, 24) := by kernel_rfl

/-- append of one int to a row: only that row turns -/
theorem wp_appI2 {ops : Array Oper} {rest : List Oper} {o : Oper} {a : Act} {Q : Exit → Act → World → Prop} (w : World) (hgd : o.guard = none) (s x : Operand)
    (ho : o.op = .call { callee := .builtin .append, args := #[s, x], argTypes := #[22, 22] }) (base : Nat) (v : Value) (n : Nat) (xs : List Int) (u : Int)
    (hs : a.eval s = v) (hown : w.ownsRow base 3 1 v n (xs.map (.int .i64))) (hx : a.eval x = .slice (some ⟨w.heap.size, 0, none⟩) 1 1)
    (hn : n + 1 < 1000000000000) (hbase : base ≤ w.heap.size)
    (h : ∀ g cap w', w'.ownsRow base 3 1 (.slice (some ⟨g, 0, none⟩) (n + 1) cap) (n + 1) ((xs ++ [u]).map (.int .i64)) → w.grownBy w' v.ownBlock → wpList Try.prog ops Q rest (a.put o.dst (.slice (some ⟨g, 0, none⟩) (n + 1) cap)) w') :
    wpList Try.prog ops Q (o :: rest) a (w.alloc (.cells #[.int .i64 u] 3)) := by
  obtain ⟨i0, hi, hz0, hz1, hz2⟩ := info_parts Try.infoI
  refine wpList_append_own _ hgd s x 22 ho base 3 i0 (.int .i64 0) 1 8 Try.underlying22 hi hz0 hz1 hz2 rfl (by decide) v n _ hs (hown.alloc _) ⟨w.heap.size, 0, none⟩ 1 1 [.int .i64 u] hx (by simp) ?_ ?_ ?_ ?_ (by simp; omega) ?_
  · intro j y hj
    have hj0 : j < 1 := by have := (List.getElem?_eq_some_iff.1 hj).1; simpa using this
    obtain rfl : j = 0 := by omega
    simp at hj
    subst hj
    simp [Addr.add]
  · intro y hy
    simp at hy
    subst hy
    rfl
  · unfold maxLen; omega
  · omega
  · intro v' w' hown' hgrow hiff
    have hg' : w.grownBy w' v.ownBlock := (World.grownBy_alloc w _ v.ownBlock).trans hgrow
    rcases hown'.2 with ⟨rfl, h0⟩ | ⟨g, cap, cur, rfl, _⟩
    · omega
    · exact h g cap w' (by simpa using hown') hg'

/-- append of one nil page to a row: only that row turns -/
theorem wp_appS2 {ops : Array Oper} {rest : List Oper} {o : Oper} {a : Act} {Q : Exit → Act → World → Prop} (w : World) (hgd : o.guard = none) (s x : Operand)
    (ho : o.op = .call { callee := .builtin .append, args := #[s, x], argTypes := #[49, 49] }) (base : Nat) (v : Value) (n : Nat) (xs : List Value)
    (hs : a.eval s = v) (hown : w.ownsRow base 36 1 v n xs) (sz : Nat) (hsz : w.heap.size = sz) (hx : a.eval x = .slice (some ⟨sz, 0, none⟩) 1 1)
    (hn : n + 1 < 1000000000) (hbase : base ≤ w.heap.size)
    (h : ∀ g cap w', w'.ownsRow base 36 1 (.slice (some ⟨g, 0, none⟩) (n + 1) cap) (n + 1) (xs ++ [.slice none 0 0]) → w.grownBy w' v.ownBlock → wpList Try.prog ops Q rest (a.put o.dst (.slice (some ⟨g, 0, none⟩) (n + 1) cap)) w') :
    wpList Try.prog ops Q (o :: rest) a (w.alloc (.cells #[.slice none 0 0] 36)) := by
  subst hsz
  obtain ⟨i0, hi, hz0, hz1, hz2⟩ := info_parts Try.infoS
  refine wpList_append_own _ hgd s x 49 ho base 36 i0 (.slice none 0 0) 1 24 Try.underlying49 hi hz0 hz1 hz2 rfl (by decide) v n _ hs (hown.alloc _) ⟨w.heap.size, 0, none⟩ 1 1 [.slice none 0 0] hx (by simp) ?_ ?_ ?_ ?_ (by simp; omega) ?_
  · intro j y hj
    have hj0 : j < 1 := by have := (List.getElem?_eq_some_iff.1 hj).1; simpa using this
    obtain rfl : j = 0 := by omega
    simp at hj
    subst hj
    simp [Addr.add]
  · intro y hy
    simp at hy
    subst hy
    rfl
  · unfold maxLen; omega
  · omega
  · intro v' w' hown' hgrow hiff
    have hg' : w.grownBy w' v.ownBlock := (World.grownBy_alloc w _ v.ownBlock).trans hgrow
    rcases hown'.2 with ⟨rfl, h0⟩ | ⟨g, cap, cur, rfl, _⟩
    · omega
    · exact h g cap w' (by simpa using hown') hg'

def rNewPost (pages page : Int) (w : World) (e : Ending) (w' : World) : Prop :=
  (okNew pages page = false ∧ e = .returned (.tuple #[.pointer none, .int .i64 1]) ∧ w = w') ∨
  (okNew pages page = true ∧ ∃ g k ck r cr, e = .returned (.tuple #[.pointer (some ⟨g, 0, none⟩), .int .i64 0]) ∧
    Rf w' g k ck r cr pages.toNat page.toNat (List.replicate pages.toNat 0) (List.replicate pages.toNat (.slice none 0 0)) (List.replicate (pages.toNat * page.toNat) 0) ∧ w.heap.size ≤ g ∧ w.heap.size ≤ k ∧ w.heap.size ≤ r ∧ Below w.heap.size w w')

theorem tmod8 (n : Int) (h0 : 0 ≤ n) : n.tmod 8 = n % 8 := Int.tmod_eq_emod_of_nonneg h0

set_option maxHeartbeats 400000 in
theorem rNew_no (pages page : Int) (w : World) (h : okNew pages page = false) : Calls Try.prog 17 #[.int .i64 pages, .int .i64 page] w (rNewPost pages page w) := by
  have Hp : Hid (rNewPost pages page w (.returned (.tuple #[.pointer none, .int .i64 1])) w) := Lib.hid (.inl ⟨h, rfl, rfl⟩)
  have h' : ¬ (1 ≤ pages ∧ pages ≤ 1024 ∧ 512 ≤ page ∧ page ≤ 65536 ∧ page % 8 = 0) := by simpa [okNew] using h
  clear h
  by_cases h1 : pages < 1
  · clear h'
    go_enter Try.func17, Try.ntmps17
    go_wp2
    go_ret2
    exact Hp.out
  by_cases h2 : 1024 < pages
  · clear h'
    go_enter Try.func17, Try.ntmps17
    go_wp2
    go_ret2
    exact Hp.out
  by_cases h3 : page < 512
  · clear h'
    go_enter Try.func17, Try.ntmps17
    go_wp2
    go_ret2
    exact Hp.out
  by_cases h4 : 65536 < page
  · clear h'
    go_enter Try.func17, Try.ntmps17
    go_wp2
    go_ret2
    exact Hp.out
  · have h5 : ¬ page % 8 = 0 := by omega
    clear h'
    go_enter Try.func17, Try.ntmps17
    go_wp2
    go_ret2
    exact Hp.out

/-- the arena while it is being made -/
structure Mk (w0 w : World) (g j : Nat) (S : Nat) (v1 v2 : Value) : Prop where
  box : w.heap[g]? = some (.cells #[.int .i64 S, v1, v2] 51 (0, 0))
  own : w.ownsRow w0.heap.size 3 1 v1 j ((List.replicate j (-1 : Int)).map (.int .i64))
  row : w.ownsRow w0.heap.size 36 1 v2 j (List.replicate j (Value.slice none 0 0))
  bel : Below w0.heap.size w0 w
  low : w0.heap.size ≤ g

theorem own_blk {w : World} {base n j : Nat} {e : TypeId} {v : Value} {xs : List Value} (h : w.ownsRow base e 1 v n xs) (hj : v.ownBlock = some j) : ∃ cur, w.heap[j]? = some (.cells cur e (0, 0)) := by
  rcases h.2 with ⟨rfl, _⟩ | ⟨b, cap, cur, rfl, _, hb, _⟩
  · simp [Value.ownBlock] at hj
  · simp [Value.ownBlock] at hj
    subst hj
    exact ⟨_, hb⟩
theorem Mk.ne {w0 w : World} {g j S : Nat} {v1 v2 : Value} (h : Mk w0 w g j S v1 v2) : v1.ownBlock ≠ some g ∧ v2.ownBlock ≠ some g ∧ (v1.ownBlock = none ∨ v2.ownBlock ≠ v1.ownBlock) := by
  refine ⟨fun e => ?_, fun e => ?_, ?_⟩
  · obtain ⟨c, hc⟩ := own_blk h.own e
    rw [h.box] at hc; simp at hc
  · obtain ⟨c, hc⟩ := own_blk h.row e
    rw [h.box] at hc; simp at hc
  · cases he : v1.ownBlock with
    | none => exact .inl rfl
    | some b =>
      right
      intro e
      obtain ⟨c, hc⟩ := own_blk h.own he
      obtain ⟨d, hd⟩ := own_blk h.row e
      rw [hc] at hd; simp at hd
theorem Mk.one {w0 w w2 : World} {g j S b cap : Nat} {v1 v2 : Value} (h : Mk w0 w g j S v1 v2) (ho : w2.ownsRow w0.heap.size 3 1 (.slice (some ⟨b, 0, none⟩) (j + 1) cap) (j + 1) ((List.replicate j (-1 : Int) ++ [-1]).map (.int .i64))) (hg : w.grownBy w2 v1.ownBlock) :
    (w2.setCell ⟨g, 1, none⟩ (.slice (some ⟨b, 0, none⟩) (j + 1) cap)).heap[g]? = some (.cells #[.int .i64 S, .slice (some ⟨b, 0, none⟩) (j + 1) cap, v2] 51 (0, 0)) ∧
    (w2.setCell ⟨g, 1, none⟩ (.slice (some ⟨b, 0, none⟩) (j + 1) cap)).ownsRow w0.heap.size 3 1 (.slice (some ⟨b, 0, none⟩) (j + 1) cap) (j + 1) ((List.replicate (j + 1) (-1 : Int)).map (.int .i64)) ∧
    (w2.setCell ⟨g, 1, none⟩ (.slice (some ⟨b, 0, none⟩) (j + 1) cap)).ownsRow w0.heap.size 36 1 v2 j (List.replicate j (Value.slice none 0 0)) ∧
    Below w0.heap.size w0 (w2.setCell ⟨g, 1, none⟩ (.slice (some ⟨b, 0, none⟩) (j + 1) cap)) := by
  obtain ⟨n1, n2, n3⟩ := h.ne
  have hgl : g < w.heap.size := (Array.getElem?_eq_some_iff.1 h.box).1
  have hbox : w2.heap[g]? = some (.cells #[.int .i64 S, v1, v2] 51 (0, 0)) := (hg.block g hgl (fun e => n1 e.symm)).trans h.box
  have hs : w2.grownBy (w2.setCell ⟨g, 1, none⟩ (.slice (some ⟨b, 0, none⟩) (j + 1) cap)) (some g) := only_setCell (World.grownBy.refl w2 _) 1 _
  have hbg : b ≠ g := by
    rintro rfl
    obtain ⟨c, hc⟩ := own_cells ho
    rw [hbox] at hc; simp at hc
  have hrow2 : w2.ownsRow w0.heap.size 36 1 v2 j (List.replicate j (Value.slice none 0 0)) := h.row.kept hg (by
    rcases n3 with e | e
    · cases hv : v2.ownBlock with
      | none => exact .inl rfl
      | some _ => right; rw [e]; simp
    · exact .inr e)
  refine ⟨?_, ?_, ?_, ?_⟩
  · show (w2.heap.modify g _)[g]? = _
    rw [Array.getElem?_modify, if_pos rfl, hbox]
    rfl
  · rw [show List.replicate (j + 1) (-1 : Int) = List.replicate j (-1 : Int) ++ [-1] from List.replicate_succ']
    exact ho.kept hs (.inr (by simp [Value.ownBlock]; exact hbg))
  · exact hrow2.kept hs (.inr n2)
  · have hb2 : Below w0.heap.size w0 w2 := h.bel.grown hg h.bel.size (fun q hq => (h.own.lt q hq).1)
    exact hb2.grown hs hb2.size (fun q hq => by injection hq with hq; have := h.low; omega)
theorem Mk.two {w0 w w2 : World} {g j S b cap : Nat} {v1 v2 : Value} (hbx : w.heap[g]? = some (.cells #[.int .i64 S, v1, v2] 51 (0, 0)))
    (hown : w.ownsRow w0.heap.size 3 1 v1 (j + 1) ((List.replicate (j + 1) (-1 : Int)).map (.int .i64))) (hrow : w.ownsRow w0.heap.size 36 1 v2 j (List.replicate j (Value.slice none 0 0)))
    (hbel : Below w0.heap.size w0 w) (hlow : w0.heap.size ≤ g) (ho : w2.ownsRow w0.heap.size 36 1 (.slice (some ⟨b, 0, none⟩) (j + 1) cap) (j + 1) (List.replicate j (Value.slice none 0 0) ++ [.slice none 0 0])) (hg : w.grownBy w2 v2.ownBlock) :
    Mk w0 (w2.setCell ⟨g, 2, none⟩ (.slice (some ⟨b, 0, none⟩) (j + 1) cap)) g (j + 1) S v1 (.slice (some ⟨b, 0, none⟩) (j + 1) cap) := by
  have n2 : v2.ownBlock ≠ some g := by
    intro e
    obtain ⟨c, hc⟩ := own_blk hrow e
    rw [hbx] at hc; simp at hc
  have n1 : v1.ownBlock ≠ some g := by
    intro e
    obtain ⟨c, hc⟩ := own_blk hown e
    rw [hbx] at hc; simp at hc
  have n3 : v1.ownBlock = none ∨ v1.ownBlock ≠ v2.ownBlock := by
    cases he : v1.ownBlock with
    | none => exact .inl rfl
    | some b =>
      right
      intro e
      obtain ⟨c, hc⟩ := own_blk hown he
      obtain ⟨d, hd⟩ := own_blk hrow e.symm
      rw [hc] at hd; simp at hd
  have hgl : g < w.heap.size := (Array.getElem?_eq_some_iff.1 hbx).1
  have hbox : w2.heap[g]? = some (.cells #[.int .i64 S, v1, v2] 51 (0, 0)) := (hg.block g hgl (fun e => n2 e.symm)).trans hbx
  have hs : w2.grownBy (w2.setCell ⟨g, 2, none⟩ (.slice (some ⟨b, 0, none⟩) (j + 1) cap)) (some g) := only_setCell (World.grownBy.refl w2 _) 2 _
  have hbg : b ≠ g := by
    rintro rfl
    obtain ⟨c, hc⟩ := own_cells ho
    rw [hbox] at hc; simp at hc
  refine ⟨?_, ?_, ?_, ?_, hlow⟩
  · show (w2.heap.modify g _)[g]? = _
    rw [Array.getElem?_modify, if_pos rfl, hbox]
    rfl
  · exact (hown.kept hg n3).kept hs (.inr n1)
  · rw [show List.replicate (j + 1) (Value.slice none 0 0) = List.replicate j (Value.slice none 0 0) ++ [Value.slice none 0 0] from List.replicate_succ']
    exact ho.kept hs (.inr (by simp [Value.ownBlock]; exact hbg))
  · have hb2 : Below w0.heap.size w0 w2 := hbel.grown hg hbel.size (fun q hq => (hrow.lt q hq).1)
    exact hb2.grown hs hb2.size (fun q hq => by injection hq with hq; omega)
theorem own_slice {w : World} {base n : Nat} {e : TypeId} {v : Value} {xs : List Value} (h : w.ownsRow base e 1 v n xs) : ∃ ad cap, v = .slice ad n cap := by
  rcases h.2 with ⟨rfl, rfl⟩ | ⟨b, cap, cur, rfl, _⟩
  · exact ⟨_, _, rfl⟩
  · exact ⟨_, _, rfl⟩
theorem own_pos {w : World} {base n : Nat} {e : TypeId} {v : Value} {xs : List Value} (h : w.ownsRow base e 1 v n xs) (hn : 0 < n) : ∃ b cap, v = .slice (some ⟨b, 0, none⟩) n cap := by
  rcases h.2 with ⟨rfl, rfl⟩ | ⟨b, cap, cur, rfl, _⟩
  · omega
  · exact ⟨_, _, rfl⟩
theorem own_mono {w : World} {base base' : Nat} {e : TypeId} {size : Nat} {v : Value} {n : Nat} {xs : List Value} (h : w.ownsRow base e size v n xs) (hb : base' ≤ base) : w.ownsRow base' e size v n xs := by
  refine ⟨h.1, ?_⟩
  rcases h.2 with h1 | ⟨b, cap, cur, h1, h2, h3⟩
  · exact .inl h1
  · exact .inr ⟨b, cap, cur, h1, Nat.le_trans hb h2, h3⟩
theorem Mk.box1 {w0 w w2 : World} {g j S : Nat} {v1 v2 : Value} (h : Mk w0 w g j S v1 v2) (hg : w.grownBy w2 v1.ownBlock) : w2.heap[g]? = some (.cells #[.int .i64 S, v1, v2] 51 (0, 0)) :=
  (hg.block g (Array.getElem?_eq_some_iff.1 h.box).1 (fun e => h.ne.1 e.symm)).trans h.box
theorem box2 {w w2 : World} {base g j S : Nat} {v1 v2 : Value} {xs : List Value} (hbx : w.heap[g]? = some (.cells #[.int .i64 S, v1, v2] 51 (0, 0))) (hrow : w.ownsRow base 36 1 v2 j xs) (hg : w.grownBy w2 v2.ownBlock) :
    w2.heap[g]? = some (.cells #[.int .i64 S, v1, v2] 51 (0, 0)) := by
  have n2 : v2.ownBlock ≠ some g := by
    intro e
    obtain ⟨c, hc⟩ := own_blk hrow e
    rw [hbx] at hc; simp at hc
  exact (hg.block g (Array.getElem?_eq_some_iff.1 hbx).1 (fun e => n2 e.symm)).trans hbx
theorem Mk.done {w0 w : World} {g np S : Nat} {v1 v2 : Value} (h : Mk w0 w g np S v1 v2) (hn : 1 ≤ np ∧ np ≤ 1024) (hS : 512 ≤ S ∧ S ≤ 65536) :
    ∃ k ck r cr, Rf w g k ck r cr np S (List.replicate np 0) (List.replicate np (.slice none 0 0)) (List.replicate (np * S) 0) ∧ w0.heap.size ≤ g ∧ w0.heap.size ≤ k ∧ w0.heap.size ≤ r := by
  obtain ⟨k, ck, rfl⟩ := own_pos h.own (by omega)
  obtain ⟨r, cr, rfl⟩ := own_pos h.row (by omega)
  refine ⟨k, ck, r, cr, ⟨h.box, ?_, own_mono h.row (Nat.zero_le _), fun i hi => .inl ⟨by simp [hi], ?_⟩, fun i j b hi => ?_, by simp, by simp, hn, fun x hx => ?_, hS, fun x hx => ?_⟩, h.low, (h.own.lt k rfl).1, (h.row.lt r rfl).1⟩
  · have := own_mono h.own (Nat.zero_le _)
    simpa using this
  · have h1 : (i + 1) * S ≤ np * S := Nat.mul_le_mul_right S (by omega)
    rw [Nat.succ_mul] at h1
    simp [pg]; omega
  · rw [List.getElem?_replicate] at hi
    split at hi <;> simp at hi
  · have := List.eq_of_mem_replicate hx; omega
  · have := List.eq_of_mem_replicate hx; omega

set_option maxHeartbeats 1000000 in
theorem rNew_yes (pages page : Int) (w : World) (h : okNew pages page = true) : Calls Try.prog 17 #[.int .i64 pages, .int .i64 page] w (rNewPost pages page w) := by
  have h' : 1 ≤ pages ∧ pages ≤ 1024 ∧ 512 ≤ page ∧ page ≤ 65536 ∧ page % 8 = 0 := by simpa [okNew] using h
  have H := Lib.hid h
  clear h
  obtain ⟨h1, h2, h3, h4, h5⟩ := h'
  obtain ⟨N, rfl⟩ := Int.eq_ofNat_of_zero_le (show 0 ≤ pages by omega)
  obtain ⟨S, rfl⟩ := Int.eq_ofNat_of_zero_le (show 0 ≤ page by omega)
  have H34 := Lib.hid (And.intro h3 h4)
  go_enter Try.func17, Try.ntmps17
  go_wp2
  generalize hW : w.alloc _ = W at *
  have hM : Mk w W w.heap.size 0 S (.slice none 0 0) (.slice none 0 0) := by
    rw [← hW]
    exact ⟨heap_alloc_new w _, World.ownsRow_nil _ _ _ _, World.ownsRow_nil _ _ _ _, (Below.refl _ _).alloc (Nat.le_refl _) _, Nat.le_refl _⟩
  clear hW
  go_loopw [7] (fun i wr => ∃ (j : Nat) (v1 v2 : Value), j ≤ N ∧ i = .int .i64 j ∧ Mk w wr w.heap.size j S v1 v2) (fun i _ => N - (intOf i).toNat)
  case atStart => exact ⟨0, _, _, Nat.zero_le _, rfl, hM⟩
  case round =>
    obtain ⟨j, v1, v2, hj, rfl, hm⟩ := hrel
    have HM := Lib.hid hm
    have hsz := hm.bel.size
    by_cases hlt : j < N
    · have c1 := cell_of hm.box 1
      have f1 : wr.frozen? ⟨w.heap.size, 1, none⟩ = false := by simp [World.frozen?, hm.box]
      simp only [List.getElem?_toArray, List.getElem?_cons_zero, List.getElem?_cons_succ] at c1
      clear hm hM
      go_wp2_with (first | (at_builtin; refine wp_appI2 wr rfl _ _ rfl w.heap.size v1 j _ (-1) rfl HM.out.own rfl (by omega) hsz ?_; intro b cap w2 ho hg; have hM1 := Lib.hid (HM.out.one ho hg); have hbx2 := HM.out.box1 hg; have d1 := cell_of hbx2 1; have d2 := cell_of hbx2 2; have g1 : w2.frozen? ⟨w.heap.size, 1, none⟩ = false := (by simp [World.frozen?, hbx2]); simp only [List.getElem?_toArray, List.getElem?_cons_zero, List.getElem?_cons_succ] at d1 d2; clear hbx2 ho hg) | (at_builtin; go_must (refine wp_appS2 (w2.setCell ⟨w.heap.size, 1, none⟩ (.slice (some ⟨b, 0, none⟩) (j + 1) cap)) rfl _ _ rfl w.heap.size v2 j _ rfl hM1.out.2.2.1 w2.heap.size (by simp) rfl (by omega) hM1.out.2.2.2.size ?_); intro b3 cap3 w3 ho3 hg3; have hM3 := Lib.hid (Mk.two hM1.out.1 hM1.out.2.1 hM1.out.2.2.1 hM1.out.2.2.2 (Nat.le_refl _) ho3 hg3); have hbx3 := box2 hM1.out.1 hM1.out.2.2.1 hg3; have k2 := cell_of hbx3 2; have g2 : w3.frozen? ⟨w.heap.size, 2, none⟩ = false := (by simp [World.frozen?, hbx3]); simp only [List.getElem?_toArray, List.getElem?_cons_zero, List.getElem?_cons_succ] at k2; clear hbx3 ho3 hg3))
      go_roundw
      case rel => exact ⟨j + 1, _, _, by omega, by go_num, hM3.out⟩
      case measure => simp [intOf]; omega
    · have hjN : j = N := by omega
      have HjN := Lib.hid hjN
      clear hm hM hjN
      go_wp2
      go_ret2
      obtain ⟨k, ck, r, cr, hR, l1, l2, l3⟩ := HM.out.done (by have := HjN.out; omega) (by have := H34.out; omega)
      rw [HjN.out] at hR
      exact .inr ⟨H.out, w.heap.size, k, ck, r, cr, rfl, hR, l1, l2, l3, HM.out.bel⟩
end Go.Proofs.Ytmkfnnhhioeioaa
