/- the document's arena: one page's bytes: contract. -/
import Derived.Test.YtmkfnnhhioeioaaApg
namespace Go.Proofs.Ytmkfnnhhioeioaa
open Go.RowKit Go.PlainAid
set_option linter.unusedVariables false
set_option linter.unusedSimpArgs false

/-- what `page` answers -/
def rPgPost (g k ck r cr np S : Nat) (ow F : List Int) (vs : List Value) (q : Nat) (w : World) (e : Ending) (w' : World) : Prop :=
  ∃ (b : Nat) (vs' : List Value), e = .returned (.slice (some ⟨b, 0, none⟩) S S) ∧ vs'[q]? = some (Value.slice (some ⟨b, 0, none⟩) S S) ∧ Rf w' g k ck r cr np S ow vs' F ∧ Tch (fun i => i = r) w w' ∧
    ∀ i, rFoot g k r S vs' i → rFoot g k r S vs i ∨ w.heap.size ≤ i

theorem Rf.drewN {w : World} {g k ck r cr np S : Nat} {ow F : List Int} {vs : List Value} (h : Rf w g k ck r cr np S ow vs F) (n : Nat) : Rf (w.drewN n) g k ck r cr np S ow vs F := ⟨h.box, h.own, h.row, h.pgs, h.dis, h.len, h.fln, h.np1, h.rng, h.siz, h.byt⟩
theorem Rf.drew {w : World} {g k ck r cr np S : Nat} {ow F : List Int} {vs : List Value} (h : Rf w g k ck r cr np S ow vs F) : Rf w.drew g k ck r cr np S ow vs F := ⟨h.box, h.own, h.row, h.pgs, h.dis, h.len, h.fln, h.np1, h.rng, h.siz, h.byt⟩

theorem zeros_b (N : Nat) : (madeCells #[Value.int .u8 0] N).toList = (List.replicate N (0 : Int)).map (.int .u8) := (toList_madeCells_one _ N).trans (by simp)

/-- a page made -/
theorem Rf.made {w : World} {g k ck r cr np S : Nat} {ow F : List Int} {vs : List Value} (h : Rf w g k ck r cr np S ow vs F) (q : Nat) (hq : q < np) (hv : vs[q]? = some (Value.slice none 0 0)) :
    Rf ((w.alloc (.cells (madeCells #[Value.int .u8 0] S) 5)).setCell ⟨r, q, none⟩ (.slice (some ⟨w.heap.size, 0, none⟩) S S)) g k ck r cr np S ow (vs.set q (.slice (some ⟨w.heap.size, 0, none⟩) S S)) F ∧
    Tch (fun i => i = r) w ((w.alloc (.cells (madeCells #[Value.int .u8 0] S) 5)).setCell ⟨r, q, none⟩ (.slice (some ⟨w.heap.size, 0, none⟩) S S)) := by
  have hz : pg F S q = List.replicate S 0 := by
    rcases h.pgs q hq with ⟨_, h1⟩ | ⟨b, h1, _⟩
    · exact h1
    · rw [hv] at h1; simp at h1
  obtain ⟨n1, n2, n3, n4⟩ := h.kr
  have hl : vs.length = np := by have := h.row.1; omega
  have hgl : g < w.heap.size := (Array.getElem?_eq_some_iff.1 h.box).1
  have hrl := (h.row.lt r rfl).2
  have hS := h.siz
  have hst := (h.row.alloc (.cells (madeCells #[Value.int .u8 0] S) 5)).stored q (.slice (some ⟨w.heap.size, 0, none⟩) S S)
  have hnew : (w.alloc (.cells (madeCells #[Value.int .u8 0] S) 5)).ownsRow 0 5 1 (.slice (some ⟨w.heap.size, 0, none⟩) S S) S ((List.replicate S (0 : Int)).map (.int .u8)) := by
    have := World.ownsRow_lit (base := 0) (size := 1) (e := 5) w (madeCells #[Value.int .u8 0] S) S (Nat.zero_le _) (by unfold maxLen; omega) (by simp [madeCells])
    rw [zeros_b] at this; exact this
  have hT : Tch (fun i => i = r) w ((w.alloc (.cells (madeCells #[Value.int .u8 0] S) 5)).setCell ⟨r, q, none⟩ (.slice (some ⟨w.heap.size, 0, none⟩) S S)) :=
    (Tch.of_below (fun i => i = r) ((Below.refl w.heap.size w).alloc (Nat.le_refl _) _)).trans (Tch.setCell _ r q _) (fun i hi => .inl hi)
  have hold : ∀ (b : Nat) (n cap : Nat) (e : TypeId) (xs : List Value), b ≠ r → w.ownsRow 0 e 1 (.slice (some ⟨b, 0, none⟩) n cap) n xs → ((w.alloc (.cells (madeCells #[Value.int .u8 0] S) 5)).setCell ⟨r, q, none⟩ (.slice (some ⟨w.heap.size, 0, none⟩) S S)).ownsRow 0 e 1 (.slice (some ⟨b, 0, none⟩) n cap) n xs := by
    intro b n cap e xs hb ho
    exact (ho.alloc _).kept hst.2 (.inr (by simp [Value.ownBlock]; exact hb))
  have hlt : ∀ (i b : Nat), vs[i]? = some (Value.slice (some ⟨b, 0, none⟩) S S) → b < w.heap.size := fun i b hb => rFoot_lt h b (.inr (.inr (.inr ⟨i, hb⟩)))
  refine ⟨⟨?_, hold k _ _ _ _ n3 h.own, hst.1, fun i hi => ?_, ?_, h.len, h.fln, h.np1, h.rng, h.siz, h.byt⟩, hT⟩
  · exact (hT.block g hgl n2).trans h.box
  · by_cases hiq : i = q
    · subst hiq
      right
      refine ⟨w.heap.size, by simp [hl, hi], ?_⟩
      rw [hz]
      exact hnew.kept hst.2 (.inr (by simp [Value.ownBlock]; omega))
    · rw [List.getElem?_set_ne (by omega)]
      rcases h.pgs i hi with h1 | ⟨b, h1, h2⟩
      · exact .inl h1
      · exact .inr ⟨b, h1, hold b _ _ _ _ (n4 i b h1 hi).2.2 h2⟩
  · intro i j b hi hj
    by_cases hiq : i = q
    · by_cases hjq : j = q
      · omega
      · rw [hiq, List.getElem?_set_self (by omega)] at hi
        rw [List.getElem?_set_ne (by omega)] at hj
        simp at hi
        have := hlt _ _ hj
        omega
    · rw [List.getElem?_set_ne (by omega)] at hi
      by_cases hjq : j = q
      · rw [hjq, List.getElem?_set_self (by omega)] at hj
        simp at hj
        have := hlt _ _ hi
        omega
      · rw [List.getElem?_set_ne (by omega)] at hj
        exact h.dis i j b hi hj

theorem rPgPost.drewN {g k ck r cr np S : Nat} {ow F : List Int} {vs : List Value} {q : Nat} {w : World} {e : Ending} {w' : World} (h : rPgPost g k ck r cr np S ow F vs q w e w') (n : Nat) : rPgPost g k ck r cr np S ow F vs q w e (w'.drewN n) := by
  obtain ⟨b, vs', h1, h2, h3, h4, h5⟩ := h
  exact ⟨b, vs', h1, h2, h3.drewN n, h4.drewN n, h5⟩
theorem rPgPost.drew {g k ck r cr np S : Nat} {ow F : List Int} {vs : List Value} {q : Nat} {w : World} {e : Ending} {w' : World} (h : rPgPost g k ck r cr np S ow F vs q w e w') : rPgPost g k ck r cr np S ow F vs q w e w'.drew := h.drewN 1

set_option maxHeartbeats 1000000 in
theorem rpage_any {w : World} {g k ck r cr np S : Nat} {ow F : List Int} {vs : List Value} (h : Rf w g k ck r cr np S ow vs F) (q : Nat) (hq : q < np) :
    Calls Try.prog 31 #[.pointer (some ⟨g, 0, none⟩), .int .i64 q] w (rPgPost g k ck r cr np S ow F vs q w) := by
  have c0 := h.c0
  have c2 := h.c2
  have hnp := h.np1
  have hS := h.siz
  have cv := h.cv q hq
  have hf := h.row.frozenAt q
  have hmk := run_make_row' (P := Try.prog) 36 5 (.int .u8 0) 1 Try.underlying36 Try.infoB rfl .i64 .i64 S (by omega) (by omega)
  have hl : vs.length = np := by have := h.row.1; omega
  obtain ⟨n1, n2, n3, n4⟩ := h.kr
  have hgl : g < w.heap.size := (Array.getElem?_eq_some_iff.1 h.box).1
  have hrl := (h.row.lt r rfl).2
  have H := Lib.hid h
  rcases h.pgs q hq with ⟨h1, _⟩ | ⟨b, h1, _⟩
  · rw [h1] at cv
    simp only [Option.getD_some] at cv
    have Hm := Lib.hid (h.made q hq h1)
    have hcn : ((w.alloc (.cells (madeCells #[Value.int .u8 0] S) 5)).setCell ⟨r, q, none⟩ (.slice (some ⟨w.heap.size, 0, none⟩) S S)).cell? ⟨r, q, none⟩ = some (.slice (some ⟨w.heap.size, 0, none⟩) S S) := by
      have := Hm.out.1.cv q hq
      simpa [List.getElem?_set, hl, hq] using this
    have hcg := Hm.out.1.c2
    have Hfin : Hid (rPgPost g k ck r cr np S ow F vs q w (.returned (.slice (some ⟨w.heap.size, 0, none⟩) S S)) ((w.alloc (.cells (madeCells #[Value.int .u8 0] S) 5)).setCell ⟨r, q, none⟩ (.slice (some ⟨w.heap.size, 0, none⟩) S S))) := by
      refine Lib.hid ⟨w.heap.size, _, rfl, by simp [hl, hq], Hm.out.1, Hm.out.2, fun i hi => ?_⟩
      rcases hi with h2 | h2 | h2 | ⟨j, hj⟩
      · exact .inl (.inl h2)
      · exact .inl (.inr (.inl h2))
      · exact .inl (.inr (.inr (.inl h2)))
      · by_cases hjq : j = q
        · rw [hjq, List.getElem?_set_self (by omega)] at hj
          simp at hj
          exact .inr (by omega)
        · rw [List.getElem?_set_ne (by omega)] at hj
          exact .inl (.inr (.inr (.inr ⟨j, hj⟩)))
    have hEq : (w.setCell ⟨r, q, none⟩ (.slice (some ⟨w.heap.size, 0, none⟩) S S)).alloc (.cells (madeCells #[Value.int .u8 0] S) 5) = (w.alloc (.cells (madeCells #[Value.int .u8 0] S) 5)).setCell ⟨r, q, none⟩ (.slice (some ⟨w.heap.size, 0, none⟩) S S) := by simp [go_sem, hrl]
    have Hfin2 := Hfin
    rw [← hEq] at Hfin2
    clear h h1 hEq
    go_enter Try.func31, Try.ntmps31
    go_wp2_with (fail)
    go_region
    all_goals (go_wp2_with (fail))
    all_goals go_ret
    all_goals first | exact Hfin.out | exact Hfin.out.drew | exact Hfin2.out | exact Hfin2.out.drew | exact Hfin.out.drewN _
  · rw [h1] at cv
    simp only [Option.getD_some] at cv
    have h0 : ¬ (S : Int) = 0 := by omega
    have h0' : ((S : Int) == 0) = false := by simp; omega
    clear h
    go_enter Try.func31, Try.ntmps31
    go_wp2_with (fail)
    go_ret
    exact ⟨b, vs, rfl, h1, H.out, Tch.refl _ w, fun i hi => .inl hi⟩
end Go.Proofs.Ytmkfnnhhioeioaa
