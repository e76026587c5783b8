/- two pairs of arenas that lie apart, and the steps that came in. -/
import Derived.Test.YtmkfnnhhioeioaaApe
import Derived.Deep.MidRow
namespace Go.Proofs.Ytmkfnnhhioeioaa
open Go.RowKit Go.PlainAid
set_option linter.unusedVariables false
set_option linter.unusedSimpArgs false

/-- a step that came in -/
def OpAt (w : World) (b o : Nat) : Prop := ∃ (K A B C : Int) (va : Option Addr) (n vc : Nat) (l : List Int),
  w.rangeAt b o [.int .i64 K, .int .i64 A, .int .i64 B, .int .i64 C, .slice va n vc] ∧ RB w (.slice va n vc) l ∧ l.length = n ∧ (n ≤ vc ∧ vc ≤ maxLen) ∧ (∀ x ∈ l, 0 ≤ x ∧ x ≤ 255) ∧ (-9223372036854775808 ≤ C ∧ C ≤ 9223372036854775807)

theorem rangeAt_below {w w' : World} {b o : Nat} {cs : List Value} (h : w.rangeAt b o cs) (hne : cs ≠ []) (hb : Below w.heap.size w w') : w'.rangeAt b o cs := fun j v hv => by
  have h1 := h j v hv
  exact (hb.cell (p := ⟨b, o + j, none⟩) (World.block_lt_of_cell? _ _ h1)).trans h1

structure Inv (w wr : World) (X1 X2 : Nat → Prop) (q1 q2 : Option St) : Prop where
  one : ∀ s, q1 = some s → PairI wr X1 s ∧ Same s
  two : ∀ s, q2 = some s → PairI wr X2 s ∧ Same s
  dj : ∀ i, X1 i → ¬ X2 i
  lo1 : ∀ i, X1 i → w.heap.size ≤ i ∧ i < wr.heap.size
  lo2 : ∀ i, X2 i → w.heap.size ≤ i ∧ i < wr.heap.size
  bel : Below w.heap.size w wr

section
variable {w wr : World} {X1 X2 : Nat → Prop} {q1 q2 : Option St} {s : St}
theorem Inv.swap (h : Inv w wr X1 X2 q1 q2) : Inv w wr X2 X1 q2 q1 := ⟨h.two, h.one, fun i a b => h.dj i b a, h.lo2, h.lo1, h.bel⟩
theorem Inv.drewN (h : Inv w wr X1 X2 q1 q2) (n : Nat) : Inv w (wr.drewN n) X1 X2 q1 q2 :=
  ⟨fun s hs => ⟨(h.one s hs).1.drewN n, (h.one s hs).2⟩, fun s hs => ⟨(h.two s hs).1.drewN n, (h.two s hs).2⟩, h.dj, h.lo1, h.lo2, below_drewN h.bel n⟩
theorem Inv.drew (h : Inv w wr X1 X2 q1 q2) : Inv w wr.drew X1 X2 q1 q2 := h.drewN 1
theorem Inv.start (w : World) : Inv w w (fun _ => False) (fun _ => False) none none := ⟨fun s h => (by cases h), fun s h => (by cases h), fun i h => False.elim h, fun i h => False.elim h, fun i h => False.elim h, Below.refl _ _⟩
theorem Inv.more {w' : World} (h : Inv w wr X1 X2 q1 q2) (hb : Below wr.heap.size wr w') : Inv w w' X1 X2 q1 q2 :=
  ⟨fun s hs => ⟨(h.one s hs).1.keep (Tch.of_below (fun _ => False) hb) (fun _ _ x => x), (h.one s hs).2⟩, fun s hs => ⟨(h.two s hs).1.keep (Tch.of_below (fun _ => False) hb) (fun _ _ x => x), (h.two s hs).2⟩, h.dj,
    fun i hi => ⟨(h.lo1 i hi).1, Nat.lt_of_lt_of_le (h.lo1 i hi).2 hb.size⟩, fun i hi => ⟨(h.lo2 i hi).1, Nat.lt_of_lt_of_le (h.lo2 i hi).2 hb.size⟩, h.bel.trans (hb.mono h.bel.size)⟩
/-- the first pair has gone a step -/
theorem Inv.went {w' : World} {Y : Nat → Prop} {s' : St} (h : Inv w wr X1 X2 q1 q2) (hs : Step X1 Y wr w' s') (hsm : Same s') : Inv w w' Y X2 (some s') q2 := by
  refine ⟨fun t ht => by injection ht with ht; subst ht; exact ⟨hs.pr, hsm⟩, fun t ht => ⟨(h.two t ht).1.keep hs.tc (fun i hi hx => h.dj i hx hi), (h.two t ht).2⟩, fun i hi hx => ?_, fun i hi => ⟨?_, hs.pr.xl i hi⟩, fun i hi => ⟨(h.lo2 i hi).1, Nat.lt_of_lt_of_le (h.lo2 i hi).2 hs.tc.size⟩, hs.tc.below h.bel h.bel.size (fun i hi => (h.lo1 i hi).1)⟩
  · rcases hs.nu i hi with h1 | h1
    · exact h.dj i h1 hx
    · have := (h.lo2 i hx).2; omega
  · rcases hs.nu i hi with h1 | h1
    · exact (h.lo1 i h1).1
    · exact Nat.le_trans h.bel.size h1
/-- a new pair -/
theorem Inv.first {w1 w2 : World} {g k g' k' ck r cr np S : Nat} (h : Inv w wr X1 X2 none q2) (hA : Ar w1 g k np S (.slice none 0 0) (List.replicate np 0) []) (hb1 : Below wr.heap.size wr w1) (hg : wr.heap.size ≤ g) (hk : wr.heap.size ≤ k)
    (hR : Rf w2 g' k' ck r cr np S (List.replicate np 0) (List.replicate np (.slice none 0 0)) (List.replicate (np * S) 0)) (hb2 : Below w1.heap.size w1 w2) (hg' : w1.heap.size ≤ g') (hk' : w1.heap.size ≤ k') (hr : w1.heap.size ≤ r) :
    ∃ X, Inv w w2 X X2 (some ⟨g, k, np, S, .slice none 0 0, List.replicate np 0, [], g', k', ck, r, cr, List.replicate np 0, List.replicate (np * S) 0, List.replicate np (.slice none 0 0)⟩) q2 := by
  have hA2 := hA.belowB hb2
  have hgl := (Array.getElem?_eq_some_iff.1 hA.box).1
  have hkl := (hA.own.lt k rfl).2
  have ha : ∀ i, aFoot g k (.slice none 0 0) i → wr.heap.size ≤ i ∧ i < w1.heap.size := by
    intro i hi
    rcases hi with h1 | h1 | h1
    · subst h1; exact ⟨hg, hgl⟩
    · subst h1; exact ⟨hk, hkl⟩
    · simp [Value.ownBlock] at h1
  have hrf : ∀ i, rFoot g' k' r S (List.replicate np (.slice none 0 0)) i → w1.heap.size ≤ i ∧ i < w2.heap.size := by
    intro i hi
    refine ⟨?_, rFoot_lt hR i hi⟩
    rcases hi with h1 | h1 | h1 | ⟨j, h1⟩
    · subst h1; exact hg'
    · subst h1; exact hk'
    · subst h1; exact hr
    · rw [List.getElem?_replicate] at h1
      split at h1 <;> simp at h1
  have hs1 := hb1.size
  have hs2 := hb2.size
  have hm := (h.more hb1).more hb2
  have hws := h.bel.size
  refine ⟨fun i => aFoot g k (.slice none 0 0) i ∨ rFoot g' k' r S (List.replicate np (.slice none 0 0)) i, fun t ht => ?_, hm.two, fun i hi hx => ?_, fun i hi => ?_, hm.lo2, hm.bel⟩
  · injection ht with ht
    subst ht
    refine ⟨⟨hA2, hR, fun i hi => .inl hi, fun i hi => .inr hi, fun i hi hx => ?_, fun i hi => ?_⟩, rfl, by simp [AP.ext], by simp⟩
    · have := ha i hi; have := hrf i hx; omega
    · rcases hi with h1 | h1
      · have := ha i h1; omega
      · exact (hrf i h1).2
  · have h2 := (h.lo2 i hx).2
    rcases hi with h1 | h1
    · have := ha i h1; omega
    · have := hrf i h1; omega
  · rcases hi with h1 | h1
    · have := ha i h1; omega
    · have := hrf i h1; omega

/-- a step on the first pair -/
theorem do_one (h : Inv w wr X1 X2 (some s) q2) (K A B C : Int) (va : Option Addr) (n vc : Nat) (l : List Int)
    (hrb : RB w (.slice va n vc) l) (hl : l.length = n) (hc : n ≤ vc ∧ vc ≤ maxLen) (hby : ∀ x ∈ l, 0 ≤ x ∧ x ≤ 255) (hC : -9223372036854775808 ≤ C ∧ C ≤ 9223372036854775807) :
    Calls Try.prog 18 #[.pointer (some ⟨s.g, 0, none⟩), .pointer (some ⟨s.g', 0, none⟩), .agg #[.int .i64 K, .int .i64 A, .int .i64 B, .int .i64 C, .slice va n vc]] wr
      fun e w' => e = .returned (.bool true) ∧ ∃ Y s', Inv w w' Y X2 (some s') q2 ∧ s'.g = s.g ∧ s'.g' = s.g' ∧ s'.S = s.S := by
  obtain ⟨h1, h2⟩ := h.one s rfl
  refine (does_any h1 h2 K A B C va n vc l (fun w' ht => hrb.below (ht.below h.bel h.bel.size (fun i hi => ?_))) hl hc hby hC).mono ?_
  · rcases hi with h3 | h3
    · exact (h.lo1 i h3).1
    · exact Nat.le_trans h.bel.size h3
  · rintro e w' ⟨he, Y, s', hst, hsm, e1, e2, _, e4⟩
    exact ⟨he, Y, s', h.went hst hsm, e1, e2, e4⟩
theorem do_two (h : Inv w wr X1 X2 q1 (some s)) (K A B C : Int) (va : Option Addr) (n vc : Nat) (l : List Int)
    (hrb : RB w (.slice va n vc) l) (hl : l.length = n) (hc : n ≤ vc ∧ vc ≤ maxLen) (hby : ∀ x ∈ l, 0 ≤ x ∧ x ≤ 255) (hC : -9223372036854775808 ≤ C ∧ C ≤ 9223372036854775807) :
    Calls Try.prog 18 #[.pointer (some ⟨s.g, 0, none⟩), .pointer (some ⟨s.g', 0, none⟩), .agg #[.int .i64 K, .int .i64 A, .int .i64 B, .int .i64 C, .slice va n vc]] wr
      fun e w' => e = .returned (.bool true) ∧ ∃ Y s', Inv w w' X1 Y q1 (some s') ∧ s'.g = s.g ∧ s'.g' = s.g' ∧ s'.S = s.S :=
  (do_one h.swap K A B C va n vc l hrb hl hc hby hC).mono fun e w' ⟨he, Y, s', h1, h2⟩ => ⟨he, Y, s', h1.swap, h2⟩

/-- what both tell of their pages -/
theorem tell_a (h : PairI wr X1 s) : Calls Try.prog 13 #[.pointer (some ⟨s.g, 0, none⟩)] wr fun e w' => e = .returned (.int .i64 (AP.granted s.ow)) ∧ wr = w' := granted_any h.ar
theorem tell_r (h : PairI wr X1 s) (hs : Same s) : Calls Try.prog 19 #[.pointer (some ⟨s.g', 0, none⟩)] wr fun e w' => e = .returned (.int .i64 (AP.granted s.ow)) ∧ wr = w' := by
  rw [hs.1]; exact rGranted_any h.rf
theorem tell_p (h : PairI wr X1 s) : Calls Try.prog 20 #[.pointer (some ⟨s.g, 0, none⟩)] wr fun e w' => e = .returned (.int .i64 s.S) ∧ wr = w' := page_any h.ar
end
end Go.Proofs.Ytmkfnnhhioeioaa
