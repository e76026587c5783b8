/- the document's arena: Write and Read: contracts. -/
import Derived.Test.YtmkfnnhhioeioaaApq
namespace Go.Proofs.Ytmkfnnhhioeioaa
open Go.RowKit Go.PlainAid
set_option linter.unusedVariables false
set_option linter.unusedSimpArgs false

namespace AP
/-- the flat bytes behind a Write, and what a Read tells -/
def rwF (ow F : List Int) (S : Nat) (p a : Int) (l : List Int) : List Int := if byE ow S p a l.length = 0 then splice F (p.toNat * S + a.toNat) l else F
def rrL (ow F : List Int) (S : Nat) (p a n : Int) : List Int := if byE ow S p a n = 0 then (F.drop (p.toNat * S + a.toNat)).take n.toNat else []
end AP

/-- bytes put into a page -/
theorem Rf.wrote {w w' : World} {g k ck r cr np S : Nat} {ow F : List Int} {vs : List Value} (h : Rf w g k ck r cr np S ow vs F) {q a b : Nat} {l : List Int} (hq : q < np) (hv : vs[q]? = some (Value.slice (some ⟨b, 0, none⟩) S S)) (ha : a + l.length ≤ S)
    (hl : ∀ x ∈ l, 0 ≤ x ∧ x ≤ 255) (hg : w.grownBy w' (some b)) (ho : w'.ownsRow 0 5 1 (.slice (some ⟨b, 0, none⟩) S S) S ((AP.splice (pg F S q) a l).map (.int .u8))) : Rf w' g k ck r cr np S ow vs (AP.splice F (q * S + a) l) := by
  obtain ⟨n1, n2, n3, n4⟩ := h.kr
  obtain ⟨m1, m2, m3⟩ := n4 q b hv hq
  have h1 : (q + 1) * S ≤ np * S := Nat.mul_le_mul_right S (by omega)
  rw [Nat.succ_mul] at h1
  have hgl : g < w.heap.size := (Array.getElem?_eq_some_iff.1 h.box).1
  refine ⟨(hg.block g hgl (by simp; omega)).trans h.box, h.own.kept hg (.inr (by simp [Value.ownBlock]; omega)), h.row.kept hg (.inr (by simp [Value.ownBlock]; omega)), fun i hi => ?_, h.dis, h.len, ?_, h.np1, h.rng, h.siz, fun x hx => ?_⟩
  · by_cases hiq : i = q
    · subst hiq
      right
      refine ⟨b, hv, ?_⟩
      rw [pg_splice h.fln hi ha]; exact ho
    · rcases h.pgs i hi with ⟨h2, h3⟩ | ⟨b', h2, h3⟩
      · exact .inl ⟨h2, by rw [pg_splice_ne h.fln hq hi hiq ha]; exact h3⟩
      · right
        refine ⟨b', h2, ?_⟩
        rw [pg_splice_ne h.fln hq hi hiq ha]
        refine h3.kept hg (.inr ?_)
        simp only [Value.ownBlock, ne_eq, Option.some.injEq]
        rintro rfl
        exact hiq (h.dis i q b' h2 hv)
  · have := h.fln; rw [AP.splice_len (by omega)]; exact this
  · unfold AP.splice at hx
    rw [List.mem_append, List.mem_append] at hx
    rcases hx with (hx | hx) | hx
    · exact h.byt x (List.mem_of_mem_take hx)
    · exact hl x hx
    · exact h.byt x (List.mem_of_mem_drop hx)

def rFresh (g k r S : Nat) (vs vs' : List Value) (w : World) : Prop := ∀ i, rFoot g k r S vs' i → rFoot g k r S vs i ∨ w.heap.size ≤ i
def rWrPost (g k ck r cr np S : Nat) (ow F : List Int) (vs : List Value) (p a : Int) (l : List Int) (w : World) (e : Ending) (w' : World) : Prop :=
  e = .returned (.int .i64 (AP.byE ow S p a l.length)) ∧ ∃ vs', Rf w' g k ck r cr np S ow vs' (AP.rwF ow F S p a l) ∧ Tch (rFoot g k r S vs) w w' ∧ rFresh g k r S vs vs' w

set_option maxRecDepth 100000 in
set_option maxHeartbeats 1000000 in
theorem rWrite_any {w : World} {g k ck r cr np S : Nat} {ow F : List Int} {vs : List Value} (h : Rf w g k ck r cr np S ow vs F) (p a : Int) (v : Value) (l : List Int) (hl : l.length ≤ maxLen) (hby : ∀ x ∈ l, 0 ≤ x ∧ x ≤ 255)
    (hv : ∀ w', Tch (fun i => i = r) w w' → RB w' v l) :
    Calls Try.prog 26 #[.pointer (some ⟨g, 0, none⟩), .int .i64 p, .int .i64 a, v] w (rWrPost g k ck r cr np S ow F vs p a l w) := by
  have Hv := Lib.hid hv
  obtain ⟨va, vc, rfl⟩ : ∃ va vc, v = .slice va l.length vc := by
    obtain ⟨a, c, e, _⟩ := hv w (Tch.refl _ w)
    exact ⟨a, c, e⟩
  have H := Lib.hid h
  have c0 := h.c0
  have hS := h.siz
  have hnp := h.np1
  have Ho := Lib.hid (rOwner_any h p)
  unfold maxLen at hl
  have Hby := Lib.hid hby
  clear h hv hby
  by_cases hE : AP.byE ow S p a l.length = 0
  · obtain ⟨q, b, m, rfl, rfl, hm, hq, ho, hb, hbm⟩ := byE_yes H.out.rng H.out.len hE
    obtain rfl : l.length = m := by omega
    have HE := Lib.hid hE
    have Hw : Hid (AP.rwF ow F S (q : Int) (b : Int) l = AP.splice F (q * S + b) l) := Lib.hid (by unfold AP.rwF; rw [if_pos hE]; rfl)
    have Hpg := Lib.hid (rpage_any H.out q hq)
    have hng : ¬ AP.owner ow (q : Int) < 0 := by omega
    clear hE hm ho
    go_enter Try.func26, Try.ntmps26
    go_wp2_with (fail)
    refine Ho.out.mono ?_
    rintro e w' ⟨rfl, rfl⟩
    go_wp2_with (fail)
    refine Hpg.out.mono ?_
    rintro e w2 ⟨B, vs', rfl, hvq, hR2, ht2, hf2⟩
    have Hrb := Lib.hid (Hv.out w2 ht2)
    have HR2 := Lib.hid hR2
    have hT := Lib.hid (ht2.mono (T := rFoot g k r S vs) (fun i hi => .inr (.inr (.inl hi))))
    have Hvq := Lib.hid hvq
    have Hf2 := Lib.hid hf2
    clear hR2 ht2 hvq hf2
    have hbS : b ≤ S := by omega
    have HbS : (b : Int) ≤ (S : Int) := by omega
    obtain ⟨x, hx⟩ : ∃ x, (if S = b then (some ⟨B, 0, none⟩ : Option Addr) else some ⟨B, b, none⟩) = some ⟨B, x, none⟩ := ⟨if S = b then 0 else b, by split <;> rfl⟩
    have Hx : Hid (l = [] ∨ x = b) := by
      by_cases hc : S = b
      · exact Lib.hid (.inl (List.eq_nil_of_length_eq_zero (by omega)))
      · rw [if_neg hc] at hx
        simp at hx
        exact Lib.hid (.inr hx.symm)
    by_cases hl0 : l = []
    · have hrun := run_copy_zero w2 (.slice va l.length vc) l (some ⟨B, x, none⟩) (S - b) (S - b) 3 Hrb.out (.inr hl0)
      have Hl0 := Lib.hid hl0
      clear hl0
      go_wp2_with (with_reducible refine wp_copyR w2 rfl _ _ _ _ rfl _ _ rfl rfl _ _ hrun ?_)
      go_ret
      refine ⟨by rw [HE.out]; rfl, vs', ?_, hT.out, Hf2.out⟩
      rw [Hw.out, Hl0.out, AP.splice_nil]; exact HR2.out
    · have hxb : x = b := by
        rcases Hx.out with h0 | h0
        · exact absurd h0 hl0
        · exact h0
      subst hxb
      have hrow : w2.ownsRow 0 5 1 (.slice (some ⟨B, 0, none⟩) S S) S ((pg F S q).map (.int .u8)) := by
        rcases HR2.out.pgs q hq with ⟨h1, _⟩ | ⟨b', h1, h2⟩
        · rw [Hvq.out] at h1; simp at h1
        · rw [Hvq.out] at h1
          simp only [Option.some.injEq, Value.slice.injEq, Addr.mk.injEq, and_true] at h1
          subst h1
          exact h2
      obtain ⟨w3, hrun, ho3, hg3⟩ := run_copy_rb w2 B x S S 0 (pg F S q) l (.slice va l.length vc) (S - x) (S - x) 3 hrow Hrb.out (by omega) (by omega) hl0
      have HR3 := Lib.hid (HR2.out.wrote hq Hvq.out hbm Hby.out hg3 ho3)
      have ht3 := Lib.hid (hT.out.trans (Tch.of_grown hg3) (fun i hi => Hf2.out i (.inr (.inr (.inr ⟨q, by injection hi with hi; subst hi; exact Hvq.out⟩)))))
      clear hrow ho3 hg3 hl0
      go_wp2_with (with_reducible refine wp_copyR w2 rfl _ _ _ _ rfl _ _ rfl rfl _ _ hrun ?_)
      go_ret
      refine ⟨by rw [HE.out]; rfl, vs', ?_, ht3.out, Hf2.out⟩
      rw [Hw.out]; exact HR3.out
  · have Hw : Hid (AP.rwF ow F S p a l = F) := Lib.hid (by unfold AP.rwF; rw [if_neg hE])
    by_cases h0 : AP.owner ow p < 0
    · have He : Hid (AP.byE ow S p a l.length = 7) := Lib.hid (by unfold AP.byE; rw [if_pos h0])
      clear hE
      go_enter Try.func26, Try.ntmps26
      go_wp2_with (fail)
      refine Ho.out.mono ?_
      rintro e w' ⟨rfl, rfl⟩
      go_wp2_with (fail)
      go_ret
      exact ⟨by rw [He.out]; rfl, vs, by rw [Hw.out]; exact H.out, Tch.refl _ w, fun i hi => .inl hi⟩
    · have hbad : a < 0 ∨ (S : Int) < a ∨ (S : Int) - a < l.length := by
        unfold AP.byE at hE; rw [if_neg h0] at hE
        by_cases hb : a < 0 ∨ (l.length : Int) < 0 ∨ (S : Int) < a ∨ (S : Int) - a < l.length
        · rcases hb with h | h | h | h
          · exact .inl h
          · omega
          · exact .inr (.inl h)
          · exact .inr (.inr h)
        · rw [if_neg hb] at hE; exact absurd rfl hE
      have He : Hid (AP.byE ow S p a l.length = 1) := Lib.hid (by unfold AP.byE; rw [if_neg h0, if_pos (by omega)])
      clear hE
      by_cases h1 : a < 0
      · clear hbad
        go_enter Try.func26, Try.ntmps26
        go_wp2_with (fail)
        refine Ho.out.mono ?_
        rintro e w' ⟨rfl, rfl⟩
        go_wp2_with (fail)
        go_ret
        exact ⟨by rw [He.out]; rfl, vs, by rw [Hw.out]; exact H.out, Tch.refl _ w, fun i hi => .inl hi⟩
      by_cases h2 : (S : Int) < a
      · clear hbad
        go_enter Try.func26, Try.ntmps26
        go_wp2_with (fail)
        refine Ho.out.mono ?_
        rintro e w' ⟨rfl, rfl⟩
        go_wp2_with (fail)
        go_ret
        exact ⟨by rw [He.out]; rfl, vs, by rw [Hw.out]; exact H.out, Tch.refl _ w, fun i hi => .inl hi⟩
      · have h3 : (S : Int) - a < l.length := by omega
        clear hbad
        go_enter Try.func26, Try.ntmps26
        go_wp2_with (fail)
        refine Ho.out.mono ?_
        rintro e w' ⟨rfl, rfl⟩
        go_wp2_with (fail)
        go_ret
        exact ⟨by rw [He.out]; rfl, vs, by rw [Hw.out]; exact H.out, Tch.refl _ w, fun i hi => .inl hi⟩
end Go.Proofs.Ytmkfnnhhioeioaa
