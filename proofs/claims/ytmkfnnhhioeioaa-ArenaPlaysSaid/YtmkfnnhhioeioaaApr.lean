/- the document's arena: Read: contract. -/
import Derived.Test.YtmkfnnhhioeioaaApw
import Derived.Test.YtmkfnnhhioeioaaAry
namespace Go.Proofs.Ytmkfnnhhioeioaa
open Go.RowKit Go.PlainAid
set_option linter.unusedVariables false
set_option linter.unusedSimpArgs false

theorem run_app2 (w : World) (ty : TypeId) (base : Nat) (v x : Value) (n : Nat) (xs ys : List Int) (hown : w.ownsRow base 5 1 v n (xs.map (.int .u8))) (hr : RB w x ys)
    (h63 : n + ys.length ≤ 200000000000000) (hbase : base ≤ w.heap.size) :
    ∃ v' w', (Builtin.append_ #[36, 36] ty #[v, x]).run Try.prog w = .ok v' w' ∧ w'.ownsRow base 5 1 v' (n + ys.length) ((xs ++ ys).map (.int .u8)) ∧ w.grownBy w' v.ownBlock := by
  obtain ⟨i0, hi, hz0, hz1, hz2⟩ := info_parts Try.infoB
  obtain ⟨a, c, rfl, hc⟩ := hr
  cases a with
  | none =>
    have hy : ys = [] := by
      cases ys with
      | nil => rfl
      | cons y ys => obtain ⟨b, o, h, _⟩ := hc (by simp); cases h
    subst hy
    exact ⟨v, w, run_app_none w ty base v n c _ hown, by simpa using hown, World.grownBy.refl w _⟩
  | some ad =>
    obtain ⟨v', w', hrun, ho, hg, hiff⟩ := run_append_own_wide (P := Try.prog) w base 36 ty 5 i0 (.int .u8 0) 1 1 Try.underlying36 hi hz0 hz1 hz2 rfl (by decide) v n _ hown ad ys.length c (ys.map (.int .u8)) (by simp) (by
        intro j u hj
        have hjl : j < ys.length := by have := (List.getElem?_eq_some_iff.1 hj).1; simpa using this
        obtain ⟨b, o, e, hcc⟩ := hc (by intro h; rw [h] at hjl; simp at hjl)
        obtain rfl := Option.some.inj e
        rw [Addr.add_lit, hcc j hjl]
        simp [hjl] at hj ⊢
        exact hj) (by
        intro u hu
        obtain ⟨z, _, rfl⟩ := List.mem_map.1 hu
        rfl) (by unfold maxLen; omega) (by omega) hbase
    exact ⟨v', w', hrun, by simpa using ho, hg⟩

/-- append of bytes that are read to a row of the call's own: only that row turns -/
theorem wp_appR2 {ops : Array Oper} {rest : List Oper} {o : Oper} {a : Act} {Q : Exit → Act → World → Prop} (w : World) (hgd : o.guard = none) (s x : Operand)
    (ho : o.op = .call { callee := .builtin .append, args := #[s, x], argTypes := #[36, 36] }) (base : Nat) (v vx : Value) (n : Nat) (xs ys : List Int)
    (hs : a.eval s = v) (hown : w.ownsRow base 5 1 v n (xs.map (.int .u8))) (hx : a.eval x = vx) (hr : RB w vx ys)
    (hn : n + ys.length ≤ 200000000000000) (hbase : base ≤ w.heap.size)
    (h : ∀ v' w', w'.ownsRow base 5 1 v' (n + ys.length) ((xs ++ ys).map (.int .u8)) → w.grownBy w' v.ownBlock → wpList Try.prog ops Q rest (a.put o.dst v') w') :
    wpList Try.prog ops Q (o :: rest) a w := by
  obtain ⟨v', w', hrun, h2, h3⟩ := run_app2 w o.type base v vx n xs ys hown hr hn hbase
  exact Lib.wpList_append_run w hgd s x _ _ ho v _ hs hx _ w' hrun (h v' w' h2 h3)

def rRdPost (g k ck r cr np S : Nat) (ow F : List Int) (vs : List Value) (p a n : Int) (w : World) (e : Ending) (w' : World) : Prop :=
  ∃ v vs', e = .returned (.tuple #[v, .int .i64 (AP.byE ow S p a n)]) ∧ RB w' v (AP.rrL ow F S p a n) ∧ Rf w' g k ck r cr np S ow vs' F ∧ Tch (rFoot g k r S vs) w w' ∧ rFresh g k r S vs vs' w

theorem rb_nil (w : World) : RB w (.slice none 0 0) [] := ⟨none, 0, rfl, fun h => absurd rfl h⟩

set_option maxRecDepth 100000 in
set_option maxHeartbeats 1000000 in
theorem rRead_any {w : World} {g k ck r cr np S : Nat} {ow F : List Int} {vs : List Value} (h : Rf w g k ck r cr np S ow vs F) (p a n : Int) (hn2 : -9223372036854775808 ≤ n) (hn3 : n ≤ 9223372036854775807) :
    Calls Try.prog 27 #[.pointer (some ⟨g, 0, none⟩), .int .i64 p, .int .i64 a, .int .i64 n] w (rRdPost g k ck r cr np S ow F vs p a n w) := by
  have H := Lib.hid h
  have c0 := h.c0
  have hS := h.siz
  have hnp := h.np1
  have Ho := Lib.hid (rOwner_any h p)
  by_cases hE : AP.byE ow S p a n = 0
  · obtain ⟨q, b, m, rfl, rfl, rfl, hq, ho, hb, hbm⟩ := byE_yes H.out.rng H.out.len hE
    have HE := Lib.hid hE
    have Hw : Hid (AP.rrL ow F S (q : Int) (b : Int) (m : Int) = (F.drop (q * S + b)).take m) := Lib.hid (by unfold AP.rrL; rw [if_pos hE]; rfl)
    have hR1 : Rf (w.alloc (.cells #[] 5)) g k ck r cr np S ow vs F := h.keep (Tch.of_below (fun _ => False) ((Below.refl w.heap.size w).alloc (Nat.le_refl _) _)) (fun i hi => hi.elim)
    have Hpg := Lib.hid (rpage_any hR1 q hq)
    have hng : ¬ AP.owner ow (q : Int) < 0 := by omega
    have hrl := (h.row.lt r rfl).2
    have Hfr := Lib.hid (fun i hi => rFoot_lt h i hi)
    have hto : (b : Int) + (m : Int) ≤ (S : Int) := by omega
    have hto2 : b + m ≤ S := by omega
    have hwr : IntKind.i64.wrap ((b : Int) + (m : Int)) = (b : Int) + (m : Int) := IntWalk.i64_in _ ⟨by omega, by omega⟩
    have htn : ((b : Int) + (m : Int)).toNat = b + m := by omega
    have hle : (b : Int) ≤ (b : Int) + (m : Int) := by omega
    have hle2 : b ≤ b + m := by omega
    have hsub : b + m - b = m := by omega
    clear hE ho h hR1
    go_enter Try.func27, Try.ntmps27
    go_wp2_with (fail)
    refine Ho.out.mono ?_
    rintro e w' ⟨rfl, rfl⟩
    go_wp2_with (fail)
    refine Hpg.out.mono ?_
    rintro e w2 ⟨B, vs', rfl, hvq, hR2, ht2, hf2⟩
    have hsz2 : w.heap.size + 1 ≤ w2.heap.size := by have := ht2.size; simpa using this
    have hrow : w2.ownsRow 0 5 1 (.slice (some ⟨B, 0, none⟩) S S) S ((pg F S q).map (.int .u8)) := by
      rcases hR2.pgs q hq with ⟨h1, _⟩ | ⟨b', h1, h2⟩
      · rw [hvq] at h1; simp at h1
      · rw [hvq] at h1
        simp only [Option.some.injEq, Value.slice.injEq, Addr.mk.injEq, and_true] at h1
        subst h1
        exact h2
    have hBr : rFoot g k r S vs' B := .inr (.inr (.inr ⟨q, hvq⟩))
    have hnew : w2.ownsRow w.heap.size 5 1 (.slice (some ⟨w.heap.size, 0, none⟩) 0 0) 0 (([] : List Int).map (.int .u8)) :=
      (own_new w).kept (row := some r) ⟨ht2.os, ht2.tape, ht2.output, ht2.size, fun i hi hne => ht2.block i hi (fun e => hne (by rw [e]))⟩ (.inr (by simp [Value.ownBlock]; omega))
    have Hnew := Lib.hid hnew
    have hdis : ∀ i, rFoot g k r S vs' i → i ≠ w.heap.size := by
      intro i hi e
      rcases hf2 i hi with h1 | h1
      · have := Hfr.out i h1; omega
      · simp at h1; omega
    have Hdis := Lib.hid hdis
    obtain ⟨x, hx⟩ : ∃ x, (if S = b then (some ⟨B, 0, none⟩ : Option Addr) else some ⟨B, b, none⟩) = some ⟨B, x, none⟩ := ⟨if S = b then 0 else b, by split <;> rfl⟩
    have hA : m = 0 ∨ (⟨B, x, none⟩ : Addr) = ⟨B, b, none⟩ := by
      by_cases hc : S = b
      · exact .inl (by omega)
      · rw [if_neg hc] at hx
        exact .inr (Option.some.inj hx.symm)
    have hrb := rb_cut hrow b m (S - b) ⟨B, x, none⟩ hA (by omega)
    have hpl : (pg F S q).length = S := pg_len H.out.fln hq
    have HR2 := Lib.hid hR2
    have Hrb := Lib.hid hrb
    have ht2' : Tch (rFoot g k r S vs) w w2 := ((Tch.of_below (rFoot g k r S vs) ((Below.refl w.heap.size w).alloc (Nat.le_refl _) (.cells #[] 5))).trans (ht2.mono (fun i hi => hi)) (fun i hi => .inl (.inr (.inr (.inl hi)))))
    have HT := Lib.hid ht2'
    have Hf2 := Lib.hid hf2
    have hcl : 0 + (((pg F S q).drop b).take m).length ≤ 200000000000000 := by simp; omega
    have Hcut := Lib.hid (pg_cut (F := F) (S := S) (q := q) (a := b) (n := m) hto2)
    have hbb : w.heap.size ≤ w2.heap.size := by omega
    clear hrow hBr hnew hdis hA hrb hR2 ht2 ht2' hf2 hpl hvq
    go_wp2_with (at_builtin; go_must (refine wp_appR2 w2 rfl _ _ rfl w.heap.size (.slice (some ⟨w.heap.size, 0, none⟩) 0 0) (.slice (some ⟨B, x, none⟩) m (S - b)) 0 [] (((pg F S q).drop b).take m) rfl Hnew.out rfl Hrb.out hcl hbb ?_); intro v3 w3 ho3 hg3)
    go_ret2
    refine ⟨v3, vs', by rw [HE.out]; rfl, ?_, HR2.out.keep (Tch.of_grown hg3) (fun i hi hj => ?_), HT.out.trans (Tch.of_grown hg3) (fun i hi => .inr ?_), fun i hi => ?_⟩
    · rw [Hw.out, ← Hcut.out]; exact rb_own (by simpa using ho3)
    · simp [Value.ownBlock] at hi; exact Hdis.out i hj hi.symm
    · simp [Value.ownBlock] at hi; omega
    · rcases Hf2.out i hi with h1 | h1
      · exact .inl h1
      · exact .inr (by simp at h1; omega)
  · have Hw : Hid (AP.rrL ow F S p a n = []) := Lib.hid (by unfold AP.rrL; rw [if_neg hE])
    clear h
    by_cases h0 : AP.owner ow p < 0
    · have He : Hid (AP.byE ow S p a n = 7) := Lib.hid (by unfold AP.byE; rw [if_pos h0])
      clear hE
      go_enter Try.func27, Try.ntmps27
      go_wp2_with (fail)
      refine Ho.out.mono ?_
      rintro e w' ⟨rfl, rfl⟩
      go_wp2_with (fail)
      go_ret2
      exact ⟨_, vs, by rw [He.out]; rfl, by rw [Hw.out]; exact rb_nil w, H.out, Tch.refl _ w, fun i hi => .inl hi⟩
    · have hbad : a < 0 ∨ n < 0 ∨ (S : Int) < a ∨ (S : Int) - a < n := by
        unfold AP.byE at hE; rw [if_neg h0] at hE
        by_cases hb : a < 0 ∨ n < 0 ∨ (S : Int) < a ∨ (S : Int) - a < n
        · exact hb
        · rw [if_neg hb] at hE; exact absurd rfl hE
      have He : Hid (AP.byE ow S p a n = 1) := Lib.hid (by unfold AP.byE; rw [if_neg h0, if_pos hbad])
      clear hE
      by_cases h1 : a < 0
      · clear hbad
        go_enter Try.func27, Try.ntmps27
        go_wp2_with (fail)
        refine Ho.out.mono ?_
        rintro e w' ⟨rfl, rfl⟩
        go_wp2_with (fail)
        go_ret2
        exact ⟨_, vs, by rw [He.out]; rfl, by rw [Hw.out]; exact rb_nil w, H.out, Tch.refl _ w, fun i hi => .inl hi⟩
      by_cases h2 : n < 0
      · clear hbad
        go_enter Try.func27, Try.ntmps27
        go_wp2_with (fail)
        refine Ho.out.mono ?_
        rintro e w' ⟨rfl, rfl⟩
        go_wp2_with (fail)
        go_ret2
        exact ⟨_, vs, by rw [He.out]; rfl, by rw [Hw.out]; exact rb_nil w, H.out, Tch.refl _ w, fun i hi => .inl hi⟩
      by_cases h3 : (S : Int) < a
      · clear hbad
        go_enter Try.func27, Try.ntmps27
        go_wp2_with (fail)
        refine Ho.out.mono ?_
        rintro e w' ⟨rfl, rfl⟩
        go_wp2_with (fail)
        go_ret2
        exact ⟨_, vs, by rw [He.out]; rfl, by rw [Hw.out]; exact rb_nil w, H.out, Tch.refl _ w, fun i hi => .inl hi⟩
      · have h4 : (S : Int) - a < n := by omega
        clear hbad
        go_enter Try.func27, Try.ntmps27
        go_wp2_with (fail)
        refine Ho.out.mono ?_
        rintro e w' ⟨rfl, rfl⟩
        go_wp2_with (fail)
        go_ret2
        exact ⟨_, vs, by rw [He.out]; rfl, by rw [Hw.out]; exact rb_nil w, H.out, Tch.refl _ w, fun i hi => .inl hi⟩
end Go.Proofs.Ytmkfnnhhioeioaa
