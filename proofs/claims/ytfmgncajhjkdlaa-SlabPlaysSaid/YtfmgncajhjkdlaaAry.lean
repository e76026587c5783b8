/- an arena's Read: contract. -/
import Derived.Test.YtfmgncajhjkdlaaArz
import Derived.Lib.LazyBuf
namespace Go.Proofs.Ytfmgncajhjkdlaa
open Go.RowKit Go.PlainAid
set_option linter.unusedVariables false
set_option linter.unusedSimpArgs false

theorem run_app_none (w : World) (ty : TypeId) (base : Nat) (v : Value) (n c : Nat) (xs : List Value) (hown : w.ownsRow base 5 1 v n xs) : (Builtin.append_ #[46, 46] ty #[v, .slice none 0 c]).run Try.prog w = .ok v w := by
  obtain ⟨i0, hi, hz0, hz1, hz2⟩ := info_parts Try.infoB
  rcases hown.2 with ⟨rfl, rfl⟩ | ⟨g, cap, cur, rfl, _, _, hnc, _⟩
  · simp [Builtin.append_, run_underlying Try.underlying46, sizeOf, typeInfo, hi, Builtin.lenOf, Builtin.firstCells]
  · simp [Builtin.append_, run_underlying Try.underlying46, sizeOf, typeInfo, hi, Builtin.lenOf, Builtin.firstCells, hnc, storeCells]

theorem run_app (w : World) (ty : TypeId) (base : Nat) (v x : Value) (n : Nat) (xs ys : List Int) (hown : w.ownsRow base 5 1 v n (xs.map (.int .u8))) (hr : RB w x ys)
    (h63 : n + ys.length ≤ 200000000000000) (hbase : base ≤ w.heap.size) :
    ∃ v' w', (Builtin.append_ #[46, 46] ty #[v, x]).run Try.prog w = .ok v' w' ∧ w'.ownsRow base 5 1 v' (n + ys.length) ((xs ++ ys).map (.int .u8)) ∧ Below base w w' ∧ (v' = .slice none 0 0 → v = .slice none 0 0) := by
  obtain ⟨i0, hi, hz0, hz1, hz2⟩ := info_parts Try.infoB
  obtain ⟨a, c, rfl, hc⟩ := hr
  cases a with
  | none =>
    have hy : ys = [] := by
      cases ys with
      | nil => rfl
      | cons y ys => obtain ⟨b, o, h, _⟩ := hc (by simp); cases h
    subst hy
    exact ⟨v, w, run_app_none w ty base v n c _ hown, by simpa using hown, Below.refl _ _, fun h => h⟩
  | some ad =>
    obtain ⟨v', w', hrun, ho, hg, hiff⟩ := run_append_own_wide (P := Try.prog) w base 46 ty 5 i0 (.int .u8 0) 1 1 Try.underlying46 hi hz0 hz1 hz2 rfl (by decide) v n _ hown ad ys.length c (ys.map (.int .u8)) (by simp) (by
        intro j u hj
        have hjl : j < ys.length := by have := (List.getElem?_eq_some_iff.1 hj).1; simpa using this
        obtain ⟨b, o, e, hcc⟩ := hc (by intro h; rw [h] at hjl; simp at hjl)
        obtain rfl := Option.some.inj e
        rw [Addr.add_lit, hcc j hjl]
        simp [hjl] at hj ⊢
        exact hj) (by
        intro u hu
        obtain ⟨z, _, rfl⟩ := List.mem_map.1 hu
        rfl) (by unfold maxLen; omega) (by omega) hbase
    exact ⟨v', w', hrun, by simpa using ho, (Below.refl _ _).grown hg hbase (fun k hk => (hown.lt k hk).1), fun h => (hiff.1 h).1⟩

/-- append of bytes that are read to a row of the call's own -/
theorem wp_appR {ops : Array Oper} {rest : List Oper} {o : Oper} {a : Act} {Q : Exit → Act → World → Prop} (w0 w : World) (hgd : o.guard = none) (s x : Operand)
    (ho : o.op = .call { callee := .builtin .append, args := #[s, x], argTypes := #[46, 46] }) (base : Nat) (v vx : Value) (n : Nat) (xs ys : List Int)
    (hs : a.eval s = v) (hown : w.ownsRow base 5 1 v n (xs.map (.int .u8))) (hx : a.eval x = vx) (hr : RB w vx ys)
    (hbel : Below base w0 w) (hn : n + ys.length ≤ 200000000000000) (hbase : base ≤ w.heap.size)
    (h : ∀ v' w', w'.ownsRow base 5 1 v' (n + ys.length) ((xs ++ ys).map (.int .u8)) → Below base w0 w' → (v' = .slice none 0 0 → v = .slice none 0 0) → wpList Try.prog ops Q rest (a.put o.dst v') w') :
    wpList Try.prog ops Q (o :: rest) a w := by
  obtain ⟨v', w', hrun, h2, h3, h4⟩ := run_app w o.type base v vx n xs ys hown hr hn hbase
  exact Lib.wpList_append_run w hgd s x _ _ ho v _ hs hx _ w' hrun (h v' w' h2 (hbel.trans h3) h4)

theorem own_new (w : World) : (w.alloc (.cells #[] 5)).ownsRow w.heap.size 5 1 (.slice (some ⟨w.heap.size, 0, none⟩) 0 0) 0 (([] : List Int).map (.int .u8)) :=
  World.ownsRow_lit w #[] 0 (Nat.le_refl _) (by decide) (by simp)

def ClPost (l : List Int) (w : World) (e : Ending) (w' : World) : Prop :=
  ∃ v, e = .returned v ∧ w'.ownsRow w.heap.size 5 1 v l.length (l.map (.int .u8)) ∧ Below w.heap.size w w'

set_option maxHeartbeats 400000 in
theorem clone_nil (w : World) : Calls Try.prog 59 #[.slice none 0 0] w fun e w' => e = .returned (.slice none 0 0) ∧ w = w' := by
  have hq := run_eql_slice_nil (P := Try.prog) w 46 5 none 0 0 Try.underlying46
  go_enter Try.func59, Try.ntmps59
  go_wp2
  go_ret
  exact ⟨rfl, rfl⟩

set_option maxHeartbeats 400000 in
theorem clone_some (A : Addr) (n c : Nat) (l : List Int) (w : World) (hr : RB w (.slice (some A) n c) l) (hl : l.length ≤ 140737488351232) : Calls Try.prog 59 #[.slice (some A) n c] w (ClPost l w) := by
  have hra := Lib.hid (hr.below (w' := w.alloc (.cells #[] 5)) ((Below.refl _ _).alloc (Nat.le_refl _) _))
  have hq := run_eql_slice_nil (P := Try.prog) w 46 5 (some A) n c Try.underlying46
  clear hr
  go_enter Try.func59, Try.ntmps59
  go_wp2_with (at_builtin; go_must (refine wp_appR w _ rfl _ _ rfl w.heap.size (.slice (some ⟨w.heap.size, 0, none⟩) 0 0) (.slice (some A) n c) 0 [] l rfl (own_new w) rfl hra.out ((Below.refl _ _).alloc (Nat.le_refl _) _) (by omega) (by simp) ?_); intro v2 w2 ho2 hb2 hn2)
  go_ret
  exact ⟨_, rfl, by simpa using ho2, hb2⟩

def RdPost (g k np S : Nat) (bv : Value) (ow bs : List Int) (p a n : Int) (w : World) (e : Ending) (w' : World) : Prop :=
  ∃ v bv' B, e = .returned (.tuple #[v, .int .i64 (AP.byE ow S p a n)]) ∧ w.heap.size ≤ B ∧ w'.ownsRow B 5 1 v (AP.rdL ow bs S p a n).length ((AP.rdL ow bs S p a n).map (.int .u8)) ∧
    Ar w' g k np S bv' ow (AP.rdB ow bs S p a n) ∧ Tch (fun i => i = g ∨ bv.ownBlock = some i) w w' ∧ Fresh bv bv' w ∧ (∀ j, bv'.ownBlock = some j → j < B)

theorem rb_cut {w : World} {base h N cap : Nat} {l : List Int} (ho : w.ownsRow base 5 1 (.slice (some ⟨h, 0, none⟩) N cap) N (l.map (.int .u8))) (off n c : Nat) (A : Addr) (hA : n = 0 ∨ A = ⟨h, off, none⟩) (hfit : off + n ≤ N) : RB w (.slice (some A) n c) ((l.drop off).take n) := by
  have hl : l.length = N := by simpa using ho.1
  have hlen : ((l.drop off).take n).length = n := by simp; omega
  refine ⟨some A, c, by rw [hlen], fun hne => ?_⟩
  rcases hA with rfl | rfl
  · exact absurd (by simp) hne
  · refine ⟨h, off, rfl, fun i hi => ?_⟩
    rw [hlen] at hi
    rw [ho.cellAt (off + i) (by omega)]
    rw [List.getElem?_take, if_pos hi, List.getElem?_drop]
    simp [show off + i < l.length by omega]

theorem own_belowB {w w' : World} {base n : Nat} {e : TypeId} {size : Nat} {v : Value} {xs : List Value} (h : w.ownsRow base e size v n xs) (hb : Below w.heap.size w w') : w'.ownsRow base e size v n xs :=
  h.kept (row := none) ⟨hb.os, hb.tape, hb.output, hb.size, fun i hi _ => hb.block i hi⟩ (by cases hv : v.ownBlock <;> simp)
theorem Ar.belowB {w w' : World} {g k np : Nat} {size : Int} {bv : Value} {ow bs : List Int} (h : Ar w g k np size bv ow bs) (hb : Below w.heap.size w w') : Ar w' g k np size bv ow bs :=
  ⟨(hb.block g (Array.getElem?_eq_some_iff.1 h.box).1).trans h.box, own_belowB h.own hb, own_belowB h.byt hb, h.len, h.np1, h.rng, h.siz⟩

set_option maxRecDepth 100000 in
set_option maxHeartbeats 1000000 in
theorem read_any {w : World} {g k np S : Nat} {bv : Value} {ow bs : List Int} (h : Ar w g k np S bv ow bs) (p a n : Int) (hbl : bs.length ≤ 67108864) (hn2 : -9223372036854775808 ≤ n) (hn3 : n ≤ 9223372036854775807) :
    Calls Try.prog 41 #[.pointer (some ⟨g, 0, none⟩), .int .i64 p, .int .i64 a, .int .i64 n] w (RdPost g k np S bv ow bs p a n w) := by
  have H := Lib.hid h
  have hsz := h.siz
  clear h
  by_cases hE : AP.byE ow S p a n = 0
  · obtain ⟨q, b, m, rfl, rfl, rfl, hq, ho, hb, hbm⟩ := byE_yes H.out.rng H.out.len hE
    have HE := Lib.hid hE
    have Hby := Lib.hid (bytes_yes H.out q b m hq ho hb hbm hbl)
    have hbb := byB_len bs (S := S) (q := q)
    rw [Nat.succ_mul] at hbb
    have Hbb := Lib.hid hbb
    have HrL : Hid (AP.rdL ow bs S (q : Int) (b : Int) (m : Int) = ((AP.byB bs S (q : Int)).drop (q * S + b)).take m) := Lib.hid (by unfold AP.rdL; rw [if_pos hE]; rfl)
    have HrB : Hid (AP.rdB ow bs S (q : Int) (b : Int) (m : Int) = AP.byB bs S (q : Int)) := Lib.hid (by unfold AP.rdB; rw [if_pos hE])
    clear hE hbb
    go_enter Try.func41, Try.ntmps41
    go_wp2_with (fail)
    refine Hby.out.mono ?_
    rintro e w2 ⟨hh, cap, A, rfl, hA, hA2, ht, hfr⟩
    have Hrb := Lib.hid (rb_cut hA2.byt (q * S + b) m m A hA (by have := Hbb.out; omega))
    have HA := Lib.hid hA
    clear hA
    go_wp2_with (fail)
    refine (clone_some A m m _ w2 Hrb.out (by simp; omega)).mono ?_
    rintro e w3 ⟨v, rfl, hv, hb3⟩
    go_wp2_with (fail)
    go_ret2
    refine ⟨v, .slice (some ⟨hh, 0, none⟩) (AP.byB bs S (q : Int)).length cap, w2.heap.size, by rw [HE.out]; rfl, ht.size, by rw [HrL.out]; exact hv, by rw [HrB.out]; exact hA2.belowB hb3, ht.trans (Tch.of_below (fun _ => False) hb3) (fun i hi => hi.elim), fun j hj => ?_, fun j hj => ?_⟩
    · simp [Value.ownBlock] at hj; subst hj; exact hfr
    · exact (hA2.byt.lt j hj).2
  · have Hby := Lib.hid (bytes_no H.out p a n hE hn2 hn3)
    have HrL : Hid (AP.rdL ow bs S p a n = []) := Lib.hid (by unfold AP.rdL; rw [if_neg hE])
    have HrB : Hid (AP.rdB ow bs S p a n = bs) := Lib.hid (by unfold AP.rdB; rw [if_neg hE])
    clear hE
    go_enter Try.func41, Try.ntmps41
    go_wp2_with (fail)
    refine Hby.out.mono ?_
    rintro e w2 ⟨rfl, rfl⟩
    go_wp2_with (fail)
    refine (clone_nil w).mono ?_
    rintro e w3 ⟨rfl, rfl⟩
    go_wp2_with (fail)
    go_ret2
    exact ⟨.slice none 0 0, bv, w.heap.size, rfl, Nat.le_refl _, by rw [HrL.out]; exact World.ownsRow_nil _ _ _ _, by rw [HrB.out]; exact H.out, Tch.refl _ w, fun j hj => .inl hj, fun j hj => (H.out.byt.lt j hj).2⟩
end Go.Proofs.Ytfmgncajhjkdlaa
