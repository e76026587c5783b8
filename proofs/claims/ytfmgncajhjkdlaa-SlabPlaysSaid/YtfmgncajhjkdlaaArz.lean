/- an arena's Write and Read: contracts. -/
import Derived.Test.YtfmgncajhjkdlaaArx
namespace Go.Proofs.Ytfmgncajhjkdlaa
open Go.RowKit Go.PlainAid
set_option linter.unusedVariables false
set_option linter.unusedSimpArgs false

/-- copy of bytes that are read into a row -/
theorem run_copy_rb (w : World) (g off N cap base : Nat) (xs l : List Int) (v : Value) (dLen dCap : Nat) (ty : TypeId) (hown : w.ownsRow base 5 1 (.slice (some ⟨g, 0, none⟩) N cap) N (xs.map (.int .u8))) (hv : RB w v l)
    (hfit : off + l.length ≤ N) (hd : l.length ≤ dLen) (hpos : l ≠ []) :
    ∃ w', (Builtin.copy_ #[46, 46] ty #[.slice (some ⟨g, off, none⟩) dLen dCap, v]).run Try.prog w = .ok (goInt l.length) w' ∧
      w'.ownsRow base 5 1 (.slice (some ⟨g, 0, none⟩) N cap) N ((AP.splice xs off l).map (.int .u8)) ∧ w.grownBy w' (some g) := by
  obtain ⟨i0, hi, hz0, hz1, hz2⟩ := info_parts Try.infoB
  obtain ⟨a, c, rfl, hc⟩ := hv
  obtain ⟨b, o, rfl, hcc⟩ := hc hpos
  have hlx : xs.length = N := by simpa using hown.1
  rcases hown.2 with ⟨h, _⟩ | ⟨g', cap', cur, h, hbg, hg, hnc, hcm, hcs, htake⟩
  · simp at h
  · simp only [Value.slice.injEq, Option.some.injEq, Addr.mk.injEq, and_true, true_and] at h
    obtain ⟨rfl, rfl⟩ := h
    have hf := run_firstCells_some (P := Try.prog) w i0.size l.length ⟨b, o, none⟩ l.length c (l.map (Value.int .u8)) (by rw [hz1]; simp) (by
      intro j u hj
      have hjl : j < l.length := by have := (List.getElem?_eq_some_iff.1 hj).1; simpa using this
      rw [Addr.add_lit, hcc j hjl]
      simp [hjl] at hj ⊢
      exact hj)
    have hst := run_storeCells_at Try.prog g off 5 (l.map (Value.int .u8)) 0 cur w hg (by simp; omega) (by
      intro u hu
      obtain ⟨z, _, rfl⟩ := List.mem_map.1 hu
      rfl)
    simp only [Nat.add_zero] at hst
    refine ⟨w.setRow g (cur.toList.take off ++ l.map (Value.int .u8) ++ cur.toList.drop (off + (l.map (Value.int .u8)).length)).toArray, ?_, ⟨?_, .inr ⟨g, cap, _, rfl, hbg, setRow_heap w g cur _ 5 _ hg, hnc, hcm, ?_, ?_⟩⟩, ⟨rfl, rfl, rfl, by simp, fun j _ hj => setRow_other w g j _ (fun e => hj (by rw [e]))⟩⟩
    · have hmin : Nat.min l.length dLen = l.length := Nat.min_eq_left hd
      have hs1 : i0.size = 1 := hz1
      simp [-List.map_append, Builtin.copy_, run_underlying Try.underlying46, Builtin.lenOf, sizeOf, typeInfo, hi, hmin, hf, hst]
    · rw [List.length_map, AP.splice_len (by omega)]; omega
    · simp; omega
    · have hA : cur.toList = xs.map (Value.int .u8) ++ cur.toList.drop N := by
        rw [← htake, Nat.mul_one, List.take_append_drop]
      have hlx2 : (xs.map (Value.int .u8)).length = N := by simp [hlx]
      generalize cur.toList.drop N = R at hA
      have t1 : (xs.map (Value.int .u8) ++ R).take off = (xs.map (Value.int .u8)).take off := List.take_append_of_le_length (by omega)
      have t2 : (xs.map (Value.int .u8) ++ R).drop (off + l.length) = (xs.map (Value.int .u8)).drop (off + l.length) ++ R := List.drop_append_of_le_length (by omega)
      have e : (xs.map (Value.int .u8)).take off ++ l.map (Value.int .u8) ++ ((xs.map (Value.int .u8)).drop (off + l.length) ++ R) = (AP.splice xs off l).map (Value.int .u8) ++ R := by
        simp [AP.splice, List.append_assoc]
      rw [hA, List.length_map, t1, t2, e, Nat.mul_one, List.take_append_of_le_length (by rw [List.length_map, AP.splice_len (by omega)]; omega)]
      exact List.take_of_length_le (by rw [List.length_map, AP.splice_len (by omega)]; omega)

theorem run_copy_zero (w : World) (v : Value) (l : List Int) (a : Option Addr) (n dCap : Nat) (ty : TypeId) (hv : RB w v l) (h : n = 0 ∨ l = []) : (Builtin.copy_ #[46, 46] ty #[.slice a n dCap, v]).run Try.prog w = .ok (goInt 0) w := by
  obtain ⟨i0, hi, hz0, hz1, hz2⟩ := info_parts Try.infoB
  obtain ⟨b, c, rfl, _⟩ := hv
  have hm : min l.length n = 0 := by
    rcases h with rfl | rfl
    · simp
    · simp
  cases a <;> cases b <;> simp [Builtin.copy_, run_underlying Try.underlying46, Builtin.lenOf, Builtin.firstCells, sizeOf, typeInfo, hi, hm, storeCells, loadCells, loadCellsFrom]

theorem wp_copyR {P : Program} (w : World) {ops : Array Oper} {rest : List Oper} {o : Oper} {a : Act} {Q : Exit → Act → World → Prop} (hgd : o.guard = none) (s x : Operand) (t tn : TypeId)
    (ho : o.op = .call { callee := .builtin .copy, args := #[s, x], argTypes := #[t, tn] }) (vs vx : Value) (hs : a.eval s = vs) (hx : a.eval x = vx)
    (v' : Value) (w' : World) (hr : (Builtin.copy_ #[t, tn] o.type #[vs, vx]).run P w = .ok v' w') (h : wpList P ops Q rest (a.put o.dst v') w') : wpList P ops Q (o :: rest) a w := by
  refine wpList_plain hgd fun _ hK => ?_
  unfold Oper.wp execOp
  simp only [ho, resolve, invoke, builtin, Sem.run_bind, Sem.run_pure, Result.andThen_ok, List.map_toArray, List.map_cons, List.map_nil, hs, hx, hr]
  exact hK _ _ h

namespace AP
/-- the bytes behind a Write -/
def wrB (ow bs : List Int) (S : Nat) (p a : Int) (l : List Int) : List Int := if byE ow S p a l.length = 0 then splice (byB bs S p) (p.toNat * S + a.toNat) l else bs
/-- the bytes behind a Read, and what it tells -/
def rdB (ow bs : List Int) (S : Nat) (p a n : Int) : List Int := if byE ow S p a n = 0 then byB bs S p else bs
def rdL (ow bs : List Int) (S : Nat) (p a n : Int) : List Int := if byE ow S p a n = 0 then ((byB bs S p).drop (p.toNat * S + a.toNat)).take n.toNat else []
end AP

def Fresh (bv bv' : Value) (w : World) : Prop := ∀ j, bv'.ownBlock = some j → bv.ownBlock = some j ∨ w.heap.size ≤ j
def WrPost (g k np S : Nat) (bv : Value) (ow bs : List Int) (p a : Int) (l : List Int) (w : World) (e : Ending) (w' : World) : Prop :=
  e = .returned (.int .i64 (AP.byE ow S p a l.length)) ∧ ∃ bv', Ar w' g k np S bv' ow (AP.wrB ow bs S p a l) ∧ Tch (fun i => i = g ∨ bv.ownBlock = some i) w w' ∧ Fresh bv bv' w

theorem Ar.bytes {w w' : World} {g k np S N h cap : Nat} {ow bs bs' : List Int} (hA : Ar w g k np S (.slice (some ⟨h, 0, none⟩) N cap) ow bs) (hg : w.grownBy w' (some h)) (ho : w'.ownsRow 0 5 1 (.slice (some ⟨h, 0, none⟩) N cap) bs'.length (bs'.map (.int .u8))) : Ar w' g k np S (.slice (some ⟨h, 0, none⟩) N cap) ow bs' := by
  obtain ⟨n1, n2, n3⟩ := hA.ne
  simp only [Value.ownBlock, ne_eq, Option.some.injEq] at n2 n3
  exact ⟨(hg.block g (Array.getElem?_eq_some_iff.1 hA.box).1 (fun e => n2 (by injection e with e; exact e.symm))).trans hA.box, hA.own.kept hg (.inr (fun e => n3 (by injection e with e; exact e.symm))), ho, hA.len, hA.np1, hA.rng, hA.siz⟩

theorem byB_len (bs : List Int) {S q : Nat} : (q + 1) * S ≤ (AP.byB bs S (q : Int)).length := by
  unfold AP.byB; rw [Int.toNat_natCast, AP.ext_len]; omega

set_option maxRecDepth 100000 in
set_option maxHeartbeats 1000000 in
theorem write_any {w : World} {g k np S : Nat} {bv : Value} {ow bs : List Int} (h : Ar w g k np S bv ow bs) (p a : Int) (v : Value) (l : List Int) (hbl : bs.length ≤ 67108864) (hl : l.length ≤ maxLen)
    (hv : ∀ w', Tch (fun i => i = g ∨ bv.ownBlock = some i) w w' → RB w' v l) :
    Calls Try.prog 40 #[.pointer (some ⟨g, 0, none⟩), .int .i64 p, .int .i64 a, v] w (WrPost g k np S bv ow bs p a l w) := by
  have Hv := Lib.hid hv
  obtain ⟨va, vc, rfl⟩ : ∃ va vc, v = .slice va l.length vc := by
    obtain ⟨a, c, e, _⟩ := hv w (Tch.refl _ w)
    exact ⟨a, c, e⟩
  have H := Lib.hid h
  unfold maxLen at hl
  clear h hv
  by_cases hE : AP.byE ow S p a l.length = 0
  · obtain ⟨q, b, m, rfl, rfl, hm, hq, ho, hb, hbm⟩ := byE_yes H.out.rng H.out.len hE
    obtain rfl : l.length = m := by omega
    have HE := Lib.hid hE
    have Hby := Lib.hid (bytes_yes H.out q b l.length hq ho hb hbm hbl)
    have hbb := byB_len bs (S := S) (q := q)
    rw [Nat.succ_mul] at hbb
    have Hbb := Lib.hid hbb
    have Hw : Hid (AP.wrB ow bs S (q : Int) (b : Int) l = AP.splice (AP.byB bs S (q : Int)) (q * S + b) l) := Lib.hid (by unfold AP.wrB; rw [if_pos hE]; rfl)
    clear hE hm hbb
    go_enter Try.func40, Try.ntmps40
    go_wp2_with (fail)
    refine Hby.out.mono ?_
    rintro e w2 ⟨hh, cap, A, rfl, hA, hA2, ht, hfr⟩
    have Hrb := Lib.hid (Hv.out w2 ht)
    by_cases hl0 : l = []
    · have hrun := run_copy_zero w2 (.slice va l.length vc) l (some A) l.length l.length 3 Hrb.out (.inr hl0)
      have Hl0 := Lib.hid hl0
      have HA := Lib.hid hA
      clear hA hl0
      go_wp2_with (with_reducible refine wp_copyR w2 rfl _ _ _ _ rfl _ _ rfl rfl _ _ hrun ?_)
      go_ret
      refine ⟨by rw [HE.out]; rfl, .slice (some ⟨hh, 0, none⟩) (AP.byB bs S (q : Int)).length cap, ?_, ht, fun j hj => ?_⟩
      · rw [Hw.out, Hl0.out, AP.splice_nil]; exact hA2
      · simp [Value.ownBlock] at hj; subst hj; exact hfr
    · have hAe : A = ⟨hh, q * S + b, none⟩ := by
        rcases hA with h0 | h0
        · exact absurd (List.eq_nil_of_length_eq_zero h0) hl0
        · exact h0
      subst hAe
      obtain ⟨w3, hrun, ho3, hg3⟩ := run_copy_rb w2 hh (q * S + b) _ cap 0 (AP.byB bs S q) l (.slice va l.length vc) l.length l.length 3 hA2.byt Hrb.out (by have := Hbb.out; omega) (Nat.le_refl _) hl0
      have hlen : (AP.splice (AP.byB bs S (q : Int)) (q * S + b) l).length = (AP.byB bs S (q : Int)).length := AP.splice_len (by have := Hbb.out; omega)
      have hA3 := hA2.bytes (bs' := AP.splice (AP.byB bs S (q : Int)) (q * S + b) l) hg3 (by rw [hlen]; exact ho3)
      have HA3 := Lib.hid hA3
      have ht3 := ht.trans (Tch.of_grown hg3) (fun i hi => by
        rcases hfr with h0 | h0
        · exact .inl (.inr (by rw [h0]; exact hi))
        · exact .inr (by injection hi with hi; omega))
      clear hA hlen hA3 ho3 hg3
      go_wp2_with (with_reducible refine wp_copyR w2 rfl _ _ _ _ rfl _ _ rfl rfl _ _ hrun ?_)
      go_ret
      refine ⟨by rw [HE.out]; rfl, .slice (some ⟨hh, 0, none⟩) (AP.byB bs S (q : Int)).length cap, ?_, ht3, fun j hj => ?_⟩
      · rw [Hw.out]; exact HA3.out
      · simp [Value.ownBlock] at hj; subst hj; exact hfr
  · have Hby := Lib.hid (bytes_no H.out p a (l.length : Int) hE (by omega) (by omega))
    have Hw : Hid (AP.wrB ow bs S p a l = bs) := Lib.hid (by unfold AP.wrB; rw [if_neg hE])
    have hrun := run_copy_zero w (.slice va l.length vc) l none 0 0 3 (Hv.out w (Tch.refl _ w)) (.inl rfl)
    clear hE
    go_enter Try.func40, Try.ntmps40
    go_wp2_with (fail)
    refine Hby.out.mono ?_
    rintro e w2 ⟨rfl, rfl⟩
    go_wp2_with (with_reducible refine wp_copyR w rfl _ _ _ _ rfl _ _ rfl rfl _ _ hrun ?_)
    go_ret
    exact ⟨rfl, bv, by rw [Hw.out]; exact H.out, Tch.refl _ w, fun j hj => .inl hj⟩
end Go.Proofs.Ytfmgncajhjkdlaa
