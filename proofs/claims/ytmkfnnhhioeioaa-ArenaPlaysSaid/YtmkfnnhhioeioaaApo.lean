/- the steps that came in, opened. -/
import Derived.Test.YtmkfnnhhioeioaaApk
import Derived.Test.YtmkfnnhhioeioaaArn
import Derived.Deep.Slices
import Derived.Deep.Fields
import Derived.ChangeSame
namespace Go.Proofs.Ytmkfnnhhioeioaa
open Go.ChangeShapes Go.WideShapes Go.Deep Go.RowKit
set_option linter.unusedVariables false
set_option linter.unusedSimpArgs false

theorem wf_i64 {n : Int} (h : (Lit.int .i64 n).wf = true) : -9223372036854775808 ≤ n ∧ n ≤ 9223372036854775807 := by
  simpa [Lit.wf, IntKind.min, IntKind.max, IntKind.signed, IntKind.bits] using h

theorem cellsOp : Try.prog.cellsOf 48 = 5 := by kernel_rfl
theorem cellsI : Try.prog.cellsOf 3 = 1 := by kernel_rfl
theorem cellsS : Try.prog.cellsOf 36 = 1 := by kernel_rfl

/-- what a slice of steps that came in is -/
theorem ops_of {H : Type} {enc : TypeId × Value → H} {W : World} {a0 : Option Addr} {len cap : Nat} {d : DataW H} {p : List MemPlace}
    (h : DataW.Trod enc Try.prog W 0 (fun _ => true) true 42 (.slice a0 len cap) d p) : OpsIn W a0 len ∧ len ≤ cap ∧ cap ≤ maxLen := by
  obtain ⟨fuel, hf⟩ := h
  rcases open_slice Try.underlying42 hf with ⟨hcs, _⟩ | ⟨a, len', cap', m, fu, D, Pl, hcs, hb, hl, hm, hmm, hx, hi⟩
  · simp [Value.cells] at hcs
    obtain ⟨rfl, rfl, rfl⟩ := hcs
    exact ⟨fun i hi => by omega, Nat.le_refl _, Nat.zero_le _⟩
  · simp [Value.cells] at hcs
    obtain ⟨rfl, rfl, rfl⟩ := hcs
    simp only [if_true] at hmm
    refine ⟨fun i hil => ?_, hl, hm⟩
    have hspot : a.spot = none := by
      obtain ⟨cs, hc, _⟩ := hi 0 (by omega)
      rw [cellsOp] at hc
      obtain ⟨_, hl5, hat⟩ := World.cells?_some hc
      have h0 := hat 0 (by omega)
      rw [List.getElem?_eq_getElem (by omega)] at h0
      simpa [Addr.add] using World.cell?_spot h0
    obtain ⟨cs, hc, ht⟩ := hi i (by omega)
    rw [cellsOp] at hc
    obtain ⟨ys, n, _, _, hlen, hyl, hg⟩ := DataW.trod_struct Try.underlying48 ht
    obtain ⟨_, _, hat⟩ := World.cells?_some hc
    match cs, hlen.trans cellsOp with
    | [v0, v1, v2, v3, v4], _ =>
      match ys, hyl with
      | [y0, y1, y2, y3, y4], _ =>
        have t0 : DataW.trod enc Try.prog W 0 (fun _ => true) true n 3 ((([v0, v1, v2, v3, v4] : List Value).drop 0).take (Try.prog.cellsOf 3)) = ([y0, y1, y2, y3, y4] : List (DataW H × List MemPlace))[0]? := hg 0 _ rfl
        rw [cellsI] at t0
        have t1 : DataW.trod enc Try.prog W 0 (fun _ => true) true n 3 ((([v0, v1, v2, v3, v4] : List Value).drop 1).take (Try.prog.cellsOf 3)) = ([y0, y1, y2, y3, y4] : List (DataW H × List MemPlace))[1]? := hg 1 _ rfl
        rw [cellsI] at t1
        have t2 : DataW.trod enc Try.prog W 0 (fun _ => true) true n 3 ((([v0, v1, v2, v3, v4] : List Value).drop 2).take (Try.prog.cellsOf 3)) = ([y0, y1, y2, y3, y4] : List (DataW H × List MemPlace))[2]? := hg 2 _ rfl
        rw [cellsI] at t2
        have t3 : DataW.trod enc Try.prog W 0 (fun _ => true) true n 3 ((([v0, v1, v2, v3, v4] : List Value).drop 3).take (Try.prog.cellsOf 3)) = ([y0, y1, y2, y3, y4] : List (DataW H × List MemPlace))[3]? := hg 3 _ rfl
        rw [cellsI] at t3
        have t4 : DataW.trod enc Try.prog W 0 (fun _ => true) true n 36 ((([v0, v1, v2, v3, v4] : List Value).drop 4).take (Try.prog.cellsOf 36)) = ([y0, y1, y2, y3, y4] : List (DataW H × List MemPlace))[4]? := hg 4 _ rfl
        rw [cellsS] at t4
        have c0 := hat 0 (by omega)
        have c1 := hat 1 (by omega)
        have c2 := hat 2 (by omega)
        have c3 := hat 3 (by omega)
        have c4 := hat 4 (by omega)
        rw [Go.Deep.add_add] at c0 c1 c2 c3 c4
        simp only [List.getElem?_cons_zero, List.getElem?_cons_succ] at c0 c1 c2 c3 c4
        obtain ⟨K, e0, _, _⟩ := DataW.trod_int Try.underlying3 t0
        obtain ⟨A, e1, _, _⟩ := DataW.trod_int Try.underlying3 t1
        obtain ⟨B, e2, _, _⟩ := DataW.trod_int Try.underlying3 t2
        obtain ⟨C, e3, _, wC⟩ := DataW.trod_int Try.underlying3 t3
        have t4' : DataW.trod enc Try.prog W 0 (fun _ => true) true n 36 [v4] = some y4 := t4
        simp at e0 e1 e2 e3
        subst e0 e1 e2 e3
        have hv4 : ∃ va n4 vc, v4 = .slice va n4 vc := by
          rcases DataW.trod_slice Try.underlying36 t4' with ⟨e, _⟩ | ⟨a', n', c', _, _, _, _, e, _⟩
          · simp only [List.cons.injEq, and_true] at e
            exact ⟨_, _, _, e⟩
          · simp only [List.cons.injEq, and_true] at e
            exact ⟨_, _, _, e⟩
        obtain ⟨va, n4, vc, rfl⟩ := hv4
        obtain ⟨l, hrb, hby, hln, hle, hcm, _⟩ := rb_of (p := y4.2) (d := y4.1) ⟨n, t4'⟩
        obtain ⟨b, off, spot⟩ := a
        obtain rfl : spot = none := hspot
        simp only [Addr.add_lit] at c0 c1 c2 c3 c4
        refine ⟨b, off, rfl, K, A, B, C, va, n4, vc, l, ?_, hrb, hln, ⟨hle, hcm⟩, fun x hx => by have := hby x hx; omega, wf_i64 wC⟩
        intro j v hj
        match j, hj with
        | 0, hj => cases hj; exact c0
        | 1, hj => cases hj; exact c1
        | 2, hj => cases hj; exact c2
        | 3, hj => cases hj; exact c3
        | 4, hj => cases hj; exact c4
end Go.Proofs.Ytmkfnnhhioeioaa
