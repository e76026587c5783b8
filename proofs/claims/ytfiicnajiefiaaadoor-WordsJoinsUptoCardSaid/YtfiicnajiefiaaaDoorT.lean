/- words.Split: contract. -/
import Derived.Test.YtfiicnajiefiaaaDoorC
import Derived.RangeFuncNested
import Derived.RangeFuncBound
import Derived.RangeFuncCalls
import Derived.RangeFuncLeaves
import Derived.RangeFuncBox
import Derived.Shelf.Abstract
import Derived.Shelf.RegionOpen
import Derived.OwnWalkIn
import Derived.TacticsInMore
import Derived.LoopNIn
import Derived.LoopIn
import Derived.Maps.AppendAt
namespace Go.Proofs.YtfiicnajiefiaaaDoor
open Go.RowKit Go.Shelf Go.PlainAid
attribute [local go_sem] Oper.semAt_some
set_option linter.unusedVariables false
set_option linter.unusedSimpArgs false

theorem trim_any (s : ByteArray) (w : World) : Calls Tryd.prog 28 #[.string s, .string ⟨#[32]⟩] w fun e w' => e = .returned (.string (P.mk (Lib.trimLeftB (P.sl s) 32))) ∧ w = w' := by
  refine (Tryd.strings_TrimLeft_one s 32 (by decide) w).mono ?_
  rintro e w' ⟨rfl, rfl⟩
  exact ⟨rfl, rfl⟩

theorem words_in (n : Nat) (s : ByteArray) (w : World) : CallsIn Fence.wide n Tryd.prog 23 #[.string s] w fun e w' => e = .returned (.func (.func 27) #[] #[.pointer (some ⟨w.heap.size, 0, none⟩)]) ∧ w' = w.alloc (.cells #[.string s] 9) := by
  refine callsIn_of_wp Tryd.func23 rfl trivial ?_ rfl
  simp only [Tryd.ntmps23, List.size_toArray, List.length_cons, List.length_nil, Nat.reduceAdd, Nat.reduceSub, Array.replicate_succ, Array.replicate_zero, List.push_toArray, List.append_toArray, List.nil_append, List.cons_append]
  gi_wp2
  go_ret
  exact ⟨rfl, rfl⟩

def lineLen : Option Value → Nat | some (.string s) => s.size | _ => 0

/-- between two words: what has come, what is still to come -/
structure St (w0 : World) (rec : Loop) (pre : List P.L) (rest : P.L) (W : World) : Prop where
  dfr : W.heap[w0.heap.size + 2]? = some (.deferred (some []))
  lop : W.heap[w0.heap.size + 3]? = some (.loop rec)
  lin : Boxed W (w0.heap.size + 1) 9 (.string (P.mk rest))
  out : ∃ v, Boxed W w0.heap.size 26 v ∧ W.ownsRow (w0.heap.size + 4) 9 1 v pre.length (pre.map (fun l => .string (P.mk l)))
  bel : Below w0.heap.size w0 W

theorem St.size {w0 W : World} {rec : Loop} {pre : List P.L} {rest : P.L} (h : St w0 rec pre rest W) : w0.heap.size + 4 ≤ W.heap.size := (Array.getElem?_eq_some_iff.1 h.lop).1
theorem St.setLine {w0 W : World} {rec : Loop} {pre : List P.L} {rest : P.L} (h : St w0 rec pre rest W) (r2 : P.L) {t : ByteArray} (ht : P.mk r2 = t) : St w0 rec pre r2 (W.setCell ⟨w0.heap.size + 1, 0, none⟩ (.string t)) := by
  subst ht
  obtain ⟨v, hv, hr⟩ := h.out
  refine ⟨(Below.heap_setCell _ _ _ _ (by simp)).trans h.dfr, (Below.heap_setCell _ _ _ _ (by simp)).trans h.lop, h.lin.set _, ⟨v, hv.other (by omega) _, ?_⟩, h.bel.setCell (p := ⟨w0.heap.size + 1, 0, none⟩) (by simp) _⟩
  refine hr.kept (row := some (w0.heap.size + 1)) (grownBy_setCell' W (w0.heap.size + 1) _) ?_
  exact Or.inr (fun e => by have := (hr.lt _ e).1; omega)
theorem St.drewN {w0 W : World} {rec : Loop} {pre : List P.L} {rest : P.L} (h : St w0 rec pre rest W) (k : Nat) : St w0 rec pre rest (W.drewN k) := by
  obtain ⟨v, hv, hr⟩ := h.out
  refine ⟨h.dfr, h.lop, h.lin, ⟨v, hv, ?_⟩, below_drewN h.bel k⟩
  exact hr.kept (row := none) ⟨rfl, rfl, rfl, Nat.le_refl _, fun _ _ _ => rfl⟩ (by cases hv : v.ownBlock <;> simp)
theorem St.put {w0 W : World} {rec rec' : Loop} {pre : List P.L} {rest : P.L} (h : St w0 rec pre rest W) : St w0 rec' pre rest (W.putObj (w0.heap.size + 3) (.loop rec')) := by
  obtain ⟨v, hv, hr⟩ := h.out
  have hs := h.size
  refine ⟨(World.putObj_heap_other (by omega)).trans h.dfr, World.putObj_heap_same (by omega), ?_, ⟨v, ?_, ownsRow_putObj hr _ h.lop rfl⟩, ?_⟩
  · exact (World.putObj_heap_other (by omega)).trans h.lin
  · exact (World.putObj_heap_other (by omega)).trans hv
  · exact h.bel.grown (grownBy_putObj' W _ _) (by omega) (fun k e => by cases e; omega)

set_option maxHeartbeats 1000000 in
theorem iter_in (s : ByteArray) (w0 : World) (rec : Loop) (n : Nat) (hn : 1 ≤ n) (hs : s.size ≤ 4000000)
    (hY : ∀ pre x rest W, St w0 rec pre rest W → pre.length ≤ 4000001 → YieldAt Fence.wide (n - 1) Tryd.prog (w0.heap.size + 3) #[.string (P.mk x)] W fun e W' => e = .returned (.bool true) ∧ St w0 rec (pre ++ [x]) rest W')
    (W : World) (h0 : St w0 rec [] (P.sl s) W) :
    CallsIn Fence.wide n Tryd.prog 27 #[.func (.yield (w0.heap.size + 3)) #[] #[], .pointer (some ⟨w0.heap.size + 1, 0, none⟩)] W fun e W' => (∃ v, e = .returned v) ∧ ∃ rest, St w0 rec (P.words s) rest W' := by
  refine callsIn_of_wp Tryd.func27 rfl trivial ?_ rfl
  simp only [Tryd.ntmps27, List.size_toArray, List.length_cons, List.length_nil, Nat.reduceAdd, Nat.reduceSub, Array.replicate_succ, Array.replicate_zero, List.push_toArray, List.append_toArray, List.nil_append, List.cons_append]
  gi_wp2
  gi_loopw [] (fun wr => ∃ pre rest, St w0 rec pre rest wr ∧ pre ++ P.go [] rest = P.words s ∧ rest.length ≤ s.size) (fun wr => lineLen (wr.cell? ⟨w0.heap.size + 1, 0, none⟩))
  case atStart => exact ⟨[], P.sl s, h0, rfl, by rw [P.sl_len]; exact Nat.le_refl _⟩
  case round =>
    obtain ⟨pre, rest, hst, hws, hrl⟩ := hrel
    have Hws := Lib.hid hws
    clear hws
    have hlc := hst.lin.cell
    have hlf := hst.lin.frozen
    rcases htr : Lib.trimLeftB rest 32 with _ | ⟨a, r⟩
    · have Htr : Hid (∀ w', Calls Tryd.prog 28 #[.string (P.mk rest), .string ⟨#[32]⟩] w' fun e w'' => e = .returned (.string ⟨#[]⟩) ∧ w' = w'') := Lib.hid (fun w' => (trim_any (P.mk rest) w').mono (by rintro e w'' ⟨rfl, rfl⟩; rw [P.sl_mk, htr]; exact ⟨rfl, rfl⟩))
      have hgo := P.go_end htr
      clear htr
      gi_wp2_with (refine ⟨trivial, ?_⟩; gi_at_call 28; refine (callsIn_wide.2 (Htr.out _)).mono ?_; rintro e w' ⟨rfl, rfl⟩)
      refine bodyPost_ret (results_none rfl _ _ _) rfl ?_
      have e1 := Hws.out
      rw [hgo, List.append_nil] at e1
      exact ⟨⟨_, rfl⟩, [], by rw [← e1]; exact hst.setLine [] rfl⟩
    · have hw1 := (P.go_step htr)
      obtain ⟨x, hx⟩ : ∃ x, P.upto 32 (a :: r) = x := ⟨_, rfl⟩
      obtain ⟨re, hre⟩ : ∃ re, P.behind 32 (a :: r) = re := ⟨_, rfl⟩
      obtain ⟨bo, hbo⟩ : ∃ bo, decide (32 ∈ a :: r) = bo := ⟨_, rfl⟩
      obtain ⟨t, ht⟩ : ∃ t, P.mk (a :: r) = t := ⟨_, rfl⟩
      have hts : t.size ≤ 4000000 := by
        rw [← ht, P.mk_size, ← htr]
        have := P.trim_len rest
        omega
      have hrl2 : re.length < rest.length ∧ re.length ≤ s.size := by
        have h1 := P.behind_lt (c := 32) (a := a) (r := r)
        have h2 := P.trim_len rest
        rw [hre] at h1
        rw [htr] at h2
        omega
      have hrc : (P.mk rest).size = rest.length := P.mk_size rest
      have hlen0 : pre.length ≤ 4000001 := by
        have h1 := congrArg List.length Hws.out
        have h2 := P.words_len s [] (P.sl s)
        rw [P.sl_len] at h2
        unfold P.words at h1
        rw [List.length_append] at h1
        omega
      have hws2 : Hid ((pre ++ [x]) ++ P.go [] re = P.words s) := Lib.hid (by rw [← Hws.out, hw1, hx, hre]; simp)
      have Htr : Hid (∀ w', Calls Tryd.prog 28 #[.string (P.mk rest), .string ⟨#[32]⟩] w' fun e w'' => e = .returned (.string t) ∧ w' = w'') := Lib.hid (fun w' => (trim_any (P.mk rest) w').mono (by rintro e w'' ⟨rfl, rfl⟩; rw [P.sl_mk, htr, ht]; exact ⟨rfl, rfl⟩))
      have Hct : Hid (∀ w', Calls Tryd.prog 21 #[.string t, .string ⟨#[32]⟩] w' fun e w'' => e = .returned (.tuple #[.string (P.mk x), .string (P.mk re), .bool bo]) ∧ ∃ n, w'' = w'.drewN n) := Lib.hid (fun w' => (cut_any 32 t w' (by unfold maxLen; omega)).mono (by rintro e w'' ⟨rfl, h⟩; refine ⟨?_, h⟩; unfold cutV; rw [← ht, P.sl_mk, hx, hre, hbo]))
      have hne := (nonempty_of_size (s := t) (by rw [← ht, P.mk_size]; simp)).1
      have hne2 := (nonempty_of_size (s := t) (by rw [← ht, P.mk_size]; simp)).2
      have hne3 : (t.toList == []) = false := by rw [beq_eq_false_iff_ne]; exact hne2
      clear htr
      gi_wp2_with (first
        | (refine ⟨trivial, ?_⟩; gi_at_call 28; refine (callsIn_wide.2 (Htr.out _)).mono ?_; rintro e w' ⟨rfl, rfl⟩)
        | (refine ⟨trivial, ?_⟩; gi_at_call 21; refine (callsIn_wide.2 (Hct.out _)).mono ?_; rintro e w' ⟨rfl, k, rfl⟩))
      have hst2 := ((hst.setLine (a :: r) ht).drewN k).setLine re rfl
      obtain ⟨fn, tmps, assign, body, hy, hR⟩ := hY pre x re _ hst2 hlen0
      rw [hy]
      gi_wp2
      refine hR.mono ?_
      rintro e W3 ⟨rfl, hst3⟩
      gi_wp2
      go_roundw
      case rel => exact ⟨pre ++ [x], re, hst3, hws2.out, hrl2.2⟩
      case measure => rw [hst3.lin.cell, hlc]; simp only [lineLen, P.mk_size]; exact hrl2.1

theorem St.app {w0 W w1 : World} {rec : Loop} {pre : List P.L} {rest x : P.L} (h : St w0 rec pre rest W) {v v' : Value} {tmp : Obj} (hv : Boxed W w0.heap.size 26 v)
    (hr : W.ownsRow (w0.heap.size + 4) 9 1 v pre.length (pre.map (fun l => .string (P.mk l))))
    (hown' : w1.ownsRow (w0.heap.size + 4) 9 1 v' (pre.length + 1) (pre.map (fun l => .string (P.mk l)) ++ [.string (P.mk x)])) (hg : (W.alloc tmp).grownBy w1 v.ownBlock) :
    Boxed w1 w0.heap.size 26 v ∧ St w0 rec (pre ++ [x]) rest (w1.setCell ⟨w0.heap.size, 0, none⟩ v') := by
  have hs := h.size
  have keep : ∀ i, i < w0.heap.size + 4 → w1.heap[i]? = W.heap[i]? := fun i hi => by
    rw [hg.block i (by simp; omega) (fun e => by have := (hr.lt i e.symm).1; omega)]
    exact Below.heap_alloc W _ i (by omega)
  have hv1 : Boxed w1 w0.heap.size 26 v := (keep _ (by omega)).trans hv
  have hb1 : Below w0.heap.size w0 w1 := (h.bel.alloc (by omega) tmp).grown hg (by simp; omega) (fun k e => by have := (hr.lt k e).1; omega)
  refine ⟨hv1, ⟨?_, ?_, ?_, ⟨v', hv1.set v', ?_⟩, hb1.setCell (p := ⟨w0.heap.size, 0, none⟩) (Nat.le_refl _) _⟩⟩
  · exact (Below.heap_setCell _ _ _ _ (by simp)).trans ((keep _ (by omega)).trans h.dfr)
  · exact (Below.heap_setCell _ _ _ _ (by simp)).trans ((keep _ (by omega)).trans h.lop)
  · exact Boxed.other ((keep _ (by omega)).trans h.lin) (by omega) _
  · have h2 := hown'.kept (row := some w0.heap.size) (grownBy_setCell' w1 w0.heap.size v') (Or.inr (fun e => by have := (hown'.lt _ e).1; omega))
    simpa using h2
theorem own_base {W : World} {b b' : Nat} {e : TypeId} {size n : Nat} {v : Value} {xs : List Value} (h : W.ownsRow b e size v n xs) (hb : b' ≤ b) : W.ownsRow b' e size v n xs := by
  refine ⟨h.1, ?_⟩
  rcases h.2 with h | ⟨g, cap, cur, h1, h2, h3⟩
  · exact .inl h
  · exact .inr ⟨g, cap, cur, h1, Nat.le_trans hb h2, h3⟩

theorem info9 : (Tryd.prog.info? 9).map (fun i => (i.zero, i.size, i.bytes)) = some (some (.string ⟨#[]⟩), 1, 16) := by kernel_rfl

set_option maxHeartbeats 1000000 in
theorem split_in (n : Nat) (hn : 3 ≤ n) (s : ByteArray) (w : World) (hs : s.size ≤ 4000000) :
    CallsIn Fence.wide n Tryd.prog 14 #[.string s] w fun e w' => ∃ v, e = .returned v ∧ w'.ownsRow w.heap.size 9 1 v (P.words s).length ((P.words s).map (fun l => .string (P.mk l))) ∧ Below w.heap.size w w' := by
  have h1 : 1 ≤ n := by omega
  refine callsIn_of_wp_marks Tryd.func14 rfl trivial ?_ rfl
  simp only [Tryd.ntmps14, List.size_toArray, List.length_cons, List.length_nil, Nat.reduceAdd, Nat.reduceSub, Array.replicate_succ, Array.replicate_zero, List.push_toArray, List.append_toArray, List.nil_append, List.cons_append]
  gi_wp2_with (refine ⟨trivial, ?_⟩; gi_at_call 23; refine (words_in (n - 1) s _).mono ?_; rintro e w' ⟨rfl, rfl⟩)
  refine wpIn_rangeFunc ?_
  intro fn hfn
  generalize hB : Code.block 1 _ = bod
  generalize hA : Code.region 3 _ _ = asg
  obtain ⟨W0, hW0⟩ : ∃ W0, (w.alloc (.cells #[.slice none 0 0] 26)).alloc (.cells #[.string s] 9) = W0 := ⟨_, rfl⟩
  rw [hW0]
  have e0 : W0.heap.size = w.heap.size + 2 := by rw [← hW0]; simp
  obtain ⟨tm, htm⟩ : ∃ tm : Array Value, #[Value.string s, undef, Value.slice none 0 0, Value.pointer (some ⟨w.heap.size, 0, none⟩), undef, Value.string s, Value.func (Fn.func 27) #[] #[Value.pointer (some ⟨w.heap.size + 1, 0, none⟩)], undef, undef, undef, undef, undef, undef] = tm := ⟨_, rfl⟩
  obtain ⟨rec, hrec⟩ : ∃ rec : Loop, rec = { state := .ready, pending := none, fn, tmps := tm, params := #[7], assign := asg, body := bod, defers := w.heap.size + 2 } := ⟨_, rfl⟩
  obtain ⟨W1, hW1⟩ : ∃ W1, (W0.alloc (.deferred (some []))).alloc (.loop rec) = W1 := ⟨_, rfl⟩
  have hE := run_enterLoop_outer (P := Tryd.prog) (w := W0) fn tm #[7] asg bod
  rw [e0, ← hrec, hW1, show w.heap.size + 2 + 1 = w.heap.size + 3 from rfl] at hE
  refine ⟨w.heap.size + 3, [{ target := .collected (w.heap.size + 2), args := #[] }], W1, { target := .fn (.func 27) #[.pointer (some ⟨w.heap.size + 1, 0, none⟩)], args := #[.func (.yield (w.heap.size + 3)) #[] #[]] }, W1, 27, #[.func (.yield (w.heap.size + 3)) #[] #[], .pointer (some ⟨w.heap.size + 1, 0, none⟩)], W1, by rw [htm]; exact hE, ?_, ?_, ?_, fun _ => h1, ?_⟩
  · simp [resolve, go_sem]
  · intro f' hf'; trivial
  · simp [invoke, go_sem, enters_of Tryd.func27 (by kernel_rfl) rfl]
  · have hsz1 : W1.heap.size = w.heap.size + 4 := by rw [← hW1]; simp [e0]
    have hkeep : ∀ i, i < w.heap.size + 2 → W1.heap[i]? = W0.heap[i]? := fun i hi => by
      rw [← hW1, Below.heap_alloc _ _ i (by simp; omega), Below.heap_alloc _ _ i (by omega)]
    have hL1 : W1.heap[w.heap.size + 3]? = some (.loop rec) := by
      rw [← hW1]
      have := World.alloc_heap_new (W0.alloc (.deferred (some []))) (.loop rec)
      rw [World.size_alloc, e0] at this
      exact this
    have hD1 : W1.heap[w.heap.size + 2]? = some (.deferred (some [])) := by
      rw [← hW1, Below.heap_alloc _ _ _ (by simp; omega)]
      have := World.alloc_heap_new W0 (.deferred (some []))
      rw [e0] at this
      exact this
    have hb0 : Boxed W0 w.heap.size 26 (.slice none 0 0) := by rw [← hW0]; exact (Boxed.new w 26 _).alloc _
    have hb1 : Boxed W0 (w.heap.size + 1) 9 (.string s) := by
      rw [← hW0]
      have := Boxed.new (w.alloc (.cells #[.slice none 0 0] 26)) 9 (.string s)
      rw [World.size_alloc] at this
      exact this
    have hbel : Below w.heap.size w W1 := by
      rw [← hW1, ← hW0]
      exact (((((Below.refl _ w).alloc (Nat.le_refl _) _).alloc (by simp) _).alloc (by simp; omega) _).alloc (by simp; omega) _)
    have h0 : St w rec [] (P.sl s) W1 := ⟨hD1, hL1, (hkeep _ (by omega)).trans (by rw [P.mk_sl]; exact hb1), ⟨.slice none 0 0, (hkeep _ (by omega)).trans hb0, World.ownsRow_nil _ _ _ _⟩, hbel⟩
    have r1 : rec.state = .ready := by rw [hrec]
    have r2 : rec.pending = none := by rw [hrec]
    have r3 : rec.params = #[7] := by rw [hrec]
    have r4 : rec.assign = asg := by rw [hrec]
    have r5 : rec.body = bod := by rw [hrec]
    have r6 : rec.tmps = tm := by rw [hrec]
    refine (iter_in s w rec (n - 1) (by omega) hs ?hY W1 h0).mono ?_
    case hY =>
      intro pre x rest W hst hlen
      have hy := run_yield (P := Tryd.prog) (args := #[.string (P.mk x)]) hst.lop (by rw [r3]; rfl)
      refine ⟨_, _, _, _, hy, roundIn_of_wpIn trivial ?_⟩
      rw [r3, r4, r5, r6, ← hA, ← htm]
      have R1 := Lib.hid r1
      have R2 := Lib.hid r2
      have hstB := hst.put (rec' := { rec with state := .busy })
      have hbr := run_beginRound (P := Tryd.prog) hst.lop r1
      clear hrec htm r1 r2 r3 r4 r5 r6 hE hy hW0 hW1 hL1 hD1 hb0 hb1 hkeep h0 hbel hsz1 e0
      gi_wp2
      refine ⟨_, hbr, ?_⟩
      generalize W.putObj (w.heap.size + 3) (.loop { rec with state := .busy }) = W2 at *
      obtain ⟨v, hv, hr⟩ := hstB.out
      have hcv := hv.cell
      have hsz := hstB.size
      obtain ⟨i0, hi, hz0, hz1, hz2⟩ := info_parts info9
      clear hbr
      rw [← hB]
      gi_wp2_with (gi_at_builtin; go_must (refine wpListIn_append_own _ rfl _ _ 26 rfl (w.heap.size + 4) 9 i0 (.string ⟨#[]⟩) 1 16 Tryd.underlying26 hi hz0 hz1 hz2 rfl (by decide) v pre.length _ rfl (hr.alloc _) ⟨W2.heap.size, 0, none⟩ 1 1 [.string (P.mk x)] rfl rfl (cell_one_new _ _ _) (by simp [Value.oneCell']) (by unfold maxLen; omega) (by omega) (by simp; omega) ?_); intro v' w1 hown' hgrow _; obtain ⟨g', cap', rfl⟩ := ownsRow_succ hown'; obtain ⟨hv1, hst3⟩ := hstB.app hv hr hown' hgrow; have hc1 := hv1.cell; have hf1 := hv1.frozen)
      refine ⟨_, _, run_endRound none hst3.lop, rfl, ?_⟩
      have e1 := R1.out
      have e2 := R2.out
      obtain ⟨st, pe, fn', tm', ps', as', bo', de'⟩ := rec
      simp only at e1 e2
      subst e1 e2
      exact hst3.put
    · rintro e W2 ⟨⟨v, rfl⟩, rest, hst⟩
      have hend := run_endLoop (P := Tryd.prog) hst.lop (by rw [r1]; simp)
      rw [r2] at hend
      generalize hW4 : W2.putObj (w.heap.size + 3) _ = W4 at hend
      obtain ⟨rec4, hst4⟩ : ∃ rec4, St w rec4 (P.words s) rest W4 := ⟨_, by rw [← hW4]; exact hst.put⟩
      refine ⟨none, W4, hend, ?_⟩
      obtain ⟨v4, hv4, hr4⟩ := hst4.out
      have hc4 := hv4.cell
      have hD4 := hst4.dfr
      have hb4 := hst4.bel
      clear hend hW4 hrec r1 r2 r3 r4 r5 r6 htm hE hst hW0 hW1
      show Exit.inBlock 0 _ Exit.normal _ W4
      gi_wp2
      refine ⟨by simp, .inl ⟨_, _, rfl, run_takeDeferred hD4, ?_⟩⟩
      refine ⟨_, results_tmp rfl _ _ _, ⟨_, rfl, own_base (ownsRow_putObj hr4 _ hD4 rfl) (by omega), ?_⟩⟩
      exact hb4.grown (grownBy_putObj' W4 _ _) hb4.size (fun k e => by cases e; omega)

def SplitPost (s : ByteArray) (w : World) (e : Ending) (w' : World) : Prop := ∃ v, e = .returned v ∧ w'.ownsRow w.heap.size 9 1 v (P.words s).length ((P.words s).map (fun l => .string (P.mk l))) ∧ Below w.heap.size w w'
theorem split_any (s : ByteArray) (w : World) (hs : s.size ≤ 4000000) : Calls Tryd.prog 14 #[.string s] w (SplitPost s w) := callsIn_wide.1 (split_in 3 (by omega) s w hs)
end Go.Proofs.YtfiicnajiefiaaaDoor
