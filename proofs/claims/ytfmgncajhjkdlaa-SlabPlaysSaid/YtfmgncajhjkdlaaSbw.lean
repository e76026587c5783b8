/- slices.Backward over bools: what it hands to its loop. -/
import Derived.RangeFuncNested
import Derived.RangeFuncBound
import Derived.RangeFuncCalls
import Derived.RangeFuncLeaves
import Derived.RangeFuncBox
import Derived.Shelf.Abstract
import Derived.Shelf.RegionOpen
import Derived.WalkKit
import Derived.OwnWalkIn
import Derived.TacticsInMore
import Derived.LoopNIn
import Derived.LoopIn
import Derived.Test.YtfmgncajhjkdlaaAry
namespace Go.Proofs.Ytfmgncajhjkdlaa
open Go.RowKit Go.PlainAid Go.Shelf
set_option linter.unusedVariables false
set_option linter.unusedSimpArgs false

attribute [local go_sem] Oper.semAt_some

/-- the bools of a row from its end on: the first k of them, each with its place -/
def bwd (us : List Bool) (k : Nat) : List (Nat × Bool) := (List.range k).map (fun i => (us.length - 1 - i, us[us.length - 1 - i]?.getD false))
theorem bwd_succ (us : List Bool) (k : Nat) : bwd us (k + 1) = bwd us k ++ [(us.length - 1 - k, us[us.length - 1 - k]?.getD false)] := by simp [bwd, List.range_succ]
theorem bwd_len (us : List Bool) (k : Nat) : (bwd us k).length = k := by simp [bwd]

/-- two blocks are kept -/
def Kp2 (u b : Nat) (A B : World) : Prop := ∀ i, i = u ∨ i = b → B.heap[i]? = A.heap[i]?

set_option maxRecDepth 100000 in
set_option maxHeartbeats 2000000 in
theorem back1_in (F : Fence) (n : Nat) (h7 : F.fn 70) (hro : F.round = none) (hn : 1 ≤ n) (l bb ub cap : Nat) (us : List Bool) (hsm : us.length ≤ 100000) (J Jx : List (Nat × Bool) → World → Prop)
    (hY : ∀ pre x W, J pre W → pre.length < us.length → YieldAt F (n - 1) Try.prog l #[.int .i64 (x.1 : Int), .bool x.2] W fun e W' =>
      (e = .returned (.bool true) ∧ J (pre ++ [x]) W' ∧ Kp2 ub bb W W') ∨ (e = .returned (.bool false) ∧ Jx (pre ++ [x]) W'))
    (W : World) (hBs : W.cell? ⟨bb, 0, none⟩ = some (.slice (some ⟨ub, 0, none⟩) us.length cap)) (hc : ∀ j, j < us.length → W.cell? ⟨ub, j, none⟩ = some (.bool (us[j]?.getD false))) (h0 : J [] W) :
    CallsIn F n Try.prog 70 #[.func (.yield l) #[] #[], .pointer (some ⟨bb, 0, none⟩)] W fun e W' => (∃ v, e = .returned v) ∧
      ((∃ ys, ys = bwd us us.length ∧ J ys W') ∨ (∃ pre, True ∧ Jx pre W')) := by
  obtain ⟨L, hL⟩ : ∃ L, L = us.length := ⟨_, rfl⟩
  have HL := Lib.hid hL
  rw [← hL] at hBs hsm
  rw [← hL] at hc
  rw [← hL] at hY
  clear hL
  refine callsIn_of_wp Try.func70 rfl h7 ?_ hro
  simp only [Try.ntmps70, List.size_toArray, List.length_cons, List.length_nil, Nat.reduceAdd, Nat.reduceSub, Array.replicate_succ, Array.replicate_zero, List.push_toArray, List.append_toArray, List.nil_append, List.cons_append]
  gi_wp2
  gi_loopw [3] (fun i wr => ∃ k : Nat, k ≤ L ∧ i = .int .i64 ((L : Int) - 1 - k) ∧ J (bwd us k) wr ∧ Kp2 ub bb W wr)
    (fun i _ => (intOf i + 1).toNat)
  case atStart => exact ⟨0, Nat.zero_le _, by simp, h0, fun _ _ => rfl⟩
  case round =>
    obtain ⟨k, hk, rfl, hJs, hkp⟩ := hrel
    by_cases hlt : k < L
    · obtain ⟨m, hm⟩ : ∃ m, m = L - 1 - k := ⟨_, rfl⟩
      have em : (L : Int) - 1 - (k : Int) = (m : Int) := by omega
      rw [em]
      have hb1 : wr.cell? ⟨bb, 0, none⟩ = some (.slice (some ⟨ub, 0, none⟩) L cap) := by
        have : wr.cell? ⟨bb, 0, none⟩ = W.cell? ⟨bb, 0, none⟩ := by unfold World.cell?; rw [hkp bb (.inr rfl)]
        rw [this]; exact hBs
      have hcx : wr.cell? ⟨ub, m, none⟩ = some (.bool (us[m]?.getD false)) := by
        have : wr.cell? ⟨ub, m, none⟩ = W.cell? ⟨ub, m, none⟩ := by unfold World.cell?; rw [hkp ub (.inl rfl)]
        rw [this]; exact hc m (by omega)
      have hmL : m < L := by omega
      obtain ⟨fn, tmps, assign, body, hy, hR⟩ := hY _ (m, us[m]?.getD false) wr hJs (by rw [bwd_len]; exact hlt)
      dsimp only at hy
      have Hm := Lib.hid hm
      have Hem := Lib.hid em
      clear em hm
      gi_wp2
      refine hR.mono ?_
      rintro e W3 (⟨rfl, hJ3, hk3⟩ | ⟨rfl, hJx3⟩)
      · gi_wp2
        go_roundw
        case rel => exact ⟨k + 1, by omega, by have := Hem.out; simp; omega, by rw [bwd_succ, ← HL.out, ← Hm.out]; exact hJ3, fun i hi => (hk3 i hi).trans (hkp i hi)⟩
        case measure => (simp [intOf]; try omega)
      · gi_wp2
        refine bodyPost_ret (results_none rfl _ _ _) rfl ?_
        exact ⟨⟨_, rfl⟩, .inr ⟨_, trivial, hJx3⟩⟩
    · obtain rfl : k = L := by omega
      have em : (k : Int) - 1 - (k : Int) = -1 := by omega
      rw [em]
      gi_wp2
      go_end0
      exact ⟨⟨_, rfl⟩, .inl ⟨_, by rw [← HL.out], hJs⟩⟩

set_option maxHeartbeats 1000000 in
theorem back_in (F : Fence) (n : Nat) (h5 : F.fn 57) (hro : F.round = none) (a : Option Addr) (len cap : Nat) (w : World) :
    CallsIn F n Try.prog 57 #[.slice a len cap] w fun e w' => e = .returned (.func (.func 70) #[] #[.pointer (some ⟨w.heap.size, 0, none⟩)]) ∧ w' = w.alloc (.cells #[.slice a len cap] 35) := by
  refine callsIn_of_wp Try.func57 rfl h5 ?_ hro
  simp only [Try.ntmps57, List.size_toArray, List.length_cons, List.length_nil, Nat.reduceAdd, Nat.reduceSub, Array.replicate_succ, Array.replicate_zero, List.push_toArray, List.append_toArray, List.nil_append, List.cons_append]
  gi_wp2
  go_ret
  exact ⟨rfl, rfl⟩

theorem back_stops (F : Fence) (n : Nat) (h7 : F.fn 70) (hro : F.round = none) (hn : 1 ≤ n) (bb ub cap : Nat) (us : List Bool) (hsm : us.length ≤ 100000) (w : World) (hbb : bb < w.heap.size) (hub : ub < w.heap.size)
    (hBs : w.cell? ⟨bb, 0, none⟩ = some (.slice (some ⟨ub, 0, none⟩) us.length cap)) (hc : ∀ j, j < us.length → w.cell? ⟨ub, j, none⟩ = some (.bool (us[j]?.getD false))) :
    SeqStopsK F n Try.prog 70 #[.pointer (some ⟨bb, 0, none⟩)] (fun x : Nat × Bool => #[Value.int .i64 (x.1 : Int), .bool x.2]) (Kp2 ub bb) (fun ys => ys = bwd us us.length) (fun _ => True) us.length w := fun l J Jx W hW _ _ hY h0 =>
  back1_in F n h7 hro hn l bb ub cap us hsm J Jx hY W ((hW.cell (p := ⟨bb, 0, none⟩) hbb).trans hBs) (fun j hj => (hW.cell (p := ⟨ub, j, none⟩) hub).trans (hc j hj)) h0
end Go.Proofs.Ytfmgncajhjkdlaa
