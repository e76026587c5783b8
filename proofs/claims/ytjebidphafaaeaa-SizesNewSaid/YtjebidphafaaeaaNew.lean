/- SizesNew's walk. -/
import Derived.Test.YtjebidphafaaeaaD
namespace Go.Proofs.Ytjebidphafaaeaa
open Go.RowKit
set_option linter.unusedVariables false

set_option maxHeartbeats 400000 in
theorem new_walk (p f : Int) (w : World) (hp1 : -9223372036854775808 ≤ p) (hp2 : p ≤ 9223372036854775807) :
    Calls Try.prog 3 #[.int .i64 p, .int .i64 f] w fun e w' => e = .returned (.bool true) ∧ Below w.heap.size w w' := by
  have hrl := M.row_len p f
  go_enter Try.func3, Try.ntmps3
  go_wp2_with (go_at_call 8; refine (shown_any _).mono ?_; rintro e w1 ⟨rfl, hb1⟩)
  go_loopw [6] (fun t wr => ∃ k : Nat, k ≤ 2 ∧ t = .int .i64 k ∧ Below w.heap.size w wr) (fun t _ => 2 - (intOf t).toNat)
  case atStart => exact ⟨0, by omega, rfl, hb1⟩
  case round =>
    obtain ⟨k, hk, rfl, hbr⟩ := hrel
    by_cases hk2 : k < 2
    · go_wp2_with (go_at_call 9; refine (new_any _ _ _).mono ?_; rintro e w2 ⟨l, rfl, ho2, hb2⟩)
      refine (refNew_any p f _ hp1 hp2).mono ?_
      rintro e w3 ⟨m, rfl, ho3, hb3⟩
      have ho2' := own_below ho2 hb3
      go_wp2_with (fail)
      refine (same_any _ _ _ _ _ (reads_own ho2') (reads_own ho3) (by unfold maxLen; omega) (by unfold maxLen; omega)).mono ?_
      rintro e w4 ⟨rfl, q, rfl⟩
      rw [show (decide (M.row p f = M.row p f)) = true by simp]
      have hb3' : Below w.heap.size w (w3.drewN q) := below_drewN ((hbr.trans (hb2.mono hbr.size)).trans (hb3.mono (Nat.le_trans hbr.size hb2.size))) q
      have ho4 := own_drewN (q := q) ho2'
      clear ho2 ho3 hb2 hb3 ho2'
      go_wp2_with (fail)
      obtain ⟨wo, rfl⟩ : ∃ wo : World, wo = wr := ⟨_, rfl⟩
      have hbs := hbr.size
      generalize hN : (M.row p f).length = N at *
      generalize (M.row p f).map (Value.int IntKind.i64) = zs at *
      clear hN
      rcases ho4.2 with ⟨rfl, h0⟩ | ⟨g, cap, cur, rfl, _⟩
      · clear ho4
        subst h0
        go_loopw [12] (fun i wi => i = .int .i64 0 ∧ Below w.heap.size w wi) (fun _ _ => 0)
        case atStart => exact ⟨rfl, hb3'⟩
        case round =>
          obtain ⟨rfl, hbi⟩ := hrel
          go_wp2_with (fail)
          go_roundw
          case rel => exact ⟨k + 1, by omega, by go_num, hbi⟩
          case measure => simp [intOf]; omega
      · go_loopw [12] (fun i wi => ∃ (j : Nat) (ys : List Value), j ≤ N ∧ i = .int .i64 j ∧ wi.ownsRow wo.heap.size 3 1 (.slice (some ⟨g, 0, none⟩) N cap) N ys ∧ Below w.heap.size w wi) (fun i _ => N - (intOf i).toNat)
        case atStart => exact ⟨0, zs, by omega, rfl, ho4, hb3'⟩
        case round =>
          obtain ⟨j, ys, hj, rfl, ho, hbi⟩ := hrel
          by_cases hlt : j < N
          · have hyl : ys.length = N := by have := ho.1; omega
            obtain ⟨y, hc⟩ : ∃ y, wr.cell? ⟨g, j, none⟩ = some y := ⟨ys[j]'(by omega), by rw [ho.cellAt j (by omega)]; simp⟩
            have hf := ho.frozenAt j
            have hst := (ho.stored j (.int .i64 7)).1
            have hgb := (ho.lt g rfl).1
            clear hyl
            go_wp2_with (fail)
            go_roundw
            case rel => exact ⟨j + 1, _, by omega, by go_num, hst, hbi.setCell (by simp; omega) _⟩
            case measure => simp [intOf]; omega
          · go_wp2_with (fail)
            go_roundw
            case rel => exact ⟨k + 1, by omega, by go_num, hbi⟩
            case measure => simp [intOf]; omega
    · go_wp2_with (fail)
      go_ret
      exact ⟨rfl, hbr⟩

theorem hi_of {n : Int} (h : (Lit.int .i64 n).wf = true) : n ≤ 9223372036854775807 := by
  have : -9223372036854775808 ≤ n ∧ n ≤ 9223372036854775807 := by simpa [Lit.wf, IntKind.min, IntKind.max, IntKind.signed, IntKind.bits] using h
  exact this.2
theorem lo_of {n : Int} (h : (Lit.int .i64 n).wf = true) : -9223372036854775808 ≤ n := by
  have : -9223372036854775808 ≤ n ∧ n ≤ 9223372036854775807 := by simpa [Lit.wf, IntKind.min, IntKind.max, IntKind.signed, IntKind.bits] using h
  exact this.1
end Go.Proofs.Ytjebidphafaaeaa
