/- SizesGrow's walk. -/
import Derived.Test.YtjebidphafaaeaaD
import Derived.Test.YtjebidphafaaeaaR
namespace Go.Proofs.Ytjebidphafaaeaa
open Go.RowKit
set_option linter.unusedVariables false

set_option maxHeartbeats 1000000 in
theorem grow_walk (a b : Int) (w : World) (ha : (Lit.int .i64 a).wf = true) (hb : (Lit.int .i64 b).wf = true) :
    Calls Try.prog 6 #[.int .i64 a, .int .i64 b] w fun e w' => e = .returned (.bool true) ∧ Below w.heap.size w w' := by
  obtain ⟨a1, a2⟩ : -9223372036854775808 ≤ a ∧ a ≤ 9223372036854775807 := by simpa [Lit.wf, IntKind.min, IntKind.max, IntKind.signed, IntKind.bits] using ha
  obtain ⟨b1, b2⟩ : -9223372036854775808 ≤ b ∧ b ≤ 9223372036854775807 := by simpa [Lit.wf, IntKind.min, IntKind.max, IntKind.signed, IntKind.bits] using hb
  obtain ⟨u, hu0, hu1, hun, hup⟩ := modpos a 8129 (by omega)
  obtain ⟨v, hv0, hv1, hvn, hvp⟩ := modpos b 296 (by omega)
  have hok := M.row_ok (512 + u * 8) (105 + v) (by omega) (by omega) (by omega) (by omega) (by omega)
  have her : M.errno (512 + u * 8) (105 + v) = 0 := by unfold M.errno; exact if_neg (by unfold M.Bad; omega)
  have Hok := Lib.hid hok
  have Her := Lib.hid her
  clear hok her
  by_cases ha0 : a < 0 <;> by_cases hb0 : b < 0
  all_goals
    first | have ea := hun ha0 | have ea := hup ha0
    first | have eb := hvn hb0 | have eb := hvp hb0
    clear hun hup hvn hvp
    go_enter Try.func6, Try.ntmps6
    go_wp2_with (go_at_call 8; refine (shown_any _).mono ?_; rintro e w1 ⟨rfl, hb1⟩)
    refine (new_any (512 + u * 8) (105 + v) _).mono ?_
    rintro e w2 ⟨l, rfl, ho2, hb2⟩
    rw [Her.out]
    have h2 := Hok.out.two
    have h63 := Hok.out.most
    generalize hrow : M.row (512 + u * 8) (105 + v) = r at *
    clear hrow
    generalize hN : r.length = N at *
    have HN := Lib.hid hN
    clear hN
    rcases ho2.2 with ⟨rfl, h0⟩ | ⟨g, cap, cur, rfl, _⟩
    · omega
    go_wp2_with (fail)
    go_loopw [8] (fun i wr => ∃ k : Nat, k + 2 ≤ N ∧ i = .int .i64 ((k : Int) + 1) ∧ ∃ q, wr = w2.drewN q) (fun i _ => N - (intOf i).toNat)
    case atStart => exact ⟨0, by omega, rfl, 0, rfl⟩
    case round =>
      obtain ⟨k, hk, rfl, q, rfl⟩ := hrel
      by_cases hlt : k + 2 < N
      · have hl := HN.out
        have c1 : w2.cell? ⟨g, k, none⟩ = some (.int .i64 (r[k]?.getD 0)) := by rw [ho2.cellAt k (by omega)]; simp [show k < r.length by omega]
        have c2 : w2.cell? ⟨g, k + 1, none⟩ = some (.int .i64 (r[k + 1]?.getD 0)) := by rw [ho2.cellAt (k + 1) (by omega)]; simp [show k + 1 < r.length by omega]
        have hs := Hok.out.grow k (by omega)
        have b1 := Hok.out.low k (by omega)
        have b2 := Hok.out.top k (by omega)
        have b3 := Hok.out.top (k + 1) (by omega)
        have b4 := Hok.out.low (k + 1) (by omega)
        unfold M.at_ at hs b1 b2 b3 b4
        have hm := M.mulf (r[k]?.getD 0) (105 + v) (by omega) (by omega) (by omega)
        have hw := M.step_want (105 + v) (r[k]?.getD 0)
        have hmo := M.step_most (105 + v) (r[k]?.getD 0)
        rw [← hs] at hw hmo
        clear hs hl
        generalize r[k]?.getD 0 = x at *
        generalize r[k + 1]?.getD 0 = y at *
        obtain ⟨mx, hif, hmx⟩ : ∃ mx, (if x * (105 + v) / 100 + 7 < x + 8 then x + 8 else x * (105 + v) / 100 + 7) = mx ∧ y ≤ mx := ⟨_, rfl, by split <;> omega⟩
        clear hmo
        go_wp2_with (fail)
        have q1 : IntKind.i64.wrap (x * (105 + v) / 100 + 7) = x * (105 + v) / 100 + 7 := IntWalk.i64_in _ ⟨by omega, by omega⟩
        have q2 : IntKind.i64.wrap (x + 8) = x + 8 := IntWalk.i64_in _ ⟨by omega, by omega⟩
        have q3 : ((k : Int) + 1).toNat = k + 1 := by omega
        have q4 : IntKind.i64.wrap (k : Int) = k := IntWalk.i64_in _ ⟨by omega, by omega⟩
        have q5 : (0 : Int) ≤ (k : Int) + 1 := by omega
        have q6 : (k : Int) + 1 < (N : Int) := by omega
        have q7 : (k : Int) < (N : Int) := by omega
        go_quiet (fail)
        clear q1 q2 q3 q4 q5 q6 q7
        go_wp2_with (fail)
        go_roundw
        case rel => exact ⟨k + 1, by omega, by go_num, _, rfl⟩
        case measure => simp [intOf]; omega
      · go_wp2_with (fail)
        go_ret
        exact ⟨rfl, below_drewN (hb1.trans (hb2.mono hb1.size)) _⟩
end Go.Proofs.Ytjebidphafaaeaa
