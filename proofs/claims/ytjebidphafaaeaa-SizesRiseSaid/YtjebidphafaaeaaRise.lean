/- SizesRise's walk. -/
import Derived.Test.YtjebidphafaaeaaD
import Derived.Test.YtjebidphafaaeaaR
namespace Go.Proofs.Ytjebidphafaaeaa
open Go.RowKit
set_option linter.unusedVariables false

theorem cls_spec (l : List Int) (n : Int) : (cls l n = -1 ∧ ∀ j, j < l.length → l[j]?.getD 0 < n) ∨ ∃ k : Nat, k < l.length ∧ cls l n = k ∧ n ≤ l[k]?.getD 0 ∧ ∀ j, j < k → l[j]?.getD 0 < n := by
  induction l with
  | nil => exact .inl ⟨rfl, fun j hj => by simp at hj⟩
  | cons x l ih =>
    by_cases hx : n ≤ x
    · exact .inr ⟨0, by simp, by simp [cls, hx], by simpa using hx, fun j hj => by omega⟩
    · rcases ih with ⟨h1, h2⟩ | ⟨k, h1, h2, h3, h4⟩
      · refine .inl ⟨by rw [cls, if_neg hx, if_pos h1], fun j hj => ?_⟩
        match j with
        | 0 => simp; omega
        | j + 1 => simpa using h2 j (by simpa using hj)
      · refine .inr ⟨k + 1, by simpa using h1, by rw [cls, if_neg hx, h2, if_neg (by omega)]; omega, by simpa using h3, fun j hj => ?_⟩
        match j with
        | 0 => simp; omega
        | j + 1 => simpa using h4 j (by omega)

/-- the class of a number, for a row that is right -/
theorem cls_rise {p f : Int} {l : List Int} (h : M.RowOk p f l) (n : Int) : (p < n ∧ cls l n = -1) ∨ (n ≤ p ∧ ∃ k : Nat, k < l.length ∧ cls l n = k ∧ n ≤ l[k]?.getD 0 ∧ (k = 0 ∨ ∃ m, k = m + 1 ∧ l[m]?.getD 0 < n)) := by
  have h2 := h.two
  have hlast := h.last
  unfold M.at_ at hlast
  rcases cls_spec l n with ⟨h1, h3⟩ | ⟨k, h1, h3, h4, h5⟩
  · have := h3 (l.length - 1) (by omega)
    exact .inl ⟨by omega, h1⟩
  · have ht := h.top k h1
    unfold M.at_ at ht
    refine .inr ⟨by omega, k, h1, h3, h4, ?_⟩
    match k with
    | 0 => exact .inl rfl
    | m + 1 => exact .inr ⟨m, rfl, h5 m (by omega)⟩

theorem per_ge {p f : Int} {l : List Int} (h : M.RowOk p f l) (k : Nat) (hk : k < l.length) (hp : 1 ≤ p) : 1 ≤ per l k p := by
  have h1 := h.low k hk
  have h2 := h.top k hk
  unfold M.at_ at h1 h2
  unfold per
  rw [if_neg (by simp; omega)]
  simp
  exact Int.le_ediv_of_mul_le (by omega) (by omega)

set_option maxRecDepth 100000 in
set_option maxHeartbeats 4000000 in
theorem rise_walk (a b n : Int) (w : World) (ha : (Lit.int .i64 a).wf = true) (hb : (Lit.int .i64 b).wf = true) :
    Calls Try.prog 5 #[.int .i64 a, .int .i64 b, .int .i64 n] w fun e w' => e = .returned (.bool true) ∧ Below w.heap.size w w' := by
  obtain ⟨a1, a2⟩ : -9223372036854775808 ≤ a ∧ a ≤ 9223372036854775807 := by simpa [Lit.wf, IntKind.min, IntKind.max, IntKind.signed, IntKind.bits] using ha
  obtain ⟨b1, b2⟩ : -9223372036854775808 ≤ b ∧ b ≤ 9223372036854775807 := by simpa [Lit.wf, IntKind.min, IntKind.max, IntKind.signed, IntKind.bits] using hb
  obtain ⟨u, hu0, hu1, hun, hup⟩ := modpos a 8129 (by omega)
  obtain ⟨v, hv0, hv1, hvn, hvp⟩ := modpos b 296 (by omega)
  have hok := M.row_ok (512 + u * 8) (105 + v) (by omega) (by omega) (by omega) (by omega) (by omega)
  have her : M.errno (512 + u * 8) (105 + v) = 0 := by unfold M.errno; exact if_neg (by unfold M.Bad; omega)
  have Hok := Lib.hid hok
  have Her := Lib.hid her
  clear hok her
  by_cases ha0 : a < 0 <;> by_cases hb0 : b < 0
  all_goals
    first | have ea := hun ha0 | have ea := hup ha0
    first | have eb := hvn hb0 | have eb := hvp hb0
    clear hun hup hvn hvp
    go_enter Try.func5, Try.ntmps5
    go_wp2_with (go_at_call 8; refine (shown_any _).mono ?_; rintro e w1 ⟨rfl, hb1⟩)
    refine (new_any (512 + u * 8) (105 + v) _).mono ?_
    rintro e w2 ⟨l, rfl, ho2, hb2⟩
    rw [Her.out]
    have h2 := Hok.out.two
    have h63 := Hok.out.most
    generalize hrow : M.row (512 + u * 8) (105 + v) = r at *
    clear hrow
    have Hr := Lib.hid (reads_own ho2)
    generalize hN : r.length = N at *
    have HN := Lib.hid hN
    clear hN
    rcases ho2.2 with ⟨rfl, h0⟩ | ⟨g, cap, cur, rfl, _⟩
    · omega
    obtain ⟨M', rfl⟩ : ∃ m, N = m + 2 := ⟨N - 2, by omega⟩
    have c0 : w2.cell? ⟨g, 0, none⟩ = some (.int .i64 64) := by
      rw [own_int ho2 0 (by omega)]; have := Hok.out.head; unfold M.at_ at this; rw [this]
    have c1 : w2.cell? ⟨g, M' + 1, none⟩ = some (.int .i64 (512 + u * 8)) := by
      rw [own_int ho2 (M' + 1) (by omega)]; have := Hok.out.last; rw [HN.out] at this; unfold M.at_ at this; rw [← this]; rfl
    go_wp2_with (fail)
    go_loopw [10] (fun i wr => ∃ k : Nat, k ≤ M' + 1 ∧ i = .int .i64 ((k : Int) + 1) ∧ ∃ q, wr = w2.drewN q) (fun i _ => M' + 3 - (intOf i).toNat)
    case atStart => exact ⟨0, by omega, rfl, 0, rfl⟩
    case round =>
      obtain ⟨k, hk, rfl, q, hwr⟩ := hrel
      have hbw : Below w2.heap.size w2 wr := by rw [hwr]; exact below_drewN (Below.refl _ _) _
      have Hwr := Lib.hid hwr
      clear hwr
      have HR := Lib.hid (Hr.out.below hbw)
      have how := own_below ho2 hbw
      have hrl : r.length ≤ maxLen := by have := HN.out; unfold maxLen; omega
      by_cases hlt : k ≤ M'
      · have hl := HN.out
        have c1 := own_int how k (by omega)
        have c2 := own_int how (k + 1) (by omega)
        have hs := Hok.out.rise k (by omega)
        have hm := Hok.out.mod (k + 1) (by omega)
        have b4 := Hok.out.low (k + 1) (by omega)
        have hpg := per_ge Hok.out (k + 1) (by omega) (by omega)
        have hhalf : k < M' → r[k + 1]?.getD 0 ≤ (512 + u * 8) / 2 := fun h => Hok.out.half (k + 1) (by omega)
        unfold M.at_ at hs hm b4
        rw [show ((k + 1 : Nat) : Int) = (k : Int) + 1 from by omega] at hpg
        generalize r[k]?.getD 0 = x at *
        generalize r[k + 1]?.getD 0 = y at *
        have hm' : (y % 8 != 0) = false := by simp [hm]
        have hm2 : (y.tmod 8 != 0) = false := by rw [Int.tmod_eq_emod_of_nonneg (by omega)]; exact hm'
        have hle : decide (y ≤ x) = false := by simp; omega
        have hpl : decide (per r ((k : Int) + 1) (512 + u * 8) < 1) = false := by simp; omega
        have q13 : (512 + u * 8).tdiv 2 = (512 + u * 8) / 2 := Int.tdiv_eq_ediv_of_nonneg (by omega)
        have q14 : IntKind.i64.wrap ((512 + u * 8) / 2) = (512 + u * 8) / 2 := IntWalk.i64_in _ ⟨by omega, by omega⟩
        clear hm hl
        have q3 : ((k : Int) + 1).toNat = k + 1 := by omega
        have q4 : IntKind.i64.wrap (k : Int) = k := IntWalk.i64_in _ ⟨by omega, by omega⟩
        have q5 : (0 : Int) ≤ (k : Int) + 1 := by omega
        have q6 : (k : Int) + 1 < (M' : Int) + 2 := by omega
        have q7 : (k : Int) < (M' : Int) + 2 := by omega
        have q8 : IntKind.i64.wrap ((M' : Int) + 2 - 1) = (M' : Int) + 1 := by rw [show (M' : Int) + 2 - 1 = (M' : Int) + 1 by omega]; exact IntWalk.i64_in _ ⟨by omega, by omega⟩
        have q9 : IntKind.i64.wrap ((M' : Int) + 1) = (M' : Int) + 1 := IntWalk.i64_in _ ⟨by omega, by omega⟩
        by_cases hkm : k < M'
        · have hh := hhalf hkm
          have q10 : decide ((k : Int) + 1 < (M' : Int) + 1) = true := by simp; omega
          have q11 : decide ((k : Int) < (M' : Int)) = true := by simp; omega
          have q12 : decide ((512 + u * 8) / 2 < y) = false := by simp; omega
          clear hhalf
          go_wp2_with (fail)
          go_quiet ((go_at_call 14; exact Calls.quiet_of (per_any r _ _ _ _ (HR.out.below (below_drewN (Below.refl _ _) _)) hrl (by omega))))
          clear q3 q4 q5 q6 q7 q8 q9 q10 q11 q12 q13 q14
          go_wp2_with (fail)
          go_roundw
          case rel => exact ⟨k + 1, by omega, by go_num, q + nq, by rw [Hwr.out]; simp⟩
          case measure => simp [intOf]; omega
        · obtain rfl : k = M' := by omega
          clear hhalf
          go_wp2_with (fail)
          go_quiet ((go_at_call 14; exact Calls.quiet_of (per_any r _ _ _ _ (HR.out.below (below_drewN (Below.refl _ _) _)) hrl (by omega))))
          clear q3 q4 q5 q6 q7 q8 q9 q13 q14
          go_wp2_with (fail)
          go_roundw
          case rel => exact ⟨k + 1, by omega, by go_num, q + nq, by rw [Hwr.out]; simp⟩
          case measure => simp [intOf]; omega
      · have hbr : Below w.heap.size w wr := by
          have hs2 := hb2.size
          exact (hb1.trans (hb2.mono hb1.size)).trans (hbw.mono (by have := hb1.size; omega))
        go_wp2_with (fail)
        refine (class_any r n _ _ HR.out hrl).mono ?_
        rintro e w3 ⟨rfl, hb3⟩
        have how3 := own_below how hb3
        rcases cls_rise Hok.out n with ⟨hpn, hc⟩ | ⟨hpn, m, hm, hc, hm1, hm2⟩
        · rw [hc]
          clear hc
          go_wp2_with (fail)
          go_ret
          exact ⟨rfl, hbr.trans (hb3.mono hbr.size)⟩
        · rw [hc]
          have hl := HN.out
          have hml : m < M' + 2 := by omega
          have c3 := own_int how3 m (by omega)
          generalize r[m]?.getD 0 = x at *
          clear hc hl hm
          rcases hm2 with rfl | ⟨m', rfl, hm3⟩
          · go_wp2_with (fail)
            go_ret
            exact ⟨rfl, hbr.trans (hb3.mono hbr.size)⟩
          · have c4 := own_int how3 m' (by omega)
            generalize r[m']?.getD 0 = y at *
            go_wp2_with (fail)
            go_ret
            exact ⟨rfl, hbr.trans (hb3.mono hbr.size)⟩
end Go.Proofs.Ytjebidphafaaeaa
