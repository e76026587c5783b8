/- the law's own small case, and the laws' walks. -/
import Derived.Test.YtjebidphafaaeaaC
namespace Go.Proofs.Ytjebidphafaaeaa
open Go.RowKit
set_option linter.unusedVariables false

theorem new_any (p f : Int) (w : World) : Calls Try.prog 9 #[.int .i64 p, .int .i64 f] w (NewPost p f w) := by
  by_cases h : M.Bad p f
  · exact new_bad p f w h
  · exact new_good p f w h
theorem refNew_any (p f : Int) (w : World) (hp1 : -9223372036854775808 ≤ p) (hp2 : p ≤ 9223372036854775807) : Calls Try.prog 10 #[.int .i64 p, .int .i64 f] w (NewPost p f w) := by
  by_cases h : M.Bad p f
  · exact refNew_bad p f w h hp1 hp2
  · exact refNew_good p f w h

theorem reads_own {w : World} {base n : Nat} {v : Value} {xs : List Int} (h : w.ownsRow base 3 1 v n (xs.map (.int .i64))) : Reads w v xs := by
  have hn : xs.length = n := by simpa using h.1
  subst hn
  rcases h.2 with ⟨rfl, h0⟩ | ⟨g, cap, cur, rfl, _⟩
  · refine ⟨none, 0, by rw [h0], fun hne => absurd (List.eq_nil_of_length_eq_zero h0) hne⟩
  · refine ⟨some ⟨g, 0, none⟩, cap, rfl, fun _ => ⟨g, 0, rfl, fun i hi => ?_⟩⟩
    have := h.cellAt i (by omega)
    rw [Nat.zero_add, this]
    simp [hi]

theorem Reads.below {w w' : World} {v : Value} {xs : List Int} (h : Reads w v xs) (hb : Below w.heap.size w w') : Reads w' v xs := by
  obtain ⟨a, cap, rfl, hc⟩ := h
  refine ⟨a, cap, rfl, fun hne => ?_⟩
  obtain ⟨b, o, rfl, hcc⟩ := hc hne
  refine ⟨b, o, rfl, fun i hi => ?_⟩
  have h1 := hcc i hi
  rw [hb.cell (World.block_lt_of_cell? _ _ h1)]
  exact h1

theorem below_drewN {B : Nat} {a w : World} (h : Below B a w) (n : Nat) : Below B a (w.drewN n) := ⟨h.os, h.tape, h.output, h.size, h.block⟩

theorem own_below {w w' : World} {base n : Nat} {e : TypeId} {size : Nat} {v : Value} {xs : List Value} (h : w.ownsRow base e size v n xs) (hb : Below w.heap.size w w') : w'.ownsRow base e size v n xs :=
  h.kept (row := none) ⟨hb.os, hb.tape, hb.output, hb.size, fun i hi _ => hb.block i hi⟩ (by cases hv : v.ownBlock <;> simp)

theorem own_drewN {w : World} {base n q : Nat} {e : TypeId} {size : Nat} {v : Value} {xs : List Value} (h : w.ownsRow base e size v n xs) : (w.drewN q).ownsRow base e size v n xs := h

theorem own_int {w : World} {base g N cap : Nat} {r : List Int} (h : w.ownsRow base 3 1 (.slice (some ⟨g, 0, none⟩) N cap) N (r.map (.int .i64))) (i : Nat) (hi : i < N) :
    w.cell? ⟨g, i, none⟩ = some (.int .i64 (r[i]?.getD 0)) := by
  have hl : r.length = N := by simpa using h.1
  rw [h.cellAt i (by omega)]
  simp [show i < r.length by omega]

theorem row_shown : M.row 512 200 = [64, 128, 256, 512] := by decide +kernel

set_option maxHeartbeats 400000 in
theorem shown_any (w : World) : Calls Try.prog 8 #[] w fun e w' => e = .returned (.bool true) ∧ Below w.heap.size w w' := by
  have he : M.errno 512 200 = 0 := by decide
  go_enter Try.func8, Try.ntmps8
  go_wp2_with (fail)
  refine (new_any 512 200 w).mono ?_
  rintro e w1 ⟨v, rfl, hown, hbel⟩
  rw [row_shown] at hown
  rw [he]
  have hr := reads_own hown
  have hc3 := hr
  rcases hown.2 with ⟨rfl, h0⟩ | ⟨g, cap, cur, rfl, _⟩
  · simp at h0
  · have h3 := hown.cellAt 3 (by decide)
    clear hc3
    simp at h3
    go_wp2_with (fail)
    refine (class_any [64, 128, 256, 512] 65 _ _ hr (by unfold maxLen; simp)).mono ?_
    rintro e w2 ⟨rfl, hbel2⟩
    have hr2 := hr.below hbel2
    rw [show cls [64, 128, 256, 512] 65 = 1 by decide]
    go_wp2_with (fail)
    refine (per_any [64, 128, 256, 512] 0 512 _ _ hr2 (by unfold maxLen; simp) (by omega)).mono ?_
    rintro e w3 ⟨rfl, q, rfl⟩
    rw [show per [64, 128, 256, 512] 0 512 = 8 by decide]
    go_wp2_with (fail)
    go_ret
    exact ⟨rfl, below_drewN (hbel.trans (hbel2.mono hbel.size)) _⟩

/-- a raw number brought to be 0 or more, and below m: as the walk spells it -/
theorem modpos (b m : Int) (hm : 0 < m) : ∃ u, 0 ≤ u ∧ u < m ∧ (b < 0 → (b + 1).tmod m = -u) ∧ (¬ b < 0 → b % m = u) := by
  by_cases h : b < 0
  · have e : (b + 1).tmod m = -((-(b + 1)) % m) := by
      have h1 := Int.neg_tmod (a := -(b + 1)) (b := m)
      rw [Int.neg_neg] at h1
      rw [h1, Int.tmod_eq_emod_of_nonneg (by omega)]
    exact ⟨_, Int.emod_nonneg _ (by omega), Int.emod_lt_of_pos _ hm, fun _ => e, fun hn => absurd h hn⟩
  · exact ⟨_, Int.emod_nonneg _ (by omega), Int.emod_lt_of_pos _ hm, fun hn => absurd hn h, fun _ => rfl⟩

theorem reads_one (w : World) (x : Int) (g : Nat) (hg : g = w.heap.size) : Reads (w.alloc (.cells #[.int .i64 x] 3)) (.slice (some ⟨g, 0, none⟩) 1 1) [x] := by
  subst hg
  refine ⟨_, 1, rfl, fun _ => ⟨w.heap.size, 0, rfl, fun i hi => ?_⟩⟩
  obtain rfl : i = 0 := by simpa using hi
  simp [go_sem]

/-- what a page and a size come to -/
theorem hold_facts (s p : Int) (h1 : 1 ≤ s) (h2 : s ≤ 70000) (h3 : 1 ≤ p) (h4 : p ≤ 70000) : ∃ n, per [s] 0 p = n ∧ 0 ≤ n ∧ n ≤ 70000 ∧ 0 ≤ n * s ∧ n * s ≤ p ∧ p < (n + 1) * s ∧ (n + 1) * s ≤ 140000 := by
  have e : per [s] 0 p = p / s := by unfold per; rw [if_neg (by simp; omega)]; simp
  have q0 : 0 ≤ p / s := Int.ediv_nonneg (by omega) (by omega)
  have q1 : p / s ≤ p := Int.ediv_le_self s (by omega)
  have q2 : p / s * s ≤ p := Int.ediv_mul_le p (by omega)
  have q3 : p < (p / s + 1) * s := Int.lt_ediv_add_one_mul_self p (by omega)
  have q4 : (p / s + 1) * s = p / s * s + s := by rw [Int.add_mul, Int.one_mul]
  exact ⟨_, e, q0, by omega, Int.mul_nonneg q0 (by omega), q2, q3, by omega⟩

theorem per_one (s p : Int) : per [s] 1 p = 0 := by unfold per; rw [if_pos (.inr (.inl (by simp)))]

set_option maxHeartbeats 400000 in
theorem hold_walk (a b : Int) (w : World) (ha : (Lit.int .i64 a).wf = true) (hb : (Lit.int .i64 b).wf = true) :
    Calls Try.prog 7 #[.int .i64 a, .int .i64 b] w fun e w' => e = .returned (.bool true) ∧ Below w.heap.size w w' := by
  obtain ⟨a1, a2⟩ : -9223372036854775808 ≤ a ∧ a ≤ 9223372036854775807 := by simpa [Lit.wf, IntKind.min, IntKind.max, IntKind.signed, IntKind.bits] using ha
  obtain ⟨b1, b2⟩ : -9223372036854775808 ≤ b ∧ b ≤ 9223372036854775807 := by simpa [Lit.wf, IntKind.min, IntKind.max, IntKind.signed, IntKind.bits] using hb
  obtain ⟨u, hu0, hu1, hun, hup⟩ := modpos a 70000 (by omega)
  obtain ⟨v, hv0, hv1, hvn, hvp⟩ := modpos b 70000 (by omega)
  obtain ⟨n, hn, n0, n1, n2, n3, n4, n5⟩ := hold_facts (1 + u) (1 + v) (by omega) (by omega) (by omega) (by omega)
  have Hn := Lib.hid hn
  clear hn
  by_cases ha0 : a < 0 <;> by_cases hb0 : b < 0
  all_goals
    first | have ea := hun ha0 | have ea := hup ha0
    first | have eb := hvn hb0 | have eb := hvp hb0
    clear hun hup hvn hvp
    go_enter Try.func7, Try.ntmps7
    go_wp2_with (go_at_call 8; refine (shown_any _).mono ?_; rintro e w1 ⟨rfl, hbel⟩)
    refine (per_any [1 + u] 0 (1 + v) _ _ (reads_one w1 _ _ rfl) (by unfold maxLen; simp) (by omega)).mono ?_
    rintro e w2 ⟨rfl, q, rfl⟩
    rw [Hn.out]
    go_wp2_with (fail)
    refine (per_any [1 + u] 1 (1 + v) _ _ (reads_one _ _ _ (by simp)) (by unfold maxLen; simp) (by omega)).mono ?_
    rintro e w2 ⟨rfl, q2, rfl⟩
    rw [per_one]
    go_wp2_with (fail)
    go_ret
    have hsz := hbel.size
    exact ⟨rfl, below_drewN ((below_drewN (hbel.alloc hbel.size _) _).alloc (by simp; omega) _) _⟩
end Go.Proofs.Ytjebidphafaaeaa
