/- ArenaFull's walk. -/
import Derived.Test.YtmkfnnhhioeioaaArs
namespace Go.Proofs.Ytmkfnnhhioeioaa
open Go.RowKit Go.PlainAid
set_option linter.unusedVariables false
set_option linter.unusedSimpArgs false

set_option maxHeartbeats 2000000 in
theorem full_walk (a b : Int) (w : World) (ha : (Lit.int .i64 a).wf = true) (hb : (Lit.int .i64 b).wf = true) :
    Calls Try.prog 4 #[.int .i64 a, .int .i64 b] w (BoolPost w) := by
  obtain ⟨a1, a2⟩ := bd_i64 ha
  obtain ⟨b1, b2⟩ := bd_i64 hb
  clear ha hb
  obtain ⟨u, hu0, hu1, hun, hup⟩ := modpos a 100 (by omega)
  obtain ⟨N, hN⟩ := Int.eq_ofNat_of_zero_le (show 0 ≤ 1 + u by omega)
  have hN1 : 1 ≤ N := by omega
  have hN2 : N ≤ 100 := by omega
  obtain ⟨v, hv0, hv1, hvn, hvp⟩ := modpos b (1 + u) (by omega)
  obtain ⟨k, rfl⟩ := Int.eq_ofNat_of_zero_le hv0
  have hkN : k < N := by omega
  have Hvn := Lib.hid hvn
  have Hvp := Lib.hid hvp
  clear hvn hvp
  have HN := Lib.hid hN
  clear hN
  by_cases ha0 : a < 0 <;> by_cases hb0 : b < 0
  all_goals
    first | have ea := hun ha0 | have ea := hup ha0
    clear hun hup
    go_enter Try.func4, Try.ntmps4
    go_wp2_with (fail)
    refine (shown_any _).mono ?_
    rintro e w1 ⟨rfl, hb1⟩
    go_wp2_with (fail)
    rw [HN.out]
    clear ea
    refine (new_yes (N : Int) 512 _ (by unfold okNew; exact decide_eq_true ⟨by omega, by omega, by omega, by omega, by omega⟩)).mono ?_
    rintro e w2 h2
    rcases h2 with ⟨h, _⟩ | ⟨_, g, kk, rfl, hA, hg, hk, hb2⟩
    · exact absurd h (by unfold okNew; simp; omega)
    rw [Int.toNat_natCast, ← AP.full_zero] at hA
    have hb12 := hb1.trans (hb2.mono hb1.size)
    have hk' : w.heap.size ≤ kk := Nat.le_trans hb1.size hk
    clear hb1 hb2 hg hk
    go_wp2_with (fail)
    go_loopw [8] (fun i wr => ∃ j : Nat, j ≤ N ∧ i = .int .i64 j ∧ Ar wr g kk N 512 (.slice none 0 0) (AP.full N j) [] ∧ Below w.heap.size w wr) (fun i _ => N - (intOf i).toNat)
    case atStart => exact ⟨0, by omega, rfl, hA, hb12⟩
    case round =>
      obtain ⟨j, hj, rfl, hAj, hbj⟩ := hrel
      clear hA hb12
      by_cases hlt : j < N
      · have hgr := AP.full_granted (N := N) (j := j + 1) (by omega)
        have Hgr := Lib.hid hgr
        clear hgr
        go_wp2_with (fail)
        refine (grant_at hAj ((j : Int) % 63) (AP.full_grant hlt)).mono ?_
        rintro e w3 ⟨rfl, hA3, hg3⟩
        have hb3 := below_row hbj hg3 (Nat.le_refl _) hk'
        go_wp2_with (go_at_call 13; refine (granted_any hA3).mono ?_; rintro e w' ⟨rfl, rfl⟩; rw [Hgr.out])
        go_roundw
        case rel => exact ⟨j + 1, by omega, by go_num, hA3, hb3⟩
        case measure => simp [intOf]; omega
      · obtain rfl : N = j := by omega
        have ek : Hid ((b < 0 → -(b + 1).tmod (N : Int) = (k : Int)) ∧ (¬ b < 0 → b % (N : Int) = (k : Int))) := by
          have h1 := Hvn.out
          have h2 := Hvp.out
          rw [HN.out] at h1 h2
          exact Lib.hid ⟨fun h => by rw [h1 h]; omega, fun h => h2 (by omega)⟩
        go_wp2_with (fail)
        refine (grant_at hAj 0 AP.full_end).mono ?_
        rintro e w3 ⟨rfl, hA3, hg3⟩
        have hb3 := below_row hbj hg3 (Nat.le_refl _) hk'
        go_wp2_with (fail)
        first | rw [ek.out.1 hb0] | rw [ek.out.2 hb0]
        refine (return_at hA3 (k : Int) (AP.full_back hkN)).mono ?_
        rintro e w4 ⟨rfl, hA4, hg4⟩
        have hb4 := below_row hb3 hg4 (Nat.le_refl _) hk'
        go_wp2_with (fail)
        first | rw [ek.out.1 hb0] | rw [ek.out.2 hb0] | skip
        refine (return_at hA4 (k : Int) (AP.full_back2 hkN)).mono ?_
        rintro e w5 ⟨rfl, hA5, hg5⟩
        have hb5 := below_row hb4 hg5 (Nat.le_refl _) hk'
        go_wp2_with (fail)
        have Hag := Lib.hid (AP.full_again hkN)
        refine (grant_at hA5 7 ⟨Hag.out.1, Hag.out.2.1, rfl⟩).mono ?_
        rintro e w6 ⟨rfl, hA6, hg6⟩
        have hb6 := below_row hb5 hg6 (Nat.le_refl _) hk'
        go_wp2_with (go_at_call 12; refine (owner_any hA6 (k : Int)).mono ?_; rintro e w' ⟨rfl, rfl⟩; rw [Hag.out.2.2])
        go_ret
        exact ⟨rfl, hb6⟩
end Go.Proofs.Ytmkfnnhhioeioaa
