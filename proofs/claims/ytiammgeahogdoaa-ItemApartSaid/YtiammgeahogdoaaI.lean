/- ItemApart's walk. -/
import Derived.Test.YtiammgeahogdoaaJ
namespace Go.Proofs.Ytiammgeahogdoaa
open Go.RowKit Go.PlainAid
set_option linter.unusedVariables false
set_option linter.unusedSimpArgs false

set_option maxHeartbeats 4000000 in
theorem apart_walk (k v : ByteArray) (fl ex ca la : Int) (st wo : Bool) (k' v' : ByteArray) (fl' ex' ca' la' : Int) (st' wo' : Bool) (w : World) (hk : k.size ≤ maxLen) (hv : v.size ≤ maxLen) (hf0 : 0 ≤ fl) (hf1 : fl < 4294967296) (hx1 : ex ≤ 9223372036854775807) (hc0 : 0 ≤ ca) (hc1 : ca ≤ 18446744073709551615) (hl1 : la ≤ 9223372036854775807)
    (hk' : k'.size ≤ maxLen) (hv' : v'.size ≤ maxLen) (hf0' : 0 ≤ fl') (hf1' : fl' < 4294967296) (hx1' : ex' ≤ 9223372036854775807) (hc0' : 0 ≤ ca') (hc1' : ca' ≤ 18446744073709551615) (hl1' : la' ≤ 9223372036854775807) :
    Calls Try.prog 4 #[.agg #[.string k, .int .u32 fl, .string v, .int .i64 ex, .int .u64 ca, .int .i64 la, .bool st, .bool wo], .agg #[.string k', .int .u32 fl', .string v', .int .i64 ex', .int .u64 ca', .int .i64 la', .bool st', .bool wo']] w fun e w' => e = .returned (.bool true) ∧ Below w.heap.size w w' := by
  have Henc := Lib.hid (fun W => encode_any2 k v fl ex ca la st wo W hk hv hf0 hf1 hx1 hc0 hc1 hl1)
  have Henc' := Lib.hid (fun W => encode_any2 k' v' fl' ex' ca' la' st' wo' W hk' hv' hf0' hf1' hx1' hc0' hc1' hl1')
  have hbox0 := box_new w k v fl ex ca la st wo
  have hbox0' := box_new (w.alloc (.cells #[.string k, .int .u32 fl, .string v, .int .i64 ex, .int .u64 ca, .int .i64 la, .bool st, .bool wo] 25)) k' v' fl' ex' ca' la' st' wo'
  have Hbox0 := Lib.hid (hbox0.below (B := w.heap.size + 1) ((Below.refl _ _).alloc (by simp) (.cells #[.string k', .int .u32 fl', .string v', .int .i64 ex', .int .u64 ca', .int .i64 la', .bool st', .bool wo'] 25)) (by omega))
  have Hbox0' := Lib.hid hbox0'
  clear hbox0 hbox0'
  go_enter Try.func4, Try.ntmps4
  go_wp2_with (fail)
  refine (shown_any _).mono ?_
  rintro e w1 ⟨rfl, hb1⟩
  have hbox1 := Hbox0.out.below hb1 (by simp; omega)
  have hbox1' := Hbox0'.out.below hb1 (by simp)
  rw [World.size_alloc] at hbox1'
  have hbw1 : Below w.heap.size w w1 := (((Below.refl _ _).alloc (Nat.le_refl _) _).alloc (by simp) _).trans (hb1.mono (by simp; omega))
  clear hb1
  obtain ⟨x0, x1, x2, x3, x4, x5, x6, x7, hgl⟩ := id hbox1
  obtain ⟨y0, y1, y2, y3, y4, y5, y6, y7, hgl'⟩ := id hbox1'
  go_wp2_with (fail)
  refine (Henc.out _).mono ?_
  rintro e w2 ⟨u, rfl, ho2, hb2⟩
  rw [show (if rightB k v ex la = true then (0 : Int) else 1) = errI k v ex la from rfl]
  have hbox2 := hbox1.below hb2 hgl
  have hbox2' := hbox1'.below hb2 hgl'
  have hbw2 := hbw1.trans (hb2.mono (Nat.le_of_lt hgl))
  have hru := rb_own ho2
  clear x0 x1 x2 x3 x4 x5 x6 x7 y0 y1 y2 y3 y4 y5 y6 y7 ho2 hb2 hbox1 hbox1' hbw1 hgl hgl'
  obtain ⟨x0, x1, x2, x3, x4, x5, x6, x7, hgl⟩ := id hbox2
  obtain ⟨y0, y1, y2, y3, y4, y5, y6, y7, hgl'⟩ := id hbox2'
  obtain ⟨L, hL⟩ : ∃ L, L = encR k v fl ex ca la st wo := ⟨_, rfl⟩
  rw [← hL] at hru
  have HL := Lib.hid hL
  have Hru := Lib.hid hru
  clear hL hru
  go_wp2_with (fail)
  refine (Henc'.out _).mono ?_
  rintro e w3 ⟨u', rfl, ho3, hb3⟩
  rw [show (if rightB k' v' ex' la' = true then (0 : Int) else 1) = errI k' v' ex' la' from rfl]
  have hbox3 := hbox2.below hb3 hgl
  have hbox3' := hbox2'.below hb3 hgl'
  have hbw3 := hbw2.trans (hb3.mono (Nat.le_of_lt hgl))
  have hru3 := Hru.out.below hb3
  have hru3' := rb_own ho3
  clear x0 x1 x2 x3 x4 x5 x6 x7 y0 y1 y2 y3 y4 y5 y6 y7 ho3 hb3 hbox2 hbox2' hbw2 hgl hgl' Hru
  obtain ⟨x0, x1, x2, x3, x4, x5, x6, x7, hgl⟩ := id hbox3
  obtain ⟨y0, y1, y2, y3, y4, y5, y6, y7, hgl'⟩ := id hbox3'
  obtain ⟨L', hL'⟩ : ∃ L, L = encR k' v' fl' ex' ca' la' st' wo' := ⟨_, rfl⟩
  rw [← hL'] at hru3'
  have HL' := Lib.hid hL'
  clear hL'
  have hcv := fun n => conv_rb (w := w3.drewN n) (show RB (w3.drewN n) u L from hru3)
  have hcv' := fun n => conv_rb (w := w3.drewN n) (show RB (w3.drewN n) u' L' from hru3')
  clear hru3 hru3'
  cases hr : rightB k v ex la
  · have e1 : errI k v ex la = 1 := by unfold errI; rw [hr]; rfl
    rw [e1]
    clear e1 hr
    go_wp2_with (fail)
    go_ret
    exact ⟨rfl, hbw3⟩
  have e1 : errI k v ex la = 0 := by unfold errI; rw [hr]; rfl
  rw [e1]
  have Hr := Lib.hid hr
  clear e1 hr
  cases hr' : rightB k' v' ex' la'
  · have e1 : errI k' v' ex' la' = 1 := by unfold errI; rw [hr']; rfl
    rw [e1]
    clear e1 hr'
    go_wp2_with (fail)
    go_ret
    exact ⟨rfl, hbw3⟩
  have e1 : errI k' v' ex' la' = 0 := by unfold errI; rw [hr']; rfl
  rw [e1]
  have Hr' := Lib.hid hr'
  clear e1 hr'
  obtain ⟨q1, q2, q3, q4, q5⟩ := right_facts Hr.out
  obtain ⟨q1', q2', q3', q4', q5'⟩ := right_facts Hr'.out
  have eL : L = encL k v fl ex ca la st wo := by rw [HL.out]; unfold encR; rw [if_pos Hr.out]
  have eL' : L' = encL k' v' fl' ex' ca' la' st' wo' := by rw [HL'.out]; unfold encR; rw [if_pos Hr'.out]
  have hinj : (strOfNums L).toList = (strOfNums L').toList → k = k' ∧ fl = fl' ∧ v = v' ∧ ex = ex' ∧ ca = ca' ∧ la = la' ∧ st = st' ∧ wo = wo' := by
    intro h
    have h1 := (toList_inj _ _).1 h
    have h2 := str_inj (by rw [eL]; exact encL_bytes _ _ _ _ _ _ _ _) (by rw [eL']; exact encL_bytes _ _ _ _ _ _ _ _) h1
    rw [eL, eL'] at h2
    exact encL_inj (by omega) (by omega) (by omega) (by omega) (by omega) (by omega) (by omega) (by omega) (by omega) (by omega) (by omega) (by omega) (by omega) (by omega) (by omega) (by omega) (by omega) (by omega) (by omega) (by omega) h2
  have hsame : (k = k' ∧ fl = fl' ∧ v = v' ∧ ex = ex' ∧ ca = ca' ∧ la = la' ∧ st = st' ∧ wo = wo') → L = L' := by
    rintro ⟨rfl, rfl, rfl, rfl, rfl, rfl, rfl, rfl⟩
    rw [eL, eL']
  have hne : ¬ (k = k' ∧ fl = fl' ∧ v = v' ∧ ex = ex' ∧ ca = ca' ∧ la = la' ∧ st = st' ∧ wo = wo') → ((strOfNums L).toList == (strOfNums L').toList) = false := by
    intro h; rw [beq_eq_false_iff_ne]; exact fun he => h (hinj he)
  have hsm : (k = k' ∧ fl = fl' ∧ v = v' ∧ ex = ex' ∧ ca = ca' ∧ la = la' ∧ st = st' ∧ wo = wo') → ((strOfNums L).toList == (strOfNums L').toList) = true := by
    intro h; rw [hsame h]; simp
  have Hne := Lib.hid hne
  have Hsm := Lib.hid hsm
  clear hne hsm hsame hinj eL eL'
  by_cases c0 : k = k'
  rotate_left 1
  · have hs := Hne.out (fun h => c0 h.1)
    have c0' : ¬ k.toList = k'.toList := fun h => c0 ((toList_inj _ _).1 h)
    clear c0
    go_wp2_with (fail)
    go_quiet (fail)
    go_wp2_with (fail)
    go_ret
    exact ⟨rfl, below_drewN hbw3 _⟩
  subst c0
  by_cases c1 : fl = fl'
  rotate_left 1
  · have hs := Hne.out (fun h => c1 h.2.1)
    go_wp2_with (fail)
    go_quiet (fail)
    go_wp2_with (fail)
    go_ret
    exact ⟨rfl, below_drewN hbw3 _⟩
  subst c1
  by_cases c2 : v = v'
  rotate_left 1
  · have hs := Hne.out (fun h => c2 h.2.2.1)
    have c2' : ¬ v.toList = v'.toList := fun h => c2 ((toList_inj _ _).1 h)
    clear c2
    go_wp2_with (fail)
    go_quiet (fail)
    go_wp2_with (fail)
    go_ret
    exact ⟨rfl, below_drewN hbw3 _⟩
  subst c2
  by_cases c3 : ex = ex'
  rotate_left 1
  · have hs := Hne.out (fun h => c3 h.2.2.2.1)
    go_wp2_with (fail)
    go_quiet (fail)
    go_wp2_with (fail)
    go_ret
    exact ⟨rfl, below_drewN hbw3 _⟩
  subst c3
  by_cases c4 : ca = ca'
  rotate_left 1
  · have hs := Hne.out (fun h => c4 h.2.2.2.2.1)
    go_wp2_with (fail)
    go_quiet (fail)
    go_wp2_with (fail)
    go_ret
    exact ⟨rfl, below_drewN hbw3 _⟩
  subst c4
  by_cases c5 : la = la'
  rotate_left 1
  · have hs := Hne.out (fun h => c5 h.2.2.2.2.2.1)
    go_wp2_with (fail)
    go_quiet (fail)
    go_wp2_with (fail)
    go_ret
    exact ⟨rfl, below_drewN hbw3 _⟩
  subst c5
  by_cases c6 : st = st'
  rotate_left 1
  · have hs := Hne.out (fun h => c6 h.2.2.2.2.2.2.1)
    go_wp2_with (fail)
    go_quiet (fail)
    go_wp2_with (fail)
    go_ret
    exact ⟨rfl, below_drewN hbw3 _⟩
  subst c6
  by_cases c7 : wo = wo'
  rotate_left 1
  · have hs := Hne.out (fun h => c7 h.2.2.2.2.2.2.2)
    go_wp2_with (fail)
    go_quiet (fail)
    go_wp2_with (fail)
    go_ret
    exact ⟨rfl, below_drewN hbw3 _⟩
  subst c7
  have hs := Hsm.out ⟨rfl, rfl, rfl, rfl, rfl, rfl, rfl, rfl⟩
  go_wp2_with (fail)
  go_quiet (fail)
  go_wp2_with (fail)
  go_ret
  exact ⟨rfl, below_drewN hbw3 _⟩
end Go.Proofs.Ytiammgeahogdoaa
