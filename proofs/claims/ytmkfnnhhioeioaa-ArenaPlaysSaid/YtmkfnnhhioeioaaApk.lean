/- ArenaPlays: the walk (printed by wip/gen_plays.py). -/
import Derived.Test.YtmkfnnhhioeioaaApi
import Derived.Deep.RegionHeld3
import Derived.BigQuiet
namespace Go.Proofs.Ytmkfnnhhioeioaa
open Go.RowKit Go.PlainAid
set_option linter.unusedVariables false
set_option linter.unusedSimpArgs false

theorem rg5 {w : World} {b o : Nat} {v0 v1 v2 v3 v4 : Value} (h : w.rangeAt b o [v0, v1, v2, v3, v4]) :
    w.cell? ⟨b, o, none⟩ = some v0 ∧ w.cell? ⟨b, o + 1, none⟩ = some v1 ∧ w.cell? ⟨b, o + 2, none⟩ = some v2 ∧ w.cell? ⟨b, o + 3, none⟩ = some v3 ∧ w.cell? ⟨b, o + 4, none⟩ = some v4 :=
  ⟨h 0 _ rfl, h 1 _ rfl, h 2 _ rfl, h 3 _ rfl, h 4 _ rfl⟩
theorem infoOp : (Try.prog.info? 48).map (·.size) = some 5 := by kernel_rfl
/-- the steps that came in -/
def OpsIn (w : World) (a : Option Addr) (len : Nat) : Prop := ∀ i, i < len → ∃ b o, a = some ⟨b, o, none⟩ ∧ OpAt w b (o + i * 5)

set_option maxRecDepth 100000 in
set_option maxHeartbeats 8000000 in
theorem plays_tt (pages page other : Int) (a0 : Option Addr) (len cap : Nat) (w : World) (hops : OpsIn w a0 len) (hl : len ≤ cap) (hc : cap ≤ maxLen) (ho1 : okNew pages page = true) (ho2 : okNew other 512 = true) :
    Calls Try.prog 6 #[.int .i64 pages, .int .i64 page, .int .i64 other, .slice a0 len cap] w (BoolPost w) := by
  unfold maxLen at hc
  have Hops := Lib.hid hops
  obtain ⟨np, rfl⟩ := Int.eq_ofNat_of_zero_le (show 0 ≤ pages by simp [okNew] at ho1; omega)
  obtain ⟨S, rfl⟩ := Int.eq_ofNat_of_zero_le (show 0 ≤ page by simp [okNew] at ho1; omega)
  obtain ⟨nq, rfl⟩ := Int.eq_ofNat_of_zero_le (show 0 ≤ other by simp [okNew] at ho2; omega)
  clear hops
  go_enter Try.func6, Try.ntmps6
  go_wp2_with (fail)
  refine (shown_any _).mono ?_
  rintro e w1 ⟨rfl, hb1⟩
  have i1 := (Inv.start w).more hb1
  clear hb1
  go_wp2_with (fail)
  refine (new_yes np S _ ho1).mono ?_
  rintro e w2 (⟨h, _⟩ | ⟨_, g, k, rfl, hA, hg, hk, hb2⟩)
  · rw [ho1] at h; cases h
  rw [Int.toNat_natCast] at hA
  go_wp2_with (fail)
  refine (rNew_yes np S _ ho1).mono ?_
  rintro e w3 (⟨h, _⟩ | ⟨_, g', k', ck, r, cr, rfl, hR, hg', hk', hr, hb3⟩)
  · rw [ho1] at h; cases h
  rw [Int.toNat_natCast, Int.toNat_natCast] at hR
  obtain ⟨X1, i3⟩ := i1.first hA hb2 hg hk hR hb3 hg' hk' hr
  obtain ⟨s1, hs1⟩ : ∃ s1 : St, s1 = ⟨g, k, np, S, .slice none 0 0, List.replicate np 0, [], g', k', ck, r, cr, List.replicate np 0, List.replicate (np * S) 0, List.replicate np (.slice none 0 0)⟩ := ⟨_, rfl⟩
  rw [← hs1] at i3
  obtain ⟨e1, e2⟩ : s1.g = g ∧ s1.g' = g' := by rw [hs1]; exact ⟨rfl, rfl⟩
  clear hA hb2 hg hk hR hb3 hg' hk' hr hs1 i1
  go_wp2_with (fail)
  refine (new_yes nq 512 _ ho2).mono ?_
  rintro e w4 (⟨h, _⟩ | ⟨_, gg, kk, rfl, hA, hg, hk, hb2⟩)
  · rw [ho2] at h; cases h
  rw [Int.toNat_natCast] at hA
  go_wp2_with (fail)
  refine (rNew_yes nq 512 _ ho2).mono ?_
  rintro e w5 (⟨h, _⟩ | ⟨_, gg', kk', cck, rr, ccr, rfl, hR, hg', hk', hr, hb3⟩)
  · rw [ho2] at h; cases h
  rw [Int.toNat_natCast] at hR
  obtain ⟨X2, i5⟩ := i3.swap.first (S := 512) hA hb2 hg hk hR hb3 hg' hk' hr
  obtain ⟨s2, hs2⟩ : ∃ s2 : St, s2 = ⟨gg, kk, nq, 512, .slice none 0 0, List.replicate nq 0, [], gg', kk', cck, rr, ccr, List.replicate nq 0, List.replicate (nq * 512) 0, List.replicate nq (.slice none 0 0)⟩ := ⟨_, rfl⟩
  rw [← hs2] at i5
  obtain ⟨e3, e4⟩ : s2.g = gg ∧ s2.g' = gg' := by rw [hs2]; exact ⟨rfl, rfl⟩
  have I5 := Lib.hid i5.swap
  clear hA hb2 hg hk hR hb3 hg' hk' hr hs2 i3 i5
  have E12 := Lib.hid (And.intro e1 e2)
  clear e1 e2
  have E34 := Lib.hid (And.intro e3 e4)
  clear e3 e4
  go_wp2_with (fail)
  go_loopw [18, 19] (fun i ok wr => ∃ (j : Nat) (Y1 Y2 : Nat → Prop) (t1 : St) (t2 : St), j ≤ len ∧ j ≤ 200 ∧ i = .int .i64 j ∧ Hid (Inv w wr Y1 Y2 (some t1) (some t2)) ∧ Hid (t1.g = g ∧ t1.g' = g') ∧ Hid (t2.g = gg ∧ t2.g' = gg')) (fun i _ _ => len - (intOf i).toNat)
  case atStart => exact ⟨0, _, _, s1, s2, Nat.zero_le _, Nat.zero_le _, rfl, I5, E12, E34⟩
  case round =>
    obtain ⟨j, Y1, Y2, t1, t2, hj, hj2, rfl, hI, h12, h34⟩ := hrel
    by_cases hlt : j < len
    · by_cases h200 : j < 200
      · by_cases h3 : j % 3 = 2
        · have em : (j : Int) % 3 = 2 := by omega
          obtain ⟨b, o, rfl, K, A, B, C, va, n, vc, l, hrg, hrb, hll, hcc, hby, hC⟩ := Hops.out j hlt
          have Hrg0 := Lib.hid hrg
          have Hrg := Lib.hid (rangeAt_below hrg (by simp) hI.out.bel)
          have Hrb := Lib.hid hrb
          have Hx := Lib.hid (And.intro hll (And.intro hcc (And.intro hby hC)))
          clear hrg hrb hll hcc hby hC
          have hdo := do_two hI.out K A B C va n vc l Hrb.out Hx.out.1 Hx.out.2.1 Hx.out.2.2.1 Hx.out.2.2.2
          rw [h34.out.1, h34.out.2] at hdo
          have Hdo := Lib.hid hdo
          clear h3 hdo
          go_wp2_with (refine wpList_load_mid rfl 48 _ rfl b (o + j * 5) rfl [.int .i64 K, .int .i64 A, .int .i64 B, .int .i64 C, .slice va n vc] _ Hrg.out Try.underlying48 rfl infoOp ?_)
          refine Hdo.out.mono ?_
          rintro e w6 ⟨rfl, Y3, t3, hI3, u1, u2, _⟩
          obtain ⟨p3, sm3⟩ := hI3.two t3 rfl
          have hta := tell_a p3
          have htr := tell_r p3 sm3
          rw [u1] at hta
          rw [u2] at htr
          have Hta := Lib.hid hta
          have Htr := Lib.hid htr
          have HI3 := Lib.hid hI3
          have Hu := Lib.hid (show t3.g = gg ∧ t3.g' = gg' from ⟨u1, u2⟩)
          clear p3 sm3 hta htr hI3 u1 u2
          go_wp2_with (first
            | (go_at_call 13; refine Hta.out.mono ?_; rintro e w' ⟨rfl, rfl⟩)
            | (go_at_call 19; refine Htr.out.mono ?_; rintro e w' ⟨rfl, rfl⟩))
          go_roundw
          case rel => exact ⟨j + 1, Y1, Y3, t1, t3, by omega, by omega, by go_num, HI3, h12, Hu⟩
          case measure => simp [intOf]; omega
        · have em : ¬ (j : Int) % 3 = 2 := by omega
          obtain ⟨b, o, rfl, K, A, B, C, va, n, vc, l, hrg, hrb, hll, hcc, hby, hC⟩ := Hops.out j hlt
          have Hrg0 := Lib.hid hrg
          have Hrg := Lib.hid (rangeAt_below hrg (by simp) hI.out.bel)
          have Hrb := Lib.hid hrb
          have Hx := Lib.hid (And.intro hll (And.intro hcc (And.intro hby hC)))
          clear hrg hrb hll hcc hby hC
          obtain ⟨p1, sm1⟩ := hI.out.one t1 rfl
          have hdo := do_one hI.out.drew K A B C va n vc l Hrb.out Hx.out.1 Hx.out.2.1 Hx.out.2.2.1 Hx.out.2.2.2
          rw [h12.out.1, h12.out.2] at hdo
          have Hdo := Lib.hid hdo
          have hc0 := p1.rf.c0
          rw [h12.out.2] at hc0
          have hrg0 := rg5 Hrg.out
          clear h3 p1 sm1 hdo
          go_wp2_with (fail)
          go_region_held3 (fun w' => (w'.cell? ⟨b, o + j * 5, none⟩ = some (.int .i64 K) ∧ w'.cell? ⟨b, o + j * 5 + 1, none⟩ = some (.int .i64 A) ∧ w'.cell? ⟨b, o + j * 5 + 2, none⟩ = some (.int .i64 B) ∧ w'.cell? ⟨b, o + j * 5 + 3, none⟩ = some (.int .i64 C) ∧ w'.cell? ⟨b, o + j * 5 + 4, none⟩ = some (.slice va n vc)) ∧ w'.cell? ⟨g', 0, none⟩ = some (.int .i64 t1.S)) (first | exact ⟨hrg0, hc0⟩ | exact ⟨hrg3, hc3⟩) (first
            | (go_at_call 18; refine Hdo.out.mono ?_; rintro e w6 ⟨rfl, Y3, t3, hI3, u1, u2, u3⟩; obtain ⟨p3, sm3⟩ := hI3.one t3 rfl; have hrg3 := rg5 (rangeAt_below Hrg0.out (by simp) hI3.bel); have hc3 := p3.rf.c0; rw [u2, u3] at hc3; have hta := tell_a p3; have htr := tell_r p3 sm3; have htp := tell_p p3; rw [u1] at hta htp; rw [u2] at htr; rw [u3] at htp; have Hta := Lib.hid hta; have Htr := Lib.hid htr; have Htp := Lib.hid htp; have HI3 := Lib.hid hI3; have Hu := Lib.hid (show t3.g = g ∧ t3.g' = g' from ⟨u1, u2⟩); clear p3 sm3 hta htr htp hI3 u1 u2 u3)
            | (go_at_call 13; refine Hta.out.mono ?_; rintro e w' ⟨rfl, rfl⟩)
            | (go_at_call 19; refine Htr.out.mono ?_; rintro e w' ⟨rfl, rfl⟩)
            | (go_at_call 20; refine Htp.out.mono ?_; rintro e w' ⟨rfl, rfl⟩))
          go_wp2_with (fail)
          go_roundw
          case rel => exact ⟨j + 1, Y3, Y2, t3, t2, by omega, by omega, by go_num, HI3, Hu, h34⟩
          case measure => simp [intOf]; omega
      · have h2 : ¬ (j : Int) < 200 := by omega
        go_wp2_with (fail)
        go_ret
        exact ⟨rfl, hI.out.bel⟩
    · go_wp2_with (fail)
      go_ret
      exact ⟨rfl, hI.out.bel⟩

set_option maxRecDepth 100000 in
set_option maxHeartbeats 8000000 in
theorem plays_tf (pages page other : Int) (a0 : Option Addr) (len cap : Nat) (w : World) (hops : OpsIn w a0 len) (hl : len ≤ cap) (hc : cap ≤ maxLen) (ho1 : okNew pages page = true) (ho2 : okNew other 512 = false) :
    Calls Try.prog 6 #[.int .i64 pages, .int .i64 page, .int .i64 other, .slice a0 len cap] w (BoolPost w) := by
  unfold maxLen at hc
  have Hops := Lib.hid hops
  obtain ⟨np, rfl⟩ := Int.eq_ofNat_of_zero_le (show 0 ≤ pages by simp [okNew] at ho1; omega)
  obtain ⟨S, rfl⟩ := Int.eq_ofNat_of_zero_le (show 0 ≤ page by simp [okNew] at ho1; omega)
  clear hops
  go_enter Try.func6, Try.ntmps6
  go_wp2_with (fail)
  refine (shown_any _).mono ?_
  rintro e w1 ⟨rfl, hb1⟩
  have i1 := (Inv.start w).more hb1
  clear hb1
  go_wp2_with (fail)
  refine (new_yes np S _ ho1).mono ?_
  rintro e w2 (⟨h, _⟩ | ⟨_, g, k, rfl, hA, hg, hk, hb2⟩)
  · rw [ho1] at h; cases h
  rw [Int.toNat_natCast] at hA
  go_wp2_with (fail)
  refine (rNew_yes np S _ ho1).mono ?_
  rintro e w3 (⟨h, _⟩ | ⟨_, g', k', ck, r, cr, rfl, hR, hg', hk', hr, hb3⟩)
  · rw [ho1] at h; cases h
  rw [Int.toNat_natCast, Int.toNat_natCast] at hR
  obtain ⟨X1, i3⟩ := i1.first hA hb2 hg hk hR hb3 hg' hk' hr
  obtain ⟨s1, hs1⟩ : ∃ s1 : St, s1 = ⟨g, k, np, S, .slice none 0 0, List.replicate np 0, [], g', k', ck, r, cr, List.replicate np 0, List.replicate (np * S) 0, List.replicate np (.slice none 0 0)⟩ := ⟨_, rfl⟩
  rw [← hs1] at i3
  obtain ⟨e1, e2⟩ : s1.g = g ∧ s1.g' = g' := by rw [hs1]; exact ⟨rfl, rfl⟩
  clear hA hb2 hg hk hR hb3 hg' hk' hr hs1 i1
  go_wp2_with (fail)
  refine (new_no other 512 _ ho2).mono ?_
  rintro e w4 (⟨_, rfl, rfl⟩ | ⟨h, _⟩)
  rotate_left
  · rw [ho2] at h; cases h
  go_wp2_with (fail)
  refine (rNew_no other 512 _ ho2).mono ?_
  rintro e w5 (⟨_, rfl, rfl⟩ | ⟨h, _⟩)
  rotate_left
  · rw [ho2] at h; cases h
  have I5 := Lib.hid i3
  clear i3
  have E12 := Lib.hid (And.intro e1 e2)
  clear e1 e2
  go_wp2_with (fail)
  go_loopw [18, 19] (fun i ok wr => ∃ (j : Nat) (Y1 Y2 : Nat → Prop) (t1 : St), j ≤ len ∧ j ≤ 200 ∧ i = .int .i64 j ∧ Hid (Inv w wr Y1 Y2 (some t1) none) ∧ Hid (t1.g = g ∧ t1.g' = g')) (fun i _ _ => len - (intOf i).toNat)
  case atStart => exact ⟨0, _, _, s1, Nat.zero_le _, Nat.zero_le _, rfl, I5, E12⟩
  case round =>
    obtain ⟨j, Y1, Y2, t1, hj, hj2, rfl, hI, h12⟩ := hrel
    by_cases hlt : j < len
    · by_cases h200 : j < 200
      · by_cases h3 : j % 3 = 2
        · have em : (j : Int) % 3 = 2 := by omega
          obtain ⟨b, o, rfl, K, A, B, C, va, n, vc, l, hrg, hrb, hll, hcc, hby, hC⟩ := Hops.out j hlt
          have Hrg0 := Lib.hid hrg
          have Hrg := Lib.hid (rangeAt_below hrg (by simp) hI.out.bel)
          have Hrb := Lib.hid hrb
          have Hx := Lib.hid (And.intro hll (And.intro hcc (And.intro hby hC)))
          clear hrg hrb hll hcc hby hC
          obtain ⟨p1, sm1⟩ := hI.out.one t1 rfl
          have hdo := do_one hI.out.drew K A B C va n vc l Hrb.out Hx.out.1 Hx.out.2.1 Hx.out.2.2.1 Hx.out.2.2.2
          rw [h12.out.1, h12.out.2] at hdo
          have Hdo := Lib.hid hdo
          have hc0 := p1.rf.c0
          rw [h12.out.2] at hc0
          have hrg0 := rg5 Hrg.out
          clear h3 p1 sm1 hdo
          go_wp2_with (fail)
          go_region_held3 (fun w' => (w'.cell? ⟨b, o + j * 5, none⟩ = some (.int .i64 K) ∧ w'.cell? ⟨b, o + j * 5 + 1, none⟩ = some (.int .i64 A) ∧ w'.cell? ⟨b, o + j * 5 + 2, none⟩ = some (.int .i64 B) ∧ w'.cell? ⟨b, o + j * 5 + 3, none⟩ = some (.int .i64 C) ∧ w'.cell? ⟨b, o + j * 5 + 4, none⟩ = some (.slice va n vc)) ∧ w'.cell? ⟨g', 0, none⟩ = some (.int .i64 t1.S)) (first | exact ⟨hrg0, hc0⟩ | exact ⟨hrg3, hc3⟩) (first
            | (go_at_call 18; refine Hdo.out.mono ?_; rintro e w6 ⟨rfl, Y3, t3, hI3, u1, u2, u3⟩; obtain ⟨p3, sm3⟩ := hI3.one t3 rfl; have hrg3 := rg5 (rangeAt_below Hrg0.out (by simp) hI3.bel); have hc3 := p3.rf.c0; rw [u2, u3] at hc3; have hta := tell_a p3; have htr := tell_r p3 sm3; have htp := tell_p p3; rw [u1] at hta htp; rw [u2] at htr; rw [u3] at htp; have Hta := Lib.hid hta; have Htr := Lib.hid htr; have Htp := Lib.hid htp; have HI3 := Lib.hid hI3; have Hu := Lib.hid (show t3.g = g ∧ t3.g' = g' from ⟨u1, u2⟩); clear p3 sm3 hta htr htp hI3 u1 u2 u3)
            | (go_at_call 13; refine Hta.out.mono ?_; rintro e w' ⟨rfl, rfl⟩)
            | (go_at_call 19; refine Htr.out.mono ?_; rintro e w' ⟨rfl, rfl⟩)
            | (go_at_call 20; refine Htp.out.mono ?_; rintro e w' ⟨rfl, rfl⟩))
          go_wp2_with (fail)
          go_roundw
          case rel => exact ⟨j + 1, Y3, Y2, t3, by omega, by omega, by go_num, HI3, Hu⟩
          case measure => simp [intOf]; omega
        · have em : ¬ (j : Int) % 3 = 2 := by omega
          obtain ⟨b, o, rfl, K, A, B, C, va, n, vc, l, hrg, hrb, hll, hcc, hby, hC⟩ := Hops.out j hlt
          have Hrg0 := Lib.hid hrg
          have Hrg := Lib.hid (rangeAt_below hrg (by simp) hI.out.bel)
          have Hrb := Lib.hid hrb
          have Hx := Lib.hid (And.intro hll (And.intro hcc (And.intro hby hC)))
          clear hrg hrb hll hcc hby hC
          obtain ⟨p1, sm1⟩ := hI.out.one t1 rfl
          have hdo := do_one hI.out.drew K A B C va n vc l Hrb.out Hx.out.1 Hx.out.2.1 Hx.out.2.2.1 Hx.out.2.2.2
          rw [h12.out.1, h12.out.2] at hdo
          have Hdo := Lib.hid hdo
          have hc0 := p1.rf.c0
          rw [h12.out.2] at hc0
          have hrg0 := rg5 Hrg.out
          clear h3 p1 sm1 hdo
          go_wp2_with (fail)
          go_region_held3 (fun w' => (w'.cell? ⟨b, o + j * 5, none⟩ = some (.int .i64 K) ∧ w'.cell? ⟨b, o + j * 5 + 1, none⟩ = some (.int .i64 A) ∧ w'.cell? ⟨b, o + j * 5 + 2, none⟩ = some (.int .i64 B) ∧ w'.cell? ⟨b, o + j * 5 + 3, none⟩ = some (.int .i64 C) ∧ w'.cell? ⟨b, o + j * 5 + 4, none⟩ = some (.slice va n vc)) ∧ w'.cell? ⟨g', 0, none⟩ = some (.int .i64 t1.S)) (first | exact ⟨hrg0, hc0⟩ | exact ⟨hrg3, hc3⟩) (first
            | (go_at_call 18; refine Hdo.out.mono ?_; rintro e w6 ⟨rfl, Y3, t3, hI3, u1, u2, u3⟩; obtain ⟨p3, sm3⟩ := hI3.one t3 rfl; have hrg3 := rg5 (rangeAt_below Hrg0.out (by simp) hI3.bel); have hc3 := p3.rf.c0; rw [u2, u3] at hc3; have hta := tell_a p3; have htr := tell_r p3 sm3; have htp := tell_p p3; rw [u1] at hta htp; rw [u2] at htr; rw [u3] at htp; have Hta := Lib.hid hta; have Htr := Lib.hid htr; have Htp := Lib.hid htp; have HI3 := Lib.hid hI3; have Hu := Lib.hid (show t3.g = g ∧ t3.g' = g' from ⟨u1, u2⟩); clear p3 sm3 hta htr htp hI3 u1 u2 u3)
            | (go_at_call 13; refine Hta.out.mono ?_; rintro e w' ⟨rfl, rfl⟩)
            | (go_at_call 19; refine Htr.out.mono ?_; rintro e w' ⟨rfl, rfl⟩)
            | (go_at_call 20; refine Htp.out.mono ?_; rintro e w' ⟨rfl, rfl⟩))
          go_wp2_with (fail)
          go_roundw
          case rel => exact ⟨j + 1, Y3, Y2, t3, by omega, by omega, by go_num, HI3, Hu⟩
          case measure => simp [intOf]; omega
      · have h2 : ¬ (j : Int) < 200 := by omega
        go_wp2_with (fail)
        go_ret
        exact ⟨rfl, hI.out.bel⟩
    · go_wp2_with (fail)
      go_ret
      exact ⟨rfl, hI.out.bel⟩

set_option maxRecDepth 100000 in
set_option maxHeartbeats 8000000 in
theorem plays_ft (pages page other : Int) (a0 : Option Addr) (len cap : Nat) (w : World) (hops : OpsIn w a0 len) (hl : len ≤ cap) (hc : cap ≤ maxLen) (ho1 : okNew pages page = false) (ho2 : okNew other 512 = true) :
    Calls Try.prog 6 #[.int .i64 pages, .int .i64 page, .int .i64 other, .slice a0 len cap] w (BoolPost w) := by
  unfold maxLen at hc
  have Hops := Lib.hid hops
  obtain ⟨nq, rfl⟩ := Int.eq_ofNat_of_zero_le (show 0 ≤ other by simp [okNew] at ho2; omega)
  clear hops
  go_enter Try.func6, Try.ntmps6
  go_wp2_with (fail)
  refine (shown_any _).mono ?_
  rintro e w1 ⟨rfl, hb1⟩
  have i1 := (Inv.start w).more hb1
  clear hb1
  go_wp2_with (fail)
  refine (new_no pages page _ ho1).mono ?_
  rintro e w2 (⟨_, rfl, rfl⟩ | ⟨h, _⟩)
  rotate_left
  · rw [ho1] at h; cases h
  go_wp2_with (fail)
  refine (rNew_no pages page _ ho1).mono ?_
  rintro e w3 (⟨_, rfl, rfl⟩ | ⟨h, _⟩)
  rotate_left
  · rw [ho1] at h; cases h
  obtain ⟨X1, i3⟩ : ∃ X1, Inv w w1 X1 (fun _ => False) none none := ⟨_, i1⟩
  clear i1
  go_wp2_with (fail)
  refine (new_yes nq 512 _ ho2).mono ?_
  rintro e w4 (⟨h, _⟩ | ⟨_, gg, kk, rfl, hA, hg, hk, hb2⟩)
  · rw [ho2] at h; cases h
  rw [Int.toNat_natCast] at hA
  go_wp2_with (fail)
  refine (rNew_yes nq 512 _ ho2).mono ?_
  rintro e w5 (⟨h, _⟩ | ⟨_, gg', kk', cck, rr, ccr, rfl, hR, hg', hk', hr, hb3⟩)
  · rw [ho2] at h; cases h
  rw [Int.toNat_natCast] at hR
  obtain ⟨X2, i5⟩ := i3.swap.first (S := 512) hA hb2 hg hk hR hb3 hg' hk' hr
  obtain ⟨s2, hs2⟩ : ∃ s2 : St, s2 = ⟨gg, kk, nq, 512, .slice none 0 0, List.replicate nq 0, [], gg', kk', cck, rr, ccr, List.replicate nq 0, List.replicate (nq * 512) 0, List.replicate nq (.slice none 0 0)⟩ := ⟨_, rfl⟩
  rw [← hs2] at i5
  obtain ⟨e3, e4⟩ : s2.g = gg ∧ s2.g' = gg' := by rw [hs2]; exact ⟨rfl, rfl⟩
  have I5 := Lib.hid i5.swap
  clear hA hb2 hg hk hR hb3 hg' hk' hr hs2 i3 i5
  have E34 := Lib.hid (And.intro e3 e4)
  clear e3 e4
  go_wp2_with (fail)
  go_loopw [18, 19] (fun i ok wr => ∃ (j : Nat) (Y1 Y2 : Nat → Prop) (t2 : St), j ≤ len ∧ j ≤ 200 ∧ i = .int .i64 j ∧ Hid (Inv w wr Y1 Y2 none (some t2)) ∧ Hid (t2.g = gg ∧ t2.g' = gg')) (fun i _ _ => len - (intOf i).toNat)
  case atStart => exact ⟨0, _, _, s2, Nat.zero_le _, Nat.zero_le _, rfl, I5, E34⟩
  case round =>
    obtain ⟨j, Y1, Y2, t2, hj, hj2, rfl, hI, h34⟩ := hrel
    by_cases hlt : j < len
    · by_cases h200 : j < 200
      · by_cases h3 : j % 3 = 2
        · have em : (j : Int) % 3 = 2 := by omega
          obtain ⟨b, o, rfl, K, A, B, C, va, n, vc, l, hrg, hrb, hll, hcc, hby, hC⟩ := Hops.out j hlt
          have Hrg0 := Lib.hid hrg
          have Hrg := Lib.hid (rangeAt_below hrg (by simp) hI.out.bel)
          have Hrb := Lib.hid hrb
          have Hx := Lib.hid (And.intro hll (And.intro hcc (And.intro hby hC)))
          clear hrg hrb hll hcc hby hC
          have hdo := do_two hI.out K A B C va n vc l Hrb.out Hx.out.1 Hx.out.2.1 Hx.out.2.2.1 Hx.out.2.2.2
          rw [h34.out.1, h34.out.2] at hdo
          have Hdo := Lib.hid hdo
          clear h3 hdo
          go_wp2_with (refine wpList_load_mid rfl 48 _ rfl b (o + j * 5) rfl [.int .i64 K, .int .i64 A, .int .i64 B, .int .i64 C, .slice va n vc] _ Hrg.out Try.underlying48 rfl infoOp ?_)
          refine Hdo.out.mono ?_
          rintro e w6 ⟨rfl, Y3, t3, hI3, u1, u2, _⟩
          obtain ⟨p3, sm3⟩ := hI3.two t3 rfl
          have hta := tell_a p3
          have htr := tell_r p3 sm3
          rw [u1] at hta
          rw [u2] at htr
          have Hta := Lib.hid hta
          have Htr := Lib.hid htr
          have HI3 := Lib.hid hI3
          have Hu := Lib.hid (show t3.g = gg ∧ t3.g' = gg' from ⟨u1, u2⟩)
          clear p3 sm3 hta htr hI3 u1 u2
          go_wp2_with (first
            | (go_at_call 13; refine Hta.out.mono ?_; rintro e w' ⟨rfl, rfl⟩)
            | (go_at_call 19; refine Htr.out.mono ?_; rintro e w' ⟨rfl, rfl⟩))
          go_roundw
          case rel => exact ⟨j + 1, Y1, Y3, t3, by omega, by omega, by go_num, HI3, Hu⟩
          case measure => simp [intOf]; omega
        · have em : ¬ (j : Int) % 3 = 2 := by omega
          clear h3
          go_wp2_with (fail)
          go_roundw
          case rel => exact ⟨j + 1, Y1, Y2, t2, by omega, by omega, by go_num, hI, h34⟩
          case measure => simp [intOf]; omega
      · have h2 : ¬ (j : Int) < 200 := by omega
        go_wp2_with (fail)
        go_ret
        exact ⟨rfl, hI.out.bel⟩
    · go_wp2_with (fail)
      go_ret
      exact ⟨rfl, hI.out.bel⟩

set_option maxRecDepth 100000 in
set_option maxHeartbeats 8000000 in
theorem plays_ff (pages page other : Int) (a0 : Option Addr) (len cap : Nat) (w : World) (hops : OpsIn w a0 len) (hl : len ≤ cap) (hc : cap ≤ maxLen) (ho1 : okNew pages page = false) (ho2 : okNew other 512 = false) :
    Calls Try.prog 6 #[.int .i64 pages, .int .i64 page, .int .i64 other, .slice a0 len cap] w (BoolPost w) := by
  unfold maxLen at hc
  have Hops := Lib.hid hops
  clear hops
  go_enter Try.func6, Try.ntmps6
  go_wp2_with (fail)
  refine (shown_any _).mono ?_
  rintro e w1 ⟨rfl, hb1⟩
  have i1 := (Inv.start w).more hb1
  clear hb1
  go_wp2_with (fail)
  refine (new_no pages page _ ho1).mono ?_
  rintro e w2 (⟨_, rfl, rfl⟩ | ⟨h, _⟩)
  rotate_left
  · rw [ho1] at h; cases h
  go_wp2_with (fail)
  refine (rNew_no pages page _ ho1).mono ?_
  rintro e w3 (⟨_, rfl, rfl⟩ | ⟨h, _⟩)
  rotate_left
  · rw [ho1] at h; cases h
  obtain ⟨X1, i3⟩ : ∃ X1, Inv w w1 X1 (fun _ => False) none none := ⟨_, i1⟩
  clear i1
  go_wp2_with (fail)
  refine (new_no other 512 _ ho2).mono ?_
  rintro e w4 (⟨_, rfl, rfl⟩ | ⟨h, _⟩)
  rotate_left
  · rw [ho2] at h; cases h
  go_wp2_with (fail)
  refine (rNew_no other 512 _ ho2).mono ?_
  rintro e w5 (⟨_, rfl, rfl⟩ | ⟨h, _⟩)
  rotate_left
  · rw [ho2] at h; cases h
  have I5 := Lib.hid i3
  clear i3
  go_wp2_with (fail)
  go_loopw [18, 19] (fun i ok wr => ∃ (j : Nat) (Y1 Y2 : Nat → Prop), j ≤ len ∧ j ≤ 200 ∧ i = .int .i64 j ∧ Hid (Inv w wr Y1 Y2 none none)) (fun i _ _ => len - (intOf i).toNat)
  case atStart => exact ⟨0, _, _, Nat.zero_le _, Nat.zero_le _, rfl, I5⟩
  case round =>
    obtain ⟨j, Y1, Y2, hj, hj2, rfl, hI⟩ := hrel
    by_cases hlt : j < len
    · by_cases h200 : j < 200
      · by_cases h3 : j % 3 = 2
        · have em : (j : Int) % 3 = 2 := by omega
          clear h3
          go_wp2_with (fail)
          go_roundw
          case rel => exact ⟨j + 1, Y1, Y2, by omega, by omega, by go_num, hI⟩
          case measure => simp [intOf]; omega
        · have em : ¬ (j : Int) % 3 = 2 := by omega
          clear h3
          go_wp2_with (fail)
          go_roundw
          case rel => exact ⟨j + 1, Y1, Y2, by omega, by omega, by go_num, hI⟩
          case measure => simp [intOf]; omega
      · have h2 : ¬ (j : Int) < 200 := by omega
        go_wp2_with (fail)
        go_ret
        exact ⟨rfl, hI.out.bel⟩
    · go_wp2_with (fail)
      go_ret
      exact ⟨rfl, hI.out.bel⟩

theorem plays_walk (pages page other : Int) (a0 : Option Addr) (len cap : Nat) (w : World) (hops : OpsIn w a0 len) (hl : len ≤ cap) (hc : cap ≤ maxLen) :
    Calls Try.prog 6 #[.int .i64 pages, .int .i64 page, .int .i64 other, .slice a0 len cap] w (BoolPost w) := by
  cases h1 : okNew pages page <;> cases h2 : okNew other 512
  · exact plays_ff pages page other a0 len cap w hops hl hc h1 h2
  · exact plays_ft pages page other a0 len cap w hops hl hc h1 h2
  · exact plays_tf pages page other a0 len cap w hops hl hc h1 h2
  · exact plays_tt pages page other a0 len cap w hops hl hc h1 h2
end Go.Proofs.Ytmkfnnhhioeioaa
