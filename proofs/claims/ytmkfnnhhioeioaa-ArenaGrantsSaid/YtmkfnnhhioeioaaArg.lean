/- ArenaGrants' walk. -/
import Derived.Test.YtmkfnnhhioeioaaAri
import Derived.Test.YtmkfnnhhioeioaaAgl
import Derived.Deep.RegionHeld3
namespace Go.Proofs.Ytmkfnnhhioeioaa
open Go.RowKit Go.PlainAid
set_option linter.unusedVariables false
set_option linter.unusedSimpArgs false

theorem own_row {w w' : World} {base n k : Nat} {e : TypeId} {size : Nat} {v : Value} {xs : List Value} (h : w.ownsRow base e size v n xs) (hg : w.grownBy w' (some k)) (hk : k < base) : w'.ownsRow base e size v n xs :=
  h.kept hg (by
    by_cases hn : v.ownBlock = none
    · exact .inl hn
    · right
      intro e
      have := (h.lt k e).1
      omega)
theorem Ar.lt {w : World} {g k np : Nat} {size : Int} {bv : Value} {ow bs : List Int} (h : Ar w g k np size bv ow bs) : g < w.heap.size ∧ k < w.heap.size :=
  ⟨(Array.getElem?_eq_some_iff.1 h.box).1, (h.own.lt k rfl).2⟩

theorem Ar.row {w w' : World} {g k np b : Nat} {size : Int} {bv : Value} {ow bs : List Int} (h : Ar w g k np size bv ow bs) (hg : w.grownBy w' (some b)) (h1 : g ≠ b) (h2 : k ≠ b) (h3 : bv.ownBlock ≠ some b) : Ar w' g k np size bv ow bs :=
  ⟨(hg.block g h.lt.1 (fun e => h1 (by injection e))).trans h.box, h.own.kept hg (.inr (fun e => h2 (by injection e))), h.byt.kept hg (.inr h3), h.len, h.np1, h.rng, h.siz⟩
theorem Ar.drew {w : World} {g k np : Nat} {size : Int} {bv : Value} {ow bs : List Int} (h : Ar w g k np size bv ow bs) : Ar w.drew g k np size bv ow bs := ⟨h.box, h.own, h.byt, h.len, h.np1, h.rng, h.siz⟩
theorem Ar.drewN {w : World} {g k np : Nat} {size : Int} {bv : Value} {ow bs : List Int} (h : Ar w g k np size bv ow bs) (n : Nat) : Ar (w.drewN n) g k np size bv ow bs := ⟨h.box, h.own, h.byt, h.len, h.np1, h.rng, h.siz⟩
theorem owner_q {w : World} {g k np : Nat} {size : Int} {bv : Value} {ow bs : List Int} (h : Ar w g k np size bv ow bs) (x c : Int) (hx : AP.owner ow x = c) (n : Nat) :
    Calls Try.prog 12 #[.pointer (some ⟨g, 0, none⟩), .int .i64 x] (w.drewN n) fun e w' => e = .returned (.int .i64 c) ∧ w' = w.drewN n := by
  subst hx; exact (owner_any (h.drewN n) x).mono fun _ _ ⟨h1, h2⟩ => ⟨h1, h2.symm⟩
theorem grown_undrew {a w : World} {row : Option Nat} (h : a.drew.grownBy w row) : a.grownBy w row := ⟨h.os, h.tape, h.output, h.size, h.block⟩
theorem only_drew {a w : World} {row : Option Nat} (h : a.grownBy w row) : a.grownBy w.drew row := ⟨h.os, h.tape, h.output, h.size, h.block⟩

/-- a page returned, and struck from the list of who holds it: what a round leaves -/
theorem round_back {W wr w4 : World} {g kk N h q : Nat} {ow : List Int} {c : Int} (hA4 : Ar w4 g kk N 512 (.slice none 0 0) (ow.set q c) []) (hg4 : wr.grownBy w4 (some kk)) (ho : wr.ownsRow h 3 1 (.slice (some ⟨h, 0, none⟩) N N) N (ow.map (.int .i64)))
    (hgh : g < h) (hkh : kk < h) (hW : W.heap.size ≤ kk) (hbw : Below W.heap.size W wr) :
    Ar (w4.setCell ⟨h, q, none⟩ (.int .i64 c)) g kk N 512 (.slice none 0 0) (ow.set q c) [] ∧ (w4.setCell ⟨h, q, none⟩ (.int .i64 c)).ownsRow h 3 1 (.slice (some ⟨h, 0, none⟩) N N) N ((ow.set q c).map (.int .i64)) ∧ Below W.heap.size W (w4.setCell ⟨h, q, none⟩ (.int .i64 c)) := by
  have h1 := (own_row ho hg4 hkh).stored q (.int .i64 c)
  rw [← List.map_set] at h1
  have hg5 : w4.grownBy (w4.setCell ⟨h, q, none⟩ (.int .i64 c)) (some h) := only_setCell (World.grownBy.refl w4 _) q _
  exact ⟨hA4.row hg5 (by omega) (by omega) (by simp [Value.ownBlock]), h1.1, (below_row hbw hg4 (Nat.le_refl _) hW).setCell (by show W.heap.size ≤ h; omega) _⟩

set_option maxRecDepth 100000 in
set_option maxHeartbeats 40000000 in
theorem grants_walk (a : Int) (l : List Int) (ad : Option Addr) (n cap : Nat) (w : World) (ha : (Lit.int .i64 a).wf = true) (hr : RI w (.slice ad n cap) l) (hli : I64s l) (hln : l.length = n) (hcm : cap ≤ maxLen) (hcap : n ≤ cap) :
    Calls Try.prog 3 #[.int .i64 a, .slice ad n cap] w (BoolPost w) := by
  obtain ⟨a1, a2⟩ := bd_i64 ha
  obtain ⟨u, hu0, hu1, hun, hup⟩ := modpos a 20 (by omega)
  obtain ⟨N, hN⟩ := Int.eq_ofNat_of_zero_le (show 0 ≤ 1 + u by omega)
  have hN1 : 1 ≤ N := by omega
  have hN2 : N ≤ 20 := by omega
  have HN := Lib.hid hN
  have Hr := Lib.hid hr
  have Hli := Lib.hid hli
  have Hln := Lib.hid hln
  have hnm : n ≤ 9223372036854775807 := by unfold maxLen at hcm; omega
  clear hN hr hli hln ha
  obtain ⟨i0, hi, hz0, hz1, hz2⟩ := info_parts Try.infoI
  by_cases ha0 : a < 0
  all_goals
    first | have ea := hun ha0 | have ea := hup ha0
    clear hun hup
    go_enter Try.func3, Try.ntmps3
    go_wp2_with (fail)
    refine (shown_any _).mono ?_
    rintro e w1 ⟨rfl, hb1⟩
    go_wp2_with (fail)
    rw [HN.out]
    clear ea
    refine (new_yes (N : Int) 512 _ (by unfold okNew; exact decide_eq_true ⟨by omega, by omega, by omega, by omega, by omega⟩)).mono ?_
    rintro e w2 h2
    rcases h2 with ⟨h, _⟩ | ⟨_, g, kk, rfl, hA, hg, hk, hb2⟩
    · exact absurd h (by unfold okNew; simp; omega)
    rw [Int.toNat_natCast] at hA
    have hb12 := hb1.trans (hb2.mono hb1.size)
    have hk' : w.heap.size ≤ kk := Nat.le_trans hb1.size hk
    have hs12 := hb12.size
    obtain ⟨hgl2, hkl2⟩ := hA.lt
    clear hb1 hb2 hg hk
    go_wp2_with (at_make; go_must (refine wpList_make_full w2 rfl _ _ 22 rfl w2.heap.size 3 i0 (.int .i64 0) 1 Try.underlying22 hi hz0 hz1 _ _ _ _ N rfl rfl rfl rfl (by rw [hz2]; omega) (by unfold maxLen; omega) (Nat.le_refl _) ?_); intro w3 ho3 hg3)
    rw [zeros_list] at ho3
    have hb3 : Below w2.heap.size w2 w3 := (Below.refl _ _).grown hg3 (Nat.le_refl _) (fun _ h => by cases h)
    have hA3 := hA.below hb3
    have hb13 := hb12.trans (hb3.mono hs12)
    generalize hh : w2.heap.size = h at *
    have Hh := Lib.hid hh
    have h5 := AP.R5_zero N
    clear hh hg3 hb3 hA hb12 hi hz0 hz1 hz2
    go_loopw [9] (fun i wr => ∃ (j : Nat) (ow : List Int), j ≤ n ∧ j ≤ 100 ∧ i = .int .i64 j ∧ Ar wr g kk N 512 (.slice none 0 0) ow [] ∧ wr.ownsRow h 3 1 (.slice (some ⟨h, 0, none⟩) N N) N (ow.map (.int .i64)) ∧ AP.R5 ow ∧ Below w.heap.size w wr) (fun i _ => 100 - (intOf i).toNat)
    case atStart => exact ⟨0, _, by omega, by omega, rfl, hA3, ho3, h5, hb13⟩
    case round =>
      clear hA3 ho3 h5 hb13
      obtain ⟨j, ow, hj, hj2, rfl, hA, ho, h5, hbw⟩ := hrel
      have Hlen := Lib.hid hA.len
      by_cases hlt : j < n
      · by_cases hlt2 : j < 100
        · obtain ⟨bb, oo, rfl, hbb, hcl⟩ := Hr.out.at hlt
          have hc0 := (hbw.cell (p := ⟨bb, oo + j, none⟩) hbb).trans hcl
          obtain ⟨x0, x1⟩ := Hli.out.at j
          clear hcl
          by_cases hneg : l[j]?.getD 0 < 0
          · as_aux_lemma =>
            obtain ⟨q, hq0, hq1, hqn, _⟩ := modpos (l[j]?.getD 0) (N : Int) (by omega)
            obtain ⟨q, rfl⟩ := Int.eq_ofNat_of_zero_le hq0
            have hqN : q < N := by omega
            have e1 := hqn hneg
            have hcq := own_int ho q hqN
            have hfq := ho.frozenAt q
            have hbq := h5.at q
            have hrf := AP.return_facts (ow := ow) (q := q) (by rw [Hlen.out]; exact hqN) h5
            have H5' := Lib.hid (h5.set (i := q) (c := 0) (by omega) (by omega))
            have HA := Lib.hid hA
            have Ho := Lib.hid ho
            have iqN : (q : Int) < (N : Int) := by omega
            by_cases hgq : 0 < ow[q]?.getD 0
            · rw [if_pos hgq] at hrf
              have Hrf := Lib.hid hrf
              clear hrf hqn hq0 hq1 hA ho h5
              go_wp2_with (fail)
              go_region_held3 (fun w' => w'.cell? ⟨h, q, none⟩ = some (.int .i64 (ow[q]?.getD 0))) (first | exact hcq | exact hc4) (first | (go_at_call 9; refine (return_at (g := g) (k := kk) (np := N) (size := 512) (bv := .slice none 0 0) (ow := ow) (bs := []) (by first | exact HA.out | exact HA.out.drew) (q : Int) Hrf.out).mono ?_; rintro e w4 ⟨rfl, hA4, hg4'⟩; have hg4 : wr.grownBy w4 (some kk) := (by first | exact hg4' | exact grown_undrew hg4'); clear hg4'; have ho4 := own_row Ho.out hg4 hkl2; have hc4 := own_int ho4 q hqN; have hf4 := ho4.frozenAt q; clear ho4))
              all_goals (go_wp2_with (fail))
              all_goals
                have hfin := round_back hA4 hg4 Ho.out hgl2 hkl2 hk' hbw
                go_roundw
                case rel => exact ⟨j + 1, _, by omega, by omega, by go_num, hfin.1, hfin.2.1, H5'.out, hfin.2.2⟩
                case measure => simp [intOf]; omega
            · rw [if_neg hgq] at hrf
              have Hrf := Lib.hid hrf
              clear hrf hqn hq0 hq1 hA ho h5
              go_wp2_with (fail)
              go_region_held3 (fun w' => w'.cell? ⟨h, q, none⟩ = some (.int .i64 (ow[q]?.getD 0))) (first | exact hcq | exact hc4) (first | (go_at_call 9; refine (return_at (g := g) (k := kk) (np := N) (size := 512) (bv := .slice none 0 0) (ow := ow) (bs := []) (by first | exact HA.out | exact HA.out.drew) (q : Int) Hrf.out).mono ?_; rintro e w4 ⟨rfl, hA4, hg4'⟩; have hg4 : wr.grownBy w4 (some kk) := (by first | exact hg4' | exact grown_undrew hg4'); clear hg4'; have ho4 := own_row Ho.out hg4 hkl2; have hc4 := own_int ho4 q hqN; have hf4 := ho4.frozenAt q; clear ho4))
              all_goals (go_wp2_with (fail))
              all_goals
                have hfin := round_back hA4 hg4 Ho.out hgl2 hkl2 hk' hbw
                go_roundw
                case rel => exact ⟨j + 1, _, by omega, by omega, by go_num, hfin.1, hfin.2.1, H5'.out, hfin.2.2⟩
                case measure => simp [intOf]; omega
          · as_aux_lemma =>
            have hcs := fun q hq => own_int ho q hq
            have Hcs := Lib.hid hcs
            have HA := Lib.hid hA
            have Ho := Lib.hid ho
            have H5 := Lib.hid h5
            clear hcs hA ho h5
            go_wp2_with (fail)
            go_loop [12] (fun m => ∃ q : Nat, q ≤ N ∧ m = .int .i64 q ∧ ∀ i, i < q → ow[i]?.getD 0 ≠ 0) (fun m => N - (intOf m).toNat)
            case atStart => exact ⟨0, by omega, rfl, fun i hi => by omega⟩
            case round =>
              obtain ⟨q, hqN, rfl, hall⟩ := hrel
              have Hall := Lib.hid hall
              clear hall
              by_cases hq : q < N
              · have hcq := Hcs.out q hq
                have hbq := H5.out.at q
                by_cases hgq : 0 < ow[q]?.getD 0
                · go_wp2_with (fail)
                  go_round
                  case rel =>
                    refine ⟨q + 1, by omega, by go_num, fun i hi => ?_⟩
                    rcases Nat.lt_succ_iff_lt_or_eq.1 hi with h | rfl
                    · exact Hall.out i h
                    · omega
                  case measure => simp [intOf]; omega
                · have hlq := AP.least_at Hall.out (by rw [Hlen.out]; exact hq) (by omega)
                  have Hg : Hid (AP.grP ow (l[j]?.getD 0 % 5) = (q : Int) ∧ AP.grE ow (l[j]?.getD 0 % 5) = 0 ∧ AP.grO ow (l[j]?.getD 0 % 5) = ow.set q (l[j]?.getD 0 % 5 + 1)) := by
                    have := AP.grant_yes (ow := ow) (o := l[j]?.getD 0 % 5) (by omega) (by omega) (by rw [hlq, Hlen.out]; exact hq)
                    rw [hlq] at this
                    exact Lib.hid this
                  have H5' := Lib.hid (H5.out.set (i := q) (c := l[j]?.getD 0 % 5 + 1) (by omega) (by omega))
                  clear hlq
                  go_wp2_with (fail)
                  refine (grant_at HA.out _ Hg.out).mono ?_
                  rintro e w4 ⟨rfl, hA4, hg4⟩
                  have ho4 := own_row Ho.out hg4 hkl2
                  have hc4 := own_int ho4 q hq
                  have hf4 := ho4.frozenAt q
                  clear ho4
                  go_wp2_with (fail)
                  have hfin := round_back hA4 hg4 Ho.out hgl2 hkl2 hk' hbw
                  go_roundw
                  case rel => exact ⟨j + 1, _, by omega, by omega, by go_num, hfin.1, hfin.2.1, H5'.out, hfin.2.2⟩
                  case measure => simp [intOf]; omega
              · obtain rfl : N = q := by omega
                have hlq := AP.least_none (ow := ow) (fun i hi => Hall.out i (by rw [Hlen.out] at hi; exact hi))
                have Hg := Lib.hid (AP.grant_full (ow := ow) (o := l[j]?.getD 0 % 5) (by omega) (by omega) (by rw [hlq]; omega))
                clear hlq
                go_wp2_with (fail)
                refine (grant_at HA.out _ Hg.out).mono ?_
                rintro e w4 ⟨rfl, hA4, hg4⟩
                have ho4 := Lib.hid (own_row Ho.out hg4 hkl2)
                have hb4 := below_row hbw hg4 (Nat.le_refl _) hk'
                go_wp2_with (fail)
                go_roundw
                case rel => exact ⟨j + 1, _, by omega, by omega, by go_num, hA4, ho4.out, H5.out, hb4⟩
                case measure => simp [intOf]; omega
        · as_aux_lemma =>
          clear Hr Hli Hln
          have Hcnt0 := Lib.hid (AP.cnt_zero ow)
          have Hall5 := Lib.hid (AP.cnt_all h5)
          have Hrng := Lib.hid h5
          clear h5
          go_wp2_with (fail)
          go_loopw [15, 16] (fun nn o we => ∃ c : Nat, c ≤ 5 ∧ o = .int .i64 c ∧ nn = .int .i64 (AP.cnt ow c) ∧ Ar we g kk N 512 (.slice none 0 0) ow [] ∧ we.ownsRow h 3 1 (.slice (some ⟨h, 0, none⟩) N N) N (ow.map (.int .i64)) ∧ Below w.heap.size w we) (fun _ o _ => 5 - (intOf o).toNat)
          case atStart => exact ⟨0, by omega, rfl, by rw [show ((0 : Nat) : Int) = 0 from rfl, Hcnt0.out], hA, ho, hbw⟩
          case round =>
            clear hA ho hbw Hcnt0
            obtain ⟨c, hc5, rfl, rfl, hA, ho, hbw⟩ := hrel
            have hcl := AP.cnt_le ow c
            have hol : ((ow.length : Nat) : Int) ≤ 20 := by have := Hlen.out; omega
            by_cases hlt5 : c < 5
            · have hpl := AP.pages_len_le ow c
              have Hsucc := Lib.hid (AP.cnt_succ ow c (by omega))
              have HA := Lib.hid hA
              have Ho := Lib.hid ho
              clear hA ho
              go_wp2_with (fail)
              refine (pages_any HA.out (c : Int)).mono ?_
              rintro e w5 ⟨v, rfl, hv, hb5⟩
              obtain ⟨M, hM⟩ : ∃ M, M = (AP.pages ow c).length := ⟨_, rfl⟩
              rw [← hM] at hv hpl
              have HM := Lib.hid hM
              have hA5 := HA.out.below hb5
              have ho5 := own_below Ho.out hb5
              have hbw5 := hbw.trans (hb5.mono hbw.size)
              have hM20 : (M : Int) ≤ 20 := by omega
              clear hM hb5 hbw
              obtain ⟨va, vc, rfl⟩ : ∃ va vc, v = .slice va M vc := by
                rcases hv.2 with ⟨rfl, h0⟩ | ⟨p, cap5, cur5, rfl, _⟩
                · exact ⟨none, 0, by rw [h0]⟩
                · exact ⟨_, _, rfl⟩
              go_wp2_with (fail)
              go_loopw [15, 18] (fun nn i we => ∃ t : Nat, t ≤ M ∧ i = .int .i64 t ∧ nn = .int .i64 (AP.cnt ow c + (t : Int)) ∧ Ar we g kk N 512 (.slice none 0 0) ow [] ∧ we.ownsRow h 3 1 (.slice (some ⟨h, 0, none⟩) N N) N (ow.map (.int .i64)) ∧ we.ownsRow wr.heap.size 3 1 (.slice va M vc) M ((AP.pages ow c).map (.int .i64)) ∧ Below w.heap.size w we) (fun _ i _ => M - (intOf i).toNat)
              case atStart => exact ⟨0, by omega, rfl, by simp, hA5, ho5, hv, hbw5⟩
              case round =>
                clear hA5 ho5 hv hbw5
                obtain ⟨wo, rfl⟩ : ∃ wo : World, wo = wr := ⟨_, rfl⟩
                obtain ⟨t, htM, rfl, rfl, hA, ho, hv, hbw⟩ := hrel
                by_cases htl : t < M
                · rcases hv.2 with ⟨hq, h0⟩ | ⟨p, cap5, cur5, hq, _⟩
                  · exfalso; omega
                  simp only [Value.slice.injEq] at hq
                  obtain ⟨rfl, _, rfl⟩ := hq
                  obtain ⟨x, hx1, hx2, hx3⟩ := AP.pages_at (ow := ow) (o := (c : Int)) (i := t) (by rw [← HM.out]; exact htl)
                  rw [Hlen.out] at hx2
                  have hct := own_int hv t htl
                  rw [hx1] at hct
                  have hcx := own_int ho x hx2
                  rw [hx3] at hcx
                  have Hox : Hid (AP.owner ow (x : Int) = (c : Int)) := Lib.hid (by rw [AP.owner_at (by rw [Hlen.out]; exact hx2), hx3]; simp)
                  have HA := Lib.hid hA
                  have Ho := Lib.hid ho
                  have Hv := Lib.hid hv
                  have Hx1 := Lib.hid hx1
                  clear hx1 hx3 hA ho hv
                  have b1 : decide ((x : Int) < 0) = false := decide_eq_false (by omega)
                  have b2 : decide ((N : Int) ≤ (x : Int)) = false := decide_eq_false (by omega)
                  have b2' : decide (N ≤ x) = false := decide_eq_false (by omega)
                  have i1 : (t : Int) < (M : Int) := by omega
                  have i2 : (x : Int) < (N : Int) := by omega
                  have s1 : IntKind.i64.wrap ((c : Int) + 1) = (c : Int) + 1 := IntWalk.i64_in _ ⟨by omega, by omega⟩
                  cases t with
                  | zero =>
                    go_wp2_with (fail)
                    go_quiet ((go_at_call 12; exact Calls.quiet_of_same (owner_q HA.out _ _ Hox.out _)))
                    go_wp2_with (fail)
                    go_roundw
                    case rel => exact ⟨1, by omega, by go_num, by go_num, HA.out.drewN _, Ho.out, Hv.out, below_drewN hbw _⟩
                    case measure => simp [intOf]; omega
                  | succ s =>
                    obtain ⟨y, hy1, hy2, hy3⟩ := AP.pages_at (ow := ow) (o := (c : Int)) (i := s) (by rw [← HM.out]; omega)
                    have hrise := AP.pages_rise (ow := ow) (o := (c : Int)) (i := s) (by rw [← HM.out]; exact htl)
                    rw [hy1, Hx1.out] at hrise
                    have hcs := own_int Hv.out s (by omega)
                    rw [hy1] at hcs
                    have b3 : decide ((x : Int) ≤ (y : Int)) = false := decide_eq_false (by omega)
                    have b3' : decide (x ≤ y) = false := decide_eq_false (by omega)
                    have b4 : decide ((0 : Int) < (s : Int) + 1) = true := decide_eq_true (by omega)
                    have s2 : IntKind.i64.wrap ((s : Int) + 1 - 1) = (s : Int) := by rw [Int.add_sub_cancel]; exact IntWalk.i64_in _ ⟨by omega, by omega⟩
                    have s3 : IntKind.i64.wrap ((s : Int)) = (s : Int) := IntWalk.i64_in _ ⟨by omega, by omega⟩
                    have i3 : (s : Int) < (M : Int) := by omega
                    have i4 : (s : Int) + 1 < (M : Int) := by omega
                    have s4 : ((s : Int) + 1).toNat = s + 1 := by omega
                    clear hy1 hy3
                    go_wp2_with (fail)
                    go_quiet ((go_at_call 12; exact Calls.quiet_of_same (owner_q HA.out _ _ Hox.out _)))
                    go_wp2_with (fail)
                    go_roundw
                    case rel => exact ⟨s + 1 + 1, by omega, by go_num, by go_num, HA.out.drewN _, Ho.out, Hv.out, below_drewN hbw _⟩
                    case measure => simp [intOf]; omega
                · obtain rfl : t = M := by omega
                  go_wp2_with (fail)
                  go_roundw
                  case rel => exact ⟨c + 1, by omega, by go_num, by rw [show ((c + 1 : Nat) : Int) = (c : Int) + 1 by omega, Hsucc.out, ← HM.out], hA, ho, hbw⟩
                  case measure => simp [intOf]; omega
            · obtain rfl : c = 5 := by omega
              have Hfin : Hid (AP.cnt ow 5 = AP.granted ow) := Lib.hid Hall5.out.symm
              go_wp2_with (fail)
              refine (granted_any hA).mono ?_
              rintro e w6 ⟨rfl, rfl⟩
              rw [← Hfin.out]
              go_wp2_with (fail)
              go_ret
              exact ⟨rfl, hbw⟩
      · as_aux_lemma =>
        clear Hr Hli Hln
        have Hcnt0 := Lib.hid (AP.cnt_zero ow)
        have Hall5 := Lib.hid (AP.cnt_all h5)
        have Hrng := Lib.hid h5
        clear h5
        go_wp2_with (fail)
        go_loopw [15, 16] (fun nn o we => ∃ c : Nat, c ≤ 5 ∧ o = .int .i64 c ∧ nn = .int .i64 (AP.cnt ow c) ∧ Ar we g kk N 512 (.slice none 0 0) ow [] ∧ we.ownsRow h 3 1 (.slice (some ⟨h, 0, none⟩) N N) N (ow.map (.int .i64)) ∧ Below w.heap.size w we) (fun _ o _ => 5 - (intOf o).toNat)
        case atStart => exact ⟨0, by omega, rfl, by rw [show ((0 : Nat) : Int) = 0 from rfl, Hcnt0.out], hA, ho, hbw⟩
        case round =>
          clear hA ho hbw Hcnt0
          obtain ⟨c, hc5, rfl, rfl, hA, ho, hbw⟩ := hrel
          have hcl := AP.cnt_le ow c
          have hol : ((ow.length : Nat) : Int) ≤ 20 := by have := Hlen.out; omega
          by_cases hlt5 : c < 5
          · have hpl := AP.pages_len_le ow c
            have Hsucc := Lib.hid (AP.cnt_succ ow c (by omega))
            have HA := Lib.hid hA
            have Ho := Lib.hid ho
            clear hA ho
            go_wp2_with (fail)
            refine (pages_any HA.out (c : Int)).mono ?_
            rintro e w5 ⟨v, rfl, hv, hb5⟩
            obtain ⟨M, hM⟩ : ∃ M, M = (AP.pages ow c).length := ⟨_, rfl⟩
            rw [← hM] at hv hpl
            have HM := Lib.hid hM
            have hA5 := HA.out.below hb5
            have ho5 := own_below Ho.out hb5
            have hbw5 := hbw.trans (hb5.mono hbw.size)
            have hM20 : (M : Int) ≤ 20 := by omega
            clear hM hb5 hbw
            obtain ⟨va, vc, rfl⟩ : ∃ va vc, v = .slice va M vc := by
              rcases hv.2 with ⟨rfl, h0⟩ | ⟨p, cap5, cur5, rfl, _⟩
              · exact ⟨none, 0, by rw [h0]⟩
              · exact ⟨_, _, rfl⟩
            go_wp2_with (fail)
            go_loopw [15, 18] (fun nn i we => ∃ t : Nat, t ≤ M ∧ i = .int .i64 t ∧ nn = .int .i64 (AP.cnt ow c + (t : Int)) ∧ Ar we g kk N 512 (.slice none 0 0) ow [] ∧ we.ownsRow h 3 1 (.slice (some ⟨h, 0, none⟩) N N) N (ow.map (.int .i64)) ∧ we.ownsRow wr.heap.size 3 1 (.slice va M vc) M ((AP.pages ow c).map (.int .i64)) ∧ Below w.heap.size w we) (fun _ i _ => M - (intOf i).toNat)
            case atStart => exact ⟨0, by omega, rfl, by simp, hA5, ho5, hv, hbw5⟩
            case round =>
              clear hA5 ho5 hv hbw5
              obtain ⟨wo, rfl⟩ : ∃ wo : World, wo = wr := ⟨_, rfl⟩
              obtain ⟨t, htM, rfl, rfl, hA, ho, hv, hbw⟩ := hrel
              by_cases htl : t < M
              · rcases hv.2 with ⟨hq, h0⟩ | ⟨p, cap5, cur5, hq, _⟩
                · exfalso; omega
                simp only [Value.slice.injEq] at hq
                obtain ⟨rfl, _, rfl⟩ := hq
                obtain ⟨x, hx1, hx2, hx3⟩ := AP.pages_at (ow := ow) (o := (c : Int)) (i := t) (by rw [← HM.out]; exact htl)
                rw [Hlen.out] at hx2
                have hct := own_int hv t htl
                rw [hx1] at hct
                have hcx := own_int ho x hx2
                rw [hx3] at hcx
                have Hox : Hid (AP.owner ow (x : Int) = (c : Int)) := Lib.hid (by rw [AP.owner_at (by rw [Hlen.out]; exact hx2), hx3]; simp)
                have HA := Lib.hid hA
                have Ho := Lib.hid ho
                have Hv := Lib.hid hv
                have Hx1 := Lib.hid hx1
                clear hx1 hx3 hA ho hv
                have b1 : decide ((x : Int) < 0) = false := decide_eq_false (by omega)
                have b2 : decide ((N : Int) ≤ (x : Int)) = false := decide_eq_false (by omega)
                have b2' : decide (N ≤ x) = false := decide_eq_false (by omega)
                have i1 : (t : Int) < (M : Int) := by omega
                have i2 : (x : Int) < (N : Int) := by omega
                have s1 : IntKind.i64.wrap ((c : Int) + 1) = (c : Int) + 1 := IntWalk.i64_in _ ⟨by omega, by omega⟩
                cases t with
                | zero =>
                  go_wp2_with (fail)
                  go_quiet ((go_at_call 12; exact Calls.quiet_of_same (owner_q HA.out _ _ Hox.out _)))
                  go_wp2_with (fail)
                  go_roundw
                  case rel => exact ⟨1, by omega, by go_num, by go_num, HA.out.drewN _, Ho.out, Hv.out, below_drewN hbw _⟩
                  case measure => simp [intOf]; omega
                | succ s =>
                  obtain ⟨y, hy1, hy2, hy3⟩ := AP.pages_at (ow := ow) (o := (c : Int)) (i := s) (by rw [← HM.out]; omega)
                  have hrise := AP.pages_rise (ow := ow) (o := (c : Int)) (i := s) (by rw [← HM.out]; exact htl)
                  rw [hy1, Hx1.out] at hrise
                  have hcs := own_int Hv.out s (by omega)
                  rw [hy1] at hcs
                  have b3 : decide ((x : Int) ≤ (y : Int)) = false := decide_eq_false (by omega)
                  have b3' : decide (x ≤ y) = false := decide_eq_false (by omega)
                  have b4 : decide ((0 : Int) < (s : Int) + 1) = true := decide_eq_true (by omega)
                  have s2 : IntKind.i64.wrap ((s : Int) + 1 - 1) = (s : Int) := by rw [Int.add_sub_cancel]; exact IntWalk.i64_in _ ⟨by omega, by omega⟩
                  have s3 : IntKind.i64.wrap ((s : Int)) = (s : Int) := IntWalk.i64_in _ ⟨by omega, by omega⟩
                  have i3 : (s : Int) < (M : Int) := by omega
                  have i4 : (s : Int) + 1 < (M : Int) := by omega
                  have s4 : ((s : Int) + 1).toNat = s + 1 := by omega
                  clear hy1 hy3
                  go_wp2_with (fail)
                  go_quiet ((go_at_call 12; exact Calls.quiet_of_same (owner_q HA.out _ _ Hox.out _)))
                  go_wp2_with (fail)
                  go_roundw
                  case rel => exact ⟨s + 1 + 1, by omega, by go_num, by go_num, HA.out.drewN _, Ho.out, Hv.out, below_drewN hbw _⟩
                  case measure => simp [intOf]; omega
              · obtain rfl : t = M := by omega
                go_wp2_with (fail)
                go_roundw
                case rel => exact ⟨c + 1, by omega, by go_num, by rw [show ((c + 1 : Nat) : Int) = (c : Int) + 1 by omega, Hsucc.out, ← HM.out], hA, ho, hbw⟩
                case measure => simp [intOf]; omega
          · obtain rfl : c = 5 := by omega
            have Hfin : Hid (AP.cnt ow 5 = AP.granted ow) := Lib.hid Hall5.out.symm
            go_wp2_with (fail)
            refine (granted_any hA).mono ?_
            rintro e w6 ⟨rfl, rfl⟩
            rw [← Hfin.out]
            go_wp2_with (fail)
            go_ret
            exact ⟨rfl, hbw⟩
end Go.Proofs.Ytmkfnnhhioeioaa
