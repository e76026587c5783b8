/- a step on both: the walk. -/
import Derived.Test.YtmkfnnhhioeioaaApd
import Derived.Deep.CutRange
import Derived.Deep.Cut
import Derived.Deep.RegionHeld3
import Derived.BigQuiet
import Derived.Deep.QuietTactic
namespace Go.Proofs.Ytmkfnnhhioeioaa
open Go.RowKit Go.PlainAid
set_option linter.unusedVariables false
set_option linter.unusedSimpArgs false

set_option maxRecDepth 100000 in
set_option maxHeartbeats 8000000 in
theorem does_any {w : World} {X : Nat → Prop} {s : St} (h : PairI w X s) (hs : Same s) (K A B C : Int) (va : Option Addr) (n vc : Nat) (l : List Int)
    (hrb : ∀ w', Tch (fun i => X i ∨ w.heap.size ≤ i) w w' → RB w' (.slice va n vc) l) (hl : l.length = n) (hc : n ≤ vc ∧ vc ≤ maxLen) (hby : ∀ x ∈ l, 0 ≤ x ∧ x ≤ 255) (hC : -9223372036854775808 ≤ C ∧ C ≤ 9223372036854775807) :
    Calls Try.prog 18 #[.pointer (some ⟨s.g, 0, none⟩), .pointer (some ⟨s.g', 0, none⟩), .agg #[.int .i64 K, .int .i64 A, .int .i64 B, .int .i64 C, .slice va n vc]] w (DoPost X s.g s.g' s.np s.S w) := by
  have H := Lib.hid h
  have Hs := Lib.hid hs
  have hcm := hc.2
  have hcn := hc.1
  have Hone := Lib.hid (fun hn => pre_one h (K := K) (A := A) (B := B) (C := C) (va := va) (vc := vc) (l := l) (n := n) hn hrb hl hc hby)
  have Htwo := Lib.hid (fun hn => pre_two h (K := K) (A := A) (B := B) (C := C) (va := va) (vc := vc) (l := l) (n := n) hn hrb hl hc hby)
  have HC := Lib.hid hC
  have Hbl : Hid (s.bs.length ≤ 67108864) := Lib.hid (by
    have h1 := hs.2.2
    have h2 := h.ar.np1
    have h3 := h.ar.siz
    have h4 : s.np * s.S ≤ 1024 * 65536 := Nat.mul_le_mul (by omega) (by omega)
    omega)
  unfold maxLen at hcm
  clear hrb hl hby h hs hc hC
  go_enter Try.func18, Try.ntmps18
  go_upto_if 27 with fail
  go_cut [24] from 24 to 31 (fun _ wx => ∃ (va2 : Option Addr) (n2 vc2 : Nat) (l2 : List Int), Hid (Pre X X w wx s w.heap.size K A B C va2 n2 vc2 l2))
  case first =>
    by_cases hn : 2000 < n
    · have Hp := Lib.hid (Htwo.out hn)
      have h0 : (2000 : Int) < (n : Int) := by omega
      go_wp2_with (fail)
      go_meet
      case rel => exact ⟨va, 2000, vc, _, Hp⟩
    · have Hp := Lib.hid (Hone.out (by omega))
      have h0 : ¬ (2000 : Int) < (n : Int) := by omega
      go_wp2_with (fail)
      go_meet
      case rel => exact ⟨va, n, vc, l, Hp⟩
  case rest =>
    obtain ⟨va2, n2, vc2, l2, HP⟩ := hcut
    have q0 := HP.out.p0
    clear Hone Htwo hcm hcn
    by_cases k1 : K = 1
    · as_aux_lemma =>
      subst k1
      have q1 := HP.out.p1
      go_wp2_with (fail)
      refine (pGrant HP.out.st.pr A).mono ?_
      rintro e w1 ⟨rfl, Y1, st1⟩
      have HP1 := Lib.hid (HP.out.go st1)
      have q1' := HP1.out.p1
      clear q0 q1 st1
      go_wp2_with (fail)
      refine (qGrant HP1.out.st.pr A).mono ?_
      rintro e w2 ⟨he, Y2, st2⟩
      dsimp only at he
      rw [← Hs.out.1] at he
      subst he
      have HP2 := Lib.hid (HP1.out.go st2)
      clear q1' st2
      go_wp2_with (fail)
      go_ret
      exact ⟨rfl, Y2, _, HP2.out.st, ⟨by show AP.grO s.ow A = AP.grO s.ow' A; rw [Hs.out.1], Hs.out.2.1, Hs.out.2.2⟩, rfl, rfl, rfl, rfl⟩
    by_cases k2 : K = 2
    · as_aux_lemma =>
      subst k2
      have q1 := HP.out.p1
      clear k1
      go_wp2_with (fail)
      go_region_held3 (fun w' => w'.cell? ⟨w.heap.size, 1, none⟩ = some (.int .i64 A)) (first | exact q1 | exact q1a | exact q1b) (first
        | (go_at_call 9; (first | refine (pReturn HP.out.st.pr A).mono ?_ | refine (pReturn HP.out.st.pr.drew A).mono ?_); rintro e w1 ⟨rfl, Y1, sa⟩; have HP1 := (by first | exact Lib.hid (HP.out.go sa) | exact Lib.hid (HP.out.drew.go sa)); have q1a := HP1.out.p1; clear sa)
        | (go_at_call 25; refine (qReturn HP1.out.st.pr A).mono ?_; rintro e w2 ⟨he, Y2, sb⟩; dsimp only at he; rw [← Hs.out.1] at he; subst he; have HP2 := Lib.hid (HP1.out.go sb); have q1b := HP2.out.p1; clear sb))
      go_wp2_with (fail)
      go_ret
      exact ⟨rfl, Y2, _, HP2.out.st, ⟨by show AP.reO s.ow A = AP.reO s.ow' A; rw [Hs.out.1], Hs.out.2.1, Hs.out.2.2⟩, rfl, rfl, rfl, rfl⟩
    by_cases k3 : K = 3
    · as_aux_lemma =>
      subst k3
      have q1 := HP.out.p1
      have q2 := HP.out.p2
      have hla : Below wc.heap.size wc (wc.alloc (.cells #[] 5)) := (Below.refl wc.heap.size wc).alloc (Nat.le_refl _) _
      have HPa := Lib.hid (HP.out.below hla)
      have q4 := HPa.out.p4
      have hlo := HP.out.st.tc.size
      have Hra := Lib.hid (HP.out.rbn.below ((Below.refl wc.heap.size wc).alloc (Nat.le_refl _) (.cells #[] 5)))
      have hn2 := HP.out.two
      have hln := Lib.hid HP.out.len
      clear k1 k2
      go_wp2_with (at_builtin; go_must (refine wp_appR2 (wc.alloc (.cells #[] 5)) rfl _ _ rfl wc.heap.size (.slice (some ⟨wc.heap.size, 0, none⟩) 0 0) (.slice va2 n2 vc2) 0 [] l2 rfl (own_new wc) rfl Hra.out (by rw [hln.out]; omega) (by simp) ?_); intro v3 w3 ho3 hg3; have HP3 := Lib.hid (HPa.out.beside (Tch.of_grown hg3) (fun i hi => by simp [Value.ownBlock] at hi; subst hi; exact ⟨HP.out.yl _ (Nat.le_refl _), hlo, by have := HP.out.blt; omega⟩)); have c1 := HP3.out.p1; have c2 := HP3.out.p2)
      obtain ⟨ad, cap3, rfl⟩ := own_slice ho3
      rw [Nat.zero_add, hln.out, List.nil_append] at ho3
      rw [Nat.zero_add, hln.out]
      have hlv : ∀ b, (Value.slice ad n2 cap3).ownBlock = some b → wc.heap.size ≤ b ∧ b < w3.heap.size := fun b hb => ho3.lt b hb
      have hXv : ∀ b, (Value.slice ad n2 cap3).ownBlock = some b → ¬ X b := fun b hb hx => by
        have := HP.out.st.pr.xl b hx
        have := hlv b hb
        omega
      have Ho3 := Lib.hid ho3
      have HXv := Lib.hid hXv
      have Hlv := Lib.hid hlv
      clear ho3 hg3 hlv hXv q1 q2 q4 hla
      refine (pWrite HP3.out.st.pr A B (.slice ad n2 cap3) l2 Hbl.out (by rw [hln.out]; unfold maxLen; omega) (fun w' ht => rb_own (own_tch Ho3.out ht HXv.out))).mono ?_
      rintro e w4 ⟨rfl, bv4, Y4, st4⟩
      have HP4 := Lib.hid (HP3.out.go st4)
      have Ho4 := Lib.hid (own_tch Ho3.out st4.tc HXv.out)
      have HYv : Hid (∀ b, (Value.slice ad n2 cap3).ownBlock = some b → ¬ Y4 b ∧ w.heap.size ≤ b ∧ b ≠ w.heap.size) := Lib.hid (fun b hb => by
        have h1 := Hlv.out b hb
        have h2 := HP.out.blt
        refine ⟨fun hy => ?_, by omega, by omega⟩
        rcases st4.nu b hy with h3 | h3
        · exact HXv.out b hb h3
        · omega)
      clear st4 c1 c2
      go_wp2_with (fail)
      go_loopw [13] (fun i wr => ∃ j : Nat, j ≤ n2 ∧ i = .int .i64 j ∧ Hid (Pre X Y4 w wr { s with bv := bv4, bs := AP.wrB s.ow s.bs s.S A B l2 } w.heap.size 3 A B C va2 n2 vc2 l2) ∧
        Hid (wr.ownsRow wc.heap.size 5 1 (.slice ad n2 cap3) n2 ((List.replicate j 7 ++ l2.drop j).map (.int .u8)))) (fun i _ => n2 - (intOf i).toNat)
      case atStart => exact ⟨0, Nat.zero_le _, rfl, HP4, Lib.hid (by simpa using Ho4.out)⟩
      case round =>
        obtain ⟨j, hj, rfl, hp, ho⟩ := hrel
        by_cases hlt : j < n2
        · obtain ⟨b, cap', e⟩ := own_pos ho.out (by omega)
          simp only [Value.slice.injEq, true_and] at e
          obtain ⟨rfl, rfl⟩ := e
          have c4 := hp.out.p4
          have hcl := own_cell ho.out j hlt
          rw [fill_at 7 (by rw [hln.out]; exact hlt)] at hcl
          have hfz := ho.out.frozenAt j
          obtain ⟨a', cap2, ea, hcq⟩ := hp.out.rbn
          obtain ⟨bk, o, ea2, hcc⟩ := hcq (by rintro rfl; have := hln.out; simp at this; omega)
          simp only [Value.slice.injEq] at ea
          obtain ⟨rfl, eq1, rfl⟩ := ea
          subst ea2
          have hcd := hcc j (by rw [hln.out]; exact hlt)
          have hst := ho.out.stored j (.int .u8 7)
          rw [← List.map_set, fill_set 7 (by rw [hln.out]; exact hlt)] at hst
          have Hst := Lib.hid hst.1
          have Hpn := Lib.hid (hp.out.beside (Tch.of_grown hst.2) (fun i hi => HYv.out i (by injection hi with hi; subst hi; rfl)))
          clear eq1 hcc hcq hst
          go_wp2_with (fail)
          go_quiet (fail)
          go_wp2_with (fail)
          go_roundw
          case rel => exact ⟨j + 1, by omega, by go_num, Lib.hid (Hpn.out.drewN _), Lib.hid Hst.out⟩
          case measure => simp [intOf]; omega
        · have c1 := hp.out.p1
          have c2 := hp.out.p2
          have c4 := hp.out.p4
          go_wp2_with (fail)
          refine (qWrite hp.out.st.pr A B (.slice va2 n2 vc2) l2 (by rw [hln.out]; unfold maxLen; omega) HP.out.byt (fun w' ht => hp.out.rb w' (ht.mono (fun i hi => .inl hi)))).mono ?_
          rintro e w6 ⟨he, vs6, Y6, st6⟩
          dsimp only at he
          rw [← Hs.out.1] at he
          subst he
          have HP6 := Lib.hid (hp.out.go st6)
          clear st6
          go_wp2_with (fail)
          go_ret
          exact ⟨rfl, Y6, _, HP6.out.st, Hs.out.write H.out.ar A B l2 bv4 vs6, rfl, rfl, rfl, rfl⟩
    by_cases k4 : K = 4
    · as_aux_lemma =>
      subst k4
      have q1 := HP.out.p1
      have q2 := HP.out.p2
      have q3 := HP.out.p3
      have hlo := HP.out.st.tc.size
      clear k1 k2 k3
      go_wp2_with (fail)
      refine (pRead HP.out.st.pr A B C Hbl.out HC.out.1 HC.out.2).mono ?_
      rintro e w1 ⟨v, bv1, Y1, rfl, ho1, st1, hy1⟩
      have HP1 := Lib.hid (HP.out.go st1)
      have c1 := HP1.out.p1
      have c2 := HP1.out.p2
      have c3 := HP1.out.p3
      obtain ⟨hsm, hrd⟩ := Hs.out.read H.out.ar A B C bv1 s.vs
      have Hrd : Hid (AP.rrL s.ow s.F s.S A B C = AP.rdL s.ow s.bs s.S A B C) := Lib.hid (by rw [hrd, Hs.out.1])
      obtain ⟨M, hM⟩ : ∃ M, M = (AP.rdL s.ow s.bs s.S A B C).length := ⟨_, rfl⟩
      rw [← hM] at ho1
      have HM := Lib.hid hM
      obtain ⟨ad, cap1, rfl⟩ := own_slice ho1
      have Ho1 := Lib.hid ho1
      have Hy1 := Lib.hid hy1
      clear q1 q2 q3 st1 hsm hrd hM ho1 hy1
      go_wp2_with (fail)
      refine (qRead HP1.out.st.pr A B C HC.out.1 HC.out.2).mono ?_
      rintro e w2 ⟨v2, vs2, Y2, he, hrb2, st2⟩
      dsimp only at he hrb2
      rw [← Hs.out.1] at he hrb2
      subst he
      have HP2 := Lib.hid (HP1.out.go st2)
      have Ho2 := Lib.hid (own_tch Ho1.out st2.tc Hy1.out)
      have hcv1 := conv_rb (rb_own Ho2.out)
      have hcv2 := conv_rb hrb2
      rw [Hrd.out] at hcv2
      have hpos : ∀ b, (Value.slice ad M cap1).ownBlock = some b → ¬ Y2 b ∧ w.heap.size ≤ b ∧ b ≠ w.heap.size := fun b hb => by
        have h1 := Ho1.out.lt b hb
        have h2 := HP.out.blt
        refine ⟨fun hy => ?_, by omega, by omega⟩
        rcases st2.nu b hy with h3 | h3
        · exact Hy1.out b hb h3
        · omega
      have Hpos := Lib.hid hpos
      have Hsm := Lib.hid (Hs.out.read H.out.ar A B C bv1 vs2).1
      clear c1 c2 c3 st2 hrb2 hpos
      have hM63 : M ≤ 9223372036854775807 := by
        have h1 := Ho1.out
        have := own_len h1
        omega
      go_wp2_with (fail)
      go_loopw [19] (fun i wr => ∃ j : Nat, j ≤ M ∧ i = .int .i64 j ∧ Hid (Pre X Y2 w wr { s with bv := bv1, bs := AP.rdB s.ow s.bs s.S A B C, vs := vs2 } w.heap.size 4 A B C va2 n2 vc2 l2) ∧
        Hid (wr.ownsRow wc.heap.size 5 1 (.slice ad M cap1) M ((List.replicate j 9 ++ (AP.rdL s.ow s.bs s.S A B C).drop j).map (.int .u8)))) (fun i _ => M - (intOf i).toNat)
      case atStart => exact ⟨0, Nat.zero_le _, rfl, HP2, Lib.hid (by simpa using Ho2.out)⟩
      case round =>
        obtain ⟨j, hj, rfl, hp, ho⟩ := hrel
        clear hcv1 hcv2
        by_cases hlt : j < M
        · obtain ⟨b, cap', e⟩ := own_pos ho.out (by omega)
          simp only [Value.slice.injEq, true_and] at e
          obtain ⟨rfl, rfl⟩ := e
          have hcl := own_cell ho.out j hlt
          have hfz := ho.out.frozenAt j
          have hst := ho.out.stored j (.int .u8 9)
          rw [← List.map_set, fill_set 9 (by rw [← HM.out]; exact hlt)] at hst
          have Hst := Lib.hid hst.1
          have Hpn := Lib.hid (hp.out.beside (Tch.of_grown hst.2) (fun i hi => Hpos.out i (by injection hi with hi; subst hi; rfl)))
          clear hst
          go_wp2_with (fail)
          go_roundw
          case rel => exact ⟨j + 1, by omega, by go_num, Hpn, Hst⟩
          case measure => simp [intOf]; omega
        · go_wp2_with (fail)
          go_ret
          exact ⟨rfl, Y2, _, hp.out.st, Hsm.out, rfl, rfl, rfl, rfl⟩
    have hne := Lib.hid (show ¬ K = 1 ∧ ¬ K = 2 ∧ ¬ K = 3 ∧ ¬ K = 4 from ⟨k1, k2, k3, k4⟩)
    go_upto_region 29 with fail
    clear k1 k2 k3 k4
    go_cut [172] from 155 to 172 (fun s172 wx => s172 = .bool false ∧ ∃ (Y2 : Nat → Prop) (s2 : St), Hid (Pre X Y2 w wx s2 w.heap.size K A B C va2 n2 vc2 l2) ∧ Hid (Same s2 ∧ s2.g = s.g ∧ s2.g' = s.g' ∧ s2.np = s.np ∧ s2.S = s.S))
    case first =>
      by_cases k5 : K = 5
      · subst k5
        have q1 := HP.out.p1
        have q2 := HP.out.p2
        go_region_held3 (fun w' => w'.cell? ⟨w.heap.size, 0, none⟩ = some (.int .i64 5) ∧ w'.cell? ⟨w.heap.size, 1, none⟩ = some (.int .i64 A) ∧ w'.cell? ⟨w.heap.size, 2, none⟩ = some (.int .i64 B)) (first | exact ⟨q0, q1, q2⟩ | exact q1a | exact q1b) (first
          | (go_at_call 15; (first | refine (pPass HP.out.st.pr A B).mono ?_ | refine (pPass HP.out.st.pr.drew A B).mono ?_); rintro e w1 ⟨rfl, Y1, sa⟩; have HP1 := (by first | exact Lib.hid (HP.out.go sa) | exact Lib.hid (HP.out.drew.go sa)); have q1a := And.intro HP1.out.p0 (And.intro HP1.out.p1 HP1.out.p2); clear sa)
          | (go_at_call 28; refine (qPass HP1.out.st.pr A B).mono ?_; rintro e w2 ⟨he, Y2, sb⟩; dsimp only at he; rw [← Hs.out.1] at he; subst he; have HP2 := Lib.hid (HP1.out.go sb); have q1b := And.intro HP2.out.p0 (And.intro HP2.out.p1 HP2.out.p2); clear sb))
        go_wp2_with (fail)
        go_meet
        case rel => exact ⟨rfl, Y2, _, HP2, Lib.hid ⟨⟨by show AP.paO s.ow A B = AP.paO s.ow' A B; rw [Hs.out.1], Hs.out.2.1, Hs.out.2.2⟩, rfl, rfl, rfl, rfl⟩⟩
      · have hd : (K == 5) = false := by simp [k5]
        go_quiet (fail)
        go_wp2_with (fail)
        go_meet
        case rel => exact ⟨rfl, X, s, Lib.hid (HP.out.drewN _), Lib.hid ⟨Hs.out, rfl, rfl, rfl, rfl⟩⟩
    case rest =>
      obtain ⟨rfl, Y2, s2, HP2, Hs2⟩ := hcut
      obtain ⟨hsm, e1, e2, e3, e4⟩ := Hs2.out
      have Hsm := Lib.hid hsm
      have HE := Lib.hid (And.intro e1 (And.intro e2 (And.intro e3 e4)))
      have q1 := HP2.out.p1
      have Hc1 := Lib.hid (pPages HP2.out.st.pr A)
      rw [e1] at Hc1
      clear q0 hsm e1 e2 e3 e4 Hs2 hne
      go_wp2_with (fail)
      refine Hc1.out.mono ?_
      rintro e w1 ⟨v1, rfl, ho1, hb1⟩
      have HP3 := Lib.hid (HP2.out.below hb1)
      have q1' := HP3.out.p1
      have Hc2 := Lib.hid (qPages HP3.out.st.pr A)
      rw [HE.out.2.1, ← Hsm.out.1] at Hc2
      obtain ⟨M, hM⟩ : ∃ M, M = (AP.pages s2.ow A).length := ⟨_, rfl⟩
      rw [← hM] at ho1
      have HM := Lib.hid hM
      obtain ⟨ad, cap1, rfl⟩ := own_slice ho1
      have Ho1 := Lib.hid ho1
      clear q1 Hc1 ho1 hb1 hM
      go_wp2_with (fail)
      refine Hc2.out.mono ?_
      rintro e w2 ⟨v2, rfl, ho2, hb2⟩
      have HP4 := Lib.hid (HP3.out.below hb2)
      have q1 := HP4.out.p1
      have Ho1b := Lib.hid (own_below Ho1.out hb2)
      rw [← HM.out] at ho2
      obtain ⟨ad2, cap2, rfl⟩ := own_slice ho2
      have Ho2 := Lib.hid ho2
      have HoA : Hid (∀ m, Calls Try.prog 12 #[.pointer (some ⟨s.g, 0, none⟩), .int .i64 A] (w2.drewN m) fun e w' => e = .returned (.int .i64 (AP.owner s2.ow A)) ∧ w' = w2.drewN m) := Lib.hid (fun m => by
        have := owner_any (HP4.out.st.pr.drewN m).ar A
        rw [HE.out.1] at this
        exact this.mono fun _ _ ⟨h1, h2⟩ => ⟨h1, h2.symm⟩)
      have HoR : Hid (∀ m, Calls Try.prog 30 #[.pointer (some ⟨s.g', 0, none⟩), .int .i64 A] (w2.drewN m) fun e w' => e = .returned (.int .i64 (AP.owner s2.ow A)) ∧ w' = w2.drewN m) := Lib.hid (fun m => by
        have := rOwner_any (HP4.out.st.pr.drewN m).rf A
        rw [HE.out.2.1, ← Hsm.out.1] at this
        exact this.mono fun _ _ ⟨h1, h2⟩ => ⟨h1, h2.symm⟩)
      have hpos : ∀ b, (Value.slice ad M cap1).ownBlock = some b → ¬ Y2 b ∧ w.heap.size ≤ b ∧ b ≠ w.heap.size ∧ b < w1.heap.size := fun b hb => by
        have h1 := Ho1.out.lt b hb
        have h2 := HP2.out.blt
        have h3 := HP2.out.st.tc.size
        exact ⟨HP2.out.yl b h1.1, by omega, by omega, h1.2⟩
      have Hpos := Lib.hid hpos
      have hM63 : M ≤ 9223372036854775807 := own_len ho2
      have hlM : (AP.pages s2.ow A).length = M := HM.out.symm
      have HlM := Lib.hid hlM
      clear q1' Hc2 ho2 hb2 hpos hlM
      go_wp2_with (fail)
      go_quiet ((first | (go_at_call 12; exact Calls.quiet_of_same (HoA.out _)) | (go_at_call 30; exact Calls.quiet_of_same (HoR.out _))))
      clear q1
      go_wp2_with (fail)
      go_loopw [22, 23] (fun ok i wr => ok = .bool true ∧ ∃ j : Nat, j ≤ M ∧ i = .int .i64 j ∧ Hid (Pre X Y2 w wr s2 w.heap.size K A B C va2 n2 vc2 l2) ∧
        Hid (wr.ownsRow wc.heap.size 3 1 (.slice ad M cap1) M ((List.replicate j 99 ++ (AP.pages s2.ow A).drop j).map (.int .i64))) ∧ Hid (wr.ownsRow w1.heap.size 3 1 (.slice ad2 M cap2) M ((AP.pages s2.ow A).map (.int .i64)))) (fun _ i _ => M - (intOf i).toNat)
      case atStart => exact ⟨rfl, 0, Nat.zero_le _, rfl, Lib.hid (HP4.out.drewN _), Lib.hid (by simp only [List.replicate_zero, List.nil_append, List.drop_zero]; exact Ho1b.out), Lib.hid Ho2.out⟩
      case round =>
        obtain ⟨rfl, j, hj, rfl, hp, ho, hom⟩ := hrel
        by_cases hlt : j < M
        · obtain ⟨b, cap', e⟩ := own_pos ho.out (by omega)
          simp only [Value.slice.injEq, true_and] at e
          obtain ⟨rfl, rfl⟩ := e
          obtain ⟨b2, cap'', e⟩ := own_pos hom.out (by omega)
          simp only [Value.slice.injEq, true_and] at e
          obtain ⟨rfl, rfl⟩ := e
          have hcl := own_cell ho.out j hlt
          rw [fill_at 99 (by rw [HlM.out]; exact hlt)] at hcl
          have hcm := own_cell hom.out j hlt
          have hfz := ho.out.frozenAt j
          have hst := ho.out.stored j (.int .i64 99)
          rw [← List.map_set, fill_set 99 (by rw [HlM.out]; exact hlt)] at hst
          have Hst := Lib.hid hst.1
          have Hpn := Lib.hid (hp.out.beside (Tch.of_grown hst.2) (fun i hi => by obtain ⟨h1, h2, h3, _⟩ := Hpos.out i (by injection hi with hi; subst hi; rfl); exact ⟨h1, h2, h3⟩))
          have Hmn := Lib.hid (hom.out.kept hst.2 (.inr (by
            have h1 := (Hpos.out b rfl).2.2.2
            have h2 := (hom.out.lt b2 rfl).1
            simp [Value.ownBlock]; omega)))
          clear hst
          go_wp2_with (fail)
          go_quiet (fail)
          go_wp2_with (fail)
          go_roundw
          case rel => exact ⟨rfl, j + 1, by omega, by go_num, Lib.hid (Hpn.out.drewN _), Lib.hid Hst.out, Lib.hid Hmn.out⟩
          case measure => simp [intOf]; omega
        · go_wp2_with (fail)
          go_ret
          exact ⟨rfl, Y2, s2, hp.out.st, Hsm.out, HE.out.1, HE.out.2.1, HE.out.2.2.1, HE.out.2.2.2⟩
end Go.Proofs.Ytmkfnnhhioeioaa
