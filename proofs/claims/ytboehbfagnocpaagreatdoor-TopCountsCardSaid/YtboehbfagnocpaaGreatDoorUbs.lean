/- Tsq. -/
import Derived.Test.YtboehbfagnocpaaGreatDoorUbr
set_option linter.unusedVariables false
set_option linter.unusedSimpArgs false
set_option maxRecDepth 100000
open Go.Proofs.Tryz
open Go.Lib (hid)
namespace Go.Proofs.YtboehbfagnocpaaGreatDoor
open Go.RowKit Go.PlainAid Go.Shelf
open SP
open PM (Cd An Sd Vl upd upd_same upd_ne)
section
variable {key : ByteArray} {h : Int} {bk nw ns nc : Nat} {p : Pl} {s s' : Mac} {w w' : World} {c : Nat}
def TbS (key : ByteArray) (h : Int) (bk nw ns nc : Nat) (p : Pl) (s : Mac) (w : World) : Prop := Tab w ∧ ∀ b, tabR.B b → ¬ (svR key h bk nw ns nc p s).B b
theorem TbS.turn {p' : Pl} (h1 : TbS key h bk nw ns nc p s w) (t : Turn (svR key h bk nw ns nc p s) (svR key h bk nw ns nc p' s') w w') : TbS key h bk nw ns nc p' s' w' :=
  ⟨tabR.keep h1.1 t.tch h1.2, fun b hb hx => (t.nu b hx).elim (h1.2 b hb) (fun hl => by have := tab_lt h1.1 hb; omega)⟩
theorem TbS.hav {L : List Res} (h1 : TbS key h bk nw ns nc p s w) (J : Hav (svR key h bk nw ns nc p s).B w L w') : Tab w' := tabR.keep h1.1 J.tch h1.2
theorem wkV_none {wi : Nat} : (lst nw (wkV p s)).set wi (.pointer none) = lst nw (wkV p { s with wk := upd s.wk wi none }) := by
  rw [lst_set]
  refine lst_same (fun j _ => ?_)
  unfold wkV
  dsimp only
  by_cases e : j = wi
  · subst e; rw [upd_same, upd_same]
  · rw [upd_ne _ _ e, upd_ne _ _ e]
set_option maxHeartbeats 4000000 in
theorem leave_ok (hk : KeyI key h bk) (hns : 1 ≤ ns) (hR : (svR key h bk nw ns nc p s).R w) {wi : Nat} (hw : wi < nw) {k : PM.Wk Cd An} (hkk : s.wk wi = some k) (hp : k.ph = 2) (hof : k.of < nc) (ha : PM.aOk k.cmd k.ans) (hT : ∀ d, k.cmd = .incr d → k.ans.st = 6 ∧ TbS key h bk nw ns nc p s w) (hout : (rpS key (s.out k.of)).size ≤ 60000) :
    Calls prog 82 #[.pointer (some ⟨p.b, 0, none⟩), .int .i64 wi, .pointer (some ⟨(p.wp wi).b, 0, none⟩)] w fun e w' =>
      e = .returned (.tuple #[]) ∧ Turn (svR key h bk nw ns nc p s) (svR key h bk nw ns nc p (PM.leave s wi k)) w w' := by
  obtain ⟨l, hl⟩ : ∃ l, p.wp wi = l := ⟨_, rfl⟩
  have HW0 := sv_wk hR hw hkk
  rw [hl] at HW0
  have hhv := HW0.get 3 rfl
  rw [if_neg (by omega), if_neg (by omega)] at hhv
  obtain ⟨g, gc, hg⟩ := row_one hhv
  rw [hg] at hhv
  have g0 : w.cell? ⟨g, 0, none⟩ = some (.int .i64 0) := row_at hhv 0 (by decide)
  have c16 : w.cell? ⟨l.b, 16, none⟩ = some (.slice (some ⟨g, 0, none⟩) 1 gc) := by rw [← hg]; exact cA (HW0.get 0 rfl) 16
  have H := Hav.open hR
  have b6 : w.cell? ⟨p.b, 6, none⟩ = some (.slice (some ⟨p.slb, 0, none⟩) ns p.slc) := cA (H.get 0 rfl) 6
  have t0 : w.cell? ⟨p.slb, 0, none⟩ = some (.int .i64 (hold s.holder)) := by rw [row_at (H.get 3 rfl) 0 (by rw [lst_len]; omega), lst_get (by omega)]; rfl
  have tf := row_fz (H.get 3 rfl) 0
  have hn0 : (0 : Int) < ns := by omega
  -- the stripe let go
  have J1 := H.turn 3 rfl (st_set (s' := PM.leave s wi k) (x := -1) (H.get 3 rfl) (.inl ⟨rfl, rfl⟩))
  obtain ⟨w1, hw1⟩ : ∃ w1, w.setCell ⟨p.slb, 0, none⟩ (.int .i64 (-1)) = w1 := ⟨_, rfl⟩
  rw [hw1] at J1
  have HJ1 := hid J1
  have HW1 := hid hw1
  have HHW := hid (And.intro hw (And.intro hkk (And.intro hp (And.intro hl (And.intro hof (And.intro ha (And.intro hT (And.intro hout hk))))))))
  rw [hl]
  clear hR hw hkk hp hl hof ha hT hout hk H J1 hw1 HW0 hhv
  go_enter func82, ntmps82
  go_wp2_with (fail)
  go_loopw [14] (fun i wr => (i = .int .i64 0 ∧ wr = w) ∨ (i = .int .i64 1 ∧ wr = w1)) (fun i _ => 1 - (intOf i).toNat)
  case atStart => exact .inl ⟨rfl, rfl⟩
  case round =>
    rcases hrel with ⟨rfl, hr⟩ | ⟨rfl, hr⟩
    · subst hr
      go_wp2_with (fail)
      go_roundw
      case rel => exact .inr ⟨by first | rfl | trivial | simp, HW1.out⟩
      case measure => simp [intOf]
    · subst hr
      clear g0 c16 b6 t0 tf HW1
      obtain ⟨hw, hkk, hp, hl, hof, ha, hT, hout, hk⟩ := HHW.out
      have g8 : (fam nw (fun w => wkR key (p.wp w) (s.wk w))).R wr := HJ1.out.get 8 rfl
      have hwk : (wkR key (p.wp wi) (s.wk wi)).R wr := fam_get g8 hw
      rw [hkk, hl] at hwk
      have HK : Hav (many (wkL key l k)).B wr (wkL key l k) wr := Hav.open hwk
      have c15 : wr.cell? ⟨l.b, 15, none⟩ = some (.int .i64 k.ph) := cA (HK.get 0 rfl) 15
      have f15 := cZ (HK.get 0 rfl) 15
      have c13 : wr.cell? ⟨l.b, 13, none⟩ = some (.int .i64 0) := cA (HK.get 0 rfl) 13
      have f13 := cZ (HK.get 0 rfl) 13
      have t1 := cl_set (HK.get 0 rfl) 15 (.int .i64 0)
      have t2 := t1.trans (cl_set t1.here 13 (.int .i64 1))
      have K2 := HK.turn 0 rfl t2
      have t4 : Turn (wkR key (p.wp wi) (s.wk wi)) (many ((wkL key l k).set 0 (cAt l.b (((wkC l k).setIfInBounds 15 (.int .i64 0)).setIfInBounds 13 (.int .i64 1)) 143))) wr ((wr.setCell ⟨l.b, 15, none⟩ (.int .i64 0)).setCell ⟨l.b, 13, none⟩ (.int .i64 1)) := by rw [hkk, hl]; exact K2.shut
      have J3 := HJ1.out.turn 8 rfl (fam_turn g8 hw t4)
      go_upto_region 7 with fail
      obtain ⟨w3, hw3⟩ : ∃ w3, (wr.setCell ⟨l.b, 15, none⟩ (.int .i64 0)).setCell ⟨l.b, 13, none⟩ (.int .i64 1) = w3 := ⟨_, rfl⟩
      rw [hw3] at J3 K2
      rw [hw3]
      obtain ⟨L, hL⟩ : ∃ L, (((svL key h bk nw ns nc p s).set 3 (rowAt (.slice (some ⟨p.slb, 0, none⟩) ns p.slc) 3 1 ns (lst ns (stV (PM.leave s wi k))))).set 8 (fam nw (upd (fun w => wkR key (p.wp w) (s.wk w)) wi (many ((wkL key l k).set 0 (cAt l.b (((wkC l k).setIfInBounds 15 (.int .i64 0)).setIfInBounds 13 (.int .i64 1)) 143)))))) = L := ⟨_, rfl⟩
      rw [hL] at J3
      have hL7 : L[7]? = some (fam nc (clR key p s)) := by rw [← hL]; rfl
      have hL0 : L[0]? = some (cAt p.b (svC nw ns nc p) 81) := by rw [← hL]; rfl
      have hL1 : L[1]? = some (rowAt (.slice (some ⟨p.clb, 0, none⟩) nc p.clc) 82 1 nc (lst nc (fun c => .pointer (some ⟨p.cb c, 0, none⟩)))) := by rw [← hL]; rfl
      have HL := hid (And.intro hL7 (And.intro hL0 (And.intro hL1 hL)))
      have w13 : w3.cell? ⟨l.b, 13, none⟩ = some (.int .i64 1) := cA (K2.get 0 rfl) 13
      have w01 : w3.cell? ⟨l.b, 1, none⟩ = some (.slice (some ⟨l.cb, 0, none⟩) 1 l.cc) := cA (K2.get 0 rfl) 1
      have w11 : w3.cell? ⟨l.b, 11, none⟩ = some (.int .i64 k.of) := cA (K2.get 0 rfl) 11
      have b4 : w3.cell? ⟨p.b, 4, none⟩ = some (.slice (some ⟨p.clb, 0, none⟩) nc p.clc) := cA (J3.get 0 hL0) 4
      have r4 : w3.cell? ⟨p.clb, k.of, none⟩ = some (.pointer (some ⟨p.cb k.of, 0, none⟩)) := by rw [row_at (J3.get 1 hL1) k.of (by rw [lst_len]; exact hof), lst_get hof]
      have n1 : (k.of : Int) < nc := by omega
      have HK2 := hid (fun w' (hb : Below w3.heap.size w3 w') => K2.below hb)
      have HJ3 := hid J3
      clear c15 f15 c13 f13 t1 t2 t4 K2 J3 HK hwk g8 HJ1 hL hL7 hL0 hL1 hw3
      go_quiet (fail)
      obtain ⟨q1, hq1⟩ : ∃ n, n = nq := ⟨_, rfl⟩
      rw [← hq1]
      clear hq1
      go_wp2_with (fail)
      go_quiet (fail)
      obtain ⟨w4, hw4⟩ : ∃ w4, (w3.drewN q1).drewN nq = w4 := ⟨_, rfl⟩
      have J4 := (HJ3.out.drewN q1).drewN nq
      have K4 := HK2.out ((w3.drewN q1).drewN nq) ((below_drewN' w3 q1).trans (below_drewN' (w3.drewN q1) nq))
      rw [hw4] at J4 K4
      rw [hw4]
      have HJ4 := hid J4
      have HK4 := hid (fun w' (hb : Below w4.heap.size w4 w') => K4.below hb)
      clear J4 K4 hw4 HJ3 HK2 w13 w01 w11 b4 r4
      have HS : Hid (∀ w', Below w4.heap.size w4 w' → w'.cell? ⟨p.cb k.of, 0, none⟩ = some (.pointer (some ⟨p.nb k.of, 0, none⟩))) := hid (fun w' hb => cA (fam_get ((HJ4.out.below hb).get 7 HL.out.1) hof).1 0)
      have HRp : Hid (∀ w', Below w4.heap.size w4 w' → Calls prog 144 #[.pointer (some ⟨p.b, 0, none⟩), .pointer (some ⟨l.b, 0, none⟩)] w' fun e w'' => e = .returned (.string (rpC key (k.cmd, k.ans))) ∧ Below w'.heap.size w' w'') := hid (fun w' hb => by
        have K := HK4.out w' hb
        have h2 := K.get 2 rfl
        rw [if_pos hp, if_pos hp] at h2
        exact sreply_ok hk.size ha (fun d e => ⟨(hT d e).1, (hT d e).2.hav (HJ4.out.below hb)⟩) (K.get 0 rfl) (fun j hj => by
          rw [Array.getElem?_setIfInBounds_ne (by omega), Array.getElem?_setIfInBounds_ne (by omega)]) (K.get 1 rfl) h2)
      have hrz := rpC_size hk.size ha
      obtain ⟨tx, htx⟩ : ∃ tx, rpC key (k.cmd, k.ans) = tx := ⟨_, rfl⟩
      rw [htx] at HRp hrz
      have HPu : Hid (∀ w', Below w4.heap.size w4 w' → Calls prog 143 #[.pointer (some ⟨p.nb k.of, 0, none⟩), .string tx] w' fun e w'' => e = .returned (.tuple #[]) ∧ Hav (svR key h bk nw ns nc p s).B w (L.set 7 (fam nc (upd (clR key p s) k.of ((cAt (p.cb k.of) #[.pointer (some ⟨p.nb k.of, 0, none⟩), .int .i64 (s.seq k.of), .bool (s.busy k.of)] 86).and (cnR (p.nb k.of) (txS key (s.q k.of)) (rpS key (s.out k.of) ++ tx)))))) w'') := hid (fun w' hb => by
        have J := HJ4.out.below hb
        have g7 := J.get 7 HL.out.1
        have hcl := fam_get g7 hof
        refine (put_ok hcl.2.1 (by omega)).mono ?_
        rintro e w'' ⟨rfl, t⟩
        exact ⟨rfl, J.turn 7 HL.out.1 (fam_turn g7 hof (t.right hcl))⟩)
      have HTX := hid htx
      have S0 := HS.out w4 (Below.refl _ _)
      have hL7 : (L.set 7 (fam nc (upd (clR key p s) k.of ((cAt (p.cb k.of) #[.pointer (some ⟨p.nb k.of, 0, none⟩), .int .i64 (s.seq k.of), .bool (s.busy k.of)] 86).and (cnR (p.nb k.of) (txS key (s.q k.of)) (rpS key (s.out k.of) ++ tx))))))[7]? = some (fam nc (upd (clR key p s) k.of ((cAt (p.cb k.of) #[.pointer (some ⟨p.nb k.of, 0, none⟩), .int .i64 (s.seq k.of), .bool (s.busy k.of)] 86).and (cnR (p.nb k.of) (txS key (s.q k.of)) (rpS key (s.out k.of) ++ tx))))) := List.getElem?_set_self (List.getElem?_eq_some_iff.1 HL.out.1).1
      obtain ⟨L2, hL2⟩ : ∃ L2, L.set 7 (fam nc (upd (clR key p s) k.of ((cAt (p.cb k.of) #[.pointer (some ⟨p.nb k.of, 0, none⟩), .int .i64 (s.seq k.of), .bool (s.busy k.of)] 86).and (cnR (p.nb k.of) (txS key (s.q k.of)) (rpS key (s.out k.of) ++ tx))))) = L2 := ⟨_, rfl⟩
      rw [hL2] at HPu hL7
      have HL2 := hid (And.intro hL7 hL2)
      have HZ : Hid (∀ w', Hav (svR key h bk nw ns nc p s).B w L2 w' → w'.cell? ⟨p.cb k.of, 0, none⟩ = some (.pointer (some ⟨p.nb k.of, 0, none⟩))) := hid (fun w' J => by
        have g := fam_get (J.get 7 HL2.out.1) hof
        rw [upd_same] at g
        exact cA g.1 0)
      clear hL2 hL7 htx hrz
      go_upto_region 9 with fail
      go_cut [] from 56 to 63 (fun wx => Hid (Hav (svR key h bk nw ns nc p s).B w L2 wx))
      case first =>
        go_region_held3 (fun w' => w'.cell? ⟨p.cb k.of, 0, none⟩ = some (.pointer (some ⟨p.nb k.of, 0, none⟩))) (first | exact S0 | exact HZ.out _ HJ7.out | exact HS.out _ HB6.out | exact HS.out _ (Below.refl _ _).drew) (first
          | (go_at_call 144; refine (HRp.out _ (by first | exact (Below.refl _ _).drew | exact Below.refl _ _)).mono ?_; rintro e w6 ⟨rfl, hb6⟩; have hbb : Below w4.heap.size w4 w6 := Below.trans (by first | exact (Below.refl _ _).drew | exact Below.refl _ _) (hb6.mono (Nat.le_refl _)); have HB6 := hid hbb; have z6 := HS.out w6 hbb; clear hb6 hbb)
          | (go_at_call 143; refine (HPu.out _ HB6.out).mono ?_; rintro e w7 ⟨rfl, hj7⟩; have HJ7 := hid hj7; clear hj7))
        all_goals (go_wp2_with fail)
        all_goals (go_meet; exact HJ7)
      case rest =>
        have J7 := hcut.out
        have g7 := J7.get 7 HL2.out.1
        have hcl := fam_get g7 hof
        rw [upd_same] at hcl
        have d2 : wc.cell? ⟨p.cb k.of, 2, none⟩ = some (.bool (s.busy k.of)) := cA hcl.1 2
        have e2 := cZ hcl.1 2
        have t8 := cl_set hcl.1 2 (.bool false)
        have t9 : Turn (upd (clR key p s) k.of ((cAt (p.cb k.of) #[.pointer (some ⟨p.nb k.of, 0, none⟩), .int .i64 (s.seq k.of), .bool (s.busy k.of)] 86).and (cnR (p.nb k.of) (txS key (s.q k.of)) (rpS key (s.out k.of) ++ tx))) k.of) ((cAt (p.cb k.of) #[.pointer (some ⟨p.nb k.of, 0, none⟩), .int .i64 (s.seq k.of), .bool false] 86).and (cnR (p.nb k.of) (txS key (s.q k.of)) (rpS key (s.out k.of) ++ tx))) wc (wc.setCell ⟨p.cb k.of, 2, none⟩ (.bool false)) := by
          rw [upd_same]
          exact t8.left hcl
        have J8 := J7.turn 7 HL2.out.1 (fam_turn g7 hof t9)
        rw [PM.upd_upd] at J8
        go_upto_region 11 with fail
        obtain ⟨w8, hw8⟩ : ∃ w8, wc.setCell ⟨p.cb k.of, 2, none⟩ (.bool false) = w8 := ⟨_, rfl⟩
        rw [hw8] at J8
        rw [hw8]
        obtain ⟨L3, hL3⟩ : ∃ L3, L2.set 7 (fam nc (upd (clR key p s) k.of ((cAt (p.cb k.of) #[.pointer (some ⟨p.nb k.of, 0, none⟩), .int .i64 (s.seq k.of), .bool false] 86).and (cnR (p.nb k.of) (txS key (s.q k.of)) (rpS key (s.out k.of) ++ tx))))) = L3 := ⟨_, rfl⟩
        rw [hL3] at J8
        have hL := HL.out.2.2.2
        have hL2 := HL2.out.2
        subst hL
        have h2' : L3[2]? = some (rowAt (.slice (some ⟨p.wlb, 0, none⟩) nw p.wlc) 140 1 nw (lst nw (wkV p s))) := by rw [← hL3, ← hL2]; rfl
        have h0' : L3[0]? = some (cAt p.b (svC nw ns nc p) 81) := by rw [← hL3, ← hL2]; rfl
        have b5 : w8.cell? ⟨p.b, 5, none⟩ = some (.slice (some ⟨p.wlb, 0, none⟩) nw p.wlc) := cA (J8.get 0 h0') 5
        have r5 : w8.cell? ⟨p.wlb, wi, none⟩ = some (wkV p s wi) := by rw [row_at (J8.get 2 h2') wi (by rw [lst_len]; exact hw), lst_get hw]
        have z5 := row_fz (J8.get 2 h2') wi
        have n5 : (wi : Int) < nw := by omega
        have J9 := J8.turn 2 h2' (row_set (J8.get 2 h2') wi (.pointer none))
        rw [wkV_none] at J9
        have h8' : (L3.set 2 (rowAt (.slice (some ⟨p.wlb, 0, none⟩) nw p.wlc) 140 1 nw (lst nw (wkV p { s with wk := upd s.wk wi none }))))[8]? = some (fam nw (upd (fun w => wkR key (p.wp w) (s.wk w)) wi (many ((wkL key l k).set 0 (cAt l.b (((wkC l k).setIfInBounds 15 (.int .i64 0)).setIfInBounds 13 (.int .i64 1)) 143))))) := by rw [← hL3, ← hL2]; rfl
        have g10 := J9.get 8 h8'
        have J10 := J9.turn 8 h8' (fam_turn g10 hw (Turn.conv (r' := emp) (fam_get g10 hw) (fun _ => trivial) (fun b hb => hb.elim)))
        rw [PM.upd_upd] at J10
        have HE : Hid (Turn (svR key h bk nw ns nc p s) (svR key h bk nw ns nc p (PM.leave s wi k)) w (w8.setCell ⟨p.wlb, wi, none⟩ (.pointer none))) := hid (by
          have h6 := J10.shut
          have e7 : upd (clR key p s) k.of ((cAt (p.cb k.of) #[.pointer (some ⟨p.nb k.of, 0, none⟩), .int .i64 (s.seq k.of), .bool false] 86).and (cnR (p.nb k.of) (txS key (s.q k.of)) (rpS key (s.out k.of) ++ tx))) = clR key p (PM.leave s wi k) := by
            funext j
            unfold PM.leave clR
            dsimp only
            by_cases e : j = k.of
            · subst e
              rw [upd_same, upd_same, upd_same, rpS_snoc, HTX.out]
            · rw [upd_ne _ _ e, upd_ne _ _ e, upd_ne _ _ e]
          have e8 : upd (fun w => wkR key (p.wp w) (s.wk w)) wi emp = fun v => wkR key (p.wp v) ((PM.leave s wi k).wk v) := by
            funext j
            unfold PM.leave
            dsimp only
            by_cases e : j = wi
            · subst e; rw [upd_same, upd_same]; rfl
            · rw [upd_ne _ _ e, upd_ne _ _ e]
          rw [e8, ← hL3, ← hL2, e7] at h6
          exact h6)
        clear J10 J9 J8 J7 g7 hcl t8 t9 g10
        go_wp2_with (fail)
        all_goals go_end0
        all_goals exact ⟨rfl, HE.out⟩
end
end Go.Proofs.YtboehbfagnocpaaGreatDoor
