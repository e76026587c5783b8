/- Tsu. -/
import Derived.Test.YtboehbfagnocpaaGreatDoorUbk
set_option linter.unusedVariables false
set_option linter.unusedSimpArgs false
set_option maxRecDepth 100000
open Go.Proofs.Tryz
open Go.Lib (hid)
namespace Go.Proofs.YtboehbfagnocpaaGreatDoor
open Go.RowKit Go.PlainAid Go.Shelf
open SP
open PM (Cd An Sd Vl upd upd_same upd_ne)
structure Nx (key : ByteArray) (x : Cd) : Prop where
  next : ∀ (rest : List Cd) (out : ByteArray) (c : Nat) (w : World), (txS key (x :: rest)).size ≤ 2000 → out.size ≤ 60000 → (cnR c (txS key (x :: rest)) out).R w →
    Calls prog 142 #[.pointer (some ⟨c, 0, none⟩)] w fun e w' => ∃ cb cc, e = .returned (.tuple #[reqV 1 (.slice (some ⟨cb, 0, none⟩) 1 cc) false false, .bool true]) ∧
      Turn (cnR c (txS key (x :: rest)) out) (many [cnR c (txS key rest) out, rowAt (.slice (some ⟨cb, 0, none⟩) 1 cc) 56 16 1 (cdM key x).vs.toList]) w w'
section
variable {key : ByteArray} {h : Int} {bk nw ns nc : Nat} {p : Pl} {s s' : Mac} {w w' : World} {c : Nat}
theorem take_busy (hR : (svR key h bk nw ns nc p s).R w) (hc : c < nc) (hb : s.busy c = true) (wi : Int) :
    Calls prog 79 #[.pointer (some ⟨p.b, 0, none⟩), .int .i64 wi, .int .i64 c] w fun e w' => e = .returned (.bool false) ∧ Turn (svR key h bk nw ns nc p s) (svR key h bk nw ns nc p s) w w' := by
  have HC := hid (client_ok hR hc)
  have g7 : (fam nc (clR key p s)).R w := (Hav.open hR).get 7 rfl
  have k2 : w.cell? ⟨p.cb c, 2, none⟩ = some (.bool true) := by rw [← hb]; exact cA (fam_get g7 hc).1 2
  have HT := hid (Turn.rfl' hR)
  clear hR g7
  go_enter func79, ntmps79
  go_wp2_with (go_at_call 40; refine HC.out.mono ?_; rintro e w1 ⟨rfl, rfl⟩)
  go_ret
  exact ⟨rfl, HT.out⟩
set_option maxHeartbeats 1000000 in
theorem take_none (hR : (svR key h bk nw ns nc p s).R w) (hc : c < nc) (hb : s.busy c = false) (hq : s.q c = []) (ho : (rpS key (s.out c)).size ≤ 60000) (wi : Int) :
    Calls prog 79 #[.pointer (some ⟨p.b, 0, none⟩), .int .i64 wi, .int .i64 c] w fun e w' => e = .returned (.bool false) ∧ Turn (svR key h bk nw ns nc p s) (svR key h bk nw ns nc p s) w w' := by
  have HC := hid (client_ok hR hc)
  have g7 : (fam nc (clR key p s)).R w := (Hav.open hR).get 7 rfl
  have k2 : w.cell? ⟨p.cb c, 2, none⟩ = some (.bool false) := by rw [← hb]; exact cA (fam_get g7 hc).1 2
  have k0 : w.cell? ⟨p.cb c, 0, none⟩ = some (.pointer (some ⟨p.nb c, 0, none⟩)) := cA (fam_get g7 hc).1 0
  have hcn := (fam_get g7 hc).2.1
  rw [hq] at hcn
  have HN := hid (next_e hcn ho)
  have HT := hid (Turn.rfl' hR)
  clear hR g7 hcn
  unfold rqE at HN
  go_enter func79, ntmps79
  go_wp2_with (first
    | (go_at_call 40; refine HC.out.mono ?_; rintro e w1 ⟨rfl, rfl⟩)
    | (go_at_call 142; refine HN.out.mono ?_; rintro e w1 ⟨rfl, hb1⟩))
  go_ret
  exact ⟨rfl, (HT.out.below hb1).below (bA _ _)⟩
theorem many_nil {A B : Res} {E E2 z z2 : Nat} (hR : (many [A, B]).R w) : (many [A, B, rowAt (.slice none 0 0) E z 0 [], rowAt (.slice none 0 0) E2 z2 0 []]).R w := by
  have hab := (List.pairwise_cons.1 hR.2).1 B (.head _)
  have hn : ∀ (E z b : Nat), ¬ (rowAt (.slice none 0 0) E z 0 []).B b := fun E z b hb => by
    have e : (none : Option Nat) = some b := hb
    cases e
  refine ⟨fun r hr => ?_, ?_⟩
  · simp only [List.mem_cons, List.not_mem_nil, or_false] at hr
    rcases hr with rfl | rfl | rfl | rfl
    · exact hR.1 _ (.head _)
    · exact hR.1 _ (.tail _ (.head _))
    · exact row_nil _ _ _
    · exact row_nil _ _ _
  · simp only [List.pairwise_cons, List.mem_cons, List.not_mem_nil, or_false, forall_eq_or_imp, forall_eq]
    exact ⟨⟨hab, fun b _ => hn _ _ b, fun b _ => hn _ _ b⟩, ⟨fun b _ => hn _ _ b, fun b _ => hn _ _ b⟩, fun b _ => hn _ _ b, fun _ h => h.elim, List.Pairwise.nil⟩
theorem many_nil_B {A B : Res} {E E2 z z2 b : Nat} (hb : (many [A, B, rowAt (.slice none 0 0) E z 0 [], rowAt (.slice none 0 0) E2 z2 0 []]).B b) : (many [A, B]).B b := by
  have hn : ∀ (E z b : Nat), ¬ (rowAt (.slice none 0 0) E z 0 []).B b := fun E z b hb => by
    have e : (none : Option Nat) = some b := hb
    cases e
  obtain ⟨r, hr, hb⟩ := hb
  simp only [List.mem_cons, List.not_mem_nil, or_false] at hr
  rcases hr with rfl | rfl | rfl | rfl
  · exact ⟨_, .head _, hb⟩
  · exact ⟨_, .tail _ (.head _), hb⟩
  · exact absurd hb (hn _ _ b)
  · exact absurd hb (hn _ _ b)
set_option maxHeartbeats 2000000 in
theorem take_some {x : Cd} {rest : List Cd} (hN : Nx key x) (hR : (svR key h bk nw ns nc p s).R w) (hc : c < nc) {wi : Nat} (hw : wi < nw) (hwk : s.wk wi = none) (hb : s.busy c = false) (hq : s.q c = x :: rest) (ho : (rpS key (s.out c)).size ≤ 60000) (hz : (txS key (x :: rest)).size ≤ 2000) (hs : s.seq c ≤ 1000000) :
    Calls prog 79 #[.pointer (some ⟨p.b, 0, none⟩), .int .i64 wi, .int .i64 c] w fun e w' => e = .returned (.bool true) ∧ ∃ p' : Pl, p'.b = p.b ∧ p'.m = p.m ∧ Turn (svR key h bk nw ns nc p s) (svR key h bk nw ns nc p' (PM.take PM.an0 s wi c x rest)) w w' := by
  have HC := hid (client_ok hR hc)
  have H := Hav.open hR
  have g7 : (fam nc (clR key p s)).R w := H.get 7 rfl
  have k2 : w.cell? ⟨p.cb c, 2, none⟩ = some (.bool false) := by rw [← hb]; exact cA (fam_get g7 hc).1 2
  have k0 : w.cell? ⟨p.cb c, 0, none⟩ = some (.pointer (some ⟨p.nb c, 0, none⟩)) := cA (fam_get g7 hc).1 0
  have hcn := (fam_get g7 hc).2.1
  rw [hq] at hcn
  have HNx := hid (hN.next rest _ _ _ hz ho hcn)
  have HH := hid H
  have HW := hid (And.intro hc (And.intro hw (And.intro hwk (And.intro hb (And.intro hq hs)))))
  clear hR g7 hcn hc hw hwk hb hq ho hz hs H hN
  unfold reqV at HNx
  go_enter func79, ntmps79
  go_wp2_with (go_at_call 40; refine HC.out.mono ?_; rintro e w1 ⟨rfl, rfl⟩)
  go_at_call 142
  refine HNx.out.mono ?_
  rintro e w1 ⟨cb, cc, rfl, ht⟩
  obtain ⟨hc, hw, hwk, hb, hq, hs⟩ := HW.out
  have g7 := HH.out.get 7 rfl
  have ht' : Turn (cnR (p.nb c) (txS key (s.q c)) (rpS key (s.out c))) (many [cnR (p.nb c) (txS key rest) (rpS key (s.out c)), rowAt (.slice (some ⟨cb, 0, none⟩) 1 cc) 56 16 1 (cdM key x).vs.toList]) w w1 := by rw [hq]; exact ht
  have J1 := HH.out.pull 7 rfl (fam_out g7 hc (and_out (fam_get g7 hc) ht'))
  have J2 := J1.cells #[.int .i64 1, .slice (some ⟨cb, 0, none⟩) 1 cc, .bool false, .bool false, .string ⟨#[]⟩, .string ⟨#[]⟩, .int .i64 0, .bool false, .string ⟨#[]⟩, .slice none 0 0, .string ⟨#[]⟩] 33
  obtain ⟨X, hX⟩ : ∃ X, w1.heap.size = X := ⟨_, rfl⟩
  obtain ⟨V, hV⟩ : ∃ V, w1.alloc (.cells #[.int .i64 1, .slice (some ⟨cb, 0, none⟩) 1 cc, .bool false, .bool false, .string ⟨#[]⟩, .string ⟨#[]⟩, .int .i64 0, .bool false, .string ⟨#[]⟩, .slice none 0 0, .string ⟨#[]⟩] 33) = V := ⟨_, rfl⟩
  rw [hX, hV] at J2
  have HV := hid hV
  have HJ2 := hid J2
  clear J1 J2 ht ht' g7 k2 k0 hV HNx HC HH
  go_upto_region 7 with fail
  rw [HV.out]
  clear HV hX
  have g9 := HJ2.out.get 9 rfl
  have hcl := fam_get g9 hc
  rw [upd_same] at hcl
  have k1 : V.cell? ⟨p.cb c, 1, none⟩ = some (.int .i64 (s.seq c)) := cA hcl.1 1
  have f1 := cZ hcl.1 1
  have e1 : IntKind.i64.wrap ((s.seq c : Int) + 1) = (s.seq c : Int) + 1 := by rw [IntKind.wrap_i64]; omega
  have t3 := cl_set hcl.1 1 (.int .i64 ((s.seq c : Int) + 1))
  have t4 : Turn (upd (clR key p s) c ((cAt (p.cb c) #[.pointer (some ⟨p.nb c, 0, none⟩), .int .i64 (s.seq c), .bool (s.busy c)] 86).and (cnR (p.nb c) (txS key rest) (rpS key (s.out c)))) c) ((cAt (p.cb c) #[.pointer (some ⟨p.nb c, 0, none⟩), .int .i64 ((s.seq c : Int) + 1), .bool (s.busy c)] 86).and (cnR (p.nb c) (txS key rest) (rpS key (s.out c)))) V (V.setCell ⟨p.cb c, 1, none⟩ (.int .i64 ((s.seq c : Int) + 1))) := by
    rw [upd_same]
    exact t3.left hcl
  have J3 := HJ2.out.turn 9 rfl (fam_turn g9 hc t4)
  rw [PM.upd_upd] at J3
  go_upto_region 8 with fail
  obtain ⟨V2, hV2⟩ : ∃ V2, V.setCell ⟨p.cb c, 1, none⟩ (.int .i64 ((s.seq c : Int) + 1)) = V2 := ⟨_, rfl⟩
  rw [hV2] at J3
  rw [hV2]
  have HJ3 := hid J3
  clear J3 t3 t4 hcl g9 k1 f1 hV2 HJ2
  have HS : Hid (∀ w', Below V2.heap.size V2 w' → w'.cell? ⟨X, 0, none⟩ = some (.int .i64 1) ∧ w'.cell? ⟨X, 1, none⟩ = some (.slice (some ⟨cb, 0, none⟩) 1 cc) ∧ w'.cell? ⟨X, 2, none⟩ = some (.bool false) ∧ w'.cell? ⟨X, 3, none⟩ = some (.bool false) ∧ w'.cell? ⟨X, 4, none⟩ = some (.string ⟨#[]⟩) ∧ w'.cell? ⟨X, 5, none⟩ = some (.string ⟨#[]⟩) ∧ w'.cell? ⟨X, 6, none⟩ = some (.int .i64 0) ∧ w'.cell? ⟨X, 7, none⟩ = some (.bool false) ∧ w'.cell? ⟨X, 8, none⟩ = some (.string ⟨#[]⟩) ∧ w'.cell? ⟨X, 9, none⟩ = some (.slice none 0 0) ∧ w'.cell? ⟨X, 10, none⟩ = some (.string ⟨#[]⟩) ∧ w'.cell? ⟨p.cb c, 1, none⟩ = some (.int .i64 ((s.seq c : Int) + 1))) := hid (fun w' hb => by
    have J := HJ3.out.below hb
    have hcl := fam_get (J.get 9 rfl) hc
    rw [upd_same] at hcl
    exact ⟨cA (J.get 0 rfl) 0, cA (J.get 0 rfl) 1, cA (J.get 0 rfl) 2, cA (J.get 0 rfl) 3, cA (J.get 0 rfl) 4, cA (J.get 0 rfl) 5, cA (J.get 0 rfl) 6, cA (J.get 0 rfl) 7, cA (J.get 0 rfl) 8, cA (J.get 0 rfl) 9, cA (J.get 0 rfl) 10, cA hcl.1 1⟩)
  have S0 := HS.out V2.drew (below_drewN' V2 1)
  have S1 := HS.out _ (bA V2 (.cells #[.int .i64 1, .slice (some ⟨cb, 0, none⟩) 1 cc, .bool false, .bool false, .string ⟨#[]⟩, .string ⟨#[]⟩, .int .i64 0, .bool false, .string ⟨#[]⟩, .slice none 0 0, .string ⟨#[]⟩, .int .i64 c, .int .i64 ((s.seq c : Int) + 1), .int .i64 0, .slice none 0 0, .int .i64 0, .slice none 0 0] 143)).drew
  go_region_held3 (fun w' => w'.cell? ⟨X, 0, none⟩ = some (.int .i64 1) ∧ w'.cell? ⟨X, 1, none⟩ = some (.slice (some ⟨cb, 0, none⟩) 1 cc) ∧ w'.cell? ⟨X, 2, none⟩ = some (.bool false) ∧ w'.cell? ⟨X, 3, none⟩ = some (.bool false) ∧ w'.cell? ⟨X, 4, none⟩ = some (.string ⟨#[]⟩) ∧ w'.cell? ⟨X, 5, none⟩ = some (.string ⟨#[]⟩) ∧ w'.cell? ⟨X, 6, none⟩ = some (.int .i64 0) ∧ w'.cell? ⟨X, 7, none⟩ = some (.bool false) ∧ w'.cell? ⟨X, 8, none⟩ = some (.string ⟨#[]⟩) ∧ w'.cell? ⟨X, 9, none⟩ = some (.slice none 0 0) ∧ w'.cell? ⟨X, 10, none⟩ = some (.string ⟨#[]⟩) ∧ w'.cell? ⟨p.cb c, 1, none⟩ = some (.int .i64 ((s.seq c : Int) + 1))) (first | with_reducible exact S0 | with_reducible exact S1 | exact HS.out _ (Below.refl _ _) | exact HS.out _ (bA _ _).drew | fail) (fail)
  rename_i hHeld
  clear hHeld S0 S1 HS
  have J4 := (HJ3.out.cells #[.int .i64 1, .slice (some ⟨cb, 0, none⟩) 1 cc, .bool false, .bool false, .string ⟨#[]⟩, .string ⟨#[]⟩, .int .i64 0, .bool false, .string ⟨#[]⟩, .slice none 0 0, .string ⟨#[]⟩, .int .i64 c, .int .i64 ((s.seq c : Int) + 1), .int .i64 0, .slice none 0 0, .int .i64 0, .slice none 0 0] 143).drew
  obtain ⟨M, hM⟩ : ∃ M, V2.heap.size = M := ⟨_, rfl⟩
  obtain ⟨Y, hY⟩ : ∃ Y, (V2.alloc (.cells #[.int .i64 1, .slice (some ⟨cb, 0, none⟩) 1 cc, .bool false, .bool false, .string ⟨#[]⟩, .string ⟨#[]⟩, .int .i64 0, .bool false, .string ⟨#[]⟩, .slice none 0 0, .string ⟨#[]⟩, .int .i64 c, .int .i64 ((s.seq c : Int) + 1), .int .i64 0, .slice none 0 0, .int .i64 0, .slice none 0 0] 143)).drew = Y := ⟨_, rfl⟩
  rw [hM, hY] at J4
  rw [hM, hY]
  clear hM hY HJ3
  have g9 := J4.get 10 rfl
  have hcl := fam_get g9 hc
  rw [upd_same] at hcl
  have x0 : Y.cell? ⟨X, 0, none⟩ = some (.int .i64 1) := cA (J4.get 1 rfl) 0
  have k2 : Y.cell? ⟨p.cb c, 2, none⟩ = some (.bool (s.busy c)) := cA hcl.1 2
  have f2 := cZ hcl.1 2
  have t5 := cl_set hcl.1 2 (.bool true)
  have t6 : Turn (upd (clR key p s) c ((cAt (p.cb c) #[.pointer (some ⟨p.nb c, 0, none⟩), .int .i64 ((s.seq c : Int) + 1), .bool (s.busy c)] 86).and (cnR (p.nb c) (txS key rest) (rpS key (s.out c)))) c) ((cAt (p.cb c) #[.pointer (some ⟨p.nb c, 0, none⟩), .int .i64 ((s.seq c : Int) + 1), .bool true] 86).and (cnR (p.nb c) (txS key rest) (rpS key (s.out c)))) Y (Y.setCell ⟨p.cb c, 2, none⟩ (.bool true)) := by
    rw [upd_same]
    exact t5.left hcl
  have J5 := J4.turn 10 rfl (fam_turn g9 hc t6)
  rw [PM.upd_upd] at J5
  go_upto_region 13 with fail
  obtain ⟨Z, hZ⟩ : ∃ Z, Y.setCell ⟨p.cb c, 2, none⟩ (.bool true) = Z := ⟨_, rfl⟩
  rw [hZ] at J5
  rw [hZ]
  have b5 : Z.cell? ⟨p.b, 5, none⟩ = some (.slice (some ⟨p.wlb, 0, none⟩) nw p.wlc) := cA (J5.get 3 rfl) 5
  have r5 : Z.cell? ⟨p.wlb, wi, none⟩ = some (wkV p s wi) := by rw [row_at (J5.get 5 rfl) wi (by rw [lst_len]; exact hw), lst_get hw]
  have z5 := row_fz (J5.get 5 rfl) wi
  have n5 : (wi : Int) < nw := by omega
  have J6 := J5.turn 5 rfl (row_set (J5.get 5 rfl) wi (.pointer (some ⟨M, 0, none⟩)))
  obtain ⟨l', hl'⟩ : ∃ l' : Wl, l' = ⟨M, cb, cc, .slice none 0 0, .slice none 0 0⟩ := ⟨_, rfl⟩
  have hrow : (lst nw (wkV p s)).set wi (.pointer (some ⟨M, 0, none⟩)) = lst nw (wkV { p with wp := upd p.wp wi l' } (PM.take PM.an0 s wi c x rest)) := by
    rw [lst_set]
    refine lst_same (fun j _ => ?_)
    unfold wkV PM.take
    dsimp only
    by_cases e : j = wi
    · subst e; rw [upd_same, upd_same, upd_same, hl']
    · rw [upd_ne _ _ e, upd_ne _ _ e, upd_ne _ _ e]
  rw [hrow] at J6
  have J7 := (J6.sub (.cons_cons _ (.cons _ (List.Sublist.refl _)))).join
  have J8 := fam_wk (r1 := wkR key l' (some ⟨c, s.seq c + 1, x, 0, PM.an0⟩)) J7 (i := 8) rfl hw (fun _ hx _ => by
    subst hl'
    exact many_nil hx) (fun b hb => by
    subst hl'
    exact .inr (many_nil_B hb))
  rw [← wk_fam] at J8
  have e7 : upd (clR key p s) c ((cAt (p.cb c) #[.pointer (some ⟨p.nb c, 0, none⟩), .int .i64 ((s.seq c : Int) + 1), .bool true] 86).and (cnR (p.nb c) (txS key rest) (rpS key (s.out c)))) = clR key { p with wp := upd p.wp wi l' } (PM.take PM.an0 s wi c x rest) := by
    funext j
    unfold PM.take clR
    dsimp only
    by_cases e : j = c
    · subst e; rw [upd_same, upd_same, upd_same, upd_same]; rfl
    · rw [upd_ne _ _ e, upd_ne _ _ e, upd_ne _ _ e, upd_ne _ _ e]
  have HE : Hid (Turn (svR key h bk nw ns nc p s) (svR key h bk nw ns nc { p with wp := upd p.wp wi l' } (PM.take PM.an0 s wi c x rest)) w (Z.setCell ⟨p.wlb, wi, none⟩ (.pointer (some ⟨M, 0, none⟩)))) := hid (by
    have h6 := J8.shut
    rw [e7] at h6
    exact h6)
  clear J8 J7 J6 J5 J4 hrow e7 t5 t6 hcl g9
  go_wp2_with (fail)
  all_goals go_ret
  all_goals exact ⟨rfl, { p with wp := upd p.wp wi l' }, rfl, rfl, HE.out⟩
end
end Go.Proofs.YtboehbfagnocpaaGreatDoor
