/- Tro. -/
import Derived.Test.YtboehbfagnocpaaGreatDoorUag
set_option linter.unusedVariables false
set_option linter.unusedSimpArgs false
set_option maxRecDepth 100000
open Go.Proofs.Tryz
open Go.Lib (hid)
namespace Go.Proofs.YtboehbfagnocpaaGreatDoor
open Go.RowKit Go.PlainAid
def ints (l : List Int) : List Value := l.map (.int .i64)
def rwA (rb lb lc nb mb K rn : Nat) (fv : Value) : Res := cAt rb #[.slice (some ⟨lb, 0, none⟩) K lc, fv, .map (some mb), .slice (some ⟨nb, 0, none⟩) rn rn] 267
def rwL (lb lc K : Nat) (ls : List Int) : Res := rowAt (.slice (some ⟨lb, 0, none⟩) K lc) 269 4 K (ints ls)
def rwF (fv : Value) (fs : List Int) : Res := rowAt fv 3 1 fs.length (ints fs)
def rwN (nb rn : Nat) (ns : List Int) : Res := rowAt (.slice (some ⟨nb, 0, none⟩) rn rn) 3 1 rn (ints ns)
def rowsR (rb lb lc nb mb K rn : Nat) (fv : Value) (ls fs ns : List Int) (N : Nat) (o : Option Int) : Res :=
  five (rwA rb lb lc nb mb K rn fv) (rwL lb lc K ls) (rwF fv fs) (rwN nb rn ns) (mapII mb N o)
theorem take_no {w : World} {rb lb lc nb mb K rn : Nat} {fv : Value} {ls fs ns : List Int} {N : Nat} (h : (rowsR rb lb lc nb mb K rn fv ls fs ns N none).R w) :
    Calls prog 394 #[.pointer (some ⟨rb, 0, none⟩), .int .i64 0] w fun e w' => e = .returned (.bool false) ∧ w = w' := by
  have c2 : w.cell? ⟨rb, 2, none⟩ = some (.map (some mb)) := cA h.1 2
  have hl := mapII_look (Five.r4 h)
  simp only [Option.getD_none, Option.isSome_none] at hl
  clear h
  go_enter func394, ntmps394
  go_wp2
  go_ret
  exact ⟨rfl, rfl⟩
theorem has_any {w : World} {rb lb lc nb mb K rn : Nat} {fv : Value} {ls fs ns : List Int} {N : Nat} {o : Option Int} (h : (rowsR rb lb lc nb mb K rn fv ls fs ns N o).R w) (hr : 0 < rn) :
    Calls prog 398 #[.pointer (some ⟨rb, 0, none⟩), .int .i64 0] w fun e w' => e = .returned (.bool true) ∧ w = w' := by
  have c3 : w.cell? ⟨rb, 3, none⟩ = some (.slice (some ⟨nb, 0, none⟩) rn rn) := cA h.1 3
  have h1 : (0 : Int) < (rn : Int) := by omega
  clear h
  go_enter func398, ntmps398
  go_wp2
  go_ret
  exact ⟨rfl, rfl⟩
theorem row_no {w : World} {rb lb lc nb mb K rn : Nat} {fv : Value} {ls fs ns : List Int} {N : Nat} (h : (rowsR rb lb lc nb mb K rn fv ls fs ns N none).R w) :
    Calls prog 395 #[.pointer (some ⟨rb, 0, none⟩), .int .i64 0] w fun e w' => e = .returned (.int .i64 (-1)) ∧ w = w' := by
  have c2 : w.cell? ⟨rb, 2, none⟩ = some (.map (some mb)) := cA h.1 2
  have hl := mapII_look (Five.r4 h)
  simp only [Option.getD_none, Option.isSome_none] at hl
  clear h
  go_enter func395, ntmps395
  go_wp2
  go_ret
  exact ⟨rfl, rfl⟩
set_option maxHeartbeats 1000000 in
theorem put_e3 {w : World} {rb lb lc nb mb N : Nat} (h : (rowsR rb lb lc nb mb 3 3 (.slice none 0 0) [-1, 0, 0, 0, -1, 1, 1, 1, -1, 2, 2, 2] [] [0, 0, 0] N none).R w) (hN : N ≤ 1000000) :
    Calls prog 399 #[.pointer (some ⟨rb, 0, none⟩), .int .i64 0, .int .i64 0, .int .i64 0] w fun e w' => e = .returned (.tuple #[]) ∧
      ∃ lb' lc', Turn (rowsR rb lb lc nb mb 3 3 (.slice none 0 0) [-1, 0, 0, 0, -1, 1, 1, 1, -1, 2, 2, 2] [] [0, 0, 0] N none) (rowsR rb lb' lc' nb mb 4 3 (.slice none 0 0) [-1, 0, 3, 3, -1, 1, 1, 1, -1, 2, 2, 2, 0, 0, 0, 0] [] [1, 0, 0] (N + 1) (some 3)) w w' := by
  have H := hid h
  have c0 : w.cell? ⟨rb, 0, none⟩ = some (.slice (some ⟨lb, 0, none⟩) 3 lc) := cA h.1 0
  have c1 : w.cell? ⟨rb, 1, none⟩ = some (.slice none 0 0) := cA h.1 1
  clear h
  go_enter func399, ntmps399
  go_wp2_with (first
    | (at_builtin; go_must (refine wp_appEl elem_link rfl _ _ rfl rfl (Five.r1 H.out) rfl rfl (by decide) (by omega) (by omega) ?_); intro g cap w2 ht2
       have T2 := hid (Five.t1 H.out ht2)
       obtain ⟨w3, e3⟩ : ∃ w3, w2.setCell ⟨rb, 0, none⟩ (.slice (some ⟨g, 0, none⟩) 4 cap) = w3 := ⟨_, rfl⟩
       have t3 := Five.t0 T2.out.here (cl_set (Five.r0 T2.out.here) 0 (.slice (some ⟨g, 0, none⟩) 4 cap))
       have f2 := cZ (Five.r0 T2.out.here) 0
       have g0 : w2.cell? ⟨rb, 0, none⟩ = some (.slice (some ⟨lb, 0, none⟩) 3 lc) := cA (Five.r0 T2.out.here) 0
       rw [e3] at t3
       have T3 := hid t3
       have d0 : w3.cell? ⟨rb, 0, none⟩ = some (.slice (some ⟨g, 0, none⟩) 4 cap) := cA (Five.r0 t3.here) 0
       have lf := row_fz (Five.r1 t3.here)
       have l3 : w3.cell? ⟨g, 3, none⟩ = some (.int .i64 0) := row_at (Five.r1 t3.here) 3 (by decide)
       have lf3 := lf 3
       have l12 : w3.cell? ⟨g, 12, none⟩ = some (.int .i64 0) := row_at (Five.r1 t3.here) 12 (by decide)
       have lf12 := lf 12
       have l13 : w3.cell? ⟨g, 13, none⟩ = some (.int .i64 0) := row_at (Five.r1 t3.here) 13 (by decide)
       have lf13 := lf 13
       have l14 : w3.cell? ⟨g, 14, none⟩ = some (.int .i64 0) := row_at (Five.r1 t3.here) 14 (by decide)
       have lf14 := lf 14
       have l15 : w3.cell? ⟨g, 15, none⟩ = some (.int .i64 0) := row_at (Five.r1 t3.here) 15 (by decide)
       have lf15 := lf 15
       clear ht2 t3 c0 c1 lf))
  obtain ⟨w4, e4⟩ : ∃ w4, ((((w3.setCell ⟨g, 12, none⟩ (.int .i64 0)).setCell ⟨g, 13, none⟩ (.int .i64 0)).setCell ⟨g, 14, none⟩ (.int .i64 0)).setCell ⟨g, 15, none⟩ (.int .i64 0)) = w4 := ⟨_, rfl⟩
  rw [e4]
  have t12 := Five.t1 T3.out.here (row_set (Five.r1 T3.out.here) 12 (.int .i64 0))
  have t13 := t12.trans (Five.t1 t12.here (row_set (Five.r1 t12.here) 13 (.int .i64 0)))
  have t14 := t13.trans (Five.t1 t13.here (row_set (Five.r1 t13.here) 14 (.int .i64 0)))
  have t15 := t14.trans (Five.t1 t14.here (row_set (Five.r1 t14.here) 15 (.int .i64 0)))
  rw [e4] at t15
  have T4 := hid t15
  have d0' : w4.cell? ⟨rb, 0, none⟩ = some (.slice (some ⟨g, 0, none⟩) 4 cap) := cA (Five.r0 t15.here) 0
  have m2 : w4.cell? ⟨g, 2, none⟩ = some (.int .i64 0) := row_at (Five.r1 t15.here) 2 (by decide)
  have m3 : w4.cell? ⟨g, 3, none⟩ = some (.int .i64 0) := row_at (Five.r1 t15.here) 3 (by decide)
  have n2 := row_fz (Five.r1 t15.here) 2
  have n3 := row_fz (Five.r1 t15.here) 3
  have u3 := Five.t1 t15.here (row_set (Five.r1 t15.here) 3 (.int .i64 3))
  have u2 := Five.t1 u3.here (row_set (Five.r1 u3.here) 2 (.int .i64 3))
  have d1' : (w4.setCell ⟨g, 3, none⟩ (.int .i64 3)).cell? ⟨rb, 0, none⟩ = some (.slice (some ⟨g, 0, none⟩) 4 cap) := cA (Five.r0 u3.here) 0
  have d2' : ((w4.setCell ⟨g, 3, none⟩ (.int .i64 3)).setCell ⟨g, 2, none⟩ (.int .i64 3)).cell? ⟨rb, 0, none⟩ = some (.slice (some ⟨g, 0, none⟩) 4 cap) := cA (Five.r0 u2.here) 0
  have U := hid (u3.trans u2)
  clear u3 u2
  clear t12 t13 t14 t15 e4 d0 e3 f2 g0 l3 lf3 l12 lf12 l13 lf13 l14 lf14 l15 lf15
  go_region_held3 (fun w' => w'.cell? ⟨rb, 0, none⟩ = some (.slice (some ⟨g, 0, none⟩) 4 cap)) (first | exact d0' | exact d1' | exact d2') (fail)
  rename_i hHeld
  obtain ⟨w5, e5⟩ : ∃ w5, ((w4.setCell ⟨g, 3, none⟩ (.int .i64 3)).setCell ⟨g, 2, none⟩ (.int .i64 3)).drew = w5 := ⟨_, rfl⟩
  have u5 := U.out.drew
  rw [e5] at u5 ⊢
  have r2 : w5.cell? ⟨rb, 2, none⟩ = some (.map (some mb)) := cA (Five.r0 u5.here) 2
  obtain ⟨w6, hmu, t6⟩ := mapII_put (Five.r4 u5.here) 3 (by omega) (by unfold maxLen; omega)
  have u6 := u5.trans (Five.t4 u5.here t6)
  have r3 : w6.cell? ⟨rb, 3, none⟩ = some (.slice (some ⟨nb, 0, none⟩) 3 3) := cA (Five.r0 u6.here) 3
  have q0 : w6.cell? ⟨nb, 0, none⟩ = some (.int .i64 0) := row_at (Five.r3 u6.here) 0 (by decide)
  have qf := row_fz (Five.r3 u6.here) 0
  have u7 := u6.trans (Five.t3 u6.here (row_set (Five.r3 u6.here) 0 (.int .i64 1)))
  have U7 := hid (((T2.out.trans T3.out).trans T4.out).trans u7)
  clear t6 u5 u6 u7 e5 T2 T3 T4 U H d0' d1' d2' m2 m3 n2 n3 hHeld
  go_wp2
  go_end0
  exact ⟨rfl, _, _, U7.out⟩
set_option maxHeartbeats 1000000 in
theorem put_e1 {w : World} {rb lb lc nb mb N : Nat} (h : (rowsR rb lb lc nb mb 1 1 (.slice none 0 0) [-1, 0, 0, 0] [] [0] N none).R w) (hN : N ≤ 1000000) :
    Calls prog 399 #[.pointer (some ⟨rb, 0, none⟩), .int .i64 0, .int .i64 0, .int .i64 0] w fun e w' => e = .returned (.tuple #[]) ∧
      ∃ lb' lc', Turn (rowsR rb lb lc nb mb 1 1 (.slice none 0 0) [-1, 0, 0, 0] [] [0] N none) (rowsR rb lb' lc' nb mb 2 1 (.slice none 0 0) [-1, 0, 1, 1, 0, 0, 0, 0] [] [1] (N + 1) (some 1)) w w' := by
  have H := hid h
  have c0 : w.cell? ⟨rb, 0, none⟩ = some (.slice (some ⟨lb, 0, none⟩) 1 lc) := cA h.1 0
  have c1 : w.cell? ⟨rb, 1, none⟩ = some (.slice none 0 0) := cA h.1 1
  clear h
  go_enter func399, ntmps399
  go_wp2_with (first
    | (at_builtin; go_must (refine wp_appEl elem_link rfl _ _ rfl rfl (Five.r1 H.out) rfl rfl (by decide) (by omega) (by omega) ?_); intro g cap w2 ht2
       have T2 := hid (Five.t1 H.out ht2)
       obtain ⟨w3, e3⟩ : ∃ w3, w2.setCell ⟨rb, 0, none⟩ (.slice (some ⟨g, 0, none⟩) 2 cap) = w3 := ⟨_, rfl⟩
       have t3 := Five.t0 T2.out.here (cl_set (Five.r0 T2.out.here) 0 (.slice (some ⟨g, 0, none⟩) 2 cap))
       have f2 := cZ (Five.r0 T2.out.here) 0
       have g0 : w2.cell? ⟨rb, 0, none⟩ = some (.slice (some ⟨lb, 0, none⟩) 1 lc) := cA (Five.r0 T2.out.here) 0
       rw [e3] at t3
       have T3 := hid t3
       have d0 : w3.cell? ⟨rb, 0, none⟩ = some (.slice (some ⟨g, 0, none⟩) 2 cap) := cA (Five.r0 t3.here) 0
       have lf := row_fz (Five.r1 t3.here)
       have l3 : w3.cell? ⟨g, 3, none⟩ = some (.int .i64 0) := row_at (Five.r1 t3.here) 3 (by decide)
       have lf3 := lf 3
       have l4 : w3.cell? ⟨g, 4, none⟩ = some (.int .i64 0) := row_at (Five.r1 t3.here) 4 (by decide)
       have lf4 := lf 4
       have l5 : w3.cell? ⟨g, 5, none⟩ = some (.int .i64 0) := row_at (Five.r1 t3.here) 5 (by decide)
       have lf5 := lf 5
       have l6 : w3.cell? ⟨g, 6, none⟩ = some (.int .i64 0) := row_at (Five.r1 t3.here) 6 (by decide)
       have lf6 := lf 6
       have l7 : w3.cell? ⟨g, 7, none⟩ = some (.int .i64 0) := row_at (Five.r1 t3.here) 7 (by decide)
       have lf7 := lf 7
       clear ht2 t3 c0 c1 lf))
  obtain ⟨w4, e4⟩ : ∃ w4, ((((w3.setCell ⟨g, 4, none⟩ (.int .i64 0)).setCell ⟨g, 5, none⟩ (.int .i64 0)).setCell ⟨g, 6, none⟩ (.int .i64 0)).setCell ⟨g, 7, none⟩ (.int .i64 0)) = w4 := ⟨_, rfl⟩
  rw [e4]
  have t4 := Five.t1 T3.out.here (row_set (Five.r1 T3.out.here) 4 (.int .i64 0))
  have t5 := t4.trans (Five.t1 t4.here (row_set (Five.r1 t4.here) 5 (.int .i64 0)))
  have t6 := t5.trans (Five.t1 t5.here (row_set (Five.r1 t5.here) 6 (.int .i64 0)))
  have t7 := t6.trans (Five.t1 t6.here (row_set (Five.r1 t6.here) 7 (.int .i64 0)))
  rw [e4] at t7
  have T4 := hid t7
  have d0' : w4.cell? ⟨rb, 0, none⟩ = some (.slice (some ⟨g, 0, none⟩) 2 cap) := cA (Five.r0 t7.here) 0
  have m2 : w4.cell? ⟨g, 2, none⟩ = some (.int .i64 0) := row_at (Five.r1 t7.here) 2 (by decide)
  have m3 : w4.cell? ⟨g, 3, none⟩ = some (.int .i64 0) := row_at (Five.r1 t7.here) 3 (by decide)
  have n2 := row_fz (Five.r1 t7.here) 2
  have n3 := row_fz (Five.r1 t7.here) 3
  have u3 := Five.t1 t7.here (row_set (Five.r1 t7.here) 3 (.int .i64 1))
  have u2 := Five.t1 u3.here (row_set (Five.r1 u3.here) 2 (.int .i64 1))
  have d1' : (w4.setCell ⟨g, 3, none⟩ (.int .i64 1)).cell? ⟨rb, 0, none⟩ = some (.slice (some ⟨g, 0, none⟩) 2 cap) := cA (Five.r0 u3.here) 0
  have d2' : ((w4.setCell ⟨g, 3, none⟩ (.int .i64 1)).setCell ⟨g, 2, none⟩ (.int .i64 1)).cell? ⟨rb, 0, none⟩ = some (.slice (some ⟨g, 0, none⟩) 2 cap) := cA (Five.r0 u2.here) 0
  have U := hid (u3.trans u2)
  clear u3 u2
  clear t4 t5 t6 t7 e4 d0 e3 f2 g0 l3 lf3 l4 lf4 l5 lf5 l6 lf6 l7 lf7
  go_region_held3 (fun w' => w'.cell? ⟨rb, 0, none⟩ = some (.slice (some ⟨g, 0, none⟩) 2 cap)) (first | exact d0' | exact d1' | exact d2') (fail)
  rename_i hHeld
  obtain ⟨w5, e5⟩ : ∃ w5, ((w4.setCell ⟨g, 3, none⟩ (.int .i64 1)).setCell ⟨g, 2, none⟩ (.int .i64 1)).drew = w5 := ⟨_, rfl⟩
  have u5 := U.out.drew
  rw [e5] at u5 ⊢
  have r2 : w5.cell? ⟨rb, 2, none⟩ = some (.map (some mb)) := cA (Five.r0 u5.here) 2
  obtain ⟨w6, hmu, t6⟩ := mapII_put (Five.r4 u5.here) 1 (by omega) (by unfold maxLen; omega)
  have u6 := u5.trans (Five.t4 u5.here t6)
  have r3 : w6.cell? ⟨rb, 3, none⟩ = some (.slice (some ⟨nb, 0, none⟩) 1 1) := cA (Five.r0 u6.here) 3
  have q0 : w6.cell? ⟨nb, 0, none⟩ = some (.int .i64 0) := row_at (Five.r3 u6.here) 0 (by decide)
  have qf := row_fz (Five.r3 u6.here) 0
  have u7 := u6.trans (Five.t3 u6.here (row_set (Five.r3 u6.here) 0 (.int .i64 1)))
  have U7 := hid (((T2.out.trans T3.out).trans T4.out).trans u7)
  clear t6 u5 u6 u7 e5 T2 T3 T4 U H d0' d1' d2' m2 m3 n2 n3 hHeld
  go_wp2
  go_end0
  exact ⟨rfl, _, _, U7.out⟩
set_option maxHeartbeats 1000000 in
theorem front_e3 {w : World} {rb lb lc nb mb N : Nat} (h : (rowsR rb lb lc nb mb 3 3 (.slice none 0 0) [-1, 0, 0, 0, -1, 1, 1, 1, -1, 2, 2, 2] [] [0, 0, 0] N none).R w) (hN : N ≤ 1000000) :
    Calls prog 396 #[.pointer (some ⟨rb, 0, none⟩), .int .i64 0, .int .i64 0] w fun e w' => e = .returned (.bool true) ∧
      ∃ lb' lc', Turn (rowsR rb lb lc nb mb 3 3 (.slice none 0 0) [-1, 0, 0, 0, -1, 1, 1, 1, -1, 2, 2, 2] [] [0, 0, 0] N none) (rowsR rb lb' lc' nb mb 4 3 (.slice none 0 0) [-1, 0, 3, 3, -1, 1, 1, 1, -1, 2, 2, 2, 0, 0, 0, 0] [] [1, 0, 0] (N + 1) (some 3)) w w' := by
  have HH := hid (has_any h (by omega))
  have HT := hid (take_no h)
  have HP := hid (put_e3 h hN)
  clear h
  go_enter func396, ntmps396
  go_wp2_with (first
    | (go_at_call 398; refine HH.out.mono ?_; rintro e w' ⟨rfl, rfl⟩)
    | (go_at_call 394; refine HT.out.mono ?_; rintro e w' ⟨rfl, rfl⟩)
    | (go_at_call 399; refine HP.out.mono ?_; rintro e w' ⟨rfl, lb', lc', ht⟩))
  go_ret
  exact ⟨rfl, _, _, ht⟩
set_option maxHeartbeats 1000000 in
theorem front_e1 {w : World} {rb lb lc nb mb N : Nat} (h : (rowsR rb lb lc nb mb 1 1 (.slice none 0 0) [-1, 0, 0, 0] [] [0] N none).R w) (hN : N ≤ 1000000) :
    Calls prog 396 #[.pointer (some ⟨rb, 0, none⟩), .int .i64 0, .int .i64 0] w fun e w' => e = .returned (.bool true) ∧
      ∃ lb' lc', Turn (rowsR rb lb lc nb mb 1 1 (.slice none 0 0) [-1, 0, 0, 0] [] [0] N none) (rowsR rb lb' lc' nb mb 2 1 (.slice none 0 0) [-1, 0, 1, 1, 0, 0, 0, 0] [] [1] (N + 1) (some 1)) w w' := by
  have HH := hid (has_any h (by omega))
  have HT := hid (take_no h)
  have HP := hid (put_e1 h hN)
  clear h
  go_enter func396, ntmps396
  go_wp2_with (first
    | (go_at_call 398; refine HH.out.mono ?_; rintro e w' ⟨rfl, rfl⟩)
    | (go_at_call 394; refine HT.out.mono ?_; rintro e w' ⟨rfl, rfl⟩)
    | (go_at_call 399; refine HP.out.mono ?_; rintro e w' ⟨rfl, lb', lc', ht⟩))
  go_ret
  exact ⟨rfl, _, _, ht⟩
end Go.Proofs.YtboehbfagnocpaaGreatDoor
