/- Trp. -/
import Derived.Test.YtboehbfagnocpaaGreatDoorUah
import Derived.Test.YtboehbfagnocpaaGreatDoorUai
set_option linter.unusedVariables false
set_option linter.unusedSimpArgs false
set_option maxRecDepth 100000
open Go.Proofs.Tryz
open Go.Lib (hid)
namespace Go.Proofs.YtboehbfagnocpaaGreatDoor
open Go.RowKit Go.PlainAid
set_option maxHeartbeats 2000000 in
theorem take_p1 {w : World} {rb lb lc nb mb N : Nat} {fv : Value} (h : (rowsR rb lb lc nb mb 2 1 fv [-1, 0, 1, 1, 0, 0, 0, 0] [] [1] N (some 1)).R w) :
    Calls prog 394 #[.pointer (some ⟨rb, 0, none⟩), .int .i64 0] w fun e w' => e = .returned (.bool true) ∧
      ∃ fb fc, Turn (rowsR rb lb lc nb mb 2 1 fv [-1, 0, 1, 1, 0, 0, 0, 0] [] [1] N (some 1)) (rowsR rb lb lc nb mb 2 1 (.slice (some ⟨fb, 0, none⟩) 1 fc) [-1, 0, 0, 0, 0, 0, 0, 0] [1] [0] N none) w w' := by
  have H := hid h
  have c0 : w.cell? ⟨rb, 0, none⟩ = some (.slice (some ⟨lb, 0, none⟩) 2 lc) := cA h.1 0
  have c2 : w.cell? ⟨rb, 2, none⟩ = some (.map (some mb)) := cA h.1 2
  have hl := mapII_look (Five.r4 h)
  simp only [Option.getD_some, Option.isSome_some] at hl
  have l4 : w.cell? ⟨lb, 4, none⟩ = some (.int .i64 0) := row_at (Five.r1 h) 4 (by decide)
  have l5 : w.cell? ⟨lb, 5, none⟩ = some (.int .i64 0) := row_at (Five.r1 h) 5 (by decide)
  have l6 : w.cell? ⟨lb, 6, none⟩ = some (.int .i64 0) := row_at (Five.r1 h) 6 (by decide)
  have l7 : w.cell? ⟨lb, 7, none⟩ = some (.int .i64 0) := row_at (Five.r1 h) 7 (by decide)
  clear h
  go_enter func394, ntmps394
  go_wp2
  obtain ⟨W, hW⟩ : ∃ W, w.alloc (.cells #[.int .i64 0, .int .i64 0, .int .i64 0, .int .i64 0] 269) = W := ⟨_, rfl⟩
  have t0 := (Turn.rfl' H.out).alloc (.cells #[.int .i64 0, .int .i64 0, .int .i64 0, .int .i64 0] 269)
  have bx := cells_new w #[.int .i64 0, .int .i64 0, .int .i64 0, .int .i64 0] 269
  rw [hW] at t0 bx ⊢
  have T0 := hid t0
  obtain ⟨X, hX⟩ : ∃ X, w.heap.size = X := ⟨_, rfl⟩
  rw [hX] at bx ⊢
  have u3 := Five.t1 t0.here (row_set (Five.r1 t0.here) 3 (.int .i64 0))
  have u2 := Five.t1 u3.here (row_set (Five.r1 u3.here) 2 (.int .i64 0))
  have hXb : ∀ b, (rowsR rb lb lc nb mb 2 1 fv [-1, 0, 1, 1, 0, 0, 0, 0] [] [1] N (some 1)).B b → b < X := fun b hb => by rw [← hX]; exact Res.lt _ H.out hb
  have hlX : lb < X := hXb lb (.inr (.inl rfl))
  have bx3 := (cAt X #[.int .i64 0, .int .i64 0, .int .i64 0, .int .i64 0] 269).keep bx (row_set (Five.r1 t0.here) 3 (.int .i64 0)).tch (fun b hb hx => by have e1 : b = X := hb; have e2 : some lb = some b := hx; cases e2; omega)
  have bx2 := (cAt X #[.int .i64 0, .int .i64 0, .int .i64 0, .int .i64 0] 269).keep bx3 (row_set (Five.r1 u3.here) 2 (.int .i64 0)).tch (fun b hb hx => by have e1 : b = X := hb; have e2 : some lb = some b := hx; cases e2; omega)
  have S0 : W.cell? ⟨rb, 0, none⟩ = some (.slice (some ⟨lb, 0, none⟩) 2 lc) ∧ W.cell? ⟨X, 2, none⟩ = some (.int .i64 0) ∧ W.cell? ⟨X, 3, none⟩ = some (.int .i64 0) := ⟨cA (Five.r0 t0.here) 0, cA bx 2, cA bx 3⟩
  have S1 : (W.setCell ⟨lb, 3, none⟩ (.int .i64 0)).cell? ⟨rb, 0, none⟩ = some (.slice (some ⟨lb, 0, none⟩) 2 lc) ∧ (W.setCell ⟨lb, 3, none⟩ (.int .i64 0)).cell? ⟨X, 2, none⟩ = some (.int .i64 0) ∧ (W.setCell ⟨lb, 3, none⟩ (.int .i64 0)).cell? ⟨X, 3, none⟩ = some (.int .i64 0) := ⟨cA (Five.r0 u3.here) 0, cA bx3 2, cA bx3 3⟩
  have S2 : ((W.setCell ⟨lb, 3, none⟩ (.int .i64 0)).setCell ⟨lb, 2, none⟩ (.int .i64 0)).cell? ⟨rb, 0, none⟩ = some (.slice (some ⟨lb, 0, none⟩) 2 lc) ∧ ((W.setCell ⟨lb, 3, none⟩ (.int .i64 0)).setCell ⟨lb, 2, none⟩ (.int .i64 0)).cell? ⟨X, 2, none⟩ = some (.int .i64 0) ∧ ((W.setCell ⟨lb, 3, none⟩ (.int .i64 0)).setCell ⟨lb, 2, none⟩ (.int .i64 0)).cell? ⟨X, 3, none⟩ = some (.int .i64 0) := ⟨cA (Five.r0 u2.here) 0, cA bx2 2, cA bx2 3⟩
  have m2 : W.cell? ⟨lb, 2, none⟩ = some (.int .i64 1) := row_at (Five.r1 t0.here) 2 (by decide)
  have m3 : W.cell? ⟨lb, 3, none⟩ = some (.int .i64 1) := row_at (Five.r1 t0.here) 3 (by decide)
  have n2 := row_fz (Five.r1 t0.here) 2
  have n3 := row_fz (Five.r1 t0.here) 3
  have U := hid (u3.trans u2)
  have BX := hid bx2
  have HXb := hid hXb
  clear u3 u2 t0 bx bx3 bx2 c0 c2 hl l4 l5 l6 l7 hW hXb
  go_region_held3 (fun w' => w'.cell? ⟨rb, 0, none⟩ = some (.slice (some ⟨lb, 0, none⟩) 2 lc) ∧ w'.cell? ⟨X, 2, none⟩ = some (.int .i64 0) ∧ w'.cell? ⟨X, 3, none⟩ = some (.int .i64 0)) (first | exact S0 | exact S1 | exact S2) (fail)
  rename_i hHeld
  clear hHeld S0 S1 S2 m2 m3 n2 n3
  obtain ⟨w5, e5⟩ : ∃ w5, ((W.setCell ⟨lb, 3, none⟩ (.int .i64 0)).setCell ⟨lb, 2, none⟩ (.int .i64 0)).drew = w5 := ⟨_, rfl⟩
  have u5 := U.out.drew
  have b5 := (cAt X #[.int .i64 0, .int .i64 0, .int .i64 0, .int .i64 0] 269).keep BX.out ((Tch.refl (fun _ => False) _).drewN 1) (fun _ _ x => x)
  rw [show World.drewN ((W.setCell ⟨lb, 3, none⟩ (.int .i64 0)).setCell ⟨lb, 2, none⟩ (.int .i64 0)) 1 = w5 from e5] at b5
  rw [e5] at u5 ⊢
  have U5 := hid u5
  have B5 := hid b5
  have r1 : w5.cell? ⟨rb, 1, none⟩ = some fv := cA (Five.r0 u5.here) 1
  clear u5 b5 e5 U BX
  go_wp2_with (first
    | (at_builtin; go_must (refine wp_appEl elem_int rfl _ _ rfl rfl (Five.r2 U5.out.here) rfl rfl (by decide) (by decide) (by omega) ?_); intro fb fc w6 ht6
       have t6 := U5.out.trans (Five.t2 U5.out.here ht6)
       obtain ⟨w7, e7⟩ : ∃ w7, w6.setCell ⟨rb, 1, none⟩ (.slice (some ⟨fb, 0, none⟩) 1 fc) = w7 := ⟨_, rfl⟩
       have v7 := cl_set (Five.r0 t6.here) 1 (.slice (some ⟨fb, 0, none⟩) 1 fc)
       have t7 := t6.trans (Five.t0 t6.here v7)
       have g1 : w6.cell? ⟨rb, 1, none⟩ = some fv := cA (Five.r0 t6.here) 1
       have gf := cZ (Five.r0 t6.here) 1)
    | fail)
  have hrX : rb < X := HXb.out rb (.inl rfl)
  have b6 := (cAt X #[.int .i64 0, .int .i64 0, .int .i64 0, .int .i64 0] 269).keep B5.out ht6.tch (fun b hb hx => by have e1 : b = X := hb; have := HXb.out b (.inr (.inr (.inl hx))); omega)
  have b7 := (cAt X #[.int .i64 0, .int .i64 0, .int .i64 0, .int .i64 0] 269).keep b6 v7.tch (fun b hb hx => by have e1 : b = X := hb; have e2 : b = rb := hx; omega)
  rw [e7] at t7 b7
  have T7 := hid (T0.out.trans t7)
  have q0 : w7.cell? ⟨nb, 0, none⟩ = some (.int .i64 1) := row_at (Five.r3 t7.here) 0 (by decide)
  have S0 : w7.drew.cell? ⟨rb, 3, none⟩ = some (.slice (some ⟨nb, 0, none⟩) 1 1) ∧ w7.drew.cell? ⟨X, 1, none⟩ = some (.int .i64 0) ∧ w7.drew.cell? ⟨nb, 0, none⟩ = some (.int .i64 1) := ⟨cA (Five.r0 t7.here) 3, cA b7 1, q0⟩
  have qf := row_fz (Five.r3 t7.drew.here) 0
  have t8 := t7.drew.trans (Five.t3 t7.drew.here (row_set (Five.r3 t7.drew.here) 0 (.int .i64 0)))
  have T8 := hid (T0.out.trans t8)
  have q0' := S0.2.2
  have hw0 : IntKind.i64.wrap 0 = 0 := by decide
  clear t8 t7 b7 b6 v7 e7 t6 g1 gf ht6 T7 U5 B5 q0
  refine wp_region_E (fun w' => w'.cell? ⟨rb, 3, none⟩ = some (.slice (some ⟨nb, 0, none⟩) 1 1) ∧ w'.cell? ⟨X, 1, none⟩ = some (.int .i64 0) ∧ w'.cell? ⟨nb, 0, none⟩ = some (.int .i64 1)) 10 (by kernel_rfl) S0 (fun hHeld => ?_)
  refine wkE 0 rfl ?_
  (try simp only [lzP, lzA, lzS])
  refine wkE 1 rfl ?_
  (try simp only [lzP, lzA, lzS])
  refine wkE 2 rfl ?_
  (try simp only [lzP, lzA, lzS])
  refine wkE 3 rfl ?_
  (try simp only [lzP, lzA, lzS])
  refine wkE 4 rfl ?_
  (try simp only [lzP, lzA, lzS])
  refine wkE 5 rfl ?_
  (try simp only [lzP, lzA, lzS])
  refine wkE 6 rfl ?_
  (try simp only [lzP, lzA, lzS])
  refine wkE 7 rfl ?_
  (try simp only [lzP, lzA, lzS])
  refine wkE 8 rfl ?_
  (try simp only [lzP, lzA, lzS])
  refine wkE 9 rfl ?_
  (try simp only [lzP, lzA, lzS])
  refine wpAnyE_ready (rs := [10]) (by as_aux_lemma => kernel_rfl) (by simp) ?_
  refine AllReadyE.last (o := _) rfl (fun K hK => ?_)
  rw [if_pos (by as_aux_lemma => rfl)]
  (try simp only [lzA])
  go_simp
  refine hK.out _ _ trivial (fun _ => ?_)
  clear hK K
  (try simp only [lzP, lzA, lzS])
  refine wpAnyE_done (by as_aux_lemma => kernel_rfl) ?_ _
  clear hHeld S0 q0' qf
  obtain ⟨w9, e9⟩ : ∃ w9, (w7.setCell ⟨nb, 0, none⟩ (.int .i64 0)).drew = w9 := ⟨_, rfl⟩
  have u9 := T8.out
  rw [show (w7.drew.setCell ⟨nb, 0, none⟩ (.int .i64 0)) = w9 from e9] at u9
  rw [e9]
  have r2 : w9.cell? ⟨rb, 2, none⟩ = some (.map (some mb)) := cA (Five.r0 u9.here) 2
  obtain ⟨w10, hdl, hd⟩ := mapII_del (Five.r4 u9.here) 0
  have u10 := u9.trans (Five.t4 u9.here hd)
  have U10 := hid u10
  clear u9 u10 e9 T8 hd
  go_wp2
  go_ret
  exact ⟨rfl, fb, fc, U10.out⟩
theorem row_drop {w : World} {fb fc : Nat} (h : (rwF (.slice (some ⟨fb, 0, none⟩) 1 fc) [1]).R w) : Turn (rwF (.slice (some ⟨fb, 0, none⟩) 1 fc) [1]) (rwF (.slice (some ⟨fb, 0, none⟩) 0 fc) []) w w :=
  ⟨own_drop h, Tch.refl _ _, fun _ h => .inl h⟩
set_option maxHeartbeats 2000000 in
theorem put_t1 {w : World} {rb g cap nb mb N fb fc : Nat} (h : (rowsR rb g cap nb mb 2 1 (.slice (some ⟨fb, 0, none⟩) 1 fc) [-1, 0, 0, 0, 0, 0, 0, 0] [1] [0] N none).R w) (hN : N ≤ 1000000) :
    Calls prog 399 #[.pointer (some ⟨rb, 0, none⟩), .int .i64 0, .int .i64 0, .int .i64 0] w fun e w' => e = .returned (.tuple #[]) ∧
      Turn (rowsR rb g cap nb mb 2 1 (.slice (some ⟨fb, 0, none⟩) 1 fc) [-1, 0, 0, 0, 0, 0, 0, 0] [1] [0] N none) (rowsR rb g cap nb mb 2 1 (.slice (some ⟨fb, 0, none⟩) 0 fc) [-1, 0, 1, 1, 0, 0, 0, 0] [] [1] (N + 1) (some 1)) w w' := by
  have H := hid h
  have c0 : w.cell? ⟨rb, 0, none⟩ = some (.slice (some ⟨g, 0, none⟩) 2 cap) := cA h.1 0
  have c1 : w.cell? ⟨rb, 1, none⟩ = some (.slice (some ⟨fb, 0, none⟩) 1 fc) := cA h.1 1
  have c2 : w.cell? ⟨fb, 0, none⟩ = some (.int .i64 1) := row_at (Five.r2 h) 0 (by decide)
  have cz := cZ (Five.r0 (Turn.rfl' h).drew.here) 1
  have hw0 : IntKind.i64.wrap 0 = 0 := by decide
  have hw1 : (IntKind.i64.wrap 0).toNat = 0 := by decide
  have hfc : 1 ≤ fc := (own_cap (Five.r2 h)).1
  have hfc' : (1 : Int) ≤ fc := by omega
  have hfc0 : (0 : Int) ≤ fc := by omega
  have hfcn : ¬ (0 : Nat) = fc := by omega
  have hfcm : ¬ fc = (0 : Nat) := by omega
  clear h
  go_enter func399, ntmps399
  go_wp2
  refine wp_region_E (fun w' => w'.cell? ⟨rb, 1, none⟩ = some (.slice (some ⟨fb, 0, none⟩) 1 fc) ∧ w'.cell? ⟨fb, 0, none⟩ = some (.int .i64 1)) 19 (by kernel_rfl) ⟨c1, c2⟩ (fun hHeld => ?_)
  refine wkE 0 rfl ?_
  (try simp only [lzP, lzA, lzS])
  refine wkE 1 rfl ?_
  (try simp only [lzP, lzA, lzS])
  refine wkE 2 rfl ?_
  (try simp only [lzP, lzA, lzS])
  refine wkE 3 rfl ?_
  (try simp only [lzP, lzA, lzS])
  refine wkE 4 rfl ?_
  (try simp only [lzP, lzA, lzS])
  refine wkE 5 rfl ?_
  (try simp only [lzP, lzA, lzS])
  refine wkE 6 rfl ?_
  (try simp only [lzP, lzA, lzS])
  refine wkE 7 rfl ?_
  (try simp only [lzP, lzA, lzS])
  refine wkE 8 rfl ?_
  (try simp only [lzP, lzA, lzS])
  refine wkE 9 rfl ?_
  (try simp only [lzP, lzA, lzS])
  refine wkE 10 rfl ?_
  (try simp only [lzP, lzA, lzS])
  refine wkE 11 rfl ?_
  (try simp only [lzP, lzA, lzS])
  refine wkE 12 rfl ?_
  (try simp only [lzP, lzA, lzS])
  refine wkE 13 rfl ?_
  (try simp only [lzP, lzA, lzS])
  refine wkE 14 rfl ?_
  (try simp only [lzP, lzA, lzS])
  refine wkE 15 rfl ?_
  (try simp only [lzP, lzA, lzS])
  refine wkE 16 rfl ?_
  (try simp only [lzP, lzA, lzS])
  refine wfE 17 rfl ?_
  (try simp only [lzP, lzA, lzS])
  refine wkE 18 rfl ?_
  (try simp only [lzP, lzA, lzS])
  refine wpAnyE_ready (rs := [19]) (by as_aux_lemma => kernel_rfl) (by simp) ?_
  refine AllReadyE.last (o := _) rfl (fun K hK => ?_)
  rw [if_pos (by as_aux_lemma => rfl)]
  (try simp only [lzA])
  go_simp
  refine hK.out _ _ trivial (fun _ => ?_)
  clear hK K
  (try simp only [lzP, lzA, lzS])
  refine wpAnyE_done (by as_aux_lemma => kernel_rfl) ?_ _
  clear hHeld
  obtain ⟨w3, e3⟩ : ∃ w3, (w.setCell ⟨rb, 1, none⟩ (.slice (some ⟨fb, 0, none⟩) 0 fc)).drew = w3 := ⟨_, rfl⟩
  have t1 := (Turn.rfl' H.out).drew
  have t2 := t1.trans (Five.t0 t1.here (cl_set (Five.r0 t1.here) 1 (.slice (some ⟨fb, 0, none⟩) 0 fc)))
  have t3 := t2.trans (Five.t2 t2.here (row_drop (Five.r2 t2.here)))
  rw [show (w.drew.setCell ⟨rb, 1, none⟩ (.slice (some ⟨fb, 0, none⟩) 0 fc)) = w3 from e3] at t3
  rw [e3]
  have T3 := hid t3
  have d0 : w3.cell? ⟨rb, 0, none⟩ = some (.slice (some ⟨g, 0, none⟩) 2 cap) := cA (Five.r0 t3.here) 0
  have lf := row_fz (Five.r1 t3.here)
  have l3 : w3.cell? ⟨g, 3, none⟩ = some (.int .i64 0) := row_at (Five.r1 t3.here) 3 (by decide)
  have lf3 := lf 3
  have l4 : w3.cell? ⟨g, 4, none⟩ = some (.int .i64 0) := row_at (Five.r1 t3.here) 4 (by decide)
  have lf4 := lf 4
  have l5 : w3.cell? ⟨g, 5, none⟩ = some (.int .i64 0) := row_at (Five.r1 t3.here) 5 (by decide)
  have lf5 := lf 5
  have l6 : w3.cell? ⟨g, 6, none⟩ = some (.int .i64 0) := row_at (Five.r1 t3.here) 6 (by decide)
  have lf6 := lf 6
  have l7 : w3.cell? ⟨g, 7, none⟩ = some (.int .i64 0) := row_at (Five.r1 t3.here) 7 (by decide)
  have lf7 := lf 7
  clear t1 t2 t3 e3 c0 c1 c2 cz lf hw0 hw1 hfc hfc' hfc0 hfcn hfcm
  go_wp2
  obtain ⟨w4, e4⟩ : ∃ w4, ((((w3.setCell ⟨g, 4, none⟩ (.int .i64 0)).setCell ⟨g, 5, none⟩ (.int .i64 0)).setCell ⟨g, 6, none⟩ (.int .i64 0)).setCell ⟨g, 7, none⟩ (.int .i64 0)) = w4 := ⟨_, rfl⟩
  rw [e4]
  have t4 := Five.t1 T3.out.here (row_set (Five.r1 T3.out.here) 4 (.int .i64 0))
  have t5 := t4.trans (Five.t1 t4.here (row_set (Five.r1 t4.here) 5 (.int .i64 0)))
  have t6 := t5.trans (Five.t1 t5.here (row_set (Five.r1 t5.here) 6 (.int .i64 0)))
  have t7 := t6.trans (Five.t1 t6.here (row_set (Five.r1 t6.here) 7 (.int .i64 0)))
  rw [e4] at t7
  have T4 := hid t7
  have d0' : w4.cell? ⟨rb, 0, none⟩ = some (.slice (some ⟨g, 0, none⟩) 2 cap) := cA (Five.r0 t7.here) 0
  have m2 : w4.cell? ⟨g, 2, none⟩ = some (.int .i64 0) := row_at (Five.r1 t7.here) 2 (by decide)
  have m3 : w4.cell? ⟨g, 3, none⟩ = some (.int .i64 0) := row_at (Five.r1 t7.here) 3 (by decide)
  have n2 := row_fz (Five.r1 t7.here) 2
  have n3 := row_fz (Five.r1 t7.here) 3
  have u3 := Five.t1 t7.here (row_set (Five.r1 t7.here) 3 (.int .i64 1))
  have u2 := Five.t1 u3.here (row_set (Five.r1 u3.here) 2 (.int .i64 1))
  have d1' : (w4.setCell ⟨g, 3, none⟩ (.int .i64 1)).cell? ⟨rb, 0, none⟩ = some (.slice (some ⟨g, 0, none⟩) 2 cap) := cA (Five.r0 u3.here) 0
  have d2' : ((w4.setCell ⟨g, 3, none⟩ (.int .i64 1)).setCell ⟨g, 2, none⟩ (.int .i64 1)).cell? ⟨rb, 0, none⟩ = some (.slice (some ⟨g, 0, none⟩) 2 cap) := cA (Five.r0 u2.here) 0
  have U := hid (u3.trans u2)
  clear u3 u2
  clear t4 t5 t6 t7 e4 d0  l3 lf3 l4 lf4 l5 lf5 l6 lf6 l7 lf7
  go_region_held3 (fun w' => w'.cell? ⟨rb, 0, none⟩ = some (.slice (some ⟨g, 0, none⟩) 2 cap)) (first | exact d0' | exact d1' | exact d2') (fail)
  rename_i hHeld
  obtain ⟨w5, e5⟩ : ∃ w5, ((w4.setCell ⟨g, 3, none⟩ (.int .i64 1)).setCell ⟨g, 2, none⟩ (.int .i64 1)).drew = w5 := ⟨_, rfl⟩
  have u5 := U.out.drew
  rw [e5] at u5 ⊢
  have r2 : w5.cell? ⟨rb, 2, none⟩ = some (.map (some mb)) := cA (Five.r0 u5.here) 2
  obtain ⟨w6, hmu, t6⟩ := mapII_put (Five.r4 u5.here) 1 (by omega) (by unfold maxLen; omega)
  have u6 := u5.trans (Five.t4 u5.here t6)
  have r3 : w6.cell? ⟨rb, 3, none⟩ = some (.slice (some ⟨nb, 0, none⟩) 1 1) := cA (Five.r0 u6.here) 3
  have q0 : w6.cell? ⟨nb, 0, none⟩ = some (.int .i64 0) := row_at (Five.r3 u6.here) 0 (by decide)
  have qf := row_fz (Five.r3 u6.here) 0
  have u7 := u6.trans (Five.t3 u6.here (row_set (Five.r3 u6.here) 0 (.int .i64 1)))
  have U7 := hid ((T3.out.trans T4.out).trans u7)
  clear t6 u5 u6 u7 e5 T3 T4 U H d0' d1' d2' m2 m3 n2 n3 hHeld
  go_wp2
  go_end0
  exact ⟨rfl, U7.out⟩
set_option maxHeartbeats 1000000 in
theorem front_p1 {w : World} {rb lb lc nb mb N : Nat} {fv : Value} (h : (rowsR rb lb lc nb mb 2 1 fv [-1, 0, 1, 1, 0, 0, 0, 0] [] [1] N (some 1)).R w) (hN : N ≤ 1000000) :
    Calls prog 396 #[.pointer (some ⟨rb, 0, none⟩), .int .i64 0, .int .i64 0] w fun e w' => e = .returned (.bool true) ∧
      ∃ fv', Turn (rowsR rb lb lc nb mb 2 1 fv [-1, 0, 1, 1, 0, 0, 0, 0] [] [1] N (some 1)) (rowsR rb lb lc nb mb 2 1 fv' [-1, 0, 1, 1, 0, 0, 0, 0] [] [1] (N + 1) (some 1)) w w' := by
  have HH := hid (has_any h (by omega))
  have HT := hid (take_p1 h)
  clear h
  go_enter func396, ntmps396
  go_wp2_with (first
    | (go_at_call 398; refine HH.out.mono ?_; rintro e w' ⟨rfl, rfl⟩)
    | (go_at_call 394; refine HT.out.mono ?_; rintro e w' ⟨rfl, fb, fc, ht⟩)
    | (go_at_call 399; refine (put_t1 ht.here hN).mono ?_; rintro e w'' ⟨rfl, ht'⟩))
  go_ret
  exact ⟨rfl, _, ht.trans ht'⟩
theorem row_yes {w : World} {rb lb lc nb mb K rn : Nat} {fv : Value} {ls fs ns : List Int} {N k : Nat} (h : (rowsR rb lb lc nb mb K rn fv ls fs ns N (some k)).R w) (hk : 4 * k + 1 < ls.length) (hK : k < K) (h0 : ls[4 * k + 1]? = some 0) :
    Calls prog 395 #[.pointer (some ⟨rb, 0, none⟩), .int .i64 0] w fun e w' => e = .returned (.int .i64 0) ∧ w = w' := by
  have c0 : w.cell? ⟨rb, 0, none⟩ = some (.slice (some ⟨lb, 0, none⟩) K lc) := cA h.1 0
  have c2 : w.cell? ⟨rb, 2, none⟩ = some (.map (some mb)) := cA h.1 2
  have hl := mapII_look (Five.r4 h)
  simp only [Option.getD_some, Option.isSome_some] at hl
  have l1 : w.cell? ⟨lb, k * 4 + 1, none⟩ = some (.int .i64 0) := by
    have := row_at (Five.r1 h) (4 * k + 1) (by simp [ints]; exact hk)
    rw [Nat.mul_comm k 4, this]; simp [ints, h0]
  have h1 : (0 : Int) ≤ (k : Int) := by omega
  have h2 : (k : Int) < (K : Int) := by omega
  clear h hk h0
  go_enter func395, ntmps395
  go_wp2
  go_ret
  exact ⟨rfl, rfl⟩
end Go.Proofs.YtboehbfagnocpaaGreatDoor
