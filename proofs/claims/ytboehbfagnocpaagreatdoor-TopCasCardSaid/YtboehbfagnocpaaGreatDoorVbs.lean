/- Tnr, Tnv, Tpc, Tcw, Tca, Tuc, Tud. -/
import Derived.Test.YtboehbfagnocpaaGreatDoorVai
import Derived.Test.YtboehbfagnocpaaGreatDoorVbq
import Derived.Test.YtboehbfagnocpaaGreatDoorVbp
import Derived.Test.YtboehbfagnocpaaGreatDoorVay
import Derived.Deep.RegionHeld3
import Derived.Deep.RegionWith
set_option linter.unusedVariables false
set_option linter.unusedSimpArgs false
set_option maxRecDepth 100000
namespace Go.Proofs.YtboehbfagnocpaaGreatDoor
open Go.RowKit Go.PlainAid Go.Shelf
open SP
open PM (Cd An Sd Vl upd upd_same upd_ne)
section
variable {key : ByteArray} {h : Int} {bk : Nat} {w : World}
set_option maxHeartbeats 2000000 in
theorem new_11 (k : Bool) {kv : Int} (hkv : (if k then 1 else 0) = kv) (w : World) : Calls Tryz.prog 9 #[.agg #[.int .i64 1, .int .i64 512, .int .i64 200, .int .i64 kv], .int .i64 1, .int .i64 1, .int .i64 9] w fun e w' =>
    ∃ p : Pl, e = .returned (.tuple #[.pointer (some ⟨p.b, 0, none⟩), .int .i64 0]) ∧ SOkE p.m ∧ p.m.ps.num = 0 ∧ Made (many (opL key h bk 1 1 0 p (.slice none 0 0))) w w' := by
  have HS := Lib.hid (fun w => store_new (key := key) (h := h) (bk := bk) k w hkv)
  have HMv := Lib.hid (fun w => mover_new (every := 9) (by decide) w)
  have HSt := Lib.hid (fun w => stats_new w)
  have HRp := Lib.hid (fun (xb : Nat) (w : World) (hc : w.cell? ⟨xb, 0, none⟩ = some (.int .i64 (-1))) => repeat_1 hc)
  have hmk : ∀ w : World, (Instr.makeSlice 77 (.int .i64 1) (.int .i64 1)).run Tryz.prog w = .ok (.slice (some ⟨w.heap.size, 0, none⟩) 1 1) (w.alloc (.cells #[.pointer none] 140)) :=
    fun w => by rw [← made_w1]; exact run_make_row' (P := Tryz.prog) 77 140 (.pointer none) 8 Tryz.underlying77 Tryz.infoW rfl .i64 .i64 1 (by decide) (by decide) w
  have J0 := (Hav.none w).cells #[.int .i64 1, .int .i64 512, .int .i64 200, .int .i64 kv] 28
  obtain ⟨CB, hCB⟩ : ∃ CB, w.heap.size = CB := ⟨_, rfl⟩
  obtain ⟨W0, hW0⟩ : ∃ W0, w.alloc (.cells #[.int .i64 1, .int .i64 512, .int .i64 200, .int .i64 kv] 28) = W0 := ⟨_, rfl⟩
  rw [hCB, hW0] at J0
  have HW0 := Lib.hid hW0
  have HJ0 := Lib.hid J0
  obtain ⟨c0, c1, c2, c3⟩ : ca4 W0 CB (.int .i64 1) (.int .i64 512) (.int .i64 200) (.int .i64 kv) := ca4' (J0.get 0 rfl)
  clear J0 hW0 hkv
  go_enter Tryz.func9, Tryz.ntmps9
  go_upto_region 1 with fail
  rw [HW0.out]
  clear HW0 hCB
  go_wp2_with (first
    | (go_at_call 14; refine (HS.out _).mono ?_; rintro e w1 ⟨m, rfl, ho, hn0, hm1⟩; have HJ1 := Lib.hid (HJ0.out.made hm1); have HO := Lib.hid (And.intro ho hn0); clear hm1 ho hn0)
    | (go_at_call 32; refine (HMv.out _).mono ?_; rintro e w2 ⟨mv, rfl, hb2⟩; have HJ2 := Lib.hid (HJ1.out.below hb2); clear hb2))
  go_upto_region 5 with fail
  go_cut [8, 9] from 42 to 51 (fun s8 s9 wx => ∃ b wlb slb sx, s8 = .pointer (some ⟨b, 0, none⟩) ∧ s9 = .int .i64 0 ∧ Hid (Hav (fun _ => False) w [cellsAt b #[.pointer (some ⟨m.s, 0, none⟩), .pointer (some ⟨mv, 0, none⟩), .pointer (some ⟨sx, 0, none⟩), .int .i64 1, .slice none 0 0, .slice (some ⟨wlb, 0, none⟩) 1 1, .slice (some ⟨slb, 0, none⟩) 1 1, .slice none 0 0] 81, cellsAt wlb #[.pointer none] 140, rowAt (.slice (some ⟨slb, 0, none⟩) 1 1) 3 1 1 [.int .i64 (-1)], stsR sx (fun _ => 0), stoR key h bk m PM.sd0] wx))
  case first =>
    go_region_held3 (fun _ => True) (exact trivial) (first
      | (go_at_call 33; refine (HSt.out _).mono ?_; rintro e w5 ⟨sx, rfl, hmA⟩)
      | (go_at_call 34
         (first
          | (have J := ((((HJ2.out).drew).made hmA).cells #[.pointer none] 140).cells #[.int .i64 (-1)] 3; (try simp only [World.size_alloc, World.size_drew] at J); have hq : _ = some (Value.int .i64 (-1)) := cells_at (J.get 0 rfl) 0; (with_reducible refine (HRp.out _ _ hq).mono ?_); clear J hq)
          | (have J := ((((HJ2.out).drew).made hmA).cells #[.int .i64 (-1)] 3).cells #[.pointer none] 140; (try simp only [World.size_alloc, World.size_drew] at J); have hq : _ = some (Value.int .i64 (-1)) := cells_at (J.get 1 rfl) 0; (with_reducible refine (HRp.out _ _ hq).mono ?_); clear J hq)
          | (have J := (((HJ2.out).drew).made hmA).cells #[.int .i64 (-1)] 3; (try simp only [World.size_alloc, World.size_drew] at J); have hq : _ = some (Value.int .i64 (-1)) := cells_at (J.get 0 rfl) 0; (with_reducible refine (HRp.out _ _ hq).mono ?_); clear J hq)
          | (have J := ((((HJ2.out).cells #[.pointer none] 140).drew).made hmA).cells #[.int .i64 (-1)] 3; (try simp only [World.size_alloc, World.size_drew] at J); have hq : _ = some (Value.int .i64 (-1)) := cells_at (J.get 0 rfl) 0; (with_reducible refine (HRp.out _ _ hq).mono ?_); clear J hq)
          | (have J := ((((HJ2.out).cells #[.pointer none] 140).cells #[.int .i64 (-1)] 3).drew).made hmA; (try simp only [World.size_alloc, World.size_drew] at J); have hq : _ = some (Value.int .i64 (-1)) := cells_at (J.get 1 rfl) 0; (with_reducible refine (HRp.out _ _ hq).mono ?_); clear J hq)
          | (have J := (((HJ2.out).cells #[.pointer none] 140).cells #[.int .i64 (-1)] 3).drew; (try simp only [World.size_alloc, World.size_drew] at J); have hq : _ = some (Value.int .i64 (-1)) := cells_at (J.get 0 rfl) 0; (with_reducible refine (HRp.out _ _ hq).mono ?_); clear J hq)
          | (have J := ((((HJ2.out).cells #[.int .i64 (-1)] 3).drew).made hmA).cells #[.pointer none] 140; (try simp only [World.size_alloc, World.size_drew] at J); have hq : _ = some (Value.int .i64 (-1)) := cells_at (J.get 2 rfl) 0; (with_reducible refine (HRp.out _ _ hq).mono ?_); clear J hq)
          | (have J := (((HJ2.out).cells #[.int .i64 (-1)] 3).drew).made hmA; (try simp only [World.size_alloc, World.size_drew] at J); have hq : _ = some (Value.int .i64 (-1)) := cells_at (J.get 1 rfl) 0; (with_reducible refine (HRp.out _ _ hq).mono ?_); clear J hq)
          | (have J := ((((HJ2.out).cells #[.int .i64 (-1)] 3).cells #[.pointer none] 140).drew).made hmA; (try simp only [World.size_alloc, World.size_drew] at J); have hq : _ = some (Value.int .i64 (-1)) := cells_at (J.get 2 rfl) 0; (with_reducible refine (HRp.out _ _ hq).mono ?_); clear J hq)
          | (have J := (((HJ2.out).cells #[.int .i64 (-1)] 3).cells #[.pointer none] 140).drew; (try simp only [World.size_alloc, World.size_drew] at J); have hq : _ = some (Value.int .i64 (-1)) := cells_at (J.get 1 rfl) 0; (with_reducible refine (HRp.out _ _ hq).mono ?_); clear J hq)
          | (have J := ((HJ2.out).cells #[.int .i64 (-1)] 3).drew; (try simp only [World.size_alloc, World.size_drew] at J); have hq : _ = some (Value.int .i64 (-1)) := cells_at (J.get 0 rfl) 0; (with_reducible refine (HRp.out _ _ hq).mono ?_); clear J hq))
         rintro e w6 ⟨g, rfl, hmD⟩))
    all_goals (go_wp2_with fail)
    all_goals go_meet
    all_goals first
      | (have J := ((((((HJ2.out).drew).made hmA).cells #[.pointer none] 140).cells #[.int .i64 (-1)] 3).made hmD).cells #[.pointer (some ⟨m.s, 0, none⟩), .pointer (some ⟨mv, 0, none⟩), .pointer (some ⟨sx, 0, none⟩), .int .i64 1, .slice none 0 0, .slice (some ⟨w5.heap.size, 0, none⟩) 1 1, .slice (some ⟨g, 0, none⟩) 1 1, .slice none 0 0] 81; (try simp only [World.size_alloc, World.size_drew] at J); (with_reducible refine ⟨_, w5.heap.size, g, sx, rfl, rfl, Lib.hid (Hav.sel J [0, 3, 1, 4, 5] (by decide) ?_)⟩); rfl)
      | (have J := ((((((HJ2.out).drew).made hmA).cells #[.int .i64 (-1)] 3).cells #[.pointer none] 140).made hmD).cells #[.pointer (some ⟨m.s, 0, none⟩), .pointer (some ⟨mv, 0, none⟩), .pointer (some ⟨sx, 0, none⟩), .int .i64 1, .slice none 0 0, .slice (some ⟨w5.heap.size + 1, 0, none⟩) 1 1, .slice (some ⟨g, 0, none⟩) 1 1, .slice none 0 0] 81; (try simp only [World.size_alloc, World.size_drew] at J); (with_reducible refine ⟨_, w5.heap.size + 1, g, sx, rfl, rfl, Lib.hid (Hav.sel J [0, 2, 1, 4, 5] (by decide) ?_)⟩); rfl)
      | (have J := ((((((HJ2.out).drew).made hmA).cells #[.int .i64 (-1)] 3).made hmD).cells #[.pointer none] 140).cells #[.pointer (some ⟨m.s, 0, none⟩), .pointer (some ⟨mv, 0, none⟩), .pointer (some ⟨sx, 0, none⟩), .int .i64 1, .slice none 0 0, .slice (some ⟨w6.heap.size, 0, none⟩) 1 1, .slice (some ⟨g, 0, none⟩) 1 1, .slice none 0 0] 81; (try simp only [World.size_alloc, World.size_drew] at J); (with_reducible refine ⟨_, w6.heap.size, g, sx, rfl, rfl, Lib.hid (Hav.sel J [0, 1, 2, 4, 5] (by decide) ?_)⟩); rfl)
      | (have J := ((((((HJ2.out).cells #[.pointer none] 140).drew).made hmA).cells #[.int .i64 (-1)] 3).made hmD).cells #[.pointer (some ⟨m.s, 0, none⟩), .pointer (some ⟨mv, 0, none⟩), .pointer (some ⟨sx, 0, none⟩), .int .i64 1, .slice none 0 0, .slice (some ⟨w2.heap.size, 0, none⟩) 1 1, .slice (some ⟨g, 0, none⟩) 1 1, .slice none 0 0] 81; (try simp only [World.size_alloc, World.size_drew] at J); (with_reducible refine ⟨_, w2.heap.size, g, sx, rfl, rfl, Lib.hid (Hav.sel J [0, 4, 1, 3, 5] (by decide) ?_)⟩); rfl)
      | (have J := ((((((HJ2.out).cells #[.pointer none] 140).cells #[.int .i64 (-1)] 3).drew).made hmA).made hmD).cells #[.pointer (some ⟨m.s, 0, none⟩), .pointer (some ⟨mv, 0, none⟩), .pointer (some ⟨sx, 0, none⟩), .int .i64 1, .slice none 0 0, .slice (some ⟨w2.heap.size, 0, none⟩) 1 1, .slice (some ⟨g, 0, none⟩) 1 1, .slice none 0 0] 81; (try simp only [World.size_alloc, World.size_drew] at J); (with_reducible refine ⟨_, w2.heap.size, g, sx, rfl, rfl, Lib.hid (Hav.sel J [0, 4, 1, 2, 5] (by decide) ?_)⟩); rfl)
      | (have J := ((((((HJ2.out).cells #[.pointer none] 140).cells #[.int .i64 (-1)] 3).drew).made hmD).made hmA).cells #[.pointer (some ⟨m.s, 0, none⟩), .pointer (some ⟨mv, 0, none⟩), .pointer (some ⟨sx, 0, none⟩), .int .i64 1, .slice none 0 0, .slice (some ⟨w2.heap.size, 0, none⟩) 1 1, .slice (some ⟨g, 0, none⟩) 1 1, .slice none 0 0] 81; (try simp only [World.size_alloc, World.size_drew] at J); (with_reducible refine ⟨_, w2.heap.size, g, sx, rfl, rfl, Lib.hid (Hav.sel J [0, 4, 2, 1, 5] (by decide) ?_)⟩); rfl)
      | (have J := ((((((HJ2.out).cells #[.int .i64 (-1)] 3).drew).made hmA).cells #[.pointer none] 140).made hmD).cells #[.pointer (some ⟨m.s, 0, none⟩), .pointer (some ⟨mv, 0, none⟩), .pointer (some ⟨sx, 0, none⟩), .int .i64 1, .slice none 0 0, .slice (some ⟨w5.heap.size, 0, none⟩) 1 1, .slice (some ⟨g, 0, none⟩) 1 1, .slice none 0 0] 81; (try simp only [World.size_alloc, World.size_drew] at J); (with_reducible refine ⟨_, w5.heap.size, g, sx, rfl, rfl, Lib.hid (Hav.sel J [0, 2, 1, 3, 5] (by decide) ?_)⟩); rfl)
      | (have J := ((((((HJ2.out).cells #[.int .i64 (-1)] 3).drew).made hmA).made hmD).cells #[.pointer none] 140).cells #[.pointer (some ⟨m.s, 0, none⟩), .pointer (some ⟨mv, 0, none⟩), .pointer (some ⟨sx, 0, none⟩), .int .i64 1, .slice none 0 0, .slice (some ⟨w6.heap.size, 0, none⟩) 1 1, .slice (some ⟨g, 0, none⟩) 1 1, .slice none 0 0] 81; (try simp only [World.size_alloc, World.size_drew] at J); (with_reducible refine ⟨_, w6.heap.size, g, sx, rfl, rfl, Lib.hid (Hav.sel J [0, 1, 2, 3, 5] (by decide) ?_)⟩); rfl)
      | (have J := ((((((HJ2.out).cells #[.int .i64 (-1)] 3).cells #[.pointer none] 140).drew).made hmA).made hmD).cells #[.pointer (some ⟨m.s, 0, none⟩), .pointer (some ⟨mv, 0, none⟩), .pointer (some ⟨sx, 0, none⟩), .int .i64 1, .slice none 0 0, .slice (some ⟨w2.heap.size + 1, 0, none⟩) 1 1, .slice (some ⟨g, 0, none⟩) 1 1, .slice none 0 0] 81; (try simp only [World.size_alloc, World.size_drew] at J); (with_reducible refine ⟨_, w2.heap.size + 1, g, sx, rfl, rfl, Lib.hid (Hav.sel J [0, 3, 1, 2, 5] (by decide) ?_)⟩); rfl)
      | (have J := ((((((HJ2.out).cells #[.int .i64 (-1)] 3).cells #[.pointer none] 140).drew).made hmD).made hmA).cells #[.pointer (some ⟨m.s, 0, none⟩), .pointer (some ⟨mv, 0, none⟩), .pointer (some ⟨sx, 0, none⟩), .int .i64 1, .slice none 0 0, .slice (some ⟨w2.heap.size + 1, 0, none⟩) 1 1, .slice (some ⟨g, 0, none⟩) 1 1, .slice none 0 0] 81; (try simp only [World.size_alloc, World.size_drew] at J); (with_reducible refine ⟨_, w2.heap.size + 1, g, sx, rfl, rfl, Lib.hid (Hav.sel J [0, 3, 2, 1, 5] (by decide) ?_)⟩); rfl)
      | (have J := ((((((HJ2.out).cells #[.int .i64 (-1)] 3).drew).made hmD).made hmA).cells #[.pointer none] 140).cells #[.pointer (some ⟨m.s, 0, none⟩), .pointer (some ⟨mv, 0, none⟩), .pointer (some ⟨sx, 0, none⟩), .int .i64 1, .slice none 0 0, .slice (some ⟨w5.heap.size, 0, none⟩) 1 1, .slice (some ⟨g, 0, none⟩) 1 1, .slice none 0 0] 81; (try simp only [World.size_alloc, World.size_drew] at J); (with_reducible refine ⟨_, w5.heap.size, g, sx, rfl, rfl, Lib.hid (Hav.sel J [0, 1, 3, 2, 5] (by decide) ?_)⟩); rfl)
      | (have J := ((((((HJ2.out).cells #[.int .i64 (-1)] 3).drew).made hmD).cells #[.pointer none] 140).made hmA).cells #[.pointer (some ⟨m.s, 0, none⟩), .pointer (some ⟨mv, 0, none⟩), .pointer (some ⟨sx, 0, none⟩), .int .i64 1, .slice none 0 0, .slice (some ⟨w6.heap.size, 0, none⟩) 1 1, .slice (some ⟨g, 0, none⟩) 1 1, .slice none 0 0] 81; (try simp only [World.size_alloc, World.size_drew] at J); (with_reducible refine ⟨_, w6.heap.size, g, sx, rfl, rfl, Lib.hid (Hav.sel J [0, 2, 3, 1, 5] (by decide) ?_)⟩); rfl)
      | fail
  case rest =>
    obtain ⟨b, wlb, slb, sx, rfl, rfl, hJ⟩ := hcut
    go_wp2_with (fail)
    go_ret2
    have J1 := hJ.out.turn 1 rfl (Turn.conv (r' := rowAt (.slice (some ⟨wlb, 0, none⟩) 1 1) 140 1 1 [.pointer none]) (hJ.out.get 1 rfl) (fun h => cells_row h rfl (by decide)) (fun b hb => (by have e : some wlb = some b := hb; cases e; rfl)))
    have J2 := hav_rowNil (hav_rowNil J1 82 1) 136 35
    have J3 := hav_add (r := fam 0 (clR key (⟨b, mv, sx, 0, 0, wlb, 1, slb, 1, .slice none 0 0, fun _ => 0, fun _ => 0, fun _ => 0, fun _ => ⟨0, 0, 0, .slice none 0 0, .slice none 0 0⟩, m⟩ : Pl) PM.ini)) J2 (fam_new0 _) (fun b hb => (by obtain ⟨r, hr, _⟩ := hb; simp [lst] at hr))
    have J4 := hav_add (r := fam 1 (fun _ => emp)) J3 (fam_emp _ _) (fun b hb => (by obtain ⟨r, hr, hb⟩ := hb; simp [lst] at hr; obtain ⟨_, _, rfl⟩ := hr; exact hb))
    have J5 := J4.sel (L2 := opL key h bk 1 1 0 (⟨b, mv, sx, 0, 0, wlb, 1, slb, 1, .slice none 0 0, fun _ => 0, fun _ => 0, fun _ => 0, fun _ => ⟨0, 0, 0, .slice none 0 0, .slice none 0 0⟩, m⟩ : Pl) (.slice none 0 0)) [4, 3, 5, 6, 2, 8, 7, 1, 0] (by decide) rfl
    exact ⟨⟨b, mv, sx, 0, 0, wlb, 1, slb, 1, .slice none 0 0, fun _ => 0, fun _ => 0, fun _ => 0, fun _ => ⟨0, 0, 0, .slice none 0 0, .slice none 0 0⟩, m⟩, rfl, HO.out.1, HO.out.2, (J5.emp).group.made0 0 rfl⟩
end
end Go.Proofs.YtboehbfagnocpaaGreatDoor
namespace Go.Proofs.YtboehbfagnocpaaGreatDoor
open Go.RowKit Go.PlainAid Go.Shelf
open SP
open PM (Cd An Sd Vl upd upd_same upd_ne)
section
variable {key : ByteArray} {h : Int} {bk : Nat} {w : World}
set_option maxHeartbeats 2000000 in
theorem new_44 (k : Bool) {kv : Int} (hkv : (if k then 1 else 0) = kv) (w : World) : Calls Tryz.prog 9 #[.agg #[.int .i64 1, .int .i64 512, .int .i64 200, .int .i64 kv], .int .i64 4, .int .i64 4, .int .i64 5] w fun e w' =>
    ∃ p : Pl, e = .returned (.tuple #[.pointer (some ⟨p.b, 0, none⟩), .int .i64 0]) ∧ SOkE p.m ∧ p.m.ps.num = 0 ∧ Made (many (opL key h bk 4 4 0 p (.slice none 0 0))) w w' := by
  have HS := Lib.hid (fun w => store_new (key := key) (h := h) (bk := bk) k w hkv)
  have HMv := Lib.hid (fun w => mover_new (every := 5) (by decide) w)
  have HSt := Lib.hid (fun w => stats_new w)
  have HRp := Lib.hid (fun (xb : Nat) (w : World) (hc : w.cell? ⟨xb, 0, none⟩ = some (.int .i64 (-1))) => repeat_4 hc)
  have hmk : ∀ w : World, (Instr.makeSlice 77 (.int .i64 4) (.int .i64 4)).run Tryz.prog w = .ok (.slice (some ⟨w.heap.size, 0, none⟩) 4 4) (w.alloc (.cells #[.pointer none, .pointer none, .pointer none, .pointer none] 140)) :=
    fun w => by rw [← made_w4]; exact run_make_row' (P := Tryz.prog) 77 140 (.pointer none) 8 Tryz.underlying77 Tryz.infoW rfl .i64 .i64 4 (by decide) (by decide) w
  have J0 := (Hav.none w).cells #[.int .i64 1, .int .i64 512, .int .i64 200, .int .i64 kv] 28
  obtain ⟨CB, hCB⟩ : ∃ CB, w.heap.size = CB := ⟨_, rfl⟩
  obtain ⟨W0, hW0⟩ : ∃ W0, w.alloc (.cells #[.int .i64 1, .int .i64 512, .int .i64 200, .int .i64 kv] 28) = W0 := ⟨_, rfl⟩
  rw [hCB, hW0] at J0
  have HW0 := Lib.hid hW0
  have HJ0 := Lib.hid J0
  obtain ⟨c0, c1, c2, c3⟩ : ca4 W0 CB (.int .i64 1) (.int .i64 512) (.int .i64 200) (.int .i64 kv) := ca4' (J0.get 0 rfl)
  clear J0 hW0 hkv
  go_enter Tryz.func9, Tryz.ntmps9
  go_upto_region 1 with fail
  rw [HW0.out]
  clear HW0 hCB
  go_wp2_with (first
    | (go_at_call 14; refine (HS.out _).mono ?_; rintro e w1 ⟨m, rfl, ho, hn0, hm1⟩; have HJ1 := Lib.hid (HJ0.out.made hm1); have HO := Lib.hid (And.intro ho hn0); clear hm1 ho hn0)
    | (go_at_call 32; refine (HMv.out _).mono ?_; rintro e w2 ⟨mv, rfl, hb2⟩; have HJ2 := Lib.hid (HJ1.out.below hb2); clear hb2))
  go_upto_region 5 with fail
  go_cut [8, 9] from 42 to 51 (fun s8 s9 wx => ∃ b wlb slb sx, s8 = .pointer (some ⟨b, 0, none⟩) ∧ s9 = .int .i64 0 ∧ Hid (Hav (fun _ => False) w [cellsAt b #[.pointer (some ⟨m.s, 0, none⟩), .pointer (some ⟨mv, 0, none⟩), .pointer (some ⟨sx, 0, none⟩), .int .i64 1, .slice none 0 0, .slice (some ⟨wlb, 0, none⟩) 4 4, .slice (some ⟨slb, 0, none⟩) 4 4, .slice none 0 0] 81, cellsAt wlb #[.pointer none, .pointer none, .pointer none, .pointer none] 140, rowAt (.slice (some ⟨slb, 0, none⟩) 4 4) 3 1 4 [.int .i64 (-1), .int .i64 (-1), .int .i64 (-1), .int .i64 (-1)], stsR sx (fun _ => 0), stoR key h bk m PM.sd0] wx))
  case first =>
    go_region_held3 (fun _ => True) (exact trivial) (first
      | (go_at_call 33; refine (HSt.out _).mono ?_; rintro e w5 ⟨sx, rfl, hmA⟩)
      | (go_at_call 34
         (first
          | (have J := ((((HJ2.out).drew).made hmA).cells #[.pointer none, .pointer none, .pointer none, .pointer none] 140).cells #[.int .i64 (-1)] 3; (try simp only [World.size_alloc, World.size_drew] at J); have hq : _ = some (Value.int .i64 (-1)) := cells_at (J.get 0 rfl) 0; (with_reducible refine (HRp.out _ _ hq).mono ?_); clear J hq)
          | (have J := ((((HJ2.out).drew).made hmA).cells #[.int .i64 (-1)] 3).cells #[.pointer none, .pointer none, .pointer none, .pointer none] 140; (try simp only [World.size_alloc, World.size_drew] at J); have hq : _ = some (Value.int .i64 (-1)) := cells_at (J.get 1 rfl) 0; (with_reducible refine (HRp.out _ _ hq).mono ?_); clear J hq)
          | (have J := (((HJ2.out).drew).made hmA).cells #[.int .i64 (-1)] 3; (try simp only [World.size_alloc, World.size_drew] at J); have hq : _ = some (Value.int .i64 (-1)) := cells_at (J.get 0 rfl) 0; (with_reducible refine (HRp.out _ _ hq).mono ?_); clear J hq)
          | (have J := ((((HJ2.out).cells #[.pointer none, .pointer none, .pointer none, .pointer none] 140).drew).made hmA).cells #[.int .i64 (-1)] 3; (try simp only [World.size_alloc, World.size_drew] at J); have hq : _ = some (Value.int .i64 (-1)) := cells_at (J.get 0 rfl) 0; (with_reducible refine (HRp.out _ _ hq).mono ?_); clear J hq)
          | (have J := ((((HJ2.out).cells #[.pointer none, .pointer none, .pointer none, .pointer none] 140).cells #[.int .i64 (-1)] 3).drew).made hmA; (try simp only [World.size_alloc, World.size_drew] at J); have hq : _ = some (Value.int .i64 (-1)) := cells_at (J.get 1 rfl) 0; (with_reducible refine (HRp.out _ _ hq).mono ?_); clear J hq)
          | (have J := (((HJ2.out).cells #[.pointer none, .pointer none, .pointer none, .pointer none] 140).cells #[.int .i64 (-1)] 3).drew; (try simp only [World.size_alloc, World.size_drew] at J); have hq : _ = some (Value.int .i64 (-1)) := cells_at (J.get 0 rfl) 0; (with_reducible refine (HRp.out _ _ hq).mono ?_); clear J hq)
          | (have J := ((((HJ2.out).cells #[.int .i64 (-1)] 3).drew).made hmA).cells #[.pointer none, .pointer none, .pointer none, .pointer none] 140; (try simp only [World.size_alloc, World.size_drew] at J); have hq : _ = some (Value.int .i64 (-1)) := cells_at (J.get 2 rfl) 0; (with_reducible refine (HRp.out _ _ hq).mono ?_); clear J hq)
          | (have J := (((HJ2.out).cells #[.int .i64 (-1)] 3).drew).made hmA; (try simp only [World.size_alloc, World.size_drew] at J); have hq : _ = some (Value.int .i64 (-1)) := cells_at (J.get 1 rfl) 0; (with_reducible refine (HRp.out _ _ hq).mono ?_); clear J hq)
          | (have J := ((((HJ2.out).cells #[.int .i64 (-1)] 3).cells #[.pointer none, .pointer none, .pointer none, .pointer none] 140).drew).made hmA; (try simp only [World.size_alloc, World.size_drew] at J); have hq : _ = some (Value.int .i64 (-1)) := cells_at (J.get 2 rfl) 0; (with_reducible refine (HRp.out _ _ hq).mono ?_); clear J hq)
          | (have J := (((HJ2.out).cells #[.int .i64 (-1)] 3).cells #[.pointer none, .pointer none, .pointer none, .pointer none] 140).drew; (try simp only [World.size_alloc, World.size_drew] at J); have hq : _ = some (Value.int .i64 (-1)) := cells_at (J.get 1 rfl) 0; (with_reducible refine (HRp.out _ _ hq).mono ?_); clear J hq)
          | (have J := ((HJ2.out).cells #[.int .i64 (-1)] 3).drew; (try simp only [World.size_alloc, World.size_drew] at J); have hq : _ = some (Value.int .i64 (-1)) := cells_at (J.get 0 rfl) 0; (with_reducible refine (HRp.out _ _ hq).mono ?_); clear J hq))
         rintro e w6 ⟨g, rfl, hmD⟩))
    all_goals (go_wp2_with fail)
    all_goals go_meet
    all_goals first
      | (have J := ((((((HJ2.out).drew).made hmA).cells #[.pointer none, .pointer none, .pointer none, .pointer none] 140).cells #[.int .i64 (-1)] 3).made hmD).cells #[.pointer (some ⟨m.s, 0, none⟩), .pointer (some ⟨mv, 0, none⟩), .pointer (some ⟨sx, 0, none⟩), .int .i64 1, .slice none 0 0, .slice (some ⟨w5.heap.size, 0, none⟩) 4 4, .slice (some ⟨g, 0, none⟩) 4 4, .slice none 0 0] 81; (try simp only [World.size_alloc, World.size_drew] at J); (with_reducible refine ⟨_, w5.heap.size, g, sx, rfl, rfl, Lib.hid (Hav.sel J [0, 3, 1, 4, 5] (by decide) ?_)⟩); rfl)
      | (have J := ((((((HJ2.out).drew).made hmA).cells #[.int .i64 (-1)] 3).cells #[.pointer none, .pointer none, .pointer none, .pointer none] 140).made hmD).cells #[.pointer (some ⟨m.s, 0, none⟩), .pointer (some ⟨mv, 0, none⟩), .pointer (some ⟨sx, 0, none⟩), .int .i64 1, .slice none 0 0, .slice (some ⟨w5.heap.size + 1, 0, none⟩) 4 4, .slice (some ⟨g, 0, none⟩) 4 4, .slice none 0 0] 81; (try simp only [World.size_alloc, World.size_drew] at J); (with_reducible refine ⟨_, w5.heap.size + 1, g, sx, rfl, rfl, Lib.hid (Hav.sel J [0, 2, 1, 4, 5] (by decide) ?_)⟩); rfl)
      | (have J := ((((((HJ2.out).drew).made hmA).cells #[.int .i64 (-1)] 3).made hmD).cells #[.pointer none, .pointer none, .pointer none, .pointer none] 140).cells #[.pointer (some ⟨m.s, 0, none⟩), .pointer (some ⟨mv, 0, none⟩), .pointer (some ⟨sx, 0, none⟩), .int .i64 1, .slice none 0 0, .slice (some ⟨w6.heap.size, 0, none⟩) 4 4, .slice (some ⟨g, 0, none⟩) 4 4, .slice none 0 0] 81; (try simp only [World.size_alloc, World.size_drew] at J); (with_reducible refine ⟨_, w6.heap.size, g, sx, rfl, rfl, Lib.hid (Hav.sel J [0, 1, 2, 4, 5] (by decide) ?_)⟩); rfl)
      | (have J := ((((((HJ2.out).cells #[.pointer none, .pointer none, .pointer none, .pointer none] 140).drew).made hmA).cells #[.int .i64 (-1)] 3).made hmD).cells #[.pointer (some ⟨m.s, 0, none⟩), .pointer (some ⟨mv, 0, none⟩), .pointer (some ⟨sx, 0, none⟩), .int .i64 1, .slice none 0 0, .slice (some ⟨w2.heap.size, 0, none⟩) 4 4, .slice (some ⟨g, 0, none⟩) 4 4, .slice none 0 0] 81; (try simp only [World.size_alloc, World.size_drew] at J); (with_reducible refine ⟨_, w2.heap.size, g, sx, rfl, rfl, Lib.hid (Hav.sel J [0, 4, 1, 3, 5] (by decide) ?_)⟩); rfl)
      | (have J := ((((((HJ2.out).cells #[.pointer none, .pointer none, .pointer none, .pointer none] 140).cells #[.int .i64 (-1)] 3).drew).made hmA).made hmD).cells #[.pointer (some ⟨m.s, 0, none⟩), .pointer (some ⟨mv, 0, none⟩), .pointer (some ⟨sx, 0, none⟩), .int .i64 1, .slice none 0 0, .slice (some ⟨w2.heap.size, 0, none⟩) 4 4, .slice (some ⟨g, 0, none⟩) 4 4, .slice none 0 0] 81; (try simp only [World.size_alloc, World.size_drew] at J); (with_reducible refine ⟨_, w2.heap.size, g, sx, rfl, rfl, Lib.hid (Hav.sel J [0, 4, 1, 2, 5] (by decide) ?_)⟩); rfl)
      | (have J := ((((((HJ2.out).cells #[.pointer none, .pointer none, .pointer none, .pointer none] 140).cells #[.int .i64 (-1)] 3).drew).made hmD).made hmA).cells #[.pointer (some ⟨m.s, 0, none⟩), .pointer (some ⟨mv, 0, none⟩), .pointer (some ⟨sx, 0, none⟩), .int .i64 1, .slice none 0 0, .slice (some ⟨w2.heap.size, 0, none⟩) 4 4, .slice (some ⟨g, 0, none⟩) 4 4, .slice none 0 0] 81; (try simp only [World.size_alloc, World.size_drew] at J); (with_reducible refine ⟨_, w2.heap.size, g, sx, rfl, rfl, Lib.hid (Hav.sel J [0, 4, 2, 1, 5] (by decide) ?_)⟩); rfl)
      | (have J := ((((((HJ2.out).cells #[.int .i64 (-1)] 3).drew).made hmA).cells #[.pointer none, .pointer none, .pointer none, .pointer none] 140).made hmD).cells #[.pointer (some ⟨m.s, 0, none⟩), .pointer (some ⟨mv, 0, none⟩), .pointer (some ⟨sx, 0, none⟩), .int .i64 1, .slice none 0 0, .slice (some ⟨w5.heap.size, 0, none⟩) 4 4, .slice (some ⟨g, 0, none⟩) 4 4, .slice none 0 0] 81; (try simp only [World.size_alloc, World.size_drew] at J); (with_reducible refine ⟨_, w5.heap.size, g, sx, rfl, rfl, Lib.hid (Hav.sel J [0, 2, 1, 3, 5] (by decide) ?_)⟩); rfl)
      | (have J := ((((((HJ2.out).cells #[.int .i64 (-1)] 3).drew).made hmA).made hmD).cells #[.pointer none, .pointer none, .pointer none, .pointer none] 140).cells #[.pointer (some ⟨m.s, 0, none⟩), .pointer (some ⟨mv, 0, none⟩), .pointer (some ⟨sx, 0, none⟩), .int .i64 1, .slice none 0 0, .slice (some ⟨w6.heap.size, 0, none⟩) 4 4, .slice (some ⟨g, 0, none⟩) 4 4, .slice none 0 0] 81; (try simp only [World.size_alloc, World.size_drew] at J); (with_reducible refine ⟨_, w6.heap.size, g, sx, rfl, rfl, Lib.hid (Hav.sel J [0, 1, 2, 3, 5] (by decide) ?_)⟩); rfl)
      | (have J := ((((((HJ2.out).cells #[.int .i64 (-1)] 3).cells #[.pointer none, .pointer none, .pointer none, .pointer none] 140).drew).made hmA).made hmD).cells #[.pointer (some ⟨m.s, 0, none⟩), .pointer (some ⟨mv, 0, none⟩), .pointer (some ⟨sx, 0, none⟩), .int .i64 1, .slice none 0 0, .slice (some ⟨w2.heap.size + 1, 0, none⟩) 4 4, .slice (some ⟨g, 0, none⟩) 4 4, .slice none 0 0] 81; (try simp only [World.size_alloc, World.size_drew] at J); (with_reducible refine ⟨_, w2.heap.size + 1, g, sx, rfl, rfl, Lib.hid (Hav.sel J [0, 3, 1, 2, 5] (by decide) ?_)⟩); rfl)
      | (have J := ((((((HJ2.out).cells #[.int .i64 (-1)] 3).cells #[.pointer none, .pointer none, .pointer none, .pointer none] 140).drew).made hmD).made hmA).cells #[.pointer (some ⟨m.s, 0, none⟩), .pointer (some ⟨mv, 0, none⟩), .pointer (some ⟨sx, 0, none⟩), .int .i64 1, .slice none 0 0, .slice (some ⟨w2.heap.size + 1, 0, none⟩) 4 4, .slice (some ⟨g, 0, none⟩) 4 4, .slice none 0 0] 81; (try simp only [World.size_alloc, World.size_drew] at J); (with_reducible refine ⟨_, w2.heap.size + 1, g, sx, rfl, rfl, Lib.hid (Hav.sel J [0, 3, 2, 1, 5] (by decide) ?_)⟩); rfl)
      | (have J := ((((((HJ2.out).cells #[.int .i64 (-1)] 3).drew).made hmD).made hmA).cells #[.pointer none, .pointer none, .pointer none, .pointer none] 140).cells #[.pointer (some ⟨m.s, 0, none⟩), .pointer (some ⟨mv, 0, none⟩), .pointer (some ⟨sx, 0, none⟩), .int .i64 1, .slice none 0 0, .slice (some ⟨w5.heap.size, 0, none⟩) 4 4, .slice (some ⟨g, 0, none⟩) 4 4, .slice none 0 0] 81; (try simp only [World.size_alloc, World.size_drew] at J); (with_reducible refine ⟨_, w5.heap.size, g, sx, rfl, rfl, Lib.hid (Hav.sel J [0, 1, 3, 2, 5] (by decide) ?_)⟩); rfl)
      | (have J := ((((((HJ2.out).cells #[.int .i64 (-1)] 3).drew).made hmD).cells #[.pointer none, .pointer none, .pointer none, .pointer none] 140).made hmA).cells #[.pointer (some ⟨m.s, 0, none⟩), .pointer (some ⟨mv, 0, none⟩), .pointer (some ⟨sx, 0, none⟩), .int .i64 1, .slice none 0 0, .slice (some ⟨w6.heap.size, 0, none⟩) 4 4, .slice (some ⟨g, 0, none⟩) 4 4, .slice none 0 0] 81; (try simp only [World.size_alloc, World.size_drew] at J); (with_reducible refine ⟨_, w6.heap.size, g, sx, rfl, rfl, Lib.hid (Hav.sel J [0, 2, 3, 1, 5] (by decide) ?_)⟩); rfl)
      | fail
  case rest =>
    obtain ⟨b, wlb, slb, sx, rfl, rfl, hJ⟩ := hcut
    go_wp2_with (fail)
    go_ret2
    have J1 := hJ.out.turn 1 rfl (Turn.conv (r' := rowAt (.slice (some ⟨wlb, 0, none⟩) 4 4) 140 1 4 [.pointer none, .pointer none, .pointer none, .pointer none]) (hJ.out.get 1 rfl) (fun h => cells_row h rfl (by decide)) (fun b hb => (by have e : some wlb = some b := hb; cases e; rfl)))
    have J2 := hav_rowNil (hav_rowNil J1 82 1) 136 35
    have J3 := hav_add (r := fam 0 (clR key (⟨b, mv, sx, 0, 0, wlb, 4, slb, 4, .slice none 0 0, fun _ => 0, fun _ => 0, fun _ => 0, fun _ => ⟨0, 0, 0, .slice none 0 0, .slice none 0 0⟩, m⟩ : Pl) PM.ini)) J2 (fam_new0 _) (fun b hb => (by obtain ⟨r, hr, _⟩ := hb; simp [lst] at hr))
    have J4 := hav_add (r := fam 4 (fun _ => emp)) J3 (fam_emp _ _) (fun b hb => (by obtain ⟨r, hr, hb⟩ := hb; simp [lst] at hr; obtain ⟨_, _, rfl⟩ := hr; exact hb))
    have J5 := J4.sel (L2 := opL key h bk 4 4 0 (⟨b, mv, sx, 0, 0, wlb, 4, slb, 4, .slice none 0 0, fun _ => 0, fun _ => 0, fun _ => 0, fun _ => ⟨0, 0, 0, .slice none 0 0, .slice none 0 0⟩, m⟩ : Pl) (.slice none 0 0)) [4, 3, 5, 6, 2, 8, 7, 1, 0] (by decide) rfl
    exact ⟨⟨b, mv, sx, 0, 0, wlb, 4, slb, 4, .slice none 0 0, fun _ => 0, fun _ => 0, fun _ => 0, fun _ => ⟨0, 0, 0, .slice none 0 0, .slice none 0 0⟩, m⟩, rfl, HO.out.1, HO.out.2, (J5.emp).group.made0 0 rfl⟩
end
end Go.Proofs.YtboehbfagnocpaaGreatDoor
namespace Go.Proofs.YtboehbfagnocpaaGreatDoor
open Go.RowKit Go.PlainAid Go.Shelf
open SP
open PM (Cd An Sd Vl upd upd_same upd_ne)
section
variable {key : ByteArray} {h : Int} {bk nw ns nc : Nat} {p : Pl} {s t : Mac} {w0 w w' : World} {c wi N B : Nat} {need : Bool} {x : Cd} {l : List (Nat × Nat)}
theorem all_ok (hk : KeyI key h bk) (hns : ns = 4 ∨ ns = 1) (hDo : DoAll key h bk nw ns nc) (hS : Sat key h bk nw ns nc p s w N t w') (hW : Wj key need nw nc B t) (hB : B ≤ 40) (hN : N ≤ 1000000) (hnw : 0 < nw) (hc : c < nc) (hI : PM.Idle t) (hq : t.q c = [x]) (ho : t.out c = [])
    (hd : t.data.it = none → ∃ fl v, x = .set fl v) {r : ByteArray} (hr : rpC key (x, (PM.stp t.data x).2) = r) (hz : r.size ≤ 60000) :
    Calls Tryz.prog 13 #[.pointer (some ⟨p.b, 0, none⟩), .int .i64 c] w' fun e w'' => e = .returned (.string r) ∧ Sat key h bk nw ns nc p s w N (PM.allE PM.stp t c x) w'' := by
  have HW : Hid (∀ k, k < 4 → ∀ w1, Sat key h bk nw ns nc p s w N (PM.allS PM.stp PM.an0 t c k) w1 → Calls Tryz.prog 30 #[.pointer (some ⟨p.b, 0, none⟩), .int .i64 0, .int .i64 c] w1 fun e w'' => e = .returned (.bool true) ∧ Sat key h bk nw ns nc p s w N (PM.work PM.stp PM.an0 (PM.allS PM.stp PM.an0 t c k) 0 c).2 w'') :=
    Lib.hid (fun k hk4 w1 hs => by
      have h1 := Sat.allW hk hns hDo hW hB hN hnw hc hI hq ho hd (Nat.le_of_lt hk4) w1 hs
      rw [decide_eq_true hk4] at h1
      exact h1)
  have HW4 : Hid (∀ w1, Sat key h bk nw ns nc p s w N (PM.allS PM.stp PM.an0 t c 4) w1 → Calls Tryz.prog 30 #[.pointer (some ⟨p.b, 0, none⟩), .int .i64 0, .int .i64 c] w1 fun e w'' => e = .returned (.bool false) ∧ Sat key h bk nw ns nc p s w N (PM.work PM.stp PM.an0 (PM.allS PM.stp PM.an0 t c 4) 0 c).2 w'') :=
    Lib.hid (fun w1 hs => Sat.allW hk hns hDo hW hB hN hnw hc hI hq ho hd (Nat.le_refl 4) w1 hs)
  have HX : Hid (∀ k, k < 3 → ∀ w1, Sat key h bk nw ns nc p s w N (PM.work PM.stp PM.an0 (PM.allS PM.stp PM.an0 t c k) 0 c).2 w1 → Calls Tryz.prog 29 #[.pointer (some ⟨p.b, 0, none⟩), .int .i64 c, .int .i64 1073741824] w1 fun e w'' => e = .returned (.string ⟨#[]⟩) ∧ Sat key h bk nw ns nc p s w N (PM.allS PM.stp PM.an0 t c (k + 1)) w'') :=
    Lib.hid (fun k hk3 w1 hs => by
      have h1 := Sat.allX hI hc hq ho hr hz (by omega : k < 4) w1 hs
      rw [if_neg (by omega)] at h1
      exact h1)
  have HX3 : Hid (∀ k, k = 3 → ∀ w1, Sat key h bk nw ns nc p s w N (PM.work PM.stp PM.an0 (PM.allS PM.stp PM.an0 t c k) 0 c).2 w1 → Calls Tryz.prog 29 #[.pointer (some ⟨p.b, 0, none⟩), .int .i64 c, .int .i64 1073741824] w1 fun e w'' => e = .returned (.string r) ∧ Sat key h bk nw ns nc p s w N (PM.allS PM.stp PM.an0 t c 4) w'') :=
    Lib.hid (fun k hk w1 hs => by
      subst hk
      have h1 := Sat.allX hI hc hq ho hr hz (by omega : 3 < 4) w1 hs
      rw [if_pos rfl] at h1
      exact h1)
  have HY : Hid (∀ w1, Sat key h bk nw ns nc p s w N (PM.work PM.stp PM.an0 (PM.allS PM.stp PM.an0 t c 4) 0 c).2 w1 → Calls Tryz.prog 29 #[.pointer (some ⟨p.b, 0, none⟩), .int .i64 c, .int .i64 1073741824] w1 fun e w'' => e = .returned (.string ⟨#[]⟩) ∧ Sat key h bk nw ns nc p s w N (PM.allE PM.stp t c x) w'') :=
    Lib.hid (fun w1 hs => Sat.allY hI hc hq ho w1 hs)
  have HS : Hid (Sat key h bk nw ns nc p s w N (PM.allS PM.stp PM.an0 t c 0) w') := Lib.hid hS
  have e1 : (⟨#[]⟩ : ByteArray) ++ r = r := nil_ba r
  have e2 : r ++ (⟨#[]⟩ : ByteArray) = r := ba_nil r
  have e3 : (⟨#[]⟩ : ByteArray) ++ (⟨#[]⟩ : ByteArray) = ⟨#[]⟩ := nil_ba _
  clear hS hW hB hN hnw hI hq ho hd hr hDo hk hns hc
  go_enter Tryz.func13, Tryz.ntmps13
  go_wp2_with (fail)
  go_loopw [5, 6] (fun out i wr => (∃ k : Nat, k < 4 ∧ i = .int .i64 k ∧ out = .string ⟨#[]⟩ ∧ Hid (Sat key h bk nw ns nc p s w N (PM.allS PM.stp PM.an0 t c k) wr)) ∨ (i = .int .i64 4 ∧ out = .string r ∧ Hid (Sat key h bk nw ns nc p s w N (PM.allS PM.stp PM.an0 t c 4) wr))) (fun _ i _ => 4 - (intOf i).toNat)
  case atStart => exact .inl ⟨0, by omega, rfl, rfl, HS⟩
  case round =>
    rcases hrel with ⟨k, hk4, rfl, rfl, hs⟩ | ⟨rfl, rfl, hs⟩
    · have HWk := Lib.hid (HW.out k hk4 wr hs.out)
      have h5 : (k : Int) < 5000 := by omega
      have h6 : (k : Int) < 4 := by omega
      by_cases hk3 : k < 3
      · go_wp2_with (first
          | (go_at_call 30; refine HWk.out.mono ?_; rintro e w1 ⟨rfl, hs1⟩; have HXk := Lib.hid (HX.out k hk3 w1 hs1))
          | (go_at_call 29; refine HXk.out.mono ?_; rintro e w2 ⟨rfl, hs2⟩))
        go_roundw
        case rel => exact .inl ⟨k + 1, by omega, by first | rfl | simp, by first | rfl | simp [e3], Lib.hid hs2⟩
        case measure => simp [intOf]; omega
      · have hk33 : k = 3 := by omega
        go_wp2_with (first
          | (go_at_call 30; refine HWk.out.mono ?_; rintro e w1 ⟨rfl, hs1⟩; have HXk := Lib.hid (HX3.out k hk33 w1 hs1))
          | (go_at_call 29; refine HXk.out.mono ?_; rintro e w2 ⟨rfl, hs2⟩))
        go_roundw
        case rel => exact .inr ⟨by first | rfl | (rw [hk33]; first | rfl | simp) | simp, by first | rfl | simp [e1] | trivial, Lib.hid hs2⟩
        case measure => simp [intOf]; omega
    · have HWk := Lib.hid (HW4.out wr hs.out)
      go_wp2_with (first
        | (go_at_call 30; refine HWk.out.mono ?_; rintro e w1 ⟨rfl, hs1⟩; have HXk := Lib.hid (HY.out w1 hs1))
        | (go_at_call 29; refine HXk.out.mono ?_; rintro e w2 ⟨rfl, hs2⟩))
      go_ret
      exact ⟨by first | rfl | simp [e2], hs2⟩
theorem and3 (n : Int) : ∃ k : Nat, k < 4 ∧ bits .and .i64 n 3 = (k : Int) := by
  have h3 : (BitVec.ofInt 64 3).toNat = 2 ^ 2 - 1 := by decide
  have key : (BitVec.ofInt 64 n &&& BitVec.ofInt 64 3).toNat = (n % ((2 ^ 64 : Nat) : Int)).toNat % 2 ^ 2 := by
    rw [BitVec.toNat_and, BitVec.toNat_ofInt, h3, Nat.and_two_pow_sub_one_eq_mod]
  refine ⟨(n % ((2 ^ 64 : Nat) : Int)).toNat % 2 ^ 2, Nat.mod_lt _ (by decide), ?_⟩
  show IntKind.i64.wrap (((BitVec.ofInt 64 n &&& BitVec.ofInt 64 3).toNat : Nat) : Int) = _
  rw [key, IntKind.wrap_i64]
  omega
set_option maxHeartbeats 1000000 in
theorem picked_ok (hk : KeyI key h bk) (hns : ns = 4 ∨ ns = 1) (hDo : DoAll key h bk 4 ns 4) (hm : Made (svR key h bk 4 ns 4 p s) w0 w) (hS : Sat key h bk 4 ns 4 p s w N t w') (hW : Wj key true 4 4 B t) (hB : B ≤ 40) (hN : N ≤ 1000000) {a : Option Addr} {n cap : Nat} {l : List Int} (hp : RI w0 (.slice a n cap) l) (hl : l.length = n) :
    Calls Tryz.prog 28 #[.pointer (some ⟨p.b, 0, none⟩), .slice a n cap, .int .i64 20] w' fun e w'' => e = .returned (.tuple #[]) ∧ ∃ ps : List (Nat × Nat), (∀ q ∈ ps, q.1 < 4) ∧ Sat key h bk 4 ns 4 p s w N (rnd (PM.works PM.stp PM.an0 t ps) 20 0) w'' := by
  have HWa : Hid (∀ (ps : List (Nat × Nat)), (∀ q ∈ ps, q.1 < 4) → ∀ (u v : Int), (∃ i : Nat, i < 4 ∧ u = (i : Int)) → (∃ j : Nat, j < 4 ∧ v = (j : Int)) → ∀ w1, Sat key h bk 4 ns 4 p s w N (PM.works PM.stp PM.an0 t ps) w1 → Calls Tryz.prog 30 #[.pointer (some ⟨p.b, 0, none⟩), .int .i64 u, .int .i64 v] w1 fun e w'' => (∃ b, e = .returned (.bool b)) ∧ ∃ ps' : List (Nat × Nat), (∀ q ∈ ps', q.1 < 4) ∧ Sat key h bk 4 ns 4 p s w N (PM.works PM.stp PM.an0 t ps') w'') :=
    Lib.hid (fun ps hps u v hu hv w1 hs => by
      obtain ⟨i, hi, rfl⟩ := hu
      obtain ⟨j, hj, rfl⟩ := hv
      have h1 := Sat.workN hk hns hDo hs (hW.works hps) hB hN hi hj
      rw [← works_snoc t ps (i, j)] at h1
      exact h1.mono (fun e w'' hh => ⟨hh.1, _, fun q hq => (by
        rcases List.mem_append.1 hq with h2 | h2
        · exact hps q h2
        · rw [List.mem_singleton.1 h2]; exact hi), hh.2⟩))
  have HWb : Hid (∀ (ps : List (Nat × Nat)), (∀ q ∈ ps, q.1 < 4) → ∀ (m i j : Nat), i < 4 → j < 4 → ∀ w1, Sat key h bk 4 ns 4 p s w N (rnd (PM.works PM.stp PM.an0 t ps) m (4 * i + j)) w1 → Calls Tryz.prog 30 #[.pointer (some ⟨p.b, 0, none⟩), .int .i64 i, .int .i64 j] w1 fun e w'' => (∃ b, e = .returned (.bool b)) ∧ Sat key h bk 4 ns 4 p s w N (rnd (PM.works PM.stp PM.an0 t ps) m (4 * i + j + 1)) w'') :=
    Lib.hid (fun ps hps m i j hi hj w1 hs => by
      have h1 := Sat.workN hk hns hDo hs (Wj.rounds (hW.works hps)) hB hN hi hj
      rw [rnd_succ hi hj] at h1; exact h1)
  have HC : Hid (∀ k, k < n → ∃ b o x, a = some ⟨b, o, none⟩ ∧ ∀ w1 t', Sat key h bk 4 ns 4 p s w N t' w1 → ∀ w2, Below w1.heap.size w1 w2 → w2.cell? ⟨b, o + k, none⟩ = some (.int .i64 x)) := Lib.hid (fun k hkn => by
    obtain ⟨a', cap', e, hc⟩ := hp
    obtain ⟨b, o, e1, e2⟩ := hc (by intro e; rw [e] at hl; simp at hl; omega)
    simp only [Value.slice.injEq] at e
    have hb0 := e2 k (by omega)
    refine ⟨b, o, l[k]?.getD 0, e.1.trans e1, fun w1 t' hs w2 hb => ?_⟩
    have hb1 := (Sat.made hm hs).cell (p := ⟨b, o + k, none⟩) (cell_lt hb0)
    exact (hb.cell (p := ⟨b, o + k, none⟩) (cell_lt (hb1.trans hb0))).trans (hb1.trans hb0))
  have HS : Hid (Sat key h bk 4 ns 4 p s w N (PM.works PM.stp PM.an0 t []) w') := Lib.hid hS
  clear hS hW hB hN hDo hk hns hp hl hm
  go_enter Tryz.func28, Tryz.ntmps28
  go_wp2_with (fail)
  go_loopw [6] (fun i wr => ∃ k : Nat, k ≤ 200 ∧ i = .int .i64 k ∧ Hid (∃ ps : List (Nat × Nat), (∀ q ∈ ps, q.1 < 4) ∧ Sat key h bk 4 ns 4 p s w N (PM.works PM.stp PM.an0 t ps) wr)) (fun i _ => 200 - (intOf i).toNat)
  case atStart => exact ⟨0, by omega, rfl, Lib.hid ⟨[], fun q hq => absurd hq (by simp), HS.out⟩⟩
  case round =>
    obtain ⟨k, hk200, rfl, hps⟩ := hrel
    obtain ⟨ps, hps, hs⟩ := hps.out
    by_cases hkn : k < n ∧ k < 200
    · obtain ⟨b, o, x, rfl, hcx⟩ := HC.out k hkn.1
      have h1 : (k : Int) < n := by omega
      have h2 : (k : Int) < 200 := by omega
      have h3 : (0 : Int) ≤ k := by omega
      have hx0 := hcx wr _ hs wr.drew (below_drewN' wr 1)
      have HX : Hid (∀ w1 ps', Sat key h bk 4 ns 4 p s w N (PM.works PM.stp PM.an0 t ps') w1 → w1.cell? ⟨b, o + k, none⟩ = some (.int .i64 x)) := Lib.hid (fun w1 ps' hs => hcx w1 _ hs w1 (Below.refl _ _))
      have HWk := Lib.hid (fun u v hu hv => HWa.out ps hps u v hu hv wr.drew (hs.below (below_drewN' wr 1)))
      clear hcx hs
      go_wp2_with (fail)
      go_upto_region 3 with fail
      go_region_held3 (fun w' => w'.cell? ⟨b, o + k, none⟩ = some (.int .i64 x)) (first | exact hx0 | exact hx1) (first
        | (go_at_call 30; refine (HWk.out _ _ (and3 _) (and3 _)).mono ?_; rintro e w1 ⟨⟨bb, rfl⟩, hh⟩; have HH := Lib.hid hh; have hx1 : w1.cell? ⟨b, o + k, none⟩ = some (.int .i64 x) := HX.out w1 _ hh.choose_spec.2; clear hh))
      all_goals (go_wp2_with fail)
      go_roundw
      case rel => exact ⟨k + 1, by omega, by first | rfl | simp, HH⟩
      case measure => simp [intOf]; omega
    · have HS2 : Hid (Sat key h bk 4 ns 4 p s w N (rnd (PM.works PM.stp PM.an0 t ps) 0 0) wr) := Lib.hid hs
      have HWc := Lib.hid (fun m i j hi hj w1 hs => HWb.out ps hps m i j hi hj w1 hs)
      have HPS := Lib.hid hps
      clear HWa HWb HC HS hs hps
      have hk2 : ¬ ((k : Int) < n ∧ (k : Int) < 200) := by omega
      have hgo : ¬ ((k : Int) < n) ∨ ((k : Int) < n ∧ ¬ ((k : Int) < 200)) := by omega
      rcases hgo with h1 | ⟨h1, h2⟩
      · go_wp2_with (fail)
        go_loopw [7] (fun i wr => ∃ m : Nat, m ≤ 20 ∧ i = .int .i64 m ∧ Hid (Sat key h bk 4 ns 4 p s w N (rnd (PM.works PM.stp PM.an0 t ps) m 0) wr)) (fun i _ => 20 - (intOf i).toNat)
        case atStart => exact ⟨0, by omega, rfl, HS2⟩
        case round =>
          obtain ⟨m, hm, rfl, hs⟩ := hrel
          by_cases hm2 : m < 20
          · have hm3 : (m : Int) < 20 := by omega
            go_wp2_with (fail)
            go_loopw [8] (fun i wr => ∃ u : Nat, u ≤ 4 ∧ i = .int .i64 u ∧ Hid (Sat key h bk 4 ns 4 p s w N (rnd (PM.works PM.stp PM.an0 t ps) m (4 * u)) wr)) (fun i _ => 4 - (intOf i).toNat)
            case atStart => exact ⟨0, by omega, rfl, hs⟩
            case round =>
              obtain ⟨u, hu, rfl, hs⟩ := hrel
              by_cases hu2 : u < 4
              · have hu3 : (u : Int) < 4 := by omega
                go_wp2_with (fail)
                go_loopw [9] (fun i wr => ∃ v : Nat, v ≤ 4 ∧ i = .int .i64 v ∧ Hid (Sat key h bk 4 ns 4 p s w N (rnd (PM.works PM.stp PM.an0 t ps) m (4 * u + v)) wr)) (fun i _ => 4 - (intOf i).toNat)
                case atStart => exact ⟨0, by omega, rfl, hs⟩
                case round =>
                  obtain ⟨v, hv, rfl, hs⟩ := hrel
                  by_cases hv2 : v < 4
                  · have hv3 : (v : Int) < 4 := by omega
                    have HWd := Lib.hid (HWc.out m u v hu2 hv2 wr hs.out)
                    go_wp2_with (go_at_call 30; refine HWd.out.mono ?_; rintro e w1 ⟨⟨bb, rfl⟩, hh⟩; have HH := Lib.hid hh; clear hh)
                    go_roundw
                    case rel => exact ⟨v + 1, by omega, by first | rfl | simp, HH⟩
                    case measure => simp [intOf]; omega
                  · obtain rfl : v = 4 := by omega
                    go_wp2_with (fail)
                    go_roundw
                    case rel => exact ⟨u + 1, by omega, by first | rfl | simp, hs⟩
                    case measure => simp [intOf]; omega
              · obtain rfl : u = 4 := by omega
                have hs2 : Hid (Sat key h bk 4 ns 4 p s w N (rnd (PM.works PM.stp PM.an0 t ps) (m + 1) 0) wr) := Lib.hid (by rw [← rnd_next]; exact hs.out)
                go_wp2_with (fail)
                go_roundw
                case rel => exact ⟨m + 1, by omega, by first | rfl | simp, hs2⟩
                case measure => simp [intOf]; omega
          · obtain rfl : m = 20 := by omega
            go_wp2_with (fail)
            go_end0
            exact ⟨rfl, ps, HPS.out, hs.out⟩
      · go_wp2_with (fail)
        go_loopw [7] (fun i wr => ∃ m : Nat, m ≤ 20 ∧ i = .int .i64 m ∧ Hid (Sat key h bk 4 ns 4 p s w N (rnd (PM.works PM.stp PM.an0 t ps) m 0) wr)) (fun i _ => 20 - (intOf i).toNat)
        case atStart => exact ⟨0, by omega, rfl, HS2⟩
        case round =>
          obtain ⟨m, hm, rfl, hs⟩ := hrel
          by_cases hm2 : m < 20
          · have hm3 : (m : Int) < 20 := by omega
            go_wp2_with (fail)
            go_loopw [8] (fun i wr => ∃ u : Nat, u ≤ 4 ∧ i = .int .i64 u ∧ Hid (Sat key h bk 4 ns 4 p s w N (rnd (PM.works PM.stp PM.an0 t ps) m (4 * u)) wr)) (fun i _ => 4 - (intOf i).toNat)
            case atStart => exact ⟨0, by omega, rfl, hs⟩
            case round =>
              obtain ⟨u, hu, rfl, hs⟩ := hrel
              by_cases hu2 : u < 4
              · have hu3 : (u : Int) < 4 := by omega
                go_wp2_with (fail)
                go_loopw [9] (fun i wr => ∃ v : Nat, v ≤ 4 ∧ i = .int .i64 v ∧ Hid (Sat key h bk 4 ns 4 p s w N (rnd (PM.works PM.stp PM.an0 t ps) m (4 * u + v)) wr)) (fun i _ => 4 - (intOf i).toNat)
                case atStart => exact ⟨0, by omega, rfl, hs⟩
                case round =>
                  obtain ⟨v, hv, rfl, hs⟩ := hrel
                  by_cases hv2 : v < 4
                  · have hv3 : (v : Int) < 4 := by omega
                    have HWd := Lib.hid (HWc.out m u v hu2 hv2 wr hs.out)
                    go_wp2_with (go_at_call 30; refine HWd.out.mono ?_; rintro e w1 ⟨⟨bb, rfl⟩, hh⟩; have HH := Lib.hid hh; clear hh)
                    go_roundw
                    case rel => exact ⟨v + 1, by omega, by first | rfl | simp, HH⟩
                    case measure => simp [intOf]; omega
                  · obtain rfl : v = 4 := by omega
                    go_wp2_with (fail)
                    go_roundw
                    case rel => exact ⟨u + 1, by omega, by first | rfl | simp, hs⟩
                    case measure => simp [intOf]; omega
              · obtain rfl : u = 4 := by omega
                have hs2 : Hid (Sat key h bk 4 ns 4 p s w N (rnd (PM.works PM.stp PM.an0 t ps) (m + 1) 0) wr) := Lib.hid (by rw [← rnd_next]; exact hs.out)
                go_wp2_with (fail)
                go_roundw
                case rel => exact ⟨m + 1, by omega, by first | rfl | simp, hs2⟩
                case measure => simp [intOf]; omega
          · obtain rfl : m = 20 := by omega
            go_wp2_with (fail)
            go_end0
            exact ⟨rfl, ps, HPS.out, hs.out⟩
end
end Go.Proofs.YtboehbfagnocpaaGreatDoor
namespace Go.Proofs.YtboehbfagnocpaaGreatDoor
open Go.RowKit Go.PlainAid Go.Shelf
open SP
open PM (Cd An Sd Vl upd upd_same upd_ne)
section
variable {key : ByteArray} {h : Int} {bk : Nat}
def NewOk (key : ByteArray) (h : Int) (bk : Nat) (kv : Int) (nw ns : Nat) (every : Int) : Prop := ∀ w, Calls Tryz.prog 9 #[.agg #[.int .i64 1, .int .i64 512, .int .i64 200, .int .i64 kv], .int .i64 nw, .int .i64 ns, .int .i64 every] w fun e w' =>
  ∃ p : Pl, e = .returned (.tuple #[.pointer (some ⟨p.b, 0, none⟩), .int .i64 0]) ∧ SOkE p.m ∧ p.m.ps.num = 0 ∧ Made (many (opL key h bk nw ns 0 p (.slice none 0 0))) w w'
def OpSt (key : ByteArray) (h : Int) (bk nw ns n b : Nat) (w w' : World) : Prop := ∃ (p : Pl) (cv : Value), p.b = b ∧ SOkE p.m ∧ p.m.ps.num = 0 ∧ (0 < n → cv = .slice (some ⟨p.clb, 0, none⟩) n p.clc) ∧ Made (many (opL key h bk nw ns n p cv)) w w'
theorem OpSt.open' {nw ns n b : Nat} {w w' : World} (hS : OpSt key h bk nw ns n b w w') (hn : n < 8) : Calls Tryz.prog 10 #[.pointer (some ⟨b, 0, none⟩)] w' fun e w'' => e = .returned (.int .i64 n) ∧ OpSt key h bk nw ns (n + 1) b w w'' := by
  obtain ⟨p, cv, h1, h2, h3, h4, h5⟩ := hS
  have h6 := open_ok h5.here hn
  rw [h1] at h6
  refine h6.mono (fun e w'' hh => ?_)
  obtain ⟨g1, p', g2, g3, g4⟩ := hh
  exact ⟨g1, p', _, g2, by rw [g3]; exact h2, by rw [g3]; exact h3, fun _ => rfl, h5.turn g4⟩
theorem OpSt.sv {nw ns n b : Nat} {w w' : World} (hS : OpSt key h bk nw ns n b w w') (hn : 0 < n) : ∃ p : Pl, p.b = b ∧ StoOk key p.m PM.sd0 ∧ p.m.ps.num = 0 ∧ Made (svR key h bk nw ns n p PM.ini) w w' := by
  obtain ⟨p, cv, h1, h2, h3, h4, h5⟩ := hS
  have h6 := h4 hn
  subst h6
  exact ⟨p, h1, h2, h3, h5⟩
theorem town_ok (hNew : NewOk key h bk 1 4 4 5) (w : World) : Calls Tryz.prog 26 #[.int .i64 4, .int .i64 4, .int .i64 1, .int .i64 1] w fun e w' => ∃ p : Pl, e = .returned (.pointer (some ⟨p.b, 0, none⟩)) ∧ StoOk key p.m PM.sd0 ∧ p.m.ps.num = 0 ∧ Made (svR key h bk 4 4 4 p PM.ini) w w' := by
  have HN := Lib.hid hNew
  have HO : Hid (∀ (b n : Nat) (w' : World), n < 4 → OpSt key h bk 4 4 n b w w' → Calls Tryz.prog 10 #[.pointer (some ⟨b, 0, none⟩)] w' fun e w'' => e = .returned (.int .i64 n) ∧ OpSt key h bk 4 4 (n + 1) b w w'') := Lib.hid (fun b n w' hn hS => hS.open' (by omega))
  have f : bits .and .i64 1 3 = 1 := by decide
  clear hNew
  go_enter Tryz.func26, Tryz.ntmps26
  go_wp2_with (first
    | (go_at_call 9; refine (HN.out _).mono ?_; rintro e w1 ⟨p, rfl, h1, h2, h3⟩; have HS : Hid (OpSt key h bk 4 4 0 p.b w w1) := Lib.hid ⟨p, _, rfl, h1, h2, fun h => absurd h (by omega), h3⟩; clear h1 h2 h3))
  obtain ⟨b, hb⟩ : ∃ b, p.b = b := ⟨_, rfl⟩
  rw [hb] at HS
  simp only [hb]
  clear hb
  go_loopw [11] (fun i wr => ∃ n : Nat, n ≤ 4 ∧ i = .int .i64 n ∧ Hid (OpSt key h bk 4 4 n b w wr)) (fun i _ => 4 - (intOf i).toNat)
  case atStart => exact ⟨0, by omega, rfl, HS⟩
  case round =>
    obtain ⟨n, hn, rfl, hs⟩ := hrel
    by_cases h4 : n < 4
    · have h5 : (n : Int) < 4 := by omega
      have HOn := Lib.hid (HO.out b n wr h4 hs.out)
      go_wp2_with (go_at_call 10; refine HOn.out.mono ?_; rintro e w2 ⟨rfl, h1⟩)
      go_roundw
      case rel => exact ⟨n + 1, by omega, by first | rfl | simp, Lib.hid h1⟩
      case measure => simp [intOf]; omega
    · obtain rfl : n = 4 := by omega
      go_wp2_with (fail)
      go_ret
      obtain ⟨p, e1, e2, e3, e4⟩ := hs.out.sv (by omega)
      exact ⟨p, by rw [e1]; rfl, e2, e3, e4⟩
def EvOk (key : ByteArray) (h : Int) (bk : Nat) : Prop := ∀ (p : Pl) (s : Mac) (w : World), s.ev = [ev1, ev2] → (svR key h bk 1 1 1 p s).R w → Calls Tryz.prog 25 #[.pointer (some ⟨p.b, 0, none⟩)] w fun e w' => ∃ g cap, e = .returned (.slice (some ⟨g, 0, none⟩) 2 cap) ∧ Made (rowAt (.slice (some ⟨g, 0, none⟩) 2 cap) 136 35 2 (evC key ev1 ++ evC key ev2)) w w'
def ChkOk (key : ByteArray) : Prop := ∀ (g cap : Nat) (w : World), (rowAt (.slice (some ⟨g, 0, none⟩) 2 cap) 136 35 2 (evC key ev1 ++ evC key ev2)).R w → Calls Tryz.prog 31 #[.slice (some ⟨g, 0, none⟩) 2 cap, .int .i64 472] w fun e w' => e = .returned (.int .i64 (-1)) ∧ Below w.heap.size w w'
set_option maxHeartbeats 1000000 in
theorem works_ok (hk : KeyI ⟨#[107]⟩ h bk) (hDo : DoAll ⟨#[107]⟩ h bk 1 1 1) (hNew : NewOk ⟨#[107]⟩ h bk 0 1 1 9) (hEv : EvOk ⟨#[107]⟩ h bk) (hCh : ChkOk ⟨#[107]⟩) (w : World) : Calls Tryz.prog 8 #[] w fun e w' => e = .returned (.bool true) ∧ Below w.heap.size w w' := by
  have HN := Lib.hid hNew
  have HO : Hid (∀ (b : Nat) (w' : World), OpSt ⟨#[107]⟩ h bk 1 1 0 b w w' → Calls Tryz.prog 10 #[.pointer (some ⟨b, 0, none⟩)] w' fun e w'' => e = .returned (.int .i64 0) ∧ OpSt ⟨#[107]⟩ h bk 1 1 1 b w w'') := Lib.hid (fun b w' hS => hS.open' (by omega))
  have HF : Hid (∀ (p : Pl) (w2 w3 : World), Sat ⟨#[107]⟩ h bk 1 1 1 p PM.ini w2 0 PM.ini w3 → Calls Tryz.prog 12 #[.pointer (some ⟨p.b, 0, none⟩), .int .i64 0, .string ⟨#[115, 101, 116, 32, 107, 32, 51, 32, 48, 32, 49, 13, 10, 118, 13, 10, 103, 101, 116, 32, 107, 13, 10]⟩] w3 fun e w4 => e = .returned (.int .i64 23) ∧ Sat ⟨#[107]⟩ h bk 1 1 1 p PM.ini w2 8 (st8 0) w4) :=
    Lib.hid (fun p w2 w3 hs => Sat.feed2 (c := 0) (x := .set 3 PM.vV) (y := .get) hs (by decide) two_text (by decide))
  have HW : Hid (∀ (p : Pl) (w2 w3 : World) (i : Nat), i < 8 → Sat ⟨#[107]⟩ h bk 1 1 1 p PM.ini w2 8 (st8 i) w3 → Calls Tryz.prog 30 #[.pointer (some ⟨p.b, 0, none⟩), .int .i64 0, .int .i64 0] w3 fun e w4 => e = .returned (.bool true) ∧ Sat ⟨#[107]⟩ h bk 1 1 1 p PM.ini w2 8 (st8 (i + 1)) w4) :=
    Lib.hid (fun p w2 w3 i hi hs => by
      have hW := wj_st8 (nw := 1) (nc := 1) (by decide) (by decide) i
      have h1 := Sat.work (wi := 0) (c := 0) hk (.inr rfl) hDo hs hW (by decide) (hW.q20 (by decide)) (by decide) (by decide) (by decide) (fun k hkk hp hn => okd_hd (st8_okd i hi) k hkk hp hn)
      rw [st8_yes i hi, st8_succ] at h1
      exact h1)
  have HX : Hid (∀ (p : Pl) (w2 w3 : World), Sat ⟨#[107]⟩ h bk 1 1 1 p PM.ini w2 8 (st8 8) w3 → Calls Tryz.prog 29 #[.pointer (some ⟨p.b, 0, none⟩), .int .i64 0, .int .i64 999] w3 fun e w4 => e = .returned (.string ⟨#[83, 84, 79, 82, 69, 68, 13, 10, 86, 65, 76, 85, 69, 32, 107, 32, 51, 32, 49, 13, 10, 118, 13, 10, 69, 78, 68, 13, 10]⟩) ∧ Sat ⟨#[107]⟩ h bk 1 1 1 p PM.ini w2 8 (PM.wr (st8 8) 0) w4) :=
    Lib.hid (fun p w2 w3 hs => by
      have h1 := Sat.write (c := 0) (n := 999) hs (by decide) (by rw [st8_told]; decide)
      rw [st8_told] at h1
      exact h1)
  have HE : Hid (∀ (p : Pl) (w2 w3 : World), Made (svR ⟨#[107]⟩ h bk 1 1 1 p PM.ini) w w2 → Sat ⟨#[107]⟩ h bk 1 1 1 p PM.ini w2 8 (PM.wr (st8 8) 0) w3 → Calls Tryz.prog 25 #[.pointer (some ⟨p.b, 0, none⟩)] w3 fun e w4 => ∃ g cap, e = .returned (.slice (some ⟨g, 0, none⟩) 2 cap) ∧ (rowAt (.slice (some ⟨g, 0, none⟩) 2 cap) 136 35 2 (evC ⟨#[107]⟩ ev1 ++ evC ⟨#[107]⟩ ev2)).R w4 ∧ Below w.heap.size w w4) :=
    Lib.hid (fun p w2 w3 hm hs => by
      obtain ⟨p', h1, h2, h3, h4⟩ := hs
      have h5 := (Sat.made hm ⟨p', h1, h2, h3, h4⟩)
      have h6 := hEv p' _ w3 rfl h4.here
      rw [h1] at h6
      exact h6.mono (fun e w4 hh => by
        obtain ⟨g, cap, g1, g2⟩ := hh
        exact ⟨g, cap, g1, g2.here, h5.trans (g2.bel.mono h5.size)⟩))
  have HC := Lib.hid hCh
  clear hk hDo hNew hEv hCh
  go_enter Tryz.func8, Tryz.ntmps8
  go_wp2_with (first
    | (go_at_call 9; refine (HN.out _).mono ?_; rintro e w1 ⟨p0, rfl, h1, h2, h3⟩; have HS : Hid (OpSt ⟨#[107]⟩ h bk 1 1 0 p0.b w w1) := Lib.hid ⟨p0, _, rfl, h1, h2, fun h => absurd h (by omega), h3⟩; clear h1 h2 h3)
    | (go_at_call 10; refine (HO.out _ _ HS.out).mono ?_; rintro e w2 ⟨rfl, h1⟩
       obtain ⟨p, e1, e2, e3, e4⟩ := h1.sv (by omega)
       have HM := Lib.hid e4
       have HS0 : Hid (Sat ⟨#[107]⟩ h bk 1 1 1 p PM.ini w2 0 PM.ini w2) := Lib.hid ⟨p, rfl, e2, by rw [e3]; exact Nat.le_refl _, Turn.rfl' e4.here⟩
       rw [← e1]
       clear e1 e2 e3 e4 h1 HS)
    | (go_at_call 12; refine (HF.out _ _ _ HS0.out).mono ?_; rintro e w3 ⟨rfl, hs1⟩; have HS1 := Lib.hid hs1; clear hs1))
  clear HN HO HF HS0
  go_loopw [3] (fun i wr => ∃ n : Nat, n ≤ 8 ∧ i = .int .i64 n ∧ Hid (Sat ⟨#[107]⟩ h bk 1 1 1 p PM.ini w2 8 (st8 n) wr)) (fun i _ => 8 - (intOf i).toNat)
  case atStart => exact ⟨0, by omega, rfl, HS1⟩
  case round =>
    obtain ⟨n, hn, rfl, hs⟩ := hrel
    by_cases h8 : n < 8
    · have h9 : (n : Int) < 8 := by omega
      have HWn := Lib.hid (HW.out p w2 wr n h8 hs.out)
      go_wp2_with (go_at_call 30; refine HWn.out.mono ?_; rintro e w4 ⟨rfl, h1⟩; have H1 := Lib.hid h1; clear h1)
      go_roundw
      case rel => exact ⟨n + 1, by omega, by first | rfl | simp, H1⟩
      case measure => simp [intOf]; omega
    · obtain rfl : n = 8 := by omega
      have HXn := Lib.hid (HX.out p w2 wr hs.out)
      go_wp2_with (first
        | (go_at_call 29; refine HXn.out.mono ?_; rintro e w4 ⟨rfl, h1⟩; have HEn := Lib.hid (HE.out p w2 w4 HM.out h1); clear h1)
        | (go_at_call 25; refine HEn.out.mono ?_; rintro e w5 ⟨g, cap, rfl, h1, h2⟩; have HCn := Lib.hid (HC.out g cap w5 h1); have HB := Lib.hid h2; clear h1 h2)
        | (go_at_call 31; refine HCn.out.mono ?_; rintro e w6 ⟨rfl, h1⟩))
      go_ret
      exact ⟨by first | rfl | simp, HB.out.trans (h1.mono HB.out.size)⟩
end
end Go.Proofs.YtboehbfagnocpaaGreatDoor
namespace Go.Proofs.YtboehbfagnocpaaGreatDoor
open Go.RowKit Go.PlainAid Go.Shelf
open SP
open PM (Cd An Sd Vl upd upd_same upd_ne)
abbrev kk : ByteArray := ⟨#[107]⟩
section
variable {h : Int} {bk ns : Nat}
theorem stored_sz : stored.size = 8 := by decide +kernel
theorem exists_sz : exists'.size = 8 := by decide +kernel
theorem RI.below' {w w1 : World} {v : Value} {l : List Int} (h : RI w v l) (hb : Below w.heap.size w w1) : RI w1 v l := by
  obtain ⟨a, cap, e, hc⟩ := h
  refine ⟨a, cap, e, fun hne => ?_⟩
  obtain ⟨b, o, e1, e2⟩ := hc hne
  exact ⟨b, o, e1, fun i hi => (hb.cell (p := ⟨b, o + i, none⟩) (cell_lt (e2 i hi))).trans (e2 i hi)⟩
theorem wj_c1 : Wj kk false 4 4 4 PM.c1 := Wj.ini.fd (by decide) gC_set0
theorem wj_c2 : Wj kk true 4 4 4 PM.c2 := by
  have h1 := (wj_c1).allS (c := 0) (by decide) 4
  rw [(PM.all_run (step := PM.stp) (a0 := PM.an0) (PM.idle_c1.wk 0) (PM.idle_c1.busy 0) PM.idle_c1.hold (c := 0) (x := .set 0 PM.vV) rfl rfl).2.2.2.1] at h1
  exact h1.needs rfl
theorem wj_c3 : ∀ n, n ≤ 4 → Wj kk true 4 4 (4 + 4 * n) (PM.c3 n)
  | 0, _ => by rw [PM.c3_0]; exact wj_c2
  | n + 1, h => by
    rw [← PM.c3_succ]
    exact (wj_c3 n (by omega)).fd (by omega) (gC_cas (by omega))
def SatC (h : Int) (bk ns : Nat) (p : Pl) (w : World) (N : Nat) (t : Mac) (w' : World) : Prop := Sat kk h bk 4 ns 4 p PM.ini w N t w'
def wonV (won n : Nat) : Int := if won < n then won else -1
set_option maxHeartbeats 1000000 in
theorem cas_walk (hk : KeyI kk h bk) (hns : ns = 4 ∨ ns = 1) (hDo : DoAll kk h bk 4 ns 4)
    (HWo : ∀ w, Calls Tryz.prog 8 #[] w fun e w' => e = .returned (.bool true) ∧ Below w.heap.size w w')
    (HTo : ∀ w, Calls Tryz.prog 26 #[.int .i64 4, .int .i64 4, .int .i64 1, .int .i64 1] w fun e w' => ∃ p : Pl, e = .returned (.pointer (some ⟨p.b, 0, none⟩)) ∧ StoOk kk p.m PM.sd0 ∧ p.m.ps.num = 0 ∧ Made (svR kk h bk 4 ns 4 p PM.ini) w w')
    {w : World} {a : Option Addr} {n cap : Nat} {l : List Int} (hp : RI w (.slice a n cap) l) (hl : l.length = n) :
    Calls Tryz.prog 7 #[.slice a n cap] w fun e w' => e = .returned (.bool true) ∧ Below w.heap.size w w' := by
  have HW0 := Lib.hid HWo
  have HT0 := Lib.hid HTo
  have HF1 : Hid (∀ (p : Pl) (w2 w3 : World), SatC h bk ns p w2 0 PM.ini w3 → Calls Tryz.prog 12 #[.pointer (some ⟨p.b, 0, none⟩), .int .i64 0, .string ⟨#[115, 101, 116, 32, 107, 32, 48, 32, 48, 32, 49, 13, 10, 118, 13, 10]⟩] w3 fun e w4 => e = .returned (.int .i64 16) ∧ SatC h bk ns p w2 4 PM.c1 w4) :=
    Lib.hid (fun p w2 w3 hs => Sat.feed (c := 0) (x := .set 0 PM.vV) hs (by decide) set_text (by decide))
  have HA1 : Hid (∀ (p : Pl) (w2 w3 : World), SatC h bk ns p w2 4 PM.c1 w3 → Calls Tryz.prog 13 #[.pointer (some ⟨p.b, 0, none⟩), .int .i64 0] w3 fun e w4 => e = .returned (.string ⟨#[83, 84, 79, 82, 69, 68, 13, 10]⟩) ∧ SatC h bk ns p w2 4 PM.c2 w4) :=
    Lib.hid (fun p w2 w3 hs => all_ok (c := 0) (x := .set 0 PM.vV) hk hns hDo hs wj_c1 (by decide) (by decide) (by decide) (by decide) PM.idle_c1 rfl rfl (fun _ => ⟨_, _, rfl⟩) set_told (by decide))
  have HF2 : Hid (∀ (p : Pl) (w2 w3 : World) (c : Nat), c < 4 → SatC h bk ns p w2 (4 + 4 * c) (PM.c3 c) w3 → Calls Tryz.prog 12 #[.pointer (some ⟨p.b, 0, none⟩), .int .i64 c, .string (⟨#[99, 97, 115, 32, 107, 32, 48, 32, 48, 32, 49, 32, 49, 13, 10]⟩ ++ dec c ++ ⟨#[13, 10]⟩)] w3 fun e w4 => (∃ v, e = .returned (.int .i64 v)) ∧ SatC h bk ns p w2 (4 + 4 * (c + 1)) (PM.c3 (c + 1)) w4) :=
    Lib.hid (fun p w2 w3 c hc hs => (Sat.feed (c := c) (x := .cas 1 (.num c)) hs hc (cas_text c hc) (by
      have e1 : (PM.c3 c).q c = [] := if_neg (Nat.lt_irrefl _)
      rw [e1]
      have h2 := dec_len 1 c (by omega)
      simp only [txS, ByteArray.size_append]
      have e3 : (⟨#[99, 97, 115, 32, 107, 32, 48, 32, 48, 32, 49, 32, 49, 13, 10]⟩ : ByteArray).size = 15 := rfl
      have e4 : (⟨#[13, 10]⟩ : ByteArray).size = 2 := rfl
      have e5 : (⟨#[]⟩ : ByteArray).size = 0 := rfl
      omega)).mono (fun e w4 hh => ⟨⟨_, hh.1⟩, by rw [← PM.c3_succ]; exact hh.2⟩))
  have HPi : Hid (∀ (p : Pl) (w1 w2 w3 : World), Below w.heap.size w w1 → Made (svR kk h bk 4 ns 4 p PM.ini) w1 w2 → SatC h bk ns p w2 20 (PM.c3 4) w3 → Calls Tryz.prog 28 #[.pointer (some ⟨p.b, 0, none⟩), .slice a n cap, .int .i64 20] w3 fun e w4 => e = .returned (.tuple #[]) ∧ ∃ (won : Nat) (s : Mac), won < 4 ∧ PM.Idle s ∧ (∀ c, s.q c = []) ∧ (∀ c, c < 4 → rpS kk (s.out c) = if c = won then stored else exists') ∧ s.data = ⟨some ⟨0, .num won, 2, 0⟩, 2⟩ ∧ Wj kk true 4 4 20 s ∧ SatC h bk ns p w2 20 s w4) :=
    Lib.hid (fun p w1 w2 w3 hb hm hs => (picked_ok hk hns hDo hm hs (wj_c3 4 (by decide)) (by decide) (by decide) (RI.below' hp hb) hl).mono (fun e w4 hh => by
      obtain ⟨h1, ps, h2, h3⟩ := hh
      obtain ⟨won, s, g1, g2, g3, g4, ⟨a1, g5, g6⟩, g7, g8⟩ := PM.cas_done h2
      have hw : Wj kk true 4 4 20 (rnd (PM.works PM.stp PM.an0 (PM.c3 4) ps) 20 0) := Wj.rounds ((wj_c3 4 (by decide)).works h2)
      rw [rnd_n, g2] at h3 hw
      refine ⟨h1, won, s, g1, g3, g4, fun c hc => ?_, g8, hw, h3⟩
      by_cases e : c = won
      · subst e
        rw [if_pos rfl, g5]
        exact rp_stored g6 rfl
      · rw [if_neg e]
        obtain ⟨a2, k1, k2⟩ := g7 c hc e
        rw [k1]
        exact rp_exists k2 rfl))
  have HWr : Hid (∀ (p : Pl) (w2 w3 : World) (s : Mac) (c : Nat) (r : ByteArray), c < 4 → rpS kk (s.out c) = r → r.size = 8 → SatC h bk ns p w2 20 (wrn s c) w3 → Calls Tryz.prog 29 #[.pointer (some ⟨p.b, 0, none⟩), .int .i64 c, .int .i64 999] w3 fun e w4 => e = .returned (.string r) ∧ SatC h bk ns p w2 20 (wrn s (c + 1)) w4) :=
    Lib.hid (fun p w2 w3 s c r hc hr hz hs => by
      have h1 := Sat.write (c := c) (n := 999) hs hc (by rw [wrn_out (Nat.le_refl _), hr, hz]; decide)
      rw [wrn_out (Nat.le_refl _), hr, wrn_succ] at h1
      exact h1)
  have HF3 : Hid (∀ (p : Pl) (w2 w3 : World) (s : Mac), (∀ c, s.q c = []) → SatC h bk ns p w2 20 (wrn s 4) w3 → Calls Tryz.prog 12 #[.pointer (some ⟨p.b, 0, none⟩), .int .i64 0, .string ⟨#[103, 101, 116, 32, 107, 13, 10]⟩] w3 fun e w4 => e = .returned (.int .i64 7) ∧ SatC h bk ns p w2 24 (PM.fd (wrn s 4) 0 .get) w4) :=
    Lib.hid (fun p w2 w3 s hq hs => Sat.feed (c := 0) (x := .get) hs (by decide) get_text (by
      have e1 : (wrn s 4).q 0 = [] := hq 0
      rw [e1]; decide))
  have HA2 : Hid (∀ (p : Pl) (w2 w3 : World) (s : Mac) (won : Nat), won < 4 → PM.Idle s → (∀ c, s.q c = []) → s.data = ⟨some ⟨0, .num won, 2, 0⟩, 2⟩ → Wj kk true 4 4 20 s → SatC h bk ns p w2 24 (PM.fd (wrn s 4) 0 .get) w3 → Calls Tryz.prog 13 #[.pointer (some ⟨p.b, 0, none⟩), .int .i64 0] w3 fun e w4 => e = .returned (.string (⟨#[86, 65, 76, 85, 69, 32, 107, 32, 48, 32, 49, 13, 10]⟩ ++ dec won ++ ⟨#[13, 10, 69, 78, 68, 13, 10]⟩)) ∧ SatC h bk ns p w2 24 (PM.allE PM.stp (PM.fd (wrn s 4) 0 .get) 0 .get) w4) :=
    Lib.hid (fun p w2 w3 s won hwn hI hq hd hW hs => by
      have hw4 : Wj kk true 4 4 20 (wrn s 4) := by
        have h1 := (((hW.wr (c := 0)).wr (c := 1)).wr (c := 2)).wr (c := 3)
        rw [← wrn_0 (s := s), wrn_succ, wrn_succ, wrn_succ, wrn_succ] at h1
        exact h1
      refine all_ok (c := 0) (x := .get) hk hns hDo hs (hw4.fd (by decide) gC_get) (by decide) (by decide) (by decide) (by decide) ((wrn_idle hI).fd _ _) ?_ ?_ (fun hn => ?_) (get_told won hwn hd) ?_
      · show upd s.q 0 (s.q 0 ++ [Cd.get]) 0 = [Cd.get]
        rw [upd_same, hq 0]; rfl
      · show (if 0 < 4 then [] else s.out 0) = []
        exact if_pos (by decide)
      · have hn : s.data.it = none := hn
        rw [hd] at hn; cases hn
      · have h2 := dec_len 1 won (by omega)
        simp only [ByteArray.size_append]
        have e3 : (⟨#[86, 65, 76, 85, 69, 32, 107, 32, 48, 32, 49, 13, 10]⟩ : ByteArray).size = 13 := rfl
        have e4 : (⟨#[13, 10, 69, 78, 68, 13, 10]⟩ : ByteArray).size = 7 := rfl
        omega)
  have HTx : Hid (∀ n : Nat, n < 100 → ∀ w, Calls Tryz.prog 27 #[.int .u64 n] w fun e w' => e = .returned (.string (dec n)) ∧ w' = w) := Lib.hid (fun n hn w => text_small hn w)
  clear hp hl HWo HTo hk hns hDo
  go_enter Tryz.func7, Tryz.ntmps7
  go_wp2_with (first
    | (go_at_call 8; refine (HW0.out _).mono ?_; rintro e w1 ⟨rfl, hb1⟩)
    | (go_at_call 26; refine (HT0.out _).mono ?_; rintro e w2 ⟨p, rfl, ho, hn0, hm2⟩
       have HM := Lib.hid hm2
       have HS0 : Hid (SatC h bk ns p w2 0 PM.ini w2) := Lib.hid ⟨p, rfl, ho, by rw [hn0]; exact Nat.le_refl _, Turn.rfl' hm2.here⟩
       clear ho hn0 hm2)
    | (go_at_call 12; refine (HF1.out _ _ _ HS0.out).mono ?_; rintro e w3 ⟨rfl, hs1⟩; have HS1 := Lib.hid hs1; clear hs1)
    | (go_at_call 13; refine (HA1.out _ _ _ HS1.out).mono ?_; rintro e w4 ⟨rfl, hs2⟩; have HS2 := Lib.hid hs2; clear hs2))
  have HS3 : Hid (SatC h bk ns p w2 (4 + 4 * 0) (PM.c3 0) w4) := Lib.hid (by rw [PM.c3_0]; exact HS2.out)
  clear HW0 HT0 HF1 HA1 HS0 HS1 HS2
  go_loopw [5] (fun i wr => ∃ c : Nat, c ≤ 4 ∧ i = .int .i64 c ∧ Hid (SatC h bk ns p w2 (4 + 4 * c) (PM.c3 c) wr)) (fun i _ => 4 - (intOf i).toNat)
  case atStart => exact ⟨0, by omega, rfl, HS3⟩
  case round =>
    obtain ⟨c, hc, rfl, hs⟩ := hrel
    by_cases h4 : c < 4
    · have h5 : (c : Int) < 4 := by omega
      have hcw : IntKind.u64.wrap (c : Int) = c := by rcases (by omega : c = 0 ∨ c = 1 ∨ c = 2 ∨ c = 3) with rfl | rfl | rfl | rfl <;> decide
      have hds : (dec c).size ≤ 2 := dec_len 1 c (by omega)
      have HTc := Lib.hid (HTx.out c (by omega))
      have HFc := Lib.hid (fun w3 hs => HF2.out p w2 w3 c h4 hs)
      go_wp2_with (first
        | (go_at_call 27; refine (HTc.out _).mono ?_; rintro e w5 ⟨rfl, rfl⟩)
        | (go_at_call 12; refine (HFc.out _ hs.out).mono ?_; rintro e w6 ⟨⟨v, rfl⟩, h1⟩; have H1 := Lib.hid h1; clear h1))
      go_roundw
      case rel => exact ⟨c + 1, by omega, by first | rfl | simp, H1⟩
      case measure => simp [intOf]; omega
    · obtain rfl : c = 4 := by omega
      have HPn := Lib.hid (HPi.out p _ w2 wr hb1 HM.out hs.out)
      clear HPi HF2 HS3
      go_wp2_with (first
        | (go_at_call 28; refine HPn.out.mono ?_; rintro e w5 ⟨rfl, won, s, g1, g2, g3, g4, g5, g6, g7⟩
           have HSs : Hid (SatC h bk ns p w2 20 (wrn s 0) w5) := Lib.hid (by rw [wrn_0]; exact g7)
           have HG := Lib.hid (And.intro g1 (And.intro g2 (And.intro g3 (And.intro g4 (And.intro g5 g6)))))
           clear g1 g2 g3 g4 g5 g6 g7))
      go_loopw [6, 7] (fun v i wr => ∃ c : Nat, c ≤ 4 ∧ i = .int .i64 c ∧ v = .int .i64 (wonV won c) ∧ Hid (SatC h bk ns p w2 20 (wrn s c) wr)) (fun _ i _ => 4 - (intOf i).toNat)
      case atStart => exact ⟨0, by omega, rfl, by unfold wonV; rw [if_neg (by omega)], HSs⟩
      case round =>
        obtain ⟨c, hc, rfl, rfl, hs⟩ := hrel
        by_cases h4 : c < 4
        · have h5 : (c : Int) < 4 := by omega
          have hg4 := HG.out.2.2.2.1 c h4
          by_cases e : c = won
          · rw [if_pos e] at hg4
            have HWc := Lib.hid (HWr.out p w2 wr s c stored h4 hg4 stored_sz hs.out)
            have ew : wonV won c = -1 := by unfold wonV; rw [if_neg (by omega)]
            have ew2 : wonV won (c + 1) = c := by unfold wonV; rw [if_pos (by omega), e]
            unfold stored at HWc
            have HEQ := Lib.hid e
            have HW2 := Lib.hid ew2
            rw [ew]
            clear hg4 e ew ew2
            go_wp2_with (go_at_call 29; refine HWc.out.mono ?_; rintro e w6 ⟨rfl, h1⟩; have H1 := Lib.hid h1; clear h1)
            go_roundw
            case rel => exact ⟨c + 1, by omega, by first | rfl | simp, by rw [HW2.out], H1⟩
            case measure => simp [intOf]; omega
          · rw [if_neg e] at hg4
            have HWc := Lib.hid (HWr.out p w2 wr s c exists' h4 hg4 exists_sz hs.out)
            have ew2 : wonV won (c + 1) = wonV won c := by unfold wonV; by_cases h : won < c; (rw [if_pos h, if_pos (by omega)]); (rw [if_neg h, if_neg (by omega)])
            unfold exists' at HWc
            clear hg4
            obtain ⟨wv, hwv⟩ : ∃ wv, wonV won c = wv := ⟨_, rfl⟩
            have HV := Lib.hid hwv
            have HW2 := Lib.hid ew2
            rw [hwv]
            clear hwv ew2 e
            go_wp2_with (go_at_call 29; refine HWc.out.mono ?_; rintro e w6 ⟨rfl, h1⟩; have H1 := Lib.hid h1; clear h1)
            go_roundw
            case rel => exact ⟨c + 1, by omega, by first | rfl | simp, by rw [HW2.out, HV.out], H1⟩
            case measure => simp [intOf]; omega
        · obtain rfl : c = 4 := by omega
          obtain ⟨g1, g2, g3, g4, g5, g6⟩ := HG.out
          have ew : wonV won 4 = won := by unfold wonV; rw [if_pos g1]
          have h5 : (won : Int) < 4 := by omega
          have h6 : (0 : Int) ≤ won := by omega
          have hcw : IntKind.u64.wrap (won : Int) = won := by rcases (by omega : won = 0 ∨ won = 1 ∨ won = 2 ∨ won = 3) with rfl | rfl | rfl | rfl <;> decide
          have hds : (dec won).size ≤ 2 := dec_len 1 won (by omega)
          have HTc := Lib.hid (HTx.out won (by omega))
          have HF3n := Lib.hid (HF3.out p w2 wr s g3 hs.out)
          have HA2n := Lib.hid (fun w3 hs => HA2.out p w2 w3 s won g1 g2 g3 g5 g6 hs)
          rw [ew]
          clear g2 g3 g4 g5 g6 ew HF3 HA2 HWr
          go_wp2_with (first
            | (go_at_call 12; refine HF3n.out.mono ?_; rintro e w6 ⟨rfl, h1⟩; have H1 := Lib.hid h1; clear h1)
            | (go_at_call 13; refine (HA2n.out _ H1.out).mono ?_; rintro e w7 ⟨rfl, h1⟩; have H2 := Lib.hid h1; clear h1)
            | (go_at_call 27; refine (HTc.out _).mono ?_; rintro e w8 ⟨rfl, rfl⟩))
          go_ret
          exact ⟨by first | rfl | simp, hb1.trans ((Sat.made HM.out H2.out).mono hb1.size)⟩
end
end Go.Proofs.YtboehbfagnocpaaGreatDoor
namespace Go.Proofs.YtboehbfagnocpaaGreatDoor
open Go.RowKit Go.PlainAid Go.Shelf
def wA (iv : Value) (cas : Int) (mb : Nat) : Array Value := #[iv, .int .u64 cas, .int .i64 0, .int .i64 1, .map (some mb), .int .i64 472]
def wAR (wb : Nat) (iv : Value) (cas : Int) (mb : Nat) : Res := cellsAt wb (wA iv cas mb) 246
theorem ret_st {fn : Func} {k : Nat} (hres : fn.results = #[.cell k 121]) {R : Ending → World → Prop} {tmps : Array Value} {W : World} {N : Nat} {v0 v1 v2 : Value}
    (h2 : tmps.getD k undef = .pointer (some ⟨N, 0, none⟩)) (hb : (cellsAt N #[v0, v1, v2] 121).R W)
    (hR : R (.returned (.agg #[v0, v1, v2])) W) :
    bodyPost Tryz.prog fn R .ret { tmps := tmps, defers := [] } W := by
  refine bodyPost_ret (v := .agg #[v0, v1, v2]) ?_ rfl hR
  have h2' : tmps[k]?.getD undef = .pointer (some ⟨N, 0, none⟩) := by simpa using h2
  obtain ⟨x0, x1, x2⟩ : ca3 W N v0 v1 v2 := ca3' (hb)
  simp [results, hres, go_sem, h2', x0, x1, x2]
set_option maxHeartbeats 1000000 in
theorem live_none {wb mb : Nat} {cas : Int} {w : World} (h : (wAR wb (.slice none 0 0) cas mb).R w) :
    Calls Tryz.prog 212 #[.pointer (some ⟨wb, 0, none⟩), .int .i64 1] w fun e w' => e = .returned (.agg #[.slice none 0 0, .int .u64 cas, .int .i64 0]) ∧ Below w.heap.size w w' := by
  have hb0 := below_alloc' w (.cells #[.slice none 0 0, .int .u64 0, .int .i64 0] 121)
  have h0 := (wAR wb (.slice none 0 0) cas mb).keep h (Tch.of_below (fun _ => False) hb0) (fun _ _ x => x)
  have c0 : (w.alloc (.cells #[.slice none 0 0, .int .u64 0, .int .i64 0] 121)).cell? ⟨wb, 0, none⟩ = some (.slice none 0 0) := cells_at h0 0
  have c1 : (w.alloc (.cells #[.slice none 0 0, .int .u64 0, .int .i64 0] 121)).cell? ⟨wb, 1, none⟩ = some (.int .u64 cas) := cells_at h0 1
  have c2 : (w.alloc (.cells #[.slice none 0 0, .int .u64 0, .int .i64 0] 121)).cell? ⟨wb, 2, none⟩ = some (.int .i64 0) := cells_at h0 2
  have J := ((Hav.none w).cells #[.slice none 0 0, .int .u64 0, .int .i64 0] 121).cells #[.slice none 0 0, .int .u64 cas, .int .i64 0] 121
  simp only [World.size_alloc] at J
  have HJ := Lib.hid J
  clear h h0 hb0 J
  go_enter Tryz.func212, Tryz.ntmps212
  go_wp2_with (fail)
  obtain ⟨N, hN⟩ : ∃ N, w.heap.size = N := ⟨_, rfl⟩
  obtain ⟨W, hW⟩ : ∃ W, (w.alloc (.cells #[.slice none 0 0, .int .u64 0, .int .i64 0] 121)).alloc (.cells #[.slice none 0 0, .int .u64 cas, .int .i64 0] 121) = W := ⟨_, rfl⟩
  have J0 := HJ.out
  rw [hN, hW] at J0
  rw [hW]
  rw [hN]
  obtain ⟨x0, f0, x1, f1, x2, f2⟩ : caf3 W (N + 1) (.slice none 0 0) (.int .u64 cas) (.int .i64 0) := caf3' (J0.get 0 rfl)
  obtain ⟨y0, g0, y1, g1, y2, g2⟩ : caf3 W N (.slice none 0 0) (.int .u64 0) (.int .i64 0) := caf3' (J0.get 1 rfl)
  have J1 := J0.turn 0 rfl (cl_set (J0.get 0 rfl) 0 (.slice none 0 0))
  have hs := cl_sets N 121 [.slice none 0 0, .int .u64 cas, .int .i64 0] 0 _ _ (J1.get 1 rfl)
  rw [show setsV 0 [.slice none 0 0, .int .u64 cas, .int .i64 0] #[.slice none 0 0, .int .u64 0, .int .i64 0] = #[.slice none 0 0, .int .u64 cas, .int .i64 0] by simp [setsV]] at hs
  have J2 := J1.turn 1 rfl hs
  simp only [setsW] at J2
  have HE := Lib.hid (And.intro (J2.get 1 rfl) (J2.made0 1 rfl).bel)
  have HC1 := Lib.hid (J1.get 0 rfl)
  have n1 : ¬ N + 1 = N := by omega
  have n2 : ¬ N = N + 1 := by omega
  clear J1 J2 hs J0 HJ hN hW
  go_loopw [6, 28] (fun l i wr => l = .slice none 0 0 ∧ i = .int .i64 0 ∧ wr = W) (fun _ _ _ => 0)
  case atStart => exact ⟨rfl, rfl, rfl⟩
  case round =>
    obtain ⟨rfl, rfl, hr⟩ := hrel
    subst hr
    go_wp2_with (fail)
    exact ret_st (N := N) rfl rfl HE.out.1 ⟨rfl, HE.out.2⟩
set_option maxHeartbeats 1000000 in
theorem live_one {wb mb g cap : Nat} {cas : Int} {ky v : ByteArray} {fl ca la : Int} {w : World} (h : (wAR wb (.slice (some ⟨g, 0, none⟩) 1 cap) cas mb).R w) (hr : (rowI g cap ky fl v ca la).R w) :
    Calls Tryz.prog 212 #[.pointer (some ⟨wb, 0, none⟩), .int .i64 1] w fun e w' => ∃ g' cap', e = .returned (.agg #[.slice (some ⟨g', 0, none⟩) 1 cap', .int .u64 cas, .int .i64 0]) ∧ Made (rowI g' cap' ky fl v ca la) w w' := by
  have hb0 := below_alloc' w (.cells #[.slice none 0 0, .int .u64 0, .int .i64 0] 121)
  have h0 := (wAR wb (.slice (some ⟨g, 0, none⟩) 1 cap) cas mb).keep h (Tch.of_below (fun _ => False) hb0) (fun _ _ x => x)
  have c0 : (w.alloc (.cells #[.slice none 0 0, .int .u64 0, .int .i64 0] 121)).cell? ⟨wb, 0, none⟩ = some (.slice (some ⟨g, 0, none⟩) 1 cap) := cells_at h0 0
  have c1 : (w.alloc (.cells #[.slice none 0 0, .int .u64 0, .int .i64 0] 121)).cell? ⟨wb, 1, none⟩ = some (.int .u64 cas) := cells_at h0 1
  have c2 : (w.alloc (.cells #[.slice none 0 0, .int .u64 0, .int .i64 0] 121)).cell? ⟨wb, 2, none⟩ = some (.int .i64 0) := cells_at h0 2
  have J := ((Hav.none w).cells #[.slice none 0 0, .int .u64 0, .int .i64 0] 121).cells #[.slice (some ⟨g, 0, none⟩) 1 cap, .int .u64 cas, .int .i64 0] 121
  simp only [World.size_alloc] at J
  have HJ := Lib.hid J
  have hbW := (below_alloc' w (.cells #[.slice none 0 0, .int .u64 0, .int .i64 0] 121)).trans ((below_alloc' (w.alloc (.cells #[.slice none 0 0, .int .u64 0, .int .i64 0] 121)) (.cells #[.slice (some ⟨g, 0, none⟩) 1 cap, .int .u64 cas, .int .i64 0] 121)).mono (by simp))
  have hrW := (rowI g cap ky fl v ca la).keep hr (Tch.of_below (fun _ => False) hbW) (fun _ _ x => x)
  have HRW := Lib.hid hrW
  clear h h0 hb0 J hr hbW hrW
  go_enter Tryz.func212, Tryz.ntmps212
  go_wp2_with (fail)
  obtain ⟨N, hN⟩ : ∃ N, w.heap.size = N := ⟨_, rfl⟩
  obtain ⟨W, hW⟩ : ∃ W, (w.alloc (.cells #[.slice none 0 0, .int .u64 0, .int .i64 0] 121)).alloc (.cells #[.slice (some ⟨g, 0, none⟩) 1 cap, .int .u64 cas, .int .i64 0] 121) = W := ⟨_, rfl⟩
  have J0 := HJ.out
  have hrW := HRW.out
  rw [hW] at hrW
  rw [hN, hW] at J0
  rw [hW]
  rw [hN]
  have HJ0 := Lib.hid J0
  have HRW1 := Lib.hid hrW
  have HNN := Lib.hid hN
  clear J0 hrW HRW HJ hN hW c0 c1 c2
  go_loopw [6, 28] (fun l i wr => (l = .slice none 0 0 ∧ i = .int .i64 0 ∧ wr = W) ∨ (∃ g' cap', l = .slice (some ⟨g', 0, none⟩) 1 cap' ∧ i = .int .i64 1 ∧ Hid (Hav (fun _ => False) w [rowI g' cap' ky fl v ca la, cellsAt (N + 1) #[.slice (some ⟨g, 0, none⟩) 1 cap, .int .u64 cas, .int .i64 0] 121, cellsAt N #[.slice none 0 0, .int .u64 0, .int .i64 0] 121] wr))) (fun _ i _ => 1 - (intOf i).toNat)
  case atStart => exact .inl ⟨rfl, rfl, rfl⟩
  case round =>
    rcases hrel with ⟨rfl, rfl, hr⟩ | ⟨g', cap', rfl, rfl, hs⟩
    · subst hr
      obtain ⟨i0, i1, i2, i3, i4, i5, i6, i7⟩ : ra8 wr g (.string ky) (.int .u32 fl) (.string v) (.int .i64 0) (.int .u64 ca) (.int .i64 la) (.bool false) (.bool false) := ra8' (HRW1.out)
      have J1 := HJ0.out.cells #[.string ky, .int .u32 fl, .string v, .int .i64 0, .int .u64 ca, .int .i64 la, .bool false, .bool false] 50
      have HJ1 := Lib.hid J1
      clear J1
      go_wp2_with (at_builtin; go_must (refine wp_appEl elem_itm rfl _ _ rfl rfl (row_nil _ _ _) (by simp only [World.size_alloc]; rfl) rfl (by simp [Value.oneCell']) (by omega) (by omega) ?_); intro g1 cap1 w2 ht)
      have J2 := (hav_rowNil HJ1.out 50 8).turn 0 rfl ht
      have J3 := J2.sel (L2 := [rowI g1 cap1 ky fl v ca la, cellsAt (N + 1) #[.slice (some ⟨g, 0, none⟩) 1 cap, .int .u64 cas, .int .i64 0] 121, cellsAt N #[.slice none 0 0, .int .u64 0, .int .i64 0] 121]) [0, 2, 3] (by decide) rfl
      have HJ3 := Lib.hid J3
      clear J2 J3 ht HJ1
      go_roundw
      case rel => exact .inr ⟨g1, cap1, by first | rfl | simp, by first | rfl | simp, HJ3⟩
      case measure => (simp only [intOf]; decide)
    · have J0 := hs.out
      obtain ⟨x0, f0, x1, f1, x2, f2⟩ : caf3 wr (N + 1) (.slice (some ⟨g, 0, none⟩) 1 cap) (.int .u64 cas) (.int .i64 0) := caf3' (J0.get 1 rfl)
      obtain ⟨y0, z0, y1, z1, y2, z2⟩ : caf3 wr N (.slice none 0 0) (.int .u64 0) (.int .i64 0) := caf3' (J0.get 2 rfl)
      have J1 := J0.turn 1 rfl (cl_set (J0.get 1 rfl) 0 (.slice (some ⟨g', 0, none⟩) 1 cap'))
      have hs2 := cl_sets N 121 [.slice (some ⟨g', 0, none⟩) 1 cap', .int .u64 cas, .int .i64 0] 0 _ _ (J1.get 2 rfl)
      rw [show setsV 0 [.slice (some ⟨g', 0, none⟩) 1 cap', .int .u64 cas, .int .i64 0] #[.slice none 0 0, .int .u64 0, .int .i64 0] = #[.slice (some ⟨g', 0, none⟩) 1 cap', .int .u64 cas, .int .i64 0] by simp [setsV]] at hs2
      have J2 := J1.turn 2 rfl hs2
      simp only [setsW] at J2
      have HE := Lib.hid (And.intro (J2.get 2 rfl) (J2.made0 0 rfl))
      have n1 : ¬ N + 1 = N := by omega
      have n2 : ¬ N = N + 1 := by omega
      clear J1 J2 hs2 J0
      go_wp2_with (fail)
      exact ret_st (N := N) rfl rfl HE.out.1 ⟨g', cap', rfl, HE.out.2⟩
end Go.Proofs.YtboehbfagnocpaaGreatDoor
namespace Go.Proofs.YtboehbfagnocpaaGreatDoor
open Go.RowKit Go.PlainAid Go.Shelf
set_option maxHeartbeats 2000000 in
theorem next_ok {wb mb n : Nat} {o : Option Int} {iv : Value} {cas sq op mode flags exp tok delta recache st afl aca ala num : Int} {ckey value ak av : ByteArray} {hasCas : Bool} {w : World} (ho : (o = none ∧ sq = 1) ∨ (o = some 1 ∧ sq = 2)) (h : (wAR wb iv cas mb).R w) (hm : (mapT mb n o).R w) :
    Calls Tryz.prog 214 #[.pointer (some ⟨wb, 0, none⟩), .agg #[.int .i64 1, .int .i64 1, .int .i64 0, .int .i64 sq, .int .i64 0, .int .i64 op, .int .i64 mode, .string ckey, .string value, .int .u32 flags, .int .i64 exp, .bool false, .int .u64 tok, .bool hasCas, .int .u64 delta, .int .u64 0, .bool false, .bool false, .int .i64 0, .int .i64 recache, .bool false, .int .i64 st, .string ak, .int .u32 afl, .string av, .int .i64 0, .int .u64 aca, .int .i64 ala, .bool false, .bool false, .int .u64 num, .bool false, .bool false, .bool false, .slice none 0 0]] w fun e w' => e = .returned (.bool true) ∧ Below w.heap.size w w' := by
  have J := (Hav.none w).cells #[.int .i64 1, .int .i64 1, .int .i64 0, .int .i64 sq, .int .i64 0, .int .i64 op, .int .i64 mode, .string ckey, .string value, .int .u32 flags, .int .i64 exp, .bool false, .int .u64 tok, .bool hasCas, .int .u64 delta, .int .u64 0, .bool false, .bool false, .int .i64 0, .int .i64 recache, .bool false, .int .i64 st, .string ak, .int .u32 afl, .string av, .int .i64 0, .int .u64 aca, .int .i64 ala, .bool false, .bool false, .int .u64 num, .bool false, .bool false, .bool false, .slice none 0 0] 136
  have hb0 := below_alloc' w (.cells #[.int .i64 1, .int .i64 1, .int .i64 0, .int .i64 sq, .int .i64 0, .int .i64 op, .int .i64 mode, .string ckey, .string value, .int .u32 flags, .int .i64 exp, .bool false, .int .u64 tok, .bool hasCas, .int .u64 delta, .int .u64 0, .bool false, .bool false, .int .i64 0, .int .i64 recache, .bool false, .int .i64 st, .string ak, .int .u32 afl, .string av, .int .i64 0, .int .u64 aca, .int .i64 ala, .bool false, .bool false, .int .u64 num, .bool false, .bool false, .bool false, .slice none 0 0] 136)
  have h0 := (wAR wb iv cas mb).keep h (Tch.of_below (fun _ => False) hb0) (fun _ _ x => x)
  have m0 := (mapT mb n o).keep hm (Tch.of_below (fun _ => False) hb0) (fun _ _ x => x)
  obtain ⟨E, hE⟩ : ∃ E, w.heap.size = E := ⟨_, rfl⟩
  obtain ⟨W, hW⟩ : ∃ W, w.alloc (.cells #[.int .i64 1, .int .i64 1, .int .i64 0, .int .i64 sq, .int .i64 0, .int .i64 op, .int .i64 mode, .string ckey, .string value, .int .u32 flags, .int .i64 exp, .bool false, .int .u64 tok, .bool hasCas, .int .u64 delta, .int .u64 0, .bool false, .bool false, .int .i64 0, .int .i64 recache, .bool false, .int .i64 st, .string ak, .int .u32 afl, .string av, .int .i64 0, .int .u64 aca, .int .i64 ala, .bool false, .bool false, .int .u64 num, .bool false, .bool false, .bool false, .slice none 0 0] 136) = W := ⟨_, rfl⟩
  rw [hW] at J h0 m0 hb0
  rw [hE] at J
  have HW := Lib.hid hW
  have HB := Lib.hid hb0
  have HK : Hid (∀ w', Below W.heap.size W w' → w'.cell? ⟨wb, 4, none⟩ = some (.map (some mb)) ∧ w'.cell? ⟨E, 2, none⟩ = some (.int .i64 0) ∧ (Instr.lookup 244 (.map (some mb)) (.int .i64 0) true).run Tryz.prog w' = .ok (.tuple #[.agg #[.int .i64 (o.getD 0), .int .i64 0], .bool o.isSome]) w') := Lib.hid (fun w' hb => ⟨cells_at ((wAR wb iv cas mb).keep h0 (Tch.of_below (fun _ => False) hb) (fun _ _ x => x)) 4, cells_at ((J.below hb).get 0 rfl) 2, mapT_look ((mapT mb n o).keep m0 (Tch.of_below (fun _ => False) hb) (fun _ _ x => x))⟩)
  have S0 := HK.out W (Below.refl _ _)
  have HJ : Hid (∀ w', Below W.heap.size W w' → w'.cell? ⟨E, 2, none⟩ = some (.int .i64 0) ∧ w'.cell? ⟨E, 3, none⟩ = some (.int .i64 sq) ∧ w'.cell? ⟨E, 4, none⟩ = some (.int .i64 0)) := Lib.hid (fun w' hb => ⟨cells_at ((J.below hb).get 0 rfl) 2, cells_at ((J.below hb).get 0 rfl) 3, cells_at ((J.below hb).get 0 rfl) 4⟩)
  have HO := Lib.hid ho
  have HE := Lib.hid hE
  clear J h0 m0 hb0 hW h hm ho
  go_enter Tryz.func214, Tryz.ntmps214
  go_upto_region 1 with fail
  rw [HW.out]
  clear HW
  clear hE
  go_cut [5, 6] from 8 to 16 (fun s5 s6 wx => ∃ T, s5 = .pointer (some ⟨T, 0, none⟩) ∧ s6 = .bool o.isSome ∧ Hid (Hav (fun _ => False) W [cellsAt T #[.int .i64 (o.getD 0), .int .i64 0] 321] wx))
  case first =>
    go_region_held3 (fun w' => w'.cell? ⟨wb, 4, none⟩ = some (.map (some mb)) ∧ w'.cell? ⟨E, 2, none⟩ = some (.int .i64 0) ∧ (Instr.lookup 244 (.map (some mb)) (.int .i64 0) true).run Tryz.prog w' = .ok (.tuple #[.agg #[.int .i64 (o.getD 0), .int .i64 0], .bool o.isSome]) w') (first | exact HK.out _ (by go_grown)) (fail)
    all_goals (go_wp2_with fail)
    all_goals go_meet
    all_goals first
      | exact ⟨_, rfl, rfl, Lib.hid ((Hav.none W).drew.cells #[.int .i64 (o.getD 0), .int .i64 0] 321)⟩
      | exact ⟨_, rfl, rfl, Lib.hid ((Hav.none W).cells #[.int .i64 (o.getD 0), .int .i64 0] 321).drew⟩
      | fail
  case rest =>
    obtain ⟨T, rfl, rfl, hJ⟩ := hcut
    have hbc : Below W.heap.size W wc := (hJ.out.made0 0 rfl).bel
    obtain ⟨k2, k3, k4⟩ := HJ.out wc hbc
    have t0 : wc.cell? ⟨T, 0, none⟩ = some (.int .i64 (o.getD 0)) := cells_at (hJ.out.get 0 rfl) 0
    have HB2 := Lib.hid (HB.out.trans (hbc.mono HB.out.size))
    clear HK S0 HJ HB hbc hJ HE
    rcases HO.out with ⟨rfl, rfl⟩ | ⟨rfl, rfl⟩
    · clear HO
      simp only [Option.isSome] at *
      go_wp2_with (fail)
      go_ret
      exact ⟨by first | rfl | simp, HB2.out⟩
    · have t1 : wc.cell? ⟨T, 0, none⟩ = some (.int .i64 1) := t0
      clear HO t0
      simp only [Option.isSome] at *
      go_wp2_with (fail)
      go_ret
      exact ⟨by first | rfl | simp, HB2.out⟩
end Go.Proofs.YtboehbfagnocpaaGreatDoor
