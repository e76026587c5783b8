/- Tnv, Tuc, Tud. -/
import Derived.Test.YtboehbfagnocpaaGreatDoorUbo
set_option linter.unusedVariables false
set_option linter.unusedSimpArgs false
set_option maxRecDepth 100000
open Go.Proofs.Tryz
open Go.Lib (hid)
namespace Go.Proofs.YtboehbfagnocpaaGreatDoor
open Go.RowKit Go.PlainAid Go.Shelf
open SP
open PM (Cd An Sd Vl upd upd_same upd_ne)
section
variable {key : ByteArray} {h : Int} {bk : Nat} {w : World}
set_option maxHeartbeats 2000000 in
theorem new_44 (k : Bool) {kv : Int} (hkv : (if k then 1 else 0) = kv) (w : World) : Calls prog 9 #[.agg #[.int .i64 1, .int .i64 512, .int .i64 200, .int .i64 kv], .int .i64 4, .int .i64 4, .int .i64 5] w fun e w' =>
    ∃ p : Pl, e = .returned (.tuple #[.pointer (some ⟨p.b, 0, none⟩), .int .i64 0]) ∧ SOkE p.m ∧ p.m.ps.num = 0 ∧ Made (many (opL key h bk 4 4 0 p (.slice none 0 0))) w w' := by
  have HS := hid (fun w => store_new (key := key) (h := h) (bk := bk) k w hkv)
  have HMv := hid (fun w => mover_new (every := 5) (by decide) w)
  have HSt := hid (fun w => stats_new w)
  have HRp := hid (fun (xb : Nat) (w : World) (hc : w.cell? ⟨xb, 0, none⟩ = some (.int .i64 (-1))) => repeat_4 hc)
  have hmk : ∀ w : World, (Instr.makeSlice 77 (.int .i64 4) (.int .i64 4)).run prog w = .ok (.slice (some ⟨w.heap.size, 0, none⟩) 4 4) (w.alloc (.cells #[.pointer none, .pointer none, .pointer none, .pointer none] 140)) :=
    fun w => by rw [← made_w4]; exact run_make_row' (P := prog) 77 140 (.pointer none) 8 underlying77 Tryz.infoW rfl .i64 .i64 4 (by decide) (by decide) w
  have J0 := (Hav.none w).cells #[.int .i64 1, .int .i64 512, .int .i64 200, .int .i64 kv] 28
  obtain ⟨CB, hCB⟩ : ∃ CB, w.heap.size = CB := ⟨_, rfl⟩
  obtain ⟨W0, hW0⟩ : ∃ W0, w.alloc (.cells #[.int .i64 1, .int .i64 512, .int .i64 200, .int .i64 kv] 28) = W0 := ⟨_, rfl⟩
  rw [hCB, hW0] at J0
  have HW0 := hid hW0
  have HJ0 := hid J0
  obtain ⟨c0, c1, c2, c3⟩ : ca4 W0 CB (.int .i64 1) (.int .i64 512) (.int .i64 200) (.int .i64 kv) := ca4' (J0.get 0 rfl)
  clear J0 hW0 hkv
  go_enter func9, ntmps9
  go_upto_region 1 with fail
  rw [HW0.out]
  clear HW0 hCB
  go_wp2_with (first
    | (go_at_call 14; refine (HS.out _).mono ?_; rintro e w1 ⟨m, rfl, ho, hn0, hm1⟩; have HJ1 := hid (HJ0.out.made hm1); have HO := hid (And.intro ho hn0); clear hm1 ho hn0)
    | (go_at_call 32; refine (HMv.out _).mono ?_; rintro e w2 ⟨mv, rfl, hb2⟩; have HJ2 := hid (HJ1.out.below hb2); clear hb2))
  go_upto_region 5 with fail
  go_cut [8, 9] from 42 to 51 (fun s8 s9 wx => ∃ b wlb slb sx, s8 = .pointer (some ⟨b, 0, none⟩) ∧ s9 = .int .i64 0 ∧ Hid (Hav (fun _ => False) w [cAt b #[.pointer (some ⟨m.s, 0, none⟩), .pointer (some ⟨mv, 0, none⟩), .pointer (some ⟨sx, 0, none⟩), .int .i64 1, .slice none 0 0, .slice (some ⟨wlb, 0, none⟩) 4 4, .slice (some ⟨slb, 0, none⟩) 4 4, .slice none 0 0] 81, cAt wlb #[.pointer none, .pointer none, .pointer none, .pointer none] 140, rowAt (.slice (some ⟨slb, 0, none⟩) 4 4) 3 1 4 [.int .i64 (-1), .int .i64 (-1), .int .i64 (-1), .int .i64 (-1)], stsR sx (fun _ => 0), stoR key h bk m PM.sd0] wx))
  case first =>
    go_region_held3 (fun _ => True) (exact trivial) (first
      | (go_at_call 33; refine (HSt.out _).mono ?_; rintro e w5 ⟨sx, rfl, hmA⟩)
      | (go_at_call 34
         (first
          | (have J := ((((HJ2.out).drew).made hmA).cells #[.pointer none, .pointer none, .pointer none, .pointer none] 140).cells #[.int .i64 (-1)] 3; (try simp only [World.size_alloc, World.size_drew] at J); have hq : _ = some (Value.int .i64 (-1)) := cA (J.get 0 rfl) 0; (with_reducible refine (HRp.out _ _ hq).mono ?_); clear J hq)
          | (have J := ((((HJ2.out).drew).made hmA).cells #[.int .i64 (-1)] 3).cells #[.pointer none, .pointer none, .pointer none, .pointer none] 140; (try simp only [World.size_alloc, World.size_drew] at J); have hq : _ = some (Value.int .i64 (-1)) := cA (J.get 1 rfl) 0; (with_reducible refine (HRp.out _ _ hq).mono ?_); clear J hq)
          | (have J := (((HJ2.out).drew).made hmA).cells #[.int .i64 (-1)] 3; (try simp only [World.size_alloc, World.size_drew] at J); have hq : _ = some (Value.int .i64 (-1)) := cA (J.get 0 rfl) 0; (with_reducible refine (HRp.out _ _ hq).mono ?_); clear J hq)
          | (have J := ((((HJ2.out).cells #[.pointer none, .pointer none, .pointer none, .pointer none] 140).drew).made hmA).cells #[.int .i64 (-1)] 3; (try simp only [World.size_alloc, World.size_drew] at J); have hq : _ = some (Value.int .i64 (-1)) := cA (J.get 0 rfl) 0; (with_reducible refine (HRp.out _ _ hq).mono ?_); clear J hq)
          | (have J := ((((HJ2.out).cells #[.pointer none, .pointer none, .pointer none, .pointer none] 140).cells #[.int .i64 (-1)] 3).drew).made hmA; (try simp only [World.size_alloc, World.size_drew] at J); have hq : _ = some (Value.int .i64 (-1)) := cA (J.get 1 rfl) 0; (with_reducible refine (HRp.out _ _ hq).mono ?_); clear J hq)
          | (have J := (((HJ2.out).cells #[.pointer none, .pointer none, .pointer none, .pointer none] 140).cells #[.int .i64 (-1)] 3).drew; (try simp only [World.size_alloc, World.size_drew] at J); have hq : _ = some (Value.int .i64 (-1)) := cA (J.get 0 rfl) 0; (with_reducible refine (HRp.out _ _ hq).mono ?_); clear J hq)
          | (have J := ((((HJ2.out).cells #[.int .i64 (-1)] 3).drew).made hmA).cells #[.pointer none, .pointer none, .pointer none, .pointer none] 140; (try simp only [World.size_alloc, World.size_drew] at J); have hq : _ = some (Value.int .i64 (-1)) := cA (J.get 2 rfl) 0; (with_reducible refine (HRp.out _ _ hq).mono ?_); clear J hq)
          | (have J := (((HJ2.out).cells #[.int .i64 (-1)] 3).drew).made hmA; (try simp only [World.size_alloc, World.size_drew] at J); have hq : _ = some (Value.int .i64 (-1)) := cA (J.get 1 rfl) 0; (with_reducible refine (HRp.out _ _ hq).mono ?_); clear J hq)
          | (have J := ((((HJ2.out).cells #[.int .i64 (-1)] 3).cells #[.pointer none, .pointer none, .pointer none, .pointer none] 140).drew).made hmA; (try simp only [World.size_alloc, World.size_drew] at J); have hq : _ = some (Value.int .i64 (-1)) := cA (J.get 2 rfl) 0; (with_reducible refine (HRp.out _ _ hq).mono ?_); clear J hq)
          | (have J := (((HJ2.out).cells #[.int .i64 (-1)] 3).cells #[.pointer none, .pointer none, .pointer none, .pointer none] 140).drew; (try simp only [World.size_alloc, World.size_drew] at J); have hq : _ = some (Value.int .i64 (-1)) := cA (J.get 1 rfl) 0; (with_reducible refine (HRp.out _ _ hq).mono ?_); clear J hq)
          | (have J := ((HJ2.out).cells #[.int .i64 (-1)] 3).drew; (try simp only [World.size_alloc, World.size_drew] at J); have hq : _ = some (Value.int .i64 (-1)) := cA (J.get 0 rfl) 0; (with_reducible refine (HRp.out _ _ hq).mono ?_); clear J hq))
         rintro e w6 ⟨g, rfl, hmD⟩))
    all_goals (go_wp2_with fail)
    all_goals go_meet
    all_goals first
      | (have J := ((((((HJ2.out).drew).made hmA).cells #[.pointer none, .pointer none, .pointer none, .pointer none] 140).cells #[.int .i64 (-1)] 3).made hmD).cells #[.pointer (some ⟨m.s, 0, none⟩), .pointer (some ⟨mv, 0, none⟩), .pointer (some ⟨sx, 0, none⟩), .int .i64 1, .slice none 0 0, .slice (some ⟨w5.heap.size, 0, none⟩) 4 4, .slice (some ⟨g, 0, none⟩) 4 4, .slice none 0 0] 81; (try simp only [World.size_alloc, World.size_drew] at J); (with_reducible refine ⟨_, w5.heap.size, g, sx, rfl, rfl, hid (Hav.sel J [0, 3, 1, 4, 5] (by decide) ?_)⟩); rfl)
      | (have J := ((((((HJ2.out).drew).made hmA).cells #[.int .i64 (-1)] 3).cells #[.pointer none, .pointer none, .pointer none, .pointer none] 140).made hmD).cells #[.pointer (some ⟨m.s, 0, none⟩), .pointer (some ⟨mv, 0, none⟩), .pointer (some ⟨sx, 0, none⟩), .int .i64 1, .slice none 0 0, .slice (some ⟨w5.heap.size + 1, 0, none⟩) 4 4, .slice (some ⟨g, 0, none⟩) 4 4, .slice none 0 0] 81; (try simp only [World.size_alloc, World.size_drew] at J); (with_reducible refine ⟨_, w5.heap.size + 1, g, sx, rfl, rfl, hid (Hav.sel J [0, 2, 1, 4, 5] (by decide) ?_)⟩); rfl)
      | (have J := ((((((HJ2.out).drew).made hmA).cells #[.int .i64 (-1)] 3).made hmD).cells #[.pointer none, .pointer none, .pointer none, .pointer none] 140).cells #[.pointer (some ⟨m.s, 0, none⟩), .pointer (some ⟨mv, 0, none⟩), .pointer (some ⟨sx, 0, none⟩), .int .i64 1, .slice none 0 0, .slice (some ⟨w6.heap.size, 0, none⟩) 4 4, .slice (some ⟨g, 0, none⟩) 4 4, .slice none 0 0] 81; (try simp only [World.size_alloc, World.size_drew] at J); (with_reducible refine ⟨_, w6.heap.size, g, sx, rfl, rfl, hid (Hav.sel J [0, 1, 2, 4, 5] (by decide) ?_)⟩); rfl)
      | (have J := ((((((HJ2.out).cells #[.pointer none, .pointer none, .pointer none, .pointer none] 140).drew).made hmA).cells #[.int .i64 (-1)] 3).made hmD).cells #[.pointer (some ⟨m.s, 0, none⟩), .pointer (some ⟨mv, 0, none⟩), .pointer (some ⟨sx, 0, none⟩), .int .i64 1, .slice none 0 0, .slice (some ⟨w2.heap.size, 0, none⟩) 4 4, .slice (some ⟨g, 0, none⟩) 4 4, .slice none 0 0] 81; (try simp only [World.size_alloc, World.size_drew] at J); (with_reducible refine ⟨_, w2.heap.size, g, sx, rfl, rfl, hid (Hav.sel J [0, 4, 1, 3, 5] (by decide) ?_)⟩); rfl)
      | (have J := ((((((HJ2.out).cells #[.pointer none, .pointer none, .pointer none, .pointer none] 140).cells #[.int .i64 (-1)] 3).drew).made hmA).made hmD).cells #[.pointer (some ⟨m.s, 0, none⟩), .pointer (some ⟨mv, 0, none⟩), .pointer (some ⟨sx, 0, none⟩), .int .i64 1, .slice none 0 0, .slice (some ⟨w2.heap.size, 0, none⟩) 4 4, .slice (some ⟨g, 0, none⟩) 4 4, .slice none 0 0] 81; (try simp only [World.size_alloc, World.size_drew] at J); (with_reducible refine ⟨_, w2.heap.size, g, sx, rfl, rfl, hid (Hav.sel J [0, 4, 1, 2, 5] (by decide) ?_)⟩); rfl)
      | (have J := ((((((HJ2.out).cells #[.pointer none, .pointer none, .pointer none, .pointer none] 140).cells #[.int .i64 (-1)] 3).drew).made hmD).made hmA).cells #[.pointer (some ⟨m.s, 0, none⟩), .pointer (some ⟨mv, 0, none⟩), .pointer (some ⟨sx, 0, none⟩), .int .i64 1, .slice none 0 0, .slice (some ⟨w2.heap.size, 0, none⟩) 4 4, .slice (some ⟨g, 0, none⟩) 4 4, .slice none 0 0] 81; (try simp only [World.size_alloc, World.size_drew] at J); (with_reducible refine ⟨_, w2.heap.size, g, sx, rfl, rfl, hid (Hav.sel J [0, 4, 2, 1, 5] (by decide) ?_)⟩); rfl)
      | (have J := ((((((HJ2.out).cells #[.int .i64 (-1)] 3).drew).made hmA).cells #[.pointer none, .pointer none, .pointer none, .pointer none] 140).made hmD).cells #[.pointer (some ⟨m.s, 0, none⟩), .pointer (some ⟨mv, 0, none⟩), .pointer (some ⟨sx, 0, none⟩), .int .i64 1, .slice none 0 0, .slice (some ⟨w5.heap.size, 0, none⟩) 4 4, .slice (some ⟨g, 0, none⟩) 4 4, .slice none 0 0] 81; (try simp only [World.size_alloc, World.size_drew] at J); (with_reducible refine ⟨_, w5.heap.size, g, sx, rfl, rfl, hid (Hav.sel J [0, 2, 1, 3, 5] (by decide) ?_)⟩); rfl)
      | (have J := ((((((HJ2.out).cells #[.int .i64 (-1)] 3).drew).made hmA).made hmD).cells #[.pointer none, .pointer none, .pointer none, .pointer none] 140).cells #[.pointer (some ⟨m.s, 0, none⟩), .pointer (some ⟨mv, 0, none⟩), .pointer (some ⟨sx, 0, none⟩), .int .i64 1, .slice none 0 0, .slice (some ⟨w6.heap.size, 0, none⟩) 4 4, .slice (some ⟨g, 0, none⟩) 4 4, .slice none 0 0] 81; (try simp only [World.size_alloc, World.size_drew] at J); (with_reducible refine ⟨_, w6.heap.size, g, sx, rfl, rfl, hid (Hav.sel J [0, 1, 2, 3, 5] (by decide) ?_)⟩); rfl)
      | (have J := ((((((HJ2.out).cells #[.int .i64 (-1)] 3).cells #[.pointer none, .pointer none, .pointer none, .pointer none] 140).drew).made hmA).made hmD).cells #[.pointer (some ⟨m.s, 0, none⟩), .pointer (some ⟨mv, 0, none⟩), .pointer (some ⟨sx, 0, none⟩), .int .i64 1, .slice none 0 0, .slice (some ⟨w2.heap.size + 1, 0, none⟩) 4 4, .slice (some ⟨g, 0, none⟩) 4 4, .slice none 0 0] 81; (try simp only [World.size_alloc, World.size_drew] at J); (with_reducible refine ⟨_, w2.heap.size + 1, g, sx, rfl, rfl, hid (Hav.sel J [0, 3, 1, 2, 5] (by decide) ?_)⟩); rfl)
      | (have J := ((((((HJ2.out).cells #[.int .i64 (-1)] 3).cells #[.pointer none, .pointer none, .pointer none, .pointer none] 140).drew).made hmD).made hmA).cells #[.pointer (some ⟨m.s, 0, none⟩), .pointer (some ⟨mv, 0, none⟩), .pointer (some ⟨sx, 0, none⟩), .int .i64 1, .slice none 0 0, .slice (some ⟨w2.heap.size + 1, 0, none⟩) 4 4, .slice (some ⟨g, 0, none⟩) 4 4, .slice none 0 0] 81; (try simp only [World.size_alloc, World.size_drew] at J); (with_reducible refine ⟨_, w2.heap.size + 1, g, sx, rfl, rfl, hid (Hav.sel J [0, 3, 2, 1, 5] (by decide) ?_)⟩); rfl)
      | (have J := ((((((HJ2.out).cells #[.int .i64 (-1)] 3).drew).made hmD).made hmA).cells #[.pointer none, .pointer none, .pointer none, .pointer none] 140).cells #[.pointer (some ⟨m.s, 0, none⟩), .pointer (some ⟨mv, 0, none⟩), .pointer (some ⟨sx, 0, none⟩), .int .i64 1, .slice none 0 0, .slice (some ⟨w5.heap.size, 0, none⟩) 4 4, .slice (some ⟨g, 0, none⟩) 4 4, .slice none 0 0] 81; (try simp only [World.size_alloc, World.size_drew] at J); (with_reducible refine ⟨_, w5.heap.size, g, sx, rfl, rfl, hid (Hav.sel J [0, 1, 3, 2, 5] (by decide) ?_)⟩); rfl)
      | (have J := ((((((HJ2.out).cells #[.int .i64 (-1)] 3).drew).made hmD).cells #[.pointer none, .pointer none, .pointer none, .pointer none] 140).made hmA).cells #[.pointer (some ⟨m.s, 0, none⟩), .pointer (some ⟨mv, 0, none⟩), .pointer (some ⟨sx, 0, none⟩), .int .i64 1, .slice none 0 0, .slice (some ⟨w6.heap.size, 0, none⟩) 4 4, .slice (some ⟨g, 0, none⟩) 4 4, .slice none 0 0] 81; (try simp only [World.size_alloc, World.size_drew] at J); (with_reducible refine ⟨_, w6.heap.size, g, sx, rfl, rfl, hid (Hav.sel J [0, 2, 3, 1, 5] (by decide) ?_)⟩); rfl)
      | fail
  case rest =>
    obtain ⟨b, wlb, slb, sx, rfl, rfl, hJ⟩ := hcut
    go_wp2_with (fail)
    go_ret2
    have J1 := hJ.out.turn 1 rfl (Turn.conv (r' := rowAt (.slice (some ⟨wlb, 0, none⟩) 4 4) 140 1 4 [.pointer none, .pointer none, .pointer none, .pointer none]) (hJ.out.get 1 rfl) (fun h => cells_row h rfl (by decide)) (fun b hb => (by have e : some wlb = some b := hb; cases e; rfl)))
    have J2 := hav_rowNil (hav_rowNil J1 82 1) 136 35
    have J3 := hav_add (r := fam 0 (clR key (⟨b, mv, sx, 0, 0, wlb, 4, slb, 4, .slice none 0 0, fun _ => 0, fun _ => 0, fun _ => 0, fun _ => ⟨0, 0, 0, .slice none 0 0, .slice none 0 0⟩, m⟩ : Pl) PM.ini)) J2 (fam_new0 _) (fun b hb => (by obtain ⟨r, hr, _⟩ := hb; simp [lst] at hr))
    have J4 := hav_add (r := fam 4 (fun _ => emp)) J3 (fam_emp _ _) (fun b hb => (by obtain ⟨r, hr, hb⟩ := hb; simp [lst] at hr; obtain ⟨_, _, rfl⟩ := hr; exact hb))
    have J5 := J4.sel (L2 := opL key h bk 4 4 0 (⟨b, mv, sx, 0, 0, wlb, 4, slb, 4, .slice none 0 0, fun _ => 0, fun _ => 0, fun _ => 0, fun _ => ⟨0, 0, 0, .slice none 0 0, .slice none 0 0⟩, m⟩ : Pl) (.slice none 0 0)) [4, 3, 5, 6, 2, 8, 7, 1, 0] (by decide) rfl
    exact ⟨⟨b, mv, sx, 0, 0, wlb, 4, slb, 4, .slice none 0 0, fun _ => 0, fun _ => 0, fun _ => 0, fun _ => ⟨0, 0, 0, .slice none 0 0, .slice none 0 0⟩, m⟩, rfl, HO.out.1, HO.out.2, (J5.emp).group.made0 0 rfl⟩
end
end Go.Proofs.YtboehbfagnocpaaGreatDoor
namespace Go.Proofs.YtboehbfagnocpaaGreatDoor
open Go.RowKit Go.PlainAid Go.Shelf
def wA (iv : Value) (cas : Int) (mb : Nat) : Array Value := #[iv, .int .u64 cas, .int .i64 0, .int .i64 1, .map (some mb), .int .i64 472]
def wAR (wb : Nat) (iv : Value) (cas : Int) (mb : Nat) : Res := cAt wb (wA iv cas mb) 246
theorem ret_st {fn : Func} {k : Nat} (hres : fn.results = #[.cell k 121]) {R : Ending → World → Prop} {tmps : Array Value} {W : World} {N : Nat} {v0 v1 v2 : Value}
    (h2 : tmps.getD k undef = .pointer (some ⟨N, 0, none⟩)) (hb : (cAt N #[v0, v1, v2] 121).R W)
    (hR : R (.returned (.agg #[v0, v1, v2])) W) :
    bodyPost prog fn R .ret { tmps := tmps, defers := [] } W := by
  refine bodyPost_ret (v := .agg #[v0, v1, v2]) ?_ rfl hR
  have h2' : tmps[k]?.getD undef = .pointer (some ⟨N, 0, none⟩) := by simpa using h2
  obtain ⟨x0, x1, x2⟩ : ca3 W N v0 v1 v2 := ca3' (hb)
  simp [results, hres, go_sem, h2', x0, x1, x2]
set_option maxHeartbeats 1000000 in
theorem live_none {wb mb : Nat} {cas : Int} {w : World} (h : (wAR wb (.slice none 0 0) cas mb).R w) :
    Calls prog 212 #[.pointer (some ⟨wb, 0, none⟩), .int .i64 1] w fun e w' => e = .returned (.agg #[.slice none 0 0, .int .u64 cas, .int .i64 0]) ∧ Below w.heap.size w w' := by
  have hb0 := bA w (.cells #[.slice none 0 0, .int .u64 0, .int .i64 0] 121)
  have h0 := (wAR wb (.slice none 0 0) cas mb).keep h (Tch.of_below (fun _ => False) hb0) (fun _ _ x => x)
  have c0 : (w.alloc (.cells #[.slice none 0 0, .int .u64 0, .int .i64 0] 121)).cell? ⟨wb, 0, none⟩ = some (.slice none 0 0) := cA h0 0
  have c1 : (w.alloc (.cells #[.slice none 0 0, .int .u64 0, .int .i64 0] 121)).cell? ⟨wb, 1, none⟩ = some (.int .u64 cas) := cA h0 1
  have c2 : (w.alloc (.cells #[.slice none 0 0, .int .u64 0, .int .i64 0] 121)).cell? ⟨wb, 2, none⟩ = some (.int .i64 0) := cA h0 2
  have J := ((Hav.none w).cells #[.slice none 0 0, .int .u64 0, .int .i64 0] 121).cells #[.slice none 0 0, .int .u64 cas, .int .i64 0] 121
  simp only [World.size_alloc] at J
  have HJ := hid J
  clear h h0 hb0 J
  go_enter func212, ntmps212
  go_wp2_with (fail)
  obtain ⟨N, hN⟩ : ∃ N, w.heap.size = N := ⟨_, rfl⟩
  obtain ⟨W, hW⟩ : ∃ W, (w.alloc (.cells #[.slice none 0 0, .int .u64 0, .int .i64 0] 121)).alloc (.cells #[.slice none 0 0, .int .u64 cas, .int .i64 0] 121) = W := ⟨_, rfl⟩
  have J0 := HJ.out
  rw [hN, hW] at J0
  rw [hW]
  rw [hN]
  obtain ⟨x0, f0, x1, f1, x2, f2⟩ : caf3 W (N + 1) (.slice none 0 0) (.int .u64 cas) (.int .i64 0) := caf3' (J0.get 0 rfl)
  obtain ⟨y0, g0, y1, g1, y2, g2⟩ : caf3 W N (.slice none 0 0) (.int .u64 0) (.int .i64 0) := caf3' (J0.get 1 rfl)
  have J1 := J0.turn 0 rfl (cl_set (J0.get 0 rfl) 0 (.slice none 0 0))
  have hs := cl_sets N 121 [.slice none 0 0, .int .u64 cas, .int .i64 0] 0 _ _ (J1.get 1 rfl)
  rw [show setsV 0 [.slice none 0 0, .int .u64 cas, .int .i64 0] #[.slice none 0 0, .int .u64 0, .int .i64 0] = #[.slice none 0 0, .int .u64 cas, .int .i64 0] by simp [setsV]] at hs
  have J2 := J1.turn 1 rfl hs
  simp only [setsW] at J2
  have HE := hid (And.intro (J2.get 1 rfl) (J2.made0 1 rfl).bel)
  have HC1 := hid (J1.get 0 rfl)
  have n1 : ¬ N + 1 = N := by omega
  have n2 : ¬ N = N + 1 := by omega
  clear J1 J2 hs J0 HJ hN hW
  go_loopw [6, 28] (fun l i wr => l = .slice none 0 0 ∧ i = .int .i64 0 ∧ wr = W) (fun _ _ _ => 0)
  case atStart => exact ⟨rfl, rfl, rfl⟩
  case round =>
    obtain ⟨rfl, rfl, hr⟩ := hrel
    subst hr
    go_wp2_with (fail)
    exact ret_st (N := N) rfl rfl HE.out.1 ⟨rfl, HE.out.2⟩
set_option maxHeartbeats 1000000 in
theorem live_one {wb mb g cap : Nat} {cas : Int} {ky v : ByteArray} {fl ca la : Int} {w : World} (h : (wAR wb (.slice (some ⟨g, 0, none⟩) 1 cap) cas mb).R w) (hr : (rowI g cap ky fl v ca la).R w) :
    Calls prog 212 #[.pointer (some ⟨wb, 0, none⟩), .int .i64 1] w fun e w' => ∃ g' cap', e = .returned (.agg #[.slice (some ⟨g', 0, none⟩) 1 cap', .int .u64 cas, .int .i64 0]) ∧ Made (rowI g' cap' ky fl v ca la) w w' := by
  have hb0 := bA w (.cells #[.slice none 0 0, .int .u64 0, .int .i64 0] 121)
  have h0 := (wAR wb (.slice (some ⟨g, 0, none⟩) 1 cap) cas mb).keep h (Tch.of_below (fun _ => False) hb0) (fun _ _ x => x)
  have c0 : (w.alloc (.cells #[.slice none 0 0, .int .u64 0, .int .i64 0] 121)).cell? ⟨wb, 0, none⟩ = some (.slice (some ⟨g, 0, none⟩) 1 cap) := cA h0 0
  have c1 : (w.alloc (.cells #[.slice none 0 0, .int .u64 0, .int .i64 0] 121)).cell? ⟨wb, 1, none⟩ = some (.int .u64 cas) := cA h0 1
  have c2 : (w.alloc (.cells #[.slice none 0 0, .int .u64 0, .int .i64 0] 121)).cell? ⟨wb, 2, none⟩ = some (.int .i64 0) := cA h0 2
  have J := ((Hav.none w).cells #[.slice none 0 0, .int .u64 0, .int .i64 0] 121).cells #[.slice (some ⟨g, 0, none⟩) 1 cap, .int .u64 cas, .int .i64 0] 121
  simp only [World.size_alloc] at J
  have HJ := hid J
  have hbW := (bA w (.cells #[.slice none 0 0, .int .u64 0, .int .i64 0] 121)).trans ((bA (w.alloc (.cells #[.slice none 0 0, .int .u64 0, .int .i64 0] 121)) (.cells #[.slice (some ⟨g, 0, none⟩) 1 cap, .int .u64 cas, .int .i64 0] 121)).mono (by simp))
  have hrW := (rowI g cap ky fl v ca la).keep hr (Tch.of_below (fun _ => False) hbW) (fun _ _ x => x)
  have HRW := hid hrW
  clear h h0 hb0 J hr hbW hrW
  go_enter func212, ntmps212
  go_wp2_with (fail)
  obtain ⟨N, hN⟩ : ∃ N, w.heap.size = N := ⟨_, rfl⟩
  obtain ⟨W, hW⟩ : ∃ W, (w.alloc (.cells #[.slice none 0 0, .int .u64 0, .int .i64 0] 121)).alloc (.cells #[.slice (some ⟨g, 0, none⟩) 1 cap, .int .u64 cas, .int .i64 0] 121) = W := ⟨_, rfl⟩
  have J0 := HJ.out
  have hrW := HRW.out
  rw [hW] at hrW
  rw [hN, hW] at J0
  rw [hW]
  rw [hN]
  have HJ0 := hid J0
  have HRW1 := hid hrW
  have HNN := hid hN
  clear J0 hrW HRW HJ hN hW c0 c1 c2
  go_loopw [6, 28] (fun l i wr => (l = .slice none 0 0 ∧ i = .int .i64 0 ∧ wr = W) ∨ (∃ g' cap', l = .slice (some ⟨g', 0, none⟩) 1 cap' ∧ i = .int .i64 1 ∧ Hid (Hav (fun _ => False) w [rowI g' cap' ky fl v ca la, cAt (N + 1) #[.slice (some ⟨g, 0, none⟩) 1 cap, .int .u64 cas, .int .i64 0] 121, cAt N #[.slice none 0 0, .int .u64 0, .int .i64 0] 121] wr))) (fun _ i _ => 1 - (intOf i).toNat)
  case atStart => exact .inl ⟨rfl, rfl, rfl⟩
  case round =>
    rcases hrel with ⟨rfl, rfl, hr⟩ | ⟨g', cap', rfl, rfl, hs⟩
    · subst hr
      obtain ⟨i0, i1, i2, i3, i4, i5, i6, i7⟩ : ra8 wr g (.string ky) (.int .u32 fl) (.string v) (.int .i64 0) (.int .u64 ca) (.int .i64 la) (.bool false) (.bool false) := ra8' (HRW1.out)
      have J1 := HJ0.out.cells #[.string ky, .int .u32 fl, .string v, .int .i64 0, .int .u64 ca, .int .i64 la, .bool false, .bool false] 50
      have HJ1 := hid J1
      clear J1
      go_wp2_with (at_builtin; go_must (refine wp_appEl elem_itm rfl _ _ rfl rfl (row_nil _ _ _) (by simp only [World.size_alloc]; rfl) rfl (by simp [Value.oneCell']) (by omega) (by omega) ?_); intro g1 cap1 w2 ht)
      have J2 := (hav_rowNil HJ1.out 50 8).turn 0 rfl ht
      have J3 := J2.sel (L2 := [rowI g1 cap1 ky fl v ca la, cAt (N + 1) #[.slice (some ⟨g, 0, none⟩) 1 cap, .int .u64 cas, .int .i64 0] 121, cAt N #[.slice none 0 0, .int .u64 0, .int .i64 0] 121]) [0, 2, 3] (by decide) rfl
      have HJ3 := hid J3
      clear J2 J3 ht HJ1
      go_roundw
      case rel => exact .inr ⟨g1, cap1, by first | rfl | simp, by first | rfl | simp, HJ3⟩
      case measure => (simp only [intOf]; decide)
    · have J0 := hs.out
      obtain ⟨x0, f0, x1, f1, x2, f2⟩ : caf3 wr (N + 1) (.slice (some ⟨g, 0, none⟩) 1 cap) (.int .u64 cas) (.int .i64 0) := caf3' (J0.get 1 rfl)
      obtain ⟨y0, z0, y1, z1, y2, z2⟩ : caf3 wr N (.slice none 0 0) (.int .u64 0) (.int .i64 0) := caf3' (J0.get 2 rfl)
      have J1 := J0.turn 1 rfl (cl_set (J0.get 1 rfl) 0 (.slice (some ⟨g', 0, none⟩) 1 cap'))
      have hs2 := cl_sets N 121 [.slice (some ⟨g', 0, none⟩) 1 cap', .int .u64 cas, .int .i64 0] 0 _ _ (J1.get 2 rfl)
      rw [show setsV 0 [.slice (some ⟨g', 0, none⟩) 1 cap', .int .u64 cas, .int .i64 0] #[.slice none 0 0, .int .u64 0, .int .i64 0] = #[.slice (some ⟨g', 0, none⟩) 1 cap', .int .u64 cas, .int .i64 0] by simp [setsV]] at hs2
      have J2 := J1.turn 2 rfl hs2
      simp only [setsW] at J2
      have HE := hid (And.intro (J2.get 2 rfl) (J2.made0 0 rfl))
      have n1 : ¬ N + 1 = N := by omega
      have n2 : ¬ N = N + 1 := by omega
      clear J1 J2 hs2 J0
      go_wp2_with (fail)
      exact ret_st (N := N) rfl rfl HE.out.1 ⟨g', cap', rfl, HE.out.2⟩
set_option maxHeartbeats 2000000 in
theorem next_ok {wb mb n : Nat} {o : Option Int} {iv : Value} {cas sq op mode flags exp tok delta recache st afl aca ala num : Int} {ckey value ak av : ByteArray} {hasCas : Bool} {w : World} (ho : (o = none ∧ sq = 1) ∨ (o = some 1 ∧ sq = 2)) (h : (wAR wb iv cas mb).R w) (hm : (mapT mb n o).R w) :
    Calls prog 214 #[.pointer (some ⟨wb, 0, none⟩), .agg #[.int .i64 1, .int .i64 1, .int .i64 0, .int .i64 sq, .int .i64 0, .int .i64 op, .int .i64 mode, .string ckey, .string value, .int .u32 flags, .int .i64 exp, .bool false, .int .u64 tok, .bool hasCas, .int .u64 delta, .int .u64 0, .bool false, .bool false, .int .i64 0, .int .i64 recache, .bool false, .int .i64 st, .string ak, .int .u32 afl, .string av, .int .i64 0, .int .u64 aca, .int .i64 ala, .bool false, .bool false, .int .u64 num, .bool false, .bool false, .bool false, .slice none 0 0]] w fun e w' => e = .returned (.bool true) ∧ Below w.heap.size w w' := by
  have J := (Hav.none w).cells #[.int .i64 1, .int .i64 1, .int .i64 0, .int .i64 sq, .int .i64 0, .int .i64 op, .int .i64 mode, .string ckey, .string value, .int .u32 flags, .int .i64 exp, .bool false, .int .u64 tok, .bool hasCas, .int .u64 delta, .int .u64 0, .bool false, .bool false, .int .i64 0, .int .i64 recache, .bool false, .int .i64 st, .string ak, .int .u32 afl, .string av, .int .i64 0, .int .u64 aca, .int .i64 ala, .bool false, .bool false, .int .u64 num, .bool false, .bool false, .bool false, .slice none 0 0] 136
  have hb0 := bA w (.cells #[.int .i64 1, .int .i64 1, .int .i64 0, .int .i64 sq, .int .i64 0, .int .i64 op, .int .i64 mode, .string ckey, .string value, .int .u32 flags, .int .i64 exp, .bool false, .int .u64 tok, .bool hasCas, .int .u64 delta, .int .u64 0, .bool false, .bool false, .int .i64 0, .int .i64 recache, .bool false, .int .i64 st, .string ak, .int .u32 afl, .string av, .int .i64 0, .int .u64 aca, .int .i64 ala, .bool false, .bool false, .int .u64 num, .bool false, .bool false, .bool false, .slice none 0 0] 136)
  have h0 := (wAR wb iv cas mb).keep h (Tch.of_below (fun _ => False) hb0) (fun _ _ x => x)
  have m0 := (mapT mb n o).keep hm (Tch.of_below (fun _ => False) hb0) (fun _ _ x => x)
  obtain ⟨E, hE⟩ : ∃ E, w.heap.size = E := ⟨_, rfl⟩
  obtain ⟨W, hW⟩ : ∃ W, w.alloc (.cells #[.int .i64 1, .int .i64 1, .int .i64 0, .int .i64 sq, .int .i64 0, .int .i64 op, .int .i64 mode, .string ckey, .string value, .int .u32 flags, .int .i64 exp, .bool false, .int .u64 tok, .bool hasCas, .int .u64 delta, .int .u64 0, .bool false, .bool false, .int .i64 0, .int .i64 recache, .bool false, .int .i64 st, .string ak, .int .u32 afl, .string av, .int .i64 0, .int .u64 aca, .int .i64 ala, .bool false, .bool false, .int .u64 num, .bool false, .bool false, .bool false, .slice none 0 0] 136) = W := ⟨_, rfl⟩
  rw [hW] at J h0 m0 hb0
  rw [hE] at J
  have HW := hid hW
  have HB := hid hb0
  have HK : Hid (∀ w', Below W.heap.size W w' → w'.cell? ⟨wb, 4, none⟩ = some (.map (some mb)) ∧ w'.cell? ⟨E, 2, none⟩ = some (.int .i64 0) ∧ (Instr.lookup 244 (.map (some mb)) (.int .i64 0) true).run prog w' = .ok (.tuple #[.agg #[.int .i64 (o.getD 0), .int .i64 0], .bool o.isSome]) w') := hid (fun w' hb => ⟨cA ((wAR wb iv cas mb).keep h0 (Tch.of_below (fun _ => False) hb) (fun _ _ x => x)) 4, cA ((J.below hb).get 0 rfl) 2, mapT_look ((mapT mb n o).keep m0 (Tch.of_below (fun _ => False) hb) (fun _ _ x => x))⟩)
  have S0 := HK.out W (Below.refl _ _)
  have HJ : Hid (∀ w', Below W.heap.size W w' → w'.cell? ⟨E, 2, none⟩ = some (.int .i64 0) ∧ w'.cell? ⟨E, 3, none⟩ = some (.int .i64 sq) ∧ w'.cell? ⟨E, 4, none⟩ = some (.int .i64 0)) := hid (fun w' hb => ⟨cA ((J.below hb).get 0 rfl) 2, cA ((J.below hb).get 0 rfl) 3, cA ((J.below hb).get 0 rfl) 4⟩)
  have HO := hid ho
  have HE := hid hE
  clear J h0 m0 hb0 hW h hm ho
  go_enter func214, ntmps214
  go_upto_region 1 with fail
  rw [HW.out]
  clear HW
  clear hE
  go_cut [5, 6] from 8 to 16 (fun s5 s6 wx => ∃ T, s5 = .pointer (some ⟨T, 0, none⟩) ∧ s6 = .bool o.isSome ∧ Hid (Hav (fun _ => False) W [cAt T #[.int .i64 (o.getD 0), .int .i64 0] 321] wx))
  case first =>
    go_region_held3 (fun w' => w'.cell? ⟨wb, 4, none⟩ = some (.map (some mb)) ∧ w'.cell? ⟨E, 2, none⟩ = some (.int .i64 0) ∧ (Instr.lookup 244 (.map (some mb)) (.int .i64 0) true).run prog w' = .ok (.tuple #[.agg #[.int .i64 (o.getD 0), .int .i64 0], .bool o.isSome]) w') (first | exact HK.out _ (by go_grown)) (fail)
    all_goals (go_wp2_with fail)
    all_goals go_meet
    all_goals first
      | exact ⟨_, rfl, rfl, hid ((Hav.none W).drew.cells #[.int .i64 (o.getD 0), .int .i64 0] 321)⟩
      | exact ⟨_, rfl, rfl, hid ((Hav.none W).cells #[.int .i64 (o.getD 0), .int .i64 0] 321).drew⟩
      | fail
  case rest =>
    obtain ⟨T, rfl, rfl, hJ⟩ := hcut
    have hbc : Below W.heap.size W wc := (hJ.out.made0 0 rfl).bel
    obtain ⟨k2, k3, k4⟩ := HJ.out wc hbc
    have t0 : wc.cell? ⟨T, 0, none⟩ = some (.int .i64 (o.getD 0)) := cA (hJ.out.get 0 rfl) 0
    have HB2 := hid (HB.out.trans (hbc.mono HB.out.size))
    clear HK S0 HJ HB hbc hJ HE
    rcases HO.out with ⟨rfl, rfl⟩ | ⟨rfl, rfl⟩
    · clear HO
      simp only [Option.isSome] at *
      go_wp2_with (fail)
      go_ret
      exact ⟨by first | rfl | simp, HB2.out⟩
    · have t1 : wc.cell? ⟨T, 0, none⟩ = some (.int .i64 1) := t0
      clear HO t0
      simp only [Option.isSome] at *
      go_wp2_with (fail)
      go_ret
      exact ⟨by first | rfl | simp, HB2.out⟩
end Go.Proofs.YtboehbfagnocpaaGreatDoor
