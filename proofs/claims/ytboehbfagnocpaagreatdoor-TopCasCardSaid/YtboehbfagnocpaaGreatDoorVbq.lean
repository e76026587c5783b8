/- Tto, Tnq. -/
import Derived.Test.YtboehbfagnocpaaGreatDoorVai
import Derived.Test.YtboehbfagnocpaaGreatDoorVak
import Derived.Test.YtboehbfagnocpaaGreatDoorVbp
import Derived.Test.YtboehbfagnocpaaGreatDoorVbb
import Derived.Test.YtboehbfagnocpaaGreatDoorVbe
set_option linter.unusedVariables false
set_option linter.unusedSimpArgs false
set_option maxRecDepth 100000
namespace Go.Proofs.YtboehbfagnocpaaGreatDoor
open Go.RowKit Go.PlainAid Go.Shelf
open SP
open PM (Cd An Sd Vl)
theorem elem_po : Elem 103 97 1 8 := ⟨Tryz.underlying103, ⟨.pointer none, by kernel_rfl, by kernel_rfl⟩, by decide⟩
def poV (x : PS) : Value := .pointer (some ⟨x.pb, 0, none⟩)
def poL (ls : List PS) : List Value := ls.reverse.map poV
theorem poL_cons (x : PS) (ls : List PS) : poL ls ++ [poV x] = poL (x :: ls) := by simp [poL]
section
variable {key : ByteArray} {h : Int} {bk : Nat} {w : World}
set_option maxHeartbeats 2000000 in
theorem store_new (k : Bool) (w : World) {kv : Int} (hkv : (if k then 1 else 0) = kv) : Calls Tryz.prog 14 #[.agg #[.int .i64 1, .int .i64 512, .int .i64 200, .int .i64 kv]] w fun e w' =>
    ∃ m : SM, e = .returned (.tuple #[.pointer (some ⟨m.s, 0, none⟩), .int .i64 0]) ∧ SOkE m ∧ m.ps.num = 0 ∧ Made (stoR key h bk m PM.sd0) w w' := by
  have HZ := Lib.hid (fun w => sz_new w)
  have HA := Lib.hid (fun w => ar_new w)
  have HP : Hid (∀ w, Calls Tryz.prog 44 #[.int .i64 kv] w fun e w' => ∃ s : PS, s.seg = k ∧ s.held = false ∧ s.num = 0 ∧ e = .returned (.pointer (some ⟨s.pb, 0, none⟩)) ∧ Made (polR s) w w') := Lib.hid (fun w => by rw [← hkv]; exact pol_new k w)
  have HT : Hid (∀ w, Calls Tryz.prog 45 #[] w fun e w' => ∃ tb rb, e = .returned (.pointer (some ⟨tb, 0, none⟩)) ∧ Made (tab0 tb rb bk) w w') := Lib.hid (fun w => (chain_new bk w).mono (fun e w' hh => tab_made hh))
  have hmm : ∀ w : World, (Instr.makeMap 101 none).run Tryz.prog w = .ok (.map (some w.heap.size)) (w.alloc (.map #[] 0)) := fun w => by rfl
  have J0 := (Hav.none w).cells #[.int .i64 1, .int .i64 512, .int .i64 200, .int .i64 kv] 28
  obtain ⟨CB, hCB⟩ : ∃ CB, w.heap.size = CB := ⟨_, rfl⟩
  obtain ⟨W0, hW0⟩ : ∃ W0, w.alloc (.cells #[.int .i64 1, .int .i64 512, .int .i64 200, .int .i64 kv] 28) = W0 := ⟨_, rfl⟩
  rw [hCB, hW0] at J0
  have HW0 := Lib.hid hW0
  have HJ0 := Lib.hid J0
  obtain ⟨c0, c1, c2, c3⟩ : ca4 W0 CB (.int .i64 1) (.int .i64 512) (.int .i64 200) (.int .i64 kv) := ca4' (J0.get 0 rfl)
  clear J0 hW0 hkv
  go_enter Tryz.func14, Tryz.ntmps14
  go_upto_region 1 with fail
  rw [HW0.out]
  clear HW0 hCB
  go_wp2_with (first
    | (go_at_call 42; refine (HZ.out _).mono ?_; rintro e w1 ⟨zb, zc, rfl, hm1⟩
       have HJ1 := Lib.hid (HJ0.out.made hm1)
       obtain ⟨d0, d1, d2, d3⟩ : ca4 w1 CB (.int .i64 1) (.int .i64 512) (.int .i64 200) (.int .i64 kv) := ca4' (HJ1.out.get 1 rfl)
       clear hm1)
    | (go_at_call 43; refine (HA.out _).mono ?_; rintro e w2 ⟨g, k2, rfl, hm2⟩
       have HJ2 := Lib.hid (HJ1.out.made hm2)
       obtain ⟨e0, e1, e2, e3⟩ : ca4 w2 CB (.int .i64 1) (.int .i64 512) (.int .i64 200) (.int .i64 kv) := ca4' (HJ2.out.get 2 rfl)
       clear hm2)
    | (go_at_call 44; refine (HP.out _).mono ?_; rintro e w3 ⟨s0, -, -, -, rfl, hm3⟩
       have HJ3 := Lib.hid (HJ2.out.below hm3.bel)
       clear hm3)
    | (go_at_call 45; refine (HT.out _).mono ?_; rintro e w4 ⟨tb, rb, rfl, hm4⟩
       have HJ4 := Lib.hid (HJ3.out.made hm4)
       clear hm4)
    | (go_at_call 46
       have J5 := (HJ4.out.alloc (.map #[] 0)).cells #[.pointer none, .pointer (some ⟨g, 0, none⟩), .slice (some ⟨zb, 0, none⟩) 4 zc, .pointer (some ⟨tb, 0, none⟩), .slice none 0 0, .int .u64 0, .int .i64 0, .map (some w4.heap.size)] 105
       simp only [World.size_alloc] at J5
       refine (slab_new (J5.get 2 rfl) (J5.get 3 rfl)).mono ?_; rintro e w6 ⟨β, rfl, hg, ht⟩
       have J6 := J5.turn 2 rfl ht
       have s0 : w6.cell? ⟨w4.heap.size + 1, 0, none⟩ = some (.pointer none) := cells_at (J6.get 0 rfl) 0
       have f0 : w6.frozen? ⟨w4.heap.size + 1, 0, none⟩ = false := cells_fz (J6.get 0 rfl) 0
       have HJ6 := Lib.hid (J6.turn 0 rfl (cl_set (J6.get 0 rfl) 0 (.pointer (some ⟨β.sb, 0, none⟩))))
       have HG := Lib.hid hg
       clear J5 J6 ht hg))
  obtain ⟨SB, hSB⟩ : ∃ SB, w4.heap.size + 1 = SB := ⟨_, rfl⟩
  obtain ⟨cm, hcm⟩ : ∃ cm, Value.map (some w4.heap.size) = cm := ⟨_, rfl⟩
  obtain ⟨w7, hw7⟩ : ∃ w7, w6.setCell ⟨w4.heap.size + 1, 0, none⟩ (.pointer (some ⟨β.sb, 0, none⟩)) = w7 := ⟨_, rfl⟩
  have J7 := hav_rowNil HJ6.out 97 1
  rw [hw7] at J7 ⊢
  rw [hSB, hcm] at J7
  rw [hSB]
  have HJ7 := Lib.hid J7
  clear J7 hw7 hSB hcm s0 f0 HJ0 HJ1 HJ2 HJ3 HJ4 HJ6 HZ HA HT c0 c1 c2 c3 d0 d1 d2 d3 e0 e1 e2 e3 hmm
  obtain ⟨ST, hST⟩ : ∃ ST : Option Addr → Nat → Nat → Res, ∀ a n c, ST a n c = cellsAt SB #[.pointer (some ⟨β.sb, 0, none⟩), .pointer (some ⟨g, 0, none⟩), .slice (some ⟨zb, 0, none⟩) 4 zc, .pointer (some ⟨tb, 0, none⟩), .slice a n c, .int .u64 0, .int .i64 0, cm] 105 := ⟨_, fun _ _ _ => rfl⟩
  obtain ⟨CF, hCF⟩ : ∃ CF : Res, CF = cellsAt CB #[.int .i64 1, .int .i64 512, .int .i64 200, .int .i64 kv] 28 := ⟨_, rfl⟩
  have HST := Lib.hid hST
  have HCF := Lib.hid hCF
  have HI : Hid (Hav (fun _ => False) w (ST none 0 0 :: rowAt (.slice none 0 0) 97 1 0 (poL []) :: (([] : List PS).map polR ++ [tab0 tb rb bk, slabR β pi0 0, zrow zb zc, CF])) w7) := Lib.hid (by
    rw [hST, hCF]
    exact hav_b HJ7.out)
  clear hST hCF HJ7
  go_loopw [54] (fun i wr => ∃ (n : Nat) (ls : List PS) (a : Option Addr) (c : Nat), n ≤ 4 ∧ ls.length = n ∧ i = .int .i64 n ∧ Hid ((∀ x ∈ ls, x.held = false ∧ x.num = 0) ∧ Hav (fun _ => False) w (ST a n c :: rowAt (.slice a n c) 97 1 n (poL ls) :: (ls.map polR ++ [tab0 tb rb bk, slabR β pi0 0, zrow zb zc, CF])) wr)) (fun i _ => 4 - (intOf i).toNat)
  case atStart => exact ⟨0, [], none, 0, by omega, rfl, rfl, Lib.hid ⟨fun x hx => absurd hx (by simp), HI.out⟩⟩
  case round =>
    obtain ⟨n, ls, a, c, hn4, hls, rfl, hs⟩ := hrel
    have HLS := Lib.hid hls
    clear hls
    by_cases h4 : n < 4
    · have h5 : (n : Int) < 4 := by omega
      go_wp2_with (fail)
      go_upto_region 9 with fail
      have HSt : Hid (∀ w', (ST a n c).R w' → w'.cell? ⟨SB, 4, none⟩ = some (.slice a n c)) := Lib.hid (fun w' hr => by rw [HST.out] at hr; exact cells_at hr 4)
      have HCf : Hid (∀ w', CF.R w' → w'.cell? ⟨CB, 3, none⟩ = some (.int .i64 kv)) := Lib.hid (fun w' hr => by rw [HCF.out] at hr; exact cells_at hr 3)
      have S0 : wr.drew.cell? ⟨SB, 4, none⟩ = some (.slice a n c) ∧ wr.drew.cell? ⟨CB, 3, none⟩ = some (.int .i64 kv) := ⟨HSt.out _ (hs.out.2.drew.get 0 rfl), HCf.out _ (hs.out.2.drew.all CF (by simp))⟩
      refine wp_region_E (fun w' => w'.cell? ⟨SB, 4, none⟩ = some (.slice a n c) ∧ w'.cell? ⟨CB, 3, none⟩ = some (.int .i64 kv)) 12 (by kernel_rfl) S0 (fun hHeld => ?_)
      refine wfE 0 rfl ?_
      (try simp only [lzP, lzA, lzS])
      refine wfE 1 rfl ?_
      (try simp only [lzP, lzA, lzS])
      refine wfE 2 rfl ?_
      (try simp only [lzP, lzA, lzS])
      refine wfE 3 rfl ?_
      (try simp only [lzP, lzA, lzS])
      refine wkE 4 rfl ?_
      (try simp only [lzP, lzA, lzS])
      refine wfE 5 rfl ?_
      (try simp only [lzP, lzA, lzS])
      refine wkE 6 rfl ?_
      (try simp only [lzP, lzA, lzS])
      refine wpAnyE_ready (rs := [7]) (by as_aux_lemma => kernel_rfl) (by simp) ?_
      refine AllReadyE.cons (o := _) rfl (fun K hK => ?_) AllReadyE.nil
      rw [if_pos (by as_aux_lemma => rfl)]
      (try simp only [lzA])
      go_simp
      (go_at_call 44; refine (HP.out _).mono ?_; rintro e w8 ⟨x, -, hx1, hx2, rfl, hm⟩; have J8 := hs.out.2.drew.made hm; clear hm)
      (try (go_wp2_with fail))
      refine hK.out _ _ ⟨HSt.out _ (J8.get 1 rfl), HCf.out _ (J8.all CF (by simp))⟩ (fun hS7 => ?_)
      clear hK K
      (try simp only [lzP, lzA, lzS])
      refine wpAnyE_ready (rs := [8]) (by as_aux_lemma => kernel_rfl) (by simp) ?_
      refine AllReadyE.cons (o := _) rfl (fun K hK => ?_) AllReadyE.nil
      rw [if_pos (by as_aux_lemma => rfl)]
      (try simp only [lzA])
      go_simp
      refine hK.out _ _ ⟨HSt.out _ ((J8.alloc _).get 1 rfl), HCf.out _ ((J8.alloc _).all CF (by simp))⟩ (fun hS8 => ?_)
      clear hK K
      (try simp only [lzP, lzA, lzS])
      refine wpAnyE_ready (rs := [9]) (by as_aux_lemma => kernel_rfl) (by simp) ?_
      refine AllReadyE.cons (o := _) rfl (fun K hK => ?_) AllReadyE.nil
      (refine step_appEl elem_po rfl _ _ (by rfl) (by rfl) (J8.get 2 rfl) (by rfl) rfl (by simp [Value.oneCell']) (by omega) (by omega) ?_; intro g1 cap w9 ht; have J9 := J8.turn 2 rfl ht)
      refine hK.out _ _ ⟨HSt.out _ (J9.get 1 rfl), HCf.out _ (J9.all CF (by simp))⟩ (fun hS9 => ?_)
      clear hK K
      (try simp only [lzP, lzA, lzS])
      have r9 := J9.get 1 rfl
      rw [HST.out] at r9
      have b4 : w9.cell? ⟨SB, 4, none⟩ = some (.slice a n c) := cells_at r9 4
      have z4 : w9.frozen? ⟨SB, 4, none⟩ = false := cells_fz r9 4
      have t9 : Turn (ST a n c) (ST (some ⟨g1, 0, none⟩) (n + 1) cap) w9 _ := (by rw [HST.out, HST.out]; exact cl_set r9 4 (.slice (some ⟨g1, 0, none⟩) (n + 1) cap))
      have HE := Lib.hid (hav_e (J9.turn 1 rfl t9))
      have HX := Lib.hid (And.intro hx1 hx2)
      clear J8 J9 t9 r9 ht hx1 hx2
      refine wfE 10 rfl ?_
      (try simp only [lzP, lzA, lzS])
      refine wfE 11 rfl ?_
      (try simp only [lzP, lzA, lzS])
      refine wpAnyE_ready (rs := [12]) (by as_aux_lemma => kernel_rfl) (by simp) ?_
      refine AllReadyE.last (o := _) rfl (fun K hK => ?_)
      rw [if_pos (by as_aux_lemma => rfl)]
      (try simp only [lzA])
      go_simp
      refine hK.out _ _ trivial (fun _ => ?_)
      clear hK K
      (try simp only [lzP, lzA, lzS])
      refine wpAnyE_done (by as_aux_lemma => kernel_rfl) ?_ _
      go_wp2_with (fail)
      go_roundw
      case rel =>
        refine ⟨n + 1, x :: ls, some ⟨g1, 0, none⟩, cap, by omega, by rw [List.length_cons, HLS.out], by first | rfl | simp, Lib.hid ⟨fun y hy => ?_, ?_⟩⟩
        · rcases List.mem_cons.1 hy with rfl | h1
          · exact HX.out
          · exact hs.out.1 y h1
        · rw [← poL_cons]
          exact HE.out
      case measure => simp [intOf]; omega
    · obtain rfl : n = 4 := by omega
      go_wp2_with (fail)
      go_ret2
      obtain ⟨hps, J⟩ := hs.out
      have hl := HLS.out
      obtain ⟨x3, x2, x1, x0, rfl⟩ : ∃ x3 x2 x1 x0, ls = [x3, x2, x1, x0] := by
        match ls, hl with
        | [x3, x2, x1, x0], _ => exact ⟨_, _, _, _, rfl⟩
      obtain ⟨qb, qc, hq⟩ : ∃ qb qc, Value.slice a 4 c = .slice (some ⟨qb, 0, none⟩) 4 qc := by
        rcases (J.get 1 rfl).2 with ⟨e, h0⟩ | ⟨g', cap, cur, e, _⟩
        · cases h0
        · exact ⟨_, _, e⟩
      simp only [Value.slice.injEq] at hq
      obtain ⟨rfl, -, rfl⟩ := hq
      have hg := HG.out
      subst hg
      have J2 := J.sel (L2 := stEL bk (⟨SB, β, 0, zb, zc, tb, rb, 0, qb, c, poV x1, poV x2, poV x3, cm, x0, []⟩ : SM) 0) [0, 7, 8, 6, 1, 5] (by decide) (by rw [HST.out]; rfl)
      have J3 := (J2.emp).group.made0 0 rfl
      exact ⟨⟨SB, β, 0, zb, zc, tb, rb, 0, qb, c, poV x1, poV x2, poV x3, cm, x0, []⟩, rfl, ⟨rfl, (hps x0 (by simp)).1⟩, (hps x0 (by simp)).2, J3⟩
end
end Go.Proofs.YtboehbfagnocpaaGreatDoor
namespace Go.Proofs.YtboehbfagnocpaaGreatDoor
open Go.RowKit Go.PlainAid Go.Shelf
open SP
open PM (Cd An Sd Vl upd upd_same upd_ne)
theorem mover_new {every : Int} (he : every = 5 ∨ every = 9) (w : World) : Calls Tryz.prog 32 #[.int .i64 every] w fun e w' => ∃ b, e = .returned (.pointer (some ⟨b, 0, none⟩)) ∧ Below w.heap.size w w' := by
  rcases he with rfl | rfl
  · go_enter Tryz.func32, Tryz.ntmps32
    go_wp2
    go_ret
    exact ⟨_, rfl, below_alloc' _ _⟩
  · go_enter Tryz.func32, Tryz.ntmps32
    go_wp2
    go_ret
    exact ⟨_, rfl, below_alloc' _ _⟩
theorem stats_new (w : World) : Calls Tryz.prog 33 #[] w fun e w' => ∃ sx, e = .returned (.pointer (some ⟨sx, 0, none⟩)) ∧ Made (stsR sx (fun _ => 0)) w w' := by
  go_enter Tryz.func33, Tryz.ntmps33
  go_wp2
  go_ret
  exact ⟨_, rfl, Made.cells w (lst 18 (fun _ => Value.int .u64 0)).toArray 156⟩
theorem mul64_ok {n : Int} (hn : n = 4 ∨ n = 1) (w : World) : Calls Tryz.prog 151 #[.int .u64 1, .int .u64 n] w fun e w' => e = .returned (.tuple #[.int .u64 0, .int .u64 n]) ∧ w = w' := by
  rcases hn with rfl | rfl
  · have f1 : bits .and .u64 1 4294967295 = 1 := by decide +kernel
    have f2 : bits .and .u64 4 4294967295 = 4 := by decide +kernel
    have f3 : bits .and .u64 0 4294967295 = 0 := by decide +kernel
    go_enter Tryz.func151, Tryz.ntmps151
    go_wp2
    go_ret2
    exact ⟨rfl, rfl⟩
  · have f1 : bits .and .u64 1 4294967295 = 1 := by decide +kernel
    have f3 : bits .and .u64 0 4294967295 = 0 := by decide +kernel
    go_enter Tryz.func151, Tryz.ntmps151
    go_wp2
    go_ret2
    exact ⟨rfl, rfl⟩
theorem mul_ok {n : Int} (hn : n = 4 ∨ n = 1) (w : World) : Calls Tryz.prog 84 #[.int .u64 1, .int .u64 n] w fun e w' => e = .returned (.tuple #[.int .u64 0, .int .u64 n]) ∧ w = w' := by
  have H := Lib.hid (mul64_ok hn w)
  have hn0 : IntKind.u64.wrap n = n := by rcases hn with rfl | rfl <;> decide
  clear hn
  go_enter Tryz.func84, Tryz.ntmps84
  go_wp2_with (go_at_call 151; refine H.out.mono ?_; rintro e w1 ⟨rfl, rfl⟩)
  go_ret2
  exact ⟨rfl, rfl⟩
theorem made_w4 : madeCells #[Value.pointer none] 4 = #[.pointer none, .pointer none, .pointer none, .pointer none] := by
  have h := toList_madeCells_one (Value.pointer none) 4
  apply Array.ext'
  exact h
theorem made_w1 : madeCells #[Value.pointer none] 1 = #[.pointer none] := by
  have h := toList_madeCells_one (Value.pointer none) 1
  apply Array.ext'
  exact h
theorem Tryz.infoW : (Tryz.prog.info? 140).map (fun i => (i.zero, i.size, i.bytes)) = some (some (.pointer none), 1, 8) := by kernel_rfl
theorem made_i1 : madeCells #[Value.int .i64 0] 1 = #[.int .i64 0] := by
  have h := toList_madeCells_one (Value.int .i64 0) 1
  apply Array.ext'
  exact h
theorem made_i4 : madeCells #[Value.int .i64 0] 4 = #[.int .i64 0, .int .i64 0, .int .i64 0, .int .i64 0] := by
  have h := toList_madeCells_one (Value.int .i64 0) 4
  apply Array.ext'
  exact h
theorem Tryz.infoI3 : (Tryz.prog.info? 3).map (fun i => (i.zero, i.size, i.bytes)) = some (some (.int .i64 0), 1, 8) := by kernel_rfl
theorem cp_1 {D o S q n cn cm : Nat} {u x : Int} {W : World} (ty : TypeId) (hn : 1 ≤ n) (hs : W.cell? ⟨S, q, none⟩ = some (.int .i64 x)) (hd : W.cell? ⟨D, o, none⟩ = some (.int .i64 u)) (hf : W.frozen? ⟨D, o, none⟩ = false) :
    (Builtin.copy_ #[39, 39] ty #[.slice (some ⟨D, o, none⟩) n cn, .slice (some ⟨S, q, none⟩) 1 cm]).run Tryz.prog W = .ok (.int .i64 1) (W.setCell ⟨D, o, none⟩ (.int .i64 x)) := by
  obtain ⟨i0, hi, hz0, hz1, hz2⟩ := info_parts Tryz.infoI3
  have hm : Nat.min 1 n = 0 + 1 := Nat.min_eq_left hn
  simp only [Builtin.copy_, run_underlying Tryz.underlying39, Builtin.lenOf, Builtin.firstCells, sizeOf, typeInfo, hi, hz1, hm]
  simp [Builtin.copy_, run_underlying Tryz.underlying39, Builtin.lenOf, Builtin.firstCells, sizeOf, typeInfo, hi, hz1, hm, loadCellsFrom, storeCells, hs, hd, hf, go_sem, Addr.add]
theorem cp_2 {D o S q n cn cm : Nat} {u u2 x y : Int} {W : World} (ty : TypeId) (hn : 2 ≤ n) (hs : W.cell? ⟨S, q, none⟩ = some (.int .i64 x)) (hs2 : W.cell? ⟨S, q + 1, none⟩ = some (.int .i64 y)) (hd : W.cell? ⟨D, o, none⟩ = some (.int .i64 u)) (hf : W.frozen? ⟨D, o, none⟩ = false) (hd2 : W.cell? ⟨D, o + 1, none⟩ = some (.int .i64 u2)) (hf2 : W.frozen? ⟨D, o + 1, none⟩ = false) :
    (Builtin.copy_ #[39, 39] ty #[.slice (some ⟨D, o, none⟩) n cn, .slice (some ⟨S, q, none⟩) 2 cm]).run Tryz.prog W = .ok (.int .i64 2) ((W.setCell ⟨D, o, none⟩ (.int .i64 x)).setCell ⟨D, o + 1, none⟩ (.int .i64 y)) := by
  obtain ⟨i0, hi, hz0, hz1, hz2⟩ := info_parts Tryz.infoI3
  have hm : Nat.min 2 n = 0 + 1 + 1 := Nat.min_eq_left hn
  simp only [Builtin.copy_, run_underlying Tryz.underlying39, Builtin.lenOf, Builtin.firstCells, sizeOf, typeInfo, hi, hz1, hm]
  simp [Builtin.copy_, run_underlying Tryz.underlying39, Builtin.lenOf, Builtin.firstCells, sizeOf, typeInfo, hi, hz1, hm, loadCellsFrom, storeCells, hs, hd, hf, hs2, hd2, hf2, go_sem, Addr.add]
theorem fam_emp (n : Nat) (w : World) : (fam n (fun _ => emp)).R w := by
  refine ⟨fun r hr => ?_, List.pairwise_iff_getElem.2 fun i j hi hj hij b hb => ?_⟩
  · simp [lst] at hr
    obtain ⟨_, _, rfl⟩ := hr
    exact trivial
  · simp [lst] at hb
    exact hb.elim
theorem repeat_1 {xb : Nat} {w : World} (hc : w.cell? ⟨xb, 0, none⟩ = some (.int .i64 (-1))) : Calls Tryz.prog 34 #[.slice (some ⟨xb, 0, none⟩) 1 1, .int .i64 1] w fun e w' =>
    ∃ g, e = .returned (.slice (some ⟨g, 0, none⟩) 1 1) ∧ Made (rowAt (.slice (some ⟨g, 0, none⟩) 1 1) 3 1 1 [.int .i64 (-1)]) w w' := by
  have H := Lib.hid (fun w => mul_ok (n := 1) (.inr rfl) w)
  have hmk : ∀ w : World, (Instr.makeSlice 39 (.int .i64 1) (.int .i64 1)).run Tryz.prog w = .ok (.slice (some ⟨w.heap.size, 0, none⟩) 1 1) (w.alloc (.cells #[.int .i64 0] 3)) :=
    fun w => by rw [← made_i1]; exact run_make_row' (P := Tryz.prog) 39 3 (.int .i64 0) 8 Tryz.underlying39 Tryz.infoI3 rfl .i64 .i64 1 (by decide) (by decide) w
  have hxb := cell_lt hc
  have M0 := row_new w #[.int .i64 0] 3 1 rfl (by decide)
  have hs0 : (w.alloc (.cells #[.int .i64 0] 3)).cell? ⟨xb, 0, none⟩ = some (.int .i64 (-1)) := ((below_alloc' w _).cell (p := ⟨xb, 0, none⟩) hxb).trans hc
  have hcp := cp_1 (D := w.heap.size) (o := 0) (S := xb) (q := 0) (n := 1) (cn := 1) (cm := 1) (W := w.alloc (.cells #[.int .i64 0] 3)) 3 (by decide) hs0 (row_at M0.here 0 (by decide)) (row_fz M0.here 0)
  have HE := Lib.hid (row_new w #[.int .i64 (-1)] 3 1 rfl (by decide))
  clear M0 hc hs0
  go_enter Tryz.func34, Tryz.ntmps34
  go_wp2_with (first
    | (go_at_call 84; refine (H.out _).mono ?_; rintro e w1 ⟨rfl, rfl⟩))
  obtain ⟨W1, hW1⟩ : ∃ W1, w.alloc (.cells #[.int .i64 (-1)] 3) = W1 := ⟨_, rfl⟩
  have HE2 := HE.out
  rw [hW1] at HE2 ⊢
  have HE3 := Lib.hid HE2
  clear HE HE2 hW1 hcp
  go_loopw [8] (fun n wr => n = .int .i64 1 ∧ wr = W1) (fun _ _ => 0)
  case atStart => exact ⟨rfl, rfl⟩
  case round =>
    obtain ⟨rfl, hr⟩ := hrel
    subst hr
    go_wp2_with (fail)
    go_ret
    exact ⟨w.heap.size, rfl, HE3.out⟩
theorem repeat_4 {xb : Nat} {w : World} (hc : w.cell? ⟨xb, 0, none⟩ = some (.int .i64 (-1))) : Calls Tryz.prog 34 #[.slice (some ⟨xb, 0, none⟩) 1 1, .int .i64 4] w fun e w' =>
    ∃ g, e = .returned (.slice (some ⟨g, 0, none⟩) 4 4) ∧ Made (rowAt (.slice (some ⟨g, 0, none⟩) 4 4) 3 1 4 [.int .i64 (-1), .int .i64 (-1), .int .i64 (-1), .int .i64 (-1)]) w w' := by
  have H := Lib.hid (fun w => mul_ok (n := 4) (.inl rfl) w)
  have hmk : ∀ w : World, (Instr.makeSlice 39 (.int .i64 4) (.int .i64 4)).run Tryz.prog w = .ok (.slice (some ⟨w.heap.size, 0, none⟩) 4 4) (w.alloc (.cells #[.int .i64 0, .int .i64 0, .int .i64 0, .int .i64 0] 3)) :=
    fun w => by rw [← made_i4]; exact run_make_row' (P := Tryz.prog) 39 3 (.int .i64 0) 8 Tryz.underlying39 Tryz.infoI3 rfl .i64 .i64 4 (by decide) (by decide) w
  have hxb := cell_lt hc
  have M0 := row_new w #[.int .i64 0, .int .i64 0, .int .i64 0, .int .i64 0] 3 4 rfl (by decide)
  have hs0 : (w.alloc (.cells #[.int .i64 0, .int .i64 0, .int .i64 0, .int .i64 0] 3)).cell? ⟨xb, 0, none⟩ = some (.int .i64 (-1)) := ((below_alloc' w _).cell (p := ⟨xb, 0, none⟩) hxb).trans hc
  have hcp := cp_1 (D := w.heap.size) (o := 0) (S := xb) (q := 0) (n := 4) (cn := 4) (cm := 1) (W := w.alloc (.cells #[.int .i64 0, .int .i64 0, .int .i64 0, .int .i64 0] 3)) 3 (by decide) hs0 (row_at M0.here 0 (by decide)) (row_fz M0.here 0)
  have HE := Lib.hid (row_new w #[.int .i64 (-1), .int .i64 0, .int .i64 0, .int .i64 0] 3 4 rfl (by decide))
  clear M0 hc hs0
  go_enter Tryz.func34, Tryz.ntmps34
  go_wp2_with (first
    | (go_at_call 84; refine (H.out _).mono ?_; rintro e w1 ⟨rfl, rfl⟩))
  obtain ⟨W1, hW1⟩ : ∃ W1, w.alloc (.cells #[.int .i64 (-1), .int .i64 0, .int .i64 0, .int .i64 0] 3) = W1 := ⟨_, rfl⟩
  obtain ⟨D, hD⟩ : ∃ D, w.heap.size = D := ⟨_, rfl⟩
  have HE2 := HE.out
  rw [hW1] at HE2 ⊢
  rw [hD] at HE2 ⊢
  have HE3 : Hid (Made (rowAt (.slice (some ⟨D, 0, none⟩) 4 4) 3 1 4 [.int .i64 (-1), .int .i64 0, .int .i64 0, .int .i64 0]) w W1) := Lib.hid HE2
  clear HE HE2 hW1 hcp hD
  go_loopw [8] (fun n wr => (n = .int .i64 1 ∧ Hid (Made (rowAt (.slice (some ⟨D, 0, none⟩) 4 4) 3 1 4 [.int .i64 (-1), .int .i64 0, .int .i64 0, .int .i64 0]) w wr)) ∨ (n = .int .i64 2 ∧ Hid (Made (rowAt (.slice (some ⟨D, 0, none⟩) 4 4) 3 1 4 [.int .i64 (-1), .int .i64 (-1), .int .i64 0, .int .i64 0]) w wr)) ∨ (n = .int .i64 4 ∧ Hid (Made (rowAt (.slice (some ⟨D, 0, none⟩) 4 4) 3 1 4 [.int .i64 (-1), .int .i64 (-1), .int .i64 (-1), .int .i64 (-1)]) w wr))) (fun n _ => 4 - (intOf n).toNat)
  case atStart => exact .inl ⟨rfl, HE3⟩
  case round =>
    rcases hrel with ⟨rfl, hs⟩ | ⟨rfl, hs⟩ | ⟨rfl, hs⟩
    · have h := hs.out.drew.here
      have hcp := cp_1 (D := D) (o := 1) (S := D) (q := 0) (n := 3) (cn := 3) (cm := 4) (W := wr.drew) 3 (by decide) (row_at h 0 (by decide)) (row_at h 1 (by decide)) (row_fz h 1)
      have HT := Lib.hid (hs.out.drew.turn (row_set h 1 (.int .i64 (-1))))
      clear h
      go_wp2_with (fail)
      go_upto_region 9 with fail
      refine wp_region_E (fun _ => True) 7 (by kernel_rfl) trivial (fun hHeld => ?_)
      refine wfE 0 rfl ?_
      (try simp only [lzP, lzA, lzS])
      refine wfE 1 rfl ?_
      (try simp only [lzP, lzA, lzS])
      refine wfE 2 rfl ?_
      (try simp only [lzP, lzA, lzS])
      refine wfE 3 rfl ?_
      (try simp only [lzP, lzA, lzS])
      refine wfE 4 rfl ?_
      (try simp only [lzP, lzA, lzS])
      refine wfE 5 rfl ?_
      (try simp only [lzP, lzA, lzS])
      refine wfE 6 rfl ?_
      (try simp only [lzP, lzA, lzS])
      refine wpAnyE_ready (rs := [7]) (by as_aux_lemma => kernel_rfl) (by simp) ?_
      refine AllReadyE.last (o := _) rfl (fun K hK => ?_)
      rw [if_pos (by as_aux_lemma => rfl)]
      (try simp only [lzA])
      go_simp
      refine hK.out _ _ trivial (fun _ => ?_)
      clear hK K
      (try simp only [lzP, lzA, lzS])
      refine wgE 8 rfl ?_
      (try simp only [lzP, lzA, lzS])
      refine wgE 9 rfl ?_
      (try simp only [lzP, lzA, lzS])
      refine wpAnyE_done (by as_aux_lemma => kernel_rfl) ?_ _
      go_wp2_with (fail)
      go_roundw
      case rel => exact .inr (.inl ⟨by first | rfl | simp, Lib.hid HT.out⟩)
      case measure => (simp only [intOf]; decide)
    · have h := hs.out.drew.here
      have hcp := cp_2 (D := D) (o := 2) (S := D) (q := 0) (n := 2) (cn := 2) (cm := 4) (W := wr.drew) 3 (by decide) (row_at h 0 (by decide)) (row_at h 1 (by decide)) (row_at h 2 (by decide)) (row_fz h 2) (row_at h 3 (by decide)) (row_fz h 3)
      have t1 := row_set h 2 (.int .i64 (-1))
      have HT := Lib.hid (hs.out.drew.turn (t1.trans (row_set t1.here 3 (.int .i64 (-1)))))
      clear h t1
      go_wp2_with (fail)
      go_upto_region 9 with fail
      refine wp_region_E (fun _ => True) 7 (by kernel_rfl) trivial (fun hHeld => ?_)
      refine wfE 0 rfl ?_
      (try simp only [lzP, lzA, lzS])
      refine wfE 1 rfl ?_
      (try simp only [lzP, lzA, lzS])
      refine wfE 2 rfl ?_
      (try simp only [lzP, lzA, lzS])
      refine wfE 3 rfl ?_
      (try simp only [lzP, lzA, lzS])
      refine wfE 4 rfl ?_
      (try simp only [lzP, lzA, lzS])
      refine wfE 5 rfl ?_
      (try simp only [lzP, lzA, lzS])
      refine wfE 6 rfl ?_
      (try simp only [lzP, lzA, lzS])
      refine wpAnyE_ready (rs := [7]) (by as_aux_lemma => kernel_rfl) (by simp) ?_
      refine AllReadyE.last (o := _) rfl (fun K hK => ?_)
      rw [if_pos (by as_aux_lemma => rfl)]
      (try simp only [lzA])
      go_simp
      refine hK.out _ _ trivial (fun _ => ?_)
      clear hK K
      (try simp only [lzP, lzA, lzS])
      refine wgE 8 rfl ?_
      (try simp only [lzP, lzA, lzS])
      refine wgE 9 rfl ?_
      (try simp only [lzP, lzA, lzS])
      refine wpAnyE_done (by as_aux_lemma => kernel_rfl) ?_ _
      go_wp2_with (fail)
      go_roundw
      case rel => exact .inr (.inr ⟨by first | rfl | simp, Lib.hid HT.out⟩)
      case measure => (simp only [intOf]; decide)
    · go_wp2_with (fail)
      go_ret
      exact ⟨D, rfl, hs.out⟩
end Go.Proofs.YtboehbfagnocpaaGreatDoor
