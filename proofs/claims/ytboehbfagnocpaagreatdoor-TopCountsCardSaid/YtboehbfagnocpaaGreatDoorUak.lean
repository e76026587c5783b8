/- Tpo, Tpq. -/
import Derived.Test.YtboehbfagnocpaaGreatDoorUaj
set_option linter.unusedVariables false
set_option linter.unusedSimpArgs false
set_option maxRecDepth 100000
open Go.Proofs.Tryz
open Go.Lib (hid)
namespace Go.Proofs.YtboehbfagnocpaaGreatDoor
open Go.RowKit Go.PlainAid
structure Made (r : Res) (w w' : World) : Prop where
  here : r.R w'
  bel : Below w.heap.size w w'
  lo : ∀ b, r.B b → w.heap.size ≤ b
theorem Made.turn {r r' : Res} {w w' w'' : World} (h : Made r w w') (t : Turn r r' w' w'') : Made r' w w'' :=
  ⟨t.here, t.tch.below h.bel h.bel.size (fun b hb => h.lo b hb), fun b hb => (t.nu b hb).elim (h.lo b) (Nat.le_trans h.bel.size)⟩
theorem Made.below {r : Res} {w w' w'' : World} (h : Made r w w') (hb : Below w'.heap.size w' w'') : Made r w w'' := h.turn ((Turn.rfl' h.here).below hb)
theorem Made.drew {r : Res} {w w' : World} (h : Made r w w') : Made r w w'.drew := h.turn (Turn.rfl' h.here).drew
theorem Made.and {r s : Res} {w w' w'' : World} (h : Made r w w') (k : Made s w' w'') : Made (r.and s) w w'' :=
  ⟨⟨r.keep h.here (Tch.of_below (fun _ => False) k.bel) (fun _ _ x => x), k.here, fun b hb hx => by have := r.lt h.here hb; have := k.lo b hx; omega⟩, h.bel.trans (k.bel.mono h.bel.size),
    fun b hb => hb.elim (h.lo b) (fun x => Nat.le_trans h.bel.size (k.lo b x))⟩
theorem Made.cells (w : World) (vs : Array Value) (t : TypeId) : Made (cAt w.heap.size vs t) w (w.alloc (.cells vs t)) := ⟨cells_new w vs t, bA w _, fun b hb => by have e : b = w.heap.size := hb; omega⟩
theorem row_new (w : World) (vs : Array Value) (t : TypeId) (n : Nat) (h : vs.size = n) (hm : n ≤ maxLen) : Made (rowAt (.slice (some ⟨w.heap.size, 0, none⟩) n n) t 1 n vs.toList) w (w.alloc (.cells vs t)) := by
  refine ⟨⟨by simp [h], .inr ⟨w.heap.size, n, vs, rfl, Nat.zero_le _, heap_alloc_new w _, Nat.le_refl _, hm, by simp [h], by rw [Nat.mul_one, ← h, ← Array.length_toList, List.take_length]⟩⟩, bA w _, fun b hb => ?_⟩
  have e : some w.heap.size = some b := hb
  cases e; exact Nat.le_refl _
theorem row_nil (w : World) (t : TypeId) (s : Nat) : (rowAt (.slice none 0 0) t s 0 []).R w := World.ownsRow_nil _ _ _ _
theorem Made.conv {r r' : Res} {w w' : World} (h : Made r w w') (hR : r.R w' → r'.R w') (hB : ∀ b, r'.B b → r.B b) : Made r' w w' := ⟨hR h.here, h.bel, fun b hb => h.lo b (hB b hb)⟩
theorem five_of3 {A B C D E : Res} {w : World} (h : ((E.and D).and A).R w) (hb : B.R w) (hc : C.R w) (nb : ∀ b, ¬ B.B b) (nc : ∀ b, ¬ C.B b) : (five A B C D E).R w :=
  ⟨h.2.1, ⟨hb, ⟨hc, ⟨h.1.2.1, h.1.1, fun b x y => h.1.2.2 b y x⟩, fun b x => absurd x (nc b)⟩, fun b x => absurd x (nb b)⟩,
    fun b x y => by
      rcases y with y | y | y | y
      · exact nb b y
      · exact nc b y
      · exact h.2.2 b (.inr y) x
      · exact h.2.2 b (.inl y) x⟩
def lnkI : Nat → List Int
  | 0 => []
  | n + 1 => lnkI n ++ [(-1 : Int), (n : Int), (n : Int), (n : Int)]
def rowsG (rb nb mb n j : Nat) (lv : Value) : Res :=
  five (cAt rb #[lv, .slice none 0 0, .map (some mb), .slice (some ⟨nb, 0, none⟩) n n] 267) (rowAt lv 269 4 j (ints (lnkI j))) (rowAt (.slice none 0 0) 3 1 0 []) (rwN nb n (List.replicate n 0)) (mapII mb 0 none)
theorem Tryz.info3 : (prog.info? 3).map (fun i => (i.zero, i.size, i.bytes)) = some (some (.int .i64 0), 1, 8) := by kernel_rfl
theorem made_n (z : Value) (n : Nat) : (madeCells #[z] n).toList = List.replicate n z := toList_madeCells_one z n
set_option maxHeartbeats 2000000 in
theorem rows_new (n : Nat) (h1 : 1 ≤ n) (h8 : n ≤ 8) (w : World) : Calls prog 91 #[.int .i64 n] w fun e w' =>
    ∃ rb nb mb lv, e = .returned (.pointer (some ⟨rb, 0, none⟩)) ∧ Made (rowsG rb nb mb n n lv) w w' := by
  have hmk : ∀ w : World, (Instr.makeSlice 39 (.int .i64 n) (.int .i64 n)).run prog w = .ok (.slice (some ⟨w.heap.size, 0, none⟩) n n) (w.alloc (.cells (madeCells #[.int .i64 0] n) 3)) :=
    fun w => run_make_row' (P := prog) 39 3 (.int .i64 0) 8 underlying39 Tryz.info3 rfl .i64 .i64 n (by omega) (by omega) w
  have m0 := mapII_new w
  have M0 : Made (mapII w.heap.size 0 none) w (w.alloc (.map #[] 0)) := ⟨m0, bA w _, fun b hb => by have e : b = w.heap.size := hb; omega⟩
  have hz : (madeCells #[.int .i64 0] n).size = n := by rw [← Array.length_toList, made_n]; simp
  have M1 := M0.and (row_new (w.alloc (.map #[] 0)) (madeCells #[.int .i64 0] n) 3 n hz (by unfold maxLen; omega))
  have M2 := M1.and (Made.cells _ #[.slice none 0 0, .slice none 0 0, .map (some w.heap.size), .slice (some ⟨w.heap.size + 1, 0, none⟩) n n] 267)
  simp only [World.size_alloc] at M2
  have hmm : ∀ w : World, (Instr.makeMap 264 none).run prog w = .ok (.map (some w.heap.size)) (w.alloc (.map #[] 0)) := fun w => by rfl
  have hG : Made (rowsG (w.heap.size + 2) (w.heap.size + 1) w.heap.size n 0 (.slice none 0 0)) w (((w.alloc (.map #[] 0)).alloc (.cells (madeCells #[.int .i64 0] n) 3)).alloc (.cells #[.slice none 0 0, .slice none 0 0, .map (some w.heap.size), .slice (some ⟨w.heap.size + 1, 0, none⟩) n n] 267)) := by
    refine M2.conv (fun h => five_of3 ?_ (row_nil _ _ _) (row_nil _ _ _) (fun b hb => by cases hb) (fun b hb => by cases hb)) (fun b hb => ?_)
    · rw [made_n, ← List.map_replicate (f := Value.int .i64), ← ints] at h
      exact h
    · rcases hb with hb | hb | hb | hb | hb
      · exact .inr hb
      · cases hb
      · cases hb
      · exact .inl (.inr hb)
      · exact .inl (.inl hb)
  have hi1 : (1 : Int) ≤ n := by omega
  have hi8 : (n : Int) ≤ 8 := by omega
  have HG := hid hG
  clear M0 M1 M2 m0 hG
  go_enter func91, ntmps91
  go_wp2
  generalize hW : ((w.alloc (.map #[] 0)).alloc (.cells (madeCells #[.int .i64 0] n) 3)).alloc (.cells #[.slice none 0 0, .slice none 0 0, .map (some w.heap.size), .slice (some ⟨w.heap.size + 1, 0, none⟩) n n] 267) = W at *
  obtain ⟨mb, hmb⟩ : ∃ mb, w.heap.size = mb := ⟨_, rfl⟩
  obtain ⟨nb, hnb⟩ : ∃ nb, w.heap.size + 1 = nb := ⟨_, rfl⟩
  obtain ⟨rb, hrb⟩ : ∃ rb, w.heap.size + 2 = rb := ⟨_, rfl⟩
  rw [hrb, hnb, hmb] at HG
  rw [hrb]
  clear hW hrb hnb hmb hmk hmm hz
  go_loopw [17] (fun i wr => ∃ (j : Nat) (lv : Value), j ≤ n ∧ i = .int .i64 j ∧ Made (rowsG rb nb mb n j lv) w wr) (fun i _ => n - (intOf i).toNat)
  case atStart => exact ⟨0, _, Nat.zero_le _, rfl, HG.out⟩
  case round =>
    obtain ⟨j, lv, hj, rfl, hm⟩ := hrel
    have HM := hid hm
    by_cases hlt : j < n
    · have c0 : wr.cell? ⟨rb, 0, none⟩ = some lv := cA (Five.r0 hm.here) 0
      have f0 := cZ (Five.r0 hm.here) 0
      clear hm
      go_wp2_with (first
        | (at_builtin; go_must (refine wp_appEl elem_link rfl _ _ rfl rfl (Five.r1 HM.out.here) rfl rfl (by simp [Value.oneCell']) (by omega) (by omega) ?_); intro g cap w2 ht2
           have t2 := Five.t1 HM.out.here ht2
           have t3 := t2.trans (Five.t0 t2.here (cl_set (Five.r0 t2.here) 0 (.slice (some ⟨g, 0, none⟩) (j + 1) cap)))
           have T3 := hid t3
           have g0 : w2.cell? ⟨rb, 0, none⟩ = some lv := cA (Five.r0 t2.here) 0
           have gf := cZ (Five.r0 t2.here) 0
           clear t2 t3 ht2))
      go_roundw
      case rel =>
        refine ⟨j + 1, .slice (some ⟨g, 0, none⟩) (j + 1) cap, by omega, by go_num, ?_⟩
        have h := HM.out.turn T3.out
        unfold rowsG
        rw [show ints (lnkI (j + 1)) = ints (lnkI j) ++ (#[Value.int .i64 (-1), Value.int .i64 ↑j, Value.int .i64 ↑j, Value.int .i64 ↑j]).toList by simp [ints, lnkI]]
        exact h
      case measure => simp [intOf]; omega
    · have hjn : j = n := by omega
      clear hm
      go_wp2
      go_ret
      subst hjn
      exact ⟨rb, nb, mb, _, rfl, HM.out⟩
theorem link_row {w : World} {lv : Value} {j : Nat} {xs : List Value} (h : (rowAt lv 269 4 j xs).R w) (hj : 0 < j) : ∃ lb lc, lv = .slice (some ⟨lb, 0, none⟩) j lc := by
  rcases h.2 with ⟨rfl, hx⟩ | ⟨g, cap, cur, rfl, _⟩
  · have := h.1
    simp_all
  · exact ⟨g, cap, rfl⟩
theorem rows_new1 (w : World) : Calls prog 91 #[.int .i64 1] w fun e w' =>
    ∃ rb lb lc nb mb, e = .returned (.pointer (some ⟨rb, 0, none⟩)) ∧ Made (rowsR rb lb lc nb mb 1 1 (.slice none 0 0) [-1, 0, 0, 0] [] [0] 0 none) w w' :=
  (rows_new 1 (by decide) (by decide) w).mono fun e w' ⟨rb, nb, mb, lv, he, hm⟩ => by
    obtain ⟨lb, lc, rfl⟩ := link_row (Five.r1 hm.here) (by decide)
    exact ⟨rb, lb, lc, nb, mb, he, hm⟩
theorem rows_new3 (w : World) : Calls prog 91 #[.int .i64 3] w fun e w' =>
    ∃ rb lb lc nb mb, e = .returned (.pointer (some ⟨rb, 0, none⟩)) ∧ Made (rowsR rb lb lc nb mb 3 3 (.slice none 0 0) [-1, 0, 0, 0, -1, 1, 1, 1, -1, 2, 2, 2] [] [0, 0, 0] 0 none) w w' :=
  (rows_new 3 (by decide) (by decide) w).mono fun e w' ⟨rb, nb, mb, lv, he, hm⟩ => by
    obtain ⟨lb, lc, rfl⟩ := link_row (Five.r1 hm.here) (by decide)
    exact ⟨rb, lb, lc, nb, mb, he, hm⟩
abbrev rwE1 (rb lb lc nb mb N : Nat) : Res := rowsR rb lb lc nb mb 1 1 (.slice none 0 0) [-1, 0, 0, 0] [] [0] N none
abbrev rwP1 (rb lb lc nb mb N : Nat) (fv : Value) : Res := rowsR rb lb lc nb mb 2 1 fv [-1, 0, 1, 1, 0, 0, 0, 0] [] [1] N (some 1)
abbrev rwE3 (rb lb lc nb mb N : Nat) : Res := rowsR rb lb lc nb mb 3 3 (.slice none 0 0) [-1, 0, 0, 0, -1, 1, 1, 1, -1, 2, 2, 2] [] [0, 0, 0] N none
abbrev rwP3 (rb lb lc nb mb N : Nat) : Res := rowsR rb lb lc nb mb 4 3 (.slice none 0 0) [-1, 0, 3, 3, -1, 1, 1, 1, -1, 2, 2, 2, 0, 0, 0, 0] [] [1, 0, 0] N (some 3)
def ifA (rb : Nat) : Value := .iface 171 (.agg #[.pointer (some ⟨rb, 0, none⟩)])
def ifB (sb : Nat) : Value := .iface 179 (.agg #[.pointer (some ⟨sb, 0, none⟩)])
theorem plain_ins {w : World} {rb lb lc nb mb N : Nat} (h : (rwE1 rb lb lc nb mb N).R w) (hN : N ≤ 1000000) (x : Int) :
    Calls prog 390 #[.agg #[.pointer (some ⟨rb, 0, none⟩)], .int .i64 0, .int .u64 x] w fun e w' => e = .returned (.bool true) ∧ ∃ lb' lc', Turn (rwE1 rb lb lc nb mb N) (rwP1 rb lb' lc' nb mb (N + 1) (.slice none 0 0)) w w' := by
  have ha := (Turn.rfl' h).alloc (.cells #[.pointer (some ⟨rb, 0, none⟩)] 171)
  have hc := cA (cells_new w #[.pointer (some ⟨rb, 0, none⟩)] 171) 0
  have HR := hid (row_no ha.here)
  have HF := hid (front_e1 ha.here hN)
  have HA := hid ha
  clear h ha
  go_enter func390, ntmps390
  go_wp2_with (first
    | (go_at_call 395; refine HR.out.mono ?_; rintro e w1 ⟨rfl, rfl⟩)
    | (go_at_call 396; refine HF.out.mono ?_; rintro e w1 ⟨rfl, lb', lc', ht⟩))
  go_ret
  exact ⟨rfl, _, _, HA.out.trans ht⟩
theorem plain_touch {w : World} {rb lb lc nb mb N : Nat} {fv : Value} (h : (rwP1 rb lb lc nb mb N fv).R w) (hN : N ≤ 1000000) :
    Calls prog 392 #[.agg #[.pointer (some ⟨rb, 0, none⟩)], .int .i64 0] w fun e w' => e = .returned (.bool true) ∧ ∃ fv', Turn (rwP1 rb lb lc nb mb N fv) (rwP1 rb lb lc nb mb (N + 1) fv') w w' := by
  have ha := (Turn.rfl' h).alloc (.cells #[.pointer (some ⟨rb, 0, none⟩)] 171)
  have hc := cA (cells_new w #[.pointer (some ⟨rb, 0, none⟩)] 171) 0
  have HR := hid (row_yes ha.here (by decide) (by decide) rfl)
  have HF := hid (front_p1 ha.here hN)
  have HA := hid ha
  clear h ha
  go_enter func392, ntmps392
  go_wp2_with (first
    | (go_at_call 395; refine HR.out.mono ?_; rintro e w1 ⟨rfl, rfl⟩)
    | (go_at_call 396; refine HF.out.mono ?_; rintro e w1 ⟨rfl, fv', ht⟩))
  go_ret
  exact ⟨rfl, _, HA.out.trans ht⟩
theorem plain_cap (w : World) (v : Value) (hv : v.cells.size = 1) (n : Int) : Calls prog 388 #[.agg #[v], .int .i64 n] w fun e w' => e = .returned (.tuple #[]) ∧ Below w.heap.size w w' := by
  go_enter func388, ntmps388
  go_wp2
  go_end0
  exact ⟨rfl, bA _ _⟩
theorem segm_cap (w : World) (v : Value) (hv : v.cells.size = 1) (n : Int) : Calls prog 406 #[.agg #[v], .int .i64 n] w fun e w' => e = .returned (.tuple #[]) ∧ Below w.heap.size w w' := by
  go_enter func406, ntmps406
  go_wp2
  go_end0
  exact ⟨rfl, bA _ _⟩
abbrev sg (r : Res) (sb rb ab M : Nat) : Res := (cAt sb #[.pointer (some ⟨rb, 0, none⟩), .map (some ab)] 271).and (r.and (mapIB ab M))
theorem seg_ins {w : World} {sb ab M rb lb lc nb mb N : Nat} (h : (sg (rwE3 rb lb lc nb mb N) sb rb ab M).R w) (hN : N ≤ 1000000) :
    Calls prog 400 #[.pointer (some ⟨sb, 0, none⟩), .int .i64 0] w fun e w' => e = .returned (.bool true) ∧ ∃ lb' lc', Turn (sg (rwE3 rb lb lc nb mb N) sb rb ab M) (sg (rwP3 rb lb' lc' nb mb (N + 1)) sb rb ab M) w w' := by
  have c0 : w.cell? ⟨sb, 0, none⟩ = some (.pointer (some ⟨rb, 0, none⟩)) := cA h.1 0
  have HR := hid (row_no h.2.1.1)
  have HF := hid (front_e3 h.2.1.1 hN)
  have HA := hid h
  clear h
  go_enter func400, ntmps400
  go_wp2_with (first
    | (go_at_call 395; refine HR.out.mono ?_; rintro e w1 ⟨rfl, rfl⟩)
    | (go_at_call 396; refine HF.out.mono ?_; rintro e w1 ⟨rfl, lb', lc', ht⟩))
  go_ret
  exact ⟨rfl, _, _, (ht.left HA.out.2.1).right HA.out⟩
theorem seg_touch {w : World} {sb ab M rb lb lc nb mb N : Nat} (h : (sg (rwP3 rb lb lc nb mb N) sb rb ab M).R w) (hM : M ≤ 1000000) :
    Calls prog 404 #[.pointer (some ⟨sb, 0, none⟩), .int .i64 0] w fun e w' => e = .returned (.bool true) ∧ Turn (sg (rwP3 rb lb lc nb mb N) sb rb ab M) (sg (rwP3 rb lb lc nb mb N) sb rb ab (M + 1)) w w' := by
  have c0 : w.cell? ⟨sb, 0, none⟩ = some (.pointer (some ⟨rb, 0, none⟩)) := cA h.1 0
  have c1 : w.cell? ⟨sb, 1, none⟩ = some (.map (some ab)) := cA h.1 1
  have HR := hid (row_yes h.2.1.1 (by decide) (by decide) rfl)
  have HA := hid h
  obtain ⟨w2, hmu, t2⟩ := mapIB_put h.2.1.2.1 true (by unfold maxLen; omega)
  have T2 := hid t2
  clear h t2
  go_enter func404, ntmps404
  go_wp2_with (first
    | (go_at_call 395; refine HR.out.mono ?_; rintro e w1 ⟨rfl, rfl⟩))
  go_ret
  exact ⟨rfl, (T2.out.right HA.out.2.1).right HA.out⟩
theorem segm_ins {w : World} {sb ab M rb lb lc nb mb N : Nat} (h : (sg (rwE3 rb lb lc nb mb N) sb rb ab M).R w) (hN : N ≤ 1000000) (x : Int) :
    Calls prog 408 #[.agg #[.pointer (some ⟨sb, 0, none⟩)], .int .i64 0, .int .u64 x] w fun e w' => e = .returned (.bool true) ∧ ∃ lb' lc', Turn (sg (rwE3 rb lb lc nb mb N) sb rb ab M) (sg (rwP3 rb lb' lc' nb mb (N + 1)) sb rb ab M) w w' := by
  have ha := (Turn.rfl' h).alloc (.cells #[.pointer (some ⟨sb, 0, none⟩)] 179)
  have hc := cA (cells_new w #[.pointer (some ⟨sb, 0, none⟩)] 179) 0
  have HF := hid (seg_ins ha.here hN)
  have HA := hid ha
  clear h ha
  go_enter func408, ntmps408
  go_wp2_with (first
    | (go_at_call 400; refine HF.out.mono ?_; rintro e w1 ⟨rfl, lb', lc', ht⟩))
  go_ret
  exact ⟨rfl, _, _, HA.out.trans ht⟩
theorem seg_new (w : World) : Calls prog 92 #[] w fun e w' => ∃ sb ab rb lb lc nb mb, e = .returned (.pointer (some ⟨sb, 0, none⟩)) ∧ Made (sg (rwE3 rb lb lc nb mb 0) sb rb ab 0) w w' := by
  have HR := hid (rows_new3)
  have hmm : ∀ w : World, (Instr.makeMap 101 none).run prog w = .ok (.map (some w.heap.size)) (w.alloc (.map #[] 0)) := fun w => by rfl
  go_enter func92, ntmps92
  go_wp2_with (first
    | (go_at_call 91; refine (HR.out _).mono ?_; rintro e w1 ⟨rb, lb, lc, nb, mb, rfl, h1⟩))
  go_ret
  have m1 : Made (mapIB w1.heap.size 0) w1 (w1.alloc (.map #[] 0)) := ⟨mapIB_new w1, bA w1 _, fun b hb => by have e : b = w1.heap.size := hb; omega⟩
  have h2 := (h1.and m1).and (Made.cells _ #[.pointer (some ⟨rb, 0, none⟩), .map (some w1.heap.size)] 271)
  simp only [World.size_alloc] at h2
  exact ⟨_, _, _, _, _, _, _, rfl, h2.conv (fun h => ⟨h.2.1, h.1, fun b x y => h.2.2 b y x⟩) (fun b hb => hb.elim .inr .inl)⟩
structure PS where
  (seg held : Bool)
  (pb rb lb lc nb mb sb ab N M : Nat)
  fv : Value
def PS.rows (s : PS) : Res := match s.seg, s.held with
  | false, false => rwE1 s.rb s.lb s.lc s.nb s.mb s.N
  | false, true => rwP1 s.rb s.lb s.lc s.nb s.mb s.N s.fv
  | true, false => sg (rwE3 s.rb s.lb s.lc s.nb s.mb s.N) s.sb s.rb s.ab s.M
  | true, true => sg (rwP3 s.rb s.lb s.lc s.nb s.mb s.N) s.sb s.rb s.ab s.M
def PS.v (s : PS) : Value := if s.seg then ifB s.sb else ifA s.rb
def polR (s : PS) : Res := (cAt s.pb #[s.v] 175).and s.rows
def PS.num (s : PS) : Nat := s.N + s.M
theorem pol_new (k : Bool) (w : World) : Calls prog 44 #[.int .i64 (if k then 1 else 0)] w fun e w' => ∃ s : PS, s.seg = k ∧ s.held = false ∧ s.num = 0 ∧ e = .returned (.pointer (some ⟨s.pb, 0, none⟩)) ∧ Made (polR s) w w' := by
  cases k
  · simp only [Bool.false_eq_true, if_false]
    have HR := hid (rows_new1)
    go_enter func44, ntmps44
    go_wp2_with (first
      | (go_at_call 91; refine (HR.out _).mono ?_; rintro e w1 ⟨rb, lb, lc, nb, mb, rfl, h1⟩))
    go_ret
    have h2 := h1.and (Made.cells _ #[ifA rb] 175)
    exact ⟨⟨false, false, w1.heap.size, rb, lb, lc, nb, mb, 0, 0, 0, 0, .slice none 0 0⟩, rfl, rfl, rfl, rfl, h2.conv (fun h => ⟨h.2.1, h.1, fun b x y => h.2.2 b y x⟩) (fun b hb => hb.elim .inr .inl)⟩
  · simp only [if_true]
    have HR := hid (seg_new)
    go_enter func44, ntmps44
    go_wp2_with (first
      | (go_at_call 92; refine (HR.out _).mono ?_; rintro e w1 ⟨sb, ab, rb, lb, lc, nb, mb, rfl, h1⟩))
    go_ret
    have h2 := h1.and (Made.cells _ #[ifB sb] 175)
    exact ⟨⟨true, false, w1.heap.size, rb, lb, lc, nb, mb, sb, ab, 0, 0, .slice none 0 0⟩, rfl, rfl, rfl, rfl, h2.conv (fun h => ⟨h.2.1, h.1, fun b x y => h.2.2 b y x⟩) (fun b hb => hb.elim .inr .inl)⟩
theorem pol_cap {w : World} {s : PS} (h : (polR s).R w) (n : Int) : Calls prog 237 #[.pointer (some ⟨s.pb, 0, none⟩), .int .i64 n] w fun e w' => e = .returned (.tuple #[]) ∧ Below w.heap.size w w' := by
  have c0 : w.cell? ⟨s.pb, 0, none⟩ = some s.v := cA h.1 0
  clear h
  obtain ⟨seg, held, pb, rb, lb, lc, nb, mb, sb, ab, N, M, fv⟩ := s
  dsimp only at c0 ⊢
  cases seg
  · replace c0 : w.cell? ⟨pb, 0, none⟩ = some (.iface 171 (.agg #[.pointer (some ⟨rb, 0, none⟩)])) := c0
    go_enter func237, ntmps237
    go_wp2_with (first
      | (go_at_call 388; refine (plain_cap _ _ rfl _).mono ?_; rintro e w1 ⟨rfl, hb⟩))
    go_end0
    exact ⟨rfl, hb⟩
  · replace c0 : w.cell? ⟨pb, 0, none⟩ = some (.iface 179 (.agg #[.pointer (some ⟨sb, 0, none⟩)])) := c0
    go_enter func237, ntmps237
    go_wp2_with (first
      | (go_at_call 406; refine (segm_cap _ _ rfl _).mono ?_; rintro e w1 ⟨rfl, hb⟩))
    go_end0
    exact ⟨rfl, hb⟩
theorem pol_ins {w : World} {s : PS} (h : (polR s).R w) (hh : s.held = false) (hN : s.num ≤ 1000000) (x : Int) : Calls prog 196 #[.pointer (some ⟨s.pb, 0, none⟩), .int .i64 0, .int .u64 x] w fun e w' =>
    e = .returned (.bool true) ∧ ∃ s' : PS, s'.seg = s.seg ∧ s'.held = true ∧ s'.pb = s.pb ∧ s'.num = s.num + 1 ∧ Turn (polR s) (polR s') w w' := by
  have c0 : w.cell? ⟨s.pb, 0, none⟩ = some s.v := cA h.1 0
  have H := hid h
  have h2 := h.2.1
  clear h
  obtain ⟨seg, held, pb, rb, lb, lc, nb, mb, sb, ab, N, M, fv⟩ := s
  simp only [PS.num] at hN hh
  subst hh
  dsimp only at c0 ⊢
  cases seg
  · replace c0 : w.cell? ⟨pb, 0, none⟩ = some (.iface 171 (.agg #[.pointer (some ⟨rb, 0, none⟩)])) := c0
    have HF := hid (plain_ins (lb := lb) (lc := lc) (nb := nb) (mb := mb) (N := N) h2 (by omega) x)
    clear h2
    go_enter func196, ntmps196
    go_wp2_with (first
      | (go_at_call 390; refine HF.out.mono ?_; rintro e w1 ⟨rfl, lb', lc', ht⟩))
    go_ret
    refine ⟨rfl, ⟨false, true, pb, rb, lb', lc', nb, mb, sb, ab, N + 1, M, .slice none 0 0⟩, rfl, rfl, rfl, ?_, ht.right H.out⟩
    simp only [PS.num]; omega
  · replace c0 : w.cell? ⟨pb, 0, none⟩ = some (.iface 179 (.agg #[.pointer (some ⟨sb, 0, none⟩)])) := c0
    have HF := hid (segm_ins (lb := lb) (lc := lc) (nb := nb) (mb := mb) (N := N) (M := M) (ab := ab) (rb := rb) h2 (by omega) x)
    clear h2
    go_enter func196, ntmps196
    go_wp2_with (first
      | (go_at_call 408; refine HF.out.mono ?_; rintro e w1 ⟨rfl, lb', lc', ht⟩))
    go_ret
    refine ⟨rfl, ⟨true, true, pb, rb, lb', lc', nb, mb, sb, ab, N + 1, M, .slice none 0 0⟩, rfl, rfl, rfl, ?_, ht.right H.out⟩
    simp only [PS.num]; omega
theorem pol_touch {w : World} {s : PS} (h : (polR s).R w) (hh : s.held = true) (hN : s.num ≤ 1000000) : Calls prog 123 #[.pointer (some ⟨s.pb, 0, none⟩), .int .i64 0] w fun e w' =>
    e = .returned (.bool true) ∧ ∃ s' : PS, s'.seg = s.seg ∧ s'.held = true ∧ s'.pb = s.pb ∧ s'.num = s.num + 1 ∧ Turn (polR s) (polR s') w w' := by
  have c0 : w.cell? ⟨s.pb, 0, none⟩ = some s.v := cA h.1 0
  have H := hid h
  have h2 := h.2.1
  clear h
  obtain ⟨seg, held, pb, rb, lb, lc, nb, mb, sb, ab, N, M, fv⟩ := s
  simp only [PS.num] at hN hh
  subst hh
  dsimp only at c0 ⊢
  cases seg
  · replace c0 : w.cell? ⟨pb, 0, none⟩ = some (.iface 171 (.agg #[.pointer (some ⟨rb, 0, none⟩)])) := c0
    have HF := hid (plain_touch (lb := lb) (lc := lc) (nb := nb) (mb := mb) (N := N) (fv := fv) h2 (by omega))
    clear h2
    go_enter func123, ntmps123
    go_wp2_with (first
      | (go_at_call 392; refine HF.out.mono ?_; rintro e w1 ⟨rfl, fv', ht⟩))
    go_ret
    refine ⟨rfl, ⟨false, true, pb, rb, lb, lc, nb, mb, sb, ab, N + 1, M, fv'⟩, rfl, rfl, rfl, ?_, ht.right H.out⟩
    simp only [PS.num]; omega
  · replace c0 : w.cell? ⟨pb, 0, none⟩ = some (.iface 179 (.agg #[.pointer (some ⟨sb, 0, none⟩)])) := c0
    have HF := hid (seg_touch (lb := lb) (lc := lc) (nb := nb) (mb := mb) (N := N) (M := M) (ab := ab) (rb := rb) h2 (by omega))
    clear h2
    go_enter func123, ntmps123
    go_wp2_with (first
      | (go_at_call 404; refine HF.out.mono ?_; rintro e w1 ⟨rfl, ht⟩))
    go_ret
    refine ⟨rfl, ⟨true, true, pb, rb, lb, lc, nb, mb, sb, ab, N, M + 1, fv⟩, rfl, rfl, rfl, ?_, ht.right H.out⟩
    simp only [PS.num]; omega
end Go.Proofs.YtboehbfagnocpaaGreatDoor
