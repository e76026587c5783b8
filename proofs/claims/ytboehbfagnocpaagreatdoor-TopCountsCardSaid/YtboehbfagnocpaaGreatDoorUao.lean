/- Tta, Ttb, Tiv, Tfl, Tbu, Tma, Tmb, Tcl, Tem, Tsb. -/
import Derived.Test.YtboehbfagnocpaaGreatDoorUam
set_option linter.unusedVariables false
set_option linter.unusedSimpArgs false
set_option maxRecDepth 100000
open Go.Proofs.Tryz
open Go.Lib (hid)
namespace Go.Proofs.YtboehbfagnocpaaGreatDoor
open Go.RowKit Go.PlainAid Go.Shelf
theorem Turn.fresh {r r' : Res} {w w' w'' : World} {T : Nat → Prop} (h : Turn r r' w w') (t : Tch T w' w'') (hn : ∀ b, T b → w.heap.size ≤ b ∧ ¬ r'.B b) : Turn r r' w w'' :=
  ⟨r'.keep h.here t (fun b hb hx => (hn b hx).2 hb), h.tch.trans t (fun b hb => .inr (hn b hb).1), fun b hb => h.nu b hb⟩
def setsW (b : Nat) : Nat → List Value → World → World
  | _, [], w => w
  | i, v :: l, w => setsW b (i + 1) l (w.setCell ⟨b, i, none⟩ v)
def setsV : Nat → List Value → Array Value → Array Value
  | _, [], a => a
  | i, v :: l, a => setsV (i + 1) l (a.setIfInBounds i v)
theorem cl_sets (b : Nat) (t : TypeId) : ∀ (l : List Value) (i : Nat) (vs : Array Value) (w : World), (cAt b vs t).R w → Turn (cAt b vs t) (cAt b (setsV i l vs) t) w (setsW b i l w)
  | [], _, _, _, h => Turn.rfl' h
  | v :: l, i, _, _, h => (cl_set h i v).trans (cl_sets b t l (i + 1) _ _ (cl_set h i v).here)
theorem need_ok (f : ByteArray) (w : World) : Calls prog 344 #[.bool true, .string f] w fun e w' => e = .returned (.tuple #[]) ∧ w = w' := by
  go_enter func344, ntmps344
  go_wp2
  go_end0
  exact ⟨rfl, rfl⟩
theorem count_ok {w : World} {lb n cap : Nat} {a : Option Addr} (h : w.cell? ⟨lb, 1, none⟩ = some (.slice a n cap)) (lo hi : Nat) (h1 : lo ≤ n) (h2 : n ≤ hi) :
    Calls prog 342 #[.pointer (some ⟨lb, 0, none⟩), .int .i64 lo, .int .i64 hi] w fun e w' => e = .returned (.tuple #[]) ∧ w = w' := by
  have h3 : (lo : Int) ≤ n := by omega
  have h4 : (n : Int) ≤ hi := by omega
  go_enter func342, ntmps342
  go_wp2_with (first
    | (go_at_call 344; refine (need_ok _ _).mono ?_; rintro e w1 ⟨rfl, rfl⟩))
  go_end0
  exact ⟨rfl, rfl⟩
theorem off_no {w : World} {lb wb o n cap : Nat} {last : ByteArray} (h : w.cell? ⟨lb, 1, none⟩ = some (.slice (some ⟨wb, o, none⟩) (n + 1) cap)) (hl : w.cell? ⟨wb, o + n, none⟩ = some (.string last))
    (hb : (last.toList == [110, 111, 114, 101, 112, 108, 121]) = false) (hn : n ≤ 1000000) :
    Calls prog 347 #[.pointer (some ⟨lb, 0, none⟩)] w fun e w' => e = .returned (.tuple #[]) ∧ w = w' := by
  have h3 : (0 : Int) < (n : Int) + 1 := by omega
  have h4 : IntKind.i64.wrap ((n : Int) + 1 - 1) = n := by rw [IntKind.wrap_i64]; omega
  have h5 : IntKind.i64.wrap ((n : Int)) = n := by rw [IntKind.wrap_i64]; omega
  go_enter func347, ntmps347
  go_wp2
  go_end0
  exact ⟨rfl, rfl⟩
theorem seconds_ok {s : ByteArray} {u : Int} (h : Dg s 19) (ht : Lib.trimPrefix s.data.toList [45] = s.data.toList) (hu : Lib.parseIntB 64 s.data.toList = .ok u) (h1 : -1099511627776 ≤ u) (h2 : u ≤ 1099511627776) (w : World) :
    Calls prog 348 #[.string s] w fun e w' => e = .returned (.tuple #[.int .i64 u, .bool true]) ∧ Below w.heap.size w w' := by
  have HP := hid (signed_yes h ht hu w)
  clear h ht hu
  go_enter func348, ntmps348
  go_wp2_with (first
    | (go_at_call 360; refine HP.out.mono ?_; rintro e w1 ⟨rfl, hb⟩))
  go_ret2
  exact ⟨rfl, hb⟩
theorem modes_any (w : World) : Calls prog 350 #[] w fun e w' => e = .returned (.slice (some ⟨w.heap.size, 0, none⟩) 5 5) ∧
    w' = w.alloc (.cells #[.string ⟨#[115, 101, 116]⟩, .string ⟨#[97, 100, 100]⟩, .string ⟨#[114, 101, 112, 108, 97, 99, 101]⟩, .string ⟨#[97, 112, 112, 101, 110, 100]⟩, .string ⟨#[112, 114, 101, 112, 101, 110, 100]⟩] 9) := by
  go_enter func350, ntmps350
  go_wp2
  go_ret
  exact ⟨rfl, rfl⟩
structure Cm where
  (op mode : Int)
  (key value : ByteArray)
  (flags exp cas : Int)
  hasCas : Bool
  (delta recache : Int)
def Cm.vs (c : Cm) : Array Value := #[.int .i64 c.op, .int .i64 c.mode, .string c.key, .string c.value, .int .u32 c.flags, .int .i64 c.exp, .bool false, .int .u64 c.cas, .bool c.hasCas, .int .u64 c.delta, .int .u64 0, .bool false, .bool false, .int .i64 0, .int .i64 c.recache, .bool false]
def reqV (kind : Int) (cs : Value) (quiet tokens : Bool) : Value := .agg #[.int .i64 kind, cs, .bool quiet, .bool tokens, .string ⟨#[]⟩, .string ⟨#[]⟩, .int .i64 0, .bool false, .string ⟨#[]⟩, .slice none 0 0, .string ⟨#[]⟩]
def rq0 : Array Value := #[.int .i64 0, .slice none 0 0, .bool false, .bool false, .string ⟨#[]⟩, .string ⟨#[]⟩, .int .i64 0, .bool false, .string ⟨#[]⟩, .slice none 0 0, .string ⟨#[]⟩]
def rq1 (cs : Value) (q : Bool) : List Value := [.int .i64 1, cs, .bool q, .bool false, .string ⟨#[]⟩, .string ⟨#[]⟩, .int .i64 0, .bool false, .string ⟨#[]⟩, .slice none 0 0, .string ⟨#[]⟩]
theorem rq_set (cs : Value) (q : Bool) : setsV 0 (rq1 cs q) rq0 = #[.int .i64 1, cs, .bool q, .bool false, .string ⟨#[]⟩, .string ⟨#[]⟩, .int .i64 0, .bool false, .string ⟨#[]⟩, .slice none 0 0, .string ⟨#[]⟩] := by
  simp [setsV, rq1, rq0]
theorem ret_req {fn : Func} {k : Nat} (hres : fn.results = #[.cell k 33]) {R : Ending → World → Prop} {tmps : Array Value} {W : World} {N : Nat} {v0 v1 v2 v3 v4 v5 v6 v7 v8 v9 v10 : Value}
    (h2 : tmps.getD k undef = .pointer (some ⟨N, 0, none⟩)) (hb : (cAt N #[v0, v1, v2, v3, v4, v5, v6, v7, v8, v9, v10] 33).R W)
    (hR : R (.returned (.agg #[v0, v1, v2, v3, v4, v5, v6, v7, v8, v9, v10])) W) :
    bodyPost prog fn R .ret { tmps := tmps, defers := [] } W := by
  refine bodyPost_ret (v := .agg #[v0, v1, v2, v3, v4, v5, v6, v7, v8, v9, v10]) ?_ rfl hR
  have h2' : tmps[k]?.getD undef = .pointer (some ⟨N, 0, none⟩) := by simpa using h2
  have x0 : W.cell? ⟨N, 0, none⟩ = some v0 := cA hb 0
  have x1 : W.cell? ⟨N, 1, none⟩ = some v1 := cA hb 1
  have x2 : W.cell? ⟨N, 2, none⟩ = some v2 := cA hb 2
  have x3 : W.cell? ⟨N, 3, none⟩ = some v3 := cA hb 3
  have x4 : W.cell? ⟨N, 4, none⟩ = some v4 := cA hb 4
  have x5 : W.cell? ⟨N, 5, none⟩ = some v5 := cA hb 5
  have x6 : W.cell? ⟨N, 6, none⟩ = some v6 := cA hb 6
  have x7 : W.cell? ⟨N, 7, none⟩ = some v7 := cA hb 7
  have x8 : W.cell? ⟨N, 8, none⟩ = some v8 := cA hb 8
  have x9 : W.cell? ⟨N, 9, none⟩ = some v9 := cA hb 9
  have x10 : W.cell? ⟨N, 10, none⟩ = some v10 := cA hb 10
  simp [results, hres, go_sem, h2', x0, x1, x2, x3, x4, x5, x6, x7, x8, x9, x10]
theorem ret_req2 {fn : Func} {k m : Nat} (hres : fn.results = #[.cell k 33, .tmp m]) {R : Ending → World → Prop} {tmps : Array Value} {W : World} {N : Nat} {vm v0 v1 v2 v3 v4 v5 v6 v7 v8 v9 v10 : Value}
    (h2 : tmps.getD k undef = .pointer (some ⟨N, 0, none⟩)) (hm : tmps.getD m undef = vm) (hb : (cAt N #[v0, v1, v2, v3, v4, v5, v6, v7, v8, v9, v10] 33).R W)
    (hR : R (.returned (.tuple #[.agg #[v0, v1, v2, v3, v4, v5, v6, v7, v8, v9, v10], vm])) W) :
    bodyPost prog fn R .ret { tmps := tmps, defers := [] } W := by
  refine bodyPost_ret (v := .tuple #[.agg #[v0, v1, v2, v3, v4, v5, v6, v7, v8, v9, v10], vm]) ?_ rfl hR
  have h2' : tmps[k]?.getD undef = .pointer (some ⟨N, 0, none⟩) := by simpa using h2
  have h3' : tmps[m]?.getD undef = vm := by simpa using hm
  have x0 : W.cell? ⟨N, 0, none⟩ = some v0 := cA hb 0
  have x1 : W.cell? ⟨N, 1, none⟩ = some v1 := cA hb 1
  have x2 : W.cell? ⟨N, 2, none⟩ = some v2 := cA hb 2
  have x3 : W.cell? ⟨N, 3, none⟩ = some v3 := cA hb 3
  have x4 : W.cell? ⟨N, 4, none⟩ = some v4 := cA hb 4
  have x5 : W.cell? ⟨N, 5, none⟩ = some v5 := cA hb 5
  have x6 : W.cell? ⟨N, 6, none⟩ = some v6 := cA hb 6
  have x7 : W.cell? ⟨N, 7, none⟩ = some v7 := cA hb 7
  have x8 : W.cell? ⟨N, 8, none⟩ = some v8 := cA hb 8
  have x9 : W.cell? ⟨N, 9, none⟩ = some v9 := cA hb 9
  have x10 : W.cell? ⟨N, 10, none⟩ = some v10 := cA hb 10
  simp [results, hres, go_sem, h2', h3', x0, x1, x2, x3, x4, x5, x6, x7, x8, x9, x10]
set_option maxHeartbeats 1000000 in
theorem do_one {w : World} {lb cb cap : Nat} {q : Bool} {c : Cm} (h : (rowAt (.slice (some ⟨cb, 0, none⟩) 1 cap) 56 16 1 c.vs.toList).R w) (hq : w.cell? ⟨lb, 4, none⟩ = some (.bool q)) (hne : lb ≠ cb) :
    Calls prog 345 #[.pointer (some ⟨lb, 0, none⟩), .slice (some ⟨cb, 0, none⟩) 1 cap] w fun e w' => e = .returned (reqV 1 (.slice (some ⟨cb, 0, none⟩) 1 cap) q false) ∧
      Turn (rowAt (.slice (some ⟨cb, 0, none⟩) 1 cap) 56 16 1 c.vs.toList) (rowAt (.slice (some ⟨cb, 0, none⟩) 1 cap) 56 16 1 { c with recache := -1 }.vs.toList) w w' := by
  have t0 := (Turn.rfl' h).alloc (.cells rq0 33)
  have hc : 1 ≤ cap := (own_cap h).1
  have hl : cb < w.heap.size := (rowAt (.slice (some ⟨cb, 0, none⟩) 1 cap) 56 16 1 c.vs.toList).lt h rfl
  have B0 := cells_new w rq0 33
  have t1 := t0.trans (row_set t0.here 14 (.int .i64 (-1)))
  have e1 : c.vs.toList.set 14 (.int .i64 (-1)) = { c with recache := -1 }.vs.toList := rfl
  rw [e1] at t1
  have c14 : (w.alloc (.cells rq0 33)).cell? ⟨cb, 14, none⟩ = some (.int .i64 c.recache) := row_at t0.here 14 (by simp [Cm.vs])
  have f14 := row_fz t0.here 14
  have hlq : lb < w.heap.size := by
    rcases Nat.lt_or_ge lb w.heap.size with h1 | h1
    · exact h1
    · simp [World.cell?, Array.getElem?_eq_none h1] at hq
  have hq1 : (w.alloc (.cells rq0 33)).cell? ⟨lb, 4, none⟩ = some (.bool q) := ((bA w _).cell (p := ⟨lb, 4, none⟩) hlq).trans hq
  have hq2 : ((w.alloc (.cells rq0 33)).setCell ⟨cb, 14, none⟩ (.int .i64 (-1))).cell? ⟨lb, 4, none⟩ = some (.bool q) := by
    rw [World.cell?_setCell_other _ _ _ _ (by simp)]; exact hq1
  have B1 := (cAt w.heap.size rq0 33).keep B0 (row_set t0.here 14 (.int .i64 (-1))).tch (fun b hb hx => by have e1 : b = w.heap.size := hb; have e2 : some cb = some b := hx; cases e2; omega)
  have T1 := hid t1
  obtain ⟨N, hN⟩ : ∃ N, w.heap.size = N := ⟨_, rfl⟩
  obtain ⟨W, hW⟩ : ∃ W, w.alloc (.cells rq0 33) = W := ⟨_, rfl⟩
  rw [hN] at hl hlq B1 B0
  rw [hW] at T1 c14 f14 hq1 hq2 B1 B0
  clear t0 t1 e1 h hq
  go_enter func345, ntmps345
  go_wp2
  try rw [hN]
  rw [show w.alloc (.cells #[.int .i64 0, .slice none 0 0, .bool false, .bool false, .string ⟨#[]⟩, .string ⟨#[]⟩, .int .i64 0, .bool false, .string ⟨#[]⟩, .slice none 0 0, .string ⟨#[]⟩] 33) = W from hW]
  have HN := hid hN
  clear hW hN
  go_loopw [8] (fun i wr => (i = .int .i64 0 ∧ wr = W) ∨ (i = .int .i64 1 ∧ wr = W.setCell ⟨cb, 14, none⟩ (.int .i64 (-1)))) (fun i _ => 1 - (intOf i).toNat)
  case atStart => exact .inl ⟨rfl, rfl⟩
  case round =>
    rcases hrel with ⟨rfl, hr⟩ | ⟨rfl, hr⟩
    · subst hr
      clear hq1 hq2
      go_wp2
      go_roundw
      case rel => exact .inr ⟨by first | rfl | trivial | simp, by first | rfl | trivial | simp⟩
      case measure => simp [intOf]
    · subst hr
      clear hq1 c14 f14
      obtain ⟨W1, hW1⟩ : ∃ W1, W.setCell ⟨cb, 14, none⟩ (.int .i64 (-1)) = W1 := ⟨_, rfl⟩
      rw [hW1] at hq2 B1 T1 ⊢
      clear hW1
      have k0 : W1.cell? ⟨N, 0, none⟩ = some (.int .i64 0) := cA B1 0
      have l0 := cZ B1 0
      have k1 : W1.cell? ⟨N, 1, none⟩ = some (.slice none 0 0) := cA B1 1
      have l1 := cZ B1 1
      have k2 : W1.cell? ⟨N, 2, none⟩ = some (.bool false) := cA B1 2
      have l2 := cZ B1 2
      have k3 : W1.cell? ⟨N, 3, none⟩ = some (.bool false) := cA B1 3
      have l3 := cZ B1 3
      have k4 : W1.cell? ⟨N, 4, none⟩ = some (.string ⟨#[]⟩) := cA B1 4
      have l4 := cZ B1 4
      have k5 : W1.cell? ⟨N, 5, none⟩ = some (.string ⟨#[]⟩) := cA B1 5
      have l5 := cZ B1 5
      have k6 : W1.cell? ⟨N, 6, none⟩ = some (.int .i64 0) := cA B1 6
      have l6 := cZ B1 6
      have k7 : W1.cell? ⟨N, 7, none⟩ = some (.bool false) := cA B1 7
      have l7 := cZ B1 7
      have k8 : W1.cell? ⟨N, 8, none⟩ = some (.string ⟨#[]⟩) := cA B1 8
      have l8 := cZ B1 8
      have k9 : W1.cell? ⟨N, 9, none⟩ = some (.slice none 0 0) := cA B1 9
      have l9 := cZ B1 9
      have k10 : W1.cell? ⟨N, 10, none⟩ = some (.string ⟨#[]⟩) := cA B1 10
      have l10 := cZ B1 10
      have s1 := cl_sets N 33 (rq1 (.slice (some ⟨cb, 0, none⟩) 1 cap) q) 0 _ W1 B1
      obtain ⟨W2, hW2⟩ : ∃ W2, setsW N 0 (rq1 (.slice (some ⟨cb, 0, none⟩) 1 cap) q) W1 = W2 := ⟨_, rfl⟩
      rw [hW2, rq_set] at s1
      simp only [setsW, rq1] at hW2
      have S1 := hid s1
      have HW2 := hid hW2
      clear s1 B1 hW2
      go_wp2
      rw [HW2.out]
      refine ret_req (N := N) rfl rfl S1.out.here ⟨rfl, T1.out.fresh S1.out.tch (fun b hb => ?_)⟩
      have e1 : b = N := hb
      subst e1
      have hN := HN.out
      exact ⟨by omega, fun h => by have e2 : some cb = some b := h; cases e2; omega⟩
theorem Inv.old {w0 w : World} {L : List Res} (h : Inv w0 L w) {p : Addr} (hp : p.block < w0.heap.size) : w.cell? p = w0.cell? p := h.bel.cell hp
theorem cell_lt {w : World} {b i : Nat} {v : Value} (h : w.cell? ⟨b, i, none⟩ = some v) : b < w.heap.size := by
  rcases Nat.lt_or_ge b w.heap.size with h1 | h1
  · exact h1
  · simp [World.cell?, Array.getElem?_eq_none h1] at h
theorem elem_cmd : Elem 30 56 16 136 := ⟨underlying30, ⟨.agg #[.int .i64 0, .int .i64 0, .string ⟨#[]⟩, .string ⟨#[]⟩, .int .u32 0, .int .i64 0, .bool false, .int .u64 0, .bool false, .int .u64 0, .int .u64 0, .bool false, .bool false, .int .i64 0, .int .i64 0, .bool false], by kernel_rfl, by kernel_rfl⟩, by decide⟩
def cm0 : Cm := ⟨0, 0, ⟨#[]⟩, ⟨#[]⟩, 0, 0, 0, false, 0, 0⟩
set_option maxHeartbeats 2000000 in
theorem get_one {w : World} {lb wb cap : Nat} {key : ByteArray} (h0 : w.cell? ⟨lb, 0, none⟩ = some (.string ⟨#[103, 101, 116]⟩)) (h1 : w.cell? ⟨lb, 1, none⟩ = some (.slice (some ⟨wb, 1, none⟩) 1 cap)) (h4 : w.cell? ⟨lb, 4, none⟩ = some (.bool false))
    (hk : w.cell? ⟨wb, 1, none⟩ = some (.string key)) (hkey : W2.keyB key = true) (hks : key.size ≤ 250) :
    Calls prog 318 #[.pointer (some ⟨lb, 0, none⟩)] w fun e w' => ∃ cb cc, e = .returned (reqV 1 (.slice (some ⟨cb, 0, none⟩) 1 cc) false false) ∧
      Made (rowAt (.slice (some ⟨cb, 0, none⟩) 1 cc) 56 16 1 { cm0 with op := 1, key := key, recache := -1 }.vs.toList) w w' := by
  have l1 := cell_lt h0
  have l2 := cell_lt hk
  have i1 := (Inv.start w).new (cells_new w rq0 33) (bA w _) (fun b hb => by have e : b = w.heap.size := hb; omega)
  have i3 := i1.new (cells_new _ { cm0 with op := 1 }.vs 56) (bA _ _) (fun b hb => by have e : b = (w.alloc (.cells rq0 33)).heap.size := hb; omega)
  simp only [World.size_alloc] at i3
  have HP := hid (fun w' => Tryz.strings_HasPrefix ⟨#[103, 101, 116]⟩ ⟨#[103, 97, 116]⟩ w')
  have HK := hid (fun w' => W2.key_any key w' (by unfold maxLen; omega))
  rw [hkey] at HK
  go_enter func318, ntmps318
  go_wp2_with (first
    | (go_at_call 294; refine (HP.out _).mono ?_; rintro e w1 ⟨rfl, rfl⟩)
    | (go_at_call 344; refine (need_ok _ _).mono ?_; rintro e w1 ⟨rfl, rfl⟩))
  obtain ⟨N, hN⟩ : ∃ N, w.heap.size = N := ⟨_, rfl⟩
  obtain ⟨W, hW⟩ : ∃ W, (w.alloc (.cells rq0 33)).alloc (.cells { cm0 with op := 1 }.vs 56) = W := ⟨_, rfl⟩
  rw [hW] at i3
  have hW' := hW
  simp only [rq0, Cm.vs, cm0] at hW'
  rw [hW']
  rw [hN] at i3 l1 l2 ⊢
  have I3 := hid i3
  clear hW hW' i1 i3
  go_loopw [5, 41] (fun all i wr => (i = .int .i64 0 ∧ all = .slice none 0 0 ∧ wr = W) ∨ (i = .int .i64 1 ∧ ∃ g gc, all = .slice (some ⟨g, 0, none⟩) 1 gc ∧ Hid (Inv w [rowAt (.slice (some ⟨g, 0, none⟩) 1 gc) 56 16 1 { cm0 with op := 1, key := key }.vs.toList, cAt (N + 1) { cm0 with op := 1, key := key }.vs 56, cAt N rq0 33] wr))) (fun _ i _ => 1 - (intOf i).toNat)
  case atStart => exact .inl ⟨rfl, rfl, rfl⟩
  case round =>
    rcases hrel with ⟨rfl, rfl, hr⟩ | ⟨rfl, g, gc, rfl, hI⟩
    · subst hr
      have k0 : wr.cell? ⟨N + 1, 0, none⟩ = some (.int .i64 1) := cA (I3.out.get 0 rfl) 0
      have k1 : wr.cell? ⟨N + 1, 1, none⟩ = some (.int .i64 0) := cA (I3.out.get 0 rfl) 1
      have k2 : wr.cell? ⟨N + 1, 2, none⟩ = some (.string ⟨#[]⟩) := cA (I3.out.get 0 rfl) 2
      have k3 : wr.cell? ⟨N + 1, 3, none⟩ = some (.string ⟨#[]⟩) := cA (I3.out.get 0 rfl) 3
      have k4 : wr.cell? ⟨N + 1, 4, none⟩ = some (.int .u32 0) := cA (I3.out.get 0 rfl) 4
      have k5 : wr.cell? ⟨N + 1, 5, none⟩ = some (.int .i64 0) := cA (I3.out.get 0 rfl) 5
      have k6 : wr.cell? ⟨N + 1, 6, none⟩ = some (.bool false) := cA (I3.out.get 0 rfl) 6
      have k7 : wr.cell? ⟨N + 1, 7, none⟩ = some (.int .u64 0) := cA (I3.out.get 0 rfl) 7
      have k8 : wr.cell? ⟨N + 1, 8, none⟩ = some (.bool false) := cA (I3.out.get 0 rfl) 8
      have k9 : wr.cell? ⟨N + 1, 9, none⟩ = some (.int .u64 0) := cA (I3.out.get 0 rfl) 9
      have k10 : wr.cell? ⟨N + 1, 10, none⟩ = some (.int .u64 0) := cA (I3.out.get 0 rfl) 10
      have k11 : wr.cell? ⟨N + 1, 11, none⟩ = some (.bool false) := cA (I3.out.get 0 rfl) 11
      have k12 : wr.cell? ⟨N + 1, 12, none⟩ = some (.bool false) := cA (I3.out.get 0 rfl) 12
      have k13 : wr.cell? ⟨N + 1, 13, none⟩ = some (.int .i64 0) := cA (I3.out.get 0 rfl) 13
      have k14 : wr.cell? ⟨N + 1, 14, none⟩ = some (.int .i64 0) := cA (I3.out.get 0 rfl) 14
      have k15 : wr.cell? ⟨N + 1, 15, none⟩ = some (.bool false) := cA (I3.out.get 0 rfl) 15
      have f2 := cZ (I3.out.get 0 rfl) 2
      have kk : wr.cell? ⟨wb, 1, none⟩ = some (.string key) := (I3.out.old (p := ⟨wb, 1, none⟩) (by rw [hN]; exact l2)).trans hk
      have i4 := I3.out.turn 0 rfl (cl_set (I3.out.get 0 rfl) 2 (.string key))
      have I4 := hid i4
      have hsz : (wr.setCell ⟨N + 1, 2, none⟩ (.string key)).heap.size = wr.heap.size := by simp
      clear i4
      go_wp2_with (first
        | (go_at_call 164; refine (HK.out _).mono ?_; rintro e w1 ⟨rfl, rfl⟩)
        | (go_at_call 344; refine (need_ok _ _).mono ?_; rintro e w1 ⟨rfl, rfl⟩)
        | (at_builtin; go_must (refine wp_appEl elem_cmd rfl _ _ rfl rfl (row_nil _ _ _) (by rw [hsz]; rfl) rfl (by simp [Value.oneCell']) (by omega) (by omega) ?_); intro g gc w2 ht2
           have m2 := (Made.mk (row_nil _ _ _) (Below.refl _ _) (fun b hb => by cases hb)).turn ht2
           have i5 := I4.out.new m2.here m2.bel m2.lo
           have I5 := hid i5
           clear i5 m2 ht2))
      go_roundw
      case rel => exact .inr ⟨by first | rfl | trivial | simp, g, gc, by first | rfl | trivial | simp, I5⟩
      case measure => simp [intOf]
    · have m0 : wr.cell? ⟨lb, 0, none⟩ = some (.string ⟨#[103, 101, 116]⟩) := (hI.out.old (p := ⟨lb, 0, none⟩) (by rw [hN]; exact l1)).trans h0
      have m4 : wr.cell? ⟨lb, 4, none⟩ = some (.bool false) := (hI.out.old (p := ⟨lb, 4, none⟩) (by rw [hN]; exact l1)).trans h4
      have hgN : N ≤ g := by rw [← hN]; exact hI.out.lo _ (.head _) g rfl
      have HD := hid (do_one (hI.out.get 0 rfl) m4 (by omega))
      have HS := hid (fun w' => Tryz.strings_HasSuffix ⟨#[103, 101, 116]⟩ ⟨#[115]⟩ w' (by decide))
      have hsf : Lib.hasSuffix [103, 101, 116] [115] = false := by decide
      go_wp2_with (first
        | (go_at_call 345; refine HD.out.mono ?_; rintro e w1 ⟨rfl, ht⟩
           have i5 := hI.out.turn 0 rfl ht
           have m11 : ∀ o, (w1.alloc o).cell? ⟨lb, 0, none⟩ = some (.string ⟨#[103, 101, 116]⟩) := fun o => ((i5.below (bA w1 o)).old (p := ⟨lb, 0, none⟩) (by rw [hN]; exact l1)).trans h0
           have hb1 : ∀ o, (cAt N rq0 33).R (w1.alloc o) := fun o => (i5.below (bA w1 o)).get 2 rfl
           have n0 : ∀ o, (w1.alloc o).cell? ⟨N, 0, none⟩ = some (.int .i64 0) := fun o => cA (hb1 o) 0
           have f0 : ∀ o, (w1.alloc o).frozen? ⟨N, 0, none⟩ = false := fun o => cZ (hb1 o) 0
           have n1 : ∀ o, (w1.alloc o).cell? ⟨N, 1, none⟩ = some (.slice none 0 0) := fun o => cA (hb1 o) 1
           have f1 : ∀ o, (w1.alloc o).frozen? ⟨N, 1, none⟩ = false := fun o => cZ (hb1 o) 1
           have n2 : ∀ o, (w1.alloc o).cell? ⟨N, 2, none⟩ = some (.bool false) := fun o => cA (hb1 o) 2
           have f2 : ∀ o, (w1.alloc o).frozen? ⟨N, 2, none⟩ = false := fun o => cZ (hb1 o) 2
           have n3 : ∀ o, (w1.alloc o).cell? ⟨N, 3, none⟩ = some (.bool false) := fun o => cA (hb1 o) 3
           have f3 : ∀ o, (w1.alloc o).frozen? ⟨N, 3, none⟩ = false := fun o => cZ (hb1 o) 3
           have n4 : ∀ o, (w1.alloc o).cell? ⟨N, 4, none⟩ = some (.string ⟨#[]⟩) := fun o => cA (hb1 o) 4
           have f4 : ∀ o, (w1.alloc o).frozen? ⟨N, 4, none⟩ = false := fun o => cZ (hb1 o) 4
           have n5 : ∀ o, (w1.alloc o).cell? ⟨N, 5, none⟩ = some (.string ⟨#[]⟩) := fun o => cA (hb1 o) 5
           have f5 : ∀ o, (w1.alloc o).frozen? ⟨N, 5, none⟩ = false := fun o => cZ (hb1 o) 5
           have n6 : ∀ o, (w1.alloc o).cell? ⟨N, 6, none⟩ = some (.int .i64 0) := fun o => cA (hb1 o) 6
           have f6 : ∀ o, (w1.alloc o).frozen? ⟨N, 6, none⟩ = false := fun o => cZ (hb1 o) 6
           have n7 : ∀ o, (w1.alloc o).cell? ⟨N, 7, none⟩ = some (.bool false) := fun o => cA (hb1 o) 7
           have f7 : ∀ o, (w1.alloc o).frozen? ⟨N, 7, none⟩ = false := fun o => cZ (hb1 o) 7
           have n8 : ∀ o, (w1.alloc o).cell? ⟨N, 8, none⟩ = some (.string ⟨#[]⟩) := fun o => cA (hb1 o) 8
           have f8 : ∀ o, (w1.alloc o).frozen? ⟨N, 8, none⟩ = false := fun o => cZ (hb1 o) 8
           have n9 : ∀ o, (w1.alloc o).cell? ⟨N, 9, none⟩ = some (.slice none 0 0) := fun o => cA (hb1 o) 9
           have f9 : ∀ o, (w1.alloc o).frozen? ⟨N, 9, none⟩ = false := fun o => cZ (hb1 o) 9
           have n10 : ∀ o, (w1.alloc o).cell? ⟨N, 10, none⟩ = some (.string ⟨#[]⟩) := fun o => cA (hb1 o) 10
           have f10 : ∀ o, (w1.alloc o).frozen? ⟨N, 10, none⟩ = false := fun o => cZ (hb1 o) 10
           have he : ∀ (o : Obj) (tmps : Array Value), tmps.getD 2 undef = .pointer (some ⟨N, 0, none⟩) → bodyPost prog f318 (fun e w' => ∃ cb cc, e = .returned (reqV 1 (.slice (some ⟨cb, 0, none⟩) 1 cc) false false) ∧
               Made (rowAt (.slice (some ⟨cb, 0, none⟩) 1 cc) 56 16 1 { cm0 with op := 1, key := key, recache := -1 }.vs.toList) w w') .ret { tmps := tmps, defers := [] } (setsW N 0 (rq1 (.slice (some ⟨g, 0, none⟩) 1 gc) false) (w1.alloc o)) := fun o tmps h2 => by
             have hs := cl_sets N 33 (rq1 (.slice (some ⟨g, 0, none⟩) 1 gc) false) 0 _ (w1.alloc o) (hb1 o)
             have i6 := (i5.below (bA w1 o)).turn 2 rfl hs
             rw [rq_set] at hs
             exact ret_req (N := N) rfl h2 hs.here ⟨g, gc, rfl, i6.get 0 rfl, i6.bel, i6.lo _ (.head _)⟩
           simp only [setsW, rq1] at he
           have HE := hid he
           clear hb1 i5 ht he
           simp only [reqV])
        | (go_at_call 346; refine (HS.out _).mono ?_; rintro e w2 ⟨rfl, rfl⟩))
      exact HE.out _ _ rfl
end Go.Proofs.YtboehbfagnocpaaGreatDoor
namespace Go.Proofs.YtboehbfagnocpaaGreatDoor
open Go.RowKit Go.PlainAid
structure Hav (D : Nat → Prop) (w0 : World) (L : List Res) (w : World) : Prop where
  all : ∀ r ∈ L, r.R w
  ap : L.Pairwise (fun (r s : Res) => ∀ b : Nat, r.B b → ¬ s.B b)
  lo : ∀ r ∈ L, ∀ b, r.B b → D b ∨ w0.heap.size ≤ b
  tch : Tch D w0 w
def many (L : List Res) : Res where
  R w := (∀ r ∈ L, r.R w) ∧ L.Pairwise (fun (r s : Res) => ∀ b : Nat, r.B b → ¬ s.B b)
  B b := ∃ r ∈ L, r.B b
  keep h ht hd := ⟨fun r hr => r.keep (h.1 r hr) ht (fun b hb => hd b ⟨r, hr, hb⟩), h.2⟩
  lt h hx := by
    obtain ⟨r, hr, hb⟩ := hx
    exact r.lt (h.1 r hr) hb
section
variable {D : Nat → Prop} {w0 w w' : World} {L : List Res}
theorem Hav.open (h : (many L).R w) : Hav (many L).B w L w := ⟨h.1, h.2, fun r hr b hb => .inl ⟨r, hr, hb⟩, Tch.refl _ _⟩
theorem Hav.start {r : Res} (h : r.R w) : Hav r.B w [r] w := ⟨fun s hs => by rw [List.mem_singleton.1 hs]; exact h, List.pairwise_singleton _ _, fun s hs b hb => .inl (by rw [List.mem_singleton.1 hs] at hb; exact hb), Tch.refl _ _⟩
theorem Hav.shut {r : Res} (h : Hav r.B w0 L w) : Turn r (many L) w0 w := ⟨⟨h.all, h.ap⟩, h.tch, fun b hb => by obtain ⟨s, hs, hx⟩ := hb; exact h.lo s hs b hx⟩
theorem Hav.one {r s : Res} (h : Hav r.B w0 [s] w) : Turn r s w0 w := ⟨h.all s (.head _), h.tch, fun b hb => h.lo s (.head _) b hb⟩
theorem Hav.get (h : Hav D w0 L w) (i : Nat) {r : Res} (hi : L[i]? = some r) : r.R w := h.all r (List.mem_of_getElem? hi)
theorem Hav.below (h : Hav D w0 L w) (hb : Below w.heap.size w w') : Hav D w0 L w' :=
  ⟨fun r hr => r.keep (h.all r hr) (Tch.of_below (fun _ => False) hb) (fun _ _ x => x), h.ap, h.lo, h.tch.trans (Tch.of_below (fun _ => False) hb) (fun _ x => x.elim)⟩
theorem Hav.drewN (h : Hav D w0 L w) (n : Nat) : Hav D w0 L (w.drewN n) := h.below (below_drewN' w n)
theorem Hav.drew (h : Hav D w0 L w) : Hav D w0 L w.drew := h.drewN 1
theorem Hav.alloc (h : Hav D w0 L w) (o : Obj) : Hav D w0 L (w.alloc o) := h.below (bA w o)
theorem Hav.old (h : Hav D w0 L w) {p : Addr} (hp : p.block < w0.heap.size) (hd : ¬ D p.block) : w.cell? p = w0.cell? p := by
  have := h.tch.block p.block hp hd
  simp [World.cell?, this]
theorem Hav.turn (h : Hav D w0 L w) (i : Nat) {r r' : Res} (hi : L[i]? = some r) (ht : Turn r r' w w') : Hav D w0 (L.set i r') w' := by
  have hil : i < L.length := (List.getElem?_eq_some_iff.1 hi).1
  have hri : L[i] = r := (List.getElem?_eq_some_iff.1 hi).2
  have hap := List.pairwise_iff_getElem.1 h.ap
  have hapart : ∀ j (hj : j < L.length), j ≠ i → ∀ b, r.B b → ¬ (L[j]).B b := fun j hj hne b hb hx => by
    rcases Nat.lt_or_gt_of_ne hne with h1 | h1
    · exact hap j i hj hil h1 b hx (by rw [hri]; exact hb)
    · exact hap i j hil hj h1 b (by rw [hri]; exact hb) hx
  have hnew : ∀ j (hj : j < L.length), j ≠ i → ∀ b, r'.B b → ¬ (L[j]).B b := fun j hj hne b hb hx => by
    rcases ht.nu b hb with h1 | h1
    · exact hapart j hj hne b h1 hx
    · have := (L[j]).lt (h.all _ (List.getElem_mem hj)) hx; omega
  refine ⟨fun s hs => ?_, List.pairwise_iff_getElem.2 fun a b ha hb hab => ?_, fun s hs => ?_, h.tch.trans ht.tch (fun b hb => h.lo r (List.mem_of_getElem? hi) b hb)⟩
  · obtain ⟨j, hj, rfl⟩ := List.mem_iff_getElem.1 hs
    rw [List.length_set] at hj
    by_cases e : i = j
    · subst e; rw [List.getElem_set_self]; exact ht.here
    · rw [List.getElem_set_ne e]
      exact (L[j]).keep (h.all _ (List.getElem_mem hj)) ht.tch (fun b hb hx => hapart j hj (fun e2 => e e2.symm) b hx hb)
  · rw [List.length_set] at ha hb
    intro x hx hy
    by_cases e1 : i = a
    · subst e1
      rw [List.getElem_set_self] at hx
      rw [List.getElem_set_ne (by omega)] at hy
      exact hnew b hb (by omega) x hx hy
    · rw [List.getElem_set_ne e1] at hx
      by_cases e2 : i = b
      · subst e2
        rw [List.getElem_set_self] at hy
        exact hnew a ha (by omega) x hy hx
      · rw [List.getElem_set_ne e2] at hy
        exact hap a b ha hb hab x hx hy
  · obtain ⟨j, hj, rfl⟩ := List.mem_iff_getElem.1 hs
    rw [List.length_set] at hj
    intro b hb
    by_cases e : i = j
    · subst e
      rw [List.getElem_set_self] at hb
      rcases ht.nu b hb with h1 | h1
      · exact h.lo r (List.mem_of_getElem? hi) b h1
      · exact .inr (Nat.le_trans h.tch.size h1)
    · rw [List.getElem_set_ne e] at hb
      exact h.lo _ (List.getElem_mem hj) b hb
theorem Hav.new (h : Hav D w0 L w) {r : Res} (hr : r.R w') (hb : Below w.heap.size w w') (hn : ∀ b, r.B b → w.heap.size ≤ b) : Hav D w0 (r :: L) w' := by
  have h2 := h.below hb
  refine ⟨fun s hs => ?_, List.pairwise_cons.2 ⟨fun s hs b hb1 hx => ?_, h.ap⟩, fun s hs b hb1 => ?_, h2.tch⟩
  · rcases List.mem_cons.1 hs with rfl | h1
    · exact hr
    · exact h2.all s h1
  · have := s.lt (h.all s hs) hx
    have := hn b hb1
    omega
  · rcases List.mem_cons.1 hs with rfl | h1
    · exact .inr (Nat.le_trans h.tch.size (hn b hb1))
    · exact h.lo s h1 b hb1
theorem Hav.made (h : Hav D w0 L w) {r : Res} (m : Made r w w') : Hav D w0 (r :: L) w' := h.new m.here m.bel m.lo
theorem Hav.cells (h : Hav D w0 L w) (vs : Array Value) (t : TypeId) : Hav D w0 (cAt w.heap.size vs t :: L) (w.alloc (.cells vs t)) := h.made (Made.cells w vs t)
theorem Hav.sub (h : Hav D w0 L w) {M : List Res} (hm : M.Sublist L) : Hav D w0 M w :=
  ⟨fun r hr => h.all r (hm.subset hr), h.ap.sublist hm, fun r hr => h.lo r (hm.subset hr), h.tch⟩
theorem Hav.perm (h : Hav D w0 L w) {M : List Res} (hm : M.Perm L) : Hav D w0 M w :=
  ⟨fun r hr => h.all r (hm.subset hr), (hm.pairwise_iff (fun hab b hb hx => hab b hx hb)).2 h.ap, fun r hr => h.lo r (hm.subset hr), h.tch⟩
theorem Hav.apart (h : Hav D w0 L w) {i j : Nat} {r s : Res} (hi : L[i]? = some r) (hj : L[j]? = some s) (hne : i ≠ j) (b : Nat) (hb : r.B b) : ¬ s.B b := by
  obtain ⟨h1, e1⟩ := List.getElem?_eq_some_iff.1 hi
  obtain ⟨h2, e2⟩ := List.getElem?_eq_some_iff.1 hj
  have hap := List.pairwise_iff_getElem.1 h.ap
  rcases Nat.lt_or_gt_of_ne hne with hl | hl
  · have := hap i j h1 h2 hl b
    rw [e1, e2] at this
    exact this hb
  · have := hap j i h2 h1 hl b
    rw [e1, e2] at this
    exact fun hs => this hs hb
end
abbrev az : Array Value := #[.int .i64 0, .string ⟨#[]⟩, .int .u32 0, .string ⟨#[]⟩, .int .i64 0, .int .u64 0, .int .i64 0, .bool false, .bool false, .int .u64 0, .bool false, .bool false, .bool false]
abbrev sz : Array Value := #[.slice none 0 0, .int .u64 0, .int .i64 0]
theorem fl1 {W3 : World} {Q : Nat} (hQ : W3.heap.size = Q) : ∀ w', Below ((W3.alloc (.cells sz 121)).drew).heap.size ((W3.alloc (.cells sz 121)).drew) w' → caf3 w' Q (.slice none 0 0) (.int .u64 0) (.int .i64 0) := fun w' hb => by
  subst hQ
  exact caf3' ((((Made.cells W3 sz 121).drew).below hb).here)
theorem fl2 {W3 : World} {Q : Nat} (hQ : W3.heap.size = Q) : ∀ w', Below ((W3.alloc (.cells az 52)).drew).heap.size ((W3.alloc (.cells az 52)).drew) w' → caf13 w' Q (.int .i64 0) (.string ⟨#[]⟩) (.int .u32 0) (.string ⟨#[]⟩) (.int .i64 0) (.int .u64 0) (.int .i64 0) (.bool false) (.bool false) (.int .u64 0) (.bool false) (.bool false) (.bool false) := fun w' hb => by
  subst hQ
  exact caf13' ((((Made.cells W3 az 52).drew).below hb).here)
theorem fl3 {W3 : World} {Q : Nat} (hQ : W3.heap.size = Q) : ∀ w', Below (((W3.alloc (.cells sz 121)).alloc (.cells az 52)).drew).heap.size (((W3.alloc (.cells sz 121)).alloc (.cells az 52)).drew) w' → w'.cell? ⟨Q, 0, none⟩ = some (.slice none 0 0) ∧ w'.frozen? ⟨Q, 0, none⟩ = false ∧ w'.cell? ⟨Q, 1, none⟩ = some (.int .u64 0) ∧ w'.frozen? ⟨Q, 1, none⟩ = false ∧ w'.cell? ⟨Q, 2, none⟩ = some (.int .i64 0) ∧ w'.frozen? ⟨Q, 2, none⟩ = false ∧ w'.cell? ⟨Q + 1, 0, none⟩ = some (.int .i64 0) ∧ w'.frozen? ⟨Q + 1, 0, none⟩ = false ∧ w'.cell? ⟨Q + 1, 1, none⟩ = some (.string ⟨#[]⟩) ∧ w'.frozen? ⟨Q + 1, 1, none⟩ = false ∧ w'.cell? ⟨Q + 1, 2, none⟩ = some (.int .u32 0) ∧ w'.frozen? ⟨Q + 1, 2, none⟩ = false ∧ w'.cell? ⟨Q + 1, 3, none⟩ = some (.string ⟨#[]⟩) ∧ w'.frozen? ⟨Q + 1, 3, none⟩ = false ∧ w'.cell? ⟨Q + 1, 4, none⟩ = some (.int .i64 0) ∧ w'.frozen? ⟨Q + 1, 4, none⟩ = false ∧ w'.cell? ⟨Q + 1, 5, none⟩ = some (.int .u64 0) ∧ w'.frozen? ⟨Q + 1, 5, none⟩ = false ∧ w'.cell? ⟨Q + 1, 6, none⟩ = some (.int .i64 0) ∧ w'.frozen? ⟨Q + 1, 6, none⟩ = false ∧ w'.cell? ⟨Q + 1, 7, none⟩ = some (.bool false) ∧ w'.frozen? ⟨Q + 1, 7, none⟩ = false ∧ w'.cell? ⟨Q + 1, 8, none⟩ = some (.bool false) ∧ w'.frozen? ⟨Q + 1, 8, none⟩ = false ∧ w'.cell? ⟨Q + 1, 9, none⟩ = some (.int .u64 0) ∧ w'.frozen? ⟨Q + 1, 9, none⟩ = false ∧ w'.cell? ⟨Q + 1, 10, none⟩ = some (.bool false) ∧ w'.frozen? ⟨Q + 1, 10, none⟩ = false ∧ w'.cell? ⟨Q + 1, 11, none⟩ = some (.bool false) ∧ w'.frozen? ⟨Q + 1, 11, none⟩ = false ∧ w'.cell? ⟨Q + 1, 12, none⟩ = some (.bool false) ∧ w'.frozen? ⟨Q + 1, 12, none⟩ = false := fun w' hb => by
  subst hQ
  have h1 := (((Made.cells W3 sz 121).below (bA _ (.cells az 52))).drew.below hb).here
  have h2 := ((Made.cells (W3.alloc (.cells sz 121)) az 52).drew.below hb).here
  simp only [World.size_alloc] at h2
  exact ⟨cA h1 0, cZ h1 0, cA h1 1, cZ h1 1, cA h1 2, cZ h1 2, cA h2 0, cZ h2 0, cA h2 1, cZ h2 1, cA h2 2, cZ h2 2, cA h2 3, cZ h2 3, cA h2 4, cZ h2 4, cA h2 5, cZ h2 5, cA h2 6, cZ h2 6, cA h2 7, cZ h2 7, cA h2 8, cZ h2 8, cA h2 9, cZ h2 9, cA h2 10, cZ h2 10, cA h2 11, cZ h2 11, cA h2 12, cZ h2 12⟩
theorem fl4 {W3 : World} {Q : Nat} (hQ : W3.heap.size = Q) : ∀ w', Below (((W3.alloc (.cells az 52)).alloc (.cells sz 121)).drew).heap.size (((W3.alloc (.cells az 52)).alloc (.cells sz 121)).drew) w' → w'.cell? ⟨Q, 0, none⟩ = some (.int .i64 0) ∧ w'.frozen? ⟨Q, 0, none⟩ = false ∧ w'.cell? ⟨Q, 1, none⟩ = some (.string ⟨#[]⟩) ∧ w'.frozen? ⟨Q, 1, none⟩ = false ∧ w'.cell? ⟨Q, 2, none⟩ = some (.int .u32 0) ∧ w'.frozen? ⟨Q, 2, none⟩ = false ∧ w'.cell? ⟨Q, 3, none⟩ = some (.string ⟨#[]⟩) ∧ w'.frozen? ⟨Q, 3, none⟩ = false ∧ w'.cell? ⟨Q, 4, none⟩ = some (.int .i64 0) ∧ w'.frozen? ⟨Q, 4, none⟩ = false ∧ w'.cell? ⟨Q, 5, none⟩ = some (.int .u64 0) ∧ w'.frozen? ⟨Q, 5, none⟩ = false ∧ w'.cell? ⟨Q, 6, none⟩ = some (.int .i64 0) ∧ w'.frozen? ⟨Q, 6, none⟩ = false ∧ w'.cell? ⟨Q, 7, none⟩ = some (.bool false) ∧ w'.frozen? ⟨Q, 7, none⟩ = false ∧ w'.cell? ⟨Q, 8, none⟩ = some (.bool false) ∧ w'.frozen? ⟨Q, 8, none⟩ = false ∧ w'.cell? ⟨Q, 9, none⟩ = some (.int .u64 0) ∧ w'.frozen? ⟨Q, 9, none⟩ = false ∧ w'.cell? ⟨Q, 10, none⟩ = some (.bool false) ∧ w'.frozen? ⟨Q, 10, none⟩ = false ∧ w'.cell? ⟨Q, 11, none⟩ = some (.bool false) ∧ w'.frozen? ⟨Q, 11, none⟩ = false ∧ w'.cell? ⟨Q, 12, none⟩ = some (.bool false) ∧ w'.frozen? ⟨Q, 12, none⟩ = false ∧ w'.cell? ⟨Q + 1, 0, none⟩ = some (.slice none 0 0) ∧ w'.frozen? ⟨Q + 1, 0, none⟩ = false ∧ w'.cell? ⟨Q + 1, 1, none⟩ = some (.int .u64 0) ∧ w'.frozen? ⟨Q + 1, 1, none⟩ = false ∧ w'.cell? ⟨Q + 1, 2, none⟩ = some (.int .i64 0) ∧ w'.frozen? ⟨Q + 1, 2, none⟩ = false := fun w' hb => by
  subst hQ
  have h1 := (((Made.cells W3 az 52).below (bA _ (.cells sz 121))).drew.below hb).here
  have h2 := ((Made.cells (W3.alloc (.cells az 52)) sz 121).drew.below hb).here
  simp only [World.size_alloc] at h2
  exact ⟨cA h1 0, cZ h1 0, cA h1 1, cZ h1 1, cA h1 2, cZ h1 2, cA h1 3, cZ h1 3, cA h1 4, cZ h1 4, cA h1 5, cZ h1 5, cA h1 6, cZ h1 6, cA h1 7, cZ h1 7, cA h1 8, cZ h1 8, cA h1 9, cZ h1 9, cA h1 10, cZ h1 10, cA h1 11, cZ h1 11, cA h1 12, cZ h1 12, cA h2 0, cZ h2 0, cA h2 1, cZ h2 1, cA h2 2, cZ h2 2⟩
end Go.Proofs.YtboehbfagnocpaaGreatDoor
namespace Go.Proofs.YtboehbfagnocpaaGreatDoor
open Go.Shelf Go.RowKit Go.PlainAid
theorem infoSB : (prog.info? 366).map (·.size) = some 2 := by kernel_rfl
theorem liesSB : liesAt prog prog.depth 366 (2 / prog.cellsOf 366) 0 366 1 = true := by kernel_rfl
theorem infoU8 : (prog.info? 5).map (fun i => (i.zero, i.size, i.bytes)) = some (some (.int .u8 0), 1, 1) := by kernel_rfl
set_option maxHeartbeats 1000000 in
theorem copyCheck_used (b : Nat) (w : World) (h0 : w.cell? ⟨b, 0, none⟩ = some (.pointer (some ⟨b, 0, none⟩))) :
    Calls prog 295 #[.pointer (some ⟨b, 0, none⟩)] w fun e w' => e = .returned (.tuple #[]) ∧ w' = w := by
  obtain ⟨j, hj, _⟩ := Option.map_eq_some_iff.1 infoSB
  go_enter func295, ntmps295
  go_wp2
  rw [Lib.run_neq_ptr_same w _ underlying364 hj]
  go_wp2
  go_end0
  exact ⟨rfl, rfl⟩
set_option maxHeartbeats 1000000 in
theorem copyCheck_fresh (b : Nat) (w : World) (h0 : w.cell? ⟨b, 0, none⟩ = some (.pointer none)) (hsh : w.shape? b = some (366, 2)) (hfz : w.frozen? ⟨b, 0, none⟩ = false) :
    Calls prog 295 #[.pointer (some ⟨b, 0, none⟩)] w fun e w' => e = .returned (.tuple #[]) ∧ w' = w.setCell ⟨b, 0, none⟩ (.pointer (some ⟨b, 0, none⟩)) := by
  obtain ⟨j, hj, hjs⟩ := Option.map_eq_some_iff.1 infoSB
  go_enter func295, ntmps295
  go_wp2
  rw [Lib.run_to_unsafe w ⟨b, 0, none⟩ underlying364 underlying420 hj (by rw [hjs]; decide) hsh (Nat.zero_lt_succ 1)]
  simp only [Result.andThen]
  rw [Oper.upon_value]
  go_wp2
  rw [run_callFunc_extern func323 (by kernel_rfl) (by kernel_rfl) (by kernel_rfl) (e := Extern.AbiNoEscape.same) (by kernel_rfl)]
  rw [Lib.run_noEscape]
  simp only [Result.andThen]
  rw [Oper.upon_value]
  go_wp2
  rw [Lib.run_from_unsafe w ⟨b, 0, none⟩ underlying420 underlying364 hj hsh liesSB]
  simp only [Result.andThen]
  rw [Oper.upon_value]
  go_wp2
  go_end0
  exact ⟨rfl, rfl⟩
theorem copyCheck_any (B b : Nat) (bs : List Value) (w : World) (h : Lib.IsBuilder 366 5 B b bs w) :
    Calls prog 295 #[.pointer (some ⟨b, 0, none⟩)] w fun e w' => e = .returned (.tuple #[]) ∧ (Lib.BuilderAt 366 5 B b (.pointer (some ⟨b, 0, none⟩)) bs w' ∧ Below B w w') := by
  rcases h with h | h
  · refine (copyCheck_fresh b w h.cell0 h.shape h.frozen0).mono ?_
    rintro e w' ⟨rfl, rfl⟩
    exact ⟨rfl, h.used _, (Below.refl B w).setCell (p := ⟨b, 0, none⟩) h.1 _⟩
  · refine (copyCheck_used b w h.cell0).mono ?_
    rintro e w' ⟨rfl, rfl⟩
    exact ⟨rfl, h, Below.refl B _⟩
set_option maxHeartbeats 2000000 in
theorem writeString_any (B b : Nat) (bs : List Value) (s : ByteArray) (w : World) (h : Lib.IsBuilder 366 5 B b bs w) (hlen : bs.length + s.size ≤ 1000000000) (hpos : 0 < s.size) (hBw : B ≤ w.heap.size) :
    Calls prog 261 #[.pointer (some ⟨b, 0, none⟩), .string s] w fun e w' => e = .returned (.tuple #[.int .i64 s.size, .nilIface]) ∧ (Lib.IsBuilder 366 5 B b (bs ++ Lib.strCells s) w' ∧ Below B w w') := by
  obtain ⟨i0, hi, hz0, hz1, hz2⟩ := info_parts infoU8
  go_enter func261, ntmps261
  go_wp2_with (go_at_call 295; refine (copyCheck_any B b bs _ h).mono ?_)
  rintro e w1 ⟨rfl, h1, hb1⟩
  obtain ⟨hB, v, hbk, hown, hne⟩ := h1
  have c0 : w1.cell? ⟨b, 0, none⟩ = some (.pointer (some ⟨b, 0, none⟩)) := by rw [Lib.cell_of_heap hbk]; rfl
  have c1 : w1.cell? ⟨b, 1, none⟩ = some v := by rw [Lib.cell_of_heap hbk]; rfl
  go_wp2_with (at_builtin; go_must (refine Lib.wpList_append_own_string _ rfl _ _ 118 9 rfl B 5 i0 underlying118 underlying9 hi hz0 hz1 hz2 v bs.length bs rfl hown s rfl ?c3 ?c4 ?c5 ?_))
  case c3 => unfold maxLen; omega
  case c4 => omega
  case c5 => have := hb1.size; omega
  intro v' w2 hown' hgrow _
  have hlt : b < w1.heap.size := by
    rcases Nat.lt_or_ge b w1.heap.size with h' | h'
    · exact h'
    · simp [Array.getElem?_eq_none h'] at hbk
  have hb2 : w2.heap[b]? = some (.cells #[.pointer (some ⟨b, 0, none⟩), v] 366 (0, 0)) := by
    rw [hgrow.block b hlt (fun e => hne e.symm)]
    exact hbk
  have d0 : w2.cell? ⟨b, 0, none⟩ = some (.pointer (some ⟨b, 0, none⟩)) := by rw [Lib.cell_of_heap hb2]; rfl
  have d1 : w2.cell? ⟨b, 1, none⟩ = some v := by rw [Lib.cell_of_heap hb2]; rfl
  have f1 : w2.frozen? ⟨b, 1, none⟩ = false := Lib.frozen_of_heap hb2 1
  obtain ⟨g, cap, rfl⟩ : ∃ g cap, v' = .slice (some ⟨g, 0, none⟩) (bs.length + s.size) cap := by
    rcases hown'.2 with ⟨_, h0⟩ | ⟨g, cap, cur, hv, _⟩
    · omega
    · exact ⟨g, cap, hv⟩
  go_wp2
  go_ret2
  refine ⟨rfl, .inr ?_, ?_⟩
  · exact Lib.BuilderAt.put (T := 366) (e := 5) hB hb2 (bs' := bs ++ Lib.strCells s) (by simpa [Lib.strCells_length] using hown') (by decide)
  · exact (hb1.grown hgrow (by have := hb1.size; omega) (fun k hk => (hown.lt k hk).1)).setCell (p := ⟨b, 1, none⟩) hB _
end Go.Proofs.YtboehbfagnocpaaGreatDoor
namespace Go.Proofs.YtboehbfagnocpaaGreatDoor
open Go.RowKit Go.PlainAid Go.Shelf
theorem elem_itm : Elem 119 50 8 72 := ⟨underlying119, ⟨.agg #[.string ⟨#[]⟩, .int .u32 0, .string ⟨#[]⟩, .int .i64 0, .int .u64 0, .int .i64 0, .bool false, .bool false], by kernel_rfl, by kernel_rfl⟩, by decide⟩
def itmL (k : ByteArray) (fl : Int) (v : ByteArray) (ca la : Int) : List Value := [.string k, .int .u32 fl, .string v, .int .i64 0, .int .u64 ca, .int .i64 la, .bool false, .bool false]
def itmV (k : ByteArray) (fl : Int) (v : ByteArray) (ca la : Int) : Value := .agg #[.string k, .int .u32 fl, .string v, .int .i64 0, .int .u64 ca, .int .i64 la, .bool false, .bool false]
def rowI (g cap : Nat) (k : ByteArray) (fl : Int) (v : ByteArray) (ca la : Int) : Res := rowAt (.slice (some ⟨g, 0, none⟩) 1 cap) 50 8 1 (itmL k fl v ca la)
section
variable {T E size bytes : Nat} {W : World} {v : Value} {n : Nat} {xs news : List Value}
theorem wp_appSl {ops : Array Oper} {rest : List Oper} {o : Oper} {a : Act} {Q : Exit → Act → World → Prop} (X : Elem T E size bytes) (hgd : o.guard = none) (s x : Operand) (p : Addr) (c : Nat)
    (ho : o.op = .call { callee := .builtin .append, args := #[s, x], argTypes := #[T, T] }) (hs : a.eval s = v) (hr : (rowAt v E size n xs).R W)
    (hx : a.eval x = .slice (some p) 1 c) (hl : news.length = size) (hnews : ∀ j u, news[j]? = some u → W.cell? (p.add j) = some u) (h1 : ∀ u ∈ news, u.oneCell' = true) (hn : n + 1 ≤ 100000000) (hb : bytes ≤ 100000)
    (h : ∀ g cap w', Turn (rowAt v E size n xs) (rowAt (.slice (some ⟨g, 0, none⟩) (n + 1) cap) E size (n + 1) (xs ++ news)) W w' → wpList prog ops Q rest (a.put o.dst (.slice (some ⟨g, 0, none⟩) (n + 1) cap)) w') :
    wpList prog ops Q (o :: rest) a W := by
  obtain ⟨z, hi, hzs⟩ := X.hi
  obtain ⟨i0, hi0, hz0, hz1, hz2⟩ := info_parts hi
  refine wpList_append_lies W hgd s x T ho 0 E i0 z size bytes X.ht hi0 hz0 hz1 hz2 hzs X.pos v n xs hs hr p 1 c news hx (by omega) hnews h1 (by omega) (by unfold maxLen; omega) ?_ (Nat.zero_le _) W.heap.size rfl ?_
  · have : (n + 1) * bytes ≤ 100000000 * 100000 := Nat.mul_le_mul hn hb
    omega
  · intro g cap w' ho' hg hnw hlt
    refine h g cap w' ⟨ho', Tch.of_grown hg, fun b hb => ?_⟩
    have hb : some g = some b := hb
    cases hb
    rcases hnw with h2 | h2
    · exact .inl h2
    · exact .inr (by omega)
end
theorem row_empty (w : World) (E size : Nat) : Made (rowAt (.slice (some ⟨w.heap.size, 0, none⟩) 0 0) E size 0 []) w (w.alloc (.cells #[] E)) :=
  ⟨⟨by simp, .inr ⟨w.heap.size, 0, #[], rfl, Nat.zero_le _, heap_alloc_new w _, Nat.le_refl _, by decide, by simp, by simp⟩⟩, bA w _, fun b hb => by have e : some w.heap.size = some b := hb; cases e; exact Nat.le_refl _⟩
theorem cloneI_0 (w : World) : Calls prog 101 #[.slice none 0 0] w fun e w' => e = .returned (.slice none 0 0) ∧ w = w' := by
  have qT : ∀ (w : World) (a : Option Addr) (n c n' c' : Nat), (binOp .eql 119 (.slice a n c) (.slice none n' c')).run prog w = .ok (.bool (a.isNone)) w := fun w a n c n' c' => Lib.run_eql_slice_nil w _ _ a n c n' c' underlying119
  go_enter func101, ntmps101
  go_wp2
  go_ret
  exact ⟨rfl, rfl⟩
theorem cloneI_1 {w : World} {xb c : Nat} {k v : ByteArray} {fl ca la : Int} (hc : ∀ j u, (itmL k fl v ca la)[j]? = some u → w.cell? ⟨xb, j, none⟩ = some u) :
    Calls prog 101 #[.slice (some ⟨xb, 0, none⟩) 1 c] w fun e w' => ∃ g cap, e = .returned (.slice (some ⟨g, 0, none⟩) 1 cap) ∧ Made (rowI g cap k fl v ca la) w w' := by
  have qT : ∀ (w : World) (a : Option Addr) (n c n' c' : Nat), (binOp .eql 119 (.slice a n c) (.slice none n' c')).run prog w = .ok (.bool (a.isNone)) w := fun w a n c n' c' => Lib.run_eql_slice_nil w _ _ a n c n' c' underlying119
  have hxb : xb < w.heap.size := cell_lt (hc 0 _ rfl)
  have M0 := row_empty w 50 8
  have hc' : ∀ j u, (itmL k fl v ca la)[j]? = some u → (w.alloc (.cells #[] 50)).cell? ((⟨xb, 0, none⟩ : Addr).add j) = some u := fun j u hj => by
    have h := ((bA w (.cells #[] 50)).cell (p := ⟨xb, j, none⟩) hxb).trans (hc j u hj)
    cases j <;> simpa [Addr.add] using h
  have HC := hid hc'
  clear hc hc'
  go_enter func101, ntmps101
  go_wp2_with (at_builtin; go_must (refine wp_appSl elem_itm rfl _ _ ⟨xb, 0, none⟩ c rfl rfl M0.here rfl (by rfl) HC.out (by simp [itmL, Value.oneCell']) (by omega) (by omega) ?_))
  intro g cap w2 ht
  go_wp2
  go_ret
  exact ⟨g, cap, rfl, M0.turn ht⟩
theorem idxI_0 (w : World) (fv : Value) : Calls prog 165 #[.slice none 0 0, fv] w fun e w' => e = .returned (.int .i64 (-1)) ∧ w = w' := by
  go_enter func165, ntmps165
  go_wp2
  go_loop [8] (fun i => i = .int .i64 0) (fun _ => 0)
  case atStart => rfl
  case round =>
    subst hrel
    go_wp2
    go_ret
    exact ⟨rfl, rfl⟩
theorem idxI_1 {w : World} {g cap nb : Nat} {k v : ByteArray} {fl ca la : Int} (hr : (rowI g cap k fl v ca la).R w) (hnb : w.cell? ⟨nb, 0, none⟩ = some (.int .i64 1)) :
    Calls prog 165 #[.slice (some ⟨g, 0, none⟩) 1 cap, .func (.func 102) #[] #[.pointer (some ⟨nb, 0, none⟩)]] w fun e w' => e = .returned (.int .i64 (-1)) ∧ Below w.heap.size w w' := by
  obtain ⟨k0, k1, k2, k3, k4, k5, k6, k7⟩ : ra8 w g (.string k) (.int .u32 fl) (.string v) (.int .i64 0) (.int .u64 ca) (.int .i64 la) (.bool false) (.bool false) := ra8' (hr)
  have hnl := cell_lt hnb
  have hnb' := ((bA w (.cells #[.string k, .int .u32 fl, .string v, .int .i64 0, .int .u64 ca, .int .i64 la, .bool false, .bool false] 50)).cell (p := ⟨nb, 0, none⟩) hnl).trans hnb
  clear hr
  go_enter func165, ntmps165
  go_wp2
  go_loopw [8] (fun i wr => (i = .int .i64 0 ∧ wr = w) ∨ (i = .int .i64 1 ∧ Hid (Below w.heap.size w wr))) (fun i _ => 1 - (intOf i).toNat)
  case atStart => exact .inl ⟨rfl, rfl⟩
  case round =>
    rcases hrel with ⟨rfl, hr⟩ | ⟨rfl, hb⟩
    · subst hr
      go_wp2
      go_roundw
      case rel => exact .inr ⟨by first | rfl | trivial | simp, hid (bA _ _)⟩
      case measure => simp [intOf]
    · go_wp2
      go_ret
      exact ⟨rfl, hb.out⟩
theorem delI_0 (w : World) (fv : Value) : Calls prog 100 #[.slice none 0 0, fv] w fun e w' => e = .returned (.slice none 0 0) ∧ w = w' := by
  have H := hid (idxI_0 w fv)
  go_enter func100, ntmps100
  go_wp2_with (go_at_call 165; refine H.out.mono ?_; rintro e w1 ⟨rfl, rfl⟩)
  go_ret
  exact ⟨rfl, rfl⟩
theorem delI_1 {w : World} {g cap nb : Nat} {k v : ByteArray} {fl ca la : Int} (hr : (rowI g cap k fl v ca la).R w) (hnb : w.cell? ⟨nb, 0, none⟩ = some (.int .i64 1)) :
    Calls prog 100 #[.slice (some ⟨g, 0, none⟩) 1 cap, .func (.func 102) #[] #[.pointer (some ⟨nb, 0, none⟩)]] w fun e w' => e = .returned (.slice (some ⟨g, 0, none⟩) 1 cap) ∧ Below w.heap.size w w' := by
  have H := hid (idxI_1 hr hnb)
  clear hr hnb
  go_enter func100, ntmps100
  go_wp2_with (go_at_call 165; refine H.out.mono ?_; rintro e w1 ⟨rfl, hb⟩)
  go_ret
  exact ⟨rfl, hb⟩
theorem near_idx {w : World} {g : Nat} (h0 : w.cell? ⟨g, 0, none⟩ = some (.int .i64 0)) (h1 : w.cell? ⟨g, 1, none⟩ = some (.int .i64 0)) (h2 : w.cell? ⟨g, 2, none⟩ = some (.int .i64 (-1))) :
    Calls prog 268 #[.slice (some ⟨g, 0, none⟩) 3 3, .func (.func 223) #[] #[]] w fun e w' => e = .returned (.int .i64 (-1)) ∧ w = w' := by
  go_enter func268, ntmps268
  go_wp2
  go_loop [8] (fun i => i = .int .i64 0 ∨ i = .int .i64 1 ∨ i = .int .i64 2 ∨ i = .int .i64 3) (fun i => 3 - (intOf i).toNat)
  case atStart => exact .inl rfl
  case round =>
    rcases hrel with rfl | rfl | rfl | rfl
    · go_wp2
      go_round
      case rel => exact .inr (.inl rfl)
      case measure => simp [intOf]
    · go_wp2
      go_round
      case rel => exact .inr (.inr (.inl rfl))
      case measure => simp [intOf]
    · go_wp2
      go_round
      case rel => exact .inr (.inr (.inr rfl))
      case measure => simp [intOf]
    · go_wp2
      go_ret
      exact ⟨rfl, rfl⟩
theorem near_con {w : World} {g : Nat} (h0 : w.cell? ⟨g, 0, none⟩ = some (.int .i64 0)) (h1 : w.cell? ⟨g, 1, none⟩ = some (.int .i64 0)) (h2 : w.cell? ⟨g, 2, none⟩ = some (.int .i64 (-1))) :
    Calls prog 222 #[.slice (some ⟨g, 0, none⟩) 3 3, .func (.func 223) #[] #[]] w fun e w' => e = .returned (.bool false) ∧ w = w' := by
  have H := hid (near_idx h0 h1 h2)
  clear h0 h1 h2
  go_enter func222, ntmps222
  go_wp2_with (go_at_call 268; refine H.out.mono ?_; rintro e w1 ⟨rfl, rfl⟩)
  go_ret
  exact ⟨rfl, rfl⟩
theorem near_ok {w : World} {g : Nat} (h0 : w.cell? ⟨g, 0, none⟩ = some (.int .i64 0)) (h1 : w.cell? ⟨g, 1, none⟩ = some (.int .i64 0)) (h2 : w.cell? ⟨g, 2, none⟩ = some (.int .i64 (-1))) :
    Calls prog 163 #[.slice (some ⟨g, 0, none⟩) 3 3] w fun e w' => e = .returned (.bool true) ∧ w = w' := by
  have H := hid (near_con h0 h1 h2)
  clear h0 h1 h2
  go_enter func163, ntmps163
  go_wp2_with (go_at_call 222; refine H.out.mono ?_; rintro e w1 ⟨rfl, rfl⟩)
  go_ret
  exact ⟨rfl, rfl⟩
structure CmOk (c : Cm) : Prop where
  op : c.op = 1 ∨ c.op = 2 ∨ c.op = 3
  mode : c.mode = 0
  exp : c.exp = 0
  rec' : c.recache = -1
  key : W2.keyB c.key = true
  ks : c.key.size = 1
  vs : c.value.size ≤ 1000
theorem may_ok {c : Cm} (hc : CmOk c) (w : World) : Calls prog 99 #[.agg c.vs] w fun e w' => e = .returned (.bool true) ∧ Below w.heap.size w w' := by
  obtain ⟨op, mode, key, value, flags, exp, cas, hasCas, delta, recache⟩ := c
  obtain ⟨h1, rfl, rfl, rfl, h5, h6, h7⟩ := hc
  have HK := hid (fun w' => W2.key_any key w' (by dsimp only at h6; unfold maxLen; omega))
  dsimp only at h1 h5 h6 h7
  rw [h5] at HK
  have h8 : (value.size : Int) ≤ 65536 := by omega
  have HN := hid (fun (W : World) (g : Nat) (a0 : W.cell? ⟨g, 0, none⟩ = some (.int .i64 0)) (a1 : W.cell? ⟨g, 1, none⟩ = some (.int .i64 0)) (a2 : W.cell? ⟨g, 2, none⟩ = some (.int .i64 (-1))) => near_ok a0 a1 a2)
  clear h5 h6 h7
  unfold Cm.vs
  rcases h1 with rfl | rfl | rfl <;>
    (go_enter func99, ntmps99
     go_wp2_with (first
       | (go_at_call 163; refine (HN.out _ _ (by simp [go_sem]) (by simp [go_sem]) (by simp [go_sem])).mono ?_; rintro e w1 ⟨rfl, rfl⟩)
       | (go_at_call 164; refine (HK.out _).mono ?_; rintro e w1 ⟨rfl, rfl⟩))
     go_ret
     exact ⟨rfl, ((Below.refl _ _).alloc (Nat.le_refl _) _).alloc (by simp) _⟩)
def wdC (iv : Value) (cas : Int) (c : Cm) (is : Bool) : Array Value := #[iv, .int .u64 cas, .int .i64 0, .int .i64 1, .int .i64 c.op, .int .i64 c.mode, .string c.key, .string c.value, .int .u32 c.flags, .int .i64 c.exp, .bool false, .int .u64 c.cas, .bool c.hasCas, .int .u64 c.delta, .int .u64 0, .bool false, .bool false, .int .i64 0, .int .i64 c.recache, .bool false, .int .i64 472, .int .i64 0, .bool is]
def wdR (N : Nat) (iv : Value) (cas : Int) (c : Cm) (is : Bool) : Res := cAt N (wdC iv cas c is) 200
theorem item_at {w : World} {N g cap : Nat} {cas : Int} {c : Cm} {is : Bool} (h : (wdR N (.slice (some ⟨g, 0, none⟩) 1 cap) cas c is).R w) :
    Calls prog 109 #[.pointer (some ⟨N, 0, none⟩)] w fun e w' => e = .returned (.pointer (some ⟨g, 0, none⟩)) ∧ ∃ m, w' = w.drewN m := by
  have k0 : w.cell? ⟨N, 0, none⟩ = some (.slice (some ⟨g, 0, none⟩) 1 cap) := cA h 0
  have k1 : w.cell? ⟨N, 21, none⟩ = some (.int .i64 0) := cA h 21
  clear h
  go_enter func109, ntmps109
  go_wp2_with (fail)
  go_quiet (fail)
  go_wp2
  go_ret
  exact ⟨rfl, _, rfl⟩
theorem moment_0 (N : Nat) (w : World) : Calls prog 108 #[.pointer (some ⟨N, 0, none⟩), .int .i64 0] w fun e w' => e = .returned (.int .i64 0) ∧ w = w' := by
  go_enter func108, ntmps108
  go_wp2
  go_ret
  exact ⟨rfl, rfl⟩
def ansT (st : Int) : Array Value := #[.int .i64 st, .string ⟨#[]⟩, .int .u32 0, .string ⟨#[]⟩, .int .i64 0, .int .u64 0, .int .i64 0, .bool false, .bool false, .int .u64 0, .bool false, .bool false, .bool false]
theorem ret_ans {fn : Func} {k : Nat} (hres : fn.results = #[.cell k 52]) {R : Ending → World → Prop} {tmps : Array Value} {W : World} {N : Nat} {v0 v1 v2 v3 v4 v5 v6 v7 v8 v9 v10 v11 v12 : Value}
    (h2 : tmps.getD k undef = .pointer (some ⟨N, 0, none⟩)) (hb : (cAt N #[v0, v1, v2, v3, v4, v5, v6, v7, v8, v9, v10, v11, v12] 52).R W)
    (hR : R (.returned (.agg #[v0, v1, v2, v3, v4, v5, v6, v7, v8, v9, v10, v11, v12])) W) :
    bodyPost prog fn R .ret { tmps := tmps, defers := [] } W := by
  refine bodyPost_ret (v := .agg #[v0, v1, v2, v3, v4, v5, v6, v7, v8, v9, v10, v11, v12]) ?_ rfl hR
  have h2' : tmps[k]?.getD undef = .pointer (some ⟨N, 0, none⟩) := by simpa using h2
  obtain ⟨x0, x1, x2, x3, x4, x5, x6, x7, x8, x9, x10, x11, x12⟩ : ca13 W N v0 v1 v2 v3 v4 v5 v6 v7 v8 v9 v10 v11 v12 := ca13' (hb)
  simp [results, hres, go_sem, h2', x0, x1, x2, x3, x4, x5, x6, x7, x8, x9, x10, x11, x12]
theorem told_ok (st : Int) (w : World) : Calls prog 107 #[.int .i64 st] w fun e w' => e = .returned (.agg (ansT st)) ∧ Below w.heap.size w w' := by
  have h0 := cells_new w (ansT st) 52
  have hb := bA w (.cells (ansT st) 52)
  go_enter func107, ntmps107
  go_wp2
  exact ret_ans (N := w.heap.size) rfl rfl h0 ⟨rfl, hb⟩
theorem bsf_0 (key : ByteArray) (fv : Value) (w : World) : Calls prog 166 #[.slice none 0 0, .string key, fv] w fun e w' => e = .returned (.tuple #[.int .i64 0, .bool false]) ∧ w' = w := by
  go_enter func166, ntmps166
  go_wp2
  go_loop [9, 10] (fun a b => a = .int .i64 0 ∧ b = .int .i64 0) (fun _ _ => 0)
  case atStart => exact ⟨rfl, rfl⟩
  case round =>
    obtain ⟨rfl, rfl⟩ := hrel
    go_wp2
    go_ret2
    exact ⟨rfl, rfl⟩
theorem cmpB_self : ∀ l : List UInt8, Lib.compareBytes l l = 0 := by
  intro l
  induction l with
  | nil => rfl
  | cons a l ih => simp [Lib.compareBytes, ih]
theorem cmp_one (k v key : ByteArray) (fl ca la : Int) (w : World) (hk : k = key) : Calls prog 167 #[itmV k fl v ca la, .string key] w fun e w' => e = .returned (.int .i64 0) ∧ Below w.heap.size w w' := by
  subst hk
  have hcmp : Lib.compareBytes k.data.toList k.data.toList = 0 := cmpB_self _
  have HC := hid (fun w' => Tryz.strings_Compare k k w')
  rw [hcmp] at HC
  unfold itmV
  go_enter func167, ntmps167
  go_wp2_with (go_at_call 168; refine (HC.out _).mono ?_; rintro e w1 ⟨rfl, rfl⟩)
  go_ret
  exact ⟨rfl, bA _ _⟩
theorem bsf_1 {w : World} {g cap : Nat} {k v : ByteArray} {fl ca la : Int} (hr : (rowI g cap k fl v ca la).R w) :
    Calls prog 166 #[.slice (some ⟨g, 0, none⟩) 1 cap, .string k, .func (.func 167) #[] #[]] w fun e w' => e = .returned (.tuple #[.int .i64 0, .bool true]) ∧ Below w.heap.size w w' := by
  have HR := hid (fun w' (hb : Below w.heap.size w w') => (rowI g cap k fl v ca la).keep hr (Tch.of_below (fun _ => False) hb) (fun _ _ x => x))
  obtain ⟨k0, k1, k2, k3, k4, k5, k6, k7⟩ : ra8 w g (.string k) (.int .u32 fl) (.string v) (.int .i64 0) (.int .u64 ca) (.int .i64 la) (.bool false) (.bool false) := ra8' (hr)
  have HC := hid (fun w' => cmp_one k v k fl ca la w' rfl)
  unfold itmV at HC
  clear hr
  go_enter func166, ntmps166
  go_wp2
  go_loopw [9, 10] (fun a b wr => a = .int .i64 0 ∧ ((b = .int .i64 1 ∧ wr = w) ∨ (b = .int .i64 0 ∧ Hid (Below w.heap.size w wr)))) (fun _ b _ => (intOf b).toNat)
  case atStart => exact ⟨rfl, .inl ⟨rfl, rfl⟩⟩
  case round =>
    obtain ⟨rfl, ⟨rfl, hr⟩ | ⟨rfl, hb⟩⟩ := hrel
    · subst hr
      go_wp2_with (go_at_call 167; refine (HC.out _).mono ?_; rintro e w1 ⟨rfl, hb1⟩; have HB1 := hid hb1; clear hb1)
      go_roundw
      case rel => exact ⟨rfl, .inr ⟨by first | rfl | trivial | simp, HB1⟩⟩
      case measure => simp [intOf]
    · have hr2 := HR.out _ hb.out
      clear k0 k1 k2 k3 k4 k5 k6 k7
      obtain ⟨q0, q1, q2, q3, q4, q5, q6, q7⟩ : ra8 wr g (.string k) (.int .u32 fl) (.string v) (.int .i64 0) (.int .u64 ca) (.int .i64 la) (.bool false) (.bool false) := ra8' (hr2)
      clear hr2
      go_wp2_with (go_at_call 167; refine (HC.out _).mono ?_; rintro e w1 ⟨rfl, hb1⟩; have HB1 := hid hb1; clear hb1)
      go_ret2
      exact ⟨rfl, hb.out.trans (HB1.out.mono hb.out.size)⟩
theorem mfind_0 (key : ByteArray) (w : World) : Calls prog 103 #[.slice none 0 0, .string key] w fun e w' => e = .returned (.tuple #[.int .i64 0, .bool false]) ∧ Below w.heap.size w w' := by
  have H := hid (fun fv => bsf_0 key fv w)
  go_enter func103, ntmps103
  go_wp2_with (go_at_call 166; refine (H.out _).mono ?_; rintro e w1 ⟨rfl, rfl⟩)
  go_ret2
  exact ⟨rfl, Below.refl _ _⟩
theorem mfind_1 {w : World} {g cap : Nat} {k v : ByteArray} {fl ca la : Int} (hr : (rowI g cap k fl v ca la).R w) :
    Calls prog 103 #[.slice (some ⟨g, 0, none⟩) 1 cap, .string k] w fun e w' => e = .returned (.tuple #[.int .i64 0, .bool true]) ∧ Below w.heap.size w w' := by
  have H := hid (bsf_1 hr)
  clear hr
  go_enter func103, ntmps103
  go_wp2_with (go_at_call 166; refine H.out.mono ?_; rintro e w1 ⟨rfl, hb⟩)
  go_ret2
  exact ⟨rfl, hb⟩
end Go.Proofs.YtboehbfagnocpaaGreatDoor
namespace Go.Proofs.YtboehbfagnocpaaGreatDoor.PM
inductive Vl where
  | txt (b : ByteArray)
  | num (n : Nat)
inductive Cd where
  | get
  | set (fl : Nat) (v : Vl)
  | cas (tok : Nat) (v : Vl)
  | incr (d : Nat)
structure It where
  fl : Nat
  v : Vl
  cas : Nat
  last : Nat
structure Sd where
  it : Option It
  tok : Nat
structure An where
  st : Nat
  it : Option It
  num : Nat
def an0 : An := ⟨0, none, 0⟩
def sd0 : Sd := ⟨none, 0⟩
def two64 : Nat := 18446744073709551616
def stp (s : Sd) (c : Cd) : Sd × An :=
  match c, s.it with
  | .get, none => (s, ⟨5, none, 0⟩)
  | .get, some x => ({ s with it := some { x with last := 1 } }, ⟨1, some { x with last := 1 }, 0⟩)
  | .set fl v, _ => (⟨some ⟨fl, v, s.tok + 1, 0⟩, s.tok + 1⟩, ⟨2, some ⟨fl, v, s.tok + 1, 0⟩, 0⟩)
  | .cas t v, none => (s, ⟨5, none, 0⟩)
  | .cas t v, some x => if x.cas = t then (⟨some ⟨0, v, s.tok + 1, 0⟩, s.tok + 1⟩, ⟨2, some ⟨0, v, s.tok + 1, 0⟩, 0⟩) else (s, ⟨4, none, 0⟩)
  | .incr d, some ⟨fl, .num u, _, la⟩ => (⟨some ⟨fl, .num ((u + d) % two64), s.tok + 1, la⟩, s.tok + 1⟩, ⟨6, some ⟨fl, .num ((u + d) % two64), s.tok + 1, la⟩, (u + d) % two64⟩)
  | .incr d, some _ => (s, ⟨7, none, 0⟩)
  | .incr d, none => (s, ⟨5, none, 0⟩)
theorem incr_runs {s0 s : Sd} {l : List (Ev Cd An)} {fl u t la d : Nat} (h : Runs stp s0 l s) (h0 : s0 = ⟨some ⟨fl, .num u, t, la⟩, t⟩) (hu : u < two64) (hc : ∀ e ∈ l, e.cmd = .incr d) :
    s = ⟨some ⟨fl, .num ((u + l.length * d) % two64), t + l.length, la⟩, t + l.length⟩ := by
  induction h with
  | nil => subst h0; simp [Nat.mod_eq_of_lt hu]
  | @snoc l s o n c hr ih =>
    have hcc : c = .incr d := hc ⟨o, n, c, (stp s c).2⟩ (by simp)
    subst hcc
    have := ih (fun e he => hc e (by simp [he]))
    subst this
    simp only [stp, List.length_append, List.length_singleton]
    have e1 : ((u + l.length * d) % two64 + d) % two64 = (u + (l.length + 1) * d) % two64 := by
      rw [Nat.mod_add_mod, Nat.add_mul, Nat.one_mul, Nat.add_assoc]
    rw [e1, Nat.add_assoc]
end Go.Proofs.YtboehbfagnocpaaGreatDoor.PM
namespace Go.Proofs.YtboehbfagnocpaaGreatDoor
def emp : Res := ⟨fun _ => True, fun _ => False, fun _ _ _ => trivial, fun _ h => h.elim⟩
open Go.RowKit Go.PlainAid
open SP
def slabR (β : Bk) (π : Pi) (L : Nat) : Res where
  R w := Mem w β π L
  B b := foot β π b
  keep h ht hd := h.keep ht hd
  lt h hx := by
    obtain ⟨i, hi⟩ := hx
    exact h.lt i _ hi
theorem slab_turn {w w' : World} {β β' : Bk} {π π' : Pi} {L L' : Nat} (h : Mem w' β' π' L') (s : Step w β π w' β' π') : Turn (slabR β π L) (slabR β' π' L') w w' := ⟨h, s.tch, s.ft⟩
def zs : List Int := [64, 128, 256, 512]
def pi0 : Pi := newP 512 [0] [] zs
def pi1 (bs : List Int) : Pi := ⟨512, [1], bs, zs, [[7, 6, 5, 4, 3, 2, 1], [], [], []], [some ⟨[true, false, false, false, false, false, false, false], 1, false⟩]⟩
theorem al_pi0 : alS pi0 0 = pi1 [] := by decide +kernel
theorem alC_pi0 : alC pi0 0 = 0 := by decide +kernel
theorem alOk_pi0 : alOk pi0 0 = 0 := by decide +kernel
theorem used_pi1 (bs : List Int) : usedP (pi1 bs) 0 = true := rfl
theorem whP_pi1 (bs : List Int) : whP (pi1 bs) 0 = 0 := rfl
theorem whA_pi1 (bs : List Int) : whA (pi1 bs) 0 = 0 := rfl
theorem whS_pi1 (bs : List Int) : whS (pi1 bs) 0 = 64 := rfl
theorem wf_pi0 : Wf pi0 0 := newP_wf ⟨by decide, by decide, by decide, fun i hi => by have hi : i + 1 < 4 := hi; rcases (by omega : i = 0 ∨ i = 1 ∨ i = 2) with rfl | rfl | rfl <;> decide⟩ (fun x hx => by simp at hx; omega) (by decide) (by decide) (by decide)
def vlB : PM.Vl → ByteArray
  | .txt b => b
  | .num n => dec n
structure ItOk (x : PM.It) : Prop where
  v : (vlB x.v).size ≤ 20
  fl : x.fl < 4294967296
  cas : x.cas ≤ 1000000
  last : x.last ≤ 1
def itI (key : ByteArray) (x : PM.It) : I8.It := ⟨key, vlB x.v, x.fl, 0, x.cas, x.last, false, false⟩
def encI (key : ByteArray) (x : PM.It) : List Int := I8.encL key (vlB x.v) x.fl 0 x.cas x.last false false
structure Holds (key : ByteArray) (x : PM.It) (bs : List Int) : Prop where
  len : bs.length = 512
  pre : ∃ t, bs = encI key x ++ t
  by' : I8.P.Bytes bs
theorem encI_len {key : ByteArray} {x : PM.It} (hk : key.size = 1) (hx : ItOk x) : (encI key x).length = 41 + (vlB x.v).size ∧ (encI key x).length ≤ 61 := by
  have := hx.v
  unfold encI
  rw [I8.encL_len]
  omega
theorem ext_len512 {bs : List Int} (h : bs.length = 512) : AP.ext bs 512 = bs := AP.ext_none (by omega)
theorem byB_pi1 {bs : List Int} : AP.byB bs 512 0 = AP.ext bs 512 := by simp [AP.byB]
theorem pt_pi1 (bs l : List Int) (hl : l.length ≤ 64) : ptOk (pi1 bs) 0 l.length = 0 ∧ ptS (pi1 bs) 0 l = pi1 (l ++ (AP.ext bs 512).drop l.length) := by
  have h0 : ptOk (pi1 bs) 0 l.length = 0 := by
    unfold ptOk
    rw [used_pi1, whS_pi1, if_neg (by decide), if_neg (by omega)]
  refine ⟨h0, ?_⟩
  unfold ptS
  rw [if_pos h0, whP_pi1, whA_pi1]
  have h1 : AP.byE [1] 512 0 0 l.length = 0 := by
    unfold AP.byE
    rw [if_neg (by decide), if_neg (by omega)]
  show ({ pi1 bs with bs := AP.wrB [1] bs 512 0 0 l } : Pi) = _
  unfold AP.wrB
  rw [if_pos h1, byB_pi1]
  simp [AP.splice, pi1]
theorem gt_pi1 (bs : List Int) (h : bs.length = 512) : gtOk (pi1 bs) 0 64 = 0 ∧ gtS (pi1 bs) 0 64 = pi1 bs ∧ gtL (pi1 bs) 0 64 = bs.take 64 := by
  have h0 : gtOk (pi1 bs) 0 64 = 0 := by
    unfold gtOk
    rw [used_pi1, whS_pi1]; decide
  have h1 : AP.byE [1] 512 0 0 64 = 0 := by decide
  refine ⟨h0, ?_, ?_⟩
  · unfold gtS
    rw [if_pos h0, whP_pi1, whA_pi1]
    show ({ pi1 bs with bs := AP.rdB [1] bs 512 0 0 64 } : Pi) = _
    unfold AP.rdB
    rw [if_pos h1, byB_pi1, ext_len512 h]
    rfl
  · unfold gtL
    rw [if_pos h0, whP_pi1, whA_pi1]
    show AP.rdL [1] bs 512 0 0 64 = _
    unfold AP.rdL
    rw [if_pos h1, byB_pi1, ext_len512 h]
    simp
theorem wf_pi1 (bs : List Int) (L : Nat) (hL : 2000 ≤ L) (hm : L ≤ 100000000) : Wf (pi1 bs) L := by
  have h := wf_pi0.alS 0 (by decide)
  rw [al_pi0] at h
  exact ⟨h.np1, h.rng, h.siz, h.k1, h.sz, h.rl, h.pl, h.pg, fun c l hl => ⟨Nat.le_trans (h.ch c l hl).1 (by omega), (h.ch c l hl).2⟩, hm⟩
end Go.Proofs.YtboehbfagnocpaaGreatDoor
