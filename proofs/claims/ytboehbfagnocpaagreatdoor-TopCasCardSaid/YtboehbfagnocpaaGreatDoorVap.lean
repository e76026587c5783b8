/- Tma, Tmb, Tcl, Tem, Tsb. -/
import Derived.Test.YtboehbfagnocpaaGreatDoorVai
import Derived.Test.YtboehbfagnocpaaGreatDoorVao
import Derived.Test.YtboehbfagnocpaaGreatDoorVaf
import Derived.Test.YtboehbfagnocpaaGreatDoorVag
import Derived.Test.YtboehbfagnocpaaGreatDoorVah
set_option linter.unusedVariables false
set_option linter.unusedSimpArgs false
set_option maxRecDepth 100000
namespace Go.Proofs.YtboehbfagnocpaaGreatDoor
open Go.RowKit Go.PlainAid Go.Shelf
theorem elem_itm : Elem 119 50 8 72 := ⟨Tryz.underlying119, ⟨.agg #[.string ⟨#[]⟩, .int .u32 0, .string ⟨#[]⟩, .int .i64 0, .int .u64 0, .int .i64 0, .bool false, .bool false], by kernel_rfl, by kernel_rfl⟩, by decide⟩
def itmL (k : ByteArray) (fl : Int) (v : ByteArray) (ca la : Int) : List Value := [.string k, .int .u32 fl, .string v, .int .i64 0, .int .u64 ca, .int .i64 la, .bool false, .bool false]
def itmV (k : ByteArray) (fl : Int) (v : ByteArray) (ca la : Int) : Value := .agg #[.string k, .int .u32 fl, .string v, .int .i64 0, .int .u64 ca, .int .i64 la, .bool false, .bool false]
def rowI (g cap : Nat) (k : ByteArray) (fl : Int) (v : ByteArray) (ca la : Int) : Res := rowAt (.slice (some ⟨g, 0, none⟩) 1 cap) 50 8 1 (itmL k fl v ca la)
section
variable {T E size bytes : Nat} {W : World} {v : Value} {n : Nat} {xs news : List Value}
theorem wp_appSl {ops : Array Oper} {rest : List Oper} {o : Oper} {a : Act} {Q : Exit → Act → World → Prop} (X : Elem T E size bytes) (hgd : o.guard = none) (s x : Operand) (p : Addr) (c : Nat)
    (ho : o.op = .call { callee := .builtin .append, args := #[s, x], argTypes := #[T, T] }) (hs : a.eval s = v) (hr : (rowAt v E size n xs).R W)
    (hx : a.eval x = .slice (some p) 1 c) (hl : news.length = size) (hnews : ∀ j u, news[j]? = some u → W.cell? (p.add j) = some u) (h1 : ∀ u ∈ news, u.oneCell' = true) (hn : n + 1 ≤ 100000000) (hb : bytes ≤ 100000)
    (h : ∀ g cap w', Turn (rowAt v E size n xs) (rowAt (.slice (some ⟨g, 0, none⟩) (n + 1) cap) E size (n + 1) (xs ++ news)) W w' → wpList Tryz.prog ops Q rest (a.put o.dst (.slice (some ⟨g, 0, none⟩) (n + 1) cap)) w') :
    wpList Tryz.prog ops Q (o :: rest) a W := by
  obtain ⟨z, hi, hzs⟩ := X.hi
  obtain ⟨i0, hi0, hz0, hz1, hz2⟩ := info_parts hi
  refine wpList_append_lies W hgd s x T ho 0 E i0 z size bytes X.ht hi0 hz0 hz1 hz2 hzs X.pos v n xs hs hr p 1 c news hx (by omega) hnews h1 (by omega) (by unfold maxLen; omega) ?_ (Nat.zero_le _) W.heap.size rfl ?_
  · have : (n + 1) * bytes ≤ 100000000 * 100000 := Nat.mul_le_mul hn hb
    omega
  · intro g cap w' ho' hg hnw hlt
    refine h g cap w' ⟨ho', Tch.of_grown hg, fun b hb => ?_⟩
    have hb : some g = some b := hb
    cases hb
    rcases hnw with h2 | h2
    · exact .inl h2
    · exact .inr (by omega)
end
theorem row_empty (w : World) (E size : Nat) : Made (rowAt (.slice (some ⟨w.heap.size, 0, none⟩) 0 0) E size 0 []) w (w.alloc (.cells #[] E)) :=
  ⟨⟨by simp, .inr ⟨w.heap.size, 0, #[], rfl, Nat.zero_le _, heap_alloc_new w _, Nat.le_refl _, by decide, by simp, by simp⟩⟩, below_alloc' w _, fun b hb => by have e : some w.heap.size = some b := hb; cases e; exact Nat.le_refl _⟩
theorem cloneI_0 (w : World) : Calls Tryz.prog 101 #[.slice none 0 0] w fun e w' => e = .returned (.slice none 0 0) ∧ w = w' := by
  have qT : ∀ (w : World) (a : Option Addr) (n c n' c' : Nat), (binOp .eql 119 (.slice a n c) (.slice none n' c')).run Tryz.prog w = .ok (.bool (a.isNone)) w := fun w a n c n' c' => Lib.run_eql_slice_nil w _ _ a n c n' c' Tryz.underlying119
  go_enter Tryz.func101, Tryz.ntmps101
  go_wp2
  go_ret
  exact ⟨rfl, rfl⟩
theorem cloneI_1 {w : World} {xb c : Nat} {k v : ByteArray} {fl ca la : Int} (hc : ∀ j u, (itmL k fl v ca la)[j]? = some u → w.cell? ⟨xb, j, none⟩ = some u) :
    Calls Tryz.prog 101 #[.slice (some ⟨xb, 0, none⟩) 1 c] w fun e w' => ∃ g cap, e = .returned (.slice (some ⟨g, 0, none⟩) 1 cap) ∧ Made (rowI g cap k fl v ca la) w w' := by
  have qT : ∀ (w : World) (a : Option Addr) (n c n' c' : Nat), (binOp .eql 119 (.slice a n c) (.slice none n' c')).run Tryz.prog w = .ok (.bool (a.isNone)) w := fun w a n c n' c' => Lib.run_eql_slice_nil w _ _ a n c n' c' Tryz.underlying119
  have hxb : xb < w.heap.size := cell_lt (hc 0 _ rfl)
  have M0 := row_empty w 50 8
  have hc' : ∀ j u, (itmL k fl v ca la)[j]? = some u → (w.alloc (.cells #[] 50)).cell? ((⟨xb, 0, none⟩ : Addr).add j) = some u := fun j u hj => by
    have h := ((below_alloc' w (.cells #[] 50)).cell (p := ⟨xb, j, none⟩) hxb).trans (hc j u hj)
    cases j <;> simpa [Addr.add] using h
  have HC := Lib.hid hc'
  clear hc hc'
  go_enter Tryz.func101, Tryz.ntmps101
  go_wp2_with (at_builtin; go_must (refine wp_appSl elem_itm rfl _ _ ⟨xb, 0, none⟩ c rfl rfl M0.here rfl (by rfl) HC.out (by simp [itmL, Value.oneCell']) (by omega) (by omega) ?_))
  intro g cap w2 ht
  go_wp2
  go_ret
  exact ⟨g, cap, rfl, M0.turn ht⟩
theorem idxI_0 (w : World) (fv : Value) : Calls Tryz.prog 165 #[.slice none 0 0, fv] w fun e w' => e = .returned (.int .i64 (-1)) ∧ w = w' := by
  go_enter Tryz.func165, Tryz.ntmps165
  go_wp2
  go_loop [8] (fun i => i = .int .i64 0) (fun _ => 0)
  case atStart => rfl
  case round =>
    subst hrel
    go_wp2
    go_ret
    exact ⟨rfl, rfl⟩
theorem idxI_1 {w : World} {g cap nb : Nat} {k v : ByteArray} {fl ca la : Int} (hr : (rowI g cap k fl v ca la).R w) (hnb : w.cell? ⟨nb, 0, none⟩ = some (.int .i64 1)) :
    Calls Tryz.prog 165 #[.slice (some ⟨g, 0, none⟩) 1 cap, .func (.func 102) #[] #[.pointer (some ⟨nb, 0, none⟩)]] w fun e w' => e = .returned (.int .i64 (-1)) ∧ Below w.heap.size w w' := by
  obtain ⟨k0, k1, k2, k3, k4, k5, k6, k7⟩ : ra8 w g (.string k) (.int .u32 fl) (.string v) (.int .i64 0) (.int .u64 ca) (.int .i64 la) (.bool false) (.bool false) := ra8' (hr)
  have hnl := cell_lt hnb
  have hnb' := ((below_alloc' w (.cells #[.string k, .int .u32 fl, .string v, .int .i64 0, .int .u64 ca, .int .i64 la, .bool false, .bool false] 50)).cell (p := ⟨nb, 0, none⟩) hnl).trans hnb
  clear hr
  go_enter Tryz.func165, Tryz.ntmps165
  go_wp2
  go_loopw [8] (fun i wr => (i = .int .i64 0 ∧ wr = w) ∨ (i = .int .i64 1 ∧ Hid (Below w.heap.size w wr))) (fun i _ => 1 - (intOf i).toNat)
  case atStart => exact .inl ⟨rfl, rfl⟩
  case round =>
    rcases hrel with ⟨rfl, hr⟩ | ⟨rfl, hb⟩
    · subst hr
      go_wp2
      go_roundw
      case rel => exact .inr ⟨by first | rfl | trivial | simp, Lib.hid (below_alloc' _ _)⟩
      case measure => simp [intOf]
    · go_wp2
      go_ret
      exact ⟨rfl, hb.out⟩
theorem delI_0 (w : World) (fv : Value) : Calls Tryz.prog 100 #[.slice none 0 0, fv] w fun e w' => e = .returned (.slice none 0 0) ∧ w = w' := by
  have H := Lib.hid (idxI_0 w fv)
  go_enter Tryz.func100, Tryz.ntmps100
  go_wp2_with (go_at_call 165; refine H.out.mono ?_; rintro e w1 ⟨rfl, rfl⟩)
  go_ret
  exact ⟨rfl, rfl⟩
theorem delI_1 {w : World} {g cap nb : Nat} {k v : ByteArray} {fl ca la : Int} (hr : (rowI g cap k fl v ca la).R w) (hnb : w.cell? ⟨nb, 0, none⟩ = some (.int .i64 1)) :
    Calls Tryz.prog 100 #[.slice (some ⟨g, 0, none⟩) 1 cap, .func (.func 102) #[] #[.pointer (some ⟨nb, 0, none⟩)]] w fun e w' => e = .returned (.slice (some ⟨g, 0, none⟩) 1 cap) ∧ Below w.heap.size w w' := by
  have H := Lib.hid (idxI_1 hr hnb)
  clear hr hnb
  go_enter Tryz.func100, Tryz.ntmps100
  go_wp2_with (go_at_call 165; refine H.out.mono ?_; rintro e w1 ⟨rfl, hb⟩)
  go_ret
  exact ⟨rfl, hb⟩
end Go.Proofs.YtboehbfagnocpaaGreatDoor
namespace Go.Proofs.YtboehbfagnocpaaGreatDoor
open Go.RowKit Go.PlainAid Go.Shelf
theorem near_idx {w : World} {g : Nat} (h0 : w.cell? ⟨g, 0, none⟩ = some (.int .i64 0)) (h1 : w.cell? ⟨g, 1, none⟩ = some (.int .i64 0)) (h2 : w.cell? ⟨g, 2, none⟩ = some (.int .i64 (-1))) :
    Calls Tryz.prog 268 #[.slice (some ⟨g, 0, none⟩) 3 3, .func (.func 223) #[] #[]] w fun e w' => e = .returned (.int .i64 (-1)) ∧ w = w' := by
  go_enter Tryz.func268, Tryz.ntmps268
  go_wp2
  go_loop [8] (fun i => i = .int .i64 0 ∨ i = .int .i64 1 ∨ i = .int .i64 2 ∨ i = .int .i64 3) (fun i => 3 - (intOf i).toNat)
  case atStart => exact .inl rfl
  case round =>
    rcases hrel with rfl | rfl | rfl | rfl
    · go_wp2
      go_round
      case rel => exact .inr (.inl rfl)
      case measure => simp [intOf]
    · go_wp2
      go_round
      case rel => exact .inr (.inr (.inl rfl))
      case measure => simp [intOf]
    · go_wp2
      go_round
      case rel => exact .inr (.inr (.inr rfl))
      case measure => simp [intOf]
    · go_wp2
      go_ret
      exact ⟨rfl, rfl⟩
theorem near_con {w : World} {g : Nat} (h0 : w.cell? ⟨g, 0, none⟩ = some (.int .i64 0)) (h1 : w.cell? ⟨g, 1, none⟩ = some (.int .i64 0)) (h2 : w.cell? ⟨g, 2, none⟩ = some (.int .i64 (-1))) :
    Calls Tryz.prog 222 #[.slice (some ⟨g, 0, none⟩) 3 3, .func (.func 223) #[] #[]] w fun e w' => e = .returned (.bool false) ∧ w = w' := by
  have H := Lib.hid (near_idx h0 h1 h2)
  clear h0 h1 h2
  go_enter Tryz.func222, Tryz.ntmps222
  go_wp2_with (go_at_call 268; refine H.out.mono ?_; rintro e w1 ⟨rfl, rfl⟩)
  go_ret
  exact ⟨rfl, rfl⟩
theorem near_ok {w : World} {g : Nat} (h0 : w.cell? ⟨g, 0, none⟩ = some (.int .i64 0)) (h1 : w.cell? ⟨g, 1, none⟩ = some (.int .i64 0)) (h2 : w.cell? ⟨g, 2, none⟩ = some (.int .i64 (-1))) :
    Calls Tryz.prog 163 #[.slice (some ⟨g, 0, none⟩) 3 3] w fun e w' => e = .returned (.bool true) ∧ w = w' := by
  have H := Lib.hid (near_con h0 h1 h2)
  clear h0 h1 h2
  go_enter Tryz.func163, Tryz.ntmps163
  go_wp2_with (go_at_call 222; refine H.out.mono ?_; rintro e w1 ⟨rfl, rfl⟩)
  go_ret
  exact ⟨rfl, rfl⟩
structure CmOk (c : Cm) : Prop where
  op : c.op = 1 ∨ c.op = 2 ∨ c.op = 3
  mode : c.mode = 0
  exp : c.exp = 0
  rec' : c.recache = -1
  key : W2.keyB c.key = true
  ks : c.key.size = 1
  vs : c.value.size ≤ 1000
theorem may_ok {c : Cm} (hc : CmOk c) (w : World) : Calls Tryz.prog 99 #[.agg c.vs] w fun e w' => e = .returned (.bool true) ∧ Below w.heap.size w w' := by
  obtain ⟨op, mode, key, value, flags, exp, cas, hasCas, delta, recache⟩ := c
  obtain ⟨h1, rfl, rfl, rfl, h5, h6, h7⟩ := hc
  have HK := Lib.hid (fun w' => W2.key_any key w' (by dsimp only at h6; unfold maxLen; omega))
  dsimp only at h1 h5 h6 h7
  rw [h5] at HK
  have h8 : (value.size : Int) ≤ 65536 := by omega
  have HN := Lib.hid (fun (W : World) (g : Nat) (a0 : W.cell? ⟨g, 0, none⟩ = some (.int .i64 0)) (a1 : W.cell? ⟨g, 1, none⟩ = some (.int .i64 0)) (a2 : W.cell? ⟨g, 2, none⟩ = some (.int .i64 (-1))) => near_ok a0 a1 a2)
  clear h5 h6 h7
  unfold Cm.vs
  rcases h1 with rfl | rfl | rfl <;>
    (go_enter Tryz.func99, Tryz.ntmps99
     go_wp2_with (first
       | (go_at_call 163; refine (HN.out _ _ (by simp [go_sem]) (by simp [go_sem]) (by simp [go_sem])).mono ?_; rintro e w1 ⟨rfl, rfl⟩)
       | (go_at_call 164; refine (HK.out _).mono ?_; rintro e w1 ⟨rfl, rfl⟩))
     go_ret
     exact ⟨rfl, ((Below.refl _ _).alloc (Nat.le_refl _) _).alloc (by simp) _⟩)
def wdC (iv : Value) (cas : Int) (c : Cm) (is : Bool) : Array Value := #[iv, .int .u64 cas, .int .i64 0, .int .i64 1, .int .i64 c.op, .int .i64 c.mode, .string c.key, .string c.value, .int .u32 c.flags, .int .i64 c.exp, .bool false, .int .u64 c.cas, .bool c.hasCas, .int .u64 c.delta, .int .u64 0, .bool false, .bool false, .int .i64 0, .int .i64 c.recache, .bool false, .int .i64 472, .int .i64 0, .bool is]
def wdR (N : Nat) (iv : Value) (cas : Int) (c : Cm) (is : Bool) : Res := cellsAt N (wdC iv cas c is) 200
theorem item_at {w : World} {N g cap : Nat} {cas : Int} {c : Cm} {is : Bool} (h : (wdR N (.slice (some ⟨g, 0, none⟩) 1 cap) cas c is).R w) :
    Calls Tryz.prog 109 #[.pointer (some ⟨N, 0, none⟩)] w fun e w' => e = .returned (.pointer (some ⟨g, 0, none⟩)) ∧ ∃ m, w' = w.drewN m := by
  have k0 : w.cell? ⟨N, 0, none⟩ = some (.slice (some ⟨g, 0, none⟩) 1 cap) := cells_at h 0
  have k1 : w.cell? ⟨N, 21, none⟩ = some (.int .i64 0) := cells_at h 21
  clear h
  go_enter Tryz.func109, Tryz.ntmps109
  go_wp2_with (fail)
  go_quiet (fail)
  go_wp2
  go_ret
  exact ⟨rfl, _, rfl⟩
theorem moment_0 (N : Nat) (w : World) : Calls Tryz.prog 108 #[.pointer (some ⟨N, 0, none⟩), .int .i64 0] w fun e w' => e = .returned (.int .i64 0) ∧ w = w' := by
  go_enter Tryz.func108, Tryz.ntmps108
  go_wp2
  go_ret
  exact ⟨rfl, rfl⟩
def ansT (st : Int) : Array Value := #[.int .i64 st, .string ⟨#[]⟩, .int .u32 0, .string ⟨#[]⟩, .int .i64 0, .int .u64 0, .int .i64 0, .bool false, .bool false, .int .u64 0, .bool false, .bool false, .bool false]
theorem ret_ans {fn : Func} {k : Nat} (hres : fn.results = #[.cell k 52]) {R : Ending → World → Prop} {tmps : Array Value} {W : World} {N : Nat} {v0 v1 v2 v3 v4 v5 v6 v7 v8 v9 v10 v11 v12 : Value}
    (h2 : tmps.getD k undef = .pointer (some ⟨N, 0, none⟩)) (hb : (cellsAt N #[v0, v1, v2, v3, v4, v5, v6, v7, v8, v9, v10, v11, v12] 52).R W)
    (hR : R (.returned (.agg #[v0, v1, v2, v3, v4, v5, v6, v7, v8, v9, v10, v11, v12])) W) :
    bodyPost Tryz.prog fn R .ret { tmps := tmps, defers := [] } W := by
  refine bodyPost_ret (v := .agg #[v0, v1, v2, v3, v4, v5, v6, v7, v8, v9, v10, v11, v12]) ?_ rfl hR
  have h2' : tmps[k]?.getD undef = .pointer (some ⟨N, 0, none⟩) := by simpa using h2
  obtain ⟨x0, x1, x2, x3, x4, x5, x6, x7, x8, x9, x10, x11, x12⟩ : ca13 W N v0 v1 v2 v3 v4 v5 v6 v7 v8 v9 v10 v11 v12 := ca13' (hb)
  simp [results, hres, go_sem, h2', x0, x1, x2, x3, x4, x5, x6, x7, x8, x9, x10, x11, x12]
theorem told_ok (st : Int) (w : World) : Calls Tryz.prog 107 #[.int .i64 st] w fun e w' => e = .returned (.agg (ansT st)) ∧ Below w.heap.size w w' := by
  have h0 := cells_new w (ansT st) 52
  have hb := below_alloc' w (.cells (ansT st) 52)
  go_enter Tryz.func107, Tryz.ntmps107
  go_wp2
  exact ret_ans (N := w.heap.size) rfl rfl h0 ⟨rfl, hb⟩
theorem bsf_0 (key : ByteArray) (fv : Value) (w : World) : Calls Tryz.prog 166 #[.slice none 0 0, .string key, fv] w fun e w' => e = .returned (.tuple #[.int .i64 0, .bool false]) ∧ w' = w := by
  go_enter Tryz.func166, Tryz.ntmps166
  go_wp2
  go_loop [9, 10] (fun a b => a = .int .i64 0 ∧ b = .int .i64 0) (fun _ _ => 0)
  case atStart => exact ⟨rfl, rfl⟩
  case round =>
    obtain ⟨rfl, rfl⟩ := hrel
    go_wp2
    go_ret2
    exact ⟨rfl, rfl⟩
theorem cmpB_self : ∀ l : List UInt8, Lib.compareBytes l l = 0 := by
  intro l
  induction l with
  | nil => rfl
  | cons a l ih => simp [Lib.compareBytes, ih]
theorem cmp_one (k v key : ByteArray) (fl ca la : Int) (w : World) (hk : k = key) : Calls Tryz.prog 167 #[itmV k fl v ca la, .string key] w fun e w' => e = .returned (.int .i64 0) ∧ Below w.heap.size w w' := by
  subst hk
  have hcmp : Lib.compareBytes k.data.toList k.data.toList = 0 := cmpB_self _
  have HC := Lib.hid (fun w' => Tryz.strings_Compare k k w')
  rw [hcmp] at HC
  unfold itmV
  go_enter Tryz.func167, Tryz.ntmps167
  go_wp2_with (go_at_call 168; refine (HC.out _).mono ?_; rintro e w1 ⟨rfl, rfl⟩)
  go_ret
  exact ⟨rfl, below_alloc' _ _⟩
theorem bsf_1 {w : World} {g cap : Nat} {k v : ByteArray} {fl ca la : Int} (hr : (rowI g cap k fl v ca la).R w) :
    Calls Tryz.prog 166 #[.slice (some ⟨g, 0, none⟩) 1 cap, .string k, .func (.func 167) #[] #[]] w fun e w' => e = .returned (.tuple #[.int .i64 0, .bool true]) ∧ Below w.heap.size w w' := by
  have HR := Lib.hid (fun w' (hb : Below w.heap.size w w') => (rowI g cap k fl v ca la).keep hr (Tch.of_below (fun _ => False) hb) (fun _ _ x => x))
  obtain ⟨k0, k1, k2, k3, k4, k5, k6, k7⟩ : ra8 w g (.string k) (.int .u32 fl) (.string v) (.int .i64 0) (.int .u64 ca) (.int .i64 la) (.bool false) (.bool false) := ra8' (hr)
  have HC := Lib.hid (fun w' => cmp_one k v k fl ca la w' rfl)
  unfold itmV at HC
  clear hr
  go_enter Tryz.func166, Tryz.ntmps166
  go_wp2
  go_loopw [9, 10] (fun a b wr => a = .int .i64 0 ∧ ((b = .int .i64 1 ∧ wr = w) ∨ (b = .int .i64 0 ∧ Hid (Below w.heap.size w wr)))) (fun _ b _ => (intOf b).toNat)
  case atStart => exact ⟨rfl, .inl ⟨rfl, rfl⟩⟩
  case round =>
    obtain ⟨rfl, ⟨rfl, hr⟩ | ⟨rfl, hb⟩⟩ := hrel
    · subst hr
      go_wp2_with (go_at_call 167; refine (HC.out _).mono ?_; rintro e w1 ⟨rfl, hb1⟩; have HB1 := Lib.hid hb1; clear hb1)
      go_roundw
      case rel => exact ⟨rfl, .inr ⟨by first | rfl | trivial | simp, HB1⟩⟩
      case measure => simp [intOf]
    · have hr2 := HR.out _ hb.out
      clear k0 k1 k2 k3 k4 k5 k6 k7
      obtain ⟨q0, q1, q2, q3, q4, q5, q6, q7⟩ : ra8 wr g (.string k) (.int .u32 fl) (.string v) (.int .i64 0) (.int .u64 ca) (.int .i64 la) (.bool false) (.bool false) := ra8' (hr2)
      clear hr2
      go_wp2_with (go_at_call 167; refine (HC.out _).mono ?_; rintro e w1 ⟨rfl, hb1⟩; have HB1 := Lib.hid hb1; clear hb1)
      go_ret2
      exact ⟨rfl, hb.out.trans (HB1.out.mono hb.out.size)⟩
theorem mfind_0 (key : ByteArray) (w : World) : Calls Tryz.prog 103 #[.slice none 0 0, .string key] w fun e w' => e = .returned (.tuple #[.int .i64 0, .bool false]) ∧ Below w.heap.size w w' := by
  have H := Lib.hid (fun fv => bsf_0 key fv w)
  go_enter Tryz.func103, Tryz.ntmps103
  go_wp2_with (go_at_call 166; refine (H.out _).mono ?_; rintro e w1 ⟨rfl, rfl⟩)
  go_ret2
  exact ⟨rfl, Below.refl _ _⟩
theorem mfind_1 {w : World} {g cap : Nat} {k v : ByteArray} {fl ca la : Int} (hr : (rowI g cap k fl v ca la).R w) :
    Calls Tryz.prog 103 #[.slice (some ⟨g, 0, none⟩) 1 cap, .string k] w fun e w' => e = .returned (.tuple #[.int .i64 0, .bool true]) ∧ Below w.heap.size w w' := by
  have H := Lib.hid (bsf_1 hr)
  clear hr
  go_enter Tryz.func103, Tryz.ntmps103
  go_wp2_with (go_at_call 166; refine H.out.mono ?_; rintro e w1 ⟨rfl, hb⟩)
  go_ret2
  exact ⟨rfl, hb⟩
end Go.Proofs.YtboehbfagnocpaaGreatDoor
namespace Go.Proofs.YtboehbfagnocpaaGreatDoor.PM
inductive Vl where
  | txt (b : ByteArray)
  | num (n : Nat)
inductive Cd where
  | get
  | set (fl : Nat) (v : Vl)
  | cas (tok : Nat) (v : Vl)
  | incr (d : Nat)
structure It where
  fl : Nat
  v : Vl
  cas : Nat
  last : Nat
structure Sd where
  it : Option It
  tok : Nat
structure An where
  st : Nat
  it : Option It
  num : Nat
def an0 : An := ⟨0, none, 0⟩
def sd0 : Sd := ⟨none, 0⟩
def two64 : Nat := 18446744073709551616
def stp (s : Sd) (c : Cd) : Sd × An :=
  match c, s.it with
  | .get, none => (s, ⟨5, none, 0⟩)
  | .get, some x => ({ s with it := some { x with last := 1 } }, ⟨1, some { x with last := 1 }, 0⟩)
  | .set fl v, _ => (⟨some ⟨fl, v, s.tok + 1, 0⟩, s.tok + 1⟩, ⟨2, some ⟨fl, v, s.tok + 1, 0⟩, 0⟩)
  | .cas t v, none => (s, ⟨5, none, 0⟩)
  | .cas t v, some x => if x.cas = t then (⟨some ⟨0, v, s.tok + 1, 0⟩, s.tok + 1⟩, ⟨2, some ⟨0, v, s.tok + 1, 0⟩, 0⟩) else (s, ⟨4, none, 0⟩)
  | .incr d, some ⟨fl, .num u, _, la⟩ => (⟨some ⟨fl, .num ((u + d) % two64), s.tok + 1, la⟩, s.tok + 1⟩, ⟨6, some ⟨fl, .num ((u + d) % two64), s.tok + 1, la⟩, (u + d) % two64⟩)
  | .incr d, some _ => (s, ⟨7, none, 0⟩)
  | .incr d, none => (s, ⟨5, none, 0⟩)
theorem cas_runs {s0 s : Sd} {l : List (Ev Cd An)} {x0 : It} {t : Nat} (h : Runs stp s0 l s) (h0 : s0 = ⟨some x0, t⟩) (hx : x0.cas = t) (val : Nat → Vl) (hc : ∀ e ∈ l, e.cmd = .cas t (val e.of)) :
    (l = [] ∧ s = s0) ∨ ∃ e l', l = e :: l' ∧ e.ans.st = 2 ∧ (∀ e' ∈ l', e'.ans.st = 4) ∧ s = ⟨some ⟨0, val e.of, t + 1, 0⟩, t + 1⟩ := by
  induction h with
  | nil => exact .inl ⟨rfl, rfl⟩
  | @snoc l s o n c hr ih =>
    have hcc : c = .cas t (val o) := hc ⟨o, n, c, (stp s c).2⟩ (by simp)
    subst hcc
    rcases ih (fun e he => hc e (by simp [he])) with ⟨rfl, rfl⟩ | ⟨e, l', rfl, h1, h2, rfl⟩
    · refine .inr ⟨_, [], rfl, ?_, fun _ h => absurd h (by simp), ?_⟩
      · subst h0; simp [stp, hx]
      · subst h0; simp [stp, hx]
    · refine .inr ⟨e, l' ++ [_], rfl, h1, fun e' he' => ?_, ?_⟩
      · rcases List.mem_append.1 he' with h4 | h4
        · exact h2 e' h4
        · rw [List.mem_singleton.1 h4]
          simp [stp]
      · simp [stp]
end Go.Proofs.YtboehbfagnocpaaGreatDoor.PM
namespace Go.Proofs.YtboehbfagnocpaaGreatDoor
def emp : Res := ⟨fun _ => True, fun _ => False, fun _ _ _ => trivial, fun _ h => h.elim⟩
end Go.Proofs.YtboehbfagnocpaaGreatDoor
namespace Go.Proofs.YtboehbfagnocpaaGreatDoor
open Go.RowKit Go.PlainAid
open SP
def slabR (β : Bk) (π : Pi) (L : Nat) : Res where
  R w := Mem w β π L
  B b := foot β π b
  keep h ht hd := h.keep ht hd
  lt h hx := by
    obtain ⟨i, hi⟩ := hx
    exact h.lt i _ hi
theorem slab_turn {w w' : World} {β β' : Bk} {π π' : Pi} {L L' : Nat} (h : Mem w' β' π' L') (s : Step w β π w' β' π') : Turn (slabR β π L) (slabR β' π' L') w w' := ⟨h, s.tch, s.ft⟩
def zs : List Int := [64, 128, 256, 512]
def pi0 : Pi := newP 512 [0] [] zs
def pi1 (bs : List Int) : Pi := ⟨512, [1], bs, zs, [[7, 6, 5, 4, 3, 2, 1], [], [], []], [some ⟨[true, false, false, false, false, false, false, false], 1, false⟩]⟩
theorem al_pi0 : alS pi0 0 = pi1 [] := by decide +kernel
theorem alC_pi0 : alC pi0 0 = 0 := by decide +kernel
theorem alOk_pi0 : alOk pi0 0 = 0 := by decide +kernel
theorem used_pi1 (bs : List Int) : usedP (pi1 bs) 0 = true := rfl
theorem whP_pi1 (bs : List Int) : whP (pi1 bs) 0 = 0 := rfl
theorem whA_pi1 (bs : List Int) : whA (pi1 bs) 0 = 0 := rfl
theorem whS_pi1 (bs : List Int) : whS (pi1 bs) 0 = 64 := rfl
theorem wf_pi0 : Wf pi0 0 := newP_wf ⟨by decide, by decide, by decide, fun i hi => by have hi : i + 1 < 4 := hi; rcases (by omega : i = 0 ∨ i = 1 ∨ i = 2) with rfl | rfl | rfl <;> decide⟩ (fun x hx => by simp at hx; omega) (by decide) (by decide) (by decide)
def vlB : PM.Vl → ByteArray
  | .txt b => b
  | .num n => dec n
structure ItOk (x : PM.It) : Prop where
  v : (vlB x.v).size ≤ 20
  fl : x.fl < 4294967296
  cas : x.cas ≤ 1000000
  last : x.last ≤ 1
def itI (key : ByteArray) (x : PM.It) : I8.It := ⟨key, vlB x.v, x.fl, 0, x.cas, x.last, false, false⟩
def encI (key : ByteArray) (x : PM.It) : List Int := I8.encL key (vlB x.v) x.fl 0 x.cas x.last false false
structure Holds (key : ByteArray) (x : PM.It) (bs : List Int) : Prop where
  len : bs.length = 512
  pre : ∃ t, bs = encI key x ++ t
  by' : I8.P.Bytes bs
theorem encI_len {key : ByteArray} {x : PM.It} (hk : key.size = 1) (hx : ItOk x) : (encI key x).length = 41 + (vlB x.v).size ∧ (encI key x).length ≤ 61 := by
  have := hx.v
  unfold encI
  rw [I8.encL_len]
  omega
theorem ext_len512 {bs : List Int} (h : bs.length = 512) : AP.ext bs 512 = bs := AP.ext_none (by omega)
theorem byB_pi1 {bs : List Int} : AP.byB bs 512 0 = AP.ext bs 512 := by simp [AP.byB]
theorem pt_pi1 (bs l : List Int) (hl : l.length ≤ 64) : ptOk (pi1 bs) 0 l.length = 0 ∧ ptS (pi1 bs) 0 l = pi1 (l ++ (AP.ext bs 512).drop l.length) := by
  have h0 : ptOk (pi1 bs) 0 l.length = 0 := by
    unfold ptOk
    rw [used_pi1, whS_pi1, if_neg (by decide), if_neg (by omega)]
  refine ⟨h0, ?_⟩
  unfold ptS
  rw [if_pos h0, whP_pi1, whA_pi1]
  have h1 : AP.byE [1] 512 0 0 l.length = 0 := by
    unfold AP.byE
    rw [if_neg (by decide), if_neg (by omega)]
  show ({ pi1 bs with bs := AP.wrB [1] bs 512 0 0 l } : Pi) = _
  unfold AP.wrB
  rw [if_pos h1, byB_pi1]
  simp [AP.splice, pi1]
theorem gt_pi1 (bs : List Int) (h : bs.length = 512) : gtOk (pi1 bs) 0 64 = 0 ∧ gtS (pi1 bs) 0 64 = pi1 bs ∧ gtL (pi1 bs) 0 64 = bs.take 64 := by
  have h0 : gtOk (pi1 bs) 0 64 = 0 := by
    unfold gtOk
    rw [used_pi1, whS_pi1]; decide
  have h1 : AP.byE [1] 512 0 0 64 = 0 := by decide
  refine ⟨h0, ?_, ?_⟩
  · unfold gtS
    rw [if_pos h0, whP_pi1, whA_pi1]
    show ({ pi1 bs with bs := AP.rdB [1] bs 512 0 0 64 } : Pi) = _
    unfold AP.rdB
    rw [if_pos h1, byB_pi1, ext_len512 h]
    rfl
  · unfold gtL
    rw [if_pos h0, whP_pi1, whA_pi1]
    show AP.rdL [1] bs 512 0 0 64 = _
    unfold AP.rdL
    rw [if_pos h1, byB_pi1, ext_len512 h]
    simp
theorem wf_pi1 (bs : List Int) (L : Nat) (hL : 2000 ≤ L) (hm : L ≤ 100000000) : Wf (pi1 bs) L := by
  have h := wf_pi0.alS 0 (by decide)
  rw [al_pi0] at h
  exact ⟨h.np1, h.rng, h.siz, h.k1, h.sz, h.rl, h.pl, h.pg, fun c l hl => ⟨Nat.le_trans (h.ch c l hl).1 (by omega), (h.ch c l hl).2⟩, hm⟩
end Go.Proofs.YtboehbfagnocpaaGreatDoor
