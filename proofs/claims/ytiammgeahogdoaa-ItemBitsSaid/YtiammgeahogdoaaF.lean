/- ambryref08.Encode, and both where an item may not be: contracts. -/
import Derived.Test.YtiammgeahogdoaaE
namespace Go.Proofs.Ytiammgeahogdoaa
open Go.RowKit Go.PlainAid
set_option linter.unusedVariables false
set_option linter.unusedSimpArgs false

theorem right_facts {k v : ByteArray} {ex la : Int} (h : rightB k v ex la = true) : 1 ≤ k.size ∧ k.size ≤ 250 ∧ v.size ≤ 65536 ∧ 0 ≤ ex ∧ 0 ≤ la := by
  unfold rightB keyB at h
  simp only [Bool.and_eq_true, decide_eq_true_eq] at h
  obtain ⟨⟨⟨⟨h1, h2, _⟩, h3⟩, h4⟩, h5⟩ := h
  exact ⟨h1, h2, by omega, h4, h5⟩

theorem encPost_bad {k v : ByteArray} {fl ex ca la : Int} {st wo : Bool} {w w' : World} (hr : rightB k v ex la = false) (hb : Below w.heap.size w w') :
    EncPost k v fl ex ca la st wo w (.returned (.tuple #[.slice none 0 0, .int .i64 1])) w' := by
  have e : encR k v fl ex ca la st wo = [] := by unfold encR; rw [if_neg (by rw [hr]; decide)]
  refine ⟨_, by rw [if_neg (by rw [hr]; decide)], ?_, hb⟩
  rw [e]
  exact World.ownsRow_nil _ _ _ _

set_option maxHeartbeats 500000 in
theorem encode_bad (k v : ByteArray) (fl ex ca la : Int) (st wo : Bool) (w : World) (hk : k.size ≤ maxLen) (hv : v.size ≤ maxLen) (hr : rightB k v ex la = false) :
    Calls Try.prog 11 #[.agg #[.string k, .int .u32 fl, .string v, .int .i64 ex, .int .u64 ca, .int .i64 la, .bool st, .bool wo]] w (EncPost k v fl ex ca la st wo w) := by
  have Hr := Lib.hid hr
  clear hr
  go_enter Try.func11, Try.ntmps11
  go_wp2_with (fail)
  refine (right_any k v fl ex ca la st wo _ hk hv).mono ?_
  rintro e w1 ⟨rfl, hb1⟩
  rw [Hr.out]
  go_wp2_with (fail)
  go_ret2
  exact encPost_bad Hr.out (((Below.refl _ _).alloc (Nat.le_refl _) _).trans (hb1.mono (by simp)))

set_option maxHeartbeats 500000 in
theorem refEncode_bad (k v : ByteArray) (fl ex ca la : Int) (st wo : Bool) (w : World) (hk : k.size ≤ maxLen) (hv : v.size ≤ maxLen) (hr : rightB k v ex la = false) :
    Calls Try.prog 10 #[.agg #[.string k, .int .u32 fl, .string v, .int .i64 ex, .int .u64 ca, .int .i64 la, .bool st, .bool wo]] w (EncPost k v fl ex ca la st wo w) := by
  have Hr := Lib.hid hr
  clear hr
  go_enter Try.func10, Try.ntmps10
  go_wp2_with (fail)
  refine (refRight_any k v fl ex ca la st wo _ hk hv).mono ?_
  rintro e w1 ⟨rfl, hb1⟩
  rw [Hr.out]
  go_wp2_with (fail)
  go_ret2
  exact encPost_bad Hr.out (((Below.refl _ _).alloc (Nat.le_refl _) _).trans (hb1.mono (by simp)))

/-- append of a text to a row of bytes of the call's own -/
theorem wp_appS {ops : Array Oper} {rest : List Oper} {o : Oper} {a : Act} {Q : Exit → Act → World → Prop} (w0 w : World) (hgd : o.guard = none) (sl x : Operand)
    (ho : o.op = .call { callee := .builtin .append, args := #[sl, x], argTypes := #[27, 9] }) (base : Nat) (v : Value) (n : Nat) (xs : List Int) (s : ByteArray)
    (hs : a.eval sl = v) (hown : w.ownsRow base 5 1 v n (xs.map (.int .u8))) (hx : a.eval x = .string s)
    (hbel : Below base w0 w) (hn : n + s.size < 1000000000000) (hpos : 0 < n) (hbase : base ≤ w.heap.size)
    (h : ∀ g cap w', w'.ownsRow base 5 1 (.slice (some ⟨g, 0, none⟩) (n + s.size) cap) (n + s.size) ((xs ++ strB s).map (.int .u8)) → Below base w0 w' → wpList Try.prog ops Q rest (a.put o.dst (.slice (some ⟨g, 0, none⟩) (n + s.size) cap)) w') :
    wpList Try.prog ops Q (o :: rest) a w := by
  obtain ⟨i0, hi, hz0, hz1, hz2⟩ := info_parts Try.info5
  refine Lib.wpList_append_own_string w hgd sl x 27 9 ho base 5 i0 Try.underlying27 Try.underlying9 hi hz0 hz1 hz2 v n _ hs hown s hx (by unfold maxLen; omega) (by omega) hbase ?_
  intro v' w' hown' hgrow hiff
  have hb' : Below base w0 w' := hbel.grown hgrow hbase (fun k hk => (hown.lt k hk).1)
  rcases hown'.2 with ⟨rfl, h0⟩ | ⟨g, cap, cur, rfl, _⟩
  · omega
  · exact h g cap w' (by rw [List.map_append, strB_cells]; exact hown') hb'

theorem low_at (base : Nat) (ad : Option Addr) (N cap M m : Nat) (xs : List Int) (n size : Int) (w : World) (hown : w.ownsRow base 5 1 (.slice ad N cap) N (xs.map (.int .u8))) (hbase : base ≤ w.heap.size) (h0 : 0 ≤ n) (h1 : n < 18446744073709551616) (hM : M = N + m) (hm : size = (m : Int)) (hm8 : m ≤ 8) (hN : N ≤ 1000000) :
    Calls Try.prog 17 #[.slice ad N cap, .int .u64 n, .int .i64 size] w fun e w' => ∃ ad' cap', e = .returned (.slice ad' M cap') ∧ w'.ownsRow base 5 1 (.slice ad' M cap') M ((xs ++ P.le m n).map (.int .u8)) ∧ Below base w w' := by
  subst hM hm
  have := low_any base ad N cap xs n m w hown hbase h0 h1 (by omega) (by omega) hN
  rw [Int.toNat_natCast] at this
  exact this

theorem encPost_own {k v : ByteArray} {fl ex ca la : Int} {st wo : Bool} {w w' : World} {B : Nat} {u : Value} {n : Nat} {l : List Int} (hr : rightB k v ex la = true)
    (ho : w'.ownsRow B 5 1 u n (l.map (.int .u8))) (hB : w.heap.size ≤ B) (hl : l = encL k v fl ex ca la st wo) (hb : Below w.heap.size w w') :
    EncPost k v fl ex ca la st wo w (.returned (.tuple #[u, .int .i64 0])) w' := by
  subst hl
  have hN : (encL k v fl ex ca la st wo).length = n := by have := ho.1; simpa using this
  subst hN
  have e : encR k v fl ex ca la st wo = encL k v fl ex ca la st wo := by unfold encR; rw [if_pos hr]
  refine ⟨_, by rw [if_pos hr], ?_, hb⟩
  rw [e]
  exact own_base ho hB

set_option maxHeartbeats 4000000 in
theorem refEncode_good (k v : ByteArray) (fl ex ca la : Int) (st wo : Bool) (w : World) (hk : k.size ≤ maxLen) (hv : v.size ≤ maxLen) (hr : rightB k v ex la = true) (hk1 : 1 ≤ k.size) (hk2 : k.size ≤ 250) (hv2 : v.size ≤ 65536) (hf0 : 0 ≤ fl) (hf1 : fl < 4294967296) (hx0 : 0 ≤ ex) (hx1 : ex ≤ 9223372036854775807) (hc0 : 0 ≤ ca) (hc1 : ca ≤ 18446744073709551615) (hl0 : 0 ≤ la) (hl1 : la ≤ 9223372036854775807) :
    Calls Try.prog 10 #[.agg #[.string k, .int .u32 fl, .string v, .int .i64 ex, .int .u64 ca, .int .i64 la, .bool st, .bool wo]] w (EncPost k v fl ex ca la st wo w) := by
  have Hr := Lib.hid hr
  clear hr
  have hw1 : IntKind.u64.wrap fl = fl := IntWalk.u64_in _ ⟨by omega, by omega⟩
  have hw2 : IntKind.u64.wrap (v.size : Int) = v.size := IntWalk.u64_in _ ⟨by omega, by omega⟩
  have hw3 : IntKind.u64.wrap ex = ex := IntWalk.u64_in _ ⟨by omega, by omega⟩
  have hw4 : IntKind.u64.wrap la = la := IntWalk.u64_in _ ⟨by omega, by omega⟩
  have hw5 : IntKind.u64.wrap (k.size : Int) = k.size := IntWalk.u64_in _ ⟨by omega, by omega⟩
  obtain ⟨bb, hbb⟩ : ∃ bb, bb = bitsI st wo := ⟨_, rfl⟩
  have hble := bitsI_le st wo
  rw [← hbb] at hble
  cases st <;> cases wo
  all_goals
    have hbv : bitsI _ _ = _ := hbb.symm
    have Hbb := Lib.hid hbb
    clear hbb hbv
    go_enter Try.func10, Try.ntmps10
    go_wp2_with (fail)
    refine (refRight_any k v fl ex ca la _ _ _ hk hv).mono ?_
    rintro e w1 ⟨rfl, hb1⟩
    rw [Hr.out]
    have hbox := (box_new w k v fl ex ca la _ _).below hb1 (by simp)
    have hbw : Below w.heap.size w w1 := ((Below.refl _ _).alloc (Nat.le_refl _) _).trans (hb1.mono (by simp))
    clear hb1
    obtain ⟨x0, x1, x2, x3, x4, x5, x6, x7, hgl⟩ := id hbox
    go_wp2_with (fail)
    have hx := hbox
    have hbB := hbw.size
    have hbase1 : w1.heap.size ≤ w1.heap.size := Nat.le_refl _
    have hbl1 := Below.refl w1.heap.size w1
    have ho1 := World.ownsRow_nil w1 w1.heap.size 5 1
    generalize hB : w1.heap.size = B at *
    refine (low_at B none 0 0 1 1 [] (k.size : Int) _ _ (by exact ho1) (by first | omega | exact hbase1) (by omega) (by omega) rfl rfl (by decide) (by decide)).mono ?_
    rintro e w2 ⟨ad2, cap2, rfl, ho2, hbb2⟩
    have hbl2 := hbl1.trans hbb2
    have hx2 := hx.below hbl2 hgl
    have hbase2 : B ≤ w2.heap.size := by have := hbb2.size; omega
    clear x0 x1 x2 x3 x4 x5 x6 x7
    obtain ⟨x0, x1, x2, x3, x4, x5, x6, x7, _⟩ := id hx2
    clear hbb2
    go_wp2_with (fail)
    refine (low_at B ad2 1 cap2 4 3 _ _ _ _ (by exact ho2) (by first | omega | exact hbase2) (by omega) (by omega) rfl rfl (by decide) (by decide)).mono ?_
    rintro e w3 ⟨ad3, cap3, rfl, ho3, hbb3⟩
    have hbl3 := hbl2.trans hbb3
    have hx3 := hx.below hbl3 hgl
    have hbase3 : B ≤ w3.heap.size := by have := hbb3.size; omega
    clear x0 x1 x2 x3 x4 x5 x6 x7
    obtain ⟨x0, x1, x2, x3, x4, x5, x6, x7, _⟩ := id hx3
    clear hbb3
    go_wp2_with (fail)
    refine (low_at B ad3 4 cap3 8 4 _ fl _ _ (by exact ho3) (by first | omega | exact hbase3) (by omega) (by omega) rfl rfl (by decide) (by decide)).mono ?_
    rintro e w4 ⟨ad4, cap4, rfl, ho4, hbb4⟩
    have hbl4 := hbl3.trans hbb4
    have hx4 := hx.below hbl4 hgl
    have hbase4 : B ≤ w4.heap.size := by have := hbb4.size; omega
    clear x0 x1 x2 x3 x4 x5 x6 x7
    obtain ⟨x0, x1, x2, x3, x4, x5, x6, x7, _⟩ := id hx4
    clear hbb4
    go_wp2_with (fail)
    refine (low_at B ad4 8 cap4 16 8 _ (v.size : Int) _ _ (by exact ho4) (by first | omega | exact hbase4) (by omega) (by omega) rfl rfl (by decide) (by decide)).mono ?_
    rintro e w5 ⟨ad5, cap5, rfl, ho5, hbb5⟩
    have hbl5 := hbl4.trans hbb5
    have hx5 := hx.below hbl5 hgl
    have hbase5 : B ≤ w5.heap.size := by have := hbb5.size; omega
    clear x0 x1 x2 x3 x4 x5 x6 x7
    obtain ⟨x0, x1, x2, x3, x4, x5, x6, x7, _⟩ := id hx5
    clear hbb5
    go_wp2_with (fail)
    refine (low_at B ad5 16 cap5 24 8 _ ex _ _ (by exact ho5) (by first | omega | exact hbase5) (by omega) (by omega) rfl rfl (by decide) (by decide)).mono ?_
    rintro e w6 ⟨ad6, cap6, rfl, ho6, hbb6⟩
    have hbl6 := hbl5.trans hbb6
    have hx6 := hx.below hbl6 hgl
    have hbase6 : B ≤ w6.heap.size := by have := hbb6.size; omega
    clear x0 x1 x2 x3 x4 x5 x6 x7
    obtain ⟨x0, x1, x2, x3, x4, x5, x6, x7, _⟩ := id hx6
    clear hbb6
    go_wp2_with (fail)
    refine (low_at B ad6 24 cap6 32 8 _ ca _ _ (by exact ho6) (by first | omega | exact hbase6) (by omega) (by omega) rfl rfl (by decide) (by decide)).mono ?_
    rintro e w7 ⟨ad7, cap7, rfl, ho7, hbb7⟩
    have hbl7 := hbl6.trans hbb7
    have hx7 := hx.below hbl7 hgl
    have hbase7 : B ≤ w7.heap.size := by have := hbb7.size; omega
    clear x0 x1 x2 x3 x4 x5 x6 x7
    obtain ⟨x0, x1, x2, x3, x4, x5, x6, x7, _⟩ := id hx7
    clear hbb7
    go_wp2_with (fail)
    refine (low_at B ad7 32 cap7 40 8 _ la _ _ (by exact ho7) (by first | omega | exact hbase7) (by omega) (by omega) rfl rfl (by decide) (by decide)).mono ?_
    rintro e w8 ⟨ad8, cap8, rfl, ho8, hbb8⟩
    have hbl8 := hbl7.trans hbb8
    have hx8 := hx.below hbl8 hgl
    have hbase8 : B ≤ w8.heap.size := by have := hbb8.size; omega
    clear x0 x1 x2 x3 x4 x5 x6 x7
    obtain ⟨x0, x1, x2, x3, x4, x5, x6, x7, _⟩ := id hx8
    clear hbb8
    go_wp2_with (first
      | (at_builtin; refine wp_appS w1 _ rfl _ _ rfl B _ 40 _ k rfl (by exact ho8) rfl hbl8 (by omega) (by omega) hbase8 ?_; intro g9 cap9 w9 ho9 hbl9; have y2 := (hbox.below hbl9 hgl).2.2.1; have hs9 := hbl9.size)
      | (at_builtin; refine wp_appS w1 _ rfl _ _ rfl B _ (40 + k.size) _ v rfl (by exact ho9) rfl hbl9 (by omega) (by omega) (by omega) ?_; intro g10 cap10 w10 ho10 hbl10))
    go_ret2
    refine encPost_own Hr.out ho10 hbB ?_ (hbw.trans (hbl10.mono hbB))
    simp [encL, bitsI, bitV]
theorem encode_any2 (k v : ByteArray) (fl ex ca la : Int) (st wo : Bool) (w : World) (hk : k.size ≤ maxLen) (hv : v.size ≤ maxLen) (hf0 : 0 ≤ fl) (hf1 : fl < 4294967296) (hx1 : ex ≤ 9223372036854775807) (hc0 : 0 ≤ ca) (hc1 : ca ≤ 18446744073709551615) (hl1 : la ≤ 9223372036854775807) :
    Calls Try.prog 11 #[.agg #[.string k, .int .u32 fl, .string v, .int .i64 ex, .int .u64 ca, .int .i64 la, .bool st, .bool wo]] w (EncPost k v fl ex ca la st wo w) := by
  cases hr : rightB k v ex la
  · exact encode_bad k v fl ex ca la st wo w hk hv hr
  · obtain ⟨h1, h2, h3, h4, h5⟩ := right_facts hr
    exact encode_any k v fl ex ca la st wo w hk hv hr h1 h2 h3 hf0 hf1 h4 hx1 hc0 hc1 h5 hl1

theorem refEncode_any (k v : ByteArray) (fl ex ca la : Int) (st wo : Bool) (w : World) (hk : k.size ≤ maxLen) (hv : v.size ≤ maxLen) (hf0 : 0 ≤ fl) (hf1 : fl < 4294967296) (hx1 : ex ≤ 9223372036854775807) (hc0 : 0 ≤ ca) (hc1 : ca ≤ 18446744073709551615) (hl1 : la ≤ 9223372036854775807) :
    Calls Try.prog 10 #[.agg #[.string k, .int .u32 fl, .string v, .int .i64 ex, .int .u64 ca, .int .i64 la, .bool st, .bool wo]] w (EncPost k v fl ex ca la st wo w) := by
  cases hr : rightB k v ex la
  · exact refEncode_bad k v fl ex ca la st wo w hk hv hr
  · obtain ⟨h1, h2, h3, h4, h5⟩ := right_facts hr
    exact refEncode_good k v fl ex ca la st wo w hk hv hr h1 h2 h3 hf0 hf1 h4 hx1 hc0 hc1 h5 hl1
end Go.Proofs.Ytiammgeahogdoaa
