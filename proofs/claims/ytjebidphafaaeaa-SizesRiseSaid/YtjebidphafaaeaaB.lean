/- sizes.New and ambryref05.New: contracts. -/
import Derived.Test.YtjebidphafaaeaaA
import Derived.Test.YtjebidphafaaeaaM
import Derived.Deep.DeepMust
namespace Go.Proofs.Ytjebidphafaaeaa
open Go.RowKit
set_option linter.unusedVariables false

theorem i64_and7 (n : Int) : bits .and .i64 n 7 = n % 8 := by
  have h127 : (BitVec.ofInt 64 7).toNat = 2 ^ 3 - 1 := by decide
  have key : (BitVec.ofInt 64 n &&& BitVec.ofInt 64 7).toNat = (n % ((2 ^ 64 : Nat) : Int)).toNat % 2 ^ 3 := by
    rw [BitVec.toNat_and, BitVec.toNat_ofInt, h127, Nat.and_two_pow_sub_one_eq_mod]
  show IntKind.i64.wrap ((BitVec.ofInt 64 n &&& BitVec.ofInt 64 7).toNat : Nat) = n % 8
  rw [key, IntKind.wrap_i64]
  omega

theorem and_m8 (n : Nat) (h : n < 9223372036854775808) : n &&& 18446744073709551608 = n / 8 * 8 := by
  apply Nat.eq_of_testBit_eq
  intro i
  rw [Nat.testBit_and]
  match i with
  | 0 => simp [Nat.testBit_zero]; omega
  | 1 => rw [Nat.testBit_succ, Nat.testBit_succ, Nat.testBit_succ]; simp [Nat.testBit_zero]; omega
  | 2 => rw [Nat.testBit_succ, Nat.testBit_succ, Nat.testBit_succ, Nat.testBit_succ, Nat.testBit_succ, Nat.testBit_succ]; simp [Nat.testBit_zero]; omega
  | i + 3 =>
    simp only [Nat.testBit_succ]
    have e1 : n / 8 * 8 / 2 / 2 / 2 = n / 8 := by omega
    have e2 : n / 2 / 2 / 2 = n / 8 := by omega
    have e3 : 18446744073709551608 / 2 / 2 / 2 = 2 ^ 61 - 1 := by decide
    rw [e1, e2, e3, Nat.testBit_two_pow_sub_one]
    by_cases hi : i < 61
    · simp [hi]
    · have : n / 8 < 2 ^ i := Nat.lt_of_lt_of_le (show n / 8 < 2 ^ 61 by omega) (Nat.pow_le_pow_right (by decide) (by omega))
      simp [hi, Nat.testBit_lt_two_pow this]

theorem i64_andNot7 (n : Nat) (h : n < 9223372036854775808) : bits .andNot .i64 (n : Int) 7 = ((n / 8 * 8 : Nat) : Int) := by
  show IntKind.i64.wrap ((BitVec.ofInt 64 (n : Int) &&& ~~~BitVec.ofInt 64 7).toNat : Int) = _
  have h1 : (~~~BitVec.ofInt 64 7).toNat = 18446744073709551608 := by decide
  have h2 : (BitVec.ofInt 64 (n : Int)).toNat = n := by
    rw [BitVec.ofInt_natCast, BitVec.toNat_ofNat]; exact Nat.mod_eq_of_lt (by omega)
  rw [BitVec.toNat_and, h1, h2, and_m8 n h, IntKind.wrap_i64]
  omega
theorem i64_andNot7' (n : Int) (h0 : 0 ≤ n) (h : n < 9223372036854775808) : bits .andNot .i64 n 7 = n / 8 * 8 := by
  obtain ⟨m, rfl⟩ := Int.eq_ofNat_of_zero_le h0
  rw [i64_andNot7 m (by omega)]; omega

theorem Try.info3 : (Try.prog.info? 3).map (fun i => (i.zero, i.size, i.bytes)) = some (some (.int .i64 0), 1, 8) := by kernel_rfl

def NewPost (p f : Int) (w : World) (e : Ending) (w' : World) : Prop :=
  ∃ v, e = .returned (.tuple #[v, .int .i64 (M.errno p f)]) ∧ w'.ownsRow w.heap.size 3 1 v (M.row p f).length ((M.row p f).map (.int .i64)) ∧ Below w.heap.size w w'

theorem newPost_bad {p f : Int} (h : M.Bad p f) (w : World) : NewPost p f w (.returned (.tuple #[.slice none 0 0, .int .i64 1])) w := by
  have h1 : M.errno p f = 1 := by unfold M.errno; rw [if_pos h]
  have h2 : M.row p f = [] := by unfold M.row; rw [if_pos h]
  exact ⟨_, by rw [h1], by rw [h2]; exact World.ownsRow_nil _ _ _ _, Below.refl _ _⟩

set_option maxHeartbeats 400000 in
theorem new_bad (p f : Int) (w : World) (h : M.Bad p f) : Calls Try.prog 9 #[.int .i64 p, .int .i64 f] w (NewPost p f w) := by
  by_cases h1 : p < 512
  · go_enter Try.func9, Try.ntmps9
    go_wp2
    go_ret2
    exact newPost_bad h _
  by_cases h2 : 65536 < p
  · go_enter Try.func9, Try.ntmps9
    go_wp2
    go_ret2
    exact newPost_bad h _
  have e7 := i64_and7 p
  by_cases h3 : p % 8 = 0
  · have h3' : (p % 8 != 0) = false := by simp [h3]
    have H3 := Lib.hid h3
    clear h3
    by_cases h4 : f < 105
    · go_enter Try.func9, Try.ntmps9
      go_wp2
      go_ret2
      exact newPost_bad h _
    by_cases h5 : 400 < f
    · go_enter Try.func9, Try.ntmps9
      go_wp2
      go_ret2
      exact newPost_bad h _
    exact absurd h (by unfold M.Bad; have := H3.out; omega)
  · have h3' : (p % 8 != 0) = true := by simp [h3]
    go_enter Try.func9, Try.ntmps9
    go_wp2
    go_ret2
    exact newPost_bad h _


/-- append of one int to a row of the call's own -/
theorem wp_app1 {ops : Array Oper} {rest : List Oper} {o : Oper} {a : Act} {Q : Exit → Act → World → Prop} (w0 w : World) (hgd : o.guard = none) (s x : Operand)
    (ho : o.op = .call { callee := .builtin .append, args := #[s, x], argTypes := #[23, 23] }) (base : Nat) (v : Value) (n : Nat) (xs : List Int) (u : Int)
    (hs : a.eval s = v) (hown : w.ownsRow base 3 1 v n (xs.map (.int .i64))) (hx : a.eval x = .slice (some ⟨w.heap.size, 0, none⟩) 1 1)
    (hbel : Below base w0 w) (hn : n < 1000000000000) (hbase : base ≤ w.heap.size)
    (h : ∀ g cap w', w'.ownsRow base 3 1 (.slice (some ⟨g, 0, none⟩) (n + 1) cap) (n + 1) ((xs ++ [u]).map (.int .i64)) → Below base w0 w' → wpList Try.prog ops Q rest (a.put o.dst (.slice (some ⟨g, 0, none⟩) (n + 1) cap)) w') :
    wpList Try.prog ops Q (o :: rest) a (w.alloc (.cells #[.int .i64 u] 3)) := by
  obtain ⟨i0, hi, hz0, hz1, hz2⟩ := info_parts Try.info3
  refine wpList_append_own _ hgd s x 23 ho base 3 i0 (.int .i64 0) 1 8 Try.underlying23 hi hz0 hz1 hz2 rfl (by decide) v n _ hs (hown.alloc _) ⟨w.heap.size, 0, none⟩ 1 1 [.int .i64 u] hx rfl ?_ ?_ ?_ ?_ ?_ ?_
  · intro j y hj
    match j, hj with
    | 0, hj => simp at hj; subst hj; simp [Addr.add]
  · intro y hy; simp at hy; subst hy; rfl
  · unfold maxLen; omega
  · omega
  · simp; omega
  · intro v' w' hown' hgrow hiff
    have hb' : Below base w0 w' := (hbel.alloc hbase _).grown hgrow (by simp; omega) (fun k hk => (hown.lt k hk).1)
    rcases hown'.2 with ⟨rfl, h0⟩ | ⟨g, cap, cur, rfl, _⟩
    · omega
    · exact h g cap w' (by simpa using hown') hb'

theorem newPost_good {p f : Int} (h : ¬ M.Bad p f) {w w' : World} {v : Value} {n : Nat} {l : List Int} (hr : M.row p f = l) (hn : l.length = n)
    (hown : w'.ownsRow w.heap.size 3 1 v n (l.map (.int .i64))) (hb : Below w.heap.size w w') : NewPost p f w (.returned (.tuple #[v, .int .i64 0])) w' := by
  subst hr hn
  exact ⟨v, by rw [show M.errno p f = 0 by unfold M.errno; rw [if_neg h]], hown, hb⟩

def lenV : Value → Nat | .slice _ n _ => n | _ => 0

set_option maxHeartbeats 400000 in
theorem new_good (p f : Int) (w : World) (h : ¬ M.Bad p f) : Calls Try.prog 9 #[.int .i64 p, .int .i64 f] w (NewPost p f w) := by
  have hb : 512 ≤ p ∧ p ≤ 65536 ∧ p % 8 = 0 ∧ 105 ≤ f ∧ f ≤ 400 := by unfold M.Bad at h; omega
  obtain ⟨h1, h2, h3, h4, h5⟩ := hb
  have e7 := i64_and7 p
  have h3' : (p % 8 != 0) = false := by simp [h3]
  have H3 := Lib.hid h3
  clear h3
  go_enter Try.func9, Try.ntmps9
  go_wp2
  go_loopw [6] (fun v wr => ∃ (g cap k : Nat) (pre : List Int) (x : Int), v = .slice (some ⟨g, 0, none⟩) (k + 1) cap ∧ k ≤ 61 ∧ pre.length = k ∧ wr.ownsRow w.heap.size 3 1 (.slice (some ⟨g, 0, none⟩) (k + 1) cap) (k + 1) ((pre ++ [x]).map (.int .i64)) ∧ 64 ≤ x ∧ x ≤ p / 2 ∧ pre ++ x :: M.gen f (p / 2) (61 - k) (M.step f x) = M.gen f (p / 2) 62 64 ∧ Below w.heap.size w wr) (fun v _ => 62 - lenV v)
  case atStart =>
    exact ⟨_, _, 0, [], 64, rfl, by omega, rfl, World.ownsRow_lit w #[.int .i64 64] 1 (Nat.le_refl _) (by unfold maxLen; omega) rfl, by omega, by omega, (M.gen_start f _ (by omega)).symm, (Below.refl _ _).alloc (Nat.le_refl _) _⟩
  case round =>
    obtain ⟨g, cap, k, pre, x, rfl, hk, hpl, hown, hx0, hx1, hgen, hbel⟩ := hrel
    have hsz := hbel.size
    have hlast := hown.cellAt k (by omega)
    have hlast2 : wr.cell? ⟨g, k, none⟩ = some (.int .i64 x) := by rw [hlast]; simp [← hpl]
    clear hlast
    have hm := M.mulf x f h4 h5 (by omega)
    have hao := i64_andNot7' (x * f / 100 + 7) (by omega) (by omega)
    have hst : M.step f x = max (x + 8) ((x * f / 100 + 7) / 8 * 8) := rfl
    have hif : (if x + 8 < (x * f / 100 + 7) / 8 * 8 then (x * f / 100 + 7) / 8 * 8 else x + 8) = M.step f x := by rw [hst]; split <;> omega
    have hs1 : M.step f x ≤ 200000 := by rw [hst]; omega
    have hs2 := M.step_ge f x
    clear hst
    have Hgen := Lib.hid hgen
    have Hpl := Lib.hid hpl
    clear hgen hpl
    by_cases hlt : k < 61
    · by_cases hbr : p / 2 < M.step f x
      · go_wp2_with (at_builtin; go_must (refine wp_app1 w wr rfl _ _ rfl w.heap.size (.slice (some ⟨g, 0, none⟩) (k + 1) cap) (k + 1) (pre ++ [x]) p rfl hown rfl hbel (by omega) (by omega) ?_); intro g' cap' w' hown' hbel')
        go_ret2
        refine newPost_good h (l := pre ++ [x] ++ [p]) ?_ (by simp [Hpl.out]) hown' hbel'
        unfold M.row; rw [if_neg h, ← Hgen.out, M.gen_neg _ _ _ _ (by omega)]
      · go_wp2_with (at_builtin; refine wp_app1 w wr rfl _ _ rfl w.heap.size (.slice (some ⟨g, 0, none⟩) (k + 1) cap) (k + 1) (pre ++ [x]) (M.step f x) rfl hown rfl hbel (by omega) (by omega) ?_; intro g' cap' w' hown' hbel')
        go_roundw
        case rel =>
          refine ⟨g', cap', k + 1, pre ++ [x], M.step f x, rfl, by omega, by simp [Hpl.out], hown', by omega, by omega, ?_, hbel'⟩
          rw [← Hgen.out, show 61 - k = (61 - (k + 1)) + 1 by omega, M.gen_pos _ _ _ _ (by omega)]
          simp
        case measure => simp [lenV]; omega
    · go_wp2_with (at_builtin; refine wp_app1 w wr rfl _ _ rfl w.heap.size (.slice (some ⟨g, 0, none⟩) (k + 1) cap) (k + 1) (pre ++ [x]) p rfl hown rfl hbel (by omega) (by omega) ?_; intro g' cap' w' hown' hbel')
      go_ret2
      refine newPost_good h (l := pre ++ [x] ++ [p]) ?_ (by simp [Hpl.out]) hown' hbel'
      unfold M.row; rw [if_neg h, ← Hgen.out, show 61 - k = 0 by omega, M.gen]
end Go.Proofs.Ytjebidphafaaeaa
