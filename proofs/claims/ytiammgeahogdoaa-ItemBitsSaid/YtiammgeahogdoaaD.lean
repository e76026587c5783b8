/- ambryref08.low and number: contracts. -/
import Derived.Test.YtiammgeahogdoaaC
namespace Go.Proofs.Ytiammgeahogdoaa
open Go.RowKit Go.PlainAid
set_option linter.unusedVariables false
set_option linter.unusedSimpArgs false

theorem Try.info5 : (Try.prog.info? 5).map (fun i => (i.zero, i.size, i.bytes)) = some (some (.int .u8 0), 1, 1) := by kernel_rfl

/-- append of what lies at an address to a row of bytes of the call's own -/
theorem wp_app {ops : Array Oper} {rest : List Oper} {o : Oper} {a : Act} {Q : Exit → Act → World → Prop} (w0 w : World) (hgd : o.guard = none) (s x : Operand)
    (ho : o.op = .call { callee := .builtin .append, args := #[s, x], argTypes := #[27, 27] }) (base : Nat) (v : Value) (n : Nat) (xs : List Int) (ys : List Int) (ad : Addr) (c : Nat)
    (hs : a.eval s = v) (hown : w.ownsRow base 5 1 v n (xs.map (.int .u8))) (hx : a.eval x = .slice (some ad) ys.length c) (hcell : ∀ j, j < ys.length → w.cell? (ad.add j) = some (.int .u8 (ys[j]?.getD 0)))
    (hbel : Below base w0 w) (hn : n + ys.length < 1000000000000) (hpos : 0 < n + ys.length) (hbase : base ≤ w.heap.size)
    (h : ∀ g cap w', w'.ownsRow base 5 1 (.slice (some ⟨g, 0, none⟩) (n + ys.length) cap) (n + ys.length) ((xs ++ ys).map (.int .u8)) → Below base w0 w' → wpList Try.prog ops Q rest (a.put o.dst (.slice (some ⟨g, 0, none⟩) (n + ys.length) cap)) w') :
    wpList Try.prog ops Q (o :: rest) a w := by
  obtain ⟨i0, hi, hz0, hz1, hz2⟩ := info_parts Try.info5
  refine wpList_append_own _ hgd s x 27 ho base 5 i0 (.int .u8 0) 1 1 Try.underlying27 hi hz0 hz1 hz2 rfl (by decide) v n _ hs hown ad ys.length c (ys.map (.int .u8)) hx (by simp) ?_ ?_ ?_ ?_ hbase ?_
  · intro j y hj
    have hjl : j < ys.length := by have := (List.getElem?_eq_some_iff.1 hj).1; simpa using this
    rw [hcell j hjl]
    simp [hjl] at hj ⊢
    exact hj
  · intro y hy
    obtain ⟨z, _, rfl⟩ := List.mem_map.1 hy
    rfl
  · unfold maxLen; omega
  · omega
  · intro v' w' hown' hgrow hiff
    have hb' : Below base w0 w' := hbel.grown hgrow hbase (fun k hk => (hown.lt k hk).1)
    rcases hown'.2 with ⟨rfl, h0⟩ | ⟨g, cap, cur, rfl, _⟩
    · omega
    · exact h g cap w' (by simpa using hown') hb'

/-- append of one byte -/
theorem wp_app1 {ops : Array Oper} {rest : List Oper} {o : Oper} {a : Act} {Q : Exit → Act → World → Prop} (w0 w : World) (hgd : o.guard = none) (s x : Operand)
    (ho : o.op = .call { callee := .builtin .append, args := #[s, x], argTypes := #[27, 27] }) (base : Nat) (v : Value) (n : Nat) (xs : List Int) (u : Int)
    (hs : a.eval s = v) (hown : w.ownsRow base 5 1 v n (xs.map (.int .u8))) (hx : a.eval x = .slice (some ⟨w.heap.size, 0, none⟩) 1 1)
    (hbel : Below base w0 w) (hn : n + 1 < 1000000000000) (hbase : base ≤ w.heap.size)
    (h : ∀ g cap w', w'.ownsRow base 5 1 (.slice (some ⟨g, 0, none⟩) (n + 1) cap) (n + 1) ((xs ++ [u]).map (.int .u8)) → Below base w0 w' → wpList Try.prog ops Q rest (a.put o.dst (.slice (some ⟨g, 0, none⟩) (n + 1) cap)) w') :
    wpList Try.prog ops Q (o :: rest) a (w.alloc (.cells #[.int .u8 u] 5)) := by
  refine wp_app w0 (w.alloc (.cells #[.int .u8 u] 5)) hgd s x ho base v n xs [u] ⟨w.heap.size, 0, none⟩ 1 hs (hown.alloc _) hx ?_ (hbel.alloc hbase _) hn (by simp) (by simp; omega) h
  intro j hj
  obtain rfl : j = 0 := by simpa using hj
  simp [Addr.add]

def lenV : Value → Nat | .slice _ n _ => n | _ => 0

set_option maxHeartbeats 400000 in
/-- ambryref08.low -/
theorem low_any (base : Nat) (ad : Option Addr) (N cap : Nat) (xs : List Int) (n size : Int) (w : World) (hown : w.ownsRow base 5 1 (.slice ad N cap) N (xs.map (.int .u8))) (hbase : base ≤ w.heap.size) (h0 : 0 ≤ n) (h1 : n < 18446744073709551616) (hs0 : 0 ≤ size) (hs : size ≤ 8) (hN : N ≤ 1000000) :
    Calls Try.prog 17 #[.slice ad N cap, .int .u64 n, .int .i64 size] w fun e w' => ∃ ad' cap', e = .returned (.slice ad' (N + size.toNat) cap') ∧ w'.ownsRow base 5 1 (.slice ad' (N + size.toNat) cap') (N + size.toNat) ((xs ++ P.le size.toNat n).map (.int .u8)) ∧ Below base w w' := by
  obtain ⟨m, rfl⟩ := Int.eq_ofNat_of_zero_le hs0
  rw [Int.toNat_natCast]
  go_enter Try.func17, Try.ntmps17
  go_wp2
  go_loopw [0, 1, 7] (fun v u i wr => ∃ (k : Nat) (ad' : Option Addr) (cap' : Nat) (y : Int), k ≤ m ∧ i = .int .i64 k ∧ v = .slice ad' (N + k) cap' ∧ u = .int .u64 y ∧ 0 ≤ y ∧ y < 18446744073709551616 ∧ P.le k n ++ P.le (m - k) y = P.le m n ∧ wr.ownsRow base 5 1 (.slice ad' (N + k) cap') (N + k) ((xs ++ P.le k n).map (.int .u8)) ∧ Below base w wr) (fun _ _ i _ => m - (intOf i).toNat)
  case atStart => exact ⟨0, ad, cap, n, by omega, rfl, rfl, rfl, h0, h1, rfl, by simpa [P.le] using hown, Below.refl _ _⟩
  case round =>
    obtain ⟨k, ad', cap', y, hk, rfl, rfl, rfl, hy0, hy1, hle, ho, hbl⟩ := hrel
    have hsz := hbl.size
    have Hle := Lib.hid hle
    clear hle
    by_cases hlt : k < m
    · go_wp2_with (at_builtin; go_must (refine wp_app1 w wr rfl _ _ rfl base (.slice ad' (N + k) cap') (N + k) (xs ++ P.le k n) (y % 256) rfl ho rfl hbl (by omega) (by omega) ?_); intro g2 cap2 w2 hown2 hbel2)
      have hl2 := Hle.out
      rw [show m - k = (m - (k + 1)) + 1 by omega, P.le] at hl2
      have hlk : P.le (k + 1) n = P.le k n ++ [y % 256] := by
        have e1 : P.le m n = P.le (k + 1) n ++ (P.le m n).drop (k + 1) := P.le_split m (k + 1) n (by omega)
        rw [e1] at hl2
        rw [P.le_snoc] at hl2 ⊢
        simp only [List.append_assoc, List.cons_append, List.nil_append] at hl2
        have := List.append_cancel_left hl2
        simp at this
        rw [this.1]
      go_roundw
      case rel =>
        refine ⟨k + 1, _, cap2, y / 256, by omega, by go_num, rfl, rfl, by omega, by omega, ?_, ?_, hbel2⟩
        · rw [hlk, ← hl2]; simp
        · rw [hlk, ← List.append_assoc]; exact hown2
      case measure => simp [intOf]; omega
    · obtain rfl : k = m := by omega
      go_wp2
      go_ret
      exact ⟨ad', cap', rfl, ho, hbl⟩

set_option maxHeartbeats 400000 in
/-- ambryref08.number -/
theorem number_any (l : List Int) (v : Value) (w : World) (hr : RB w v l) (hb : P.Bytes l) (hl : l.length ≤ 8) :
    Calls Try.prog 22 #[v] w fun e w' => e = .returned (.int .u64 (P.num l)) ∧ w = w' := by
  obtain ⟨a, cap, rfl, hc⟩ := hr
  generalize hn : l.length = m at *
  have Hn := Lib.hid hn
  have Hc := Lib.hid hc
  clear hn hc
  go_enter Try.func22, Try.ntmps22
  go_wp2
  go_loop [3, 4] (fun n i => ∃ k : Nat, k ≤ m ∧ i = .int .i64 ((k : Int) - 1) ∧ n = .int .u64 (P.num (l.drop k))) (fun _ i => (intOf i + 1).toNat)
  case atStart => exact ⟨m, by omega, rfl, by rw [List.drop_of_length_le (by have := Hn.out; omega)]; rfl⟩
  case round =>
    obtain ⟨k, hk, rfl, rfl⟩ := hrel
    by_cases hlt : 0 < k
    · obtain ⟨k, rfl⟩ : ∃ j, k = j + 1 := ⟨k - 1, by omega⟩
      obtain ⟨b1, o1, rfl, hcx⟩ := Hc.out (by intro h; rw [h] at Hn; have := Hn.out; simp at this; omega)
      have h1 := hcx k (by omega)
      clear hcx
      obtain ⟨b0, b1⟩ := hb.at k
      have hnb := P.num_bound _ (hb.drop (k + 1))
      have hpw : P.num (l.drop (k + 1)) < 72057594037927936 := by
        refine Int.lt_of_lt_of_le hnb.2 (?_ : (256 : Int) ^ (l.drop (k + 1)).length ≤ 256 ^ 7)
        exact P.pow_le (by have := Hn.out; simp; omega)
      have hnum : P.num (l.drop k) = l[k]?.getD 0 + 256 * P.num (l.drop (k + 1)) := by
        rw [List.drop_eq_getElem_cons (by have := Hn.out; omega)]; simp [P.num, show k < l.length by have := Hn.out; omega]
      have Hnum := Lib.hid hnum
      obtain ⟨hnb0, _⟩ := hnb
      clear hnum
      go_wp2
      go_round
      case rel => exact ⟨k, by omega, by go_num, by rw [Hnum.out]; go_num⟩
      case measure => simp [intOf]
    · obtain rfl : k = 0 := by omega
      go_wp2
      go_ret
      exact ⟨rfl, rfl⟩
end Go.Proofs.Ytiammgeahogdoaa
