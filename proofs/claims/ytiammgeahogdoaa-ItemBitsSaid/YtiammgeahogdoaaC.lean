/- numbers and bytes: contracts. -/
import Derived.Test.YtiammgeahogdoaaB
import Derived.Test.YtiammgeahogdoaaP
namespace Go.Proofs.Ytiammgeahogdoaa
open Go.RowKit Go.PlainAid
set_option linter.unusedVariables false
set_option linter.unusedSimpArgs false

/-- the slice value v reads as the bytes l -/
def RB (w : World) (v : Value) (l : List Int) : Prop :=
  ∃ a cap, v = .slice a l.length cap ∧ (l ≠ [] → ∃ b o, a = some ⟨b, o, none⟩ ∧ ∀ i, i < l.length → w.cell? ⟨b, o + i, none⟩ = some (.int .u8 (l[i]?.getD 0)))

theorem pow8 (k : Nat) : (2 : Int) ^ (8 * k) = 256 ^ k := by rw [Int.pow_mul]; rfl

theorem or_step (A c : Int) (k : Nat) (a0 : 0 ≤ A) (a1 : A < 256 ^ k) (c0 : 0 ≤ c) (c1 : c < 256) (hk : k < 8) :
    bits .or .u64 A (IntKind.u64.wrap (c * 2 ^ (8 * k))) = A + 256 ^ k * c := by
  obtain ⟨a, rfl⟩ := Int.eq_ofNat_of_zero_le a0
  obtain ⟨d, rfl⟩ := Int.eq_ofNat_of_zero_le c0
  have e1 : (a : Int) < ((2 ^ (8 * k) : Nat) : Int) := by rw [← pow8] at a1; simpa using a1
  have e2 : a < 2 ^ (8 * k) := by omega
  have e3 : 2 ^ (8 * k) * 256 ≤ 2 ^ 64 := by
    rw [show (256 : Nat) = 2 ^ 8 by decide, ← Nat.pow_add]; exact Nat.pow_le_pow_right (by decide) (by omega)
  have e4 : d * 2 ^ (8 * k) < 2 ^ 64 := by
    have : d * 2 ^ (8 * k) ≤ 255 * 2 ^ (8 * k) := Nat.mul_le_mul_right _ (by omega)
    omega
  have e5 : (d : Int) * 2 ^ (8 * k) = ((d * 2 ^ (8 * k) : Nat) : Int) := by simp
  rw [e5, IntKind.wrap_u64, show ((d * 2 ^ (8 * k) : Nat) : Int) % 18446744073709551616 = ((d * 2 ^ (8 * k) : Nat) : Int) by omega, u64_or_nat _ _ (by omega) (by omega), P.or_disj _ _ _ e2, ← pow8]
  simp [Int.mul_comm]

set_option maxHeartbeats 400000 in
/-- item.get -/
theorem get_any (l : List Int) (v : Value) (w : World) (hr : RB w v l) (hb : P.Bytes l) (hl : l.length ≤ 8) :
    Calls Try.prog 21 #[v] w fun e w' => e = .returned (.int .u64 (P.num l)) ∧ w = w' := by
  obtain ⟨a, cap, rfl, hc⟩ := hr
  generalize hn : l.length = m at *
  have Hn := Lib.hid hn
  have Hc := Lib.hid hc
  clear hn hc
  go_enter Try.func21, Try.ntmps21
  go_wp2
  go_loop [2, 7] (fun n i => ∃ k : Nat, k ≤ m ∧ i = .int .i64 k ∧ n = .int .u64 (P.num (l.take k))) (fun _ i => m - (intOf i).toNat)
  case atStart => exact ⟨0, Nat.zero_le _, rfl, rfl⟩
  case round =>
    obtain ⟨k, hk, rfl, rfl⟩ := hrel
    by_cases hlt : k < m
    · obtain ⟨b1, o1, rfl, hcx⟩ := Hc.out (by intro h; rw [h] at Hn; have := Hn.out; simp at this; omega)
      have h1 := hcx k hlt
      clear hcx
      obtain ⟨b0, b1⟩ := hb.at k
      go_wp2
      have hnb := P.num_bound _ (hb.take k)
      rw [show (l.take k).length = k by have := Hn.out; simp; omega] at hnb
      have hnum : P.num (l.take (k + 1)) = P.num (l.take k) + 256 ^ k * (l[k]?.getD 0) := by
        rw [P.take_snoc l k (by have := Hn.out; omega), P.num_append, show (l.take k).length = k by have := Hn.out; simp; omega]; simp [P.num]
      go_round
      case rel => exact ⟨k + 1, by omega, by go_num, by rw [hnum, or_step _ _ k hnb.1 hnb.2 b0 b1 (by omega)]⟩
      case measure => simp [intOf]; omega
    · go_wp2
      go_ret
      exact ⟨ret_int (by rw [List.take_of_length_le (by have := Hn.out; omega)]), rfl⟩

set_option maxHeartbeats 400000 in
/-- item.put -/
theorem put_any (g off len N cap c base : Nat) (xs : List Int) (n : Int) (w : World) (hown : w.ownsRow base 5 1 (.slice (some ⟨g, 0, none⟩) N cap) N (xs.map (.int .u8))) (hfit : off + len ≤ N) (hlen : len ≤ 8) (h0 : 0 ≤ n) (h1 : n < 18446744073709551616) :
    Calls Try.prog 20 #[.slice (some ⟨g, off, none⟩) len c, .int .u64 n] w fun e w' => e = .returned (.tuple #[]) ∧ w'.ownsRow base 5 1 (.slice (some ⟨g, 0, none⟩) N cap) N ((P.splice xs off (P.le len n)).map (.int .u8)) ∧ Below base w w' := by
  have hgb := (hown.lt g rfl).1
  go_enter Try.func20, Try.ntmps20
  go_wp2
  go_loopw [7] (fun i wr => ∃ k : Nat, k ≤ len ∧ i = .int .i64 k ∧ wr.ownsRow base 5 1 (.slice (some ⟨g, 0, none⟩) N cap) N ((P.splice xs off (P.le k n)).map (.int .u8)) ∧ Below base w wr) (fun i _ => len - (intOf i).toNat)
  case atStart => exact ⟨0, by omega, rfl, by rw [P.le, P.splice_nil]; exact hown, Below.refl _ _⟩
  case round =>
    obtain ⟨k, hk, rfl, ho, hbl⟩ := hrel
    by_cases hlt : k < len
    · have hyl := ho.1
      obtain ⟨y, hc⟩ : ∃ y, wr.cell? ⟨g, off + k, none⟩ = some y := by rw [ho.cellAt (off + k) (by omega)]; exact ⟨_, List.getElem?_eq_getElem (by omega)⟩
      have hf := ho.frozenAt (off + k)
      clear hyl
      go_wp2
      go_roundw
      case rel =>
        refine ⟨k + 1, by omega, by go_num, ?_, hbl.setCell hgb _⟩
        have hst := (ho.stored (off + k) (.int .u8 (n / 2 ^ (8 * k) % 256))).1
        rw [pow8]
        rw [P.le_snoc, ← P.splice_snoc _ _ _ _ (by have := hown.1; simp at this; rw [P.le_len]; omega), P.le_len, List.map_set]
        rw [pow8] at hst
        exact hst
      case measure => simp [intOf]; omega
    · obtain rfl : k = len := by omega
      go_wp2
      go_end0
      exact ⟨rfl, ho, hbl⟩
end Go.Proofs.Ytiammgeahogdoaa
