/- an arena in memory: its reading functions. -/
import Derived.Test.YtfmgncajhjkdlaaRows
import Derived.Test.YtfmgncajhjkdlaaApl
import Derived.WalkKit
import Derived.WalkSpells
import Derived.WalkLawsBesides
import Derived.Lib.Hide
import Derived.Deep.QuietTactic
import Derived.BigQuiet
import Derived.Handy
import Derived.PlainAid
import Derived.Deep.DeepMust
import Derived.Laws.OwnMore
namespace Go.Proofs.Ytfmgncajhjkdlaa
open Go.RowKit Go.PlainAid
set_option linter.unusedVariables false
set_option linter.unusedSimpArgs false

theorem ret_int {k : IntKind} {a b : Int} (h : a = b) : Ending.returned (.int k a) = .returned (.int k b) := by rw [h]
theorem ret_bool {a b : Bool} (h : a = b) : Ending.returned (.bool a) = .returned (.bool b) := by rw [h]
theorem below_drewN {B : Nat} {a w : World} (h : Below B a w) (n : Nat) : Below B a (w.drewN n) := ⟨h.os, h.tape, h.output, h.size, h.block⟩

/-- an arena at block g: its size of a page, its bytes, its owners in block k -/
structure Ar (w : World) (g k np : Nat) (size : Int) (bv : Value) (ow bs : List Int) : Prop where
  box : w.heap[g]? = some (.cells #[.int .i64 size, bv, .slice (some ⟨k, 0, none⟩) np np] 75 (0, 0))
  own : w.ownsRow 0 3 1 (.slice (some ⟨k, 0, none⟩) np np) np (ow.map (.int .i64))
  byt : w.ownsRow 0 5 1 bv bs.length (bs.map (.int .u8))
  len : ow.length = np
  np1 : 1 ≤ np ∧ np ≤ 1024
  rng : AP.Rng ow
  siz : 512 ≤ size ∧ size ≤ 65536

theorem cell_of {w : World} {g : Nat} {cs : Array Value} {t : TypeId} {m : Nat × Nat} (h : w.heap[g]? = some (.cells cs t m)) (i : Nat) : w.cell? ⟨g, i, none⟩ = cs[i]? := cell_of_row w g i cs t m h

theorem own_int {w : World} {base g N cap : Nat} {r : List Int} (h : w.ownsRow base 3 1 (.slice (some ⟨g, 0, none⟩) N cap) N (r.map (.int .i64))) (i : Nat) (hi : i < N) :
    w.cell? ⟨g, i, none⟩ = some (.int .i64 (r[i]?.getD 0)) := by
  have hl : r.length = N := by simpa using h.1
  rw [h.cellAt i (by omega)]
  simp [show i < r.length by omega]

section
variable {w : World} {g k np : Nat} {size : Int} {bv : Value} {ow bs : List Int}
theorem Ar.c0 (h : Ar w g k np size bv ow bs) : w.cell? ⟨g, 0, none⟩ = some (.int .i64 size) := cell_of h.box 0
theorem Ar.c1 (h : Ar w g k np size bv ow bs) : w.cell? ⟨g, 1, none⟩ = some bv := cell_of h.box 1
theorem Ar.c2 (h : Ar w g k np size bv ow bs) : w.cell? ⟨g, 2, none⟩ = some (.slice (some ⟨k, 0, none⟩) np np) := cell_of h.box 2
theorem Ar.co (h : Ar w g k np size bv ow bs) (i : Nat) (hi : i < np) : w.cell? ⟨k, i, none⟩ = some (.int .i64 (ow[i]?.getD 0)) := own_int h.own i hi
end

set_option maxHeartbeats 400000 in
theorem owner_any {w : World} {g k np : Nat} {size : Int} {bv : Value} {ow bs : List Int} (h : Ar w g k np size bv ow bs) (p : Int) :
    Calls Try.prog 31 #[.pointer (some ⟨g, 0, none⟩), .int .i64 p] w fun e w' => e = .returned (.int .i64 (AP.owner ow p)) ∧ w = w' := by
  have c2 := h.c2
  have hnp := h.np1
  have hlen := Lib.hid h.len
  by_cases h0 : p < 0
  · have Hr := Lib.hid (AP.owner_out (ow := ow) (.inl h0))
    clear h
    go_enter Try.func31, Try.ntmps31
    go_wp2
    go_ret
    exact ⟨ret_int Hr.out.symm, rfl⟩
  · obtain ⟨q, rfl⟩ := Int.eq_ofNat_of_zero_le (Int.not_lt.1 h0)
    by_cases h1 : q < np
    · have hc := h.co q h1
      have hb := h.rng.at q
      have Hr := Lib.hid (AP.owner_at (ow := ow) (k := q) (by rw [hlen.out]; exact h1))
      clear h
      go_enter Try.func31, Try.ntmps31
      go_wp2
      go_ret
      exact ⟨ret_int Hr.out.symm, rfl⟩
    · have Hr := Lib.hid (AP.owner_out (ow := ow) (p := (q : Int)) (.inr (by rw [hlen.out]; omega)))
      clear h
      go_enter Try.func31, Try.ntmps31
      go_wp2
      go_ret
      exact ⟨ret_int Hr.out.symm, rfl⟩

set_option maxHeartbeats 400000 in
theorem page_any {w : World} {g k np : Nat} {size : Int} {bv : Value} {ow bs : List Int} (h : Ar w g k np size bv ow bs) :
    Calls Try.prog 38 #[.pointer (some ⟨g, 0, none⟩)] w fun e w' => e = .returned (.int .i64 size) ∧ w = w' := by
  have c0 := h.c0
  clear h
  go_enter Try.func38, Try.ntmps38
  go_wp2
  go_ret
  exact ⟨rfl, rfl⟩

set_option maxHeartbeats 400000 in
theorem granted_any {w : World} {g k np : Nat} {size : Int} {bv : Value} {ow bs : List Int} (h : Ar w g k np size bv ow bs) :
    Calls Try.prog 37 #[.pointer (some ⟨g, 0, none⟩)] w fun e w' => e = .returned (.int .i64 (AP.granted ow)) ∧ w = w' := by
  have c2 := h.c2
  have hnp := h.np1
  have hlen := Lib.hid h.len
  have hrng := Lib.hid h.rng
  have hco := Lib.hid h.co
  clear h
  go_enter Try.func37, Try.ntmps37
  go_wp2
  go_loop [3, 11] (fun n i => ∃ j : Nat, j ≤ np ∧ i = .int .i64 j ∧ n = .int .i64 (AP.granted (ow.take j))) (fun _ i => np - (intOf i).toNat)
  case atStart => exact ⟨0, Nat.zero_le _, rfl, rfl⟩
  case round =>
    obtain ⟨j, hj, rfl, rfl⟩ := hrel
    have hg := AP.granted_le (ow.take j)
    have hgl : ((ow.take j).length : Int) ≤ 1024 := by have := hlen.out; simp; omega
    by_cases hlt : j < np
    · have hc := hco.out j hlt
      have hb := hrng.out.at j
      have Hs := Lib.hid (AP.granted_snoc ow j (by rw [hlen.out]; exact hlt) hrng.out)
      by_cases h1 : ow[j]?.getD 0 ≤ 1
      · have Hm := Lib.hid (show min (ow[j]?.getD 0) 1 = ow[j]?.getD 0 by omega)
        go_wp2
        all_goals
          go_round
          case rel => exact ⟨j + 1, by omega, by go_num, by rw [Hs.out, Hm.out]⟩
          case measure => simp [intOf]; omega
      · have Hm := Lib.hid (show min (ow[j]?.getD 0) 1 = 1 by omega)
        go_wp2
        all_goals
          go_round
          case rel => exact ⟨j + 1, by omega, by go_num, by rw [Hs.out, Hm.out]⟩
          case measure => simp [intOf]; omega
    · have Ht := Lib.hid (show ow.take j = ow from List.take_of_length_le (by rw [hlen.out]; omega))
      go_wp2
      go_ret
      exact ⟨ret_int (by rw [Ht.out]), rfl⟩

set_option maxHeartbeats 400000 in
theorem index_any {w : World} {g k np : Nat} {size : Int} {bv : Value} {ow bs : List Int} (h : Ar w g k np size bv ow bs) :
    Calls Try.prog 54 #[.slice (some ⟨k, 0, none⟩) np np, .int .i64 0] w fun e w' => e = .returned (.int .i64 (AP.idx ow)) ∧ w = w' := by
  have hnp := h.np1
  have hlen := Lib.hid h.len
  have hco := Lib.hid h.co
  clear h
  go_enter Try.func54, Try.ntmps54
  go_wp2
  go_loop [8] (fun i => ∃ j : Nat, j ≤ np ∧ i = .int .i64 j ∧ ∀ q, q < j → ow[q]?.getD 0 ≠ 0) (fun i => np - (intOf i).toNat)
  case atStart => exact ⟨0, Nat.zero_le _, rfl, fun q hq => by omega⟩
  case round =>
    obtain ⟨j, hj, rfl, hall⟩ := hrel
    have Hall := Lib.hid hall
    clear hall
    by_cases hlt : j < np
    · have hc := hco.out j hlt
      by_cases h0 : ow[j]?.getD 0 = 0
      · have hl := AP.least_at Hall.out (by rw [hlen.out]; exact hlt) h0
        have Hr := Lib.hid (show AP.idx ow = (j : Int) by unfold AP.idx; rw [hl, hlen.out, if_pos hlt])
        clear hl
        have h0' : ((0 : Int) == ow[j]?.getD 0) = true := by simp [h0]
        clear h0
        go_wp2
        go_ret
        exact ⟨ret_int Hr.out.symm, rfl⟩
      · have h0' : ((0 : Int) == ow[j]?.getD 0) = false := by simp; omega
        have H0 := Lib.hid h0
        clear h0
        go_wp2
        go_round
        case rel =>
          refine ⟨j + 1, by omega, by go_num, fun q hq => ?_⟩
          rcases Nat.lt_succ_iff_lt_or_eq.1 hq with h | rfl
          · exact Hall.out q h
          · exact H0.out
        case measure => simp [intOf]; omega
    · have hl := AP.least_none (ow := ow) (fun q hq => Hall.out q (by rw [hlen.out] at hq; omega))
      have Hr := Lib.hid (show AP.idx ow = -1 by unfold AP.idx; rw [hl, if_neg (by omega)])
      clear hl
      go_wp2
      go_ret
      exact ⟨ret_int Hr.out.symm, rfl⟩
end Go.Proofs.Ytfmgncajhjkdlaa
