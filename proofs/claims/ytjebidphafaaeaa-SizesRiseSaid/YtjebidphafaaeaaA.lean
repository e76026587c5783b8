/- Reading functions over a slice of ints: contracts. -/
import Derived.Test.YtjebidphafaaeaaRows
import Derived.WalkKit
import Derived.WalkSpells
import Derived.WalkLawsBesides
import Derived.Lib.Hide
import Derived.Deep.QuietTactic
import Derived.BigQuiet
import Derived.Handy
namespace Go.Proofs.Ytjebidphafaaeaa
open Go.RowKit
set_option linter.unusedVariables false

theorem ret_int {k : IntKind} {a b : Int} (h : a = b) : Ending.returned (.int k a) = .returned (.int k b) := by rw [h]
theorem ret_bool {a b : Bool} (h : a = b) : Ending.returned (.bool a) = .returned (.bool b) := by rw [h]

/-- The slice value v reads as the ints xs. -/
def Reads (w : World) (v : Value) (xs : List Int) : Prop :=
  ∃ a cap, v = .slice a xs.length cap ∧ (xs ≠ [] → ∃ b o, a = some ⟨b, o, none⟩ ∧ ∀ i, i < xs.length → w.cell? ⟨b, o + i, none⟩ = some (.int .i64 (xs[i]?.getD 0)))


theorem getD_ext {xs ys : List Int} {n : Nat} (hx : xs.length = n) (hy : ys.length = n) (h : ∀ j, j < n → xs[j]?.getD 0 = ys[j]?.getD 0) : xs = ys := by
  apply List.ext_getElem (by omega)
  intro i h1 h2
  have := h i (by omega)
  simpa [List.getElem?_eq_getElem h1, List.getElem?_eq_getElem h2] using this

set_option maxHeartbeats 400000 in
/-- ambrylaw05.same -/
theorem same_any (xs ys : List Int) (u v : Value) (w : World) (hx : Reads w u xs) (hy : Reads w v ys) (hlx : xs.length ≤ maxLen) (hly : ys.length ≤ maxLen) :
    Calls Try.prog 11 #[u, v] w fun e w' => e = .returned (.bool (decide (xs = ys))) ∧ ∃ n, w' = w.drewN n := by
  unfold maxLen at hlx hly
  obtain ⟨a, ca, rfl, hx⟩ := hx
  obtain ⟨b, cb, rfl, hy⟩ := hy
  by_cases hl : xs.length = ys.length
  · generalize hn : xs.length = n at *
    generalize hm : ys.length = m at *
    subst hl
    have Hn := Lib.hid hn
    have Hm := Lib.hid hm
    clear hn hm
    have Hx := Lib.hid hx
    have Hy := Lib.hid hy
    clear hx hy
    go_enter Try.func11, Try.ntmps11
    go_wp2
    go_loopw [5] (fun i wr => ∃ k : Nat, k ≤ n ∧ i = .int .i64 k ∧ (∀ j, j < k → xs[j]?.getD 0 = ys[j]?.getD 0) ∧ ∃ q, wr = w.drewN q) (fun i _ => n - (intOf i).toNat)
    case atStart => exact ⟨0, Nat.zero_le _, rfl, fun j hj => by omega, 0, rfl⟩
    case round =>
      obtain ⟨k, hk, rfl, hall, q, rfl⟩ := hrel
      have Hall := Lib.hid hall
      clear hall
      by_cases hlt : k < n
      · obtain ⟨b1, o1, rfl, hcx⟩ := Hx.out (by intro h; rw [h] at Hn; have := Hn.out; simp at this; omega)
        obtain ⟨b2, o2, rfl, hcy⟩ := Hy.out (by intro h; rw [h] at Hm; have := Hm.out; simp at this; omega)
        have h1 := hcx k hlt
        have h2 := hcy k hlt
        clear hcx hcy
        by_cases he : xs[k]?.getD 0 = ys[k]?.getD 0
        · have He := Lib.hid he
          have h3 : (xs[k]?.getD 0 != ys[k]?.getD 0) = false := by simp [he]
          clear he
          go_wp2
          go_quiet (fail)
          go_wp2
          go_roundw
          case rel =>
            refine ⟨k + 1, by omega, by go_num, fun j hj => ?_, _, rfl⟩
            rcases Nat.lt_succ_iff_lt_or_eq.1 hj with h | rfl
            · exact Hall.out j h
            · exact He.out
          case measure => simp [intOf]; omega
        · have He := Lib.hid he
          have h3 : (xs[k]?.getD 0 != ys[k]?.getD 0) = true := by simp [he]
          clear he
          go_wp2
          go_quiet (fail)
          go_wp2
          go_ret
          exact ⟨ret_bool (by symm; apply decide_eq_false; rintro rfl; exact He.out rfl), q + nq, by simp⟩
      · go_wp2
        go_ret
        exact ⟨ret_bool (by symm; apply decide_eq_true; exact getD_ext Hn.out Hm.out (fun j hj => Hall.out j (by omega))), _, rfl⟩
  · have hle : ((xs.length : Int) != (ys.length : Int)) = true := by rw [bne_iff_ne]; omega
    have Hl := Lib.hid hl
    clear hl
    go_enter Try.func11, Try.ntmps11
    go_wp2
    go_ret
    exact ⟨ret_bool (by symm; apply decide_eq_false; rintro rfl; exact Hl.out rfl), 0, rfl⟩

/-- the least class -/
def cls : List Int → Int → Int
  | [], _ => -1
  | x :: l, n => if n ≤ x then 0 else (if cls l n = -1 then -1 else cls l n + 1)

theorem cls_ge (l : List Int) (n : Int) : -1 ≤ cls l n := by
  induction l with
  | nil => simp [cls]
  | cons x l ih => simp only [cls]; split <;> (try split) <;> omega

theorem cls_found : ∀ (l : List Int) (n : Int) (k : Nat), k < l.length → n ≤ l[k]?.getD 0 → (∀ j, j < k → l[j]?.getD 0 < n) → cls l n = k := by
  intro l
  induction l with
  | nil => intro n k hk; simp at hk
  | cons x l ih =>
    intro n k hk hn hj
    match k with
    | 0 => simp at hn; simp [cls, hn]
    | k + 1 =>
      have h0 := hj 0 (by omega)
      simp only [List.getElem?_cons_zero, Option.getD_some] at h0
      have := ih n k (by simpa using hk) (by simpa using hn) (fun j h => by simpa using hj (j + 1) (by omega))
      rw [cls, if_neg (by omega), this, if_neg (by omega)]; omega

theorem cls_none : ∀ (l : List Int) (n : Int), (∀ j, j < l.length → l[j]?.getD 0 < n) → cls l n = -1 := by
  intro l
  induction l with
  | nil => intro n _; rfl
  | cons x l ih =>
    intro n hj
    have h0 := hj 0 (by simp)
    simp only [List.getElem?_cons_zero, Option.getD_some] at h0
    have := ih n (fun j h => by simpa using hj (j + 1) (by simpa using h))
    rw [cls, if_neg (by omega), this, if_pos rfl]

set_option maxHeartbeats 400000 in
/-- ambryref05.Class -/
theorem refClass_any (xs : List Int) (n : Int) (v : Value) (w : World) (hx : Reads w v xs) (hlx : xs.length ≤ maxLen) :
    Calls Try.prog 13 #[v, .int .i64 n] w fun e w' => e = .returned (.int .i64 (cls xs n)) ∧ w = w' := by
  unfold maxLen at hlx
  obtain ⟨a, ca, rfl, hx⟩ := hx
  generalize hn : xs.length = m at *
  have Hn := Lib.hid hn
  have Hx := Lib.hid hx
  clear hn hx
  go_enter Try.func13, Try.ntmps13
  go_wp2
  go_loop [5] (fun i => ∃ k : Nat, k ≤ m ∧ i = .int .i64 k ∧ (∀ j, j < k → xs[j]?.getD 0 < n)) (fun i => m - (intOf i).toNat)
  case atStart => exact ⟨0, Nat.zero_le _, rfl, fun j hj => by omega⟩
  case round =>
    obtain ⟨k, hk, rfl, hall⟩ := hrel
    have Hall := Lib.hid hall
    clear hall
    by_cases hlt : k < m
    · obtain ⟨b1, o1, rfl, hcx⟩ := Hx.out (by intro h; rw [h] at Hn; have := Hn.out; simp at this; omega)
      have h1 := hcx k hlt
      clear hcx
      by_cases hc : n ≤ xs[k]?.getD 0
      · go_wp2
        go_ret
        exact ⟨ret_int (cls_found xs n k (by rw [Hn.out]; exact hlt) hc Hall.out).symm, rfl⟩
      · go_wp2
        go_round
        case rel =>
          refine ⟨k + 1, by omega, by go_num, fun j hj => ?_⟩
          rcases Nat.lt_succ_iff_lt_or_eq.1 hj with h | rfl
          · exact Hall.out j h
          · omega
        case measure => simp [intOf]; omega
    · go_wp2
      go_ret
      exact ⟨ret_int (cls_none xs n (fun j hj => Hall.out j (by have := Hn.out; omega))).symm, rfl⟩

/-- Per: both -/
def per (l : List Int) (c p : Int) : Int := if c < 0 ∨ (l.length : Int) ≤ c ∨ p < 1 ∨ l[c.toNat]?.getD 0 < 1 then 0 else p / l[c.toNat]?.getD 0

theorem quo_wrap (p x : Int) (hp : p ≤ 9223372036854775807) (h0 : 0 ≤ p) (hx : 1 ≤ x) : wrap64 (p.tdiv x) = p / x := by
  rw [Int.tdiv_eq_ediv_of_nonneg h0]
  have h1 : 0 ≤ p / x := Int.ediv_nonneg h0 (by omega)
  have h2 : p / x ≤ p := Int.ediv_le_self x h0
  exact IntWalk.wrap64_in _ ⟨by omega, by omega⟩

set_option maxHeartbeats 400000 in
theorem refPer_any (xs : List Int) (c p : Int) (v : Value) (w : World) (hx : Reads w v xs) (hlx : xs.length ≤ maxLen) (hpw : p ≤ 9223372036854775807) :
    Calls Try.prog 15 #[v, .int .i64 c, .int .i64 p] w fun e w' => e = .returned (.int .i64 (per xs c p)) ∧ ∃ n, w' = w.drewN n := by
  unfold maxLen at hlx
  obtain ⟨a, ca, rfl, hx⟩ := hx
  generalize hn : xs.length = m at *
  have Hn := Lib.hid hn
  have Hx := Lib.hid hx
  clear hn hx
  by_cases hc0 : c < 0
  · go_enter Try.func15, Try.ntmps15
    go_wp2
    go_ret
    exact ⟨ret_int (by rw [per, if_pos (.inl hc0)]), 0, rfl⟩
  obtain ⟨c, rfl⟩ := Int.eq_ofNat_of_zero_le (Int.not_lt.1 hc0)
  by_cases hc1 : m ≤ c
  · go_enter Try.func15, Try.ntmps15
    go_wp2
    go_ret
    exact ⟨ret_int (by rw [per, if_pos (.inr (.inl (by have := Hn.out; omega)))]), 0, rfl⟩
  obtain ⟨b1, o1, rfl, hcx⟩ := Hx.out (by intro h; rw [h] at Hn; have := Hn.out; simp at this; omega)
  have h1 := hcx c (by omega)
  clear hcx
  by_cases hp : p < 1
  · go_enter Try.func15, Try.ntmps15
    go_wp2
    go_ret
    exact ⟨ret_int (by rw [per, if_pos (.inr (.inr (.inl hp)))]), 0, rfl⟩
  by_cases hs : xs[c]?.getD 0 < 1
  · go_enter Try.func15, Try.ntmps15
    go_wp2
    go_ret
    exact ⟨ret_int (by rw [per, if_pos (.inr (.inr (.inr (by simpa using hs))))]), 0, rfl⟩
  · go_enter Try.func15, Try.ntmps15
    go_wp2
    go_ret
    exact ⟨ret_int (by rw [per, if_neg (by simp; have := Hn.out; omega)]; (try rw [quo_wrap p _ hpw (by omega) (by omega)]); simp), 0, rfl⟩

set_option maxHeartbeats 400000 in
theorem per_any (xs : List Int) (c p : Int) (v : Value) (w : World) (hx : Reads w v xs) (hlx : xs.length ≤ maxLen) (hpw : p ≤ 9223372036854775807) :
    Calls Try.prog 14 #[v, .int .i64 c, .int .i64 p] w fun e w' => e = .returned (.int .i64 (per xs c p)) ∧ ∃ n, w' = w.drewN n := by
  unfold maxLen at hlx
  obtain ⟨a, ca, rfl, hx⟩ := hx
  generalize hn : xs.length = m at *
  have Hn := Lib.hid hn
  have Hx := Lib.hid hx
  clear hn hx
  by_cases hc0 : c < 0
  · go_enter Try.func14, Try.ntmps14
    go_wp2
    go_ret
    exact ⟨ret_int (by rw [per, if_pos (.inl hc0)]), 0, rfl⟩
  obtain ⟨c, rfl⟩ := Int.eq_ofNat_of_zero_le (Int.not_lt.1 hc0)
  by_cases hc1 : m ≤ c
  · go_enter Try.func14, Try.ntmps14
    go_wp2
    go_ret
    exact ⟨ret_int (by rw [per, if_pos (.inr (.inl (by have := Hn.out; omega)))]), 0, rfl⟩
  obtain ⟨b1, o1, rfl, hcx⟩ := Hx.out (by intro h; rw [h] at Hn; have := Hn.out; simp at this; omega)
  have h1 := hcx c (by omega)
  clear hcx
  by_cases hm : xs[c]?.getD 0 < p
  · by_cases hs : xs[c]?.getD 0 < 1
    · go_enter Try.func14, Try.ntmps14
      go_wp2
      go_ret
      exact ⟨ret_int (by rw [per, if_pos (.inr (.inr (.inr (by simpa using hs))))]), 0, rfl⟩
    · go_enter Try.func14, Try.ntmps14
      go_wp2
      go_ret
      exact ⟨ret_int (by rw [per, if_neg (by simp; have := Hn.out; omega)]; (try rw [quo_wrap p _ hpw (by omega) (by omega)]); simp), 0, rfl⟩
  · by_cases hs : p < 1
    · go_enter Try.func14, Try.ntmps14
      go_wp2
      go_ret
      exact ⟨ret_int (by rw [per, if_pos (.inr (.inr (.inl (by omega))))]), 0, rfl⟩
    · go_enter Try.func14, Try.ntmps14
      go_wp2
      go_ret
      exact ⟨ret_int (by rw [per, if_neg (by simp; have := Hn.out; omega)]; (try rw [quo_wrap p _ hpw (by omega) (by omega)]); simp), 0, rfl⟩


set_option maxHeartbeats 400000 in
/-- slices.IndexFunc with the closure of sizes.Class -/
theorem indexFunc_any (xs : List Int) (n : Int) (v : Value) (g : Nat) (w : World) (hx : Reads w v xs) (hlx : xs.length ≤ maxLen) (hg : w.cell? ⟨g, 0, none⟩ = some (.int .i64 n)) :
    Calls Try.prog 16 #[v, .func (Fn.func 17) #[] #[.pointer (some ⟨g, 0, none⟩)]] w fun e w' => e = .returned (.int .i64 (cls xs n)) ∧ ∃ q, w' = w.drewN q := by
  unfold maxLen at hlx
  obtain ⟨a, ca, rfl, hx⟩ := hx
  generalize hn : xs.length = m at *
  have Hn := Lib.hid hn
  have Hx := Lib.hid hx
  clear hn hx
  go_enter Try.func16, Try.ntmps16
  go_wp2
  go_loop [8] (fun i => ∃ k : Nat, k ≤ m ∧ i = .int .i64 k ∧ (∀ j, j < k → xs[j]?.getD 0 < n)) (fun i => m - (intOf i).toNat)
  case atStart => exact ⟨0, Nat.zero_le _, rfl, fun j hj => by omega⟩
  case round =>
    obtain ⟨k, hk, rfl, hall⟩ := hrel
    have Hall := Lib.hid hall
    clear hall
    by_cases hlt : k < m
    · obtain ⟨b1, o1, rfl, hcx⟩ := Hx.out (by intro h; rw [h] at Hn; have := Hn.out; simp at this; omega)
      have h1 := hcx k hlt
      clear hcx
      by_cases hc : n ≤ xs[k]?.getD 0
      · go_wp2
        go_ret
        exact ⟨ret_int (cls_found xs n k (by rw [Hn.out]; exact hlt) hc Hall.out).symm, 0, rfl⟩
      · go_wp2
        go_round
        case rel =>
          refine ⟨k + 1, by omega, by go_num, fun j hj => ?_⟩
          rcases Nat.lt_succ_iff_lt_or_eq.1 hj with h | rfl
          · exact Hall.out j h
          · omega
        case measure => simp [intOf]; omega
    · go_wp2
      go_ret
      exact ⟨ret_int (cls_none xs n (fun j hj => Hall.out j (by have := Hn.out; omega))).symm, 0, rfl⟩
theorem class_any (xs : List Int) (n : Int) (v : Value) (w : World) (hx : Reads w v xs) (hlx : xs.length ≤ maxLen) :
    Calls Try.prog 12 #[v, .int .i64 n] w fun e w' => e = .returned (.int .i64 (cls xs n)) ∧ Below w.heap.size w w' := by
  unfold maxLen at hlx
  obtain ⟨a, ca, rfl, hx⟩ := hx
  generalize hn : xs.length = m at *
  have Hn := Lib.hid hn
  have Hx := Lib.hid hx
  clear hn hx
  go_enter Try.func12, Try.ntmps12
  go_wp2_with (fail)
  refine (indexFunc_any xs n _ _ _ ⟨a, ca, by rw [Hn.out], fun hne => ?_⟩ (by unfold maxLen; rw [Hn.out]; exact hlx) (by simp [go_sem])).mono ?_
  · obtain ⟨b, o, rfl, hc⟩ := Hx.out hne
    refine ⟨b, o, rfl, fun i hi => ?_⟩
    have := hc i (by rw [← Hn.out]; exact hi)
    rw [World.cell?_alloc_past]
    · exact this
    · exact World.block_lt_of_cell? _ _ this
  · rintro e w' ⟨rfl, q, rfl⟩
    go_wp2
    go_ret
    exact ⟨rfl, ⟨rfl, rfl, rfl, by simp, fun k hk => Below.heap_alloc _ _ _ hk⟩⟩
end Go.Proofs.Ytjebidphafaaeaa
