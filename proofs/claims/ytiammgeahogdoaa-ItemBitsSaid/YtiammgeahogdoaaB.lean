/- small functions on items: contracts. -/
import Derived.Test.YtiammgeahogdoaaK
namespace Go.Proofs.Ytiammgeahogdoaa
open Go.RowKit Go.PlainAid
set_option linter.unusedVariables false
set_option linter.unusedSimpArgs false

/-- may it be an item? -/
def rightB (k v : ByteArray) (ex la : Int) : Bool := keyB k && decide ((v.size : Int) ≤ 65536) && decide (0 ≤ ex) && decide (0 ≤ la)

set_option maxHeartbeats 400000 in
/-- item.right -/
theorem right_any (k v : ByteArray) (fl ex ca la : Int) (st wo : Bool) (w : World) (hk : k.size ≤ maxLen) (hv : v.size ≤ maxLen) :
    Calls Try.prog 18 #[.agg #[.string k, .int .u32 fl, .string v, .int .i64 ex, .int .u64 ca, .int .i64 la, .bool st, .bool wo]] w fun e w' => e = .returned (.bool (rightB k v ex la)) ∧ Below w.heap.size w w' := by
  have hkk := fun W => key_any k W hk
  have Hkk := Lib.hid hkk
  clear hkk
  unfold maxLen at hv
  cases hkb : keyB k
  all_goals
    have Hkb := Lib.hid hkb
    clear hkb
  · have hr : rightB k v ex la = false := by unfold rightB; rw [Hkb.out]; rfl
    have Hr := Lib.hid hr
    clear hr
    go_enter Try.func18, Try.ntmps18
    go_wp2_with (go_at_call 24; refine (Hkk.out _).mono ?_; rintro e w' ⟨rfl, rfl⟩; rw [Hkb.out])
    go_ret
    exact ⟨ret_bool Hr.out.symm, (Below.refl _ _).alloc (Nat.le_refl _) _⟩
  by_cases h1 : (v.size : Int) ≤ 65536
  · by_cases h2 : 0 ≤ ex
    · have hr : rightB k v ex la = decide (0 ≤ la) := by unfold rightB; rw [Hkb.out, decide_eq_true h1, decide_eq_true h2]; rfl
      have Hr := Lib.hid hr
      clear hr
      go_enter Try.func18, Try.ntmps18
      go_wp2_with (go_at_call 24; refine (Hkk.out _).mono ?_; rintro e w' ⟨rfl, rfl⟩; rw [Hkb.out])
      go_ret
      exact ⟨ret_bool Hr.out.symm, (Below.refl _ _).alloc (Nat.le_refl _) _⟩
    · have hr : rightB k v ex la = false := by unfold rightB; rw [decide_eq_false h2]; simp
      have Hr := Lib.hid hr
      clear hr
      go_enter Try.func18, Try.ntmps18
      go_wp2_with (go_at_call 24; refine (Hkk.out _).mono ?_; rintro e w' ⟨rfl, rfl⟩; rw [Hkb.out])
      go_ret
      exact ⟨ret_bool Hr.out.symm, (Below.refl _ _).alloc (Nat.le_refl _) _⟩
  · have hr : rightB k v ex la = false := by unfold rightB; rw [decide_eq_false h1]; simp
    have Hr := Lib.hid hr
    clear hr
    go_enter Try.func18, Try.ntmps18
    go_wp2_with (go_at_call 24; refine (Hkk.out _).mono ?_; rintro e w' ⟨rfl, rfl⟩; rw [Hkb.out])
    go_ret
    exact ⟨ret_bool Hr.out.symm, (Below.refl _ _).alloc (Nat.le_refl _) _⟩

set_option maxHeartbeats 400000 in
/-- ambryref08.Right -/
theorem refRight_any (k v : ByteArray) (fl ex ca la : Int) (st wo : Bool) (w : World) (hk : k.size ≤ maxLen) (hv : v.size ≤ maxLen) :
    Calls Try.prog 16 #[.agg #[.string k, .int .u32 fl, .string v, .int .i64 ex, .int .u64 ca, .int .i64 la, .bool st, .bool wo]] w fun e w' => e = .returned (.bool (rightB k v ex la)) ∧ Below w.heap.size w w' := by
  have hkk := fun W => refKey_any k W hk
  have Hkk := Lib.hid hkk
  clear hkk
  unfold maxLen at hv
  cases hkb : keyB k
  all_goals
    have Hkb := Lib.hid hkb
    clear hkb
  · have hr : rightB k v ex la = false := by unfold rightB; rw [Hkb.out]; rfl
    have Hr := Lib.hid hr
    clear hr
    go_enter Try.func16, Try.ntmps16
    go_wp2_with (go_at_call 23; refine (Hkk.out _).mono ?_; rintro e w' ⟨rfl, rfl⟩; rw [Hkb.out])
    go_ret
    exact ⟨ret_bool Hr.out.symm, (Below.refl _ _).alloc (Nat.le_refl _) _⟩
  by_cases h1 : (v.size : Int) ≤ 65536
  · by_cases h2 : 0 ≤ ex
    · have hr : rightB k v ex la = decide (0 ≤ la) := by unfold rightB; rw [Hkb.out, decide_eq_true h1, decide_eq_true h2]; rfl
      have Hr := Lib.hid hr
      clear hr
      go_enter Try.func16, Try.ntmps16
      go_wp2_with (go_at_call 23; refine (Hkk.out _).mono ?_; rintro e w' ⟨rfl, rfl⟩; rw [Hkb.out])
      go_ret
      exact ⟨ret_bool Hr.out.symm, (Below.refl _ _).alloc (Nat.le_refl _) _⟩
    · have hr : rightB k v ex la = false := by unfold rightB; rw [decide_eq_false h2]; simp
      have Hr := Lib.hid hr
      clear hr
      go_enter Try.func16, Try.ntmps16
      go_wp2_with (go_at_call 23; refine (Hkk.out _).mono ?_; rintro e w' ⟨rfl, rfl⟩; rw [Hkb.out])
      go_ret
      exact ⟨ret_bool Hr.out.symm, (Below.refl _ _).alloc (Nat.le_refl _) _⟩
  · have hr : rightB k v ex la = false := by unfold rightB; rw [decide_eq_false h1]; simp
    have Hr := Lib.hid hr
    clear hr
    go_enter Try.func16, Try.ntmps16
    go_wp2_with (go_at_call 23; refine (Hkk.out _).mono ?_; rintro e w' ⟨rfl, rfl⟩; rw [Hkb.out])
    go_ret
    exact ⟨ret_bool Hr.out.symm, (Below.refl _ _).alloc (Nat.le_refl _) _⟩

/-- the size of an item -/
def szI (k v : Int) : Int := if k < 0 ∨ v < 0 ∨ 65536 < k ∨ 65536 < v then -1 else 40 + k + v

set_option maxHeartbeats 400000 in
/-- item.Size -/
theorem size_any (k v : Int) (w : World) : Calls Try.prog 12 #[.int .i64 k, .int .i64 v] w fun e w' => e = .returned (.int .i64 (szI k v)) ∧ w = w' := by
  by_cases h1 : k < 0 <;> by_cases h2 : v < 0 <;> by_cases h3 : 65536 < k <;> by_cases h4 : 65536 < v
  all_goals first
    | (exfalso; omega)
    | (have Hs := Lib.hid (show szI k v = -1 by unfold szI; exact if_pos (by omega))
       by_cases h5 : k < v <;> by_cases h6 : v < k
       all_goals first
        | (exfalso; omega)
        | (go_enter Try.func12, Try.ntmps12
           go_wp2
           go_ret
           exact ⟨ret_int Hs.out.symm, rfl⟩))
    | (have Hs := Lib.hid (show szI k v = 40 + k + v by unfold szI; exact if_neg (by omega))
       by_cases h5 : k < v <;> by_cases h6 : v < k
       all_goals first
        | (exfalso; omega)
        | (go_enter Try.func12, Try.ntmps12
           go_wp2
           go_ret
           exact ⟨ret_int Hs.out.symm, rfl⟩))

set_option maxHeartbeats 400000 in
/-- ambryref08.Size -/
theorem refSize_any (k v : Int) (w : World) : Calls Try.prog 13 #[.int .i64 k, .int .i64 v] w fun e w' => e = .returned (.int .i64 (szI k v)) ∧ w = w' := by
  by_cases h1 : k < 0 <;> by_cases h2 : v < 0 <;> by_cases h3 : 65536 < k <;> by_cases h4 : 65536 < v
  all_goals first
    | (exfalso; omega)
    | (have Hs := Lib.hid (show szI k v = -1 by unfold szI; exact if_pos (by omega))
       go_enter Try.func13, Try.ntmps13
       go_wp2
       go_ret
       exact ⟨ret_int Hs.out.symm, rfl⟩)
    | (have Hs := Lib.hid (show szI k v = 40 + k + v by unfold szI; exact if_neg (by omega))
       go_enter Try.func13, Try.ntmps13
       go_wp2
       go_ret
       exact ⟨ret_int Hs.out.symm, rfl⟩)

/-- item.bit -/
theorem bit_any (b : Bool) (n : Int) (w : World) : Calls Try.prog 19 #[.bool b, .int .u8 n] w fun e w' => e = .returned (.int .u8 (if b then n else 0)) ∧ w = w' := by
  cases b
  all_goals
    go_enter Try.func19, Try.ntmps19
    go_wp2
    go_ret
    exact ⟨rfl, rfl⟩
end Go.Proofs.Ytiammgeahogdoaa
