/- bytes and numbers, plainly: no program in sight. -/
import GoSem.Claim
namespace Go.Proofs.Ytiammgeahogdoaa.P

/-- the lowest m bytes of a number, the lowest first -/
def le : Nat → Int → List Int
  | 0, _ => []
  | m + 1, n => n % 256 :: le m (n / 256)
/-- the number of bytes, the lowest first -/
def num : List Int → Int
  | [] => 0
  | c :: l => c + 256 * num l
/-- all are bytes -/
def Bytes (l : List Int) : Prop := ∀ x ∈ l, 0 ≤ x ∧ x < 256

theorem le_len : ∀ (m : Nat) (n : Int), (le m n).length = m := by
  intro m; induction m with
  | zero => intro n; rfl
  | succ m ih => intro n; simp [le, ih]
theorem le_bytes : ∀ (m : Nat) (n : Int), Bytes (le m n) := by
  intro m; induction m with
  | zero => intro n x hx; simp [le] at hx
  | succ m ih =>
    intro n x hx
    rcases List.mem_cons.1 (by simpa [le] using hx) with rfl | h
    · omega
    · exact ih _ x h
theorem le_snoc : ∀ (m : Nat) (n : Int), le (m + 1) n = le m n ++ [n / 256 ^ m % 256] := by
  intro m; induction m with
  | zero => intro n; simp [le]
  | succ m ih =>
    intro n
    rw [le, ih, le]
    simp only [List.cons_append]
    rw [Int.ediv_ediv_of_nonneg (by decide), Int.pow_succ, Int.mul_comm]
theorem num_le : ∀ (m : Nat) (n : Int), 0 ≤ n → n < 256 ^ m → num (le m n) = n := by
  intro m; induction m with
  | zero => intro n h0 h1; simp [le, num] at *; omega
  | succ m ih =>
    intro n h0 h1
    rw [Int.pow_succ] at h1
    rw [le, num, ih (n / 256) (by omega) (by omega)]; omega
theorem le_num : ∀ (l : List Int), Bytes l → le l.length (num l) = l := by
  intro l; induction l with
  | nil => intro _; rfl
  | cons c l ih =>
    intro h
    have h1 := h c (by simp)
    have h2 := ih (fun x hx => h x (by simp [hx]))
    simp only [List.length_cons, le, num]
    rw [show (c + 256 * num l) % 256 = c by omega, show (c + 256 * num l) / 256 = num l by omega, h2]
theorem num_bound : ∀ (l : List Int), Bytes l → 0 ≤ num l ∧ num l < 256 ^ l.length := by
  intro l; induction l with
  | nil => intro _; simp [num]
  | cons c l ih =>
    intro h
    have h1 := h c (by simp)
    have h2 := ih (fun x hx => h x (by simp [hx]))
    simp only [num, List.length_cons, Int.pow_succ]
    omega
theorem num_append : ∀ (a b : List Int), num (a ++ b) = num a + 256 ^ a.length * num b := by
  intro a; induction a with
  | nil => intro b; simp [num]
  | cons c l ih =>
    intro b
    simp only [List.cons_append, num, ih, List.length_cons, Int.pow_succ]
    rw [Int.mul_add, ← Int.mul_assoc, Int.mul_comm (256 ^ l.length) 256]; omega
theorem Bytes.take {l : List Int} (h : Bytes l) (k : Nat) : Bytes (l.take k) := fun x hx => h x (List.mem_of_mem_take hx)
theorem Bytes.drop {l : List Int} (h : Bytes l) (k : Nat) : Bytes (l.drop k) := fun x hx => h x (List.mem_of_mem_drop hx)
theorem Bytes.append {a b : List Int} (h : Bytes a) (k : Bytes b) : Bytes (a ++ b) := fun x hx => by
  rcases List.mem_append.1 hx with h1 | h1
  · exact h x h1
  · exact k x h1
theorem Bytes.at {l : List Int} (h : Bytes l) (i : Nat) : 0 ≤ l[i]?.getD 0 ∧ l[i]?.getD 0 < 256 := by
  by_cases hi : i < l.length
  · simp [hi]; exact h _ (by simp)
  · simp [hi]

theorem le_split : ∀ (m k : Nat) (n : Int), k ≤ m → le m n = le k n ++ (le m n).drop k := by
  intro m; induction m with
  | zero => intro k n hk; obtain rfl : k = 0 := by omega
            rfl
  | succ m ih =>
    intro k n hk
    match k with
    | 0 => rfl
    | k + 1 => simp only [le, List.cons_append, List.drop_succ_cons]; rw [← ih k _ (by omega)]
theorem pow_le {a b : Nat} (h : a ≤ b) : (256 : Int) ^ a ≤ 256 ^ b := by
  have := Nat.pow_le_pow_right (n := 256) (by decide) h
  have e : ∀ c : Nat, (256 : Int) ^ c = ((256 ^ c : Nat) : Int) := fun c => by simp
  rw [e, e]; omega

/-- ys laid over xs from off on -/
def splice (xs : List Int) (off : Nat) (ys : List Int) : List Int := xs.take off ++ ys ++ xs.drop (off + ys.length)
theorem splice_nil (xs : List Int) (off : Nat) : splice xs off [] = xs := by simp [splice]
theorem splice_snoc (xs : List Int) (off : Nat) (ys : List Int) (b : Int) (h : off + ys.length < xs.length) : (splice xs off ys).set (off + ys.length) b = splice xs off (ys ++ [b]) := by
  unfold splice
  have hl : (xs.take off ++ ys).length = off + ys.length := by simp; omega
  rw [List.set_append_right _ _ (by omega), hl, Nat.sub_self]
  have hd : xs.drop (off + ys.length) = xs[off + ys.length] :: xs.drop (off + ys.length + 1) := List.drop_eq_getElem_cons h
  rw [hd]
  simp [Nat.add_assoc]
theorem splice_len (xs : List Int) (off : Nat) (ys : List Int) (h : off + ys.length ≤ xs.length) : (splice xs off ys).length = xs.length := by
  simp [splice]; omega

theorem or_disj (a c k : Nat) (ha : a < 2 ^ k) : a ||| (c * 2 ^ k) = a + c * 2 ^ k := by
  have h := Nat.two_pow_add_eq_or_of_lt ha c
  rw [Nat.mul_comm c, Nat.or_comm, ← h, Nat.add_comm]
theorem take_snoc (l : List Int) (k : Nat) (h : k < l.length) : l.take (k + 1) = l.take k ++ [l[k]?.getD 0] := by
  rw [List.take_succ_eq_append_getElem h]; simp [h]
end Go.Proofs.Ytiammgeahogdoaa.P
