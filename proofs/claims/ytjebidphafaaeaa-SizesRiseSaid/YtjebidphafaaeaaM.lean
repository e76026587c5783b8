/- The sizes, as plain lists of numbers: no program in sight. -/
import GoSem.Claim
namespace Go.Proofs.Ytjebidphafaaeaa.M

/-- the size behind one -/
def step (f x : Int) : Int := max (x + 8) ((x * f / 100 + 7) / 8 * 8)
/-- at most n sizes from x on, up to h -/
def gen (f h : Int) : Nat → Int → List Int
  | 0, _ => []
  | n + 1, x => if x ≤ h then x :: gen f h n (step f x) else []
/-- what may not be -/
def Bad (p f : Int) : Prop := p < 512 ∨ 65536 < p ∨ p % 8 ≠ 0 ∨ f < 105 ∨ 400 < f
instance (p f : Int) : Decidable (Bad p f) := by unfold Bad; infer_instance
def row (p f : Int) : List Int := if Bad p f then [] else gen f (p / 2) 62 64 ++ [p]
def errno (p f : Int) : Int := if Bad p f then 1 else 0

theorem gen_len (f h : Int) : ∀ (n : Nat) (x : Int), (gen f h n x).length ≤ n := by
  intro n
  induction n with
  | zero => intro x; simp [gen]
  | succ n ih => intro x; simp only [gen]; split <;> simp [ih]

theorem row_len (p f : Int) : (row p f).length ≤ 63 := by
  unfold row; split
  · simp
  · have := gen_len f (p / 2) 62 64; simp; omega

theorem mulf (x f : Int) (hf : 105 ≤ f) (hf' : f ≤ 400) (hx : 0 ≤ x) : x * 105 ≤ x * f ∧ x * f ≤ x * 400 :=
  ⟨Int.mul_le_mul_of_nonneg_left hf hx, Int.mul_le_mul_of_nonneg_left hf' hx⟩

theorem step_ge (f x : Int) : x + 8 ≤ step f x := by unfold step; omega
theorem step_mod (f x : Int) (hx : x % 8 = 0) : step f x % 8 = 0 := by unfold step; omega
theorem step_want (f x : Int) : x * f / 100 ≤ step f x := by unfold step; omega
theorem step_most (f x : Int) : step f x ≤ max (x * f / 100 + 7) (x + 8) := by unfold step; omega
theorem gen_pos (f h : Int) (n : Nat) (x : Int) (hx : x ≤ h) : gen f h (n + 1) x = x :: gen f h n (step f x) := by rw [gen, if_pos hx]
theorem gen_neg (f h : Int) (n : Nat) (x : Int) (hx : ¬ x ≤ h) : gen f h n x = [] := by
  cases n with
  | zero => rfl
  | succ n => rw [gen, if_neg hx]
theorem gen_start (f h : Int) (hh : 64 ≤ h) : gen f h 62 64 = 64 :: gen f h 61 (step f 64) := gen_pos f h 61 64 hh
end Go.Proofs.Ytjebidphafaaeaa.M
