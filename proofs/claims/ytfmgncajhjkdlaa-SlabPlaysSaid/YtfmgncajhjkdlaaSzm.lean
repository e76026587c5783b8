/- The sizes, as plain lists of numbers: no program in sight. -/
import GoSem.Claim
namespace Go.Proofs.Ytfmgncajhjkdlaa.M

/-- the size behind one -/
def step (f x : Int) : Int := max (x + 8) ((x * f / 100 + 7) / 8 * 8)
/-- at most n sizes from x on, up to h -/
def gen (f h : Int) : Nat → Int → List Int
  | 0, _ => []
  | n + 1, x => if x ≤ h then x :: gen f h n (step f x) else []
/-- what may not be -/
def Bad (p f : Int) : Prop := p < 512 ∨ 65536 < p ∨ p % 8 ≠ 0 ∨ f < 105 ∨ 400 < f
instance (p f : Int) : Decidable (Bad p f) := by unfold Bad; infer_instance
def row (p f : Int) : List Int := if Bad p f then [] else gen f (p / 2) 62 64 ++ [p]
def errno (p f : Int) : Int := if Bad p f then 1 else 0

theorem gen_len (f h : Int) : ∀ (n : Nat) (x : Int), (gen f h n x).length ≤ n := by
  intro n
  induction n with
  | zero => intro x; simp [gen]
  | succ n ih => intro x; simp only [gen]; split <;> simp [ih]

theorem row_len (p f : Int) : (row p f).length ≤ 63 := by
  unfold row; split
  · simp
  · have := gen_len f (p / 2) 62 64; simp; omega

theorem mulf (x f : Int) (hf : 105 ≤ f) (hf' : f ≤ 400) (hx : 0 ≤ x) : x * 105 ≤ x * f ∧ x * f ≤ x * 400 :=
  ⟨Int.mul_le_mul_of_nonneg_left hf hx, Int.mul_le_mul_of_nonneg_left hf' hx⟩

theorem step_ge (f x : Int) : x + 8 ≤ step f x := by unfold step; omega
theorem step_mod (f x : Int) (hx : x % 8 = 0) : step f x % 8 = 0 := by unfold step; omega
theorem step_want (f x : Int) : x * f / 100 ≤ step f x := by unfold step; omega
theorem step_most (f x : Int) : step f x ≤ max (x * f / 100 + 7) (x + 8) := by unfold step; omega
theorem gen_pos (f h : Int) (n : Nat) (x : Int) (hx : x ≤ h) : gen f h (n + 1) x = x :: gen f h n (step f x) := by rw [gen, if_pos hx]
theorem gen_neg (f h : Int) (n : Nat) (x : Int) (hx : ¬ x ≤ h) : gen f h n x = [] := by
  cases n with
  | zero => rfl
  | succ n => rw [gen, if_neg hx]
theorem gen_start (f h : Int) (hh : 64 ≤ h) : gen f h 62 64 = 64 :: gen f h 61 (step f 64) := gen_pos f h 61 64 hh


/-- the i-th, 0 behind the end -/
abbrev at_ (l : List Int) (i : Nat) : Int := l[i]?.getD 0

theorem gen_chain (f h : Int) : ∀ (n : Nat) (x : Int) (i : Nat), i + 1 < (gen f h n x).length → at_ (gen f h n x) (i + 1) = step f (at_ (gen f h n x) i) := by
  intro n
  induction n with
  | zero => intro x i hi; simp [gen] at hi
  | succ n ih =>
    intro x i hi
    by_cases hx : x ≤ h
    · rw [gen_pos f h n x hx] at hi ⊢
      match i with
      | 0 =>
        cases n with
        | zero => simp [gen] at hi
        | succ n =>
          by_cases hs : step f x ≤ h
          · rw [gen_pos f h n _ hs]; simp [at_]
          · rw [gen_neg f h (n + 1) _ hs] at hi; simp at hi
      | i + 1 =>
        have := ih (step f x) i (by simpa using hi)
        simpa [at_] using this
    · rw [gen_neg f h (n + 1) x hx] at hi; simp at hi

theorem gen_all (f h : Int) (P : Int → Prop) (hstep : ∀ x, P x → P (step f x)) : ∀ (n : Nat) (x : Int), P x → ∀ y ∈ gen f h n x, P y ∧ y ≤ h := by
  intro n
  induction n with
  | zero => intro x _ y hy; simp [gen] at hy
  | succ n ih =>
    intro x hx y hy
    by_cases hh : x ≤ h
    · rw [gen_pos f h n x hh] at hy
      rcases List.mem_cons.1 hy with rfl | hy
      · exact ⟨hx, hh⟩
      · exact ih _ (hstep x hx) y hy
    · rw [gen_neg f h (n + 1) x hh] at hy; simp at hy

theorem at_mem (l : List Int) (i : Nat) (hi : i < l.length) : at_ l i ∈ l := by
  simp [at_, hi]

/-- all that is said of a row -/
structure RowOk (p f : Int) (l : List Int) : Prop where
  two : 2 ≤ l.length
  most : l.length ≤ 63
  head : at_ l 0 = 64
  last : at_ l (l.length - 1) = p
  mod : ∀ i, i < l.length → at_ l i % 8 = 0
  rise : ∀ i, i + 1 < l.length → at_ l i < at_ l (i + 1)
  half : ∀ i, i + 1 < l.length → at_ l i ≤ p / 2
  low : ∀ i, i < l.length → 64 ≤ at_ l i
  top : ∀ i, i < l.length → at_ l i ≤ p
  grow : ∀ i, i + 2 < l.length → at_ l (i + 1) = step f (at_ l i)

theorem row_ok (p f : Int) (h1 : 512 ≤ p) (h2 : p ≤ 65536) (h3 : p % 8 = 0) (h4 : 105 ≤ f) (h5 : f ≤ 400) : RowOk p f (row p f) := by
  have hb : ¬ Bad p f := by unfold Bad; omega
  have e : row p f = gen f (p / 2) 62 64 ++ [p] := by unfold row; rw [if_neg hb]
  have hl : (gen f (p / 2) 62 64).length ≤ 62 := gen_len _ _ _ _
  have hs : gen f (p / 2) 62 64 = 64 :: gen f (p / 2) 61 (step f 64) := gen_start f _ (by omega)
  have hl1 : 1 ≤ (gen f (p / 2) 62 64).length := by rw [hs]; simp
  have hch := gen_chain f (p / 2) 62 64
  have hall := gen_all f (p / 2) (fun x => x % 8 = 0 ∧ 64 ≤ x) (fun x hx => ⟨step_mod f x hx.1, by have := step_ge f x; omega⟩) 62 64 ⟨by decide, by decide⟩
  have h0 : at_ (gen f (p / 2) 62 64) 0 = 64 := by rw [hs]; rfl
  generalize gen f (p / 2) 62 64 = g at *
  rw [e]
  have hin : ∀ i, i < g.length → at_ (g ++ [p]) i = at_ g i := by intro i hi; simp [at_, List.getElem?_append, hi]
  have hend : at_ (g ++ [p]) g.length = p := by simp [at_]
  have hgi : ∀ i, i < g.length → (at_ g i % 8 = 0 ∧ 64 ≤ at_ g i) ∧ at_ g i ≤ p / 2 := fun i hi => hall _ (at_mem g i hi)
  have hlen : (g ++ [p]).length = g.length + 1 := by simp
  refine ⟨by omega, by omega, ?_, ?_, ?_, ?_, ?_, ?_, ?_, ?_⟩
  · rw [hin 0 (by omega), h0]
  · rw [hlen, Nat.add_sub_cancel, hend]
  · intro i hi
    by_cases hg : i < g.length
    · rw [hin i hg]; exact (hgi i hg).1.1
    · rw [show i = g.length by omega, hend]; exact h3
  · intro i hi
    rw [hin i (by omega)]
    by_cases hg : i + 1 < g.length
    · rw [hin _ hg, hch i hg]; have := step_ge f (at_ g i); omega
    · rw [show i + 1 = g.length by omega, hend]; have := (hgi i (by omega)).2; omega
  · intro i hi
    rw [hin i (by omega)]; exact (hgi i (by omega)).2
  · intro i hi
    by_cases hg : i < g.length
    · rw [hin i hg]; exact (hgi i hg).1.2
    · rw [show i = g.length by omega, hend]; omega
  · intro i hi
    by_cases hg : i < g.length
    · rw [hin i hg]; have := (hgi i hg).2; omega
    · rw [show i = g.length by omega, hend]; omega
  · intro i hi
    rw [hin i (by omega), hin (i + 1) (by omega), hch i (by omega)]
end Go.Proofs.Ytfmgncajhjkdlaa.M
