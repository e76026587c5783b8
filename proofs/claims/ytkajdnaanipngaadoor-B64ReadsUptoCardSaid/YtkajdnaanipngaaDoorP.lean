/- base64: plain functions and facts; no program in sight. -/
import GoSem.Claim
import Derived.Laws.BytesArg
import Derived.PlainAid
import Derived.Laws.BitsAllLaws
namespace Go.Proofs.YtkajdnaanipngaaDoor.P
open Go.PlainAid
set_option linter.unusedVariables false

def letter (n : Int) : Int := if n < 26 then 65 + n else if n < 52 then 71 + n else if n < 62 then n - 4 else if n = 62 then 43 else 47
def val (c : Int) : Int := if 65 ≤ c ∧ c ≤ 90 then c - 65 else if 97 ≤ c ∧ c ≤ 122 then c - 71 else if 48 ≤ c ∧ c ≤ 57 then c + 4 else if c = 43 then 62 else if c = 47 then 63 else -1

theorem letter_byte {n : Int} (h0 : 0 ≤ n) (h1 : n < 64) : 43 ≤ letter n ∧ letter n ≤ 122 ∧ letter n ≠ 61 := by
  unfold letter; (repeat' split) <;> omega
theorem val_letter {n : Int} (h0 : 0 ≤ n) (h1 : n < 64) : val (letter n) = n := by
  unfold letter val; (repeat' split) <;> omega
theorem letter_val {c : Int} (h : 0 ≤ val c) : letter (val c) = c := by
  unfold val at h; unfold letter val; (repeat' split) <;> (repeat' split at h) <;> omega
theorem val_lt (c : Int) : -1 ≤ val c ∧ val c < 64 := by
  unfold val; (repeat' split) <;> omega
theorem val_pad : val 61 = -1 := by decide

/-- the sextet j of bytes -/
def sx (f : Nat → Int) (j : Nat) : Int :=
  if j % 4 = 0 then f (j / 4 * 3) / 4 else if j % 4 = 1 then f (j / 4 * 3) % 4 * 16 + f (j / 4 * 3 + 1) / 16 else
  if j % 4 = 2 then f (j / 4 * 3 + 1) % 16 * 4 + f (j / 4 * 3 + 2) / 64 else f (j / 4 * 3 + 2) % 64
theorem sx0 (f : Nat → Int) (q : Nat) : sx f (4 * q) = f (3 * q) / 4 := by
  unfold sx; rw [if_pos (by omega), show 4 * q / 4 * 3 = 3 * q by omega]
theorem sx1 (f : Nat → Int) (q : Nat) : sx f (4 * q + 1) = f (3 * q) % 4 * 16 + f (3 * q + 1) / 16 := by
  unfold sx; rw [if_neg (by omega), if_pos (by omega), show (4 * q + 1) / 4 * 3 = 3 * q by omega]
theorem sx2 (f : Nat → Int) (q : Nat) : sx f (4 * q + 2) = f (3 * q + 1) % 16 * 4 + f (3 * q + 2) / 64 := by
  unfold sx; rw [if_neg (by omega), if_neg (by omega), if_pos (by omega), show (4 * q + 2) / 4 * 3 = 3 * q by omega]
theorem sx3 (f : Nat → Int) (q : Nat) : sx f (4 * q + 3) = f (3 * q + 2) % 64 := by
  unfold sx; rw [if_neg (by omega), if_neg (by omega), if_neg (by omega), show (4 * q + 3) / 4 * 3 = 3 * q by omega]
def By (f : Nat → Int) : Prop := ∀ i, 0 ≤ f i ∧ f i ≤ 255
theorem sx_bound {f : Nat → Int} (h : By f) (j : Nat) : 0 ≤ sx f j ∧ sx f j < 64 := by
  have h0 := h (j / 4 * 3)
  have h1 := h (j / 4 * 3 + 1)
  have h2 := h (j / 4 * 3 + 2)
  unfold sx; (repeat' split) <;> omega
theorem by_bt (s : ByteArray) : By (bt s) := fun i => ⟨bt_nonneg s i, bt_le s i⟩

/-- the first j letters -/
def lets (f : Nat → Int) (j : Nat) : List Int := (List.range j).map (fun i => letter (sx f i))
theorem lets_len (f : Nat → Int) (j : Nat) : (lets f j).length = j := by simp [lets]
theorem lets_succ (f : Nat → Int) (j : Nat) : lets f (j + 1) = lets f j ++ [letter (sx f j)] := by simp [lets, List.range_succ]
/-- how many letters n bytes have -/
def nl (n : Nat) : Nat := (8 * n + 5) / 6
def np (n : Nat) : Nat := 4 * ((n + 2) / 3)
def enc (f : Nat → Int) (n : Nat) : List Int := lets f (nl n) ++ List.replicate (np n - nl n) 61
def encS (s : ByteArray) : List Int := enc (bt s) s.size

/-- byte j of sextets -/
def dx (d : Nat → Int) (j : Nat) : Int :=
  if j % 3 = 0 then d (j / 3 * 4) * 4 + d (j / 3 * 4 + 1) / 16 else if j % 3 = 1 then d (j / 3 * 4 + 1) % 16 * 16 + d (j / 3 * 4 + 2) / 4 else d (j / 3 * 4 + 2) % 4 * 64 + d (j / 3 * 4 + 3)
theorem dx0 (f : Nat → Int) (q : Nat) : dx f (3 * q) = f (4 * q) * 4 + f (4 * q + 1) / 16 := by
  unfold dx; rw [if_pos (by omega), show 3 * q / 3 * 4 = 4 * q by omega]
theorem dx1 (f : Nat → Int) (q : Nat) : dx f (3 * q + 1) = f (4 * q + 1) % 16 * 16 + f (4 * q + 2) / 4 := by
  unfold dx; rw [if_neg (by omega), if_pos (by omega), show (3 * q + 1) / 3 * 4 = 4 * q by omega]
theorem dx2 (f : Nat → Int) (q : Nat) : dx f (3 * q + 2) = f (4 * q + 2) % 4 * 64 + f (4 * q + 3) := by
  unfold dx; rw [if_neg (by omega), if_neg (by omega), show (3 * q + 2) / 3 * 4 = 4 * q by omega]
def byts (d : Nat → Int) (j : Nat) : List Int := (List.range j).map (dx d)
theorem byts_len (f : Nat → Int) (j : Nat) : (byts f j).length = j := by simp [byts]
theorem byts_succ (f : Nat → Int) (j : Nat) : byts f (j + 1) = byts f j ++ [dx f j] := by simp [byts, List.range_succ]

/-- u32's or at bits that lie apart -/
theorem or_add (x y : Int) (k : Nat) (hx : 0 ≤ x) (hx1 : x < 4294967296) (hm : x % (2 : Int) ^ k = 0) (hy : 0 ≤ y) (hy1 : y < (2 : Int) ^ k) (hk : k ≤ 32) : bits .or .u32 x y = x + y := by
  obtain ⟨a, rfl⟩ := Int.eq_ofNat_of_zero_le hx
  obtain ⟨b, rfl⟩ := Int.eq_ofNat_of_zero_le hy
  have hb : b < 2 ^ k := by exact_mod_cast hy1
  have h32 : (2 : Nat) ^ k ≤ 2 ^ 32 := Nat.pow_le_pow_right (by decide) hk
  have ha : a < 4294967296 := by omega
  rw [u32_or_nat a b ha (by omega)]
  have hd : (2 : Int) ^ k ∣ (a : Int) := Int.dvd_of_emod_eq_zero hm
  have hd' : 2 ^ k ∣ a := by exact_mod_cast hd
  obtain ⟨c, rfl⟩ := hd'
  rw [← Nat.two_pow_add_eq_or_of_lt hb]
  push_cast; rfl
theorem and63 (x : Int) (h0 : 0 ≤ x) (h1 : x < 4294967296) : bits .and .u32 x 63 = x % 64 := by
  obtain ⟨a, rfl⟩ := Int.eq_ofNat_of_zero_le h0
  have ha : a < 4294967296 := by omega
  have := u32_and_nat a 63 ha (by decide)
  rw [show ((63 : Nat) : Int) = 63 from rfl] at this
  rw [this, show (63 : Nat) = 2 ^ 6 - 1 from rfl, Nat.and_two_pow_sub_one_eq_mod]
  push_cast; rfl
theorem or8 (x c : Int) (h0 : 0 ≤ x) (h1 : x < 4294967296) (c0 : 0 ≤ c) (c1 : c ≤ 255) : bits .or .u32 (x * 256 % 4294967296) c = x * 256 % 4294967296 + c :=
  or_add _ _ 8 (by omega) (by omega) (by omega) c0 (by omega) (by omega)
theorem or6 (x c : Int) (h0 : 0 ≤ x) (h1 : x < 4294967296) (c0 : 0 ≤ c) (c1 : c < 64) : bits .or .u32 (x * 64 % 4294967296) c = x * 64 % 4294967296 + c :=
  or_add _ _ 6 (by omega) (by omega) (by omega) c0 (by omega) (by omega)
end Go.Proofs.YtkajdnaanipngaaDoor.P
