/- words: plain functions and facts; no program in sight. -/
import GoSem.Claim
import Derived.Laws.BytesArg
import Derived.PlainAid
import Derived.Lib.TrimByte
import Derived.Lib.Bytealg
import Derived.Lib.IndexLaws
namespace Go.Proofs.YtfiicnajiefiaaaDoor.P
open Go.PlainAid
set_option linter.unusedVariables false
set_option linter.unusedSimpArgs false

abbrev L := List UInt8
def sl (s : ByteArray) : L := s.data.toList
def mk (l : L) : ByteArray := ⟨l.toArray⟩
theorem mk_sl (s : ByteArray) : mk (sl s) = s := by cases s; simp [mk, sl]
theorem sl_mk (l : L) : sl (mk l) = l := by simp [mk, sl]
theorem mk_inj {a b : L} (h : mk a = mk b) : a = b := by rw [← sl_mk a, h, sl_mk]
theorem sl_len (s : ByteArray) : (sl s).length = s.size := by simp [sl]
theorem mk_size (l : L) : (mk l).size = l.length := by simp [mk, ByteArray.size]
theorem extract_mk (s : ByteArray) (a b : Nat) : s.extract a b = mk (((sl s).take b).drop a) := by
  rw [← mk_sl (s.extract a b)]
  congr 1
  simp [sl, ByteArray.data_extract, List.extract_eq_take_drop, List.drop_take]
theorem bt_sl (s : ByteArray) (i : Nat) : bt s i = (((sl s)[i]?).map (fun b => (b.toNat : Int))).getD 0 := by
  unfold bt sl
  by_cases h : i < s.size
  · rw [dif_pos h]
    have h' : i < s.data.toList.length := by simpa using h
    rw [List.getElem?_eq_getElem h']
    simp
    rfl
  · rw [dif_neg h]
    have h' : ¬ i < s.data.toList.length := by simpa using h
    rw [List.getElem?_eq_none (by omega)]
    rfl
theorem bt_get {s : ByteArray} {i : Nat} {b : UInt8} (h : (sl s)[i]? = some b) : bt s i = b.toNat := by rw [bt_sl, h]; rfl
theorem sl_get {s : ByteArray} {i : Nat} (h : i < s.size) : ∃ b, (sl s)[i]? = some b ∧ bt s i = b.toNat := by
  have h' : i < (sl s).length := by rw [sl_len]; exact h
  exact ⟨_, List.getElem?_eq_getElem h', bt_get (List.getElem?_eq_getElem h')⟩
theorem byte_eq {b c : UInt8} (h : (b.toNat : Int) = c.toNat) : b = c := UInt8.toNat_inj.1 (by omega)

/-- a text up to the first c, and what stands behind it -/
def upto (c : UInt8) (l : L) : L := l.takeWhile (· != c)
def behind (c : UInt8) (l : L) : L := (l.dropWhile (· != c)).drop 1
theorem upto_no {c : UInt8} {l : L} (h : c ∉ l) : upto c l = l ∧ behind c l = [] := by
  unfold upto behind
  induction l with
  | nil => exact ⟨rfl, rfl⟩
  | cons a l ih =>
    have h1 : a ≠ c := fun e => h (by simp [e])
    have h2 := ih (fun e => h (by simp [e]))
    simp [List.takeWhile_cons, List.dropWhile_cons, h1, h2.1]
    simpa using h2.2
theorem upto_yes {c : UInt8} {a b : L} (h : c ∉ a) : upto c (a ++ c :: b) = a ∧ behind c (a ++ c :: b) = b := by
  unfold upto behind
  induction a with
  | nil => simp [List.takeWhile_cons, List.dropWhile_cons]
  | cons x a ih =>
    have h1 : x ≠ c := fun e => h (by simp [e])
    have h2 := ih (fun e => h (by simp [e]))
    simp [List.takeWhile_cons, List.dropWhile_cons, h1] at h2 ⊢
    exact h2
theorem split_at {c : UInt8} {l : L} (h : c ∈ l) : l = upto c l ++ c :: behind c l ∧ c ∉ upto c l := by
  unfold upto behind
  induction l with
  | nil => cases h
  | cons a l ih =>
    by_cases h1 : a = c
    · subst h1; simp [List.takeWhile_cons, List.dropWhile_cons]
    · have h2 := ih (by rcases List.mem_cons.1 h with e | e; exact absurd e.symm h1; exact e)
      simp only [List.takeWhile_cons, List.dropWhile_cons, bne_iff_ne, ne_eq, h1, not_false_eq_true, if_true, List.cons_append, List.mem_cons, not_or]
      exact ⟨by rw [← h2.1], ⟨fun e => h1 e.symm, h2.2⟩⟩
theorem upto_nomem (c : UInt8) (l : L) : c ∉ upto c l := by
  by_cases h : c ∈ l
  · exact (split_at h).2
  · rw [(upto_no h).1]; exact h
/-- where the library finds it -/
theorem index_no {c : UInt8} {l : L} (h : c ∉ l) : Lib.indexByte l c = -1 := by
  rcases Int.lt_or_le (Lib.indexByte l c) 0 with h1 | h1
  · have := Lib.indexByte_ge l c; omega
  · obtain ⟨o, ho⟩ := Int.eq_ofNat_of_zero_le h1
    have := (Lib.indexByte_some ho).1
    exact absurd (List.mem_of_getElem? this) h
theorem index_yes {c : UInt8} {a b : L} (h : c ∉ a) : Lib.indexByte (a ++ c :: b) c = (a.length : Int) := by
  rcases Int.lt_or_le (Lib.indexByte (a ++ c :: b) c) 0 with h1 | h1
  · have h2 := Lib.indexByte_ge (a ++ c :: b) c
    have h3 : Lib.indexByte (a ++ c :: b) c = -1 := by omega
    exact absurd (by simp) (Lib.indexByte_none h3 a.length)
  · obtain ⟨o, ho⟩ := Int.eq_ofNat_of_zero_le h1
    obtain ⟨h2, h3⟩ := Lib.indexByte_some ho
    rw [ho]
    rcases Nat.lt_trichotomy o a.length with h4 | h4 | h4
    · rw [List.getElem?_append_left h4] at h2
      exact absurd (List.mem_of_getElem? h2) h
    · rw [h4]
    · exact absurd (by simp) (h3 a.length h4)

/-- the words of a line -/
def go : L → L → List L
  | [], [] => []
  | x :: cur, [] => [x :: cur]
  | cur, b :: l => if b = 32 then (if cur = [] then go [] l else cur :: go [] l) else go (cur ++ [b]) l
theorem go_nil (cur : L) : go cur [] = if cur = [] then [] else [cur] := by cases cur <;> simp [go]
theorem go_cons (cur : L) (b : UInt8) (l : L) : go cur (b :: l) = if b = 32 then (if cur = [] then go [] l else cur :: go [] l) else go (cur ++ [b]) l := by cases cur <;> simp [go]
theorem go_word {w : L} (h : 32 ∉ w) : ∀ (cur l : L), go cur (w ++ l) = go (cur ++ w) l := by
  induction w with
  | nil => intro cur l; simp
  | cons a w ih =>
    intro cur l
    have h1 : a ≠ 32 := fun e => h (by simp [e])
    rw [List.cons_append, go_cons, if_neg h1, ih (fun e => h (by simp [e]))]
    simp
theorem go_blank (cur l : L) (t : L) : go cur (t ++ 32 :: l) = go cur t ++ go [] l := by
  induction t generalizing cur with
  | nil => rw [List.nil_append, go_cons, if_pos rfl, go_nil]; split <;> simp
  | cons a t ih =>
    rw [List.cons_append, go_cons, go_cons]
    by_cases h1 : a = 32
    · rw [if_pos h1, if_pos h1]
      by_cases h2 : cur = []
      · rw [if_pos h2, if_pos h2, ih]
      · rw [if_neg h2, if_neg h2, ih]; rfl
    · rw [if_neg h1, if_neg h1, ih]
theorem go_one {w : L} (h : 32 ∉ w) (h0 : w ≠ []) : go [] w = [w] := by
  have := go_word h [] []
  rw [List.append_nil, List.nil_append, go_nil, if_neg h0] at this
  exact this
def words (s : ByteArray) : List L := go [] (sl s)

/-- leading blanks -/
theorem trim_go (l : L) : go [] (Lib.trimLeftB l 32) = go [] l := by
  unfold Lib.trimLeftB
  induction l with
  | nil => rfl
  | cons a l ih =>
    rw [List.dropWhile_cons]
    by_cases h : a = 32
    · rw [if_pos (by simpa using h), ih, go_cons, if_pos h, if_pos rfl]
    · rw [if_neg (by simpa using h)]
theorem trim_head {l : L} {a : UInt8} {r : L} (h : Lib.trimLeftB l 32 = a :: r) : a ≠ 32 := by
  intro e
  unfold Lib.trimLeftB at h
  have := List.head?_dropWhile_not (p := (· == (32 : UInt8))) (l := l)
  rw [h] at this
  simp [e] at this
theorem trim_len (l : L) : (Lib.trimLeftB l 32).length ≤ l.length := (List.dropWhile_sublist _).length_le
theorem upto_len (c : UInt8) (l : L) : (upto c l).length ≤ l.length := (List.takeWhile_sublist _).length_le
theorem behind_len (c : UInt8) (l : L) : (behind c l).length ≤ l.length := by
  unfold behind; have := (List.dropWhile_sublist (l := l) (fun x => x != c)).length_le; simp; omega
theorem behind_lt {c a : UInt8} {r : L} : (behind c (a :: r)).length < (a :: r).length := by
  unfold behind
  have := (List.dropWhile_sublist (l := a :: r) (fun x => x != c)).length_le
  simp at this ⊢
  omega
/-- one word, and the others -/
theorem go_step {l : L} {a : UInt8} {r : L} (h : Lib.trimLeftB l 32 = a :: r) : go [] l = upto 32 (a :: r) :: go [] (behind 32 (a :: r)) := by
  have ha := trim_head h
  rw [← trim_go l, h]
  have hne : upto 32 (a :: r) ≠ [] := by unfold upto; simp [List.takeWhile_cons, ha]
  by_cases hm : 32 ∈ (a :: r)
  · obtain ⟨e, h2⟩ := split_at hm
    have h3 := go_blank [] (behind 32 (a :: r)) (upto 32 (a :: r))
    rw [← e, go_one h2 hne] at h3
    simpa using h3
  · obtain ⟨e1, e2⟩ := upto_no hm
    rw [e1, e2, go_one hm (by simp)]; rfl
theorem go_end {l : L} (h : Lib.trimLeftB l 32 = []) : go [] l = [] := by rw [← trim_go l, h]; rfl
theorem words_len (s : ByteArray) : ∀ cur l : L, (go cur l).length ≤ l.length + 1 := by
  intro cur l
  induction l generalizing cur with
  | nil => rw [go_nil]; split <;> simp
  | cons b l ih =>
    rw [go_cons]
    split
    · split
      · have := ih []; simp; omega
      · have := ih []; simp; omega
    · have := ih (cur ++ [b]); simp; omega
end Go.Proofs.YtfiicnajiefiaaaDoor.P
