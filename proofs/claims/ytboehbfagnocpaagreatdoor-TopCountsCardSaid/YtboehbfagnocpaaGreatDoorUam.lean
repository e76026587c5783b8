/- Wp, Wk, Wt, Wj, Tnu. -/
import Derived.Test.YtboehbfagnocpaaGreatDoorUal
import Derived.Test.YtboehbfagnocpaaGreatDoorUak
import Derived.Shelf.Strings.SlTrimAscii
import Derived.Lib.SmallJoins
set_option linter.unusedVariables false
set_option linter.unusedSimpArgs false
set_option maxRecDepth 100000
open Go.Proofs.Tryz
open Go.Lib (hid)
namespace Go.Proofs.YtboehbfagnocpaaGreatDoor.W2.P
open Go.PlainAid
abbrev L := List UInt8
def sl (s : ByteArray) : L := s.data.toList
def mk (l : L) : ByteArray := ⟨l.toArray⟩
theorem mk_sl (s : ByteArray) : mk (sl s) = s := by cases s; simp [mk, sl]
theorem sl_mk (l : L) : sl (mk l) = l := by simp [mk, sl]
theorem sl_len (s : ByteArray) : (sl s).length = s.size := by simp [sl]
theorem mk_size (l : L) : (mk l).size = l.length := by simp [mk, ByteArray.size]
theorem extract_mk (s : ByteArray) (a b : Nat) : s.extract a b = mk (((sl s).take b).drop a) := by
  rw [← mk_sl (s.extract a b)]
  congr 1
  simp [sl, ByteArray.data_extract, List.extract_eq_take_drop, List.drop_take]
def upto (c : UInt8) (l : L) : L := l.takeWhile (· != c)
def behind (c : UInt8) (l : L) : L := (l.dropWhile (· != c)).drop 1
theorem upto_no {c : UInt8} {l : L} (h : c ∉ l) : upto c l = l ∧ behind c l = [] := by
  unfold upto behind
  induction l with
  | nil => exact ⟨rfl, rfl⟩
  | cons a l ih =>
    have h1 : a ≠ c := fun e => h (by simp [e])
    have h2 := ih (fun e => h (by simp [e]))
    simp [List.takeWhile_cons, List.dropWhile_cons, h1, h2.1]
    simpa using h2.2
theorem upto_yes {c : UInt8} {a b : L} (h : c ∉ a) : upto c (a ++ c :: b) = a ∧ behind c (a ++ c :: b) = b := by
  unfold upto behind
  induction a with
  | nil => simp [List.takeWhile_cons, List.dropWhile_cons]
  | cons x a ih =>
    have h1 : x ≠ c := fun e => h (by simp [e])
    have h2 := ih (fun e => h (by simp [e]))
    simp [List.takeWhile_cons, List.dropWhile_cons, h1] at h2 ⊢
    exact h2
theorem split_at {c : UInt8} {l : L} (h : c ∈ l) : l = upto c l ++ c :: behind c l ∧ c ∉ upto c l := by
  unfold upto behind
  induction l with
  | nil => cases h
  | cons a l ih =>
    by_cases h1 : a = c
    · subst h1; simp [List.takeWhile_cons, List.dropWhile_cons]
    · have h2 := ih (by rcases List.mem_cons.1 h with e | e; exact absurd e.symm h1; exact e)
      simp only [List.takeWhile_cons, List.dropWhile_cons, bne_iff_ne, ne_eq, h1, not_false_eq_true, if_true, List.cons_append, List.mem_cons, not_or]
      exact ⟨by rw [← h2.1], ⟨fun e => h1 e.symm, h2.2⟩⟩
theorem index_no {c : UInt8} {l : L} (h : c ∉ l) : Lib.indexByte l c = -1 := by
  rcases Int.lt_or_le (Lib.indexByte l c) 0 with h1 | h1
  · have := Lib.indexByte_ge l c; omega
  · obtain ⟨o, ho⟩ := Int.eq_ofNat_of_zero_le h1
    have := (Lib.indexByte_some ho).1
    exact absurd (List.mem_of_getElem? this) h
theorem index_yes {c : UInt8} {a b : L} (h : c ∉ a) : Lib.indexByte (a ++ c :: b) c = (a.length : Int) := by
  rcases Int.lt_or_le (Lib.indexByte (a ++ c :: b) c) 0 with h1 | h1
  · have h2 := Lib.indexByte_ge (a ++ c :: b) c
    have h3 : Lib.indexByte (a ++ c :: b) c = -1 := by omega
    exact absurd (by simp) (Lib.indexByte_none h3 a.length)
  · obtain ⟨o, ho⟩ := Int.eq_ofNat_of_zero_le h1
    obtain ⟨h2, h3⟩ := Lib.indexByte_some ho
    rw [ho]
    rcases Nat.lt_trichotomy o a.length with h4 | h4 | h4
    · rw [List.getElem?_append_left h4] at h2
      exact absurd (List.mem_of_getElem? h2) h
    · rw [h4]
    · exact absurd (by simp) (h3 a.length h4)
def go : L → L → List L
  | [], [] => []
  | x :: cur, [] => [x :: cur]
  | cur, b :: l => if b = 32 then (if cur = [] then go [] l else cur :: go [] l) else go (cur ++ [b]) l
theorem go_nil (cur : L) : go cur [] = if cur = [] then [] else [cur] := by cases cur <;> simp [go]
theorem go_cons (cur : L) (b : UInt8) (l : L) : go cur (b :: l) = if b = 32 then (if cur = [] then go [] l else cur :: go [] l) else go (cur ++ [b]) l := by cases cur <;> simp [go]
theorem go_word {w : L} (h : 32 ∉ w) : ∀ (cur l : L), go cur (w ++ l) = go (cur ++ w) l := by
  induction w with
  | nil => intro cur l; simp
  | cons a w ih =>
    intro cur l
    have h1 : a ≠ 32 := fun e => h (by simp [e])
    rw [List.cons_append, go_cons, if_neg h1, ih (fun e => h (by simp [e]))]
    simp
theorem go_blank (cur l : L) (t : L) : go cur (t ++ 32 :: l) = go cur t ++ go [] l := by
  induction t generalizing cur with
  | nil => rw [List.nil_append, go_cons, if_pos rfl, go_nil]; split <;> simp
  | cons a t ih =>
    rw [List.cons_append, go_cons, go_cons]
    by_cases h1 : a = 32
    · rw [if_pos h1, if_pos h1]
      by_cases h2 : cur = []
      · rw [if_pos h2, if_pos h2, ih]
      · rw [if_neg h2, if_neg h2, ih]; rfl
    · rw [if_neg h1, if_neg h1, ih]
theorem go_one {w : L} (h : 32 ∉ w) (h0 : w ≠ []) : go [] w = [w] := by
  have := go_word h [] []
  rw [List.append_nil, List.nil_append, go_nil, if_neg h0] at this
  exact this
def words (s : ByteArray) : List L := go [] (sl s)
theorem trim_go (l : L) : go [] (Lib.trimLeftB l 32) = go [] l := by
  unfold Lib.trimLeftB
  induction l with
  | nil => rfl
  | cons a l ih =>
    rw [List.dropWhile_cons]
    by_cases h : a = 32
    · rw [if_pos (by simpa using h), ih, go_cons, if_pos h, if_pos rfl]
    · rw [if_neg (by simpa using h)]
theorem trim_head {l : L} {a : UInt8} {r : L} (h : Lib.trimLeftB l 32 = a :: r) : a ≠ 32 := by
  intro e
  unfold Lib.trimLeftB at h
  have := List.head?_dropWhile_not (p := (· == (32 : UInt8))) (l := l)
  rw [h] at this
  simp [e] at this
theorem trim_len (l : L) : (Lib.trimLeftB l 32).length ≤ l.length := (List.dropWhile_sublist _).length_le
theorem upto_len (c : UInt8) (l : L) : (upto c l).length ≤ l.length := (List.takeWhile_sublist _).length_le
theorem behind_lt {c a : UInt8} {r : L} : (behind c (a :: r)).length < (a :: r).length := by
  unfold behind
  have := (List.dropWhile_sublist (l := a :: r) (fun x => x != c)).length_le
  simp at this ⊢
  omega
theorem go_step {l : L} {a : UInt8} {r : L} (h : Lib.trimLeftB l 32 = a :: r) : go [] l = upto 32 (a :: r) :: go [] (behind 32 (a :: r)) := by
  have ha := trim_head h
  rw [← trim_go l, h]
  have hne : upto 32 (a :: r) ≠ [] := by unfold upto; simp [List.takeWhile_cons, ha]
  by_cases hm : 32 ∈ (a :: r)
  · obtain ⟨e, h2⟩ := split_at hm
    have h3 := go_blank [] (behind 32 (a :: r)) (upto 32 (a :: r))
    rw [← e, go_one h2 hne] at h3
    simpa using h3
  · obtain ⟨e1, e2⟩ := upto_no hm
    rw [e1, e2, go_one hm (by simp)]; rfl
theorem go_end {l : L} (h : Lib.trimLeftB l 32 = []) : go [] l = [] := by rw [← trim_go l, h]; rfl
theorem words_len (s : ByteArray) : ∀ cur l : L, (go cur l).length ≤ l.length + 1 := by
  intro cur l
  induction l generalizing cur with
  | nil => rw [go_nil]; split <;> simp
  | cons b l ih =>
    rw [go_cons]
    split
    · split
      · have := ih []; simp; omega
      · have := ih []; simp; omega
    · have := ih (cur ++ [b]); simp; omega
end Go.Proofs.YtboehbfagnocpaaGreatDoor.W2.P
namespace Go.Proofs.YtboehbfagnocpaaGreatDoor.W2
open Go.RowKit Go.PlainAid
theorem ret_int {k : IntKind} {a b : Int} (h : a = b) : Ending.returned (.int k a) = .returned (.int k b) := by rw [h]
theorem ret_bool {a b : Bool} (h : a = b) : Ending.returned (.bool a) = .returned (.bool b) := by rw [h]
theorem below_drewN {B : Nat} {a w : World} (h : Below B a w) (n : Nat) : Below B a (w.drewN n) := ⟨h.os, h.tape, h.output, h.size, h.block⟩
def keyB (s : ByteArray) : Bool := decide (1 ≤ s.size ∧ s.size ≤ 250 ∧ ∀ i, i < s.size → 32 < bt s i ∧ bt s i ≠ 127)
theorem toList_eq (s : ByteArray) : s.toList = s.data.toList := ByteArray.toList_eq s
theorem empty_of_size {s : ByteArray} (h : s.size = 0) : s.toList.isEmpty = true ∧ s.toList = [] := by
  have e : s.data.toList = [] := List.eq_nil_of_length_eq_zero (by simpa using h)
  rw [toList_eq, e]; exact ⟨rfl, rfl⟩
theorem nonempty_of_size {s : ByteArray} (h : 0 < s.size) : s.toList.isEmpty = false ∧ s.toList ≠ [] := by
  have e : s.data.toList ≠ [] := fun h0 => by
    have := congrArg List.length h0
    simp at this
    rw [this] at h
    exact absurd h (by decide)
  rw [toList_eq]; exact ⟨by simpa using e, e⟩
theorem key_no {s : ByteArray} (h : ¬ ∀ i, i < s.size → 32 < bt s i ∧ bt s i ≠ 127) : keyB s = false := by
  unfold keyB; apply decide_eq_false; exact fun ⟨_, _, h3⟩ => h h3
theorem key_len {s : ByteArray} (h : s.size = 0 ∨ 250 < s.size) : keyB s = false := by
  unfold keyB; apply decide_eq_false; rintro ⟨h1, h2, _⟩; omega
theorem key_eq {s : ByteArray} (h : 1 ≤ s.size) (h3 : ∀ i, i < s.size → 32 < bt s i ∧ bt s i ≠ 127) : keyB s = decide ((s.size : Int) ≤ 250) := by
  unfold keyB
  by_cases h2 : s.size ≤ 250
  · rw [decide_eq_true (by omega : (s.size : Int) ≤ 250)]; exact decide_eq_true ⟨h, h2, h3⟩
  · rw [decide_eq_false (by omega : ¬ (s.size : Int) ≤ 250)]; exact decide_eq_false (fun h' => h2 h'.2.1)
set_option maxHeartbeats 400000 in
theorem key_any (s : ByteArray) (w : World) (hs : s.size ≤ maxLen) : Calls prog 164 #[.string s] w fun e w' => e = .returned (.bool (keyB s)) ∧ w = w' := by
  unfold maxLen at hs
  have hb := get_bt s
  go_enter func164, ntmps164
  go_wp2
  go_loop [7] (fun i => ∃ k : Nat, k ≤ s.size ∧ i = .int .i64 k ∧ (∀ j, j < k → 32 < bt s j ∧ bt s j ≠ 127)) (fun i => s.size - (intOf i).toNat)
  case atStart => exact ⟨0, Nat.zero_le _, rfl, fun j hj => by omega⟩
  case round =>
    obtain ⟨k, hk, rfl, hall⟩ := hrel
    have Hall := hid hall
    clear hall
    by_cases hlt : k < s.size
    · have hn := bt_nonneg s k
      have hl := bt_le s k
      by_cases h1 : bt s k ≤ 32
      · go_wp2
        go_ret
        exact ⟨ret_bool (key_no (fun h => by have := (h k hlt).1; omega)).symm, rfl⟩
      · by_cases h2 : bt s k = 127
        · have h2' : (bt s k == 127) = true := by simp [h2]
          have H2 := hid h2
          clear h2
          go_wp2
          go_ret
          exact ⟨ret_bool (key_no (fun h => (h k hlt).2 H2.out)).symm, rfl⟩
        · have h2' : (bt s k == 127) = false := by simp [h2]
          have H2 := hid h2
          clear h2
          go_wp2
          go_round
          case rel =>
            refine ⟨k + 1, by omega, by go_num, fun j hj => ?_⟩
            rcases Nat.lt_succ_iff_lt_or_eq.1 hj with h | rfl
            · exact Hall.out j h
            · exact ⟨by omega, H2.out⟩
          case measure => simp [intOf]; omega
    · by_cases h0 : s.size = 0
      · obtain ⟨e1, e2⟩ := empty_of_size h0
        have Hk0 := hid (key_len (s := s) (by omega))
        have h0' : decide (1 ≤ (s.size : Int)) = false := by simp; omega
        clear h0
        go_wp2
        go_ret
        exact ⟨ret_bool Hk0.out.symm, rfl⟩
      · obtain ⟨e1, e2⟩ := nonempty_of_size (s := s) (by omega)
        have h1' : 1 ≤ s.size := by omega
        have Hky := hid (key_eq (s := s) (by omega) (fun i hi => Hall.out i (by omega)))
        go_wp2
        go_ret
        exact ⟨ret_bool Hky.out.symm, rfl⟩
def cutV (c : UInt8) (s : ByteArray) : Value := .tuple #[.string (P.mk (P.upto c (P.sl s))), .string (P.mk (P.behind c (P.sl s))), .bool (decide (c ∈ P.sl s))]
theorem cutV_no {c : UInt8} {s : ByteArray} (h : c ∉ P.sl s) : cutV c s = .tuple #[.string s, .string ⟨#[]⟩, .bool false] := by
  unfold cutV; rw [(P.upto_no h).1, (P.upto_no h).2, P.mk_sl, decide_eq_false h]; rfl
theorem cutV_yes {c : UInt8} {s : ByteArray} (h : c ∈ P.sl s) : ∃ j : Nat, Lib.indexByte (P.sl s) c = (j : Int) ∧ j < s.size ∧ cutV c s = .tuple #[.string (s.extract 0 j), .string (s.extract (j + 1) s.size), .bool true] ∧ (P.upto c (P.sl s)).length = j := by
  obtain ⟨e, h2⟩ := P.split_at h
  have hl := P.sl_len s
  have hl2 : (P.sl s).length = (P.upto c (P.sl s)).length + ((P.behind c (P.sl s)).length + 1) := by
    have := congrArg List.length e
    simpa using this
  refine ⟨(P.upto c (P.sl s)).length, ?_, by omega, ?_, rfl⟩
  · have := P.index_yes (a := P.upto c (P.sl s)) (b := P.behind c (P.sl s)) h2
    rw [← e] at this; exact this
  · unfold cutV
    rw [decide_eq_true h, P.extract_mk, P.extract_mk]
    generalize hu : P.upto c (P.sl s) = u at *
    generalize hb : P.behind c (P.sl s) = b at *
    rw [show s.size = (P.sl s).length from hl.symm, List.take_length, e]
    simp
theorem cut25 (c : UInt8) (s : ByteArray) (w : World) (hs : s.size ≤ maxLen) : Calls prog 281 #[.string s, .string ⟨#[c]⟩] w fun e w' => e = .returned (cutV c s) ∧ ∃ n, w' = w.drewN n := by
  unfold maxLen at hs
  by_cases h : c ∈ P.sl s
  · obtain ⟨j, h1, h2, h3, _⟩ := cutV_yes h
    have H3 := hid h3
    have hjI : (j : Int) < (s.size : Int) := by omega
    have hj0 : (j : Int) ≤ (s.size : Int) := by omega
    have hj1 : (j : Int) + 1 ≤ (s.size : Int) := by omega
    have hj2 : ((j : Int) + 1).toNat = j + 1 := by omega
    have hj3 : j + 1 ≤ s.size := by omega
    have hj4 : IntKind.i64.wrap ((j : Int) + 1) = (j : Int) + 1 := by rw [IntKind.wrap_i64]; omega
    have hix : ∀ w', Calls prog 308 #[.string s, .string ⟨#[c]⟩] w' fun e w'' => e = .returned (.int .i64 j) ∧ w' = w'' := fun w' => (Tryz.stringslite_Index_one s c w').mono (by rintro e w'' ⟨rfl, rfl⟩; exact ⟨by rw [← h1]; rfl, rfl⟩)
    have Hix := hid hix
    clear h h1 h3 hix
    go_enter func281, ntmps281
    go_wp2_with (go_at_call 308; refine (Hix.out _).mono ?_; rintro e w' ⟨rfl, rfl⟩)
    go_quiet (fail)
    go_wp2_with (fail)
    go_ret3
    exact ⟨by rw [H3.out]; rfl, _, rfl⟩
  · have H3 := hid (cutV_no h)
    have hix : ∀ w', Calls prog 308 #[.string s, .string ⟨#[c]⟩] w' fun e w'' => e = .returned (.int .i64 (-1)) ∧ w' = w'' := fun w' => (Tryz.stringslite_Index_one s c w').mono (by rintro e w'' ⟨rfl, rfl⟩; exact ⟨by rw [← P.index_no h]; rfl, rfl⟩)
    have Hix := hid hix
    clear h hix
    go_enter func281, ntmps281
    go_wp2_with (go_at_call 308; refine (Hix.out _).mono ?_; rintro e w' ⟨rfl, rfl⟩)
    go_ret3
    exact ⟨by rw [H3.out]; rfl, 0, rfl⟩
theorem cut_any (c : UInt8) (s : ByteArray) (w : World) (hs : s.size ≤ maxLen) : Calls prog 247 #[.string s, .string ⟨#[c]⟩] w fun e w' => e = .returned (cutV c s) ∧ ∃ n, w' = w.drewN n := by
  have hc : ∀ w', Calls prog 281 #[.string s, .string ⟨#[c]⟩] w' fun e w'' => e = .returned (.tuple #[.string (P.mk (P.upto c (P.sl s))), .string (P.mk (P.behind c (P.sl s))), .bool (decide (c ∈ P.sl s))]) ∧ ∃ n, w'' = w'.drewN n := fun w' => cut25 c s w' hs
  have Hc := hid hc
  clear hc
  obtain ⟨a, ha⟩ : ∃ a, P.mk (P.upto c (P.sl s)) = a := ⟨_, rfl⟩
  obtain ⟨b, hb⟩ : ∃ b, P.mk (P.behind c (P.sl s)) = b := ⟨_, rfl⟩
  obtain ⟨d, hd⟩ : ∃ d, decide (c ∈ P.sl s) = d := ⟨_, rfl⟩
  have H3 : Hid (cutV c s = .tuple #[.string a, .string b, .bool d]) := hid (by unfold cutV; rw [ha, hb, hd])
  rw [ha, hb, hd] at Hc
  clear ha hb hd
  go_enter func247, ntmps247
  go_wp2_with (go_at_call 281; refine (Hc.out _).mono ?_; rintro e w' ⟨rfl, n, rfl⟩)
  go_ret3
  exact ⟨by rw [H3.out]; rfl, n, rfl⟩
def lineT (s : ByteArray) : ByteArray := if 10 ∈ P.sl s then P.mk (Lib.trimSuffix (P.upto 10 (P.sl s)) [13]) else ⟨#[]⟩
def lineN (s : ByteArray) : Int := if 10 ∈ P.sl s then ((P.upto 10 (P.sl s)).length : Int) + 1 else 0
def LinePost (s : ByteArray) (w : World) (e : Ending) (w' : World) : Prop := e = .returned (.tuple #[.string (lineT s), .int .i64 (lineN s)]) ∧ ∃ n, w' = w.drewN n
theorem line_any (s : ByteArray) (w : World) (hs : s.size ≤ maxLen) : Calls prog 246 #[.string s] w (LinePost s w) := by
  have hc : ∀ w', Calls prog 247 #[.string s, .string ⟨#[10]⟩] w' fun e w'' => e = .returned (cutV 10 s) ∧ ∃ n, w'' = w'.drewN n := fun w' => cut_any 10 s w' hs
  unfold maxLen at hs
  by_cases h : 10 ∈ P.sl s
  · obtain ⟨u, hu⟩ : ∃ u, P.upto 10 (P.sl s) = u := ⟨_, rfl⟩
    have hul : u.length ≤ s.size := by rw [← hu, ← P.sl_len s]; exact P.upto_len 10 _
    have hlt : u.length < 9223372036854775807 := by
      have := (cutV_yes h)
      obtain ⟨j, _, h2, _, h4⟩ := this
      rw [← hu, h4]; omega
    obtain ⟨b, hb⟩ : ∃ b, P.mk (P.behind 10 (P.sl s)) = b := ⟨_, rfl⟩
    have e1 : cutV 10 s = .tuple #[.string (P.mk u), .string b, .bool true] := by unfold cutV; rw [hu, hb, decide_eq_true h]
    have Hc : Hid (∀ w', Calls prog 247 #[.string s, .string ⟨#[10]⟩] w' fun e w'' => e = .returned (.tuple #[.string (P.mk u), .string b, .bool true]) ∧ ∃ n, w'' = w'.drewN n) := hid (fun w' => by rw [← e1]; exact hc w')
    have Hs : Hid (∀ w', Calls prog 280 #[.string (P.mk u), .string ⟨#[13]⟩] w' fun e w'' => e = .returned (.string (lineT s)) ∧ w' = w'') := hid (fun w' => (Tryz.strings_TrimSuffix (P.mk u) ⟨#[13]⟩ w' (by rw [P.mk_size]; omega)).mono (by
      rintro e w'' ⟨rfl, rfl⟩
      refine ⟨?_, rfl⟩
      unfold lineT; rw [if_pos h, hu]; rfl))
    have Hn : Hid (lineN s = (u.length : Int) + 1) := hid (by unfold lineN; rw [if_pos h, hu])
    have hsz : (P.mk u).size = u.length := P.mk_size u
    clear h hc hb hu e1
    go_enter func246, ntmps246
    go_wp2_with (first
      | (go_at_call 247; refine (Hc.out _).mono ?_; rintro e w' ⟨rfl, n, rfl⟩)
      | (go_at_call 280; refine (Hs.out _).mono ?_; rintro e w' ⟨rfl, rfl⟩))
    go_ret2
    exact ⟨by rw [Hn.out]; rfl, n, rfl⟩
  · have e1 := cutV_no h
    have Hc : Hid (∀ w', Calls prog 247 #[.string s, .string ⟨#[10]⟩] w' fun e w'' => e = .returned (.tuple #[.string s, .string ⟨#[]⟩, .bool false]) ∧ ∃ n, w'' = w'.drewN n) := hid (fun w' => by rw [← e1]; exact hc w')
    have Hl : Hid (lineT s = ⟨#[]⟩ ∧ lineN s = 0) := hid (by unfold lineT lineN; rw [if_neg h, if_neg h]; exact ⟨rfl, rfl⟩)
    clear h hc e1
    go_enter func246, ntmps246
    go_wp2_with (go_at_call 247; refine (Hc.out _).mono ?_; rintro e w' ⟨rfl, n, rfl⟩)
    go_ret2
    exact ⟨by rw [Hl.out.1, Hl.out.2]; rfl, n, rfl⟩
end Go.Proofs.YtboehbfagnocpaaGreatDoor.W2
namespace Go.Proofs.YtboehbfagnocpaaGreatDoor.W2
open Go.RowKit Go.Shelf Go.PlainAid
attribute [local go_sem] Oper.semAt_some
theorem trim_any (s : ByteArray) (w : World) : Calls prog 248 #[.string s, .string ⟨#[32]⟩] w fun e w' => e = .returned (.string (P.mk (Lib.trimLeftB (P.sl s) 32))) ∧ w = w' := by
  refine (Tryz.strings_TrimLeft_one s 32 (by decide) w).mono ?_
  rintro e w' ⟨rfl, rfl⟩
  exact ⟨rfl, rfl⟩
theorem words_in (n : Nat) (s : ByteArray) (w : World) : CallsIn Fence.wide n prog 313 #[.string s] w fun e w' => e = .returned (.func (.func 336) #[] #[.pointer (some ⟨w.heap.size, 0, none⟩)]) ∧ w' = w.alloc (.cells #[.string s] 9) := by
  refine callsIn_of_wp func313 rfl trivial ?_ rfl
  simp only [ntmps313, List.size_toArray, List.length_cons, List.length_nil, Nat.reduceAdd, Nat.reduceSub, Array.replicate_succ, Array.replicate_zero, List.push_toArray, List.append_toArray, List.nil_append, List.cons_append]
  gi_wp2
  go_ret
  exact ⟨rfl, rfl⟩
def lineLen : Option Value → Nat | some (.string s) => s.size | _ => 0
structure St (w0 : World) (rec : Loop) (pre : List P.L) (rest : P.L) (W : World) : Prop where
  dfr : W.heap[w0.heap.size + 2]? = some (.deferred (some []))
  lop : W.heap[w0.heap.size + 3]? = some (.loop rec)
  lin : Boxed W (w0.heap.size + 1) 9 (.string (P.mk rest))
  out : ∃ v, Boxed W w0.heap.size 31 v ∧ W.ownsRow (w0.heap.size + 4) 9 1 v pre.length (pre.map (fun l => .string (P.mk l)))
  bel : Below w0.heap.size w0 W
theorem St.size {w0 W : World} {rec : Loop} {pre : List P.L} {rest : P.L} (h : St w0 rec pre rest W) : w0.heap.size + 4 ≤ W.heap.size := (Array.getElem?_eq_some_iff.1 h.lop).1
theorem St.setLine {w0 W : World} {rec : Loop} {pre : List P.L} {rest : P.L} (h : St w0 rec pre rest W) (r2 : P.L) {t : ByteArray} (ht : P.mk r2 = t) : St w0 rec pre r2 (W.setCell ⟨w0.heap.size + 1, 0, none⟩ (.string t)) := by
  subst ht
  obtain ⟨v, hv, hr⟩ := h.out
  refine ⟨(Below.heap_setCell _ _ _ _ (by simp)).trans h.dfr, (Below.heap_setCell _ _ _ _ (by simp)).trans h.lop, h.lin.set _, ⟨v, hv.other (by omega) _, ?_⟩, h.bel.setCell (p := ⟨w0.heap.size + 1, 0, none⟩) (by simp) _⟩
  refine hr.kept (row := some (w0.heap.size + 1)) (grownBy_setCell' W (w0.heap.size + 1) _) ?_
  exact Or.inr (fun e => by have := (hr.lt _ e).1; omega)
theorem St.drewN {w0 W : World} {rec : Loop} {pre : List P.L} {rest : P.L} (h : St w0 rec pre rest W) (k : Nat) : St w0 rec pre rest (W.drewN k) := by
  obtain ⟨v, hv, hr⟩ := h.out
  refine ⟨h.dfr, h.lop, h.lin, ⟨v, hv, ?_⟩, below_drewN h.bel k⟩
  exact hr.kept (row := none) ⟨rfl, rfl, rfl, Nat.le_refl _, fun _ _ _ => rfl⟩ (by cases hv : v.ownBlock <;> simp)
theorem St.put {w0 W : World} {rec rec' : Loop} {pre : List P.L} {rest : P.L} (h : St w0 rec pre rest W) : St w0 rec' pre rest (W.putObj (w0.heap.size + 3) (.loop rec')) := by
  obtain ⟨v, hv, hr⟩ := h.out
  have hs := h.size
  refine ⟨(World.putObj_heap_other (by omega)).trans h.dfr, World.putObj_heap_same (by omega), ?_, ⟨v, ?_, ownsRow_putObj hr _ h.lop rfl⟩, ?_⟩
  · exact (World.putObj_heap_other (by omega)).trans h.lin
  · exact (World.putObj_heap_other (by omega)).trans hv
  · exact h.bel.grown (grownBy_putObj' W _ _) (by omega) (fun k e => by cases e; omega)
set_option maxHeartbeats 1000000 in
theorem iter_in (s : ByteArray) (w0 : World) (rec : Loop) (n : Nat) (hn : 1 ≤ n) (hs : s.size ≤ 4000000)
    (hY : ∀ pre x rest W, St w0 rec pre rest W → pre.length ≤ 4000001 → YieldAt Fence.wide (n - 1) prog (w0.heap.size + 3) #[.string (P.mk x)] W fun e W' => e = .returned (.bool true) ∧ St w0 rec (pre ++ [x]) rest W')
    (W : World) (h0 : St w0 rec [] (P.sl s) W) :
    CallsIn Fence.wide n prog 336 #[.func (.yield (w0.heap.size + 3)) #[] #[], .pointer (some ⟨w0.heap.size + 1, 0, none⟩)] W fun e W' => (∃ v, e = .returned v) ∧ ∃ rest, St w0 rec (P.words s) rest W' := by
  refine callsIn_of_wp func336 rfl trivial ?_ rfl
  simp only [ntmps336, List.size_toArray, List.length_cons, List.length_nil, Nat.reduceAdd, Nat.reduceSub, Array.replicate_succ, Array.replicate_zero, List.push_toArray, List.append_toArray, List.nil_append, List.cons_append]
  gi_wp2
  gi_loopw [] (fun wr => ∃ pre rest, St w0 rec pre rest wr ∧ pre ++ P.go [] rest = P.words s ∧ rest.length ≤ s.size) (fun wr => lineLen (wr.cell? ⟨w0.heap.size + 1, 0, none⟩))
  case atStart => exact ⟨[], P.sl s, h0, rfl, by rw [P.sl_len]; exact Nat.le_refl _⟩
  case round =>
    obtain ⟨pre, rest, hst, hws, hrl⟩ := hrel
    have Hws := hid hws
    clear hws
    have hlc := hst.lin.cell
    have hlf := hst.lin.frozen
    rcases htr : Lib.trimLeftB rest 32 with _ | ⟨a, r⟩
    · have Htr : Hid (∀ w', Calls prog 248 #[.string (P.mk rest), .string ⟨#[32]⟩] w' fun e w'' => e = .returned (.string ⟨#[]⟩) ∧ w' = w'') := hid (fun w' => (trim_any (P.mk rest) w').mono (by rintro e w'' ⟨rfl, rfl⟩; rw [P.sl_mk, htr]; exact ⟨rfl, rfl⟩))
      have hgo := P.go_end htr
      clear htr
      gi_wp2_with (refine ⟨trivial, ?_⟩; gi_at_call 248; refine (callsIn_wide.2 (Htr.out _)).mono ?_; rintro e w' ⟨rfl, rfl⟩)
      refine bodyPost_ret (results_none rfl _ _ _) rfl ?_
      have e1 := Hws.out
      rw [hgo, List.append_nil] at e1
      exact ⟨⟨_, rfl⟩, [], by rw [← e1]; exact hst.setLine [] rfl⟩
    · have hw1 := (P.go_step htr)
      obtain ⟨x, hx⟩ : ∃ x, P.upto 32 (a :: r) = x := ⟨_, rfl⟩
      obtain ⟨re, hre⟩ : ∃ re, P.behind 32 (a :: r) = re := ⟨_, rfl⟩
      obtain ⟨bo, hbo⟩ : ∃ bo, decide (32 ∈ a :: r) = bo := ⟨_, rfl⟩
      obtain ⟨t, ht⟩ : ∃ t, P.mk (a :: r) = t := ⟨_, rfl⟩
      have hts : t.size ≤ 4000000 := by
        rw [← ht, P.mk_size, ← htr]
        have := P.trim_len rest
        omega
      have hrl2 : re.length < rest.length ∧ re.length ≤ s.size := by
        have h1 := P.behind_lt (c := 32) (a := a) (r := r)
        have h2 := P.trim_len rest
        rw [hre] at h1
        rw [htr] at h2
        omega
      have hrc : (P.mk rest).size = rest.length := P.mk_size rest
      have hlen0 : pre.length ≤ 4000001 := by
        have h1 := congrArg List.length Hws.out
        have h2 := P.words_len s [] (P.sl s)
        rw [P.sl_len] at h2
        unfold P.words at h1
        rw [List.length_append] at h1
        omega
      have hws2 : Hid ((pre ++ [x]) ++ P.go [] re = P.words s) := hid (by rw [← Hws.out, hw1, hx, hre]; simp)
      have Htr : Hid (∀ w', Calls prog 248 #[.string (P.mk rest), .string ⟨#[32]⟩] w' fun e w'' => e = .returned (.string t) ∧ w' = w'') := hid (fun w' => (trim_any (P.mk rest) w').mono (by rintro e w'' ⟨rfl, rfl⟩; rw [P.sl_mk, htr, ht]; exact ⟨rfl, rfl⟩))
      have Hct : Hid (∀ w', Calls prog 247 #[.string t, .string ⟨#[32]⟩] w' fun e w'' => e = .returned (.tuple #[.string (P.mk x), .string (P.mk re), .bool bo]) ∧ ∃ n, w'' = w'.drewN n) := hid (fun w' => (cut_any 32 t w' (by unfold maxLen; omega)).mono (by rintro e w'' ⟨rfl, h⟩; refine ⟨?_, h⟩; unfold cutV; rw [← ht, P.sl_mk, hx, hre, hbo]))
      have hne := (nonempty_of_size (s := t) (by rw [← ht, P.mk_size]; simp)).1
      have hne2 := (nonempty_of_size (s := t) (by rw [← ht, P.mk_size]; simp)).2
      have hne3 : (t.toList == []) = false := by rw [beq_eq_false_iff_ne]; exact hne2
      clear htr
      gi_wp2_with (first
        | (refine ⟨trivial, ?_⟩; gi_at_call 248; refine (callsIn_wide.2 (Htr.out _)).mono ?_; rintro e w' ⟨rfl, rfl⟩)
        | (refine ⟨trivial, ?_⟩; gi_at_call 247; refine (callsIn_wide.2 (Hct.out _)).mono ?_; rintro e w' ⟨rfl, k, rfl⟩))
      have hst2 := ((hst.setLine (a :: r) ht).drewN k).setLine re rfl
      obtain ⟨fn, tmps, assign, body, hy, hR⟩ := hY pre x re _ hst2 hlen0
      rw [hy]
      gi_wp2
      refine hR.mono ?_
      rintro e W3 ⟨rfl, hst3⟩
      gi_wp2
      go_roundw
      case rel => exact ⟨pre ++ [x], re, hst3, hws2.out, hrl2.2⟩
      case measure => rw [hst3.lin.cell, hlc]; simp only [lineLen, P.mk_size]; exact hrl2.1
theorem St.app {w0 W w1 : World} {rec : Loop} {pre : List P.L} {rest x : P.L} (h : St w0 rec pre rest W) {v v' : Value} {tmp : Obj} (hv : Boxed W w0.heap.size 31 v)
    (hr : W.ownsRow (w0.heap.size + 4) 9 1 v pre.length (pre.map (fun l => .string (P.mk l))))
    (hown' : w1.ownsRow (w0.heap.size + 4) 9 1 v' (pre.length + 1) (pre.map (fun l => .string (P.mk l)) ++ [.string (P.mk x)])) (hg : (W.alloc tmp).grownBy w1 v.ownBlock) :
    Boxed w1 w0.heap.size 31 v ∧ St w0 rec (pre ++ [x]) rest (w1.setCell ⟨w0.heap.size, 0, none⟩ v') := by
  have hs := h.size
  have keep : ∀ i, i < w0.heap.size + 4 → w1.heap[i]? = W.heap[i]? := fun i hi => by
    rw [hg.block i (by simp; omega) (fun e => by have := (hr.lt i e.symm).1; omega)]
    exact Below.heap_alloc W _ i (by omega)
  have hv1 : Boxed w1 w0.heap.size 31 v := (keep _ (by omega)).trans hv
  have hb1 : Below w0.heap.size w0 w1 := (h.bel.alloc (by omega) tmp).grown hg (by simp; omega) (fun k e => by have := (hr.lt k e).1; omega)
  refine ⟨hv1, ⟨?_, ?_, ?_, ⟨v', hv1.set v', ?_⟩, hb1.setCell (p := ⟨w0.heap.size, 0, none⟩) (Nat.le_refl _) _⟩⟩
  · exact (Below.heap_setCell _ _ _ _ (by simp)).trans ((keep _ (by omega)).trans h.dfr)
  · exact (Below.heap_setCell _ _ _ _ (by simp)).trans ((keep _ (by omega)).trans h.lop)
  · exact Boxed.other ((keep _ (by omega)).trans h.lin) (by omega) _
  · have h2 := hown'.kept (row := some w0.heap.size) (grownBy_setCell' w1 w0.heap.size v') (Or.inr (fun e => by have := (hown'.lt _ e).1; omega))
    simpa using h2
theorem own_base {W : World} {b b' : Nat} {e : TypeId} {size n : Nat} {v : Value} {xs : List Value} (h : W.ownsRow b e size v n xs) (hb : b' ≤ b) : W.ownsRow b' e size v n xs := by
  refine ⟨h.1, ?_⟩
  rcases h.2 with h | ⟨g, cap, cur, h1, h2, h3⟩
  · exact .inl h
  · exact .inr ⟨g, cap, cur, h1, Nat.le_trans hb h2, h3⟩
theorem info9 : (prog.info? 9).map (fun i => (i.zero, i.size, i.bytes)) = some (some (.string ⟨#[]⟩), 1, 16) := by kernel_rfl
set_option maxHeartbeats 1000000 in
theorem split_in (n : Nat) (hn : 3 ≤ n) (s : ByteArray) (w : World) (hs : s.size ≤ 4000000) :
    CallsIn Fence.wide n prog 288 #[.string s] w fun e w' => ∃ v, e = .returned v ∧ w'.ownsRow w.heap.size 9 1 v (P.words s).length ((P.words s).map (fun l => .string (P.mk l))) ∧ Below w.heap.size w w' := by
  have h1 : 1 ≤ n := by omega
  refine callsIn_of_wp_marks func288 rfl trivial ?_ rfl
  simp only [ntmps288, List.size_toArray, List.length_cons, List.length_nil, Nat.reduceAdd, Nat.reduceSub, Array.replicate_succ, Array.replicate_zero, List.push_toArray, List.append_toArray, List.nil_append, List.cons_append]
  gi_wp2_with (refine ⟨trivial, ?_⟩; gi_at_call 313; refine (words_in (n - 1) s _).mono ?_; rintro e w' ⟨rfl, rfl⟩)
  refine wpIn_rangeFunc ?_
  intro fn hfn
  generalize hB : Code.block 1 _ = bod
  generalize hA : Code.region 3 _ _ = asg
  obtain ⟨W0, hW0⟩ : ∃ W0, (w.alloc (.cells #[.slice none 0 0] 31)).alloc (.cells #[.string s] 9) = W0 := ⟨_, rfl⟩
  rw [hW0]
  have e0 : W0.heap.size = w.heap.size + 2 := by rw [← hW0]; simp
  obtain ⟨tm, htm⟩ : ∃ tm : Array Value, #[Value.string s, undef, Value.slice none 0 0, Value.pointer (some ⟨w.heap.size, 0, none⟩), undef, Value.string s, Value.func (Fn.func 336) #[] #[Value.pointer (some ⟨w.heap.size + 1, 0, none⟩)], undef, undef, undef, undef, undef, undef] = tm := ⟨_, rfl⟩
  obtain ⟨rec, hrec⟩ : ∃ rec : Loop, rec = { state := .ready, pending := none, fn, tmps := tm, params := #[7], assign := asg, body := bod, defers := w.heap.size + 2 } := ⟨_, rfl⟩
  obtain ⟨W1, hW1⟩ : ∃ W1, (W0.alloc (.deferred (some []))).alloc (.loop rec) = W1 := ⟨_, rfl⟩
  have hE := run_enterLoop_outer (P := prog) (w := W0) fn tm #[7] asg bod
  rw [e0, ← hrec, hW1, show w.heap.size + 2 + 1 = w.heap.size + 3 from rfl] at hE
  refine ⟨w.heap.size + 3, [{ target := .collected (w.heap.size + 2), args := #[] }], W1, { target := .fn (.func 336) #[.pointer (some ⟨w.heap.size + 1, 0, none⟩)], args := #[.func (.yield (w.heap.size + 3)) #[] #[]] }, W1, 336, #[.func (.yield (w.heap.size + 3)) #[] #[], .pointer (some ⟨w.heap.size + 1, 0, none⟩)], W1, by rw [htm]; exact hE, ?_, ?_, ?_, fun _ => h1, ?_⟩
  · simp [resolve, go_sem]
  · intro f' hf'; trivial
  · simp [invoke, go_sem, enters_of func336 (by kernel_rfl) rfl]
  · have hsz1 : W1.heap.size = w.heap.size + 4 := by rw [← hW1]; simp [e0]
    have hkeep : ∀ i, i < w.heap.size + 2 → W1.heap[i]? = W0.heap[i]? := fun i hi => by
      rw [← hW1, Below.heap_alloc _ _ i (by simp; omega), Below.heap_alloc _ _ i (by omega)]
    have hL1 : W1.heap[w.heap.size + 3]? = some (.loop rec) := by
      rw [← hW1]
      have := World.alloc_heap_new (W0.alloc (.deferred (some []))) (.loop rec)
      rw [World.size_alloc, e0] at this
      exact this
    have hD1 : W1.heap[w.heap.size + 2]? = some (.deferred (some [])) := by
      rw [← hW1, Below.heap_alloc _ _ _ (by simp; omega)]
      have := World.alloc_heap_new W0 (.deferred (some []))
      rw [e0] at this
      exact this
    have hb0 : Boxed W0 w.heap.size 31 (.slice none 0 0) := by rw [← hW0]; exact (Boxed.new w 31 _).alloc _
    have hb1 : Boxed W0 (w.heap.size + 1) 9 (.string s) := by
      rw [← hW0]
      have := Boxed.new (w.alloc (.cells #[.slice none 0 0] 31)) 9 (.string s)
      rw [World.size_alloc] at this
      exact this
    have hbel : Below w.heap.size w W1 := by
      rw [← hW1, ← hW0]
      exact (((((Below.refl _ w).alloc (Nat.le_refl _) _).alloc (by simp) _).alloc (by simp; omega) _).alloc (by simp; omega) _)
    have h0 : St w rec [] (P.sl s) W1 := ⟨hD1, hL1, (hkeep _ (by omega)).trans (by rw [P.mk_sl]; exact hb1), ⟨.slice none 0 0, (hkeep _ (by omega)).trans hb0, World.ownsRow_nil _ _ _ _⟩, hbel⟩
    have r1 : rec.state = .ready := by rw [hrec]
    have r2 : rec.pending = none := by rw [hrec]
    have r3 : rec.params = #[7] := by rw [hrec]
    have r4 : rec.assign = asg := by rw [hrec]
    have r5 : rec.body = bod := by rw [hrec]
    have r6 : rec.tmps = tm := by rw [hrec]
    refine (iter_in s w rec (n - 1) (by omega) hs ?hY W1 h0).mono ?_
    case hY =>
      intro pre x rest W hst hlen
      have hy := run_yield (P := prog) (args := #[.string (P.mk x)]) hst.lop (by rw [r3]; rfl)
      refine ⟨_, _, _, _, hy, roundIn_of_wpIn trivial ?_⟩
      rw [r3, r4, r5, r6, ← hA, ← htm]
      have R1 := hid r1
      have R2 := hid r2
      have hstB := hst.put (rec' := { rec with state := .busy })
      have hbr := run_beginRound (P := prog) hst.lop r1
      clear hrec htm r1 r2 r3 r4 r5 r6 hE hy hW0 hW1 hL1 hD1 hb0 hb1 hkeep h0 hbel hsz1 e0
      gi_wp2
      refine ⟨_, hbr, ?_⟩
      generalize W.putObj (w.heap.size + 3) (.loop { rec with state := .busy }) = W2 at *
      obtain ⟨v, hv, hr⟩ := hstB.out
      have hcv := hv.cell
      have hsz := hstB.size
      obtain ⟨i0, hi, hz0, hz1, hz2⟩ := info_parts info9
      clear hbr
      rw [← hB]
      gi_wp2_with (gi_at_builtin; go_must (refine wpListIn_append_own _ rfl _ _ 31 rfl (w.heap.size + 4) 9 i0 (.string ⟨#[]⟩) 1 16 underlying31 hi hz0 hz1 hz2 rfl (by decide) v pre.length _ rfl (hr.alloc _) ⟨W2.heap.size, 0, none⟩ 1 1 [.string (P.mk x)] rfl rfl (cell_one_new _ _ _) (by simp [Value.oneCell']) (by unfold maxLen; omega) (by omega) (by simp; omega) ?_); intro v' w1 hown' hgrow _; obtain ⟨g', cap', rfl⟩ := ownsRow_succ hown'; obtain ⟨hv1, hst3⟩ := hstB.app hv hr hown' hgrow; have hc1 := hv1.cell; have hf1 := hv1.frozen)
      refine ⟨_, _, run_endRound none hst3.lop, rfl, ?_⟩
      have e1 := R1.out
      have e2 := R2.out
      obtain ⟨st, pe, fn', tm', ps', as', bo', de'⟩ := rec
      simp only at e1 e2
      subst e1 e2
      exact hst3.put
    · rintro e W2 ⟨⟨v, rfl⟩, rest, hst⟩
      have hend := run_endLoop (P := prog) hst.lop (by rw [r1]; simp)
      rw [r2] at hend
      generalize hW4 : W2.putObj (w.heap.size + 3) _ = W4 at hend
      obtain ⟨rec4, hst4⟩ : ∃ rec4, St w rec4 (P.words s) rest W4 := ⟨_, by rw [← hW4]; exact hst.put⟩
      refine ⟨none, W4, hend, ?_⟩
      obtain ⟨v4, hv4, hr4⟩ := hst4.out
      have hc4 := hv4.cell
      have hD4 := hst4.dfr
      have hb4 := hst4.bel
      clear hend hW4 hrec r1 r2 r3 r4 r5 r6 htm hE hst hW0 hW1
      show Exit.inBlock 0 _ Exit.normal _ W4
      gi_wp2
      refine ⟨by simp, .inl ⟨_, _, rfl, run_takeDeferred hD4, ?_⟩⟩
      refine ⟨_, results_tmp rfl _ _ _, ⟨_, rfl, own_base (ownsRow_putObj hr4 _ hD4 rfl) (by omega), ?_⟩⟩
      exact hb4.grown (grownBy_putObj' W4 _ _) hb4.size (fun k e => by cases e; omega)
def SplitPost (s : ByteArray) (w : World) (e : Ending) (w' : World) : Prop := ∃ v, e = .returned v ∧ w'.ownsRow w.heap.size 9 1 v (P.words s).length ((P.words s).map (fun l => .string (P.mk l))) ∧ Below w.heap.size w w'
theorem split_any (s : ByteArray) (w : World) (hs : s.size ≤ 4000000) : Calls prog 288 #[.string s] w (SplitPost s w) := callsIn_wide.1 (split_in 3 (by omega) s w hs)
end Go.Proofs.YtboehbfagnocpaaGreatDoor.W2
namespace Go.Proofs.YtboehbfagnocpaaGreatDoor.W2
open Go.RowKit Go.PlainAid
namespace P
theorem sl_app (a b : ByteArray) : sl (a ++ b) = sl a ++ sl b := by simp [sl, ByteArray.data_append]
end P
theorem own_below {w w' : World} {base n : Nat} {e : TypeId} {size : Nat} {v : Value} {xs : List Value} (h : w.ownsRow base e size v n xs) (hb : Below w.heap.size w w') : w'.ownsRow base e size v n xs :=
  h.kept (row := none) ⟨hb.os, hb.tape, hb.output, hb.size, fun i hi _ => hb.block i hi⟩ (by cases hv : v.ownBlock <;> simp)
def RS (w : World) (v : Value) (l : List ByteArray) : Prop :=
  ∃ a cap, v = .slice a l.length cap ∧ (l ≠ [] → ∃ b o, a = some ⟨b, o, none⟩ ∧ ∀ i, i < l.length → w.cell? ⟨b, o + i, none⟩ = some (.string (l[i]?.getD ⟨#[]⟩)))
theorem rs_own {w : World} {base n : Nat} {v : Value} {l : List ByteArray} (h : w.ownsRow base 9 1 v n (l.map .string)) : RS w v l := by
  have hn : l.length = n := by simpa using h.1
  subst hn
  rcases h.2 with ⟨rfl, h0⟩ | ⟨g, cap, cur, rfl, _⟩
  · exact ⟨none, 0, by rw [h0], fun hne => absurd (List.eq_nil_of_length_eq_zero h0) hne⟩
  · refine ⟨some ⟨g, 0, none⟩, cap, rfl, fun _ => ⟨g, 0, rfl, fun i hi => ?_⟩⟩
    have := h.cellAt i (by omega)
    rw [Nat.zero_add, this]
    simp [hi]
theorem RS.below {w w' : World} {v : Value} {l : List ByteArray} (h : RS w v l) (hb : Below w.heap.size w w') : RS w' v l := by
  obtain ⟨a, cap, rfl, hc⟩ := h
  refine ⟨a, cap, rfl, fun hne => ?_⟩
  obtain ⟨b, o, rfl, hcc⟩ := hc hne
  refine ⟨b, o, rfl, fun i hi => ?_⟩
  have h1 := hcc i hi
  rw [hb.cell (World.block_lt_of_cell? _ _ h1)]
  exact h1
def sumS : List ByteArray → Nat
  | [] => 0
  | s :: l => s.size + 1 + sumS l
theorem sumS_len (l : List ByteArray) : l.length ≤ sumS l := by
  induction l with
  | nil => simp
  | cons x l ih => simp only [sumS, List.length_cons]; omega
theorem RS.at {w : World} {a : Option Addr} {n cap : Nat} {l : List ByteArray} (h : RS w (.slice a n cap) l) {i : Nat} (hi : i < n) : ∃ b o, a = some ⟨b, o, none⟩ ∧ b < w.heap.size ∧ w.cell? ⟨b, o + i, none⟩ = some (.string (l[i]?.getD ⟨#[]⟩)) := by
  obtain ⟨a', cap', e, hc⟩ := h
  simp only [Value.slice.injEq] at e
  obtain ⟨rfl, hln, rfl⟩ := e
  obtain ⟨b, o, rfl, hcc⟩ := hc (by rintro rfl; simp at hln; omega)
  have := hcc i (by omega)
  exact ⟨b, o, rfl, World.block_lt_of_cell? _ _ this, this⟩
namespace P
theorem joinTail_app (a b : List L) : Lib.joinTail [32] (a ++ b) = Lib.joinTail [32] a ++ Lib.joinTail [32] b := by simp [Lib.joinTail]
theorem joinTail_one (x : L) : Lib.joinTail [32] [x] = 32 :: x := by simp [Lib.joinTail]
theorem join_snoc (xs : List L) (x : L) : Lib.join (xs ++ [x]) [32] = if xs = [] then x else Lib.join xs [32] ++ 32 :: x := by
  cases xs with
  | nil => rw [if_pos rfl, List.nil_append, Lib.join_one]
  | cons y ys => rw [if_neg (by simp), List.cons_append, Lib.join_cons, Lib.join_cons, joinTail_app, joinTail_one, List.append_assoc]
theorem joinTail_len (l : List ByteArray) : (Lib.joinTail [32] (l.map sl)).length = sumS l := by
  induction l with
  | nil => rfl
  | cons s l ih =>
    rw [List.map_cons, show sl s :: l.map sl = [sl s] ++ l.map sl from rfl, joinTail_app, joinTail_one, List.length_append, ih]
    simp only [List.length_cons, sl_len, sumS]
theorem join_len (l : List ByteArray) : (Lib.join (l.map sl) [32]).length ≤ sumS l := by
  cases l with
  | nil => simp [Lib.join_nil, sumS]
  | cons s l =>
    rw [List.map_cons, Lib.join_cons, List.length_append, joinTail_len, sl_len]
    simp only [sumS]; omega
end P
def joinB (l : List ByteArray) : ByteArray := P.mk (Lib.join (l.map P.sl) [32])
theorem joinB_snoc (l : List ByteArray) (x : ByteArray) : joinB (l ++ [x]) = if l = [] then x else joinB l ++ ⟨#[32]⟩ ++ x := by
  unfold joinB
  rw [List.map_append, List.map_cons, List.map_nil, P.join_snoc]
  by_cases h : l = []
  · rw [if_pos h, if_pos (by rw [h]; rfl), P.mk_sl]
  · rw [if_neg h, if_neg (by simpa using h)]
    rw [← P.mk_sl (P.mk (Lib.join (l.map P.sl) [32]) ++ ⟨#[32]⟩ ++ x)]
    congr 1
    rw [P.sl_app, P.sl_app, P.sl_mk]
    simp [P.sl]
theorem joinB_size (l : List ByteArray) : (joinB l).size ≤ sumS l := by unfold joinB; rw [P.mk_size]; exact P.join_len l
theorem join24 {w : World} {a : Option Addr} {n cap : Nat} {l : List ByteArray} (h : RS w (.slice a n cap) l) (hcap : n ≤ cap) (hs : sumS l ≤ 100000000) :
    Calls prog 321 #[.slice a n cap, .string ⟨#[32]⟩] w fun e w' => e = .returned (.string (joinB l)) ∧ Below w.heap.size w w' := by
  obtain ⟨a', cap', e, hc⟩ := h
  simp only [Value.slice.injEq] at e
  obtain ⟨rfl, rfl, rfl⟩ := e
  by_cases h0 : l = []
  · subst h0
    refine (Tryz.strings_Join_none a cap ⟨#[32]⟩ w).mono ?_
    rintro e w' ⟨rfl, rfl⟩
    exact ⟨rfl, Below.refl _ _⟩
  · obtain ⟨b, o, rfl, hcc⟩ := hc h0
    have hlt : b < w.heap.size := World.block_lt_of_cell? _ _ (hcc 0 (by cases l; exact absurd rfl h0; simp))
    have hl := sumS_len l
    refine (Tryz.strings_Join b o cap l ⟨#[32]⟩ w (fun j x hx => ?_) hlt (by omega) hcap ?_).mono ?_
    · have hj := (List.getElem?_eq_some_iff.1 hx).1
      have := hcc j hj
      rw [this, hx]; rfl
    · have := P.join_len l
      exact Nat.le_trans this (by omega)
    · rintro e w' ⟨rfl, hb⟩
      exact ⟨rfl, hb⟩
theorem join_any {w : World} {a : Option Addr} {n cap : Nat} {l : List ByteArray} (h : RS w (.slice a n cap) l) (hcap : n ≤ cap) (hs : sumS l ≤ 100000000) :
    Calls prog 293 #[.slice a n cap] w fun e w' => e = .returned (.string (joinB l)) ∧ Below w.heap.size w w' := by
  have hc := hid (join24 h hcap hs)
  clear h
  go_enter func293, ntmps293
  go_wp2_with (fail)
  refine hc.out.mono ?_
  rintro e w' ⟨rfl, hb⟩
  go_wp2_with (fail)
  go_ret
  exact ⟨rfl, hb⟩
theorem RS.len {w : World} {a : Option Addr} {n cap : Nat} {l : List ByteArray} (h : RS w (.slice a n cap) l) : l.length = n := by
  obtain ⟨a', cap', e, _⟩ := h
  simp only [Value.slice.injEq] at e
  exact e.2.1.symm
end Go.Proofs.YtboehbfagnocpaaGreatDoor.W2
namespace Go.Proofs.YtboehbfagnocpaaGreatDoor
open Go.RowKit Go.PlainAid Go.Shelf
def decs : ByteArray := ⟨#[48, 49, 50, 51, 52, 53, 54, 55, 56, 57]⟩
theorem trim_decs (s : ByteArray) (w : World) (hs : s.size ≤ 1000) : Calls prog 272 #[.string s, .string decs] w fun e w' => e = .returned (.string ⟨(Lib.trimS s.data.toList decs.data.toList).toArray⟩) ∧ Below w.heap.size w w' :=
  Any.strings_Trim_laid Tryz.lays160 (by kernel_rfl) s decs w (by omega) (by decide) (ascii_of_all (by decide))
structure Dg (s : ByteArray) (k : Nat) : Prop where
  trim : Lib.trimS s.data.toList decs.data.toList = []
  pos : 0 < s.size
  le : s.size ≤ k
theorem digits_yes {s : ByteArray} {k : Nat} (h : Dg s k) (hk : k ≤ 100) (w : World) : Calls prog 226 #[.string s, .int .i64 k] w fun e w' => e = .returned (.bool true) ∧ Below w.heap.size w w' := by
  have h1 := (W2.nonempty_of_size h.pos).1
  have h2 : (s.size : Int) ≤ (k : Int) := by have := h.le; omega
  have HT := hid (trim_decs s w (by have := h.le; omega))
  rw [h.trim] at HT
  clear h
  go_enter func226, ntmps226
  go_wp2_with (first
    | (go_at_call 272; refine HT.out.mono ?_; rintro e w1 ⟨rfl, hb⟩))
  go_ret
  exact ⟨rfl, hb⟩
theorem parse_yes {s : ByteArray} {u : Nat} (h : Dg s 20) (hu : Lib.parseUintB 64 s.data.toList = .ok u) (w : World) : Calls prog 173 #[.string s] w fun e w' => e = .returned (.tuple #[.int .u64 u, .bool true]) ∧ Below w.heap.size w w' := by
  have HD := hid (digits_yes h (by decide) w)
  have HP := hid (fun w' => Tryz.strconv_ParseUint_10_at64_ok s (by have := h.le; omega) u hu w')
  clear h hu
  go_enter func173, ntmps173
  go_wp2_with (first
    | (go_at_call 226; refine HD.out.mono ?_; rintro e w1 ⟨rfl, hb⟩)
    | (go_at_call 227; refine (HP.out _).mono ?_; rintro e w2 ⟨rfl, hb2⟩))
  go_ret2
  refine ⟨rfl, ?_⟩
  rcases hb2 with rfl | rfl
  · exact hb
  · exact hb.trans (Joins.below_bytesWorld _ _ _ _ hb.size)
theorem signed_yes {s : ByteArray} {u : Int} (h : Dg s 19) (ht : Lib.trimPrefix s.data.toList [45] = s.data.toList) (hu : Lib.parseIntB 64 s.data.toList = .ok u) (w : World) : Calls prog 360 #[.string s] w fun e w' => e = .returned (.tuple #[.int .i64 u, .bool true]) ∧ Below w.heap.size w w' := by
  have HD := hid (digits_yes h (by decide) w)
  have HX := hid (Tryz.strings_TrimPrefix s ⟨#[45]⟩ w)
  rw [show (⟨#[45]⟩ : ByteArray).data.toList = [45] from rfl, ht, show (⟨s.data.toList.toArray⟩ : ByteArray) = s from rfl] at HX
  have HP := hid (fun w' => Tryz.strconv_ParseInt_10_at64_ok s (by have := h.le; omega) u hu w')
  clear h hu ht
  go_enter func360, ntmps360
  go_wp2_with (first
    | (go_at_call 363; refine HX.out.mono ?_; rintro e w1 ⟨rfl, rfl⟩)
    | (go_at_call 226; refine HD.out.mono ?_; rintro e w1 ⟨rfl, hb⟩)
    | (go_at_call 364; refine (HP.out _).mono ?_; rintro e w2 ⟨rfl, hb2⟩))
  go_ret2
  refine ⟨rfl, ?_⟩
  rcases hb2 with rfl | ⟨t, rfl⟩
  · exact hb
  · exact hb.trans (Joins.below_bytesWorld _ _ _ _ hb.size)
def dec (n : Nat) : ByteArray := ⟨(Lib.decDigits n).toArray⟩
theorem fmt_small {n : Nat} (h : n < 100) (w : World) : Calls prog 141 #[.int .u64 n, .int .i64 10] w fun e w' => e = .returned (.string (dec n)) ∧ w' = w := by
  have HS := hid (Tryz.internal_strconv_small n h w)
  have h1 : (n : Int) < 100 := by omega
  have h2 : IntKind.i64.wrap (n : Int) = n := by rw [IntKind.wrap_i64]; omega
  go_enter func141, ntmps141
  go_wp2_with (first
    | (go_at_call 198; refine HS.out.mono ?_; rintro e w1 ⟨rfl, rfl⟩))
  go_ret
  exact ⟨rfl, rfl⟩
theorem text_small {n : Nat} (h : n < 100) (w : World) : Calls prog 27 #[.int .u64 n] w fun e w' => e = .returned (.string (dec n)) ∧ w' = w := by
  have HS := hid (fmt_small h w)
  have HF : Hid (Calls prog 77 #[.int .u64 n, .int .i64 10] w fun e w' => e = .returned (.string (dec n)) ∧ w' = w) := by
    refine hid ?_
    go_enter func77, ntmps77
    go_wp2_with (first
      | (go_at_call 141; refine HS.out.mono ?_; rintro e w1 ⟨rfl, rfl⟩))
    go_ret
    exact ⟨rfl, rfl⟩
  go_enter func27, ntmps27
  go_wp2_with (first
    | (go_at_call 77; refine HF.out.mono ?_; rintro e w1 ⟨rfl, rfl⟩))
  go_ret
  exact ⟨rfl, rfl⟩
end Go.Proofs.YtboehbfagnocpaaGreatDoor
