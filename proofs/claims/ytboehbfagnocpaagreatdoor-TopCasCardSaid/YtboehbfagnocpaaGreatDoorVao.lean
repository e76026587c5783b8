/- Wp, Wk, Wt, Wj, Tnu, Tta, Ttb, Tiv, Tfl, Tbu. -/
import Derived.Test.YtboehbfagnocpaaGreatDoorVan
import Derived.Test.YtboehbfagnocpaaGreatDoorVam
import Derived.Test.YtboehbfagnocpaaGreatDoorVai
import GoSem.Claim
import Derived.Laws.BytesArg
import Derived.PlainAid
import Derived.Lib.TrimByte
import Derived.Lib.Bytealg
import Derived.Lib.IndexLaws
import Derived.WalkKit
import Derived.WalkSpells
import Derived.WalkLawsBesides
import Derived.Lib.Hide
import Derived.Deep.QuietTactic
import Derived.BigQuiet
import Derived.Handy
import Derived.Deep.DeepMust
import Derived.RangeFuncNested
import Derived.RangeFuncBound
import Derived.RangeFuncCalls
import Derived.RangeFuncLeaves
import Derived.RangeFuncBox
import Derived.Shelf.Abstract
import Derived.Shelf.RegionOpen
import Derived.OwnWalkIn
import Derived.TacticsInMore
import Derived.LoopNIn
import Derived.LoopIn
import Derived.Maps.AppendAt
import Derived.Laws.OwnMore
import Derived.Lib.Join
import Derived.Shelf.Strings.SlTrimAscii
import Derived.Lib.SmallJoins
import Derived.Lib.AppendStr
set_option linter.unusedVariables false
set_option linter.unusedSimpArgs false
set_option maxRecDepth 100000
namespace Go.Proofs.YtboehbfagnocpaaGreatDoor.W2.P
open Go.PlainAid
abbrev L := List UInt8
def sl (s : ByteArray) : L := s.data.toList
def mk (l : L) : ByteArray := ⟨l.toArray⟩
theorem mk_sl (s : ByteArray) : mk (sl s) = s := by cases s; simp [mk, sl]
theorem sl_mk (l : L) : sl (mk l) = l := by simp [mk, sl]
theorem sl_len (s : ByteArray) : (sl s).length = s.size := by simp [sl]
theorem mk_size (l : L) : (mk l).size = l.length := by simp [mk, ByteArray.size]
theorem extract_mk (s : ByteArray) (a b : Nat) : s.extract a b = mk (((sl s).take b).drop a) := by
  rw [← mk_sl (s.extract a b)]
  congr 1
  simp [sl, ByteArray.data_extract, List.extract_eq_take_drop, List.drop_take]
def upto (c : UInt8) (l : L) : L := l.takeWhile (· != c)
def behind (c : UInt8) (l : L) : L := (l.dropWhile (· != c)).drop 1
theorem upto_no {c : UInt8} {l : L} (h : c ∉ l) : upto c l = l ∧ behind c l = [] := by
  unfold upto behind
  induction l with
  | nil => exact ⟨rfl, rfl⟩
  | cons a l ih =>
    have h1 : a ≠ c := fun e => h (by simp [e])
    have h2 := ih (fun e => h (by simp [e]))
    simp [List.takeWhile_cons, List.dropWhile_cons, h1, h2.1]
    simpa using h2.2
theorem upto_yes {c : UInt8} {a b : L} (h : c ∉ a) : upto c (a ++ c :: b) = a ∧ behind c (a ++ c :: b) = b := by
  unfold upto behind
  induction a with
  | nil => simp [List.takeWhile_cons, List.dropWhile_cons]
  | cons x a ih =>
    have h1 : x ≠ c := fun e => h (by simp [e])
    have h2 := ih (fun e => h (by simp [e]))
    simp [List.takeWhile_cons, List.dropWhile_cons, h1] at h2 ⊢
    exact h2
theorem split_at {c : UInt8} {l : L} (h : c ∈ l) : l = upto c l ++ c :: behind c l ∧ c ∉ upto c l := by
  unfold upto behind
  induction l with
  | nil => cases h
  | cons a l ih =>
    by_cases h1 : a = c
    · subst h1; simp [List.takeWhile_cons, List.dropWhile_cons]
    · have h2 := ih (by rcases List.mem_cons.1 h with e | e; exact absurd e.symm h1; exact e)
      simp only [List.takeWhile_cons, List.dropWhile_cons, bne_iff_ne, ne_eq, h1, not_false_eq_true, if_true, List.cons_append, List.mem_cons, not_or]
      exact ⟨by rw [← h2.1], ⟨fun e => h1 e.symm, h2.2⟩⟩
theorem index_no {c : UInt8} {l : L} (h : c ∉ l) : Lib.indexByte l c = -1 := by
  rcases Int.lt_or_le (Lib.indexByte l c) 0 with h1 | h1
  · have := Lib.indexByte_ge l c; omega
  · obtain ⟨o, ho⟩ := Int.eq_ofNat_of_zero_le h1
    have := (Lib.indexByte_some ho).1
    exact absurd (List.mem_of_getElem? this) h
theorem index_yes {c : UInt8} {a b : L} (h : c ∉ a) : Lib.indexByte (a ++ c :: b) c = (a.length : Int) := by
  rcases Int.lt_or_le (Lib.indexByte (a ++ c :: b) c) 0 with h1 | h1
  · have h2 := Lib.indexByte_ge (a ++ c :: b) c
    have h3 : Lib.indexByte (a ++ c :: b) c = -1 := by omega
    exact absurd (by simp) (Lib.indexByte_none h3 a.length)
  · obtain ⟨o, ho⟩ := Int.eq_ofNat_of_zero_le h1
    obtain ⟨h2, h3⟩ := Lib.indexByte_some ho
    rw [ho]
    rcases Nat.lt_trichotomy o a.length with h4 | h4 | h4
    · rw [List.getElem?_append_left h4] at h2
      exact absurd (List.mem_of_getElem? h2) h
    · rw [h4]
    · exact absurd (by simp) (h3 a.length h4)
def go : L → L → List L
  | [], [] => []
  | x :: cur, [] => [x :: cur]
  | cur, b :: l => if b = 32 then (if cur = [] then go [] l else cur :: go [] l) else go (cur ++ [b]) l
theorem go_nil (cur : L) : go cur [] = if cur = [] then [] else [cur] := by cases cur <;> simp [go]
theorem go_cons (cur : L) (b : UInt8) (l : L) : go cur (b :: l) = if b = 32 then (if cur = [] then go [] l else cur :: go [] l) else go (cur ++ [b]) l := by cases cur <;> simp [go]
theorem go_word {w : L} (h : 32 ∉ w) : ∀ (cur l : L), go cur (w ++ l) = go (cur ++ w) l := by
  induction w with
  | nil => intro cur l; simp
  | cons a w ih =>
    intro cur l
    have h1 : a ≠ 32 := fun e => h (by simp [e])
    rw [List.cons_append, go_cons, if_neg h1, ih (fun e => h (by simp [e]))]
    simp
theorem go_blank (cur l : L) (t : L) : go cur (t ++ 32 :: l) = go cur t ++ go [] l := by
  induction t generalizing cur with
  | nil => rw [List.nil_append, go_cons, if_pos rfl, go_nil]; split <;> simp
  | cons a t ih =>
    rw [List.cons_append, go_cons, go_cons]
    by_cases h1 : a = 32
    · rw [if_pos h1, if_pos h1]
      by_cases h2 : cur = []
      · rw [if_pos h2, if_pos h2, ih]
      · rw [if_neg h2, if_neg h2, ih]; rfl
    · rw [if_neg h1, if_neg h1, ih]
theorem go_one {w : L} (h : 32 ∉ w) (h0 : w ≠ []) : go [] w = [w] := by
  have := go_word h [] []
  rw [List.append_nil, List.nil_append, go_nil, if_neg h0] at this
  exact this
def words (s : ByteArray) : List L := go [] (sl s)
theorem trim_go (l : L) : go [] (Lib.trimLeftB l 32) = go [] l := by
  unfold Lib.trimLeftB
  induction l with
  | nil => rfl
  | cons a l ih =>
    rw [List.dropWhile_cons]
    by_cases h : a = 32
    · rw [if_pos (by simpa using h), ih, go_cons, if_pos h, if_pos rfl]
    · rw [if_neg (by simpa using h)]
theorem trim_head {l : L} {a : UInt8} {r : L} (h : Lib.trimLeftB l 32 = a :: r) : a ≠ 32 := by
  intro e
  unfold Lib.trimLeftB at h
  have := List.head?_dropWhile_not (p := (· == (32 : UInt8))) (l := l)
  rw [h] at this
  simp [e] at this
theorem trim_len (l : L) : (Lib.trimLeftB l 32).length ≤ l.length := (List.dropWhile_sublist _).length_le
theorem upto_len (c : UInt8) (l : L) : (upto c l).length ≤ l.length := (List.takeWhile_sublist _).length_le
theorem behind_lt {c a : UInt8} {r : L} : (behind c (a :: r)).length < (a :: r).length := by
  unfold behind
  have := (List.dropWhile_sublist (l := a :: r) (fun x => x != c)).length_le
  simp at this ⊢
  omega
theorem go_step {l : L} {a : UInt8} {r : L} (h : Lib.trimLeftB l 32 = a :: r) : go [] l = upto 32 (a :: r) :: go [] (behind 32 (a :: r)) := by
  have ha := trim_head h
  rw [← trim_go l, h]
  have hne : upto 32 (a :: r) ≠ [] := by unfold upto; simp [List.takeWhile_cons, ha]
  by_cases hm : 32 ∈ (a :: r)
  · obtain ⟨e, h2⟩ := split_at hm
    have h3 := go_blank [] (behind 32 (a :: r)) (upto 32 (a :: r))
    rw [← e, go_one h2 hne] at h3
    simpa using h3
  · obtain ⟨e1, e2⟩ := upto_no hm
    rw [e1, e2, go_one hm (by simp)]; rfl
theorem go_end {l : L} (h : Lib.trimLeftB l 32 = []) : go [] l = [] := by rw [← trim_go l, h]; rfl
theorem words_len (s : ByteArray) : ∀ cur l : L, (go cur l).length ≤ l.length + 1 := by
  intro cur l
  induction l generalizing cur with
  | nil => rw [go_nil]; split <;> simp
  | cons b l ih =>
    rw [go_cons]
    split
    · split
      · have := ih []; simp; omega
      · have := ih []; simp; omega
    · have := ih (cur ++ [b]); simp; omega
end Go.Proofs.YtboehbfagnocpaaGreatDoor.W2.P
namespace Go.Proofs.YtboehbfagnocpaaGreatDoor.W2
open Go.RowKit Go.PlainAid
theorem ret_int {k : IntKind} {a b : Int} (h : a = b) : Ending.returned (.int k a) = .returned (.int k b) := by rw [h]
theorem ret_bool {a b : Bool} (h : a = b) : Ending.returned (.bool a) = .returned (.bool b) := by rw [h]
theorem below_drewN {B : Nat} {a w : World} (h : Below B a w) (n : Nat) : Below B a (w.drewN n) := ⟨h.os, h.tape, h.output, h.size, h.block⟩
def keyB (s : ByteArray) : Bool := decide (1 ≤ s.size ∧ s.size ≤ 250 ∧ ∀ i, i < s.size → 32 < bt s i ∧ bt s i ≠ 127)
theorem toList_eq (s : ByteArray) : s.toList = s.data.toList := ByteArray.toList_eq s
theorem empty_of_size {s : ByteArray} (h : s.size = 0) : s.toList.isEmpty = true ∧ s.toList = [] := by
  have e : s.data.toList = [] := List.eq_nil_of_length_eq_zero (by simpa using h)
  rw [toList_eq, e]; exact ⟨rfl, rfl⟩
theorem nonempty_of_size {s : ByteArray} (h : 0 < s.size) : s.toList.isEmpty = false ∧ s.toList ≠ [] := by
  have e : s.data.toList ≠ [] := fun h0 => by
    have := congrArg List.length h0
    simp at this
    rw [this] at h
    exact absurd h (by decide)
  rw [toList_eq]; exact ⟨by simpa using e, e⟩
theorem key_no {s : ByteArray} (h : ¬ ∀ i, i < s.size → 32 < bt s i ∧ bt s i ≠ 127) : keyB s = false := by
  unfold keyB; apply decide_eq_false; exact fun ⟨_, _, h3⟩ => h h3
theorem key_len {s : ByteArray} (h : s.size = 0 ∨ 250 < s.size) : keyB s = false := by
  unfold keyB; apply decide_eq_false; rintro ⟨h1, h2, _⟩; omega
theorem key_eq {s : ByteArray} (h : 1 ≤ s.size) (h3 : ∀ i, i < s.size → 32 < bt s i ∧ bt s i ≠ 127) : keyB s = decide ((s.size : Int) ≤ 250) := by
  unfold keyB
  by_cases h2 : s.size ≤ 250
  · rw [decide_eq_true (by omega : (s.size : Int) ≤ 250)]; exact decide_eq_true ⟨h, h2, h3⟩
  · rw [decide_eq_false (by omega : ¬ (s.size : Int) ≤ 250)]; exact decide_eq_false (fun h' => h2 h'.2.1)
set_option maxHeartbeats 400000 in
theorem key_any (s : ByteArray) (w : World) (hs : s.size ≤ maxLen) : Calls Tryz.prog 164 #[.string s] w fun e w' => e = .returned (.bool (keyB s)) ∧ w = w' := by
  unfold maxLen at hs
  have hb := get_bt s
  go_enter Tryz.func164, Tryz.ntmps164
  go_wp2
  go_loop [7] (fun i => ∃ k : Nat, k ≤ s.size ∧ i = .int .i64 k ∧ (∀ j, j < k → 32 < bt s j ∧ bt s j ≠ 127)) (fun i => s.size - (intOf i).toNat)
  case atStart => exact ⟨0, Nat.zero_le _, rfl, fun j hj => by omega⟩
  case round =>
    obtain ⟨k, hk, rfl, hall⟩ := hrel
    have Hall := Lib.hid hall
    clear hall
    by_cases hlt : k < s.size
    · have hn := bt_nonneg s k
      have hl := bt_le s k
      by_cases h1 : bt s k ≤ 32
      · go_wp2
        go_ret
        exact ⟨ret_bool (key_no (fun h => by have := (h k hlt).1; omega)).symm, rfl⟩
      · by_cases h2 : bt s k = 127
        · have h2' : (bt s k == 127) = true := by simp [h2]
          have H2 := Lib.hid h2
          clear h2
          go_wp2
          go_ret
          exact ⟨ret_bool (key_no (fun h => (h k hlt).2 H2.out)).symm, rfl⟩
        · have h2' : (bt s k == 127) = false := by simp [h2]
          have H2 := Lib.hid h2
          clear h2
          go_wp2
          go_round
          case rel =>
            refine ⟨k + 1, by omega, by go_num, fun j hj => ?_⟩
            rcases Nat.lt_succ_iff_lt_or_eq.1 hj with h | rfl
            · exact Hall.out j h
            · exact ⟨by omega, H2.out⟩
          case measure => simp [intOf]; omega
    · by_cases h0 : s.size = 0
      · obtain ⟨e1, e2⟩ := empty_of_size h0
        have Hk0 := Lib.hid (key_len (s := s) (by omega))
        have h0' : decide (1 ≤ (s.size : Int)) = false := by simp; omega
        clear h0
        go_wp2
        go_ret
        exact ⟨ret_bool Hk0.out.symm, rfl⟩
      · obtain ⟨e1, e2⟩ := nonempty_of_size (s := s) (by omega)
        have h1' : 1 ≤ s.size := by omega
        have Hky := Lib.hid (key_eq (s := s) (by omega) (fun i hi => Hall.out i (by omega)))
        go_wp2
        go_ret
        exact ⟨ret_bool Hky.out.symm, rfl⟩
def cutV (c : UInt8) (s : ByteArray) : Value := .tuple #[.string (P.mk (P.upto c (P.sl s))), .string (P.mk (P.behind c (P.sl s))), .bool (decide (c ∈ P.sl s))]
theorem cutV_no {c : UInt8} {s : ByteArray} (h : c ∉ P.sl s) : cutV c s = .tuple #[.string s, .string ⟨#[]⟩, .bool false] := by
  unfold cutV; rw [(P.upto_no h).1, (P.upto_no h).2, P.mk_sl, decide_eq_false h]; rfl
theorem cutV_yes {c : UInt8} {s : ByteArray} (h : c ∈ P.sl s) : ∃ j : Nat, Lib.indexByte (P.sl s) c = (j : Int) ∧ j < s.size ∧ cutV c s = .tuple #[.string (s.extract 0 j), .string (s.extract (j + 1) s.size), .bool true] ∧ (P.upto c (P.sl s)).length = j := by
  obtain ⟨e, h2⟩ := P.split_at h
  have hl := P.sl_len s
  have hl2 : (P.sl s).length = (P.upto c (P.sl s)).length + ((P.behind c (P.sl s)).length + 1) := by
    have := congrArg List.length e
    simpa using this
  refine ⟨(P.upto c (P.sl s)).length, ?_, by omega, ?_, rfl⟩
  · have := P.index_yes (a := P.upto c (P.sl s)) (b := P.behind c (P.sl s)) h2
    rw [← e] at this; exact this
  · unfold cutV
    rw [decide_eq_true h, P.extract_mk, P.extract_mk]
    generalize hu : P.upto c (P.sl s) = u at *
    generalize hb : P.behind c (P.sl s) = b at *
    rw [show s.size = (P.sl s).length from hl.symm, List.take_length, e]
    simp
theorem cut25 (c : UInt8) (s : ByteArray) (w : World) (hs : s.size ≤ maxLen) : Calls Tryz.prog 281 #[.string s, .string ⟨#[c]⟩] w fun e w' => e = .returned (cutV c s) ∧ ∃ n, w' = w.drewN n := by
  unfold maxLen at hs
  by_cases h : c ∈ P.sl s
  · obtain ⟨j, h1, h2, h3, _⟩ := cutV_yes h
    have H3 := Lib.hid h3
    have hjI : (j : Int) < (s.size : Int) := by omega
    have hj0 : (j : Int) ≤ (s.size : Int) := by omega
    have hj1 : (j : Int) + 1 ≤ (s.size : Int) := by omega
    have hj2 : ((j : Int) + 1).toNat = j + 1 := by omega
    have hj3 : j + 1 ≤ s.size := by omega
    have hj4 : IntKind.i64.wrap ((j : Int) + 1) = (j : Int) + 1 := by rw [IntKind.wrap_i64]; omega
    have hix : ∀ w', Calls Tryz.prog 308 #[.string s, .string ⟨#[c]⟩] w' fun e w'' => e = .returned (.int .i64 j) ∧ w' = w'' := fun w' => (Tryz.stringslite_Index_one s c w').mono (by rintro e w'' ⟨rfl, rfl⟩; exact ⟨by rw [← h1]; rfl, rfl⟩)
    have Hix := Lib.hid hix
    clear h h1 h3 hix
    go_enter Tryz.func281, Tryz.ntmps281
    go_wp2_with (go_at_call 308; refine (Hix.out _).mono ?_; rintro e w' ⟨rfl, rfl⟩)
    go_quiet (fail)
    go_wp2_with (fail)
    go_ret3
    exact ⟨by rw [H3.out]; rfl, _, rfl⟩
  · have H3 := Lib.hid (cutV_no h)
    have hix : ∀ w', Calls Tryz.prog 308 #[.string s, .string ⟨#[c]⟩] w' fun e w'' => e = .returned (.int .i64 (-1)) ∧ w' = w'' := fun w' => (Tryz.stringslite_Index_one s c w').mono (by rintro e w'' ⟨rfl, rfl⟩; exact ⟨by rw [← P.index_no h]; rfl, rfl⟩)
    have Hix := Lib.hid hix
    clear h hix
    go_enter Tryz.func281, Tryz.ntmps281
    go_wp2_with (go_at_call 308; refine (Hix.out _).mono ?_; rintro e w' ⟨rfl, rfl⟩)
    go_ret3
    exact ⟨by rw [H3.out]; rfl, 0, rfl⟩
theorem cut_any (c : UInt8) (s : ByteArray) (w : World) (hs : s.size ≤ maxLen) : Calls Tryz.prog 247 #[.string s, .string ⟨#[c]⟩] w fun e w' => e = .returned (cutV c s) ∧ ∃ n, w' = w.drewN n := by
  have hc : ∀ w', Calls Tryz.prog 281 #[.string s, .string ⟨#[c]⟩] w' fun e w'' => e = .returned (.tuple #[.string (P.mk (P.upto c (P.sl s))), .string (P.mk (P.behind c (P.sl s))), .bool (decide (c ∈ P.sl s))]) ∧ ∃ n, w'' = w'.drewN n := fun w' => cut25 c s w' hs
  have Hc := Lib.hid hc
  clear hc
  obtain ⟨a, ha⟩ : ∃ a, P.mk (P.upto c (P.sl s)) = a := ⟨_, rfl⟩
  obtain ⟨b, hb⟩ : ∃ b, P.mk (P.behind c (P.sl s)) = b := ⟨_, rfl⟩
  obtain ⟨d, hd⟩ : ∃ d, decide (c ∈ P.sl s) = d := ⟨_, rfl⟩
  have H3 : Hid (cutV c s = .tuple #[.string a, .string b, .bool d]) := Lib.hid (by unfold cutV; rw [ha, hb, hd])
  rw [ha, hb, hd] at Hc
  clear ha hb hd
  go_enter Tryz.func247, Tryz.ntmps247
  go_wp2_with (go_at_call 281; refine (Hc.out _).mono ?_; rintro e w' ⟨rfl, n, rfl⟩)
  go_ret3
  exact ⟨by rw [H3.out]; rfl, n, rfl⟩
def lineT (s : ByteArray) : ByteArray := if 10 ∈ P.sl s then P.mk (Lib.trimSuffix (P.upto 10 (P.sl s)) [13]) else ⟨#[]⟩
def lineN (s : ByteArray) : Int := if 10 ∈ P.sl s then ((P.upto 10 (P.sl s)).length : Int) + 1 else 0
def LinePost (s : ByteArray) (w : World) (e : Ending) (w' : World) : Prop := e = .returned (.tuple #[.string (lineT s), .int .i64 (lineN s)]) ∧ ∃ n, w' = w.drewN n
theorem line_any (s : ByteArray) (w : World) (hs : s.size ≤ maxLen) : Calls Tryz.prog 246 #[.string s] w (LinePost s w) := by
  have hc : ∀ w', Calls Tryz.prog 247 #[.string s, .string ⟨#[10]⟩] w' fun e w'' => e = .returned (cutV 10 s) ∧ ∃ n, w'' = w'.drewN n := fun w' => cut_any 10 s w' hs
  unfold maxLen at hs
  by_cases h : 10 ∈ P.sl s
  · obtain ⟨u, hu⟩ : ∃ u, P.upto 10 (P.sl s) = u := ⟨_, rfl⟩
    have hul : u.length ≤ s.size := by rw [← hu, ← P.sl_len s]; exact P.upto_len 10 _
    have hlt : u.length < 9223372036854775807 := by
      have := (cutV_yes h)
      obtain ⟨j, _, h2, _, h4⟩ := this
      rw [← hu, h4]; omega
    obtain ⟨b, hb⟩ : ∃ b, P.mk (P.behind 10 (P.sl s)) = b := ⟨_, rfl⟩
    have e1 : cutV 10 s = .tuple #[.string (P.mk u), .string b, .bool true] := by unfold cutV; rw [hu, hb, decide_eq_true h]
    have Hc : Hid (∀ w', Calls Tryz.prog 247 #[.string s, .string ⟨#[10]⟩] w' fun e w'' => e = .returned (.tuple #[.string (P.mk u), .string b, .bool true]) ∧ ∃ n, w'' = w'.drewN n) := Lib.hid (fun w' => by rw [← e1]; exact hc w')
    have Hs : Hid (∀ w', Calls Tryz.prog 280 #[.string (P.mk u), .string ⟨#[13]⟩] w' fun e w'' => e = .returned (.string (lineT s)) ∧ w' = w'') := Lib.hid (fun w' => (Tryz.strings_TrimSuffix (P.mk u) ⟨#[13]⟩ w' (by rw [P.mk_size]; omega)).mono (by
      rintro e w'' ⟨rfl, rfl⟩
      refine ⟨?_, rfl⟩
      unfold lineT; rw [if_pos h, hu]; rfl))
    have Hn : Hid (lineN s = (u.length : Int) + 1) := Lib.hid (by unfold lineN; rw [if_pos h, hu])
    have hsz : (P.mk u).size = u.length := P.mk_size u
    clear h hc hb hu e1
    go_enter Tryz.func246, Tryz.ntmps246
    go_wp2_with (first
      | (go_at_call 247; refine (Hc.out _).mono ?_; rintro e w' ⟨rfl, n, rfl⟩)
      | (go_at_call 280; refine (Hs.out _).mono ?_; rintro e w' ⟨rfl, rfl⟩))
    go_ret2
    exact ⟨by rw [Hn.out]; rfl, n, rfl⟩
  · have e1 := cutV_no h
    have Hc : Hid (∀ w', Calls Tryz.prog 247 #[.string s, .string ⟨#[10]⟩] w' fun e w'' => e = .returned (.tuple #[.string s, .string ⟨#[]⟩, .bool false]) ∧ ∃ n, w'' = w'.drewN n) := Lib.hid (fun w' => by rw [← e1]; exact hc w')
    have Hl : Hid (lineT s = ⟨#[]⟩ ∧ lineN s = 0) := Lib.hid (by unfold lineT lineN; rw [if_neg h, if_neg h]; exact ⟨rfl, rfl⟩)
    clear h hc e1
    go_enter Tryz.func246, Tryz.ntmps246
    go_wp2_with (go_at_call 247; refine (Hc.out _).mono ?_; rintro e w' ⟨rfl, n, rfl⟩)
    go_ret2
    exact ⟨by rw [Hl.out.1, Hl.out.2]; rfl, n, rfl⟩
end Go.Proofs.YtboehbfagnocpaaGreatDoor.W2
namespace Go.Proofs.YtboehbfagnocpaaGreatDoor.W2
open Go.RowKit Go.Shelf Go.PlainAid
attribute [local go_sem] Oper.semAt_some
theorem trim_any (s : ByteArray) (w : World) : Calls Tryz.prog 248 #[.string s, .string ⟨#[32]⟩] w fun e w' => e = .returned (.string (P.mk (Lib.trimLeftB (P.sl s) 32))) ∧ w = w' := by
  refine (Tryz.strings_TrimLeft_one s 32 (by decide) w).mono ?_
  rintro e w' ⟨rfl, rfl⟩
  exact ⟨rfl, rfl⟩
theorem words_in (n : Nat) (s : ByteArray) (w : World) : CallsIn Fence.wide n Tryz.prog 313 #[.string s] w fun e w' => e = .returned (.func (.func 336) #[] #[.pointer (some ⟨w.heap.size, 0, none⟩)]) ∧ w' = w.alloc (.cells #[.string s] 9) := by
  refine callsIn_of_wp Tryz.func313 rfl trivial ?_ rfl
  simp only [Tryz.ntmps313, List.size_toArray, List.length_cons, List.length_nil, Nat.reduceAdd, Nat.reduceSub, Array.replicate_succ, Array.replicate_zero, List.push_toArray, List.append_toArray, List.nil_append, List.cons_append]
  gi_wp2
  go_ret
  exact ⟨rfl, rfl⟩
def lineLen : Option Value → Nat | some (.string s) => s.size | _ => 0
structure St (w0 : World) (rec : Loop) (pre : List P.L) (rest : P.L) (W : World) : Prop where
  dfr : W.heap[w0.heap.size + 2]? = some (.deferred (some []))
  lop : W.heap[w0.heap.size + 3]? = some (.loop rec)
  lin : Boxed W (w0.heap.size + 1) 9 (.string (P.mk rest))
  out : ∃ v, Boxed W w0.heap.size 31 v ∧ W.ownsRow (w0.heap.size + 4) 9 1 v pre.length (pre.map (fun l => .string (P.mk l)))
  bel : Below w0.heap.size w0 W
theorem St.size {w0 W : World} {rec : Loop} {pre : List P.L} {rest : P.L} (h : St w0 rec pre rest W) : w0.heap.size + 4 ≤ W.heap.size := (Array.getElem?_eq_some_iff.1 h.lop).1
theorem St.setLine {w0 W : World} {rec : Loop} {pre : List P.L} {rest : P.L} (h : St w0 rec pre rest W) (r2 : P.L) {t : ByteArray} (ht : P.mk r2 = t) : St w0 rec pre r2 (W.setCell ⟨w0.heap.size + 1, 0, none⟩ (.string t)) := by
  subst ht
  obtain ⟨v, hv, hr⟩ := h.out
  refine ⟨(Below.heap_setCell _ _ _ _ (by simp)).trans h.dfr, (Below.heap_setCell _ _ _ _ (by simp)).trans h.lop, h.lin.set _, ⟨v, hv.other (by omega) _, ?_⟩, h.bel.setCell (p := ⟨w0.heap.size + 1, 0, none⟩) (by simp) _⟩
  refine hr.kept (row := some (w0.heap.size + 1)) (grownBy_setCell' W (w0.heap.size + 1) _) ?_
  exact Or.inr (fun e => by have := (hr.lt _ e).1; omega)
theorem St.drewN {w0 W : World} {rec : Loop} {pre : List P.L} {rest : P.L} (h : St w0 rec pre rest W) (k : Nat) : St w0 rec pre rest (W.drewN k) := by
  obtain ⟨v, hv, hr⟩ := h.out
  refine ⟨h.dfr, h.lop, h.lin, ⟨v, hv, ?_⟩, below_drewN h.bel k⟩
  exact hr.kept (row := none) ⟨rfl, rfl, rfl, Nat.le_refl _, fun _ _ _ => rfl⟩ (by cases hv : v.ownBlock <;> simp)
theorem St.put {w0 W : World} {rec rec' : Loop} {pre : List P.L} {rest : P.L} (h : St w0 rec pre rest W) : St w0 rec' pre rest (W.putObj (w0.heap.size + 3) (.loop rec')) := by
  obtain ⟨v, hv, hr⟩ := h.out
  have hs := h.size
  refine ⟨(World.putObj_heap_other (by omega)).trans h.dfr, World.putObj_heap_same (by omega), ?_, ⟨v, ?_, ownsRow_putObj hr _ h.lop rfl⟩, ?_⟩
  · exact (World.putObj_heap_other (by omega)).trans h.lin
  · exact (World.putObj_heap_other (by omega)).trans hv
  · exact h.bel.grown (grownBy_putObj' W _ _) (by omega) (fun k e => by cases e; omega)
set_option maxHeartbeats 1000000 in
theorem iter_in (s : ByteArray) (w0 : World) (rec : Loop) (n : Nat) (hn : 1 ≤ n) (hs : s.size ≤ 4000000)
    (hY : ∀ pre x rest W, St w0 rec pre rest W → pre.length ≤ 4000001 → YieldAt Fence.wide (n - 1) Tryz.prog (w0.heap.size + 3) #[.string (P.mk x)] W fun e W' => e = .returned (.bool true) ∧ St w0 rec (pre ++ [x]) rest W')
    (W : World) (h0 : St w0 rec [] (P.sl s) W) :
    CallsIn Fence.wide n Tryz.prog 336 #[.func (.yield (w0.heap.size + 3)) #[] #[], .pointer (some ⟨w0.heap.size + 1, 0, none⟩)] W fun e W' => (∃ v, e = .returned v) ∧ ∃ rest, St w0 rec (P.words s) rest W' := by
  refine callsIn_of_wp Tryz.func336 rfl trivial ?_ rfl
  simp only [Tryz.ntmps336, List.size_toArray, List.length_cons, List.length_nil, Nat.reduceAdd, Nat.reduceSub, Array.replicate_succ, Array.replicate_zero, List.push_toArray, List.append_toArray, List.nil_append, List.cons_append]
  gi_wp2
  gi_loopw [] (fun wr => ∃ pre rest, St w0 rec pre rest wr ∧ pre ++ P.go [] rest = P.words s ∧ rest.length ≤ s.size) (fun wr => lineLen (wr.cell? ⟨w0.heap.size + 1, 0, none⟩))
  case atStart => exact ⟨[], P.sl s, h0, rfl, by rw [P.sl_len]; exact Nat.le_refl _⟩
  case round =>
    obtain ⟨pre, rest, hst, hws, hrl⟩ := hrel
    have Hws := Lib.hid hws
    clear hws
    have hlc := hst.lin.cell
    have hlf := hst.lin.frozen
    rcases htr : Lib.trimLeftB rest 32 with _ | ⟨a, r⟩
    · have Htr : Hid (∀ w', Calls Tryz.prog 248 #[.string (P.mk rest), .string ⟨#[32]⟩] w' fun e w'' => e = .returned (.string ⟨#[]⟩) ∧ w' = w'') := Lib.hid (fun w' => (trim_any (P.mk rest) w').mono (by rintro e w'' ⟨rfl, rfl⟩; rw [P.sl_mk, htr]; exact ⟨rfl, rfl⟩))
      have hgo := P.go_end htr
      clear htr
      gi_wp2_with (refine ⟨trivial, ?_⟩; gi_at_call 248; refine (callsIn_wide.2 (Htr.out _)).mono ?_; rintro e w' ⟨rfl, rfl⟩)
      refine bodyPost_ret (results_none rfl _ _ _) rfl ?_
      have e1 := Hws.out
      rw [hgo, List.append_nil] at e1
      exact ⟨⟨_, rfl⟩, [], by rw [← e1]; exact hst.setLine [] rfl⟩
    · have hw1 := (P.go_step htr)
      obtain ⟨x, hx⟩ : ∃ x, P.upto 32 (a :: r) = x := ⟨_, rfl⟩
      obtain ⟨re, hre⟩ : ∃ re, P.behind 32 (a :: r) = re := ⟨_, rfl⟩
      obtain ⟨bo, hbo⟩ : ∃ bo, decide (32 ∈ a :: r) = bo := ⟨_, rfl⟩
      obtain ⟨t, ht⟩ : ∃ t, P.mk (a :: r) = t := ⟨_, rfl⟩
      have hts : t.size ≤ 4000000 := by
        rw [← ht, P.mk_size, ← htr]
        have := P.trim_len rest
        omega
      have hrl2 : re.length < rest.length ∧ re.length ≤ s.size := by
        have h1 := P.behind_lt (c := 32) (a := a) (r := r)
        have h2 := P.trim_len rest
        rw [hre] at h1
        rw [htr] at h2
        omega
      have hrc : (P.mk rest).size = rest.length := P.mk_size rest
      have hlen0 : pre.length ≤ 4000001 := by
        have h1 := congrArg List.length Hws.out
        have h2 := P.words_len s [] (P.sl s)
        rw [P.sl_len] at h2
        unfold P.words at h1
        rw [List.length_append] at h1
        omega
      have hws2 : Hid ((pre ++ [x]) ++ P.go [] re = P.words s) := Lib.hid (by rw [← Hws.out, hw1, hx, hre]; simp)
      have Htr : Hid (∀ w', Calls Tryz.prog 248 #[.string (P.mk rest), .string ⟨#[32]⟩] w' fun e w'' => e = .returned (.string t) ∧ w' = w'') := Lib.hid (fun w' => (trim_any (P.mk rest) w').mono (by rintro e w'' ⟨rfl, rfl⟩; rw [P.sl_mk, htr, ht]; exact ⟨rfl, rfl⟩))
      have Hct : Hid (∀ w', Calls Tryz.prog 247 #[.string t, .string ⟨#[32]⟩] w' fun e w'' => e = .returned (.tuple #[.string (P.mk x), .string (P.mk re), .bool bo]) ∧ ∃ n, w'' = w'.drewN n) := Lib.hid (fun w' => (cut_any 32 t w' (by unfold maxLen; omega)).mono (by rintro e w'' ⟨rfl, h⟩; refine ⟨?_, h⟩; unfold cutV; rw [← ht, P.sl_mk, hx, hre, hbo]))
      have hne := (nonempty_of_size (s := t) (by rw [← ht, P.mk_size]; simp)).1
      have hne2 := (nonempty_of_size (s := t) (by rw [← ht, P.mk_size]; simp)).2
      have hne3 : (t.toList == []) = false := by rw [beq_eq_false_iff_ne]; exact hne2
      clear htr
      gi_wp2_with (first
        | (refine ⟨trivial, ?_⟩; gi_at_call 248; refine (callsIn_wide.2 (Htr.out _)).mono ?_; rintro e w' ⟨rfl, rfl⟩)
        | (refine ⟨trivial, ?_⟩; gi_at_call 247; refine (callsIn_wide.2 (Hct.out _)).mono ?_; rintro e w' ⟨rfl, k, rfl⟩))
      have hst2 := ((hst.setLine (a :: r) ht).drewN k).setLine re rfl
      obtain ⟨fn, tmps, assign, body, hy, hR⟩ := hY pre x re _ hst2 hlen0
      rw [hy]
      gi_wp2
      refine hR.mono ?_
      rintro e W3 ⟨rfl, hst3⟩
      gi_wp2
      go_roundw
      case rel => exact ⟨pre ++ [x], re, hst3, hws2.out, hrl2.2⟩
      case measure => rw [hst3.lin.cell, hlc]; simp only [lineLen, P.mk_size]; exact hrl2.1
theorem St.app {w0 W w1 : World} {rec : Loop} {pre : List P.L} {rest x : P.L} (h : St w0 rec pre rest W) {v v' : Value} {tmp : Obj} (hv : Boxed W w0.heap.size 31 v)
    (hr : W.ownsRow (w0.heap.size + 4) 9 1 v pre.length (pre.map (fun l => .string (P.mk l))))
    (hown' : w1.ownsRow (w0.heap.size + 4) 9 1 v' (pre.length + 1) (pre.map (fun l => .string (P.mk l)) ++ [.string (P.mk x)])) (hg : (W.alloc tmp).grownBy w1 v.ownBlock) :
    Boxed w1 w0.heap.size 31 v ∧ St w0 rec (pre ++ [x]) rest (w1.setCell ⟨w0.heap.size, 0, none⟩ v') := by
  have hs := h.size
  have keep : ∀ i, i < w0.heap.size + 4 → w1.heap[i]? = W.heap[i]? := fun i hi => by
    rw [hg.block i (by simp; omega) (fun e => by have := (hr.lt i e.symm).1; omega)]
    exact Below.heap_alloc W _ i (by omega)
  have hv1 : Boxed w1 w0.heap.size 31 v := (keep _ (by omega)).trans hv
  have hb1 : Below w0.heap.size w0 w1 := (h.bel.alloc (by omega) tmp).grown hg (by simp; omega) (fun k e => by have := (hr.lt k e).1; omega)
  refine ⟨hv1, ⟨?_, ?_, ?_, ⟨v', hv1.set v', ?_⟩, hb1.setCell (p := ⟨w0.heap.size, 0, none⟩) (Nat.le_refl _) _⟩⟩
  · exact (Below.heap_setCell _ _ _ _ (by simp)).trans ((keep _ (by omega)).trans h.dfr)
  · exact (Below.heap_setCell _ _ _ _ (by simp)).trans ((keep _ (by omega)).trans h.lop)
  · exact Boxed.other ((keep _ (by omega)).trans h.lin) (by omega) _
  · have h2 := hown'.kept (row := some w0.heap.size) (grownBy_setCell' w1 w0.heap.size v') (Or.inr (fun e => by have := (hown'.lt _ e).1; omega))
    simpa using h2
theorem own_base {W : World} {b b' : Nat} {e : TypeId} {size n : Nat} {v : Value} {xs : List Value} (h : W.ownsRow b e size v n xs) (hb : b' ≤ b) : W.ownsRow b' e size v n xs := by
  refine ⟨h.1, ?_⟩
  rcases h.2 with h | ⟨g, cap, cur, h1, h2, h3⟩
  · exact .inl h
  · exact .inr ⟨g, cap, cur, h1, Nat.le_trans hb h2, h3⟩
theorem info9 : (Tryz.prog.info? 9).map (fun i => (i.zero, i.size, i.bytes)) = some (some (.string ⟨#[]⟩), 1, 16) := by kernel_rfl
set_option maxHeartbeats 1000000 in
theorem split_in (n : Nat) (hn : 3 ≤ n) (s : ByteArray) (w : World) (hs : s.size ≤ 4000000) :
    CallsIn Fence.wide n Tryz.prog 288 #[.string s] w fun e w' => ∃ v, e = .returned v ∧ w'.ownsRow w.heap.size 9 1 v (P.words s).length ((P.words s).map (fun l => .string (P.mk l))) ∧ Below w.heap.size w w' := by
  have h1 : 1 ≤ n := by omega
  refine callsIn_of_wp_marks Tryz.func288 rfl trivial ?_ rfl
  simp only [Tryz.ntmps288, List.size_toArray, List.length_cons, List.length_nil, Nat.reduceAdd, Nat.reduceSub, Array.replicate_succ, Array.replicate_zero, List.push_toArray, List.append_toArray, List.nil_append, List.cons_append]
  gi_wp2_with (refine ⟨trivial, ?_⟩; gi_at_call 313; refine (words_in (n - 1) s _).mono ?_; rintro e w' ⟨rfl, rfl⟩)
  refine wpIn_rangeFunc ?_
  intro fn hfn
  generalize hB : Code.block 1 _ = bod
  generalize hA : Code.region 3 _ _ = asg
  obtain ⟨W0, hW0⟩ : ∃ W0, (w.alloc (.cells #[.slice none 0 0] 31)).alloc (.cells #[.string s] 9) = W0 := ⟨_, rfl⟩
  rw [hW0]
  have e0 : W0.heap.size = w.heap.size + 2 := by rw [← hW0]; simp
  obtain ⟨tm, htm⟩ : ∃ tm : Array Value, #[Value.string s, undef, Value.slice none 0 0, Value.pointer (some ⟨w.heap.size, 0, none⟩), undef, Value.string s, Value.func (Fn.func 336) #[] #[Value.pointer (some ⟨w.heap.size + 1, 0, none⟩)], undef, undef, undef, undef, undef, undef] = tm := ⟨_, rfl⟩
  obtain ⟨rec, hrec⟩ : ∃ rec : Loop, rec = { state := .ready, pending := none, fn, tmps := tm, params := #[7], assign := asg, body := bod, defers := w.heap.size + 2 } := ⟨_, rfl⟩
  obtain ⟨W1, hW1⟩ : ∃ W1, (W0.alloc (.deferred (some []))).alloc (.loop rec) = W1 := ⟨_, rfl⟩
  have hE := run_enterLoop_outer (P := Tryz.prog) (w := W0) fn tm #[7] asg bod
  rw [e0, ← hrec, hW1, show w.heap.size + 2 + 1 = w.heap.size + 3 from rfl] at hE
  refine ⟨w.heap.size + 3, [{ target := .collected (w.heap.size + 2), args := #[] }], W1, { target := .fn (.func 336) #[.pointer (some ⟨w.heap.size + 1, 0, none⟩)], args := #[.func (.yield (w.heap.size + 3)) #[] #[]] }, W1, 336, #[.func (.yield (w.heap.size + 3)) #[] #[], .pointer (some ⟨w.heap.size + 1, 0, none⟩)], W1, by rw [htm]; exact hE, ?_, ?_, ?_, fun _ => h1, ?_⟩
  · simp [resolve, go_sem]
  · intro f' hf'; trivial
  · simp [invoke, go_sem, enters_of Tryz.func336 (by kernel_rfl) rfl]
  · have hsz1 : W1.heap.size = w.heap.size + 4 := by rw [← hW1]; simp [e0]
    have hkeep : ∀ i, i < w.heap.size + 2 → W1.heap[i]? = W0.heap[i]? := fun i hi => by
      rw [← hW1, Below.heap_alloc _ _ i (by simp; omega), Below.heap_alloc _ _ i (by omega)]
    have hL1 : W1.heap[w.heap.size + 3]? = some (.loop rec) := by
      rw [← hW1]
      have := World.alloc_heap_new (W0.alloc (.deferred (some []))) (.loop rec)
      rw [World.size_alloc, e0] at this
      exact this
    have hD1 : W1.heap[w.heap.size + 2]? = some (.deferred (some [])) := by
      rw [← hW1, Below.heap_alloc _ _ _ (by simp; omega)]
      have := World.alloc_heap_new W0 (.deferred (some []))
      rw [e0] at this
      exact this
    have hb0 : Boxed W0 w.heap.size 31 (.slice none 0 0) := by rw [← hW0]; exact (Boxed.new w 31 _).alloc _
    have hb1 : Boxed W0 (w.heap.size + 1) 9 (.string s) := by
      rw [← hW0]
      have := Boxed.new (w.alloc (.cells #[.slice none 0 0] 31)) 9 (.string s)
      rw [World.size_alloc] at this
      exact this
    have hbel : Below w.heap.size w W1 := by
      rw [← hW1, ← hW0]
      exact (((((Below.refl _ w).alloc (Nat.le_refl _) _).alloc (by simp) _).alloc (by simp; omega) _).alloc (by simp; omega) _)
    have h0 : St w rec [] (P.sl s) W1 := ⟨hD1, hL1, (hkeep _ (by omega)).trans (by rw [P.mk_sl]; exact hb1), ⟨.slice none 0 0, (hkeep _ (by omega)).trans hb0, World.ownsRow_nil _ _ _ _⟩, hbel⟩
    have r1 : rec.state = .ready := by rw [hrec]
    have r2 : rec.pending = none := by rw [hrec]
    have r3 : rec.params = #[7] := by rw [hrec]
    have r4 : rec.assign = asg := by rw [hrec]
    have r5 : rec.body = bod := by rw [hrec]
    have r6 : rec.tmps = tm := by rw [hrec]
    refine (iter_in s w rec (n - 1) (by omega) hs ?hY W1 h0).mono ?_
    case hY =>
      intro pre x rest W hst hlen
      have hy := run_yield (P := Tryz.prog) (args := #[.string (P.mk x)]) hst.lop (by rw [r3]; rfl)
      refine ⟨_, _, _, _, hy, roundIn_of_wpIn trivial ?_⟩
      rw [r3, r4, r5, r6, ← hA, ← htm]
      have R1 := Lib.hid r1
      have R2 := Lib.hid r2
      have hstB := hst.put (rec' := { rec with state := .busy })
      have hbr := run_beginRound (P := Tryz.prog) hst.lop r1
      clear hrec htm r1 r2 r3 r4 r5 r6 hE hy hW0 hW1 hL1 hD1 hb0 hb1 hkeep h0 hbel hsz1 e0
      gi_wp2
      refine ⟨_, hbr, ?_⟩
      generalize W.putObj (w.heap.size + 3) (.loop { rec with state := .busy }) = W2 at *
      obtain ⟨v, hv, hr⟩ := hstB.out
      have hcv := hv.cell
      have hsz := hstB.size
      obtain ⟨i0, hi, hz0, hz1, hz2⟩ := info_parts info9
      clear hbr
      rw [← hB]
      gi_wp2_with (gi_at_builtin; go_must (refine wpListIn_append_own _ rfl _ _ 31 rfl (w.heap.size + 4) 9 i0 (.string ⟨#[]⟩) 1 16 Tryz.underlying31 hi hz0 hz1 hz2 rfl (by decide) v pre.length _ rfl (hr.alloc _) ⟨W2.heap.size, 0, none⟩ 1 1 [.string (P.mk x)] rfl rfl (cell_one_new _ _ _) (by simp [Value.oneCell']) (by unfold maxLen; omega) (by omega) (by simp; omega) ?_); intro v' w1 hown' hgrow _; obtain ⟨g', cap', rfl⟩ := ownsRow_succ hown'; obtain ⟨hv1, hst3⟩ := hstB.app hv hr hown' hgrow; have hc1 := hv1.cell; have hf1 := hv1.frozen)
      refine ⟨_, _, run_endRound none hst3.lop, rfl, ?_⟩
      have e1 := R1.out
      have e2 := R2.out
      obtain ⟨st, pe, fn', tm', ps', as', bo', de'⟩ := rec
      simp only at e1 e2
      subst e1 e2
      exact hst3.put
    · rintro e W2 ⟨⟨v, rfl⟩, rest, hst⟩
      have hend := run_endLoop (P := Tryz.prog) hst.lop (by rw [r1]; simp)
      rw [r2] at hend
      generalize hW4 : W2.putObj (w.heap.size + 3) _ = W4 at hend
      obtain ⟨rec4, hst4⟩ : ∃ rec4, St w rec4 (P.words s) rest W4 := ⟨_, by rw [← hW4]; exact hst.put⟩
      refine ⟨none, W4, hend, ?_⟩
      obtain ⟨v4, hv4, hr4⟩ := hst4.out
      have hc4 := hv4.cell
      have hD4 := hst4.dfr
      have hb4 := hst4.bel
      clear hend hW4 hrec r1 r2 r3 r4 r5 r6 htm hE hst hW0 hW1
      show Exit.inBlock 0 _ Exit.normal _ W4
      gi_wp2
      refine ⟨by simp, .inl ⟨_, _, rfl, run_takeDeferred hD4, ?_⟩⟩
      refine ⟨_, results_tmp rfl _ _ _, ⟨_, rfl, own_base (ownsRow_putObj hr4 _ hD4 rfl) (by omega), ?_⟩⟩
      exact hb4.grown (grownBy_putObj' W4 _ _) hb4.size (fun k e => by cases e; omega)
def SplitPost (s : ByteArray) (w : World) (e : Ending) (w' : World) : Prop := ∃ v, e = .returned v ∧ w'.ownsRow w.heap.size 9 1 v (P.words s).length ((P.words s).map (fun l => .string (P.mk l))) ∧ Below w.heap.size w w'
theorem split_any (s : ByteArray) (w : World) (hs : s.size ≤ 4000000) : Calls Tryz.prog 288 #[.string s] w (SplitPost s w) := callsIn_wide.1 (split_in 3 (by omega) s w hs)
end Go.Proofs.YtboehbfagnocpaaGreatDoor.W2
namespace Go.Proofs.YtboehbfagnocpaaGreatDoor.W2
open Go.RowKit Go.PlainAid
namespace P
theorem sl_app (a b : ByteArray) : sl (a ++ b) = sl a ++ sl b := by simp [sl, ByteArray.data_append]
end P
theorem own_below {w w' : World} {base n : Nat} {e : TypeId} {size : Nat} {v : Value} {xs : List Value} (h : w.ownsRow base e size v n xs) (hb : Below w.heap.size w w') : w'.ownsRow base e size v n xs :=
  h.kept (row := none) ⟨hb.os, hb.tape, hb.output, hb.size, fun i hi _ => hb.block i hi⟩ (by cases hv : v.ownBlock <;> simp)
def RS (w : World) (v : Value) (l : List ByteArray) : Prop :=
  ∃ a cap, v = .slice a l.length cap ∧ (l ≠ [] → ∃ b o, a = some ⟨b, o, none⟩ ∧ ∀ i, i < l.length → w.cell? ⟨b, o + i, none⟩ = some (.string (l[i]?.getD ⟨#[]⟩)))
theorem rs_own {w : World} {base n : Nat} {v : Value} {l : List ByteArray} (h : w.ownsRow base 9 1 v n (l.map .string)) : RS w v l := by
  have hn : l.length = n := by simpa using h.1
  subst hn
  rcases h.2 with ⟨rfl, h0⟩ | ⟨g, cap, cur, rfl, _⟩
  · exact ⟨none, 0, by rw [h0], fun hne => absurd (List.eq_nil_of_length_eq_zero h0) hne⟩
  · refine ⟨some ⟨g, 0, none⟩, cap, rfl, fun _ => ⟨g, 0, rfl, fun i hi => ?_⟩⟩
    have := h.cellAt i (by omega)
    rw [Nat.zero_add, this]
    simp [hi]
theorem RS.below {w w' : World} {v : Value} {l : List ByteArray} (h : RS w v l) (hb : Below w.heap.size w w') : RS w' v l := by
  obtain ⟨a, cap, rfl, hc⟩ := h
  refine ⟨a, cap, rfl, fun hne => ?_⟩
  obtain ⟨b, o, rfl, hcc⟩ := hc hne
  refine ⟨b, o, rfl, fun i hi => ?_⟩
  have h1 := hcc i hi
  rw [hb.cell (World.block_lt_of_cell? _ _ h1)]
  exact h1
def sumS : List ByteArray → Nat
  | [] => 0
  | s :: l => s.size + 1 + sumS l
theorem sumS_len (l : List ByteArray) : l.length ≤ sumS l := by
  induction l with
  | nil => simp
  | cons x l ih => simp only [sumS, List.length_cons]; omega
theorem RS.at {w : World} {a : Option Addr} {n cap : Nat} {l : List ByteArray} (h : RS w (.slice a n cap) l) {i : Nat} (hi : i < n) : ∃ b o, a = some ⟨b, o, none⟩ ∧ b < w.heap.size ∧ w.cell? ⟨b, o + i, none⟩ = some (.string (l[i]?.getD ⟨#[]⟩)) := by
  obtain ⟨a', cap', e, hc⟩ := h
  simp only [Value.slice.injEq] at e
  obtain ⟨rfl, hln, rfl⟩ := e
  obtain ⟨b, o, rfl, hcc⟩ := hc (by rintro rfl; simp at hln; omega)
  have := hcc i (by omega)
  exact ⟨b, o, rfl, World.block_lt_of_cell? _ _ this, this⟩
namespace P
theorem joinTail_app (a b : List L) : Lib.joinTail [32] (a ++ b) = Lib.joinTail [32] a ++ Lib.joinTail [32] b := by simp [Lib.joinTail]
theorem joinTail_one (x : L) : Lib.joinTail [32] [x] = 32 :: x := by simp [Lib.joinTail]
theorem join_snoc (xs : List L) (x : L) : Lib.join (xs ++ [x]) [32] = if xs = [] then x else Lib.join xs [32] ++ 32 :: x := by
  cases xs with
  | nil => rw [if_pos rfl, List.nil_append, Lib.join_one]
  | cons y ys => rw [if_neg (by simp), List.cons_append, Lib.join_cons, Lib.join_cons, joinTail_app, joinTail_one, List.append_assoc]
theorem joinTail_len (l : List ByteArray) : (Lib.joinTail [32] (l.map sl)).length = sumS l := by
  induction l with
  | nil => rfl
  | cons s l ih =>
    rw [List.map_cons, show sl s :: l.map sl = [sl s] ++ l.map sl from rfl, joinTail_app, joinTail_one, List.length_append, ih]
    simp only [List.length_cons, sl_len, sumS]
theorem join_len (l : List ByteArray) : (Lib.join (l.map sl) [32]).length ≤ sumS l := by
  cases l with
  | nil => simp [Lib.join_nil, sumS]
  | cons s l =>
    rw [List.map_cons, Lib.join_cons, List.length_append, joinTail_len, sl_len]
    simp only [sumS]; omega
end P
def joinB (l : List ByteArray) : ByteArray := P.mk (Lib.join (l.map P.sl) [32])
theorem joinB_snoc (l : List ByteArray) (x : ByteArray) : joinB (l ++ [x]) = if l = [] then x else joinB l ++ ⟨#[32]⟩ ++ x := by
  unfold joinB
  rw [List.map_append, List.map_cons, List.map_nil, P.join_snoc]
  by_cases h : l = []
  · rw [if_pos h, if_pos (by rw [h]; rfl), P.mk_sl]
  · rw [if_neg h, if_neg (by simpa using h)]
    rw [← P.mk_sl (P.mk (Lib.join (l.map P.sl) [32]) ++ ⟨#[32]⟩ ++ x)]
    congr 1
    rw [P.sl_app, P.sl_app, P.sl_mk]
    simp [P.sl]
theorem joinB_size (l : List ByteArray) : (joinB l).size ≤ sumS l := by unfold joinB; rw [P.mk_size]; exact P.join_len l
theorem join24 {w : World} {a : Option Addr} {n cap : Nat} {l : List ByteArray} (h : RS w (.slice a n cap) l) (hcap : n ≤ cap) (hs : sumS l ≤ 100000000) :
    Calls Tryz.prog 321 #[.slice a n cap, .string ⟨#[32]⟩] w fun e w' => e = .returned (.string (joinB l)) ∧ Below w.heap.size w w' := by
  obtain ⟨a', cap', e, hc⟩ := h
  simp only [Value.slice.injEq] at e
  obtain ⟨rfl, rfl, rfl⟩ := e
  by_cases h0 : l = []
  · subst h0
    refine (Tryz.strings_Join_none a cap ⟨#[32]⟩ w).mono ?_
    rintro e w' ⟨rfl, rfl⟩
    exact ⟨rfl, Below.refl _ _⟩
  · obtain ⟨b, o, rfl, hcc⟩ := hc h0
    have hlt : b < w.heap.size := World.block_lt_of_cell? _ _ (hcc 0 (by cases l; exact absurd rfl h0; simp))
    have hl := sumS_len l
    refine (Tryz.strings_Join b o cap l ⟨#[32]⟩ w (fun j x hx => ?_) hlt (by omega) hcap ?_).mono ?_
    · have hj := (List.getElem?_eq_some_iff.1 hx).1
      have := hcc j hj
      rw [this, hx]; rfl
    · have := P.join_len l
      exact Nat.le_trans this (by omega)
    · rintro e w' ⟨rfl, hb⟩
      exact ⟨rfl, hb⟩
theorem join_any {w : World} {a : Option Addr} {n cap : Nat} {l : List ByteArray} (h : RS w (.slice a n cap) l) (hcap : n ≤ cap) (hs : sumS l ≤ 100000000) :
    Calls Tryz.prog 293 #[.slice a n cap] w fun e w' => e = .returned (.string (joinB l)) ∧ Below w.heap.size w w' := by
  have hc := Lib.hid (join24 h hcap hs)
  clear h
  go_enter Tryz.func293, Tryz.ntmps293
  go_wp2_with (fail)
  refine hc.out.mono ?_
  rintro e w' ⟨rfl, hb⟩
  go_wp2_with (fail)
  go_ret
  exact ⟨rfl, hb⟩
theorem RS.len {w : World} {a : Option Addr} {n cap : Nat} {l : List ByteArray} (h : RS w (.slice a n cap) l) : l.length = n := by
  obtain ⟨a', cap', e, _⟩ := h
  simp only [Value.slice.injEq] at e
  exact e.2.1.symm
end Go.Proofs.YtboehbfagnocpaaGreatDoor.W2
namespace Go.Proofs.YtboehbfagnocpaaGreatDoor
open Go.RowKit Go.PlainAid Go.Shelf
def decs : ByteArray := ⟨#[48, 49, 50, 51, 52, 53, 54, 55, 56, 57]⟩
theorem trim_decs (s : ByteArray) (w : World) (hs : s.size ≤ 1000) : Calls Tryz.prog 272 #[.string s, .string decs] w fun e w' => e = .returned (.string ⟨(Lib.trimS s.data.toList decs.data.toList).toArray⟩) ∧ Below w.heap.size w w' :=
  Any.strings_Trim_laid Tryz.lays160 (by kernel_rfl) s decs w (by omega) (by decide) (ascii_of_all (by decide))
structure Dg (s : ByteArray) (k : Nat) : Prop where
  trim : Lib.trimS s.data.toList decs.data.toList = []
  pos : 0 < s.size
  le : s.size ≤ k
theorem digits_yes {s : ByteArray} {k : Nat} (h : Dg s k) (hk : k ≤ 100) (w : World) : Calls Tryz.prog 226 #[.string s, .int .i64 k] w fun e w' => e = .returned (.bool true) ∧ Below w.heap.size w w' := by
  have h1 := (W2.nonempty_of_size h.pos).1
  have h2 : (s.size : Int) ≤ (k : Int) := by have := h.le; omega
  have HT := Lib.hid (trim_decs s w (by have := h.le; omega))
  rw [h.trim] at HT
  clear h
  go_enter Tryz.func226, Tryz.ntmps226
  go_wp2_with (first
    | (go_at_call 272; refine HT.out.mono ?_; rintro e w1 ⟨rfl, hb⟩))
  go_ret
  exact ⟨rfl, hb⟩
theorem parse_yes {s : ByteArray} {u : Nat} (h : Dg s 20) (hu : Lib.parseUintB 64 s.data.toList = .ok u) (w : World) : Calls Tryz.prog 173 #[.string s] w fun e w' => e = .returned (.tuple #[.int .u64 u, .bool true]) ∧ Below w.heap.size w w' := by
  have HD := Lib.hid (digits_yes h (by decide) w)
  have HP := Lib.hid (fun w' => Tryz.strconv_ParseUint_10_at64_ok s (by have := h.le; omega) u hu w')
  clear h hu
  go_enter Tryz.func173, Tryz.ntmps173
  go_wp2_with (first
    | (go_at_call 226; refine HD.out.mono ?_; rintro e w1 ⟨rfl, hb⟩)
    | (go_at_call 227; refine (HP.out _).mono ?_; rintro e w2 ⟨rfl, hb2⟩))
  go_ret2
  refine ⟨rfl, ?_⟩
  rcases hb2 with rfl | rfl
  · exact hb
  · exact hb.trans (Joins.below_bytesWorld _ _ _ _ hb.size)
theorem signed_yes {s : ByteArray} {u : Int} (h : Dg s 19) (ht : Lib.trimPrefix s.data.toList [45] = s.data.toList) (hu : Lib.parseIntB 64 s.data.toList = .ok u) (w : World) : Calls Tryz.prog 360 #[.string s] w fun e w' => e = .returned (.tuple #[.int .i64 u, .bool true]) ∧ Below w.heap.size w w' := by
  have HD := Lib.hid (digits_yes h (by decide) w)
  have HX := Lib.hid (Tryz.strings_TrimPrefix s ⟨#[45]⟩ w)
  rw [show (⟨#[45]⟩ : ByteArray).data.toList = [45] from rfl, ht, show (⟨s.data.toList.toArray⟩ : ByteArray) = s from rfl] at HX
  have HP := Lib.hid (fun w' => Tryz.strconv_ParseInt_10_at64_ok s (by have := h.le; omega) u hu w')
  clear h hu ht
  go_enter Tryz.func360, Tryz.ntmps360
  go_wp2_with (first
    | (go_at_call 363; refine HX.out.mono ?_; rintro e w1 ⟨rfl, rfl⟩)
    | (go_at_call 226; refine HD.out.mono ?_; rintro e w1 ⟨rfl, hb⟩)
    | (go_at_call 364; refine (HP.out _).mono ?_; rintro e w2 ⟨rfl, hb2⟩))
  go_ret2
  refine ⟨rfl, ?_⟩
  rcases hb2 with rfl | ⟨t, rfl⟩
  · exact hb
  · exact hb.trans (Joins.below_bytesWorld _ _ _ _ hb.size)
def dec (n : Nat) : ByteArray := ⟨(Lib.decDigits n).toArray⟩
theorem fmt_small {n : Nat} (h : n < 100) (w : World) : Calls Tryz.prog 141 #[.int .u64 n, .int .i64 10] w fun e w' => e = .returned (.string (dec n)) ∧ w' = w := by
  have HS := Lib.hid (Tryz.internal_strconv_small n h w)
  have h1 : (n : Int) < 100 := by omega
  have h2 : IntKind.i64.wrap (n : Int) = n := by rw [IntKind.wrap_i64]; omega
  go_enter Tryz.func141, Tryz.ntmps141
  go_wp2_with (first
    | (go_at_call 198; refine HS.out.mono ?_; rintro e w1 ⟨rfl, rfl⟩))
  go_ret
  exact ⟨rfl, rfl⟩
theorem text_small {n : Nat} (h : n < 100) (w : World) : Calls Tryz.prog 27 #[.int .u64 n] w fun e w' => e = .returned (.string (dec n)) ∧ w' = w := by
  have HS := Lib.hid (fmt_small h w)
  have HF : Hid (Calls Tryz.prog 77 #[.int .u64 n, .int .i64 10] w fun e w' => e = .returned (.string (dec n)) ∧ w' = w) := by
    refine Lib.hid ?_
    go_enter Tryz.func77, Tryz.ntmps77
    go_wp2_with (first
      | (go_at_call 141; refine HS.out.mono ?_; rintro e w1 ⟨rfl, rfl⟩))
    go_ret
    exact ⟨rfl, rfl⟩
  go_enter Tryz.func27, Tryz.ntmps27
  go_wp2_with (first
    | (go_at_call 77; refine HF.out.mono ?_; rintro e w1 ⟨rfl, rfl⟩))
  go_ret
  exact ⟨rfl, rfl⟩
end Go.Proofs.YtboehbfagnocpaaGreatDoor
namespace Go.Proofs.YtboehbfagnocpaaGreatDoor
open Go.RowKit Go.PlainAid Go.Shelf
theorem Turn.fresh {r r' : Res} {w w' w'' : World} {T : Nat → Prop} (h : Turn r r' w w') (t : Tch T w' w'') (hn : ∀ b, T b → w.heap.size ≤ b ∧ ¬ r'.B b) : Turn r r' w w'' :=
  ⟨r'.keep h.here t (fun b hb hx => (hn b hx).2 hb), h.tch.trans t (fun b hb => .inr (hn b hb).1), fun b hb => h.nu b hb⟩
def setsW (b : Nat) : Nat → List Value → World → World
  | _, [], w => w
  | i, v :: l, w => setsW b (i + 1) l (w.setCell ⟨b, i, none⟩ v)
def setsV : Nat → List Value → Array Value → Array Value
  | _, [], a => a
  | i, v :: l, a => setsV (i + 1) l (a.setIfInBounds i v)
theorem cl_sets (b : Nat) (t : TypeId) : ∀ (l : List Value) (i : Nat) (vs : Array Value) (w : World), (cellsAt b vs t).R w → Turn (cellsAt b vs t) (cellsAt b (setsV i l vs) t) w (setsW b i l w)
  | [], _, _, _, h => Turn.rfl' h
  | v :: l, i, _, _, h => (cl_set h i v).trans (cl_sets b t l (i + 1) _ _ (cl_set h i v).here)
theorem need_ok (f : ByteArray) (w : World) : Calls Tryz.prog 344 #[.bool true, .string f] w fun e w' => e = .returned (.tuple #[]) ∧ w = w' := by
  go_enter Tryz.func344, Tryz.ntmps344
  go_wp2
  go_end0
  exact ⟨rfl, rfl⟩
theorem count_ok {w : World} {lb n cap : Nat} {a : Option Addr} (h : w.cell? ⟨lb, 1, none⟩ = some (.slice a n cap)) (lo hi : Nat) (h1 : lo ≤ n) (h2 : n ≤ hi) :
    Calls Tryz.prog 342 #[.pointer (some ⟨lb, 0, none⟩), .int .i64 lo, .int .i64 hi] w fun e w' => e = .returned (.tuple #[]) ∧ w = w' := by
  have h3 : (lo : Int) ≤ n := by omega
  have h4 : (n : Int) ≤ hi := by omega
  go_enter Tryz.func342, Tryz.ntmps342
  go_wp2_with (first
    | (go_at_call 344; refine (need_ok _ _).mono ?_; rintro e w1 ⟨rfl, rfl⟩))
  go_end0
  exact ⟨rfl, rfl⟩
theorem off_no {w : World} {lb wb o n cap : Nat} {last : ByteArray} (h : w.cell? ⟨lb, 1, none⟩ = some (.slice (some ⟨wb, o, none⟩) (n + 1) cap)) (hl : w.cell? ⟨wb, o + n, none⟩ = some (.string last))
    (hb : (last.toList == [110, 111, 114, 101, 112, 108, 121]) = false) (hn : n ≤ 1000000) :
    Calls Tryz.prog 347 #[.pointer (some ⟨lb, 0, none⟩)] w fun e w' => e = .returned (.tuple #[]) ∧ w = w' := by
  have h3 : (0 : Int) < (n : Int) + 1 := by omega
  have h4 : IntKind.i64.wrap ((n : Int) + 1 - 1) = n := by rw [IntKind.wrap_i64]; omega
  have h5 : IntKind.i64.wrap ((n : Int)) = n := by rw [IntKind.wrap_i64]; omega
  go_enter Tryz.func347, Tryz.ntmps347
  go_wp2
  go_end0
  exact ⟨rfl, rfl⟩
theorem seconds_ok {s : ByteArray} {u : Int} (h : Dg s 19) (ht : Lib.trimPrefix s.data.toList [45] = s.data.toList) (hu : Lib.parseIntB 64 s.data.toList = .ok u) (h1 : -1099511627776 ≤ u) (h2 : u ≤ 1099511627776) (w : World) :
    Calls Tryz.prog 348 #[.string s] w fun e w' => e = .returned (.tuple #[.int .i64 u, .bool true]) ∧ Below w.heap.size w w' := by
  have HP := Lib.hid (signed_yes h ht hu w)
  clear h ht hu
  go_enter Tryz.func348, Tryz.ntmps348
  go_wp2_with (first
    | (go_at_call 360; refine HP.out.mono ?_; rintro e w1 ⟨rfl, hb⟩))
  go_ret2
  exact ⟨rfl, hb⟩
theorem modes_any (w : World) : Calls Tryz.prog 350 #[] w fun e w' => e = .returned (.slice (some ⟨w.heap.size, 0, none⟩) 5 5) ∧
    w' = w.alloc (.cells #[.string ⟨#[115, 101, 116]⟩, .string ⟨#[97, 100, 100]⟩, .string ⟨#[114, 101, 112, 108, 97, 99, 101]⟩, .string ⟨#[97, 112, 112, 101, 110, 100]⟩, .string ⟨#[112, 114, 101, 112, 101, 110, 100]⟩] 9) := by
  go_enter Tryz.func350, Tryz.ntmps350
  go_wp2
  go_ret
  exact ⟨rfl, rfl⟩
structure Cm where
  (op mode : Int)
  (key value : ByteArray)
  (flags exp cas : Int)
  hasCas : Bool
  (delta recache : Int)
def Cm.vs (c : Cm) : Array Value := #[.int .i64 c.op, .int .i64 c.mode, .string c.key, .string c.value, .int .u32 c.flags, .int .i64 c.exp, .bool false, .int .u64 c.cas, .bool c.hasCas, .int .u64 c.delta, .int .u64 0, .bool false, .bool false, .int .i64 0, .int .i64 c.recache, .bool false]
def reqV (kind : Int) (cs : Value) (quiet tokens : Bool) : Value := .agg #[.int .i64 kind, cs, .bool quiet, .bool tokens, .string ⟨#[]⟩, .string ⟨#[]⟩, .int .i64 0, .bool false, .string ⟨#[]⟩, .slice none 0 0, .string ⟨#[]⟩]
def rq0 : Array Value := #[.int .i64 0, .slice none 0 0, .bool false, .bool false, .string ⟨#[]⟩, .string ⟨#[]⟩, .int .i64 0, .bool false, .string ⟨#[]⟩, .slice none 0 0, .string ⟨#[]⟩]
def rq1 (cs : Value) (q : Bool) : List Value := [.int .i64 1, cs, .bool q, .bool false, .string ⟨#[]⟩, .string ⟨#[]⟩, .int .i64 0, .bool false, .string ⟨#[]⟩, .slice none 0 0, .string ⟨#[]⟩]
theorem rq_set (cs : Value) (q : Bool) : setsV 0 (rq1 cs q) rq0 = #[.int .i64 1, cs, .bool q, .bool false, .string ⟨#[]⟩, .string ⟨#[]⟩, .int .i64 0, .bool false, .string ⟨#[]⟩, .slice none 0 0, .string ⟨#[]⟩] := by
  simp [setsV, rq1, rq0]
theorem ret_req {fn : Func} {k : Nat} (hres : fn.results = #[.cell k 33]) {R : Ending → World → Prop} {tmps : Array Value} {W : World} {N : Nat} {v0 v1 v2 v3 v4 v5 v6 v7 v8 v9 v10 : Value}
    (h2 : tmps.getD k undef = .pointer (some ⟨N, 0, none⟩)) (hb : (cellsAt N #[v0, v1, v2, v3, v4, v5, v6, v7, v8, v9, v10] 33).R W)
    (hR : R (.returned (.agg #[v0, v1, v2, v3, v4, v5, v6, v7, v8, v9, v10])) W) :
    bodyPost Tryz.prog fn R .ret { tmps := tmps, defers := [] } W := by
  refine bodyPost_ret (v := .agg #[v0, v1, v2, v3, v4, v5, v6, v7, v8, v9, v10]) ?_ rfl hR
  have h2' : tmps[k]?.getD undef = .pointer (some ⟨N, 0, none⟩) := by simpa using h2
  have x0 : W.cell? ⟨N, 0, none⟩ = some v0 := cells_at hb 0
  have x1 : W.cell? ⟨N, 1, none⟩ = some v1 := cells_at hb 1
  have x2 : W.cell? ⟨N, 2, none⟩ = some v2 := cells_at hb 2
  have x3 : W.cell? ⟨N, 3, none⟩ = some v3 := cells_at hb 3
  have x4 : W.cell? ⟨N, 4, none⟩ = some v4 := cells_at hb 4
  have x5 : W.cell? ⟨N, 5, none⟩ = some v5 := cells_at hb 5
  have x6 : W.cell? ⟨N, 6, none⟩ = some v6 := cells_at hb 6
  have x7 : W.cell? ⟨N, 7, none⟩ = some v7 := cells_at hb 7
  have x8 : W.cell? ⟨N, 8, none⟩ = some v8 := cells_at hb 8
  have x9 : W.cell? ⟨N, 9, none⟩ = some v9 := cells_at hb 9
  have x10 : W.cell? ⟨N, 10, none⟩ = some v10 := cells_at hb 10
  simp [results, hres, go_sem, h2', x0, x1, x2, x3, x4, x5, x6, x7, x8, x9, x10]
theorem ret_req2 {fn : Func} {k m : Nat} (hres : fn.results = #[.cell k 33, .tmp m]) {R : Ending → World → Prop} {tmps : Array Value} {W : World} {N : Nat} {vm v0 v1 v2 v3 v4 v5 v6 v7 v8 v9 v10 : Value}
    (h2 : tmps.getD k undef = .pointer (some ⟨N, 0, none⟩)) (hm : tmps.getD m undef = vm) (hb : (cellsAt N #[v0, v1, v2, v3, v4, v5, v6, v7, v8, v9, v10] 33).R W)
    (hR : R (.returned (.tuple #[.agg #[v0, v1, v2, v3, v4, v5, v6, v7, v8, v9, v10], vm])) W) :
    bodyPost Tryz.prog fn R .ret { tmps := tmps, defers := [] } W := by
  refine bodyPost_ret (v := .tuple #[.agg #[v0, v1, v2, v3, v4, v5, v6, v7, v8, v9, v10], vm]) ?_ rfl hR
  have h2' : tmps[k]?.getD undef = .pointer (some ⟨N, 0, none⟩) := by simpa using h2
  have h3' : tmps[m]?.getD undef = vm := by simpa using hm
  have x0 : W.cell? ⟨N, 0, none⟩ = some v0 := cells_at hb 0
  have x1 : W.cell? ⟨N, 1, none⟩ = some v1 := cells_at hb 1
  have x2 : W.cell? ⟨N, 2, none⟩ = some v2 := cells_at hb 2
  have x3 : W.cell? ⟨N, 3, none⟩ = some v3 := cells_at hb 3
  have x4 : W.cell? ⟨N, 4, none⟩ = some v4 := cells_at hb 4
  have x5 : W.cell? ⟨N, 5, none⟩ = some v5 := cells_at hb 5
  have x6 : W.cell? ⟨N, 6, none⟩ = some v6 := cells_at hb 6
  have x7 : W.cell? ⟨N, 7, none⟩ = some v7 := cells_at hb 7
  have x8 : W.cell? ⟨N, 8, none⟩ = some v8 := cells_at hb 8
  have x9 : W.cell? ⟨N, 9, none⟩ = some v9 := cells_at hb 9
  have x10 : W.cell? ⟨N, 10, none⟩ = some v10 := cells_at hb 10
  simp [results, hres, go_sem, h2', h3', x0, x1, x2, x3, x4, x5, x6, x7, x8, x9, x10]
set_option maxHeartbeats 1000000 in
theorem do_one {w : World} {lb cb cap : Nat} {q : Bool} {c : Cm} (h : (rowAt (.slice (some ⟨cb, 0, none⟩) 1 cap) 56 16 1 c.vs.toList).R w) (hq : w.cell? ⟨lb, 4, none⟩ = some (.bool q)) (hne : lb ≠ cb) :
    Calls Tryz.prog 345 #[.pointer (some ⟨lb, 0, none⟩), .slice (some ⟨cb, 0, none⟩) 1 cap] w fun e w' => e = .returned (reqV 1 (.slice (some ⟨cb, 0, none⟩) 1 cap) q false) ∧
      Turn (rowAt (.slice (some ⟨cb, 0, none⟩) 1 cap) 56 16 1 c.vs.toList) (rowAt (.slice (some ⟨cb, 0, none⟩) 1 cap) 56 16 1 { c with recache := -1 }.vs.toList) w w' := by
  have t0 := (Turn.rfl' h).alloc (.cells rq0 33)
  have hc : 1 ≤ cap := (own_cap h).1
  have hl : cb < w.heap.size := (rowAt (.slice (some ⟨cb, 0, none⟩) 1 cap) 56 16 1 c.vs.toList).lt h rfl
  have B0 := cells_new w rq0 33
  have t1 := t0.trans (row_set t0.here 14 (.int .i64 (-1)))
  have e1 : c.vs.toList.set 14 (.int .i64 (-1)) = { c with recache := -1 }.vs.toList := rfl
  rw [e1] at t1
  have c14 : (w.alloc (.cells rq0 33)).cell? ⟨cb, 14, none⟩ = some (.int .i64 c.recache) := row_at t0.here 14 (by simp [Cm.vs])
  have f14 := row_fz t0.here 14
  have hlq : lb < w.heap.size := by
    rcases Nat.lt_or_ge lb w.heap.size with h1 | h1
    · exact h1
    · simp [World.cell?, Array.getElem?_eq_none h1] at hq
  have hq1 : (w.alloc (.cells rq0 33)).cell? ⟨lb, 4, none⟩ = some (.bool q) := ((below_alloc' w _).cell (p := ⟨lb, 4, none⟩) hlq).trans hq
  have hq2 : ((w.alloc (.cells rq0 33)).setCell ⟨cb, 14, none⟩ (.int .i64 (-1))).cell? ⟨lb, 4, none⟩ = some (.bool q) := by
    rw [World.cell?_setCell_other _ _ _ _ (by simp)]; exact hq1
  have B1 := (cellsAt w.heap.size rq0 33).keep B0 (row_set t0.here 14 (.int .i64 (-1))).tch (fun b hb hx => by have e1 : b = w.heap.size := hb; have e2 : some cb = some b := hx; cases e2; omega)
  have T1 := Lib.hid t1
  obtain ⟨N, hN⟩ : ∃ N, w.heap.size = N := ⟨_, rfl⟩
  obtain ⟨W, hW⟩ : ∃ W, w.alloc (.cells rq0 33) = W := ⟨_, rfl⟩
  rw [hN] at hl hlq B1 B0
  rw [hW] at T1 c14 f14 hq1 hq2 B1 B0
  clear t0 t1 e1 h hq
  go_enter Tryz.func345, Tryz.ntmps345
  go_wp2
  try rw [hN]
  rw [show w.alloc (.cells #[.int .i64 0, .slice none 0 0, .bool false, .bool false, .string ⟨#[]⟩, .string ⟨#[]⟩, .int .i64 0, .bool false, .string ⟨#[]⟩, .slice none 0 0, .string ⟨#[]⟩] 33) = W from hW]
  have HN := Lib.hid hN
  clear hW hN
  go_loopw [8] (fun i wr => (i = .int .i64 0 ∧ wr = W) ∨ (i = .int .i64 1 ∧ wr = W.setCell ⟨cb, 14, none⟩ (.int .i64 (-1)))) (fun i _ => 1 - (intOf i).toNat)
  case atStart => exact .inl ⟨rfl, rfl⟩
  case round =>
    rcases hrel with ⟨rfl, hr⟩ | ⟨rfl, hr⟩
    · subst hr
      clear hq1 hq2
      go_wp2
      go_roundw
      case rel => exact .inr ⟨by first | rfl | trivial | simp, by first | rfl | trivial | simp⟩
      case measure => simp [intOf]
    · subst hr
      clear hq1 c14 f14
      obtain ⟨W1, hW1⟩ : ∃ W1, W.setCell ⟨cb, 14, none⟩ (.int .i64 (-1)) = W1 := ⟨_, rfl⟩
      rw [hW1] at hq2 B1 T1 ⊢
      clear hW1
      have k0 : W1.cell? ⟨N, 0, none⟩ = some (.int .i64 0) := cells_at B1 0
      have l0 := cells_fz B1 0
      have k1 : W1.cell? ⟨N, 1, none⟩ = some (.slice none 0 0) := cells_at B1 1
      have l1 := cells_fz B1 1
      have k2 : W1.cell? ⟨N, 2, none⟩ = some (.bool false) := cells_at B1 2
      have l2 := cells_fz B1 2
      have k3 : W1.cell? ⟨N, 3, none⟩ = some (.bool false) := cells_at B1 3
      have l3 := cells_fz B1 3
      have k4 : W1.cell? ⟨N, 4, none⟩ = some (.string ⟨#[]⟩) := cells_at B1 4
      have l4 := cells_fz B1 4
      have k5 : W1.cell? ⟨N, 5, none⟩ = some (.string ⟨#[]⟩) := cells_at B1 5
      have l5 := cells_fz B1 5
      have k6 : W1.cell? ⟨N, 6, none⟩ = some (.int .i64 0) := cells_at B1 6
      have l6 := cells_fz B1 6
      have k7 : W1.cell? ⟨N, 7, none⟩ = some (.bool false) := cells_at B1 7
      have l7 := cells_fz B1 7
      have k8 : W1.cell? ⟨N, 8, none⟩ = some (.string ⟨#[]⟩) := cells_at B1 8
      have l8 := cells_fz B1 8
      have k9 : W1.cell? ⟨N, 9, none⟩ = some (.slice none 0 0) := cells_at B1 9
      have l9 := cells_fz B1 9
      have k10 : W1.cell? ⟨N, 10, none⟩ = some (.string ⟨#[]⟩) := cells_at B1 10
      have l10 := cells_fz B1 10
      have s1 := cl_sets N 33 (rq1 (.slice (some ⟨cb, 0, none⟩) 1 cap) q) 0 _ W1 B1
      obtain ⟨W2, hW2⟩ : ∃ W2, setsW N 0 (rq1 (.slice (some ⟨cb, 0, none⟩) 1 cap) q) W1 = W2 := ⟨_, rfl⟩
      rw [hW2, rq_set] at s1
      simp only [setsW, rq1] at hW2
      have S1 := Lib.hid s1
      have HW2 := Lib.hid hW2
      clear s1 B1 hW2
      go_wp2
      rw [HW2.out]
      refine ret_req (N := N) rfl rfl S1.out.here ⟨rfl, T1.out.fresh S1.out.tch (fun b hb => ?_)⟩
      have e1 : b = N := hb
      subst e1
      have hN := HN.out
      exact ⟨by omega, fun h => by have e2 : some cb = some b := h; cases e2; omega⟩
end Go.Proofs.YtboehbfagnocpaaGreatDoor
namespace Go.Proofs.YtboehbfagnocpaaGreatDoor
open Go.RowKit Go.PlainAid Go.Shelf
theorem Inv.old {w0 w : World} {L : List Res} (h : Inv w0 L w) {p : Addr} (hp : p.block < w0.heap.size) : w.cell? p = w0.cell? p := h.bel.cell hp
theorem cell_lt {w : World} {b i : Nat} {v : Value} (h : w.cell? ⟨b, i, none⟩ = some v) : b < w.heap.size := by
  rcases Nat.lt_or_ge b w.heap.size with h1 | h1
  · exact h1
  · simp [World.cell?, Array.getElem?_eq_none h1] at h
theorem elem_cmd : Elem 30 56 16 136 := ⟨Tryz.underlying30, ⟨.agg #[.int .i64 0, .int .i64 0, .string ⟨#[]⟩, .string ⟨#[]⟩, .int .u32 0, .int .i64 0, .bool false, .int .u64 0, .bool false, .int .u64 0, .int .u64 0, .bool false, .bool false, .int .i64 0, .int .i64 0, .bool false], by kernel_rfl, by kernel_rfl⟩, by decide⟩
def cm0 : Cm := ⟨0, 0, ⟨#[]⟩, ⟨#[]⟩, 0, 0, 0, false, 0, 0⟩
set_option maxHeartbeats 2000000 in
theorem get_one {w : World} {lb wb cap : Nat} {key : ByteArray} (h0 : w.cell? ⟨lb, 0, none⟩ = some (.string ⟨#[103, 101, 116]⟩)) (h1 : w.cell? ⟨lb, 1, none⟩ = some (.slice (some ⟨wb, 1, none⟩) 1 cap)) (h4 : w.cell? ⟨lb, 4, none⟩ = some (.bool false))
    (hk : w.cell? ⟨wb, 1, none⟩ = some (.string key)) (hkey : W2.keyB key = true) (hks : key.size ≤ 250) :
    Calls Tryz.prog 318 #[.pointer (some ⟨lb, 0, none⟩)] w fun e w' => ∃ cb cc, e = .returned (reqV 1 (.slice (some ⟨cb, 0, none⟩) 1 cc) false false) ∧
      Made (rowAt (.slice (some ⟨cb, 0, none⟩) 1 cc) 56 16 1 { cm0 with op := 1, key := key, recache := -1 }.vs.toList) w w' := by
  have l1 := cell_lt h0
  have l2 := cell_lt hk
  have i1 := (Inv.start w).new (cells_new w rq0 33) (below_alloc' w _) (fun b hb => by have e : b = w.heap.size := hb; omega)
  have i3 := i1.new (cells_new _ { cm0 with op := 1 }.vs 56) (below_alloc' _ _) (fun b hb => by have e : b = (w.alloc (.cells rq0 33)).heap.size := hb; omega)
  simp only [World.size_alloc] at i3
  have HP := Lib.hid (fun w' => Tryz.strings_HasPrefix ⟨#[103, 101, 116]⟩ ⟨#[103, 97, 116]⟩ w')
  have HK := Lib.hid (fun w' => W2.key_any key w' (by unfold maxLen; omega))
  rw [hkey] at HK
  go_enter Tryz.func318, Tryz.ntmps318
  go_wp2_with (first
    | (go_at_call 294; refine (HP.out _).mono ?_; rintro e w1 ⟨rfl, rfl⟩)
    | (go_at_call 344; refine (need_ok _ _).mono ?_; rintro e w1 ⟨rfl, rfl⟩))
  obtain ⟨N, hN⟩ : ∃ N, w.heap.size = N := ⟨_, rfl⟩
  obtain ⟨W, hW⟩ : ∃ W, (w.alloc (.cells rq0 33)).alloc (.cells { cm0 with op := 1 }.vs 56) = W := ⟨_, rfl⟩
  rw [hW] at i3
  have hW' := hW
  simp only [rq0, Cm.vs, cm0] at hW'
  rw [hW']
  rw [hN] at i3 l1 l2 ⊢
  have I3 := Lib.hid i3
  clear hW hW' i1 i3
  go_loopw [5, 41] (fun all i wr => (i = .int .i64 0 ∧ all = .slice none 0 0 ∧ wr = W) ∨ (i = .int .i64 1 ∧ ∃ g gc, all = .slice (some ⟨g, 0, none⟩) 1 gc ∧ Hid (Inv w [rowAt (.slice (some ⟨g, 0, none⟩) 1 gc) 56 16 1 { cm0 with op := 1, key := key }.vs.toList, cellsAt (N + 1) { cm0 with op := 1, key := key }.vs 56, cellsAt N rq0 33] wr))) (fun _ i _ => 1 - (intOf i).toNat)
  case atStart => exact .inl ⟨rfl, rfl, rfl⟩
  case round =>
    rcases hrel with ⟨rfl, rfl, hr⟩ | ⟨rfl, g, gc, rfl, hI⟩
    · subst hr
      have k0 : wr.cell? ⟨N + 1, 0, none⟩ = some (.int .i64 1) := cells_at (I3.out.get 0 rfl) 0
      have k1 : wr.cell? ⟨N + 1, 1, none⟩ = some (.int .i64 0) := cells_at (I3.out.get 0 rfl) 1
      have k2 : wr.cell? ⟨N + 1, 2, none⟩ = some (.string ⟨#[]⟩) := cells_at (I3.out.get 0 rfl) 2
      have k3 : wr.cell? ⟨N + 1, 3, none⟩ = some (.string ⟨#[]⟩) := cells_at (I3.out.get 0 rfl) 3
      have k4 : wr.cell? ⟨N + 1, 4, none⟩ = some (.int .u32 0) := cells_at (I3.out.get 0 rfl) 4
      have k5 : wr.cell? ⟨N + 1, 5, none⟩ = some (.int .i64 0) := cells_at (I3.out.get 0 rfl) 5
      have k6 : wr.cell? ⟨N + 1, 6, none⟩ = some (.bool false) := cells_at (I3.out.get 0 rfl) 6
      have k7 : wr.cell? ⟨N + 1, 7, none⟩ = some (.int .u64 0) := cells_at (I3.out.get 0 rfl) 7
      have k8 : wr.cell? ⟨N + 1, 8, none⟩ = some (.bool false) := cells_at (I3.out.get 0 rfl) 8
      have k9 : wr.cell? ⟨N + 1, 9, none⟩ = some (.int .u64 0) := cells_at (I3.out.get 0 rfl) 9
      have k10 : wr.cell? ⟨N + 1, 10, none⟩ = some (.int .u64 0) := cells_at (I3.out.get 0 rfl) 10
      have k11 : wr.cell? ⟨N + 1, 11, none⟩ = some (.bool false) := cells_at (I3.out.get 0 rfl) 11
      have k12 : wr.cell? ⟨N + 1, 12, none⟩ = some (.bool false) := cells_at (I3.out.get 0 rfl) 12
      have k13 : wr.cell? ⟨N + 1, 13, none⟩ = some (.int .i64 0) := cells_at (I3.out.get 0 rfl) 13
      have k14 : wr.cell? ⟨N + 1, 14, none⟩ = some (.int .i64 0) := cells_at (I3.out.get 0 rfl) 14
      have k15 : wr.cell? ⟨N + 1, 15, none⟩ = some (.bool false) := cells_at (I3.out.get 0 rfl) 15
      have f2 := cells_fz (I3.out.get 0 rfl) 2
      have kk : wr.cell? ⟨wb, 1, none⟩ = some (.string key) := (I3.out.old (p := ⟨wb, 1, none⟩) (by rw [hN]; exact l2)).trans hk
      have i4 := I3.out.turn 0 rfl (cl_set (I3.out.get 0 rfl) 2 (.string key))
      have I4 := Lib.hid i4
      have hsz : (wr.setCell ⟨N + 1, 2, none⟩ (.string key)).heap.size = wr.heap.size := by simp
      clear i4
      go_wp2_with (first
        | (go_at_call 164; refine (HK.out _).mono ?_; rintro e w1 ⟨rfl, rfl⟩)
        | (go_at_call 344; refine (need_ok _ _).mono ?_; rintro e w1 ⟨rfl, rfl⟩)
        | (at_builtin; go_must (refine wp_appEl elem_cmd rfl _ _ rfl rfl (row_nil _ _ _) (by rw [hsz]; rfl) rfl (by simp [Value.oneCell']) (by omega) (by omega) ?_); intro g gc w2 ht2
           have m2 := (Made.mk (row_nil _ _ _) (Below.refl _ _) (fun b hb => by cases hb)).turn ht2
           have i5 := I4.out.new m2.here m2.bel m2.lo
           have I5 := Lib.hid i5
           clear i5 m2 ht2))
      go_roundw
      case rel => exact .inr ⟨by first | rfl | trivial | simp, g, gc, by first | rfl | trivial | simp, I5⟩
      case measure => simp [intOf]
    · have m0 : wr.cell? ⟨lb, 0, none⟩ = some (.string ⟨#[103, 101, 116]⟩) := (hI.out.old (p := ⟨lb, 0, none⟩) (by rw [hN]; exact l1)).trans h0
      have m4 : wr.cell? ⟨lb, 4, none⟩ = some (.bool false) := (hI.out.old (p := ⟨lb, 4, none⟩) (by rw [hN]; exact l1)).trans h4
      have hgN : N ≤ g := by rw [← hN]; exact hI.out.lo _ (.head _) g rfl
      have HD := Lib.hid (do_one (hI.out.get 0 rfl) m4 (by omega))
      have HS := Lib.hid (fun w' => Tryz.strings_HasSuffix ⟨#[103, 101, 116]⟩ ⟨#[115]⟩ w' (by decide))
      have hsf : Lib.hasSuffix [103, 101, 116] [115] = false := by decide
      go_wp2_with (first
        | (go_at_call 345; refine HD.out.mono ?_; rintro e w1 ⟨rfl, ht⟩
           have i5 := hI.out.turn 0 rfl ht
           have m11 : ∀ o, (w1.alloc o).cell? ⟨lb, 0, none⟩ = some (.string ⟨#[103, 101, 116]⟩) := fun o => ((i5.below (below_alloc' w1 o)).old (p := ⟨lb, 0, none⟩) (by rw [hN]; exact l1)).trans h0
           have hb1 : ∀ o, (cellsAt N rq0 33).R (w1.alloc o) := fun o => (i5.below (below_alloc' w1 o)).get 2 rfl
           have n0 : ∀ o, (w1.alloc o).cell? ⟨N, 0, none⟩ = some (.int .i64 0) := fun o => cells_at (hb1 o) 0
           have f0 : ∀ o, (w1.alloc o).frozen? ⟨N, 0, none⟩ = false := fun o => cells_fz (hb1 o) 0
           have n1 : ∀ o, (w1.alloc o).cell? ⟨N, 1, none⟩ = some (.slice none 0 0) := fun o => cells_at (hb1 o) 1
           have f1 : ∀ o, (w1.alloc o).frozen? ⟨N, 1, none⟩ = false := fun o => cells_fz (hb1 o) 1
           have n2 : ∀ o, (w1.alloc o).cell? ⟨N, 2, none⟩ = some (.bool false) := fun o => cells_at (hb1 o) 2
           have f2 : ∀ o, (w1.alloc o).frozen? ⟨N, 2, none⟩ = false := fun o => cells_fz (hb1 o) 2
           have n3 : ∀ o, (w1.alloc o).cell? ⟨N, 3, none⟩ = some (.bool false) := fun o => cells_at (hb1 o) 3
           have f3 : ∀ o, (w1.alloc o).frozen? ⟨N, 3, none⟩ = false := fun o => cells_fz (hb1 o) 3
           have n4 : ∀ o, (w1.alloc o).cell? ⟨N, 4, none⟩ = some (.string ⟨#[]⟩) := fun o => cells_at (hb1 o) 4
           have f4 : ∀ o, (w1.alloc o).frozen? ⟨N, 4, none⟩ = false := fun o => cells_fz (hb1 o) 4
           have n5 : ∀ o, (w1.alloc o).cell? ⟨N, 5, none⟩ = some (.string ⟨#[]⟩) := fun o => cells_at (hb1 o) 5
           have f5 : ∀ o, (w1.alloc o).frozen? ⟨N, 5, none⟩ = false := fun o => cells_fz (hb1 o) 5
           have n6 : ∀ o, (w1.alloc o).cell? ⟨N, 6, none⟩ = some (.int .i64 0) := fun o => cells_at (hb1 o) 6
           have f6 : ∀ o, (w1.alloc o).frozen? ⟨N, 6, none⟩ = false := fun o => cells_fz (hb1 o) 6
           have n7 : ∀ o, (w1.alloc o).cell? ⟨N, 7, none⟩ = some (.bool false) := fun o => cells_at (hb1 o) 7
           have f7 : ∀ o, (w1.alloc o).frozen? ⟨N, 7, none⟩ = false := fun o => cells_fz (hb1 o) 7
           have n8 : ∀ o, (w1.alloc o).cell? ⟨N, 8, none⟩ = some (.string ⟨#[]⟩) := fun o => cells_at (hb1 o) 8
           have f8 : ∀ o, (w1.alloc o).frozen? ⟨N, 8, none⟩ = false := fun o => cells_fz (hb1 o) 8
           have n9 : ∀ o, (w1.alloc o).cell? ⟨N, 9, none⟩ = some (.slice none 0 0) := fun o => cells_at (hb1 o) 9
           have f9 : ∀ o, (w1.alloc o).frozen? ⟨N, 9, none⟩ = false := fun o => cells_fz (hb1 o) 9
           have n10 : ∀ o, (w1.alloc o).cell? ⟨N, 10, none⟩ = some (.string ⟨#[]⟩) := fun o => cells_at (hb1 o) 10
           have f10 : ∀ o, (w1.alloc o).frozen? ⟨N, 10, none⟩ = false := fun o => cells_fz (hb1 o) 10
           have he : ∀ (o : Obj) (tmps : Array Value), tmps.getD 2 undef = .pointer (some ⟨N, 0, none⟩) → bodyPost Tryz.prog Tryz.f318 (fun e w' => ∃ cb cc, e = .returned (reqV 1 (.slice (some ⟨cb, 0, none⟩) 1 cc) false false) ∧
               Made (rowAt (.slice (some ⟨cb, 0, none⟩) 1 cc) 56 16 1 { cm0 with op := 1, key := key, recache := -1 }.vs.toList) w w') .ret { tmps := tmps, defers := [] } (setsW N 0 (rq1 (.slice (some ⟨g, 0, none⟩) 1 gc) false) (w1.alloc o)) := fun o tmps h2 => by
             have hs := cl_sets N 33 (rq1 (.slice (some ⟨g, 0, none⟩) 1 gc) false) 0 _ (w1.alloc o) (hb1 o)
             have i6 := (i5.below (below_alloc' w1 o)).turn 2 rfl hs
             rw [rq_set] at hs
             exact ret_req (N := N) rfl h2 hs.here ⟨g, gc, rfl, i6.get 0 rfl, i6.bel, i6.lo _ (.head _)⟩
           simp only [setsW, rq1] at he
           have HE := Lib.hid he
           clear hb1 i5 ht he
           simp only [reqV])
        | (go_at_call 346; refine (HS.out _).mono ?_; rintro e w2 ⟨rfl, rfl⟩))
      exact HE.out _ _ rfl
end Go.Proofs.YtboehbfagnocpaaGreatDoor
namespace Go.Proofs.YtboehbfagnocpaaGreatDoor
open Go.RowKit Go.PlainAid
structure Hav (D : Nat → Prop) (w0 : World) (L : List Res) (w : World) : Prop where
  all : ∀ r ∈ L, r.R w
  ap : L.Pairwise (fun (r s : Res) => ∀ b : Nat, r.B b → ¬ s.B b)
  lo : ∀ r ∈ L, ∀ b, r.B b → D b ∨ w0.heap.size ≤ b
  tch : Tch D w0 w
def many (L : List Res) : Res where
  R w := (∀ r ∈ L, r.R w) ∧ L.Pairwise (fun (r s : Res) => ∀ b : Nat, r.B b → ¬ s.B b)
  B b := ∃ r ∈ L, r.B b
  keep h ht hd := ⟨fun r hr => r.keep (h.1 r hr) ht (fun b hb => hd b ⟨r, hr, hb⟩), h.2⟩
  lt h hx := by
    obtain ⟨r, hr, hb⟩ := hx
    exact r.lt (h.1 r hr) hb
section
variable {D : Nat → Prop} {w0 w w' : World} {L : List Res}
theorem Hav.open (h : (many L).R w) : Hav (many L).B w L w := ⟨h.1, h.2, fun r hr b hb => .inl ⟨r, hr, hb⟩, Tch.refl _ _⟩
theorem Hav.start {r : Res} (h : r.R w) : Hav r.B w [r] w := ⟨fun s hs => by rw [List.mem_singleton.1 hs]; exact h, List.pairwise_singleton _ _, fun s hs b hb => .inl (by rw [List.mem_singleton.1 hs] at hb; exact hb), Tch.refl _ _⟩
theorem Hav.shut {r : Res} (h : Hav r.B w0 L w) : Turn r (many L) w0 w := ⟨⟨h.all, h.ap⟩, h.tch, fun b hb => by obtain ⟨s, hs, hx⟩ := hb; exact h.lo s hs b hx⟩
theorem Hav.one {r s : Res} (h : Hav r.B w0 [s] w) : Turn r s w0 w := ⟨h.all s (.head _), h.tch, fun b hb => h.lo s (.head _) b hb⟩
theorem Hav.get (h : Hav D w0 L w) (i : Nat) {r : Res} (hi : L[i]? = some r) : r.R w := h.all r (List.mem_of_getElem? hi)
theorem Hav.below (h : Hav D w0 L w) (hb : Below w.heap.size w w') : Hav D w0 L w' :=
  ⟨fun r hr => r.keep (h.all r hr) (Tch.of_below (fun _ => False) hb) (fun _ _ x => x), h.ap, h.lo, h.tch.trans (Tch.of_below (fun _ => False) hb) (fun _ x => x.elim)⟩
theorem Hav.drewN (h : Hav D w0 L w) (n : Nat) : Hav D w0 L (w.drewN n) := h.below (below_drewN' w n)
theorem Hav.drew (h : Hav D w0 L w) : Hav D w0 L w.drew := h.drewN 1
theorem Hav.alloc (h : Hav D w0 L w) (o : Obj) : Hav D w0 L (w.alloc o) := h.below (below_alloc' w o)
theorem Hav.old (h : Hav D w0 L w) {p : Addr} (hp : p.block < w0.heap.size) (hd : ¬ D p.block) : w.cell? p = w0.cell? p := by
  have := h.tch.block p.block hp hd
  simp [World.cell?, this]
theorem Hav.turn (h : Hav D w0 L w) (i : Nat) {r r' : Res} (hi : L[i]? = some r) (ht : Turn r r' w w') : Hav D w0 (L.set i r') w' := by
  have hil : i < L.length := (List.getElem?_eq_some_iff.1 hi).1
  have hri : L[i] = r := (List.getElem?_eq_some_iff.1 hi).2
  have hap := List.pairwise_iff_getElem.1 h.ap
  have hapart : ∀ j (hj : j < L.length), j ≠ i → ∀ b, r.B b → ¬ (L[j]).B b := fun j hj hne b hb hx => by
    rcases Nat.lt_or_gt_of_ne hne with h1 | h1
    · exact hap j i hj hil h1 b hx (by rw [hri]; exact hb)
    · exact hap i j hil hj h1 b (by rw [hri]; exact hb) hx
  have hnew : ∀ j (hj : j < L.length), j ≠ i → ∀ b, r'.B b → ¬ (L[j]).B b := fun j hj hne b hb hx => by
    rcases ht.nu b hb with h1 | h1
    · exact hapart j hj hne b h1 hx
    · have := (L[j]).lt (h.all _ (List.getElem_mem hj)) hx; omega
  refine ⟨fun s hs => ?_, List.pairwise_iff_getElem.2 fun a b ha hb hab => ?_, fun s hs => ?_, h.tch.trans ht.tch (fun b hb => h.lo r (List.mem_of_getElem? hi) b hb)⟩
  · obtain ⟨j, hj, rfl⟩ := List.mem_iff_getElem.1 hs
    rw [List.length_set] at hj
    by_cases e : i = j
    · subst e; rw [List.getElem_set_self]; exact ht.here
    · rw [List.getElem_set_ne e]
      exact (L[j]).keep (h.all _ (List.getElem_mem hj)) ht.tch (fun b hb hx => hapart j hj (fun e2 => e e2.symm) b hx hb)
  · rw [List.length_set] at ha hb
    intro x hx hy
    by_cases e1 : i = a
    · subst e1
      rw [List.getElem_set_self] at hx
      rw [List.getElem_set_ne (by omega)] at hy
      exact hnew b hb (by omega) x hx hy
    · rw [List.getElem_set_ne e1] at hx
      by_cases e2 : i = b
      · subst e2
        rw [List.getElem_set_self] at hy
        exact hnew a ha (by omega) x hy hx
      · rw [List.getElem_set_ne e2] at hy
        exact hap a b ha hb hab x hx hy
  · obtain ⟨j, hj, rfl⟩ := List.mem_iff_getElem.1 hs
    rw [List.length_set] at hj
    intro b hb
    by_cases e : i = j
    · subst e
      rw [List.getElem_set_self] at hb
      rcases ht.nu b hb with h1 | h1
      · exact h.lo r (List.mem_of_getElem? hi) b h1
      · exact .inr (Nat.le_trans h.tch.size h1)
    · rw [List.getElem_set_ne e] at hb
      exact h.lo _ (List.getElem_mem hj) b hb
theorem Hav.new (h : Hav D w0 L w) {r : Res} (hr : r.R w') (hb : Below w.heap.size w w') (hn : ∀ b, r.B b → w.heap.size ≤ b) : Hav D w0 (r :: L) w' := by
  have h2 := h.below hb
  refine ⟨fun s hs => ?_, List.pairwise_cons.2 ⟨fun s hs b hb1 hx => ?_, h.ap⟩, fun s hs b hb1 => ?_, h2.tch⟩
  · rcases List.mem_cons.1 hs with rfl | h1
    · exact hr
    · exact h2.all s h1
  · have := s.lt (h.all s hs) hx
    have := hn b hb1
    omega
  · rcases List.mem_cons.1 hs with rfl | h1
    · exact .inr (Nat.le_trans h.tch.size (hn b hb1))
    · exact h.lo s h1 b hb1
theorem Hav.made (h : Hav D w0 L w) {r : Res} (m : Made r w w') : Hav D w0 (r :: L) w' := h.new m.here m.bel m.lo
theorem Hav.cells (h : Hav D w0 L w) (vs : Array Value) (t : TypeId) : Hav D w0 (cellsAt w.heap.size vs t :: L) (w.alloc (.cells vs t)) := h.made (Made.cells w vs t)
theorem Hav.sub (h : Hav D w0 L w) {M : List Res} (hm : M.Sublist L) : Hav D w0 M w :=
  ⟨fun r hr => h.all r (hm.subset hr), h.ap.sublist hm, fun r hr => h.lo r (hm.subset hr), h.tch⟩
theorem Hav.perm (h : Hav D w0 L w) {M : List Res} (hm : M.Perm L) : Hav D w0 M w :=
  ⟨fun r hr => h.all r (hm.subset hr), (hm.pairwise_iff (fun hab b hb hx => hab b hx hb)).2 h.ap, fun r hr => h.lo r (hm.subset hr), h.tch⟩
theorem Hav.apart (h : Hav D w0 L w) {i j : Nat} {r s : Res} (hi : L[i]? = some r) (hj : L[j]? = some s) (hne : i ≠ j) (b : Nat) (hb : r.B b) : ¬ s.B b := by
  obtain ⟨h1, e1⟩ := List.getElem?_eq_some_iff.1 hi
  obtain ⟨h2, e2⟩ := List.getElem?_eq_some_iff.1 hj
  have hap := List.pairwise_iff_getElem.1 h.ap
  rcases Nat.lt_or_gt_of_ne hne with hl | hl
  · have := hap i j h1 h2 hl b
    rw [e1, e2] at this
    exact this hb
  · have := hap j i h2 h1 hl b
    rw [e1, e2] at this
    exact fun hs => this hs hb
end
end Go.Proofs.YtboehbfagnocpaaGreatDoor
namespace Go.Proofs.YtboehbfagnocpaaGreatDoor
open Go.RowKit Go.PlainAid
abbrev az : Array Value := #[.int .i64 0, .string ⟨#[]⟩, .int .u32 0, .string ⟨#[]⟩, .int .i64 0, .int .u64 0, .int .i64 0, .bool false, .bool false, .int .u64 0, .bool false, .bool false, .bool false]
abbrev sz : Array Value := #[.slice none 0 0, .int .u64 0, .int .i64 0]
theorem fl1 {W3 : World} {Q : Nat} (hQ : W3.heap.size = Q) : ∀ w', Below ((W3.alloc (.cells sz 121)).drew).heap.size ((W3.alloc (.cells sz 121)).drew) w' → caf3 w' Q (.slice none 0 0) (.int .u64 0) (.int .i64 0) := fun w' hb => by
  subst hQ
  exact caf3' ((((Made.cells W3 sz 121).drew).below hb).here)
theorem fl2 {W3 : World} {Q : Nat} (hQ : W3.heap.size = Q) : ∀ w', Below ((W3.alloc (.cells az 52)).drew).heap.size ((W3.alloc (.cells az 52)).drew) w' → caf13 w' Q (.int .i64 0) (.string ⟨#[]⟩) (.int .u32 0) (.string ⟨#[]⟩) (.int .i64 0) (.int .u64 0) (.int .i64 0) (.bool false) (.bool false) (.int .u64 0) (.bool false) (.bool false) (.bool false) := fun w' hb => by
  subst hQ
  exact caf13' ((((Made.cells W3 az 52).drew).below hb).here)
theorem fl3 {W3 : World} {Q : Nat} (hQ : W3.heap.size = Q) : ∀ w', Below (((W3.alloc (.cells sz 121)).alloc (.cells az 52)).drew).heap.size (((W3.alloc (.cells sz 121)).alloc (.cells az 52)).drew) w' → w'.cell? ⟨Q, 0, none⟩ = some (.slice none 0 0) ∧ w'.frozen? ⟨Q, 0, none⟩ = false ∧ w'.cell? ⟨Q, 1, none⟩ = some (.int .u64 0) ∧ w'.frozen? ⟨Q, 1, none⟩ = false ∧ w'.cell? ⟨Q, 2, none⟩ = some (.int .i64 0) ∧ w'.frozen? ⟨Q, 2, none⟩ = false ∧ w'.cell? ⟨Q + 1, 0, none⟩ = some (.int .i64 0) ∧ w'.frozen? ⟨Q + 1, 0, none⟩ = false ∧ w'.cell? ⟨Q + 1, 1, none⟩ = some (.string ⟨#[]⟩) ∧ w'.frozen? ⟨Q + 1, 1, none⟩ = false ∧ w'.cell? ⟨Q + 1, 2, none⟩ = some (.int .u32 0) ∧ w'.frozen? ⟨Q + 1, 2, none⟩ = false ∧ w'.cell? ⟨Q + 1, 3, none⟩ = some (.string ⟨#[]⟩) ∧ w'.frozen? ⟨Q + 1, 3, none⟩ = false ∧ w'.cell? ⟨Q + 1, 4, none⟩ = some (.int .i64 0) ∧ w'.frozen? ⟨Q + 1, 4, none⟩ = false ∧ w'.cell? ⟨Q + 1, 5, none⟩ = some (.int .u64 0) ∧ w'.frozen? ⟨Q + 1, 5, none⟩ = false ∧ w'.cell? ⟨Q + 1, 6, none⟩ = some (.int .i64 0) ∧ w'.frozen? ⟨Q + 1, 6, none⟩ = false ∧ w'.cell? ⟨Q + 1, 7, none⟩ = some (.bool false) ∧ w'.frozen? ⟨Q + 1, 7, none⟩ = false ∧ w'.cell? ⟨Q + 1, 8, none⟩ = some (.bool false) ∧ w'.frozen? ⟨Q + 1, 8, none⟩ = false ∧ w'.cell? ⟨Q + 1, 9, none⟩ = some (.int .u64 0) ∧ w'.frozen? ⟨Q + 1, 9, none⟩ = false ∧ w'.cell? ⟨Q + 1, 10, none⟩ = some (.bool false) ∧ w'.frozen? ⟨Q + 1, 10, none⟩ = false ∧ w'.cell? ⟨Q + 1, 11, none⟩ = some (.bool false) ∧ w'.frozen? ⟨Q + 1, 11, none⟩ = false ∧ w'.cell? ⟨Q + 1, 12, none⟩ = some (.bool false) ∧ w'.frozen? ⟨Q + 1, 12, none⟩ = false := fun w' hb => by
  subst hQ
  have h1 := (((Made.cells W3 sz 121).below (below_alloc' _ (.cells az 52))).drew.below hb).here
  have h2 := ((Made.cells (W3.alloc (.cells sz 121)) az 52).drew.below hb).here
  simp only [World.size_alloc] at h2
  exact ⟨cells_at h1 0, cells_fz h1 0, cells_at h1 1, cells_fz h1 1, cells_at h1 2, cells_fz h1 2, cells_at h2 0, cells_fz h2 0, cells_at h2 1, cells_fz h2 1, cells_at h2 2, cells_fz h2 2, cells_at h2 3, cells_fz h2 3, cells_at h2 4, cells_fz h2 4, cells_at h2 5, cells_fz h2 5, cells_at h2 6, cells_fz h2 6, cells_at h2 7, cells_fz h2 7, cells_at h2 8, cells_fz h2 8, cells_at h2 9, cells_fz h2 9, cells_at h2 10, cells_fz h2 10, cells_at h2 11, cells_fz h2 11, cells_at h2 12, cells_fz h2 12⟩
theorem fl4 {W3 : World} {Q : Nat} (hQ : W3.heap.size = Q) : ∀ w', Below (((W3.alloc (.cells az 52)).alloc (.cells sz 121)).drew).heap.size (((W3.alloc (.cells az 52)).alloc (.cells sz 121)).drew) w' → w'.cell? ⟨Q, 0, none⟩ = some (.int .i64 0) ∧ w'.frozen? ⟨Q, 0, none⟩ = false ∧ w'.cell? ⟨Q, 1, none⟩ = some (.string ⟨#[]⟩) ∧ w'.frozen? ⟨Q, 1, none⟩ = false ∧ w'.cell? ⟨Q, 2, none⟩ = some (.int .u32 0) ∧ w'.frozen? ⟨Q, 2, none⟩ = false ∧ w'.cell? ⟨Q, 3, none⟩ = some (.string ⟨#[]⟩) ∧ w'.frozen? ⟨Q, 3, none⟩ = false ∧ w'.cell? ⟨Q, 4, none⟩ = some (.int .i64 0) ∧ w'.frozen? ⟨Q, 4, none⟩ = false ∧ w'.cell? ⟨Q, 5, none⟩ = some (.int .u64 0) ∧ w'.frozen? ⟨Q, 5, none⟩ = false ∧ w'.cell? ⟨Q, 6, none⟩ = some (.int .i64 0) ∧ w'.frozen? ⟨Q, 6, none⟩ = false ∧ w'.cell? ⟨Q, 7, none⟩ = some (.bool false) ∧ w'.frozen? ⟨Q, 7, none⟩ = false ∧ w'.cell? ⟨Q, 8, none⟩ = some (.bool false) ∧ w'.frozen? ⟨Q, 8, none⟩ = false ∧ w'.cell? ⟨Q, 9, none⟩ = some (.int .u64 0) ∧ w'.frozen? ⟨Q, 9, none⟩ = false ∧ w'.cell? ⟨Q, 10, none⟩ = some (.bool false) ∧ w'.frozen? ⟨Q, 10, none⟩ = false ∧ w'.cell? ⟨Q, 11, none⟩ = some (.bool false) ∧ w'.frozen? ⟨Q, 11, none⟩ = false ∧ w'.cell? ⟨Q, 12, none⟩ = some (.bool false) ∧ w'.frozen? ⟨Q, 12, none⟩ = false ∧ w'.cell? ⟨Q + 1, 0, none⟩ = some (.slice none 0 0) ∧ w'.frozen? ⟨Q + 1, 0, none⟩ = false ∧ w'.cell? ⟨Q + 1, 1, none⟩ = some (.int .u64 0) ∧ w'.frozen? ⟨Q + 1, 1, none⟩ = false ∧ w'.cell? ⟨Q + 1, 2, none⟩ = some (.int .i64 0) ∧ w'.frozen? ⟨Q + 1, 2, none⟩ = false := fun w' hb => by
  subst hQ
  have h1 := (((Made.cells W3 az 52).below (below_alloc' _ (.cells sz 121))).drew.below hb).here
  have h2 := ((Made.cells (W3.alloc (.cells az 52)) sz 121).drew.below hb).here
  simp only [World.size_alloc] at h2
  exact ⟨cells_at h1 0, cells_fz h1 0, cells_at h1 1, cells_fz h1 1, cells_at h1 2, cells_fz h1 2, cells_at h1 3, cells_fz h1 3, cells_at h1 4, cells_fz h1 4, cells_at h1 5, cells_fz h1 5, cells_at h1 6, cells_fz h1 6, cells_at h1 7, cells_fz h1 7, cells_at h1 8, cells_fz h1 8, cells_at h1 9, cells_fz h1 9, cells_at h1 10, cells_fz h1 10, cells_at h1 11, cells_fz h1 11, cells_at h1 12, cells_fz h1 12, cells_at h2 0, cells_fz h2 0, cells_at h2 1, cells_fz h2 1, cells_at h2 2, cells_fz h2 2⟩
end Go.Proofs.YtboehbfagnocpaaGreatDoor
namespace Go.Proofs.YtboehbfagnocpaaGreatDoor
open Go.Shelf Go.RowKit Go.PlainAid
theorem infoSB : (Tryz.prog.info? 366).map (·.size) = some 2 := by kernel_rfl
theorem liesSB : liesAt Tryz.prog Tryz.prog.depth 366 (2 / Tryz.prog.cellsOf 366) 0 366 1 = true := by kernel_rfl
theorem infoU8 : (Tryz.prog.info? 5).map (fun i => (i.zero, i.size, i.bytes)) = some (some (.int .u8 0), 1, 1) := by kernel_rfl
set_option maxHeartbeats 1000000 in
theorem copyCheck_used (b : Nat) (w : World) (h0 : w.cell? ⟨b, 0, none⟩ = some (.pointer (some ⟨b, 0, none⟩))) :
    Calls Tryz.prog 295 #[.pointer (some ⟨b, 0, none⟩)] w fun e w' => e = .returned (.tuple #[]) ∧ w' = w := by
  obtain ⟨j, hj, _⟩ := Option.map_eq_some_iff.1 infoSB
  go_enter Tryz.func295, Tryz.ntmps295
  go_wp2
  rw [Lib.run_neq_ptr_same w _ Tryz.underlying364 hj]
  go_wp2
  go_end0
  exact ⟨rfl, rfl⟩
set_option maxHeartbeats 1000000 in
theorem copyCheck_fresh (b : Nat) (w : World) (h0 : w.cell? ⟨b, 0, none⟩ = some (.pointer none)) (hsh : w.shape? b = some (366, 2)) (hfz : w.frozen? ⟨b, 0, none⟩ = false) :
    Calls Tryz.prog 295 #[.pointer (some ⟨b, 0, none⟩)] w fun e w' => e = .returned (.tuple #[]) ∧ w' = w.setCell ⟨b, 0, none⟩ (.pointer (some ⟨b, 0, none⟩)) := by
  obtain ⟨j, hj, hjs⟩ := Option.map_eq_some_iff.1 infoSB
  go_enter Tryz.func295, Tryz.ntmps295
  go_wp2
  rw [Lib.run_to_unsafe w ⟨b, 0, none⟩ Tryz.underlying364 Tryz.underlying420 hj (by rw [hjs]; decide) hsh (Nat.zero_lt_succ 1)]
  simp only [Result.andThen]
  rw [Oper.upon_value]
  go_wp2
  rw [run_callFunc_extern Tryz.func323 (by kernel_rfl) (by kernel_rfl) (by kernel_rfl) (e := Extern.AbiNoEscape.same) (by kernel_rfl)]
  rw [Lib.run_noEscape]
  simp only [Result.andThen]
  rw [Oper.upon_value]
  go_wp2
  rw [Lib.run_from_unsafe w ⟨b, 0, none⟩ Tryz.underlying420 Tryz.underlying364 hj hsh liesSB]
  simp only [Result.andThen]
  rw [Oper.upon_value]
  go_wp2
  go_end0
  exact ⟨rfl, rfl⟩
theorem copyCheck_any (B b : Nat) (bs : List Value) (w : World) (h : Lib.IsBuilder 366 5 B b bs w) :
    Calls Tryz.prog 295 #[.pointer (some ⟨b, 0, none⟩)] w fun e w' => e = .returned (.tuple #[]) ∧ (Lib.BuilderAt 366 5 B b (.pointer (some ⟨b, 0, none⟩)) bs w' ∧ Below B w w') := by
  rcases h with h | h
  · refine (copyCheck_fresh b w h.cell0 h.shape h.frozen0).mono ?_
    rintro e w' ⟨rfl, rfl⟩
    exact ⟨rfl, h.used _, (Below.refl B w).setCell (p := ⟨b, 0, none⟩) h.1 _⟩
  · refine (copyCheck_used b w h.cell0).mono ?_
    rintro e w' ⟨rfl, rfl⟩
    exact ⟨rfl, h, Below.refl B _⟩
set_option maxHeartbeats 2000000 in
theorem writeString_any (B b : Nat) (bs : List Value) (s : ByteArray) (w : World) (h : Lib.IsBuilder 366 5 B b bs w) (hlen : bs.length + s.size ≤ 1000000000) (hpos : 0 < s.size) (hBw : B ≤ w.heap.size) :
    Calls Tryz.prog 261 #[.pointer (some ⟨b, 0, none⟩), .string s] w fun e w' => e = .returned (.tuple #[.int .i64 s.size, .nilIface]) ∧ (Lib.IsBuilder 366 5 B b (bs ++ Lib.strCells s) w' ∧ Below B w w') := by
  obtain ⟨i0, hi, hz0, hz1, hz2⟩ := info_parts infoU8
  go_enter Tryz.func261, Tryz.ntmps261
  go_wp2_with (go_at_call 295; refine (copyCheck_any B b bs _ h).mono ?_)
  rintro e w1 ⟨rfl, h1, hb1⟩
  obtain ⟨hB, v, hbk, hown, hne⟩ := h1
  have c0 : w1.cell? ⟨b, 0, none⟩ = some (.pointer (some ⟨b, 0, none⟩)) := by rw [Lib.cell_of_heap hbk]; rfl
  have c1 : w1.cell? ⟨b, 1, none⟩ = some v := by rw [Lib.cell_of_heap hbk]; rfl
  go_wp2_with (at_builtin; go_must (refine Lib.wpList_append_own_string _ rfl _ _ 118 9 rfl B 5 i0 Tryz.underlying118 Tryz.underlying9 hi hz0 hz1 hz2 v bs.length bs rfl hown s rfl ?c3 ?c4 ?c5 ?_))
  case c3 => unfold maxLen; omega
  case c4 => omega
  case c5 => have := hb1.size; omega
  intro v' w2 hown' hgrow _
  have hlt : b < w1.heap.size := by
    rcases Nat.lt_or_ge b w1.heap.size with h' | h'
    · exact h'
    · simp [Array.getElem?_eq_none h'] at hbk
  have hb2 : w2.heap[b]? = some (.cells #[.pointer (some ⟨b, 0, none⟩), v] 366 (0, 0)) := by
    rw [hgrow.block b hlt (fun e => hne e.symm)]
    exact hbk
  have d0 : w2.cell? ⟨b, 0, none⟩ = some (.pointer (some ⟨b, 0, none⟩)) := by rw [Lib.cell_of_heap hb2]; rfl
  have d1 : w2.cell? ⟨b, 1, none⟩ = some v := by rw [Lib.cell_of_heap hb2]; rfl
  have f1 : w2.frozen? ⟨b, 1, none⟩ = false := Lib.frozen_of_heap hb2 1
  obtain ⟨g, cap, rfl⟩ : ∃ g cap, v' = .slice (some ⟨g, 0, none⟩) (bs.length + s.size) cap := by
    rcases hown'.2 with ⟨_, h0⟩ | ⟨g, cap, cur, hv, _⟩
    · omega
    · exact ⟨g, cap, hv⟩
  go_wp2
  go_ret2
  refine ⟨rfl, .inr ?_, ?_⟩
  · exact Lib.BuilderAt.put (T := 366) (e := 5) hB hb2 (bs' := bs ++ Lib.strCells s) (by simpa [Lib.strCells_length] using hown') (by decide)
  · exact (hb1.grown hgrow (by have := hb1.size; omega) (fun k hk => (hown.lt k hk).1)).setCell (p := ⟨b, 1, none⟩) hB _
end Go.Proofs.YtboehbfagnocpaaGreatDoor
