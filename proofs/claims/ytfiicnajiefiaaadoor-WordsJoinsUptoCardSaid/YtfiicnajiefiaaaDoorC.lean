/- strings.Cut at one byte, words.Line and ambryref02.Line: contracts. -/
import Derived.Test.YtfiicnajiefiaaaDoorK
namespace Go.Proofs.YtfiicnajiefiaaaDoor
open Go.RowKit Go.PlainAid
set_option linter.unusedVariables false
set_option linter.unusedSimpArgs false

def cutV (c : UInt8) (s : ByteArray) : Value := .tuple #[.string (P.mk (P.upto c (P.sl s))), .string (P.mk (P.behind c (P.sl s))), .bool (decide (c ∈ P.sl s))]
theorem cutV_no {c : UInt8} {s : ByteArray} (h : c ∉ P.sl s) : cutV c s = .tuple #[.string s, .string ⟨#[]⟩, .bool false] := by
  unfold cutV; rw [(P.upto_no h).1, (P.upto_no h).2, P.mk_sl, decide_eq_false h]; rfl
theorem cutV_yes {c : UInt8} {s : ByteArray} (h : c ∈ P.sl s) : ∃ j : Nat, Lib.indexByte (P.sl s) c = (j : Int) ∧ j < s.size ∧ cutV c s = .tuple #[.string (s.extract 0 j), .string (s.extract (j + 1) s.size), .bool true] ∧ (P.upto c (P.sl s)).length = j := by
  obtain ⟨e, h2⟩ := P.split_at h
  have hl := P.sl_len s
  have hl2 : (P.sl s).length = (P.upto c (P.sl s)).length + ((P.behind c (P.sl s)).length + 1) := by
    have := congrArg List.length e
    simpa using this
  refine ⟨(P.upto c (P.sl s)).length, ?_, by omega, ?_, rfl⟩
  · have := P.index_yes (a := P.upto c (P.sl s)) (b := P.behind c (P.sl s)) h2
    rw [← e] at this; exact this
  · unfold cutV
    rw [decide_eq_true h, P.extract_mk, P.extract_mk]
    generalize hu : P.upto c (P.sl s) = u at *
    generalize hb : P.behind c (P.sl s) = b at *
    rw [show s.size = (P.sl s).length from hl.symm, List.take_length, e]
    simp

theorem cut25 (c : UInt8) (s : ByteArray) (w : World) (hs : s.size ≤ maxLen) : Calls Tryd.prog 25 #[.string s, .string ⟨#[c]⟩] w fun e w' => e = .returned (cutV c s) ∧ ∃ n, w' = w.drewN n := by
  unfold maxLen at hs
  by_cases h : c ∈ P.sl s
  · obtain ⟨j, h1, h2, h3, _⟩ := cutV_yes h
    have H3 := Lib.hid h3
    have hjI : (j : Int) < (s.size : Int) := by omega
    have hj0 : (j : Int) ≤ (s.size : Int) := by omega
    have hj1 : (j : Int) + 1 ≤ (s.size : Int) := by omega
    have hj2 : ((j : Int) + 1).toNat = j + 1 := by omega
    have hj3 : j + 1 ≤ s.size := by omega
    have hj4 : IntKind.i64.wrap ((j : Int) + 1) = (j : Int) + 1 := by rw [IntKind.wrap_i64]; omega
    have hix : ∀ w', Calls Tryd.prog 32 #[.string s, .string ⟨#[c]⟩] w' fun e w'' => e = .returned (.int .i64 j) ∧ w' = w'' := fun w' => (Tryd.stringslite_Index_one s c w').mono (by rintro e w'' ⟨rfl, rfl⟩; exact ⟨by rw [← h1]; rfl, rfl⟩)
    have Hix := Lib.hid hix
    clear h h1 h3 hix
    go_enter Tryd.func25, Tryd.ntmps25
    go_wp2_with (go_at_call 32; refine (Hix.out _).mono ?_; rintro e w' ⟨rfl, rfl⟩)
    go_quiet (fail)
    go_wp2_with (fail)
    go_ret3
    exact ⟨by rw [H3.out]; rfl, _, rfl⟩
  · have H3 := Lib.hid (cutV_no h)
    have hix : ∀ w', Calls Tryd.prog 32 #[.string s, .string ⟨#[c]⟩] w' fun e w'' => e = .returned (.int .i64 (-1)) ∧ w' = w'' := fun w' => (Tryd.stringslite_Index_one s c w').mono (by rintro e w'' ⟨rfl, rfl⟩; exact ⟨by rw [← P.index_no h]; rfl, rfl⟩)
    have Hix := Lib.hid hix
    clear h hix
    go_enter Tryd.func25, Tryd.ntmps25
    go_wp2_with (go_at_call 32; refine (Hix.out _).mono ?_; rintro e w' ⟨rfl, rfl⟩)
    go_ret3
    exact ⟨by rw [H3.out]; rfl, 0, rfl⟩

theorem cut_any (c : UInt8) (s : ByteArray) (w : World) (hs : s.size ≤ maxLen) : Calls Tryd.prog 21 #[.string s, .string ⟨#[c]⟩] w fun e w' => e = .returned (cutV c s) ∧ ∃ n, w' = w.drewN n := by
  have hc : ∀ w', Calls Tryd.prog 25 #[.string s, .string ⟨#[c]⟩] w' fun e w'' => e = .returned (.tuple #[.string (P.mk (P.upto c (P.sl s))), .string (P.mk (P.behind c (P.sl s))), .bool (decide (c ∈ P.sl s))]) ∧ ∃ n, w'' = w'.drewN n := fun w' => cut25 c s w' hs
  have Hc := Lib.hid hc
  clear hc
  obtain ⟨a, ha⟩ : ∃ a, P.mk (P.upto c (P.sl s)) = a := ⟨_, rfl⟩
  obtain ⟨b, hb⟩ : ∃ b, P.mk (P.behind c (P.sl s)) = b := ⟨_, rfl⟩
  obtain ⟨d, hd⟩ : ∃ d, decide (c ∈ P.sl s) = d := ⟨_, rfl⟩
  have H3 : Hid (cutV c s = .tuple #[.string a, .string b, .bool d]) := Lib.hid (by unfold cutV; rw [ha, hb, hd])
  rw [ha, hb, hd] at Hc
  clear ha hb hd
  go_enter Tryd.func21, Tryd.ntmps21
  go_wp2_with (go_at_call 25; refine (Hc.out _).mono ?_; rintro e w' ⟨rfl, n, rfl⟩)
  go_ret3
  exact ⟨by rw [H3.out]; rfl, n, rfl⟩

/-- a line's text and length -/
def lineT (s : ByteArray) : ByteArray := if 10 ∈ P.sl s then P.mk (Lib.trimSuffix (P.upto 10 (P.sl s)) [13]) else ⟨#[]⟩
def lineN (s : ByteArray) : Int := if 10 ∈ P.sl s then ((P.upto 10 (P.sl s)).length : Int) + 1 else 0
def LinePost (s : ByteArray) (w : World) (e : Ending) (w' : World) : Prop := e = .returned (.tuple #[.string (lineT s), .int .i64 (lineN s)]) ∧ ∃ n, w' = w.drewN n

theorem line_any (s : ByteArray) (w : World) (hs : s.size ≤ maxLen) : Calls Tryd.prog 12 #[.string s] w (LinePost s w) := by
  have hc : ∀ w', Calls Tryd.prog 21 #[.string s, .string ⟨#[10]⟩] w' fun e w'' => e = .returned (cutV 10 s) ∧ ∃ n, w'' = w'.drewN n := fun w' => cut_any 10 s w' hs
  unfold maxLen at hs
  by_cases h : 10 ∈ P.sl s
  · obtain ⟨u, hu⟩ : ∃ u, P.upto 10 (P.sl s) = u := ⟨_, rfl⟩
    have hul : u.length ≤ s.size := by rw [← hu, ← P.sl_len s]; exact P.upto_len 10 _
    have hlt : u.length < 9223372036854775807 := by
      have := (cutV_yes h)
      obtain ⟨j, _, h2, _, h4⟩ := this
      rw [← hu, h4]; omega
    obtain ⟨b, hb⟩ : ∃ b, P.mk (P.behind 10 (P.sl s)) = b := ⟨_, rfl⟩
    have e1 : cutV 10 s = .tuple #[.string (P.mk u), .string b, .bool true] := by unfold cutV; rw [hu, hb, decide_eq_true h]
    have Hc : Hid (∀ w', Calls Tryd.prog 21 #[.string s, .string ⟨#[10]⟩] w' fun e w'' => e = .returned (.tuple #[.string (P.mk u), .string b, .bool true]) ∧ ∃ n, w'' = w'.drewN n) := Lib.hid (fun w' => by rw [← e1]; exact hc w')
    have Hs : Hid (∀ w', Calls Tryd.prog 22 #[.string (P.mk u), .string ⟨#[13]⟩] w' fun e w'' => e = .returned (.string (lineT s)) ∧ w' = w'') := Lib.hid (fun w' => (Tryd.strings_TrimSuffix (P.mk u) ⟨#[13]⟩ w' (by rw [P.mk_size]; omega)).mono (by
      rintro e w'' ⟨rfl, rfl⟩
      refine ⟨?_, rfl⟩
      unfold lineT; rw [if_pos h, hu]; rfl))
    have Hn : Hid (lineN s = (u.length : Int) + 1) := Lib.hid (by unfold lineN; rw [if_pos h, hu])
    have hsz : (P.mk u).size = u.length := P.mk_size u
    clear h hc hb hu e1
    go_enter Tryd.func12, Tryd.ntmps12
    go_wp2_with (first
      | (go_at_call 21; refine (Hc.out _).mono ?_; rintro e w' ⟨rfl, n, rfl⟩)
      | (go_at_call 22; refine (Hs.out _).mono ?_; rintro e w' ⟨rfl, rfl⟩))
    go_ret2
    exact ⟨by rw [Hn.out]; rfl, n, rfl⟩
  · have e1 := cutV_no h
    have Hc : Hid (∀ w', Calls Tryd.prog 21 #[.string s, .string ⟨#[10]⟩] w' fun e w'' => e = .returned (.tuple #[.string s, .string ⟨#[]⟩, .bool false]) ∧ ∃ n, w'' = w'.drewN n) := Lib.hid (fun w' => by rw [← e1]; exact hc w')
    have Hl : Hid (lineT s = ⟨#[]⟩ ∧ lineN s = 0) := Lib.hid (by unfold lineT lineN; rw [if_neg h, if_neg h]; exact ⟨rfl, rfl⟩)
    clear h hc e1
    go_enter Tryd.func12, Tryd.ntmps12
    go_wp2_with (go_at_call 21; refine (Hc.out _).mono ?_; rintro e w' ⟨rfl, n, rfl⟩)
    go_ret2
    exact ⟨by rw [Hl.out.1, Hl.out.2]; rfl, n, rfl⟩

namespace P
theorem has_suffix1 (l : L) (x c : UInt8) : Lib.hasSuffix (l ++ [x]) [c] = decide (x = c) := by
  unfold Lib.hasSuffix
  rw [List.isSuffixOf]
  simp
  by_cases h : x = c
  · subst h; simp [List.isPrefixOf]
  · simp [List.isPrefixOf, h, Ne.symm h]
theorem no_nl {s : ByteArray} {i : Nat} (hi : i ≤ s.size) (h : ∀ k, k < i → bt s k ≠ 10) : 10 ∉ (sl s).take i := by
  intro hm
  obtain ⟨k, hk, he⟩ := List.mem_iff_getElem.1 hm
  have hk' : k < i := by have := hk; simp at this; omega
  rw [List.getElem_take] at he
  have : (sl s)[k]? = some 10 := by rw [List.getElem?_eq_some_iff]; exact ⟨by rw [sl_len]; omega, he⟩
  exact h k hk' (by rw [bt_get this]; rfl)
theorem first_nl {s : ByteArray} {i : Nat} (hi : i < s.size) (h0 : bt s i = 10) (h : ∀ k, k < i → bt s k ≠ 10) : 10 ∈ sl s ∧ upto 10 (sl s) = (sl s).take i := by
  obtain ⟨b, hb, hb2⟩ := sl_get hi
  have hb10 : b = 10 := byte_eq (by rw [← hb2, h0]; rfl)
  subst hb10
  have hlt : i < (sl s).length := by rw [sl_len]; exact hi
  have e : sl s = (sl s).take i ++ 10 :: (sl s).drop (i + 1) := by
    rw [List.getElem?_eq_getElem hlt] at hb
    have : (sl s)[i] = 10 := by simpa using hb
    rw [← this, ← List.drop_eq_getElem_cons hlt, List.take_append_drop]
  refine ⟨List.mem_of_getElem? hb, ?_⟩
  have h2 := (upto_yes (b := (sl s).drop (i + 1)) (no_nl (Nat.le_of_lt hi) h)).1
  rw [← e] at h2
  exact h2
end P
theorem line_at {s : ByteArray} {i : Nat} (hi : i < s.size) (h0 : bt s i = 10) (h : ∀ k, k < i → bt s k ≠ 10) :
    lineN s = (i : Int) + 1 ∧ lineT s = if 0 < i ∧ bt s (i - 1) = 13 then s.extract 0 (i - 1) else s.extract 0 i := by
  obtain ⟨h1, h2⟩ := P.first_nl hi h0 h
  have hl : ((P.sl s).take i).length = i := by rw [List.length_take, P.sl_len]; omega
  refine ⟨by unfold lineN; rw [if_pos h1, h2, hl], ?_⟩
  unfold lineT
  rw [if_pos h1, h2, P.extract_mk, P.extract_mk]
  simp only [List.drop_zero]
  rcases i with _ | i
  · rw [if_neg (by omega)]; rfl
  · obtain ⟨b, hb, hb2⟩ := P.sl_get (s := s) (i := i) (by omega)
    have e : (P.sl s).take (i + 1) = (P.sl s).take i ++ [b] := by rw [List.take_add_one, hb]; rfl
    unfold Lib.trimSuffix
    rw [e, P.has_suffix1, Nat.add_sub_cancel, hb2]
    by_cases h13 : b = 13
    · subst h13
      have hl2 : ((P.sl s).take i).length = i := by rw [List.length_take, P.sl_len]; omega
      simp [hl2, show ((UInt8.toNat 13 : Nat) : Int) = 13 from rfl]
    · have hb13 : ¬ ((b.toNat : Int) = 13) := fun h => h13 (P.byte_eq (by rw [h]; rfl))
      simp [h13, hb13]
theorem line_none {s : ByteArray} (h : ∀ k, k < s.size → bt s k ≠ 10) : lineN s = 0 ∧ lineT s = ⟨#[]⟩ := by
  have h1 := P.no_nl (Nat.le_refl _) h
  rw [show s.size = (P.sl s).length from (P.sl_len s).symm, List.take_length] at h1
  unfold lineN lineT; rw [if_neg h1, if_neg h1]; exact ⟨rfl, rfl⟩

set_option maxHeartbeats 400000 in
theorem refLine_any (s : ByteArray) (w : World) (hs : s.size ≤ maxLen) : Calls Tryd.prog 13 #[.string s] w (LinePost s w) := by
  unfold maxLen at hs
  have hb := get_bt s
  go_enter Tryd.func13, Tryd.ntmps13
  go_wp2
  go_loop [4] (fun i => ∃ k : Nat, k ≤ s.size ∧ i = .int .i64 k ∧ (∀ j, j < k → bt s j ≠ 10)) (fun i => s.size - (intOf i).toNat)
  case atStart => exact ⟨0, Nat.zero_le _, rfl, fun j hj => by omega⟩
  case round =>
    obtain ⟨k, hk, rfl, hall⟩ := hrel
    have Hall := Lib.hid hall
    clear hall
    by_cases hlt : k < s.size
    · have hltI : (k : Int) < (s.size : Int) := by omega
      by_cases h1 : bt s k = 10
      · obtain ⟨e1, e2⟩ := line_at hlt h1 Hall.out
        have hkm : IntKind.i64.wrap ((k : Int) + 1) = (k : Int) + 1 := by rw [IntKind.wrap_i64]; omega
        rcases k with _ | m
        · rw [if_neg (by omega)] at e2
          have E := Lib.hid (And.intro e1 e2)
          clear e1 e2
          go_wp2
          go_ret2
          exact ⟨by rw [E.out.1, E.out.2]; simp, 0, rfl⟩
        · have i1 : (m : Int) < (s.size : Int) := by omega
          have i2 : (0 : Int) < (m : Int) + 1 := by omega
          have i3 : m < s.size := by omega
          have i4 : (m : Int) + 1 < (s.size : Int) := by omega
          have i5 : ((m : Int) + 1).toNat = m + 1 := by omega
          rw [Nat.add_sub_cancel] at e2
          by_cases h13 : bt s m = 13
          · rw [if_pos ⟨by omega, h13⟩] at e2
            have E := Lib.hid (And.intro e1 e2)
            clear e1 e2
            go_wp2
            go_ret2
            exact ⟨by rw [E.out.1, E.out.2]; simp, 0, rfl⟩
          · rw [if_neg (fun h => h13 h.2)] at e2
            have h13b : (bt s m == 13) = false := by simp [h13]
            have E := Lib.hid (And.intro e1 e2)
            clear e1 e2
            go_wp2
            go_ret2
            exact ⟨by rw [E.out.1, E.out.2]; simp, 0, rfl⟩
      · have h1b : (bt s k == 10) = false := by simp [h1]
        have H1 := Lib.hid h1
        clear h1
        go_wp2
        go_round
        case rel =>
          refine ⟨k + 1, by omega, by go_num, fun j hj => ?_⟩
          rcases Nat.lt_succ_iff_lt_or_eq.1 hj with h | rfl
          · exact Hall.out j h
          · exact H1.out
        case measure => simp [intOf]; omega
    · have E := Lib.hid (line_none (s := s) (fun j hj => Hall.out j (by omega)))
      go_wp2
      go_ret2
      exact ⟨by rw [E.out.1, E.out.2]; rfl, 0, rfl⟩
end Go.Proofs.YtfiicnajiefiaaaDoor
