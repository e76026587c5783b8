/- the laws' walks. -/
import Derived.Test.YtkajdnaanipngaaDoorQ
import Derived.Deep.RegionHeld3
namespace Go.Proofs.YtkajdnaanipngaaDoor
open Go.RowKit Go.PlainAid
set_option linter.unusedVariables false
set_option linter.unusedSimpArgs false

theorem refEncode_at {s : ByteArray} {t : ByteArray} {w : World} (hs : s.size ≤ 100000000) (ht : strOfNums (P.encS s) = t) {w0 : World} (hb : Below w0.heap.size w0 w) :
    Calls Tryd.prog 11 #[.string s] w fun e w' => e = .returned (.string t) ∧ Below w0.heap.size w0 w' := by
  subst ht
  refine (refEncode_any s w hs).mono ?_
  rintro e w' ⟨rfl, h⟩
  exact ⟨rfl, hb.trans (h.mono hb.size)⟩
theorem refDecode_at {s : ByteArray} {t : ByteArray} {b : Bool} {w : World} (hs : s.size ≤ 100000000) (ht : P.decS s = t) (hb : P.okD s = b) {w0 : World} (hbl : Below w0.heap.size w0 w) :
    Calls Tryd.prog 13 #[.string s] w fun e w' => e = .returned (.tuple #[.string t, .bool b]) ∧ Below w0.heap.size w0 w' := by
  subst ht hb
  refine (refDecode_any s w hs).mono ?_
  rintro e w' ⟨rfl, h⟩
  exact ⟨rfl, hbl.trans (h.mono hbl.size)⟩

theorem ok_str (s : ByteArray) : (s.toList == s.toList) = true := by simp

set_option maxRecDepth 100000 in
theorem writes_walk (s : ByteArray) (w : World) (hs : s.size ≤ 2000000) : Calls Tryd.prog 3 #[.string s] w (BoolPost w) := by
  obtain ⟨t, ht⟩ : ∃ t, strOfNums (P.encS s) = t := ⟨_, rfl⟩
  have Ht := Lib.hid ht
  have hs' : s.size ≤ 100000000 := by omega
  have htt := ok_str t
  clear ht
  go_enter Tryd.func3, Tryd.ntmps3
  go_wp2_with (fail)
  refine (shown_any _).mono ?_
  rintro e w1 ⟨rfl, hb1⟩
  go_wp2_with (fail)
  refine (encode_at (w0 := w) hs' Ht.out hb1).mono ?_
  rintro e w2 ⟨rfl, hb2⟩
  go_wp2_with (fail)
  refine (refEncode_at (w0 := w) hs' Ht.out hb2).mono ?_
  rintro e w3 ⟨rfl, hb3⟩
  go_wp2_with (fail)
  go_ret
  exact ⟨rfl, hb3⟩

set_option maxRecDepth 100000 in
theorem reads_walk (s : ByteArray) (w : World) (hs : s.size ≤ 2000000) : Calls Tryd.prog 4 #[.string s] w (BoolPost w) := by
  obtain ⟨t, ht⟩ : ∃ t, P.decS s = t := ⟨_, rfl⟩
  have Ht := Lib.hid ht
  have hs' : s.size ≤ 100000000 := by omega
  have htt := ok_str t
  clear ht
  rcases hok : P.okD s with _ | _
  all_goals
    have Hok := Lib.hid hok
    clear hok
    go_enter Tryd.func4, Tryd.ntmps4
    go_wp2_with (fail)
    refine (shown_any _).mono ?_
    rintro e w1 ⟨rfl, hb1⟩
    go_wp2_with (fail)
    refine (decode_at (w0 := w) (by omega) Ht.out Hok.out hb1).mono ?_
    rintro e w2 ⟨rfl, hb2⟩
    go_wp2_with (fail)
    refine (refDecode_at (w0 := w) hs' Ht.out Hok.out hb2).mono ?_
    rintro e w3 ⟨rfl, hb3⟩
    go_wp2_with (fail)
    go_ret
    exact ⟨rfl, hb3⟩

set_option maxRecDepth 100000 in
theorem back_walk (s u : ByteArray) (w : World) (hs : s.size ≤ 2000000) (hu : u.size ≤ 2000000) : Calls Tryd.prog 5 #[.string s, .string u] w (BoolPost w) := by
  obtain ⟨t, ht⟩ : ∃ t, strOfNums (P.encS s) = t := ⟨_, rfl⟩
  have hb := P.back1 s
  have hsz := (P.enc_facts s).1
  rw [ht] at hb hsz
  have Ht := Lib.hid ht
  have Hb := Lib.hid hb
  have htt := ok_str s
  have hl : (t.size : Int) = ((s.size : Int) + 2) / 3 * 4 := by rw [hsz]; unfold P.np; omega
  have hl4 : t.size ≤ 100000000 := by rw [hsz]; unfold P.np; omega
  clear ht hb hsz
  rcases hok : P.okD u with _ | _
  · have Hok := Lib.hid hok
    clear hok
    go_enter Tryd.func5, Tryd.ntmps5
    go_wp2_with (fail)
    refine (shown_any _).mono ?_
    rintro e w1 ⟨rfl, hb1⟩
    go_wp2_with (fail)
    refine (encode_at (w0 := w) (by omega) Ht.out hb1).mono ?_
    rintro e w2 ⟨rfl, hb2⟩
    go_wp2_with (fail)
    refine (decode_at (w0 := w) (by omega) Hb.out.2 Hb.out.1 hb2).mono ?_
    rintro e w3 ⟨rfl, hb3⟩
    go_wp2_with (fail)
    refine (decode_at (w0 := w) (by omega) (P.dec_no Hok.out) Hok.out hb3).mono ?_
    rintro e w4 ⟨rfl, hb4⟩
    go_wp2_with (fail)
    go_ret
    exact ⟨rfl, hb4⟩
  · have Hok := Lib.hid hok
    obtain ⟨v, hv⟩ : ∃ v, P.decS u = v := ⟨_, rfl⟩
    have Hv := Lib.hid hv
    have Hb2 := Lib.hid (P.back2 hok)
    have hvs : v.size ≤ 100000000 := by
      rw [← hv, P.dec_yes hok, P.str_size, P.byts_len]
      have := (P.body_facts u).1
      omega
    have huu := ok_str u
    clear hok hv
    go_enter Tryd.func5, Tryd.ntmps5
    go_wp2_with (fail)
    refine (shown_any _).mono ?_
    rintro e w1 ⟨rfl, hb1⟩
    go_wp2_with (fail)
    refine (encode_at (w0 := w) (by omega) Ht.out hb1).mono ?_
    rintro e w2 ⟨rfl, hb2⟩
    go_wp2_with (fail)
    refine (decode_at (w0 := w) (by omega) Hb.out.2 Hb.out.1 hb2).mono ?_
    rintro e w3 ⟨rfl, hb3⟩
    go_wp2_with (fail)
    refine (decode_at (w0 := w) (by omega) Hv.out Hok.out hb3).mono ?_
    rintro e w4 ⟨rfl, hb4⟩
    go_wp2_with (fail)
    refine (encode_at (w0 := w) (t := u) hvs (by rw [← Hv.out]; exact Hb2.out) hb4).mono ?_
    rintro e w5 ⟨rfl, hb5⟩
    go_wp2_with (fail)
    go_ret
    exact ⟨rfl, hb5⟩
theorem modpos (b m : Int) (hm : 0 < m) : ∃ u, 0 ≤ u ∧ u < m ∧ (b < 0 → (b + 1).tmod m = -u) ∧ (¬ b < 0 → b % m = u) := by
  by_cases h : b < 0
  · have e : (b + 1).tmod m = -((-(b + 1)) % m) := by
      have h1 := Int.neg_tmod (a := -(b + 1)) (b := m)
      rw [Int.neg_neg] at h1
      rw [h1, Int.tmod_eq_emod_of_nonneg (by omega)]
    exact ⟨_, Int.emod_nonneg _ (by omega), Int.emod_lt_of_pos _ hm, fun _ => e, fun hn => absurd h hn⟩
  · exact ⟨_, Int.emod_nonneg _ (by omega), Int.emod_lt_of_pos _ hm, fun hn => absurd hn h, fun _ => rfl⟩
theorem bd_i64 {n : Int} (h : (Lit.int .i64 n).wf = true) : -9223372036854775808 ≤ n ∧ n ≤ 9223372036854775807 := by
  simpa [Lit.wf, IntKind.min, IntKind.max, IntKind.signed, IntKind.bits] using h

set_option maxRecDepth 100000 in
theorem joins_walk (s : ByteArray) (b : Int) (w : World) (hs : s.size ≤ 2000000) (hb : (Lit.int .i64 b).wf = true) : Calls Tryd.prog 6 #[.string s, .int .i64 b] w (BoolPost w) := by
  obtain ⟨b1, b2⟩ := bd_i64 hb
  clear hb
  obtain ⟨u, hu0, hu1, hun, hup⟩ := modpos b ((s.size : Int) + 1) (by omega)
  obtain ⟨K, hK⟩ := Int.eq_ofNat_of_zero_le (show 0 ≤ u / 3 * 3 by omega)
  obtain ⟨a, ha⟩ : ∃ a, K = 3 * a := ⟨K / 3, by omega⟩
  have hKs : K ≤ s.size := by omega
  obtain ⟨t1, ht1⟩ : ∃ t, strOfNums (P.encS (s.extract 0 K)) = t := ⟨_, rfl⟩
  obtain ⟨t2, ht2⟩ : ∃ t, strOfNums (P.encS (s.extract K s.size)) = t := ⟨_, rfl⟩
  have h3 : t1 ++ t2 = strOfNums (P.encS s) := by rw [← ht1, ← ht2, ha]; exact P.joins s a (by omega)
  have hcmp := ok_str (t1 ++ t2)
  have H1 := Lib.hid ht1
  have H2 := Lib.hid ht2
  have H3 := Lib.hid h3
  have s1 : (s.extract 0 K).size ≤ 100000000 := by simp; omega
  have s2 : (s.extract K s.size).size ≤ 100000000 := by simp; omega
  have s3 : s.size ≤ 100000000 := by omega
  have hKI : (K : Int) ≤ (s.size : Int) := by omega
  have z1 : t1.size ≤ 1000000000 := by rw [← ht1, (P.enc_facts _).1]; unfold P.np; omega
  have z2 : t2.size ≤ 1000000000 := by rw [← ht2, (P.enc_facts _).1]; unfold P.np; omega
  have z3 : ¬ 9223372036854775807 < t1.size + t2.size := by omega
  clear ht1 ht2 h3 ha hu0 hu1
  by_cases hb0 : b < 0
  all_goals
    first | have ea := hun hb0 | have ea := hup hb0
    clear hun hup
    go_enter Tryd.func6, Tryd.ntmps6
    go_wp2_with (fail)
    refine (shown_any _).mono ?_
    rintro e w1 ⟨rfl, hb1⟩
    go_wp2_with (fail)
    go_region_held3 (fun w' => Below w.heap.size w w') (first | exact hb1 | exact hb1.drew | assumption | (exact Below.drew (by assumption))) (first
      | (go_at_call 10; refine (encode_at (w0 := w) (t := strOfNums (P.encS _)) (by with_reducible first | exact s1 | exact s2 | exact s3) rfl (by first | assumption | (exact Below.drew (by assumption)))).mono ?_; rintro e w2 ⟨rfl, hb2⟩; with_reducible first | rw [H1.out] | rw [H2.out] | rw [← H3.out]))
    all_goals (go_wp2_with (fail))
    all_goals (go_ret)
    all_goals (exact ⟨rfl, by assumption⟩)
end Go.Proofs.YtkajdnaanipngaaDoor
