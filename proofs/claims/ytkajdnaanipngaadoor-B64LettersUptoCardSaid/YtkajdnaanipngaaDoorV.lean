/- B64Letters' and B64Spoils' walks. -/
import Derived.Test.YtkajdnaanipngaaDoorW
import Derived.Lib.ConvBytes
namespace Go.Proofs.YtkajdnaanipngaaDoor
open Go.RowKit Go.PlainAid
set_option linter.unusedVariables false
set_option linter.unusedSimpArgs false

theorem letter_class {n : Int} (h0 : 0 ≤ n) (h1 : n < 64) : (65 ≤ P.letter n ∧ P.letter n ≤ 90) ∨ (97 ≤ P.letter n ∧ P.letter n ≤ 122) ∨ (48 ≤ P.letter n ∧ P.letter n ≤ 57) ∨ P.letter n = 43 ∨ P.letter n = 47 := by
  unfold P.letter; (repeat' split) <;> omega

set_option maxRecDepth 100000 in
set_option maxHeartbeats 1000000 in
theorem letters_walk (s : ByteArray) (w : World) (hs : s.size ≤ 2000000) : Calls Tryd.prog 7 #[.string s] w (BoolPost w) := by
  obtain ⟨b1, b2, b3⟩ := P.enc_facts s
  obtain ⟨t, ht⟩ : ∃ t, strOfNums (P.encS s) = t := ⟨_, rfl⟩
  rw [ht] at b1 b2 b3
  have Ht := Lib.hid ht
  have hb := get_bt t
  obtain ⟨M, hM⟩ : ∃ M, P.nl s.size = M := ⟨_, rfl⟩
  obtain ⟨N, hN⟩ : ∃ N, P.np s.size = N := ⟨_, rfl⟩
  have hMN : M ≤ N := by rw [← hM, ← hN]; exact P.nl_np _
  have hN4 : (N : Int) % 4 = 0 := by rw [← hN]; unfold P.np; omega
  have hNb : N ≤ 100000000 := by rw [← hN]; unfold P.np; omega
  have hfin : (N : Int) - (M : Int) = -((s.size : Int) % 3) % 3 := by
    obtain ⟨q, hq⟩ : ∃ q, s.size = 3 * q ∨ s.size = 3 * q + 1 ∨ s.size = 3 * q + 2 := ⟨s.size / 3, by omega⟩
    rw [← hN, ← hM]; unfold P.np P.nl
    rcases hq with hq | hq | hq <;> rw [hq] <;> omega
  rw [hM] at b2 b3
  rw [hN] at b1 b3
  have hcl : ∀ i, i < M → (65 ≤ bt t i ∧ bt t i ≤ 90) ∨ (97 ≤ bt t i ∧ bt t i ≤ 122) ∨ (48 ≤ bt t i ∧ bt t i ≤ 57) ∨ bt t i = 43 ∨ bt t i = 47 := fun i hi => by
    rw [b2 i hi]
    have hb1 := P.sx_bound (P.by_bt s) i
    exact letter_class hb1.1 hb1.2
  have Hcl := Lib.hid hcl
  have H3 := Lib.hid b3
  have Hf := Lib.hid (And.intro hN4 hfin)
  have b1' : (t.size : Int) = (N : Int) := by omega
  clear ht hM hN hcl b2 b3 hN4 hfin
  go_enter Tryd.func7, Tryd.ntmps7
  go_wp2_with (fail)
  refine (shown_any _).mono ?_
  rintro e w1 ⟨rfl, hb1⟩
  go_wp2_with (fail)
  refine (encode_at (w0 := w) (by omega) Ht.out hb1).mono ?_
  rintro e w2 ⟨rfl, hb2⟩
  go_wp2_with (fail)
  go_loop [5] (fun v => ∃ n : Nat, v = .int .i64 n ∧ M ≤ n ∧ n ≤ N) (fun v => (intOf v).toNat)
  case atStart => exact ⟨N, rfl, hMN, Nat.le_refl _⟩
  case round =>
    obtain ⟨n, rfl, hn1, hn2⟩ := hrel
    by_cases hgt : M < n
    · obtain ⟨m, rfl⟩ : ∃ m, n = m + 1 := ⟨n - 1, by omega⟩
      have hc : bt t m = 61 := H3.out m (by omega) (by omega)
      have i1 : (m : Int) < (N : Int) := by omega
      have i2 : (0 : Int) < (m : Int) + 1 := by omega
      have i3 : m < N := by omega
      go_wp2_with (fail)
      go_round
      case rel => exact ⟨m, by go_num, by omega, by omega⟩
      case measure => simp [intOf]
    · obtain rfl : n = M := by omega
      have hexit : Hid (n = 0 ∨ ∃ m, n = m + 1 ∧ bt t m ≠ 61) := Lib.hid (by
        rcases n with _ | m
        · exact .inl rfl
        · refine .inr ⟨m, rfl, ?_⟩
          have := Hcl.out m (by omega); omega)
      rcases hexit.out with rfl | ⟨m, rfl, hne⟩
      · obtain ⟨hN0, hN1⟩ := Hf.out
        have hN2 : ((N : Int) == -((s.size : Int) % 3) % 3) = true := beq_iff_eq.2 (by omega)
        clear hN1
        go_wp2_with (fail)
        go_loop [6] (fun v => v = .int .i64 0) (fun v => 0)
        case atStart => rfl
        case round =>
          obtain rfl := hrel
          go_wp2_with (fail)
          go_ret
          exact ⟨rfl, hb2⟩
      · have i1 : (m : Int) < (N : Int) := by omega
        have i2 : (0 : Int) < (m : Int) + 1 := by omega
        have i3 : m < N := by omega
        have hneb : (bt t m == 61) = false := by simp [hne]
        have Hne := Lib.hid hne
        clear hne
        go_wp2_with (fail)
        go_loop [6] (fun v => ∃ i : Nat, v = .int .i64 i ∧ i ≤ m + 1) (fun v => m + 1 - (intOf v).toNat)
        case atStart => exact ⟨0, rfl, by omega⟩
        case round =>
          obtain ⟨i, rfl, hi⟩ := hrel
          by_cases hlt : i < m + 1
          · have j1 : (i : Int) < (m : Int) + 1 := by omega
            have j2 : i < N := by omega
            have j3 : (i : Int) < (N : Int) := by omega
            have hcl := Hcl.out i hlt
            clear hneb
            rcases hcl with ⟨c1, c2⟩ | ⟨c1, c2⟩ | ⟨c1, c2⟩ | c1 | c1
            all_goals
              go_wp2_with (fail)
              go_round
              case rel => exact ⟨i + 1, by go_num, by omega⟩
              case measure => simp [intOf]; omega
          · obtain rfl : i = m + 1 := by omega
            obtain ⟨hN0, hN1⟩ := Hf.out
            have hN2 : ((N : Int) - ((m : Int) + 1) == -((s.size : Int) % 3) % 3) = true := beq_iff_eq.2 (by omega)
            clear hneb hN1
            go_wp2_with (fail)
            go_ret
            exact ⟨rfl, hb2⟩

/-- a text as bytes -/
theorem conv_sb (w : World) (t : ByteArray) : ∃ W cap, (convert 9 29 (.string t)).run Tryd.prog w = .ok (.slice (some ⟨w.heap.size, 0, none⟩) t.size cap) W ∧ Below w.heap.size w W ∧ w.heap.size < W.heap.size ∧
    (∀ j, j < t.size → W.cell? ⟨w.heap.size, j, none⟩ = some (.int .u8 (bt t j))) ∧ (∀ j, j < t.size → W.frozen? ⟨w.heap.size, j, none⟩ = false) := by
  refine ⟨Lib.bytesWorld w 5 t, _, Lib.run_convert_string_bytes w 9 29 5 t Tryd.underlying9 Tryd.underlying29 Tryd.underlying5, ?_, by rw [Lib.bytesWorld_size]; omega, ?_, ?_⟩
  · refine ⟨rfl, rfl, rfl, by rw [Lib.bytesWorld_size]; omega, fun i hi => Lib.bytesWorld_at_old w 5 t i hi⟩
  · intro j hj
    rw [Lib.bytesWorld_cell w 5 t j hj, P.bt_list]
    have h' : j < t.data.toList.length := by simpa using hj
    rw [List.getD_eq_getElem?_getD, List.getElem?_eq_getElem h']
    rfl
  · intro j hj
    have h := Lib.bytesWorld_at_new w 5 t
    have hsz : t.size ≤ (Lib.bytesCells w 5 t).size := by unfold Lib.bytesCells; rw [Array.size_append, Array.size_map]; exact Nat.le_add_right _ _
    simp [World.frozen?, h]
    omega
/-- .. and one byte made another one, as a text -/
theorem conv_spoil {W : World} {h cap p : Nat} {t : ByteArray} {c : Int} (hc : ∀ j, j < t.size → W.cell? ⟨h, j, none⟩ = some (.int .u8 (bt t j))) (hp : p < t.size) (h0 : 0 ≤ c) (h1 : c ≤ 255) :
    ∃ u : ByteArray, (convert 29 9 (.slice (some ⟨h, 0, none⟩) t.size cap)).run Tryd.prog (W.setCell ⟨h, p, none⟩ (.int .u8 c)) = .ok (.string u) (W.setCell ⟨h, p, none⟩ (.int .u8 c)) ∧ u.size = t.size ∧ bt u p = c := by
  have hlen : (((List.range t.size).map (bt t)).set p c).length = t.size := by simp
  have hby : P.Bytes (((List.range t.size).map (bt t)).set p c) := fun x hx => by
    rcases List.mem_or_eq_of_mem_set hx with hx | rfl
    · obtain ⟨j, _, rfl⟩ := List.mem_map.1 hx; exact P.by_bt t j
    · exact ⟨h0, h1⟩
  refine ⟨strOfNums (((List.range t.size).map (bt t)).set p c), ?_, by rw [P.str_size, hlen], ?_⟩
  · have := run_convert_bytes_arg (P := Tryd.prog) (W.setCell ⟨h, p, none⟩ (.int .u8 c)) 29 5 Tryd.underlying29 Tryd.underlying5 h 0 t.size cap (((List.range t.size).map (bt t)).set p c) hlen (fun i hi => by
      rw [Nat.zero_add, List.getD_eq_getElem?_getD, List.getElem?_set]
      by_cases hpi : p = i
      · subst hpi
        rw [if_pos rfl, if_pos (by simpa using hp)]
        exact World.cell?_setCell_same _ _ _ (hc p hp)
      · have hi' : i < t.size := hi
        rw [if_neg hpi, World.cell?_setCell_other _ _ _ _ (by first | (simp; done) | (simp; omega)), hc i hi', List.getElem?_map, List.getElem?_range hi']
        rfl) 9 Tryd.underlying9
    exact this
  · rw [P.bt_str hby, List.getElem?_set, if_pos rfl, if_pos (by simpa using hp)]; rfl

theorem no_letter {c : Int} (h0 : 0 ≤ c) (h1 : c ≤ 255) : ((65 ≤ c ∧ c ≤ 90) ∨ (97 ≤ c ∧ c ≤ 122) ∨ (48 ≤ c ∧ c ≤ 57) ∨ c = 43 ∨ c = 47 ∨ c = 61) ∨
    (P.val c = -1 ∧ c ≠ 61 ∧ (c < 43 ∨ (43 < c ∧ c < 47) ∨ (57 < c ∧ c < 61) ∨ (61 < c ∧ c < 65) ∨ (90 < c ∧ c < 97) ∨ 122 < c)) := by
  unfold P.val; (repeat' split) <;> omega

set_option maxRecDepth 100000 in
set_option maxHeartbeats 2000000 in
theorem spoils_walk (s : ByteArray) (b c : Int) (w : World) (hs : s.size ≤ 2000000) (hb : (Lit.int .i64 b).wf = true) (hc : (Lit.int .u8 c).wf = true) : Calls Tryd.prog 8 #[.string s, .int .i64 b, .int .u8 c] w (BoolPost w) := by
  obtain ⟨b1, b2⟩ := bd_i64 hb
  have hc' : 0 ≤ c ∧ c ≤ 255 := by
    have : 0 ≤ c ∧ c ≤ 255 := by simpa [Lit.wf, IntKind.min, IntKind.max, IntKind.signed, IntKind.bits] using hc
    omega
  obtain ⟨c0, c1⟩ := hc'
  clear hb hc
  have e1 := (P.enc_facts s).1
  obtain ⟨t, ht⟩ : ∃ t, strOfNums (P.encS s) = t := ⟨_, rfl⟩
  rw [ht] at e1
  have Ht := Lib.hid ht
  obtain ⟨N, hN⟩ : ∃ N, t.size = N := ⟨_, rfl⟩
  have hNp : N = P.np s.size := by rw [← hN, e1]
  have hN8 : N ≤ 100000000 := by rw [hNp]; unfold P.np; omega
  have hN0 : (s.size = 0 ∧ N = 0) ∨ (0 < s.size ∧ 0 < N) := by rw [hNp]; unfold P.np; omega
  clear ht e1 hNp
  have hl := no_letter c0 c1
  rcases hl with hl | ⟨hv, h61, hl⟩
  · have hz : ((s.size : Int) = 0 ∧ (N : Int) = 0) ∨ (((s.size : Int) == 0) = false ∧ ((N : Int) == 0) = false) := by
      rcases hN0 with ⟨z1, z2⟩ | ⟨z1, z2⟩
      · exact .inl ⟨by omega, by omega⟩
      · exact .inr ⟨beq_eq_false_iff_ne.2 (by omega), beq_eq_false_iff_ne.2 (by omega)⟩
    clear hN0
    rcases hz with ⟨z3, z4⟩ | ⟨z3, z4⟩
    all_goals
      rcases hl with ⟨l1, l2⟩ | ⟨l1, l2⟩ | ⟨l1, l2⟩ | l1 | l1 | l1
      all_goals
        go_enter Tryd.func8, Tryd.ntmps8
        go_wp2_with (fail)
        refine (shown_any _).mono ?_
        rintro e w1 ⟨rfl, hb1⟩
        go_wp2_with (fail)
        refine (encode_at (w0 := w) (by omega) Ht.out hb1).mono ?_
        rintro e w2 ⟨rfl, hb2⟩
        obtain ⟨W3, cap, hcv, hb3, hlt3, hc3, hf3⟩ := conv_sb w2 t
        rw [hN] at hcv
        have hb4 := hb2.trans (hb3.mono hb2.size)
        clear hc3 hf3 hlt3 hb3
        go_wp2_with (fail)
        go_ret
        exact ⟨rfl, hb4⟩
  · rcases hN0 with ⟨z1, z2⟩ | ⟨z1, z2⟩
    · have z3 : (s.size : Int) = 0 := by omega
      have z4 : (N : Int) = 0 := by omega
      have h61b : (c == 61) = false := by simp [h61]
      clear z1 z2 hv h61
      rcases hl with l1 | ⟨l1, l2⟩ | ⟨l1, l2⟩ | ⟨l1, l2⟩ | ⟨l1, l2⟩ | l1
      all_goals
        have h43b : (c == 43) = false := beq_eq_false_iff_ne.2 (by omega)
        have h47b : (c == 47) = false := beq_eq_false_iff_ne.2 (by omega)
        go_enter Tryd.func8, Tryd.ntmps8
        go_wp2_with (fail)
        refine (shown_any _).mono ?_
        rintro e w1 ⟨rfl, hb1⟩
        go_wp2_with (fail)
        refine (encode_at (w0 := w) (by omega) Ht.out hb1).mono ?_
        rintro e w2 ⟨rfl, hb2⟩
        obtain ⟨W3, cap, hcv, hb3, hlt3, hc3, hf3⟩ := conv_sb w2 t
        rw [hN] at hcv
        have hb4 := hb2.trans (hb3.mono hb2.size)
        clear hc3 hf3 hlt3 hb3
        go_wp2_with (fail)
        go_ret
        exact ⟨rfl, hb4⟩
    · have z3 : ((s.size : Int) == 0) = false := beq_eq_false_iff_ne.2 (by omega)
      have z4 : ((N : Int) == 0) = false := beq_eq_false_iff_ne.2 (by omega)
      have h61b : (c == 61) = false := by simp [h61]
      obtain ⟨u, hu0, hu1, hun, hup⟩ := modpos b (N : Int) (by omega)
      obtain ⟨p, rfl⟩ := Int.eq_ofNat_of_zero_le hu0
      have hpN : p < N := by omega
      have Hv := Lib.hid (And.intro hv h61)
      have z5 : ¬ (N : Int) = 0 := by omega
      clear z1 hu0 hv h61
      by_cases hb0 : b < 0
      all_goals
        first | have ea := hun hb0 | have ea := hup hb0
        clear hun hup
        rcases hl with l1 | ⟨l1, l2⟩ | ⟨l1, l2⟩ | ⟨l1, l2⟩ | ⟨l1, l2⟩ | l1
        all_goals
          have h43b : (c == 43) = false := beq_eq_false_iff_ne.2 (by omega)
          have h47b : (c == 47) = false := beq_eq_false_iff_ne.2 (by omega)
          go_enter Tryd.func8, Tryd.ntmps8
          go_wp2_with (fail)
          refine (shown_any _).mono ?_
          rintro e w1 ⟨rfl, hb1⟩
          go_wp2_with (fail)
          refine (encode_at (w0 := w) (by omega) Ht.out hb1).mono ?_
          rintro e w2 ⟨rfl, hb2⟩
          obtain ⟨W3, cap, hcv, hb3, hlt3, hc3, hf3⟩ := conv_sb w2 t
          obtain ⟨v, hcv2, hv1, hv2⟩ := conv_spoil (cap := cap) hc3 (by rw [hN]; exact hpN) c0 c1
          rw [hN] at hcv hcv2 hv1
          have x1 := hc3 p (by rw [hN]; exact hpN)
          have x2 := hf3 p (by rw [hN]; exact hpN)
          have hb4 := (hb2.trans (hb3.mono hb2.size)).setCell (p := ⟨w2.heap.size, p, none⟩) hb2.size (.int .u8 c)
          have Hno := Lib.hid (P.spoiled (t := v) (p := p) (by omega) (by rw [hv2]; exact Hv.out.1) (by rw [hv2]; exact Hv.out.2))
          have hvs : v.size ≤ 1000000000 := by omega
          clear hc3 hf3 hlt3 hb3 hv2 hv1
          go_wp2_with (fail)
          refine (decode_at (w0 := w) hvs (P.dec_no Hno.out) Hno.out hb4).mono ?_
          rintro e w5 ⟨rfl, hb5⟩
          go_wp2_with (fail)
          go_ret
          exact ⟨rfl, hb5⟩
end Go.Proofs.YtkajdnaanipngaaDoor
