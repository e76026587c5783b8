/- WordsGaps' walk. -/
import Derived.Test.YtfiicnajiefiaaaDoorI
namespace Go.Proofs.YtfiicnajiefiaaaDoor
open Go.RowKit Go.PlainAid
set_option linter.unusedVariables false
set_option linter.unusedSimpArgs false

theorem i64_and7 (n : Int) : bits .and .i64 n 7 = n % 8 := by
  have h127 : (BitVec.ofInt 64 7).toNat = 2 ^ 3 - 1 := by decide
  have key : (BitVec.ofInt 64 n &&& BitVec.ofInt 64 7).toNat = (n % ((2 ^ 64 : Nat) : Int)).toNat % 2 ^ 3 := by
    rw [BitVec.toNat_and, BitVec.toNat_ofInt, h127, Nat.and_two_pow_sub_one_eq_mod]
  show IntKind.i64.wrap ((BitVec.ofInt 64 n &&& BitVec.ofInt 64 7).toNat : Nat) = n % 8
  rw [key, IntKind.wrap_i64]
  omega
namespace P
/-- a key has no blank, and is none -/
theorem key_word {s : ByteArray} (h : keyB s = true) : (32 : UInt8) ∉ sl s ∧ sl s ≠ [] ∧ s.size ≤ 250 := by
  have h' := of_decide_eq_true h
  obtain ⟨h1, h2, h3⟩ := h'
  refine ⟨fun hm => ?_, fun e => by rw [← sl_len s, e] at h1; exact absurd h1 (by decide), h2⟩
  obtain ⟨i, hi, he⟩ := List.mem_iff_getElem.1 hm
  have hi' : i < s.size := by rw [← sl_len s]; exact hi
  have := (h3 i hi').1
  rw [bt_get (List.getElem?_eq_some_iff.2 ⟨hi, he⟩)] at this
  exact absurd this (by decide)
theorem add_key {s x : ByteArray} {u : L} (hu : sl s = u ++ [32]) (hx : keyB x = true) : go [] (sl (s ++ x)) = go [] (sl s) ++ [sl x] := by
  obtain ⟨h1, h2, _⟩ := key_word hx
  rw [sl_app, hu]
  have e1 := go_blank [] (sl x) u
  have e2 := go_blank [] [] u
  rw [List.append_assoc, List.singleton_append, e1, e2, go_one h1 h2]
  simp [go_nil]
theorem add_blank (s : ByteArray) : go [] (sl (s ++ ⟨#[32]⟩)) = go [] (sl s) ∧ ∃ u, sl (s ++ ⟨#[32]⟩) = u ++ [32] := by
  have e : sl (s ++ ⟨#[32]⟩) = sl s ++ [32] := by rw [sl_app]; rfl
  refine ⟨?_, sl s, e⟩
  rw [e, go_blank [] [] (sl s)]
  simp [go_nil]
theorem sl_inj {s t : ByteArray} (h : sl s = sl t) : s = t := by rw [← mk_sl s, h, mk_sl]
end P

set_option maxRecDepth 100000 in
set_option maxHeartbeats 2000000 in
theorem gaps_walk (l : List ByteArray) (ad : Option Addr) (n cap : Nat) (g : List Int) (ad2 : Option Addr) (n2 cap2 : Nat) (w : World) (hr : RS w (.slice ad n cap) l) (hln : l.length = n) (hcap : n ≤ cap) (hcm : cap ≤ maxLen) (hsum : sumS l ≤ 1048576)
    (hr2 : RI w (.slice ad2 n2 cap2) g) (hg : I64s g) (hln2 : g.length = n2) (hcap2 : n2 ≤ cap2) (hcm2 : cap2 ≤ maxLen) : Calls Tryd.prog 7 #[.slice ad n cap, .slice ad2 n2 cap2] w (BoolPost w) := by
  unfold maxLen at hcm hcm2
  have Hr := Lib.hid hr
  have Hr2 := Lib.hid hr2
  have Hg := Lib.hid hg
  have Hln := Lib.hid hln
  have Hsum := Lib.hid hsum
  clear hr hr2 hg hln hln2 hsum
  go_enter Tryd.func7, Tryd.ntmps7
  go_wp2_with (fail)
  refine (shown_any _).mono ?_
  rintro e w1 ⟨rfl, hb1⟩
  go_wp2_with (fail)
  go_loopw [6, 7, 8] (fun v s i wr => ∃ (k m : Nat) (ks : List ByteArray) (t : ByteArray) (u : P.L) (a9 : Option Addr) (c9 : Nat), v = .slice a9 m c9 ∧ s = .string t ∧ i = .int .i64 k ∧ k ≤ 30 ∧ k ≤ n ∧ m ≤ k ∧ t.size ≤ 1 + 258 * k ∧ P.sl t = u ++ [32] ∧ P.go [] (P.sl t) = ks.map P.sl ∧
    wr.ownsRow w.heap.size 9 1 (.slice a9 m c9) m (ks.map .string) ∧ Below w.heap.size w wr) (fun _ _ i _ => 30 - (intOf i).toNat)
  case atStart => exact ⟨0, 0, [], ⟨#[32]⟩, [], none, 0, rfl, rfl, rfl, by omega, by omega, by omega, by decide, rfl, rfl, World.ownsRow_nil _ _ _ _, hb1⟩
  case round =>
    obtain ⟨k, m, ks, t, u, a9, c9, rfl, rfl, rfl, hk, hkn, hmk, hts, hu, hgo, ho, hbl⟩ := hrel
    have Hu := Lib.hid hu
    have Hgo0 := Lib.hid hgo
    clear hu hgo
    by_cases hlt : k < n ∧ k < 30
    · obtain ⟨hlt1, hlt2⟩ := hlt
      have i1 : (k : Int) < (n : Int) := by omega
      have i2 : (k : Int) < 30 := by omega
      obtain ⟨x, hx⟩ : ∃ x, l[k]?.getD ⟨#[]⟩ = x := ⟨_, rfl⟩
      have hxs : x.size ≤ 1048576 := by
        have hm : x ∈ l := by
          rw [← hx, List.getElem?_eq_getElem (by rw [Hln.out]; exact hlt1)]
          exact List.getElem_mem _
        have h1 := sumS_le hm
        have h2 := Hsum.out
        omega
      have Hx := Lib.hid hx
      obtain ⟨b, o, hab, hbw, hc⟩ := (Hr.out.below hbl).at hlt1
      subst hab
      rw [hx] at hc
      clear hx
      rcases hkey : keyB x with _ | _
      · have Hkey := Lib.hid hkey
        clear hkey
        go_wp2_with (fail)
        refine (key_at (by unfold maxLen; omega) Hkey.out _).mono ?_
        rintro e w' ⟨rfl, rfl⟩
        go_wp2_with (fail)
        go_roundw
        case rel => exact ⟨k + 1, m, ks, t, u, a9, c9, rfl, rfl, by go_num, by omega, by omega, by omega, by omega, Hu.out, Hgo0.out, ho, hbl⟩
        case measure => simp [intOf]; omega
      · have Hkey := Lib.hid hkey
        have hx250 := (P.key_word hkey).2.2
        obtain ⟨ks2, hks2⟩ : ∃ ks2, ks2 = ks ++ [x] := ⟨_, rfl⟩
        have Hks2 := Lib.hid hks2
        have Hgo : Hid (P.go [] (P.sl (t ++ x)) = ks2.map P.sl) := Lib.hid (by rw [P.add_key Hu.out hkey, Hgo0.out, hks2]; simp)
        have q0 : ¬ 9223372036854775807 < t.size + x.size := by omega
        clear hkey hks2
        go_wp2_with (fail)
        refine (key_at (by unfold maxLen; omega) Hkey.out _).mono ?_
        rintro e w' ⟨rfl, rfl⟩
        by_cases hg2 : k < n2
        · have i3 : (k : Int) < (n2 : Int) := by omega
          obtain ⟨y, hy⟩ : ∃ y, g[k]?.getD 0 = y := ⟨_, rfl⟩
          obtain ⟨M, hM⟩ := Int.eq_ofNat_of_zero_le (show 0 ≤ 1 + y % 8 by omega)
          have hM1 : 1 ≤ M := by omega
          have hM8 : M ≤ 8 := by omega
          have h7 := i64_and7 y
          have Hy := Lib.hid hy
          clear hy
          go_wp2_with (at_builtin; go_must (refine wp_appS w wr rfl _ _ rfl w.heap.size (.slice a9 m c9) m ks x rfl ho rfl hbl (by omega) hbl.size ?_); intro g9 cap9 w2 hown2 hbel2; have hc2 : w2.cell? ⟨b, o + k, none⟩ = some (.string x) := (by obtain ⟨b', o', hab', _, hc'⟩ := (Hr.out.below hbel2).at hlt1; cases hab'; rw [Hx.out] at hc'; exact hc'); obtain ⟨b2, o2, hab2, hbw2, hcg⟩ := (Hr2.out.below hbel2).at hg2; subst hab2; rw [Hy.out] at hcg)
          clear hc hcg hc2
          go_loop [7, 10] (fun v i => ∃ (j : Nat) (t3 : ByteArray), v = .string t3 ∧ i = .int .i64 j ∧ j ≤ M ∧ t3.size = t.size + x.size + j ∧ P.go [] (P.sl t3) = ks2.map P.sl ∧ (0 < j → ∃ u, P.sl t3 = u ++ [32])) (fun _ i => M - (intOf i).toNat)
          case atStart => exact ⟨0, _, rfl, rfl, by omega, by rw [ByteArray.size_append]; rfl, Hgo.out, fun h => by omega⟩
          case round =>
            obtain ⟨j, t3, rfl, rfl, hj, h3s, h3g, h3u⟩ := hrel
            have H3g := Lib.hid h3g
            have H3u := Lib.hid h3u
            have H3s := Lib.hid h3s
            have q1 : ¬ 9223372036854775807 < t3.size + 1 := by omega
            clear h3g h3u h3s
            by_cases hjl : j < M
            · have hjI : (j : Int) < (M : Int) := by omega
              go_wp2_with (fail)
              go_round
              case rel => exact ⟨j + 1, _, rfl, by go_num, by omega, by rw [ByteArray.size_append, H3s.out]; rfl, by rw [(P.add_blank t3).1]; exact H3g.out, fun _ => (P.add_blank t3).2⟩
              case measure => simp [intOf]; omega
            · obtain rfl : j = M := by omega
              go_wp2_with (fail)
              go_roundw
              case rel =>
                obtain ⟨u3, hu3⟩ := H3u.out (by omega)
                exact ⟨k + 1, m + 1, ks2, t3, u3, some ⟨g9, 0, none⟩, cap9, rfl, rfl, by go_num, by omega, by omega, by omega, by have := H3s.out; omega, hu3, H3g.out, by rw [Hks2.out]; exact hown2, hbel2⟩
              case measure => simp [intOf]; omega
        · have i3 : ¬ (k : Int) < (n2 : Int) := by omega
          go_wp2_with (at_builtin; go_must (refine wp_appS w wr rfl _ _ rfl w.heap.size (.slice a9 m c9) m ks x rfl ho rfl hbl (by omega) hbl.size ?_); intro g9 cap9 w2 hown2 hbel2; have hc2 : w2.cell? ⟨b, o + k, none⟩ = some (.string x) := (by obtain ⟨b', o', hab', _, hc'⟩ := (Hr.out.below hbel2).at hlt1; cases hab'; rw [Hx.out] at hc'; exact hc'))
          clear hc hc2
          go_loop [7, 10] (fun v i => ∃ (j : Nat) (t3 : ByteArray), v = .string t3 ∧ i = .int .i64 j ∧ j ≤ 1 ∧ t3.size = t.size + x.size + j ∧ P.go [] (P.sl t3) = ks2.map P.sl ∧ (0 < j → ∃ u, P.sl t3 = u ++ [32])) (fun _ i => 1 - (intOf i).toNat)
          case atStart => exact ⟨0, _, rfl, rfl, by omega, by rw [ByteArray.size_append]; rfl, Hgo.out, fun h => by omega⟩
          case round =>
            obtain ⟨j, t3, rfl, rfl, hj, h3s, h3g, h3u⟩ := hrel
            have H3g := Lib.hid h3g
            have H3u := Lib.hid h3u
            have H3s := Lib.hid h3s
            have q1 : ¬ 9223372036854775807 < t3.size + 1 := by omega
            clear h3g h3u h3s
            by_cases hjl : j < 1
            · have hjI : (j : Int) < (1 : Int) := by omega
              go_wp2_with (fail)
              go_round
              case rel => exact ⟨j + 1, _, rfl, by go_num, by omega, by rw [ByteArray.size_append, H3s.out]; rfl, by rw [(P.add_blank t3).1]; exact H3g.out, fun _ => (P.add_blank t3).2⟩
              case measure => simp [intOf]; omega
            · obtain rfl : j = 1 := by omega
              go_wp2_with (fail)
              go_roundw
              case rel =>
                obtain ⟨u3, hu3⟩ := H3u.out (by omega)
                exact ⟨k + 1, m + 1, ks2, t3, u3, some ⟨g9, 0, none⟩, cap9, rfl, rfl, by go_num, by omega, by omega, by omega, by have := H3s.out; omega, hu3, H3g.out, by rw [Hks2.out]; exact hown2, hbel2⟩
              case measure => simp [intOf]; omega
    · have hsp : t.size ≤ 4000000 := by omega
      have hnl : ks.length ≤ 100000000 := by have := ho.1; simp at this; omega
      have hks : P.words t = ks.map P.sl := Hgo0.out
      have hmk : (ks.map P.sl).map P.mk = ks := by rw [List.map_map]; exact (List.map_congr_left (fun x _ => P.mk_sl x)).trans (List.map_id _)
      have Hks := Lib.hid (And.intro hks hmk)
      clear hks hmk hts
      by_cases h1 : k < n
      · have i1 : (k : Int) < (n : Int) := by omega
        have i2 : ¬ (k : Int) < 30 := by omega
        clear hlt
        go_wp2_with (fail)
        refine (split_at' (w0 := w) hsp Hks.out.1 hbl).mono ?_
        rintro e w2 ⟨v, rfl, ho2, hb2, hb2'⟩
        rw [Hks.out.2] at ho2
        have r1 := rs_own ho2
        have r2 := (rs_own ho).below hb2'
        clear ho ho2 hb2'
        go_wp2_with (fail)
        refine (same_true r1 r2 hnl).mono ?_
        rintro e w3 ⟨rfl, n3, rfl⟩
        go_wp2_with (fail)
        go_ret
        exact ⟨rfl, below_drewN hb2 n3⟩
      · have i1 : ¬ (k : Int) < (n : Int) := by omega
        clear hlt
        go_wp2_with (fail)
        refine (split_at' (w0 := w) hsp Hks.out.1 hbl).mono ?_
        rintro e w2 ⟨v, rfl, ho2, hb2, hb2'⟩
        rw [Hks.out.2] at ho2
        have r1 := rs_own ho2
        have r2 := (rs_own ho).below hb2'
        clear ho ho2 hb2'
        go_wp2_with (fail)
        refine (same_true r1 r2 hnl).mono ?_
        rintro e w3 ⟨rfl, n3, rfl⟩
        go_wp2_with (fail)
        go_ret
        exact ⟨rfl, below_drewN hb2 n3⟩
end Go.Proofs.YtfiicnajiefiaaaDoor
