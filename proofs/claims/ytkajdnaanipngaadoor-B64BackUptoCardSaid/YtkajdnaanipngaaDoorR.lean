/- ambryref03.letter and Encode: contracts. -/
import Derived.Test.YtkajdnaanipngaaDoorS
import Derived.Test.YtkajdnaanipngaaDoorPl
import Derived.Laws.OwnMore
import Derived.Laws.BytesArg
namespace Go.Proofs.YtkajdnaanipngaaDoor
open Go.RowKit Go.PlainAid
set_option linter.unusedVariables false
set_option linter.unusedSimpArgs false

theorem letter_any (n : Int) (w : World) (h0 : 0 ≤ n) (h1 : n < 64) : Calls Tryd.prog 17 #[.int .u32 n] w fun e w' => e = .returned (.int .u8 (P.letter n)) ∧ w = w' := by
  by_cases c1 : n < 26
  · have He := Lib.hid (show P.letter n = 65 + n by unfold P.letter;  rw [if_pos (by omega)])
    go_enter Tryd.func17, Tryd.ntmps17
    go_wp2
    go_ret
    exact ⟨by rw [He.out]; go_num, rfl⟩
  by_cases c2 : n < 52
  · have He := Lib.hid (show P.letter n = 71 + n by unfold P.letter; rw [if_neg (by omega)]; rw [if_pos (by omega)])
    go_enter Tryd.func17, Tryd.ntmps17
    go_wp2
    go_ret
    exact ⟨by rw [He.out]; go_num, rfl⟩
  by_cases c3 : n < 62
  · have He := Lib.hid (show P.letter n = n - 4 by unfold P.letter; rw [if_neg (by omega)]; rw [if_neg (by omega)]; rw [if_pos (by omega)])
    go_enter Tryd.func17, Tryd.ntmps17
    go_wp2
    go_ret
    exact ⟨by rw [He.out]; go_num, rfl⟩
  by_cases c4 : n = 62
  · subst c4
    go_enter Tryd.func17, Tryd.ntmps17
    go_wp2
    go_ret
    exact ⟨rfl, rfl⟩
  obtain rfl : n = 63 := by omega
  go_enter Tryd.func17, Tryd.ntmps17
  go_wp2
  go_ret
  exact ⟨rfl, rfl⟩
/-- append of what lies at an address to a row of bytes of the call's own -/
theorem wp_app {ops : Array Oper} {rest : List Oper} {o : Oper} {a : Act} {Q : Exit → Act → World → Prop} (w0 w : World) (hgd : o.guard = none) (s x : Operand)
    (ho : o.op = .call { callee := .builtin .append, args := #[s, x], argTypes := #[29, 29] }) (base : Nat) (v : Value) (n : Nat) (xs : List Int) (ys : List Int) (ad : Addr) (c : Nat)
    (hs : a.eval s = v) (hown : w.ownsRow base 5 1 v n (xs.map (.int .u8))) (hx : a.eval x = .slice (some ad) ys.length c) (hcell : ∀ j, j < ys.length → w.cell? (ad.add j) = some (.int .u8 (ys[j]?.getD 0)))
    (hbel : Below base w0 w) (hn : n + ys.length < 1000000000000) (hpos : 0 < n + ys.length) (hbase : base ≤ w.heap.size)
    (h : ∀ g cap w', w'.ownsRow base 5 1 (.slice (some ⟨g, 0, none⟩) (n + ys.length) cap) (n + ys.length) ((xs ++ ys).map (.int .u8)) → Below base w0 w' → wpList Tryd.prog ops Q rest (a.put o.dst (.slice (some ⟨g, 0, none⟩) (n + ys.length) cap)) w') :
    wpList Tryd.prog ops Q (o :: rest) a w := by
  obtain ⟨i0, hi, hz0, hz1, hz2⟩ := info_parts info5
  refine wpList_append_own _ hgd s x 29 ho base 5 i0 (.int .u8 0) 1 1 Tryd.underlying29 hi hz0 hz1 hz2 rfl (by decide) v n _ hs hown ad ys.length c (ys.map (.int .u8)) hx (by simp) ?_ ?_ ?_ ?_ hbase ?_
  · intro j y hj
    have hjl : j < ys.length := by have := (List.getElem?_eq_some_iff.1 hj).1; simpa using this
    rw [hcell j hjl]
    simp [hjl] at hj ⊢
    exact hj
  · intro y hy
    obtain ⟨z, _, rfl⟩ := List.mem_map.1 hy
    rfl
  · unfold maxLen; omega
  · omega
  · intro v' w' hown' hgrow hiff
    have hb' : Below base w0 w' := hbel.grown hgrow hbase (fun k hk => (hown.lt k hk).1)
    rcases hown'.2 with ⟨rfl, h0⟩ | ⟨g, cap, cur, rfl, _⟩
    · omega
    · exact h g cap w' (by simpa using hown') hb'


/-- string(b) of a row of the call's own -/
theorem conv_own {w : World} {base n : Nat} {ad : Option Addr} {cap : Nat} {l : List Int} (h : w.ownsRow base 5 1 (.slice ad n cap) n (l.map (.int .u8))) (hb : P.Bytes l) :
    (convert 29 9 (.slice ad n cap)).run Tryd.prog w = .ok (.string (strOfNums l)) w := by
  have hl : l.length = n := by simpa using h.1
  subst hl
  rcases h.2 with ⟨hv, h0⟩ | ⟨g, cap', cur, hv, _⟩
  · obtain rfl : l = [] := List.eq_nil_of_length_eq_zero h0
    cases hv
    exact run_convert_bytes_nil w 29 5 Tryd.underlying29 Tryd.underlying5 0 0 9 Tryd.underlying9
  · cases hv
    by_cases h0 : l = []
    · subst h0
      rw [run_convert_bytes_string w 29 9 5 _ _ _ Tryd.underlying29 Tryd.underlying5 Tryd.underlying9]
      exact run_bytesToString (P := Tryd.prog) w ⟨g, 0, none⟩ 0 cap [] (by simp [loadCells, loadCellsFrom])
    · refine run_convert_bytes_arg w 29 5 Tryd.underlying29 Tryd.underlying5 g 0 _ cap l rfl (fun i hi => ?_) 9 Tryd.underlying9
      have := h.cellAt i (by omega)
      rw [Nat.zero_add, this]
      simp [hi]

set_option maxRecDepth 100000 in
set_option maxHeartbeats 1000000 in
theorem refEncode_any (s : ByteArray) (w : World) (hs : s.size ≤ 100000000) : Calls Tryd.prog 11 #[.string s] w fun e w' => e = .returned (.string (strOfNums (P.encS s))) ∧ Below w.heap.size w w' := by
  have hb := get_bt s
  go_enter Tryd.func11, Tryd.ntmps11
  go_wp2
  go_loopw [3, 4] (fun v i wr => ∃ (q : Nat) (ad : Option Addr) (cap : Nat), v = .slice ad (4 * q) cap ∧ i = .int .i64 ((3 * q : Nat) : Int) ∧ 3 * q ≤ s.size + 2 ∧ wr.ownsRow w.heap.size 5 1 (.slice ad (4 * q) cap) (4 * q) (((P.encS s).take (4 * q)).map (.int .u8)) ∧ Below w.heap.size w wr) (fun _ i _ => s.size + 3 - (intOf i).toNat)
  case atStart => exact ⟨0, none, 0, rfl, rfl, by omega, World.ownsRow_nil _ _ _ _, Below.refl _ _⟩
  case round =>
    obtain ⟨q, ad, cap, rfl, rfl, hq, ho, hbl⟩ := hrel
    obtain ⟨k, hk⟩ : ∃ k, 3 * q = k := ⟨_, rfl⟩
    rw [hk]
    have Hk := Lib.hid hk
    have hq1 : q ≤ 100000000 := by omega
    by_cases hlt : k < s.size
    · have hltI : (k : Int) < (s.size : Int) := by omega
      have n0 := bt_nonneg s k
      have n1 := bt_nonneg s (k + 1)
      have n2 := bt_nonneg s (k + 2)
      have m0 := bt_le s k
      have m1 := bt_le s (k + 1)
      have m2 := bt_le s (k + 2)
      have sb := fun j => P.sx_bound (P.by_bt s) j
      obtain ⟨x0, hx0⟩ : ∃ x, P.sx (bt s) (4 * q + 0) = x := ⟨_, rfl⟩
      have y0 := sb (4 * q + 0)
      rw [hx0] at y0
      obtain ⟨x1, hx1⟩ : ∃ x, P.sx (bt s) (4 * q + 1) = x := ⟨_, rfl⟩
      have y1 := sb (4 * q + 1)
      rw [hx1] at y1
      obtain ⟨x2, hx2⟩ : ∃ x, P.sx (bt s) (4 * q + 2) = x := ⟨_, rfl⟩
      have y2 := sb (4 * q + 2)
      rw [hx2] at y2
      obtain ⟨x3, hx3⟩ : ∃ x, P.sx (bt s) (4 * q + 3) = x := ⟨_, rfl⟩
      have y3 := sb (4 * q + 3)
      rw [hx3] at y3
      have HX := Lib.hid (And.intro hx0 (And.intro hx1 (And.intro hx2 hx3)))
      have hsx : P.sx (bt s) (4 * q + 0) = bt s k / 4 ∧ P.sx (bt s) (4 * q + 1) = bt s k % 4 * 16 + bt s (k + 1) / 16 ∧ P.sx (bt s) (4 * q + 2) = bt s (k + 1) % 16 * 4 + bt s (k + 2) / 64 ∧ P.sx (bt s) (4 * q + 3) = bt s (k + 2) % 64 := by
        rw [← Hk.out]; exact ⟨P.sx0 _ q, P.sx1 _ q, P.sx2 _ q, P.sx3 _ q⟩
      rw [hx0, hx1, hx2, hx3] at hsx
      obtain ⟨g0, g1, g2, g3⟩ := hsx
      obtain ⟨p0, q0⟩ := y0
      obtain ⟨p1, q1⟩ := y1
      obtain ⟨p2, q2⟩ := y2
      obtain ⟨p3, q3⟩ := y3
      have Hq := Lib.hid hq
      clear sb hx0 hx1 hx2 hx3 hk hq
      by_cases h3 : k + 2 < s.size
      · have h1I : 1 < (s.size : Int) - (k : Int) := by omega
        have h2I : 2 < (s.size : Int) - (k : Int) := by omega
        have h3I : ¬ (s.size : Int) - (k : Int) < 3 := by omega
        have h4I : ¬ (s.size : Int) - (k : Int) < 2 := by omega
        have l1 : (k : Int) + 1 < (s.size : Int) := by omega
        have t1 : ((k : Int) + 1).toNat = k + 1 := by omega
        have l2 : (k : Int) + 2 < (s.size : Int) := by omega
        have t2 : ((k : Int) + 2).toNat = k + 2 := by omega
        have e1 : bits .or .u32 (bits .or .u32 (bt s k * 65536) (bt s (k + 1) * 256)) (bt s (k + 2)) = bt s k * 65536 + bt s (k + 1) * 256 + bt s (k + 2) := by
          rw [P.or_add (bt s k * 65536) (bt s (k + 1) * 256) 16 (by omega) (by omega) (by omega) (by omega) (by omega) (by omega), P.or_add _ (bt s (k + 2)) 8 (by omega) (by omega) (by omega) (by omega) (by omega) (by omega)]
        obtain ⟨M, hM⟩ : ∃ M, bt s k * 65536 + bt s (k + 1) * 256 + bt s (k + 2) = M := ⟨_, rfl⟩
        rw [hM] at e1
        have a0 : M / 262144 = x0 := by omega
        have a1 : bits .and .u32 (M / 4096) 63 = x1 := by rw [P.and63 _ (by omega) (by omega)]; omega
        have a2 : bits .and .u32 (M / 64) 63 = x2 := by rw [P.and63 _ (by omega) (by omega)]; omega
        have a3 : bits .and .u32 M 63 = x3 := by rw [P.and63 _ (by omega) (by omega)]; omega
        have Htk : Hid ((P.encS s).take (4 * (q + 1)) = (P.encS s).take (4 * q) ++ [P.letter x0, P.letter x1, P.letter x2, P.letter x3]) := by
          have hk := Hk.out
          obtain ⟨h0, h1, h2, h3⟩ := HX.out
          have hlen : (P.encS s).length = P.np s.size := P.enc_len _ _
          have hnp : 4 * (q + 1) ≤ P.np s.size := by unfold P.np; omega
          have f0 : (P.encS s)[4 * q + 0]?.getD 0 = P.letter x0 := by have := P.enc_at (bt s) s.size (4 * q + 0); rw [if_pos (show 4 * q + 0 < P.nl s.size by unfold P.nl; omega), h0] at this; exact this
          have f1 : (P.encS s)[4 * q + 1]?.getD 0 = P.letter x1 := by have := P.enc_at (bt s) s.size (4 * q + 1); rw [if_pos (show 4 * q + 1 < P.nl s.size by unfold P.nl; omega), h1] at this; exact this
          have f2 : (P.encS s)[4 * q + 2]?.getD 0 = P.letter x2 := by have := P.enc_at (bt s) s.size (4 * q + 2); rw [if_pos (show 4 * q + 2 < P.nl s.size by unfold P.nl; omega), h2] at this; exact this
          have f3 : (P.encS s)[4 * q + 3]?.getD 0 = P.letter x3 := by have := P.enc_at (bt s) s.size (4 * q + 3); rw [if_pos (show 4 * q + 3 < P.nl s.size by unfold P.nl; omega), h3] at this; exact this
          exact Lib.hid (P.take_four (by omega) f0 f1 f2 f3)
        have HM := Lib.hid hM
        clear g0 g1 g2 g3 hM
        go_wp2_with (first | (go_at_call 17; go_must (refine (letter_any _ _ (by omega) (by omega)).mono ?_); rintro e w' ⟨rfl, rfl⟩) | (at_builtin; go_must (refine wp_app w _ rfl _ _ rfl w.heap.size (.slice ad (4 * q) cap) (4 * q) ((P.encS s).take (4 * q)) [P.letter x0, P.letter x1, P.letter x2, P.letter x3] ⟨wr.heap.size, 0, none⟩ 4 rfl (by first | exact ho | exact ho.alloc _ | exact (ho.alloc _).drew) rfl ?_ (by first | exact hbl | exact hbl.alloc hbl.size _) (by simp; omega) (by simp) (by simp; have := hbl.size; omega) ?_)))
        · intro j hj
          simp only [List.length_cons, List.length_nil] at hj
          obtain rfl | rfl | rfl | rfl : j = 0 ∨ j = 1 ∨ j = 2 ∨ j = 3 := by omega
          all_goals simp [Addr.add]
        · intro g2 cap2 w2 hown2 hbel2
          have hown3 : w2.ownsRow w.heap.size 5 1 (.slice (some ⟨g2, 0, none⟩) (4 * q + 4) cap2) (4 * q + 4) (((P.encS s).take (4 * (q + 1))).map (.int .u8)) := by rw [Htk.out]; simpa using hown2
          clear Htk ho hbl hown2
          go_wp2_with (fail)
          go_roundw
          case rel => exact ⟨q + 1, some ⟨g2, 0, none⟩, cap2, rfl, by rw [show ((k : Int) + 3) = ((3 * (q + 1) : Nat) : Int) by have := Hk.out; omega], by have := Hk.out; have := Hq.out; omega, hown3, hbel2⟩
          case measure => simp [intOf]; omega
      · by_cases h4 : k + 2 = s.size
        · have h1I : 1 < (s.size : Int) - (k : Int) := by omega
          have h2I : ¬ 2 < (s.size : Int) - (k : Int) := by omega
          have h3I : (s.size : Int) - (k : Int) < 3 := by omega
          have h4I : ¬ (s.size : Int) - (k : Int) < 2 := by omega
          have l1 : (k : Int) + 1 < (s.size : Int) := by omega
          have t1 : ((k : Int) + 1).toNat = k + 1 := by omega
          have z2 := bt_end s (k := k + 2) (by omega)
          rw [z2] at g2 g3
          have e1 : bits .or .u32 (bt s k * 65536) (bt s (k + 1) * 256) = bt s k * 65536 + bt s (k + 1) * 256 := by
            rw [P.or_add (bt s k * 65536) (bt s (k + 1) * 256) 16 (by omega) (by omega) (by omega) (by omega) (by omega) (by omega)]
          obtain ⟨M, hM⟩ : ∃ M, bt s k * 65536 + bt s (k + 1) * 256 = M := ⟨_, rfl⟩
          rw [hM] at e1
          have a0 : M / 262144 = x0 := by omega
          have a1 : bits .and .u32 (M / 4096) 63 = x1 := by rw [P.and63 _ (by omega) (by omega)]; omega
          have a2 : bits .and .u32 (M / 64) 63 = x2 := by rw [P.and63 _ (by omega) (by omega)]; omega
          have a3 : bits .and .u32 M 63 = x3 := by rw [P.and63 _ (by omega) (by omega)]; omega
          have Htk : Hid ((P.encS s).take (4 * (q + 1)) = (P.encS s).take (4 * q) ++ [P.letter x0, P.letter x1, P.letter x2, 61]) := by
            have hk := Hk.out
            obtain ⟨h0, h1, h2, h3⟩ := HX.out
            have hlen : (P.encS s).length = P.np s.size := P.enc_len _ _
            have hnp : 4 * (q + 1) ≤ P.np s.size := by unfold P.np; omega
            have f0 : (P.encS s)[4 * q + 0]?.getD 0 = P.letter x0 := by have := P.enc_at (bt s) s.size (4 * q + 0); rw [if_pos (show 4 * q + 0 < P.nl s.size by unfold P.nl; omega), h0] at this; exact this
            have f1 : (P.encS s)[4 * q + 1]?.getD 0 = P.letter x1 := by have := P.enc_at (bt s) s.size (4 * q + 1); rw [if_pos (show 4 * q + 1 < P.nl s.size by unfold P.nl; omega), h1] at this; exact this
            have f2 : (P.encS s)[4 * q + 2]?.getD 0 = P.letter x2 := by have := P.enc_at (bt s) s.size (4 * q + 2); rw [if_pos (show 4 * q + 2 < P.nl s.size by unfold P.nl; omega), h2] at this; exact this
            have f3 : (P.encS s)[4 * q + 3]?.getD 0 = 61 := by have := P.enc_at (bt s) s.size (4 * q + 3); rw [if_neg (show ¬ 4 * q + 3 < P.nl s.size by unfold P.nl; omega), if_pos (show 4 * q + 3 < P.np s.size by omega)] at this; exact this
            exact Lib.hid (P.take_four (by omega) f0 f1 f2 f3)
          have HM := Lib.hid hM
          clear g0 g1 g2 g3 hM
          go_wp2_with (first | (go_at_call 17; go_must (refine (letter_any _ _ (by omega) (by omega)).mono ?_); rintro e w' ⟨rfl, rfl⟩) | (at_builtin; go_must (refine wp_app w _ rfl _ _ rfl w.heap.size (.slice ad (4 * q) cap) (4 * q) ((P.encS s).take (4 * q)) [P.letter x0, P.letter x1, P.letter x2, 61] ⟨wr.heap.size, 0, none⟩ 4 rfl (by first | exact ho | exact ho.alloc _ | exact (ho.alloc _).drew) rfl ?_ (by first | exact hbl | exact hbl.alloc hbl.size _) (by simp; omega) (by simp) (by simp; have := hbl.size; omega) ?_)))
          · intro j hj
            simp only [List.length_cons, List.length_nil] at hj
            obtain rfl | rfl | rfl | rfl : j = 0 ∨ j = 1 ∨ j = 2 ∨ j = 3 := by omega
            all_goals simp [Addr.add]
          · intro g2 cap2 w2 hown2 hbel2
            have hown3 : w2.ownsRow w.heap.size 5 1 (.slice (some ⟨g2, 0, none⟩) (4 * q + 4) cap2) (4 * q + 4) (((P.encS s).take (4 * (q + 1))).map (.int .u8)) := by rw [Htk.out]; simpa using hown2
            clear Htk ho hbl hown2
            go_wp2_with (fail)
            go_roundw
            case rel => exact ⟨q + 1, some ⟨g2, 0, none⟩, cap2, rfl, by rw [show ((k : Int) + 3) = ((3 * (q + 1) : Nat) : Int) by have := Hk.out; omega], by have := Hk.out; have := Hq.out; omega, hown3, hbel2⟩
            case measure => simp [intOf]; omega
        · have h1I : ¬ 1 < (s.size : Int) - (k : Int) := by omega
          have h2I : ¬ 2 < (s.size : Int) - (k : Int) := by omega
          have h3I : (s.size : Int) - (k : Int) < 3 := by omega
          have h4I : (s.size : Int) - (k : Int) < 2 := by omega
          have z2 := bt_end s (k := k + 2) (by omega)
          rw [z2] at g2 g3
          have z1 := bt_end s (k := k + 1) (by omega)
          rw [z1] at g1 g2
          obtain ⟨M, hM⟩ : ∃ M, bt s k * 65536 = M := ⟨_, rfl⟩
          have a0 : M / 262144 = x0 := by omega
          have a1 : bits .and .u32 (M / 4096) 63 = x1 := by rw [P.and63 _ (by omega) (by omega)]; omega
          have a2 : bits .and .u32 (M / 64) 63 = x2 := by rw [P.and63 _ (by omega) (by omega)]; omega
          have a3 : bits .and .u32 M 63 = x3 := by rw [P.and63 _ (by omega) (by omega)]; omega
          have Htk : Hid ((P.encS s).take (4 * (q + 1)) = (P.encS s).take (4 * q) ++ [P.letter x0, P.letter x1, 61, 61]) := by
            have hk := Hk.out
            obtain ⟨h0, h1, h2, h3⟩ := HX.out
            have hlen : (P.encS s).length = P.np s.size := P.enc_len _ _
            have hnp : 4 * (q + 1) ≤ P.np s.size := by unfold P.np; omega
            have f0 : (P.encS s)[4 * q + 0]?.getD 0 = P.letter x0 := by have := P.enc_at (bt s) s.size (4 * q + 0); rw [if_pos (show 4 * q + 0 < P.nl s.size by unfold P.nl; omega), h0] at this; exact this
            have f1 : (P.encS s)[4 * q + 1]?.getD 0 = P.letter x1 := by have := P.enc_at (bt s) s.size (4 * q + 1); rw [if_pos (show 4 * q + 1 < P.nl s.size by unfold P.nl; omega), h1] at this; exact this
            have f2 : (P.encS s)[4 * q + 2]?.getD 0 = 61 := by have := P.enc_at (bt s) s.size (4 * q + 2); rw [if_neg (show ¬ 4 * q + 2 < P.nl s.size by unfold P.nl; omega), if_pos (show 4 * q + 2 < P.np s.size by omega)] at this; exact this
            have f3 : (P.encS s)[4 * q + 3]?.getD 0 = 61 := by have := P.enc_at (bt s) s.size (4 * q + 3); rw [if_neg (show ¬ 4 * q + 3 < P.nl s.size by unfold P.nl; omega), if_pos (show 4 * q + 3 < P.np s.size by omega)] at this; exact this
            exact Lib.hid (P.take_four (by omega) f0 f1 f2 f3)
          have HM := Lib.hid hM
          clear g0 g1 g2 g3
          go_wp2_with (first | (go_at_call 17; go_must (refine (letter_any _ _ (by omega) (by omega)).mono ?_); rintro e w' ⟨rfl, rfl⟩) | (at_builtin; go_must (refine wp_app w _ rfl _ _ rfl w.heap.size (.slice ad (4 * q) cap) (4 * q) ((P.encS s).take (4 * q)) [P.letter x0, P.letter x1, 61, 61] ⟨wr.heap.size, 0, none⟩ 4 rfl (by first | exact ho | exact ho.alloc _ | exact (ho.alloc _).drew) rfl ?_ (by first | exact hbl | exact hbl.alloc hbl.size _) (by simp; omega) (by simp) (by simp; have := hbl.size; omega) ?_)))
          · intro j hj
            simp only [List.length_cons, List.length_nil] at hj
            obtain rfl | rfl | rfl | rfl : j = 0 ∨ j = 1 ∨ j = 2 ∨ j = 3 := by omega
            all_goals simp [Addr.add]
          · intro g2 cap2 w2 hown2 hbel2
            have hown3 : w2.ownsRow w.heap.size 5 1 (.slice (some ⟨g2, 0, none⟩) (4 * q + 4) cap2) (4 * q + 4) (((P.encS s).take (4 * (q + 1))).map (.int .u8)) := by rw [Htk.out]; simpa using hown2
            clear Htk ho hbl hown2
            go_wp2_with (fail)
            go_roundw
            case rel => exact ⟨q + 1, some ⟨g2, 0, none⟩, cap2, rfl, by rw [show ((k : Int) + 3) = ((3 * (q + 1) : Nat) : Int) by have := Hk.out; omega], by have := Hk.out; have := Hq.out; omega, hown3, hbel2⟩
            case measure => simp [intOf]; omega
    · have hge : P.np s.size ≤ 4 * q := by unfold P.np; omega
      have Htk : Hid ((P.encS s).take (4 * q) = P.encS s) := Lib.hid (List.take_of_length_le (by unfold P.encS; rw [P.enc_len]; exact hge))
      rw [Htk.out] at ho
      have hcv := conv_own ho (P.enc_bytes s)
      clear hk hq hge Htk
      go_wp2_with (fail)
      go_ret
      exact ⟨rfl, hbl⟩
end Go.Proofs.YtkajdnaanipngaaDoor
