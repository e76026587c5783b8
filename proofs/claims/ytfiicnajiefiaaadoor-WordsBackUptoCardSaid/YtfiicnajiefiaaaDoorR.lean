/- ambryref02.Split and Same: contracts. -/
import Derived.Test.YtfiicnajiefiaaaDoorT
import Derived.Laws.OwnMore
namespace Go.Proofs.YtfiicnajiefiaaaDoor
open Go.RowKit Go.PlainAid
set_option linter.unusedVariables false
set_option linter.unusedSimpArgs false

/-- a slice of texts -/
def RS (w : World) (v : Value) (l : List ByteArray) : Prop :=
  ∃ a cap, v = .slice a l.length cap ∧ (l ≠ [] → ∃ b o, a = some ⟨b, o, none⟩ ∧ ∀ i, i < l.length → w.cell? ⟨b, o + i, none⟩ = some (.string (l[i]?.getD ⟨#[]⟩)))
theorem rs_own {w : World} {base n : Nat} {v : Value} {l : List ByteArray} (h : w.ownsRow base 9 1 v n (l.map .string)) : RS w v l := by
  have hn : l.length = n := by simpa using h.1
  subst hn
  rcases h.2 with ⟨rfl, h0⟩ | ⟨g, cap, cur, rfl, _⟩
  · exact ⟨none, 0, by rw [h0], fun hne => absurd (List.eq_nil_of_length_eq_zero h0) hne⟩
  · refine ⟨some ⟨g, 0, none⟩, cap, rfl, fun _ => ⟨g, 0, rfl, fun i hi => ?_⟩⟩
    have := h.cellAt i (by omega)
    rw [Nat.zero_add, this]
    simp [hi]
theorem RS.below {w w' : World} {v : Value} {l : List ByteArray} (h : RS w v l) (hb : Below w.heap.size w w') : RS w' v l := by
  obtain ⟨a, cap, rfl, hc⟩ := h
  refine ⟨a, cap, rfl, fun hne => ?_⟩
  obtain ⟨b, o, rfl, hcc⟩ := hc hne
  refine ⟨b, o, rfl, fun i hi => ?_⟩
  have h1 := hcc i hi
  rw [hb.cell (World.block_lt_of_cell? _ _ h1)]
  exact h1

theorem str_beq (s : ByteArray) : (s.toList == s.toList) = true := by simp

set_option maxHeartbeats 400000 in
theorem same_true {w : World} {va vb : Value} {l : List ByteArray} (ha : RS w va l) (hb : RS w vb l) (hl : l.length ≤ 100000000) : Calls Tryd.prog 15 #[va, vb] w fun e w' => e = .returned (.bool true) ∧ ∃ n, w' = w.drewN n := by
  obtain ⟨a, ca, rfl, ha⟩ := ha
  obtain ⟨b, cb, rfl, hb⟩ := hb
  generalize hN : l.length = N at *
  have HN := Lib.hid hN
  have Ha := Lib.hid ha
  have Hb := Lib.hid hb
  clear hN ha hb
  go_enter Tryd.func15, Tryd.ntmps15
  go_wp2
  go_loopw [5] (fun i wr => ∃ k n : Nat, k ≤ N ∧ i = .int .i64 k ∧ wr = w.drewN n) (fun i _ => N - (intOf i).toNat)
  case atStart => exact ⟨0, 0, Nat.zero_le _, rfl, rfl⟩
  case round =>
    obtain ⟨k, n, hk, rfl, rfl⟩ := hrel
    by_cases hlt : k < N
    · have hltI : (k : Int) < (N : Int) := by omega
      have hne : l ≠ [] := by rintro rfl; have := HN.out; simp at this; omega
      obtain ⟨ba, oa, rfl, hca⟩ := Ha.out hne
      obtain ⟨bb, ob, rfl, hcb⟩ := Hb.out hne
      obtain ⟨x, hx⟩ : ∃ x, l[k]?.getD ⟨#[]⟩ = x := ⟨_, rfl⟩
      have h1 := hca k hlt
      have h2 := hcb k hlt
      rw [hx] at h1 h2
      have hxx := str_beq x
      clear hca hcb hx hne
      go_wp2_with (fail)
      go_quiet (fail)
      go_wp2_with (fail)
      go_roundw
      case rel => exact ⟨k + 1, _, by omega, by go_num, rfl⟩
      case measure => simp [intOf]; omega
    · go_wp2_with (fail)
      go_ret
      exact ⟨rfl, n, rfl⟩

/-- append of one text -/
theorem wp_appS {ops : Array Oper} {rest : List Oper} {o : Oper} {a : Act} {Q : Exit → Act → World → Prop} (w0 w : World) (hgd : o.guard = none) (s x : Operand)
    (ho : o.op = .call { callee := .builtin .append, args := #[s, x], argTypes := #[26, 26] }) (base : Nat) (v : Value) (n : Nat) (xs : List ByteArray) (u : ByteArray)
    (hs : a.eval s = v) (hown : w.ownsRow base 9 1 v n (xs.map .string)) (hx : a.eval x = .slice (some ⟨w.heap.size, 0, none⟩) 1 1)
    (hbel : Below base w0 w) (hn : n + 1 < 1000000000000) (hbase : base ≤ w.heap.size)
    (h : ∀ g cap w', w'.ownsRow base 9 1 (.slice (some ⟨g, 0, none⟩) (n + 1) cap) (n + 1) ((xs ++ [u]).map .string) → Below base w0 w' → wpList Tryd.prog ops Q rest (a.put o.dst (.slice (some ⟨g, 0, none⟩) (n + 1) cap)) w') :
    wpList Tryd.prog ops Q (o :: rest) a (w.alloc (.cells #[.string u] 9)) := by
  obtain ⟨i0, hi, hz0, hz1, hz2⟩ := info_parts info9
  refine wpList_append_own _ hgd s x 26 ho base 9 i0 (.string ⟨#[]⟩) 1 16 Tryd.underlying26 hi hz0 hz1 hz2 rfl (by decide) v n _ hs (hown.alloc _) ⟨w.heap.size, 0, none⟩ 1 1 [.string u] hx (by simp) ?_ ?_ ?_ ?_ (by simp; omega) ?_
  · intro j y hj
    obtain rfl : j = 0 := by have := (List.getElem?_eq_some_iff.1 hj).1; simpa using this
    simp at hj
    subst hj
    simp [Addr.add]
  · intro y hy
    simp at hy
    subst hy; rfl
  · unfold maxLen; omega
  · omega
  · intro v' w' hown' hgrow hiff
    have hb' : Below base w0 w' := (hbel.alloc hbase _).grown hgrow (by simp; omega) (fun k hk => (hown.lt k hk).1)
    rcases hown'.2 with ⟨rfl, h0⟩ | ⟨g, cap, cur, rfl, _⟩
    · omega
    · exact h g cap w' (by simpa using hown') hb'

namespace P
theorem take_snoc {s : ByteArray} {i a : Nat} {b : UInt8} (h : (sl s)[i]? = some b) (ha : a ≤ i) : ((sl s).take (i + 1)).drop a = ((sl s).take i).drop a ++ [b] := by
  have hlt := (List.getElem?_eq_some_iff.1 h).1
  rw [List.take_add_one, h, List.drop_append_of_le_length (by rw [List.length_take]; omega)]
  rfl
theorem drop_at {s : ByteArray} {i : Nat} {b : UInt8} (h : (sl s)[i]? = some b) : (sl s).drop i = b :: (sl s).drop (i + 1) := by
  obtain ⟨hlt, hb⟩ := List.getElem?_eq_some_iff.1 h
  rw [List.drop_eq_getElem_cons hlt, hb]
theorem cur_nil {s : ByteArray} {i a : Nat} (hi : i ≤ s.size) : ((sl s).take i).drop a = [] ↔ i ≤ a := by
  rw [List.drop_eq_nil_iff, List.length_take, sl_len]; omega
end P

set_option maxHeartbeats 1000000 in
theorem refSplit_any (s : ByteArray) (w : World) (hs : s.size ≤ 4000000) : Calls Tryd.prog 16 #[.string s] w (SplitPost s w) := by
  have hb := get_bt s
  go_enter Tryd.func16, Tryd.ntmps16
  go_wp2
  go_loopw [3, 4, 5] (fun v f i wr => ∃ (k a n : Nat) (pre : List P.L) (ad : Option Addr) (cap : Nat), v = .slice ad n cap ∧ f = .int .i64 a ∧ i = .int .i64 k ∧ k ≤ s.size + 1 ∧ a ≤ k ∧ n ≤ k ∧
      (k ≤ s.size → pre ++ P.go (((P.sl s).take k).drop a) ((P.sl s).drop k) = P.words s) ∧ (k = s.size + 1 → pre = P.words s) ∧
      wr.ownsRow w.heap.size 9 1 (.slice ad n cap) n ((pre.map P.mk).map .string) ∧ Below w.heap.size w wr) (fun _ _ i _ => s.size + 1 - (intOf i).toNat)
  case atStart => exact ⟨0, 0, 0, [], none, 0, rfl, rfl, rfl, by omega, by omega, by omega, fun _ => by simp [P.words], fun h => by omega, World.ownsRow_nil _ _ _ _, Below.refl _ _⟩
  case round =>
    obtain ⟨k, a, n, pre, ad, cap, rfl, rfl, rfl, hk, hak, hnk, h1, h2, ho, hbl⟩ := hrel
    by_cases hle : k ≤ s.size
    · have hleI : (k : Int) ≤ (s.size : Int) := by omega
      have h3 := h1 hle
      clear h1 h2
      by_cases hlt : k < s.size
      · obtain ⟨b, hb1, hb2⟩ := P.sl_get hlt
        have hltI : (k : Int) < (s.size : Int) := by omega
        rw [P.drop_at hb1, P.go_cons] at h3
        by_cases h32 : b = 32
        · have hc : bt s k = 32 := by rw [hb2, h32]; rfl
          rw [if_pos h32] at h3
          by_cases hcu : k ≤ a
          · obtain rfl : a = k := by omega
            rw [(P.cur_nil hle).2 (Nat.le_refl _), if_pos rfl] at h3
            have H3 := Lib.hid h3
            clear h3 hb1 hb2 h32
            go_wp2_with (fail)
            go_roundw
            case rel => exact ⟨a + 1, a + 1, n, pre, ad, cap, rfl, by go_num, by go_num, by omega, by omega, by omega, fun _ => by rw [(P.cur_nil (by omega)).2 (Nat.le_refl _)]; exact H3.out, fun h => by omega, ho, hbl⟩
            case measure => simp [intOf]; omega
          · have hakI : (a : Int) < (k : Int) := by omega
            have hakI' : (a : Int) ≤ (k : Int) := by omega
            rw [if_neg (fun h => hcu ((P.cur_nil hle).1 h))] at h3
            obtain ⟨x, hx⟩ : ∃ x, s.extract a k = x := ⟨_, rfl⟩
            have Hx := Lib.hid (show P.mk (((P.sl s).take k).drop a) = x by rw [← hx, P.extract_mk])
            have H3 := Lib.hid h3
            clear h3 hb1 hb2 h32 hcu
            go_wp2_with (at_builtin; go_must (refine wp_appS w wr rfl _ _ rfl w.heap.size (.slice ad n cap) n (pre.map P.mk) x rfl ho rfl hbl (by omega) hbl.size ?_); intro g2 cap2 w2 hown2 hbel2)
            go_roundw
            case rel =>
              refine ⟨k + 1, k + 1, n + 1, pre ++ [((P.sl s).take k).drop a], some ⟨g2, 0, none⟩, cap2, rfl, by go_num, by go_num, by omega, by omega, by omega, fun _ => ?_, fun h => by omega, ?_, hbel2⟩
              · rw [(P.cur_nil (by omega)).2 (Nat.le_refl _), ← H3.out]; simp
              · rw [List.map_append, List.map_cons, List.map_nil, Hx.out]; exact hown2
            case measure => simp [intOf]; omega
        · have hc : ¬ bt s k = 32 := fun h => h32 (P.byte_eq (by rw [← hb2, h]; rfl))
          have hcb : (bt s k == 32) = false := by simp [hc]
          rw [if_neg h32, ← P.take_snoc hb1 hak] at h3
          have H3 := Lib.hid h3
          have Hc := Lib.hid hc
          clear h3 hb1 hb2 h32 hc
          go_wp2_with (fail)
          go_roundw
          case rel => exact ⟨k + 1, a, n, pre, ad, cap, rfl, rfl, by go_num, by omega, by omega, by omega, fun _ => H3.out, fun h => by omega, ho, hbl⟩
          case measure => simp [intOf]; omega
      · obtain rfl : k = s.size := by omega
        have hd : (P.sl s).drop s.size = [] := List.drop_of_length_le (by rw [P.sl_len]; exact Nat.le_refl _)
        rw [hd, P.go_nil] at h3
        by_cases hcu : s.size ≤ a
        · obtain rfl : a = s.size := by omega
          rw [(P.cur_nil (Nat.le_refl _)).2 (Nat.le_refl _), if_pos rfl, List.append_nil] at h3
          have H3 := Lib.hid h3
          clear h3
          go_wp2_with (fail)
          go_roundw
          case rel => exact ⟨s.size + 1, s.size + 1, n, pre, ad, cap, rfl, by go_num, by go_num, by omega, by omega, by omega, fun h => by omega, fun _ => H3.out, ho, hbl⟩
          case measure => simp [intOf]
        · have hakI : (a : Int) < (s.size : Int) := by omega
          have hakI' : (a : Int) ≤ (s.size : Int) := by omega
          rw [if_neg (fun h => hcu ((P.cur_nil (Nat.le_refl _)).1 h))] at h3
          obtain ⟨x, hx⟩ : ∃ x, s.extract a s.size = x := ⟨_, rfl⟩
          have Hx := Lib.hid (show P.mk (((P.sl s).take s.size).drop a) = x by rw [← hx, P.extract_mk])
          have H3 := Lib.hid h3
          clear h3 hcu
          go_wp2_with (at_builtin; go_must (refine wp_appS w wr rfl _ _ rfl w.heap.size (.slice ad n cap) n (pre.map P.mk) x rfl ho rfl hbl (by omega) hbl.size ?_); intro g2 cap2 w2 hown2 hbel2)
          go_roundw
          case rel =>
            refine ⟨s.size + 1, s.size + 1, n + 1, pre ++ [((P.sl s).take s.size).drop a], some ⟨g2, 0, none⟩, cap2, rfl, by go_num, by go_num, by omega, by omega, by omega, fun h => by omega, fun _ => H3.out, ?_, hbel2⟩
            rw [List.map_append, List.map_cons, List.map_nil, Hx.out]; exact hown2
          case measure => simp [intOf]
    · have hN : n = (P.words s).length := by
        have := ho.1
        rw [h2 (by omega)] at this
        simpa using this.symm
      have H2 := Lib.hid (h2 (by omega))
      have hleI : ¬ (k : Int) ≤ (s.size : Int) := by omega
      clear h1 h2
      go_wp2_with (fail)
      go_ret
      refine ⟨_, rfl, ?_, hbl⟩
      rw [H2.out, List.map_map] at ho
      rw [← hN]
      exact ho
end Go.Proofs.YtfiicnajiefiaaaDoor
