/- the laws' small case; WordsLines', WordsKeys' and WordsSplits' walks. -/
import Derived.Test.YtfiicnajiefiaaaDoorR
namespace Go.Proofs.YtfiicnajiefiaaaDoor
open Go.RowKit Go.PlainAid
set_option linter.unusedVariables false
set_option linter.unusedSimpArgs false

def BoolPost (w : World) (e : Ending) (w' : World) : Prop := e = .returned (.bool true) ∧ Below w.heap.size w w'
theorem sh1 : lineT ⟨#[103, 101, 116, 32, 97, 13, 10, 98]⟩ = ⟨#[103, 101, 116, 32, 97]⟩ ∧ lineN ⟨#[103, 101, 116, 32, 97, 13, 10, 98]⟩ = 7 := by decide +kernel
theorem sh2 : P.words ⟨#[32, 32, 97, 32, 32, 98, 9, 99]⟩ = [[97], [98, 9, 99]] := by decide +kernel
theorem sh3 : keyB ⟨#[107]⟩ = true ∧ keyB ⟨#[]⟩ = false := by decide +kernel
theorem sh4 : P.mk [98, 9, 99] = ⟨#[98, 9, 99]⟩ := by decide +kernel

theorem line_at' {s t : ByteArray} {n : Int} {w w0 : World} (hs : s.size ≤ maxLen) (ht : lineT s = t) (hn : lineN s = n) (hb : Below w0.heap.size w0 w) :
    Calls Tryd.prog 12 #[.string s] w fun e w' => e = .returned (.tuple #[.string t, .int .i64 n]) ∧ Below w0.heap.size w0 w' := by
  subst ht hn
  refine (line_any s w hs).mono ?_
  rintro e w' ⟨rfl, n, rfl⟩
  exact ⟨rfl, below_drewN hb n⟩
theorem refLine_at' {s t : ByteArray} {n : Int} {w w0 : World} (hs : s.size ≤ maxLen) (ht : lineT s = t) (hn : lineN s = n) (hb : Below w0.heap.size w0 w) :
    Calls Tryd.prog 13 #[.string s] w fun e w' => e = .returned (.tuple #[.string t, .int .i64 n]) ∧ Below w0.heap.size w0 w' := by
  subst ht hn
  refine (refLine_any s w hs).mono ?_
  rintro e w' ⟨rfl, n, rfl⟩
  exact ⟨rfl, below_drewN hb n⟩
theorem split_at' {s : ByteArray} {l : List P.L} {w w0 : World} (hs : s.size ≤ 4000000) (hl : P.words s = l) (hb : Below w0.heap.size w0 w) :
    Calls Tryd.prog 14 #[.string s] w fun e w' => ∃ v, e = .returned v ∧ w'.ownsRow w.heap.size 9 1 v l.length ((l.map P.mk).map .string) ∧ Below w0.heap.size w0 w' ∧ Below w.heap.size w w' := by
  subst hl
  refine (split_any s w hs).mono ?_
  rintro e w' ⟨v, rfl, h1, h2⟩
  exact ⟨v, rfl, by rw [List.map_map]; exact h1, hb.trans (h2.mono hb.size), h2⟩
theorem refSplit_at' {s : ByteArray} {l : List P.L} {w w0 : World} (hs : s.size ≤ 4000000) (hl : P.words s = l) (hb : Below w0.heap.size w0 w) :
    Calls Tryd.prog 16 #[.string s] w fun e w' => ∃ v, e = .returned v ∧ w'.ownsRow w.heap.size 9 1 v l.length ((l.map P.mk).map .string) ∧ Below w0.heap.size w0 w' ∧ Below w.heap.size w w' := by
  subst hl
  refine (refSplit_any s w hs).mono ?_
  rintro e w' ⟨v, rfl, h1, h2⟩
  exact ⟨v, rfl, by rw [List.map_map]; exact h1, hb.trans (h2.mono hb.size), h2⟩
theorem key_at {s : ByteArray} {b : Bool} (hs : s.size ≤ maxLen) (hk : keyB s = b) (w : World) : Calls Tryd.prog 17 #[.string s] w fun e w' => e = .returned (.bool b) ∧ w = w' := by subst hk; exact key_any s w hs
theorem refKey_at {s : ByteArray} {b : Bool} (hs : s.size ≤ maxLen) (hk : keyB s = b) (w : World) : Calls Tryd.prog 18 #[.string s] w fun e w' => e = .returned (.bool b) ∧ w = w' := by subst hk; exact refKey_any s w hs

theorem own_below {w w' : World} {base n : Nat} {e : TypeId} {size : Nat} {v : Value} {xs : List Value} (h : w.ownsRow base e size v n xs) (hb : Below w.heap.size w w') : w'.ownsRow base e size v n xs :=
  h.kept (row := none) ⟨hb.os, hb.tape, hb.output, hb.size, fun i hi _ => hb.block i hi⟩ (by cases hv : v.ownBlock <;> simp)

set_option maxRecDepth 100000 in
theorem shown_any (w : World) : Calls Tryd.prog 11 #[] w (BoolPost w) := by
  go_enter Tryd.func11, Tryd.ntmps11
  go_wp2_with (fail)
  refine (line_at' (w0 := w) (by decide) sh1.1 sh1.2 (Below.refl _ _)).mono ?_
  rintro e w1 ⟨rfl, hb1⟩
  go_wp2_with (fail)
  refine (split_at' (w0 := w) (by decide) sh2 hb1).mono ?_
  rintro e w2 ⟨v, rfl, ho, hb2, _⟩
  obtain ⟨g, cap, rfl⟩ := ownsRow_succ ho
  have h1 := ho.cellAt 1 (by simp)
  simp only [List.map_cons, List.map_nil, sh4] at h1
  have h1' : w2.cell? ⟨g, 1, none⟩ = some (.string ⟨#[98, 9, 99]⟩) := h1
  clear h1
  go_wp2_with (fail)
  refine (key_at (by decide) sh3.1 _).mono ?_
  rintro e w' ⟨rfl, rfl⟩
  go_wp2_with (fail)
  refine (key_at (by decide) sh3.2 _).mono ?_
  rintro e w' ⟨rfl, rfl⟩
  go_wp2_with (fail)
  go_ret
  exact ⟨rfl, hb2⟩

set_option maxRecDepth 100000 in
theorem lines_walk (s : ByteArray) (w : World) (hs : s.size ≤ maxLen) : Calls Tryd.prog 3 #[.string s] w (BoolPost w) := by
  obtain ⟨t, ht⟩ : ∃ t, lineT s = t := ⟨_, rfl⟩
  obtain ⟨n, hn⟩ : ∃ n, lineN s = n := ⟨_, rfl⟩
  have H := Lib.hid (And.intro ht hn)
  have htt := str_beq t
  clear ht hn
  go_enter Tryd.func3, Tryd.ntmps3
  go_wp2_with (fail)
  refine (shown_any _).mono ?_
  rintro e w1 ⟨rfl, hb1⟩
  go_wp2_with (fail)
  refine (line_at' (w0 := w) hs H.out.1 H.out.2 hb1).mono ?_
  rintro e w2 ⟨rfl, hb2⟩
  go_wp2_with (fail)
  refine (refLine_at' (w0 := w) hs H.out.1 H.out.2 hb2).mono ?_
  rintro e w3 ⟨rfl, hb3⟩
  go_wp2_with (fail)
  go_ret
  exact ⟨rfl, hb3⟩

set_option maxRecDepth 100000 in
theorem keys_walk (s : ByteArray) (w : World) (hs : s.size ≤ maxLen) : Calls Tryd.prog 5 #[.string s] w (BoolPost w) := by
  obtain ⟨b, hb⟩ : ∃ b, keyB s = b := ⟨_, rfl⟩
  cases b
  all_goals
    have H := Lib.hid hb
    clear hb
    go_enter Tryd.func5, Tryd.ntmps5
    go_wp2_with (fail)
    refine (shown_any _).mono ?_
    rintro e w1 ⟨rfl, hb1⟩
    go_wp2_with (fail)
    refine (key_at hs H.out _).mono ?_
    rintro e w' ⟨rfl, rfl⟩
    go_wp2_with (fail)
    refine (refKey_at hs H.out _).mono ?_
    rintro e w' ⟨rfl, rfl⟩
    go_wp2_with (fail)
    go_ret
    exact ⟨rfl, hb1⟩

set_option maxRecDepth 100000 in
set_option maxHeartbeats 1000000 in
theorem splits_walk (s : ByteArray) (w : World) (hs : s.size ≤ 2000000) : Calls Tryd.prog 4 #[.string s] w (BoolPost w) := by
  obtain ⟨l, hl⟩ : ∃ l, P.words s = l := ⟨_, rfl⟩
  have hll : l.length ≤ 2000001 := by
    rw [← hl]
    have := P.words_len s [] (P.sl s)
    rw [P.sl_len] at this
    unfold P.words; omega
  obtain ⟨N, hN⟩ : ∃ N, l.length = N := ⟨_, rfl⟩
  have Hl := Lib.hid hl
  have HN := Lib.hid hN
  have hs4 : s.size ≤ 4000000 := by omega
  rw [hN] at hll
  clear hl hN
  go_enter Tryd.func4, Tryd.ntmps4
  go_wp2_with (fail)
  refine (shown_any _).mono ?_
  rintro e w1 ⟨rfl, hb1⟩
  go_wp2_with (fail)
  go_loopw [4] (fun i wr => ∃ k : Nat, k ≤ 2 ∧ i = .int .i64 k ∧ Below w.heap.size w wr) (fun i _ => 2 - (intOf i).toNat)
  case atStart => exact ⟨0, by omega, rfl, hb1⟩
  case round =>
    obtain ⟨k, hk, rfl, hbr⟩ := hrel
    by_cases hlt : k < 2
    · go_wp2_with (fail)
      refine (split_at' (w0 := w) hs4 Hl.out hbr).mono ?_
      rintro e w2 ⟨v, rfl, ho2, hb2, hb2'⟩
      rw [HN.out] at ho2
      go_wp2_with (fail)
      refine (refSplit_at' (w0 := w) hs4 Hl.out hb2).mono ?_
      rintro e w3 ⟨v3, rfl, ho3, hb3, hb3'⟩
      have r1 := (rs_own ho2).below hb3'
      have r2 := rs_own ho3
      have ho4 := own_below ho2 hb3'
      have hbw : w.heap.size ≤ wr.heap.size := hbr.size
      obtain ⟨B, hB⟩ : ∃ B, wr.heap.size = B := ⟨_, rfl⟩
      rw [hB] at ho4 hbw
      clear hB
      clear ho2 ho3 hb3' hb2' hb2
      go_wp2_with (fail)
      refine (same_true r1 r2 (by rw [List.length_map, HN.out]; omega)).mono ?_
      rintro e w4 ⟨rfl, n, rfl⟩
      have ho5 : (w3.drewN n).ownsRow B 9 1 v N ((l.map P.mk).map .string) := ho4.kept (row := none) ⟨rfl, rfl, rfl, Nat.le_refl _, fun _ _ _ => rfl⟩ (by cases hv : v.ownBlock <;> simp)
      have hb5 := below_drewN hb3 n
      generalize w3.drewN n = w5 at *
      clear r1 r2 ho4 hb3
      rcases ho5.2 with ⟨rfl, h0⟩ | ⟨g, cap, cur, rfl, _⟩
      · clear ho5
        subst h0
        go_wp2_with (fail)
        go_loopw [7] (fun i wi => i = .int .i64 0 ∧ Below w.heap.size w wi) (fun _ _ => 0)
        case atStart => exact ⟨rfl, hb5⟩
        case round =>
          obtain ⟨rfl, hbi⟩ := hrel
          go_wp2_with (fail)
          go_roundw
          case rel => exact ⟨k + 1, by omega, by go_num, hbi⟩
          case measure => simp [intOf]; omega
      · go_wp2_with (fail)
        go_loopw [7] (fun i wi => ∃ (j : Nat) (ys : List Value), j ≤ N ∧ i = .int .i64 j ∧ wi.ownsRow B 9 1 (.slice (some ⟨g, 0, none⟩) N cap) N ys ∧ Below w.heap.size w wi) (fun i _ => N - (intOf i).toNat)
        case atStart => exact ⟨0, _, by omega, rfl, ho5, hb5⟩
        case round =>
          obtain ⟨j, ys, hj, rfl, ho, hbi⟩ := hrel
          clear ho5 hb5
          by_cases hjl : j < N
          · have hjI : (j : Int) < (N : Int) := by omega
            have hyl : ys.length = N := by have := ho.1; omega
            obtain ⟨y, hc⟩ : ∃ y, wr.cell? ⟨g, j, none⟩ = some y := ⟨ys[j]'(by omega), by rw [ho.cellAt j (by omega)]; simp⟩
            have hf := ho.frozenAt j
            have hst := (ho.stored j (.string ⟨#[63]⟩)).1
            have hgb := (ho.lt g rfl).1
            clear hyl
            go_wp2_with (fail)
            go_roundw
            case rel => exact ⟨j + 1, _, by omega, by go_num, hst, hbi.setCell (by simp; omega) _⟩
            case measure => simp [intOf]; omega
          · go_wp2_with (fail)
            go_roundw
            case rel => exact ⟨k + 1, by omega, by go_num, hbi⟩
            case measure => simp [intOf]; omega
    · go_wp2_with (fail)
      go_ret
      exact ⟨rfl, hbr⟩
end Go.Proofs.YtfiicnajiefiaaaDoor
