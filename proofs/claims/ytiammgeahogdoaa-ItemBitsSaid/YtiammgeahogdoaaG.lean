/- the laws' small case; ItemSizes' and ItemWrites' walks. -/
import Derived.Test.YtiammgeahogdoaaF
namespace Go.Proofs.Ytiammgeahogdoaa
open Go.RowKit Go.PlainAid
set_option linter.unusedVariables false
set_option linter.unusedSimpArgs false

theorem rb_own {w : World} {base n : Nat} {v : Value} {l : List Int} (h : w.ownsRow base 5 1 v n (l.map (.int .u8))) : RB w v l := by
  have hn : l.length = n := by simpa using h.1
  subst hn
  rcases h.2 with ⟨rfl, h0⟩ | ⟨g, cap, cur, rfl, _⟩
  · exact ⟨none, 0, by rw [h0], fun hne => absurd (List.eq_nil_of_length_eq_zero h0) hne⟩
  · refine ⟨some ⟨g, 0, none⟩, cap, rfl, fun _ => ⟨g, 0, rfl, fun i hi => ?_⟩⟩
    have := h.cellAt i (by omega)
    rw [Nat.zero_add, this]
    simp [hi]

theorem RB.below {w w' : World} {v : Value} {l : List Int} (h : RB w v l) (hb : Below w.heap.size w w') : RB w' v l := by
  obtain ⟨a, cap, rfl, hc⟩ := h
  refine ⟨a, cap, rfl, fun hne => ?_⟩
  obtain ⟨b, o, rfl, hcc⟩ := hc hne
  refine ⟨b, o, rfl, fun i hi => ?_⟩
  have h1 := hcc i hi
  rw [hb.cell (World.block_lt_of_cell? _ _ h1)]
  exact h1

/-- string(b) -/
theorem conv_rb {w : World} {v : Value} {l : List Int} (h : RB w v l) : (convert 27 9 v).run Try.prog w = .ok (.string (strOfNums l)) w := by
  obtain ⟨a, cap, rfl, hc⟩ := h
  by_cases hl : l = []
  · subst hl
    cases a with
    | none => exact run_convert_bytes_nil w 27 5 Try.underlying27 Try.underlying5 0 cap 9 Try.underlying9
    | some a =>
      rw [run_convert_bytes_string w 27 9 5 _ _ _ Try.underlying27 Try.underlying5 Try.underlying9]
      have := run_bytesToString (P := Try.prog) w a 0 cap [] (by simp [loadCells, loadCellsFrom])
      exact this
  · obtain ⟨b, o, rfl, hcc⟩ := hc hl
    exact run_convert_bytes_arg w 27 5 Try.underlying27 Try.underlying5 b o _ cap l rfl (fun i hi => by rw [hcc i hi]; simp) 9 Try.underlying9

theorem own_at {w : World} {base g N cap : Nat} {l : List Int} (h : w.ownsRow base 5 1 (.slice (some ⟨g, 0, none⟩) N cap) N (l.map (.int .u8))) (i : Nat) (hi : i < N) :
    w.cell? ⟨g, i, none⟩ = some (.int .u8 (l[i]?.getD 0)) := by
  have hl : l.length = N := by simpa using h.1
  rw [h.cellAt i (by omega)]
  simp [show i < l.length by omega]

def bk : ByteArray := ⟨#[107]⟩
def bv : ByteArray := ⟨#[118]⟩
theorem shown_right : rightB ⟨#[107]⟩ ⟨#[118]⟩ 0 0 = true := by decide +kernel
theorem shown_enc : encL ⟨#[107]⟩ ⟨#[118]⟩ 5 0 258 0 false false = [1,0,0,0, 5,0,0,0, 1,0,0,0,0,0,0,0, 0,0,0,0,0,0,0,0, 2,1,0,0,0,0,0,0, 0,0,0,0,0,0,0,0, 107, 118] := by decide +kernel

theorem shown_encR : encR ⟨#[107]⟩ ⟨#[118]⟩ 5 0 258 0 false false = [1,0,0,0, 5,0,0,0, 1,0,0,0,0,0,0,0, 0,0,0,0,0,0,0,0, 2,1,0,0,0,0,0,0, 0,0,0,0,0,0,0,0, 107, 118] := by
  unfold encR; rw [if_pos shown_right]; exact shown_enc

set_option maxHeartbeats 1000000 in
theorem shown_any (w : World) : Calls Try.prog 9 #[] w fun e w' => e = .returned (.bool true) ∧ Below w.heap.size w w' := by
  have hsz : szI 1 1 = 42 := by decide
  have Hsz := Lib.hid hsz
  clear hsz
  go_enter Try.func9, Try.ntmps9
  go_wp2_with (fail)
  refine (encode_any2 ⟨#[107]⟩ ⟨#[118]⟩ 5 0 258 0 false false _ (by decide) (by decide) (by decide) (by decide) (by decide) (by decide) (by decide) (by decide)).mono ?_
  rintro e w1 ⟨v, rfl, ho, hb⟩
  rw [if_pos shown_right]
  rw [shown_encR] at ho
  rcases ho.2 with ⟨rfl, h0⟩ | ⟨g, cap, cur, rfl, _⟩
  · simp at h0
  · have c0 := own_at ho 0 (by decide)
    have c4 := own_at ho 4 (by decide)
    have c24 := own_at ho 24 (by decide)
    have c25 := own_at ho 25 (by decide)
    have c41 := own_at ho 41 (by decide)
    simp at c0 c4 c24 c25 c41
    go_wp2_with (fail)
    refine (size_any _ _ _).mono ?_
    rintro e w' ⟨rfl, rfl⟩
    rw [Hsz.out]
    go_wp2_with (fail)
    go_ret
    exact ⟨rfl, hb⟩

set_option maxHeartbeats 1000000 in
theorem sizes_walk (k v : Int) (w : World) : Calls Try.prog 5 #[.int .i64 k, .int .i64 v] w fun e w' => e = .returned (.bool true) ∧ Below w.heap.size w w' := by
  by_cases h1 : k < 0 <;> by_cases h2 : v < 0 <;> by_cases h3 : 65536 < k <;> by_cases h4 : 65536 < v
  all_goals first
    | (exfalso; omega)
    | (have Hs := Lib.hid (show szI k v = -1 by unfold szI; exact if_pos (by omega))
       go_enter Try.func5, Try.ntmps5
       go_wp2_with (fail)
       refine (shown_any _).mono ?_
       rintro e w1 ⟨rfl, hb1⟩
       go_wp2_with (fail)
       refine (size_any _ _ _).mono ?_
       rintro e w' ⟨rfl, rfl⟩
       rw [Hs.out]
       go_wp2_with (fail)
       go_ret
       exact ⟨rfl, hb1⟩)
    | (have Hs := Lib.hid (show szI k v = 40 + k + v by unfold szI; exact if_neg (by omega))
       go_enter Try.func5, Try.ntmps5
       go_wp2_with (fail)
       refine (shown_any _).mono ?_
       rintro e w1 ⟨rfl, hb1⟩
       go_wp2_with (fail)
       refine (size_any _ _ _).mono ?_
       rintro e w' ⟨rfl, rfl⟩
       rw [Hs.out]
       go_wp2_with (fail)
       go_ret
       exact ⟨rfl, hb1⟩)
end Go.Proofs.Ytiammgeahogdoaa
