/- the laws' small case; ArenaFull's walk. -/
import Derived.Test.YtmkfnnhhioeioaaArp
import Derived.Test.YtmkfnnhhioeioaaAfl
namespace Go.Proofs.Ytmkfnnhhioeioaa
open Go.RowKit Go.PlainAid
set_option linter.unusedVariables false
set_option linter.unusedSimpArgs false

theorem own_below {w w' : World} {base n : Nat} {e : TypeId} {size : Nat} {v : Value} {xs : List Value} (h : w.ownsRow base e size v n xs) (hb : Below w.heap.size w w') : w'.ownsRow base e size v n xs :=
  h.kept (row := none) ⟨hb.os, hb.tape, hb.output, hb.size, fun i hi _ => hb.block i hi⟩ (by cases hv : v.ownBlock <;> simp)
theorem Ar.below {w w' : World} {g k np : Nat} {size : Int} {bv : Value} {ow bs : List Int} (h : Ar w g k np size bv ow bs) (hb : Below w.heap.size w w') : Ar w' g k np size bv ow bs :=
  ⟨(hb.block g (Array.getElem?_eq_some_iff.1 h.box).1).trans h.box, own_below h.own hb, own_below h.byt hb, h.len, h.np1, h.rng, h.siz⟩
theorem below_row {B : Nat} {a w w' : World} {k : Nat} (h : Below B a w) (hg : w.grownBy w' (some k)) (hB : B ≤ a.heap.size) (hk : B ≤ k) : Below B a w' :=
  h.grown hg (Nat.le_trans hB h.size) (fun j e => by cases e; exact hk)

def BoolPost (w : World) (e : Ending) (w' : World) : Prop := e = .returned (.bool true) ∧ Below w.heap.size w w'

theorem grant_at {w : World} {g k np : Nat} {size : Int} {bv : Value} {ow bs : List Int} (h : Ar w g k np size bv ow bs) (o : Int) {p e : Int} {ow' : List Int} (hx : AP.grP ow o = p ∧ AP.grE ow o = e ∧ AP.grO ow o = ow') :
    Calls Try.prog 10 #[.pointer (some ⟨g, 0, none⟩), .int .i64 o] w fun E w' => E = .returned (.tuple #[.int .i64 p, .int .i64 e]) ∧ Ar w' g k np size bv ow' bs ∧ w.grownBy w' (some k) := by
  obtain ⟨rfl, rfl, rfl⟩ := hx
  exact grant_any h o
theorem return_at {w : World} {g k np : Nat} {size : Int} {bv : Value} {ow bs : List Int} (h : Ar w g k np size bv ow bs) (o : Int) {e : Int} {ow' : List Int} (hx : AP.reE ow o = e ∧ AP.reO ow o = ow') :
    Calls Try.prog 9 #[.pointer (some ⟨g, 0, none⟩), .int .i64 o] w fun E w' => E = .returned (.int .i64 e) ∧ Ar w' g k np size bv ow' bs ∧ w.grownBy w' (some k) := by
  obtain ⟨rfl, rfl⟩ := hx
  exact return_any h o

set_option maxHeartbeats 1000000 in
theorem shown_any (w : World) : Calls Try.prog 7 #[] w (BoolPost w) := by
  go_enter Try.func7, Try.ntmps7
  go_wp2_with (fail)
  refine (new_yes 2 512 _ (by decide)).mono ?_
  rintro e w1 (⟨h, _⟩ | ⟨_, g, k, rfl, hA, hg, hk, hb1⟩)
  · exact absurd h (by decide)
  have hA1 : Ar w1 g k 2 512 (.slice none 0 0) [0, 0] [] := hA
  clear hA
  go_wp2_with (fail)
  refine (grant_at hA1 5 (p := 0) (e := 0) (ow' := [6, 0]) (by decide)).mono ?_
  rintro e w2 ⟨rfl, hA2, hg2⟩
  have hb2 := below_row hb1 hg2 (Nat.le_refl _) hk
  go_wp2_with (fail)
  refine (grant_at hA2 5 (p := 1) (e := 0) (ow' := [6, 6]) (by decide)).mono ?_
  rintro e w3 ⟨rfl, hA3, hg3⟩
  have hb3 := below_row hb2 hg3 (Nat.le_refl _) hk
  go_wp2_with (fail)
  refine (grant_at hA3 5 (p := -1) (e := 5) (ow' := [6, 6]) (by decide)).mono ?_
  rintro e w4 ⟨rfl, hA4, hg4⟩
  have hb4 := below_row hb3 hg4 (Nat.le_refl _) hk
  go_wp2_with (fail)
  refine (return_at hA4 0 (e := 0) (ow' := [0, 6]) (by decide)).mono ?_
  rintro e w5 ⟨rfl, hA5, hg5⟩
  have hb5 := below_row hb4 hg5 (Nat.le_refl _) hk
  go_wp2_with (fail)
  refine (grant_at hA5 7 (p := 0) (e := 0) (ow' := [8, 6]) (by decide)).mono ?_
  rintro e w6 ⟨rfl, hA6, hg6⟩
  have hb6 := below_row hb5 hg6 (Nat.le_refl _) hk
  go_wp2_with (fail)
  refine (pages_any hA6 5).mono ?_
  rintro e w7 ⟨v, rfl, hv, hb7⟩
  have hA7 := hA6.below hb7
  have hb67 := hb6.trans (hb7.mono hb6.size)
  rw [show AP.pages [8, 6] 5 = [1] by decide] at hv
  rcases hv.2 with ⟨rfl, h0⟩ | ⟨q, cap, cur, rfl, _⟩
  · simp at h0
  have hc0 : w7.cell? ⟨q, 0, none⟩ = some (.int .i64 1) := own_int (r := [1]) hv 0 (by decide)
  clear hv hb1 hb2 hb3 hb4 hb5 hb6 hb7 hA1 hA2 hA3 hA4 hA5 hA6 hg2 hg3 hg4 hg5 hg6
  go_wp2_with (go_at_call 20; refine (page_any hA7).mono ?_; rintro e w' ⟨rfl, rfl⟩)
  go_ret
  exact ⟨rfl, hb67⟩

/-- a raw number brought to be 0 or more, and below m: as the walk spells it -/
theorem modpos (b m : Int) (hm : 0 < m) : ∃ u, 0 ≤ u ∧ u < m ∧ (b < 0 → (b + 1).tmod m = -u) ∧ (¬ b < 0 → b % m = u) := by
  by_cases h : b < 0
  · have e : (b + 1).tmod m = -((-(b + 1)) % m) := by
      have h1 := Int.neg_tmod (a := -(b + 1)) (b := m)
      rw [Int.neg_neg] at h1
      rw [h1, Int.tmod_eq_emod_of_nonneg (by omega)]
    exact ⟨_, Int.emod_nonneg _ (by omega), Int.emod_lt_of_pos _ hm, fun _ => e, fun hn => absurd h hn⟩
  · exact ⟨_, Int.emod_nonneg _ (by omega), Int.emod_lt_of_pos _ hm, fun hn => absurd hn h, fun _ => rfl⟩
theorem bd_i64 {n : Int} (h : (Lit.int .i64 n).wf = true) : -9223372036854775808 ≤ n ∧ n ≤ 9223372036854775807 := by
  simpa [Lit.wf, IntKind.min, IntKind.max, IntKind.signed, IntKind.bits] using h
end Go.Proofs.Ytmkfnnhhioeioaa
