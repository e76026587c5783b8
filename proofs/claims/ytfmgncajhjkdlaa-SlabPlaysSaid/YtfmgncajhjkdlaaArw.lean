/- an arena in memory: grants and returns. -/
import Derived.Test.YtfmgncajhjkdlaaArm
import Derived.Deep.LoopGhost
namespace Go.Proofs.Ytfmgncajhjkdlaa
open Go.RowKit Go.PlainAid
set_option linter.unusedVariables false
set_option linter.unusedSimpArgs false

theorem only_setCell {a w : World} {g : Nat} (h : a.grownBy w (some g)) (i : Nat) (u : Value) : a.grownBy (w.setCell ⟨g, i, none⟩ u) (some g) :=
  ⟨h.os, h.tape, h.output, by simpa [World.setCell] using h.size, fun j hj hne => (Below.heap_setCell w ⟨g, i, none⟩ u j (by rintro rfl; exact hne rfl)).trans (h.block j hj hne)⟩

/-- an owner written -/
theorem Ar.setOw {w : World} {g k np : Nat} {size : Int} {bv : Value} {ow bs : List Int} (h : Ar w g k np size bv ow bs) (i : Nat) (c : Int) (h0 : 0 ≤ c) (h1 : c ≤ 63) :
    Ar (w.setCell ⟨k, i, none⟩ (.int .i64 c)) g k np size bv (ow.set i c) bs ∧ w.grownBy (w.setCell ⟨k, i, none⟩ (.int .i64 c)) (some k) := by
  have hst := h.own.stored i (.int .i64 c)
  rw [← List.map_set] at hst
  have hg : w.grownBy (w.setCell ⟨k, i, none⟩ (.int .i64 c)) (some k) := only_setCell (World.grownBy.refl w _) i _
  obtain ⟨k', cap', cur, e, _, hk, _⟩ : ∃ g' cap cur, (Value.slice (some ⟨k, 0, none⟩) np np) = .slice (some ⟨g', 0, none⟩) np cap ∧ (0 : Nat) ≤ g' ∧ w.heap[g']? = some (.cells cur 3 (0, 0)) ∧ True := by
    rcases h.own.2 with ⟨h1, _⟩ | ⟨g', cap, cur, h1, h2, h3, _⟩
    · cases h1
    · exact ⟨g', cap, cur, h1, h2, h3, trivial⟩
  simp only [Value.slice.injEq, Option.some.injEq, Addr.mk.injEq, and_true, true_and] at e
  obtain ⟨rfl, rfl⟩ := e
  have hgk : g ≠ k := by
    rintro rfl
    rw [h.box] at hk
    simp at hk
  refine ⟨⟨?_, hst.1, h.byt.kept hg ?_, by simp [h.len], h.np1, h.rng.set h0 h1, h.siz⟩, hg⟩
  · rw [Below.heap_setCell _ _ _ _ hgk]; exact h.box
  · rcases h.byt.2 with ⟨rfl, _⟩ | ⟨b, cap, cur', rfl, _, hb, _⟩
    · exact .inl rfl
    · right
      intro e
      simp [Value.ownBlock] at e
      subst e
      rw [hk] at hb
      simp at hb

theorem idx_facts {ow : List Int} {np : Nat} (hlen : ow.length = np) : (AP.idx ow = -1 ∧ ¬ AP.least ow < ow.length) ∨ (∃ q : Nat, q < np ∧ AP.idx ow = (q : Int) ∧ AP.least ow = q ∧ AP.least ow < ow.length) := by
  unfold AP.idx
  by_cases h : AP.least ow < ow.length
  · right; exact ⟨_, by omega, by rw [if_pos h], rfl, h⟩
  · left; exact ⟨by rw [if_neg h], h⟩

def GrPost (ow bs : List Int) (g k np : Nat) (size : Int) (bv : Value) (o : Int) (w : World) (e : Ending) (w' : World) : Prop :=
  e = .returned (.tuple #[.int .i64 (AP.grP ow o), .int .i64 (AP.grE ow o)]) ∧ Ar w' g k np size bv (AP.grO ow o) bs ∧ w.grownBy w' (some k)

set_option maxHeartbeats 400000 in
theorem grant_any {w : World} {g k np : Nat} {size : Int} {bv : Value} {ow bs : List Int} (h : Ar w g k np size bv ow bs) (o : Int) :
    Calls Try.prog 29 #[.pointer (some ⟨g, 0, none⟩), .int .i64 o] w (GrPost ow bs g k np size bv o w) := by
  have c2 := h.c2
  have hnp := h.np1
  have H := Lib.hid h
  have Hi := Lib.hid (index_any h)
  clear h
  by_cases ho : 0 ≤ o ∧ o < 63
  · have hok : AP.okO o = true := by unfold AP.okO; exact decide_eq_true ho
    have Hok := Lib.hid hok
    clear hok
    obtain ⟨ho1, ho2⟩ := ho
    rcases idx_facts (ow := ow) H.out.len with ⟨hi, hl⟩ | ⟨q, hq, hi, hl1, hl2⟩
    · have Hp : Hid (GrPost ow bs g k np size bv o w (.returned (.tuple #[.int .i64 (-1), .int .i64 5])) w) := by
        refine Lib.hid ⟨?_, ?_, World.grownBy.refl w _⟩
        · unfold AP.grP AP.grE; rw [if_neg (fun h => hl h.2), if_pos Hok.out, if_neg hl]
        · unfold AP.grO; rw [if_neg (fun h => hl h.2)]; exact H.out
      have HI := Lib.hid hi
      clear hi hl
      go_enter Try.func29, Try.ntmps29
      go_wp2_with (fail)
      refine Hi.out.mono ?_
      rintro e w' ⟨rfl, rfl⟩
      rw [HI.out]
      go_wp2_with (fail)
      go_ret2
      exact Hp.out
    · have hf := (H.out.own.frozenAt q)
      have hc := H.out.co q hq
      have Hp : Hid (GrPost ow bs g k np size bv o w (.returned (.tuple #[.int .i64 q, .int .i64 0])) (w.setCell ⟨k, q, none⟩ (.int .i64 (o + 1)))) := by
        obtain ⟨s1, s2⟩ := H.out.setOw q (o + 1) (by omega) (by omega)
        refine Lib.hid ⟨?_, ?_, s2⟩
        · unfold AP.grP AP.grE; rw [if_pos ⟨Hok.out, hl2⟩, if_pos Hok.out, if_pos hl2, hl1]
        · unfold AP.grO; rw [if_pos ⟨Hok.out, hl2⟩, hl1]; exact s1
      have HI := Lib.hid hi
      clear hi hl1 hl2
      go_enter Try.func29, Try.ntmps29
      go_wp2_with (fail)
      refine Hi.out.mono ?_
      rintro e w' ⟨rfl, rfl⟩
      rw [HI.out]
      go_wp2_with (fail)
      go_ret2
      exact Hp.out
  · have hok : ¬ AP.okO o = true := by unfold AP.okO; simpa using ho
    have Hp : Hid (GrPost ow bs g k np size bv o w (.returned (.tuple #[.int .i64 (-1), .int .i64 1])) w) := by
      refine Lib.hid ⟨?_, ?_, World.grownBy.refl w _⟩
      · unfold AP.grP AP.grE; rw [if_neg (fun h => hok h.1), if_neg hok]
      · unfold AP.grO; rw [if_neg (fun h => hok h.1)]; exact H.out
    clear hok
    by_cases h0 : o < 0
    · clear ho
      go_enter Try.func29, Try.ntmps29
      go_wp2_with (fail)
      go_ret2
      exact Hp.out
    · have h1 : 63 ≤ o := by omega
      clear ho
      go_enter Try.func29, Try.ntmps29
      go_wp2_with (fail)
      go_ret2
      exact Hp.out

theorem owner_facts {ow : List Int} {np : Nat} (hr : AP.Rng ow) (hlen : ow.length = np) (p : Int) : (AP.owner ow p < 0) ∨ (∃ q : Nat, q < np ∧ p = (q : Int) ∧ 0 ≤ AP.owner ow p) := by
  by_cases h : AP.owner ow p < 0
  · exact .inl h
  · right
    by_cases hp : 0 ≤ p ∧ p < ow.length
    · exact ⟨p.toNat, by omega, by omega, by omega⟩
    · exfalso; unfold AP.owner at h; rw [if_neg hp] at h; omega

def PaPost (ow bs : List Int) (g k np : Nat) (size : Int) (bv : Value) (p o : Int) (w : World) (e : Ending) (w' : World) : Prop :=
  e = .returned (.int .i64 (AP.paE ow p o)) ∧ Ar w' g k np size bv (AP.paO ow p o) bs ∧ w.grownBy w' (some k)

set_option maxHeartbeats 400000 in
theorem pass_any {w : World} {g k np : Nat} {size : Int} {bv : Value} {ow bs : List Int} (h : Ar w g k np size bv ow bs) (p o : Int) :
    Calls Try.prog 35 #[.pointer (some ⟨g, 0, none⟩), .int .i64 p, .int .i64 o] w (PaPost ow bs g k np size bv p o w) := by
  have c2 := h.c2
  have hnp := h.np1
  have H := Lib.hid h
  have Ho := Lib.hid (owner_any h p)
  clear h
  rcases owner_facts H.out.rng H.out.len p with h0 | ⟨q, hq, rfl, h0⟩
  · have Hp : Hid (PaPost ow bs g k np size bv p o w (.returned (.int .i64 7)) w) := by
      refine Lib.hid ⟨?_, ?_, World.grownBy.refl w _⟩
      · unfold AP.paE; rw [if_pos h0]
      · unfold AP.paO; rw [if_pos h0]; exact H.out
    go_enter Try.func35, Try.ntmps35
    go_wp2_with (fail)
    refine Ho.out.mono ?_
    rintro e w' ⟨rfl, rfl⟩
    go_wp2_with (fail)
    go_ret
    exact Hp.out
  · by_cases ho : 0 ≤ o ∧ o < 63
    · have hok : AP.okO o = true := by unfold AP.okO; exact decide_eq_true ho
      obtain ⟨ho1, ho2⟩ := ho
      have hf := (H.out.own.frozenAt q)
      have hc := H.out.co q hq
      have Hp : Hid (PaPost ow bs g k np size bv q o w (.returned (.int .i64 0)) (w.setCell ⟨k, q, none⟩ (.int .i64 (o + 1)))) := by
        obtain ⟨s1, s2⟩ := H.out.setOw q (o + 1) (by omega) (by omega)
        refine Lib.hid ⟨?_, ?_, s2⟩
        · unfold AP.paE; rw [if_neg (by omega), if_pos hok]
        · unfold AP.paO; rw [if_neg (by omega), if_pos hok]; exact s1
      clear hok
      go_enter Try.func35, Try.ntmps35
      go_wp2_with (fail)
      refine Ho.out.mono ?_
      rintro e w' ⟨rfl, rfl⟩
      go_wp2_with (fail)
      go_ret
      exact Hp.out
    · have hok : ¬ AP.okO o = true := by unfold AP.okO; simpa using ho
      have Hp : Hid (PaPost ow bs g k np size bv q o w (.returned (.int .i64 1)) w) := by
        refine Lib.hid ⟨?_, ?_, World.grownBy.refl w _⟩
        · unfold AP.paE; rw [if_neg (by omega), if_neg hok]
        · unfold AP.paO; rw [if_neg (by omega), if_neg hok]; exact H.out
      clear hok
      by_cases h1 : o < 0
      · clear ho
        go_enter Try.func35, Try.ntmps35
        go_wp2_with (fail)
        refine Ho.out.mono ?_
        rintro e w' ⟨rfl, rfl⟩
        go_wp2_with (fail)
        go_ret
        exact Hp.out
      · have h2 : 63 ≤ o := by omega
        clear ho
        go_enter Try.func35, Try.ntmps35
        go_wp2_with (fail)
        refine Ho.out.mono ?_
        rintro e w' ⟨rfl, rfl⟩
        go_wp2_with (fail)
        go_ret
        exact Hp.out
end Go.Proofs.Ytfmgncajhjkdlaa
