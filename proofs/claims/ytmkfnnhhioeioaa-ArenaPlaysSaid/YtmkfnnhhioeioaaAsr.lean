/- the document's arena in memory: its reading functions, grants and returns. -/
import Derived.Test.YtmkfnnhhioeioaaAry
namespace Go.Proofs.Ytmkfnnhhioeioaa
open Go.RowKit Go.PlainAid
set_option linter.unusedVariables false
set_option linter.unusedSimpArgs false

/-- what a page reads as -/
def pg (F : List Int) (S i : Nat) : List Int := (F.drop (i * S)).take S
/-- the document's arena at block g: its owners in block k (and -1: free), its pages' slices in block r -/
structure Rf (w : World) (g k ck r cr np S : Nat) (ow : List Int) (vs : List Value) (F : List Int) : Prop where
  box : w.heap[g]? = some (.cells #[.int .i64 S, .slice (some ⟨k, 0, none⟩) np ck, .slice (some ⟨r, 0, none⟩) np cr] 51 (0, 0))
  own : w.ownsRow 0 3 1 (.slice (some ⟨k, 0, none⟩) np ck) np (ow.map (fun x => .int .i64 (x - 1)))
  row : w.ownsRow 0 36 1 (.slice (some ⟨r, 0, none⟩) np cr) np vs
  pgs : ∀ i : Nat, i < np → (vs[i]? = some (Value.slice none 0 0) ∧ pg F S i = List.replicate S 0) ∨
    ∃ b : Nat, vs[i]? = some (Value.slice (some ⟨b, 0, none⟩) S S) ∧ w.ownsRow 0 5 1 (Value.slice (some ⟨b, 0, none⟩) S S) S ((pg F S i).map (.int .u8))
  dis : ∀ i j b : Nat, vs[i]? = some (Value.slice (some ⟨b, 0, none⟩) S S) → vs[j]? = some (Value.slice (some ⟨b, 0, none⟩) S S) → i = j
  len : ow.length = np
  fln : F.length = np * S
  np1 : 1 ≤ np ∧ np ≤ 1024
  rng : AP.Rng ow
  siz : 512 ≤ S ∧ S ≤ 65536
  byt : ∀ x ∈ F, 0 ≤ x ∧ x ≤ 255

theorem own_cells {w : World} {base g n cap : Nat} {e : TypeId} {xs : List Value} (h : w.ownsRow base e 1 (.slice (some ⟨g, 0, none⟩) n cap) n xs) : ∃ cur, w.heap[g]? = some (.cells cur e (0, 0)) := by
  rcases h.2 with ⟨h1, _⟩ | ⟨g', cap', cur, h1, _, h3, _⟩
  · cases h1
  · simp only [Value.slice.injEq, Option.some.injEq, Addr.mk.injEq, and_true, true_and] at h1
    obtain ⟨rfl, rfl⟩ := h1
    exact ⟨cur, h3⟩
section
variable {w : World} {g k ck r cr np S : Nat} {ow F : List Int} {vs : List Value}
theorem Rf.c0 (h : Rf w g k ck r cr np S ow vs F) : w.cell? ⟨g, 0, none⟩ = some (.int .i64 S) := cell_of h.box 0
theorem Rf.c1 (h : Rf w g k ck r cr np S ow vs F) : w.cell? ⟨g, 1, none⟩ = some (.slice (some ⟨k, 0, none⟩) np ck) := cell_of h.box 1
theorem Rf.c2 (h : Rf w g k ck r cr np S ow vs F) : w.cell? ⟨g, 2, none⟩ = some (.slice (some ⟨r, 0, none⟩) np cr) := cell_of h.box 2
theorem Rf.co (h : Rf w g k ck r cr np S ow vs F) (i : Nat) (hi : i < np) : w.cell? ⟨k, i, none⟩ = some (.int .i64 (ow[i]?.getD 0 - 1)) := by
  have hl := h.len
  rw [h.own.cellAt i (by omega)]
  simp [show i < ow.length by omega]
theorem Rf.kr (h : Rf w g k ck r cr np S ow vs F) : g ≠ k ∧ g ≠ r ∧ k ≠ r ∧ (∀ i b : Nat, vs[i]? = some (Value.slice (some ⟨b, 0, none⟩) S S) → i < np → b ≠ g ∧ b ≠ k ∧ b ≠ r) := by
  obtain ⟨c1, h1⟩ := own_cells h.own
  obtain ⟨c2, h2⟩ := own_cells h.row
  have h0 := h.box
  have hs := h.siz
  refine ⟨?_, ?_, ?_, fun i b hb hi => ?_⟩
  · rintro rfl; rw [h1] at h0; simp at h0
  · rintro rfl; rw [h2] at h0; simp at h0
  · rintro rfl; rw [h1] at h2; simp at h2
  · rcases h.pgs i hi with ⟨h3, _⟩ | ⟨b', h3, h4⟩
    · rw [hb] at h3; simp at h3
    · rw [hb] at h3
      simp only [Option.some.injEq, Value.slice.injEq, Addr.mk.injEq, and_true] at h3
      subst h3
      obtain ⟨c3, h5⟩ := own_cells h4
      refine ⟨?_, ?_, ?_⟩
      · rintro rfl; rw [h5] at h0; simp at h0
      · rintro rfl; rw [h5] at h1; simp at h1
      · rintro rfl; rw [h5] at h2; simp at h2
end

/-- an owner written -/
theorem Rf.setOw {w : World} {g k ck r cr np S : Nat} {ow F : List Int} {vs : List Value} (h : Rf w g k ck r cr np S ow vs F) (i : Nat) (c : Int) (h0 : 0 ≤ c) (h1 : c ≤ 63) :
    Rf (w.setCell ⟨k, i, none⟩ (.int .i64 (c - 1))) g k ck r cr np S (ow.set i c) vs F ∧ w.grownBy (w.setCell ⟨k, i, none⟩ (.int .i64 (c - 1))) (some k) := by
  have hst := h.own.stored i (.int .i64 (c - 1))
  have hg : w.grownBy (w.setCell ⟨k, i, none⟩ (.int .i64 (c - 1))) (some k) := only_setCell (World.grownBy.refl w _) i _
  obtain ⟨n1, n2, n3, n4⟩ := h.kr
  have em : (ow.map (fun x => Value.int .i64 (x - 1))).set i (.int .i64 (c - 1)) = (ow.set i c).map (fun x => .int .i64 (x - 1)) := by rw [List.map_set]
  rw [em] at hst
  refine ⟨⟨?_, hst.1, h.row.kept hg (Or.inr (by simp [Value.ownBlock]; omega)), fun j hj => ?_, h.dis, by simp [h.len], h.fln, h.np1, h.rng.set h0 h1, h.siz, h.byt⟩, hg⟩
  · rw [Below.heap_setCell _ _ _ _ n1]; exact h.box
  · rcases h.pgs j hj with h2 | ⟨b, h2, h3⟩
    · exact .inl h2
    · exact .inr ⟨b, h2, h3.kept hg (Or.inr (by have := (n4 j b h2 hj).2.1; simp [Value.ownBlock]; omega))⟩

set_option maxHeartbeats 400000 in
theorem rOwner_any {w : World} {g k ck r cr np S : Nat} {ow F : List Int} {vs : List Value} (h : Rf w g k ck r cr np S ow vs F) (p : Int) :
    Calls Try.prog 30 #[.pointer (some ⟨g, 0, none⟩), .int .i64 p] w fun e w' => e = .returned (.int .i64 (AP.owner ow p)) ∧ w = w' := by
  have c1 := h.c1
  have hnp := h.np1
  have hlen := Lib.hid h.len
  by_cases h0 : p < 0
  · have Hr := Lib.hid (AP.owner_out (ow := ow) (.inl h0))
    clear h
    go_enter Try.func30, Try.ntmps30
    go_wp2
    go_ret
    exact ⟨ret_int Hr.out.symm, rfl⟩
  · by_cases h1 : p < np
    · obtain ⟨q, rfl⟩ := Int.eq_ofNat_of_zero_le (show 0 ≤ p by omega)
      have hq : q < np := by omega
      have hc := h.co q hq
      have Hr := Lib.hid (AP.owner_at (ow := ow) (k := q) (by rw [hlen.out]; exact hq))
      clear h
      go_enter Try.func30, Try.ntmps30
      go_wp2
      go_ret
      exact ⟨ret_int Hr.out.symm, rfl⟩
    · have Hr := Lib.hid (AP.owner_out (ow := ow) (p := p) (.inr (by rw [hlen.out]; omega)))
      clear h
      go_enter Try.func30, Try.ntmps30
      go_wp2
      go_ret
      exact ⟨ret_int Hr.out.symm, rfl⟩

set_option maxHeartbeats 400000 in
theorem rGranted_any {w : World} {g k ck r cr np S : Nat} {ow F : List Int} {vs : List Value} (h : Rf w g k ck r cr np S ow vs F) :
    Calls Try.prog 19 #[.pointer (some ⟨g, 0, none⟩)] w fun e w' => e = .returned (.int .i64 (AP.granted ow)) ∧ w = w' := by
  have c1 := h.c1
  have hnp := h.np1
  have hlen := Lib.hid h.len
  have hrng := Lib.hid h.rng
  have hco := Lib.hid h.co
  clear h
  go_enter Try.func19, Try.ntmps19
  go_wp2
  go_loop [3, 4] (fun n i => ∃ j : Nat, j ≤ np ∧ i = .int .i64 j ∧ n = .int .i64 (AP.granted (ow.take j))) (fun _ i => np - (intOf i).toNat)
  case atStart => exact ⟨0, Nat.zero_le _, rfl, rfl⟩
  case round =>
    obtain ⟨j, hj, rfl, rfl⟩ := hrel
    have hg := AP.granted_le (ow.take j)
    have hgl : ((ow.take j).length : Int) ≤ 1024 := by have := hlen.out; simp; omega
    by_cases hlt : j < np
    · have hc := hco.out j hlt
      have hb := hrng.out.at j
      have Hs := Lib.hid (AP.granted_snoc ow j (by rw [hlen.out]; exact hlt) hrng.out)
      by_cases h1 : 1 ≤ ow[j]?.getD 0
      · have Hm := Lib.hid (show min (ow[j]?.getD 0) 1 = 1 by omega)
        have h0 : (0 : Int) ≤ ow[j]?.getD 0 - 1 := by omega
        go_wp2
        go_round
        case rel => exact ⟨j + 1, by omega, by go_num, by rw [Hs.out, Hm.out]⟩
        case measure => simp [intOf]; omega
      · have Hm := Lib.hid (show min (ow[j]?.getD 0) 1 = 0 by omega)
        have h0 : ¬ (0 : Int) ≤ ow[j]?.getD 0 - 1 := by omega
        go_wp2
        go_round
        case rel => exact ⟨j + 1, by omega, by go_num, by rw [Hs.out, Hm.out, Int.add_zero]⟩
        case measure => simp [intOf]; omega
    · have Ht := Lib.hid (show ow.take j = ow from List.take_of_length_le (by rw [hlen.out]; omega))
      go_wp2
      go_ret
      exact ⟨ret_int (by rw [Ht.out]), rfl⟩

def rGrPost (ow F : List Int) (vs : List Value) (g k ck r cr np S : Nat) (o : Int) (w : World) (e : Ending) (w' : World) : Prop :=
  e = .returned (.tuple #[.int .i64 (AP.grP ow o), .int .i64 (AP.grE ow o)]) ∧ Rf w' g k ck r cr np S (AP.grO ow o) vs F ∧ w.grownBy w' (some k)

set_option maxHeartbeats 1000000 in
theorem rGrant_any {w : World} {g k ck r cr np S : Nat} {ow F : List Int} {vs : List Value} (h : Rf w g k ck r cr np S ow vs F) (o : Int) :
    Calls Try.prog 24 #[.pointer (some ⟨g, 0, none⟩), .int .i64 o] w (rGrPost ow F vs g k ck r cr np S o w) := by
  have c1 := h.c1
  have hnp := h.np1
  have H := Lib.hid h
  clear h
  by_cases ho : 0 ≤ o ∧ o < 63
  · have hok : AP.okO o = true := by unfold AP.okO; exact decide_eq_true ho
    have Hok := Lib.hid hok
    clear hok
    obtain ⟨ho1, ho2⟩ := ho
    go_enter Try.func24, Try.ntmps24
    go_wp2_with (fail)
    go_loop [6] (fun i => ∃ j : Nat, j ≤ np ∧ i = .int .i64 j ∧ ∀ q, q < j → ow[q]?.getD 0 ≠ 0) (fun i => np - (intOf i).toNat)
    case atStart => exact ⟨0, Nat.zero_le _, rfl, fun q hq => by omega⟩
    case round =>
      obtain ⟨j, hj, rfl, hall⟩ := hrel
      have Hall := Lib.hid hall
      clear hall
      have hlen := Lib.hid H.out.len
      by_cases hlt : j < np
      · have hc := H.out.co j hlt
        have hb := H.out.rng.at j
        by_cases h0 : ow[j]?.getD 0 = 0
        · have hl := AP.least_at Hall.out (by rw [hlen.out]; exact hlt) h0
          have hf := H.out.own.frozenAt j
          have hneg : ow[j]?.getD 0 - 1 < 0 := by omega
          have Hp : Hid (rGrPost ow F vs g k ck r cr np S o w (.returned (.tuple #[.int .i64 j, .int .i64 0])) (w.setCell ⟨k, j, none⟩ (.int .i64 o))) := by
            obtain ⟨s1, s2⟩ := H.out.setOw j (o + 1) (by omega) (by omega)
            rw [show o + 1 - 1 = o by omega] at s1 s2
            have hl2 : AP.least ow < ow.length := by rw [hl, hlen.out]; exact hlt
            refine Lib.hid ⟨?_, ?_, s2⟩
            · unfold AP.grP AP.grE; rw [if_pos ⟨Hok.out, hl2⟩, if_pos Hok.out, if_pos hl2, hl]
            · unfold AP.grO; rw [if_pos ⟨Hok.out, hl2⟩, hl]; exact s1
          clear hl h0
          go_wp2_with (fail)
          go_ret2
          exact Hp.out
        · have hneg : ¬ ow[j]?.getD 0 - 1 < 0 := by omega
          have H0 := Lib.hid h0
          clear h0
          go_wp2_with (fail)
          go_round
          case rel =>
            refine ⟨j + 1, by omega, by go_num, fun q hq => ?_⟩
            rcases Nat.lt_succ_iff_lt_or_eq.1 hq with h | rfl
            · exact Hall.out q h
            · exact H0.out
          case measure => simp [intOf]; omega
      · have hl := AP.least_none (ow := ow) (fun q hq => Hall.out q (by rw [hlen.out] at hq; omega))
        have Hp : Hid (rGrPost ow F vs g k ck r cr np S o w (.returned (.tuple #[.int .i64 (-1), .int .i64 5])) w) := by
          refine Lib.hid ⟨?_, ?_, World.grownBy.refl w _⟩
          · unfold AP.grP AP.grE; rw [if_neg (fun h => by omega), if_pos Hok.out, if_neg (by omega)]
          · unfold AP.grO; rw [if_neg (fun h => by omega)]; exact H.out
        clear hl
        go_wp2_with (fail)
        go_ret2
        exact Hp.out
  · have hok : ¬ AP.okO o = true := by unfold AP.okO; simpa using ho
    have Hp : Hid (rGrPost ow F vs g k ck r cr np S o w (.returned (.tuple #[.int .i64 (-1), .int .i64 1])) w) := by
      refine Lib.hid ⟨?_, ?_, World.grownBy.refl w _⟩
      · unfold AP.grP AP.grE; rw [if_neg (fun h => hok h.1), if_neg hok]
      · unfold AP.grO; rw [if_neg (fun h => hok h.1)]; exact H.out
    clear hok
    by_cases h0 : o < 0
    · clear ho
      go_enter Try.func24, Try.ntmps24
      go_wp2_with (fail)
      go_ret2
      exact Hp.out
    · have h1 : 63 ≤ o := by omega
      clear ho
      go_enter Try.func24, Try.ntmps24
      go_wp2_with (fail)
      go_ret2
      exact Hp.out

def rRePost (ow F : List Int) (vs : List Value) (g k ck r cr np S : Nat) (p : Int) (w : World) (e : Ending) (w' : World) : Prop :=
  e = .returned (.int .i64 (AP.reE ow p)) ∧ Rf w' g k ck r cr np S (AP.reO ow p) vs F ∧ w.grownBy w' (some k)

set_option maxHeartbeats 400000 in
theorem rReturn_any {w : World} {g k ck r cr np S : Nat} {ow F : List Int} {vs : List Value} (h : Rf w g k ck r cr np S ow vs F) (p : Int) :
    Calls Try.prog 25 #[.pointer (some ⟨g, 0, none⟩), .int .i64 p] w (rRePost ow F vs g k ck r cr np S p w) := by
  have c1 := h.c1
  have hnp := h.np1
  have H := Lib.hid h
  have Ho := Lib.hid (rOwner_any h p)
  clear h
  rcases owner_facts H.out.rng H.out.len p with h0 | ⟨q, hq, rfl, h0⟩
  · have Hp : Hid (rRePost ow F vs g k ck r cr np S p w (.returned (.int .i64 7)) w) := by
      refine Lib.hid ⟨?_, ?_, World.grownBy.refl w _⟩
      · unfold AP.reE; rw [if_pos h0]
      · unfold AP.reO; rw [if_pos h0]; exact H.out
    go_enter Try.func25, Try.ntmps25
    go_wp2_with (fail)
    refine Ho.out.mono ?_
    rintro e w' ⟨rfl, rfl⟩
    go_wp2_with (fail)
    go_ret
    exact Hp.out
  · have hf := (H.out.own.frozenAt q)
    have hc := H.out.co q hq
    have Hp : Hid (rRePost ow F vs g k ck r cr np S q w (.returned (.int .i64 0)) (w.setCell ⟨k, q, none⟩ (.int .i64 (-1)))) := by
      obtain ⟨s1, s2⟩ := H.out.setOw q 0 (by omega) (by omega)
      refine Lib.hid ⟨?_, ?_, s2⟩
      · unfold AP.reE; rw [if_neg (by omega)]
      · unfold AP.reO; rw [if_neg (by omega)]; exact s1
    go_enter Try.func25, Try.ntmps25
    go_wp2_with (fail)
    refine Ho.out.mono ?_
    rintro e w' ⟨rfl, rfl⟩
    go_wp2_with (fail)
    go_ret
    exact Hp.out

def rPaPost (ow F : List Int) (vs : List Value) (g k ck r cr np S : Nat) (p o : Int) (w : World) (e : Ending) (w' : World) : Prop :=
  e = .returned (.int .i64 (AP.paE ow p o)) ∧ Rf w' g k ck r cr np S (AP.paO ow p o) vs F ∧ w.grownBy w' (some k)

set_option maxHeartbeats 400000 in
theorem rPass_any {w : World} {g k ck r cr np S : Nat} {ow F : List Int} {vs : List Value} (h : Rf w g k ck r cr np S ow vs F) (p o : Int) :
    Calls Try.prog 28 #[.pointer (some ⟨g, 0, none⟩), .int .i64 p, .int .i64 o] w (rPaPost ow F vs g k ck r cr np S p o w) := by
  have c1 := h.c1
  have hnp := h.np1
  have H := Lib.hid h
  have Ho := Lib.hid (rOwner_any h p)
  clear h
  rcases owner_facts H.out.rng H.out.len p with h0 | ⟨q, hq, rfl, h0⟩
  · have Hp : Hid (rPaPost ow F vs g k ck r cr np S p o w (.returned (.int .i64 7)) w) := by
      refine Lib.hid ⟨?_, ?_, World.grownBy.refl w _⟩
      · unfold AP.paE; rw [if_pos h0]
      · unfold AP.paO; rw [if_pos h0]; exact H.out
    go_enter Try.func28, Try.ntmps28
    go_wp2_with (fail)
    refine Ho.out.mono ?_
    rintro e w' ⟨rfl, rfl⟩
    go_wp2_with (fail)
    go_ret
    exact Hp.out
  · by_cases ho : 0 ≤ o ∧ o < 63
    · have hok : AP.okO o = true := by unfold AP.okO; exact decide_eq_true ho
      obtain ⟨ho1, ho2⟩ := ho
      have hf := (H.out.own.frozenAt q)
      have hc := H.out.co q hq
      have Hp : Hid (rPaPost ow F vs g k ck r cr np S q o w (.returned (.int .i64 0)) (w.setCell ⟨k, q, none⟩ (.int .i64 o))) := by
        obtain ⟨s1, s2⟩ := H.out.setOw q (o + 1) (by omega) (by omega)
        rw [show o + 1 - 1 = o by omega] at s1 s2
        refine Lib.hid ⟨?_, ?_, s2⟩
        · unfold AP.paE; rw [if_neg (by omega), if_pos hok]
        · unfold AP.paO; rw [if_neg (by omega), if_pos hok]; exact s1
      clear hok
      go_enter Try.func28, Try.ntmps28
      go_wp2_with (fail)
      refine Ho.out.mono ?_
      rintro e w' ⟨rfl, rfl⟩
      go_wp2_with (fail)
      go_ret
      exact Hp.out
    · have hok : ¬ AP.okO o = true := by unfold AP.okO; simpa using ho
      have Hp : Hid (rPaPost ow F vs g k ck r cr np S q o w (.returned (.int .i64 1)) w) := by
        refine Lib.hid ⟨?_, ?_, World.grownBy.refl w _⟩
        · unfold AP.paE; rw [if_neg (by omega), if_neg hok]
        · unfold AP.paO; rw [if_neg (by omega), if_neg hok]; exact H.out
      clear hok
      by_cases h1 : o < 0
      · clear ho
        go_enter Try.func28, Try.ntmps28
        go_wp2_with (fail)
        refine Ho.out.mono ?_
        rintro e w' ⟨rfl, rfl⟩
        go_wp2_with (fail)
        go_ret
        exact Hp.out
      · have h2 : 63 ≤ o := by omega
        clear ho
        go_enter Try.func28, Try.ntmps28
        go_wp2_with (fail)
        refine Ho.out.mono ?_
        rintro e w' ⟨rfl, rfl⟩
        go_wp2_with (fail)
        go_ret
        exact Hp.out
end Go.Proofs.Ytmkfnnhhioeioaa
