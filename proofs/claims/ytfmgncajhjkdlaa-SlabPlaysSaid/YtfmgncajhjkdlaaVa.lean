/- several texts in one: Qsr, Qpg, Qph, Qpq, Qpw, Qpr, Qpn. -/
import Derived.Test.YtfmgncajhjkdlaaAry
import Derived.Deep.RegionHeld3
/- the document's arena in memory: its reading functions, grants and returns. -/
namespace Go.Proofs.Ytfmgncajhjkdlaa.R6
open Go.RowKit Go.PlainAid
set_option linter.unusedVariables false
set_option linter.unusedSimpArgs false

/-- what a page reads as -/
def pg (F : List Int) (S i : Nat) : List Int := (F.drop (i * S)).take S
/-- the document's arena at block g: its owners in block k (and -1: free), its pages' slices in block r -/
structure Rf (w : World) (g k ck r cr np S : Nat) (ow : List Int) (vs : List Value) (F : List Int) : Prop where
  box : w.heap[g]? = some (.cells #[.int .i64 S, .slice (some ⟨k, 0, none⟩) np ck, .slice (some ⟨r, 0, none⟩) np cr] 82 (0, 0))
  own : w.ownsRow 0 3 1 (.slice (some ⟨k, 0, none⟩) np ck) np (ow.map (fun x => .int .i64 (x - 1)))
  row : w.ownsRow 0 46 1 (.slice (some ⟨r, 0, none⟩) np cr) np vs
  pgs : ∀ i : Nat, i < np → (vs[i]? = some (Value.slice none 0 0) ∧ pg F S i = List.replicate S 0) ∨
    ∃ b : Nat, vs[i]? = some (Value.slice (some ⟨b, 0, none⟩) S S) ∧ w.ownsRow 0 5 1 (Value.slice (some ⟨b, 0, none⟩) S S) S ((pg F S i).map (.int .u8))
  dis : ∀ i j b : Nat, vs[i]? = some (Value.slice (some ⟨b, 0, none⟩) S S) → vs[j]? = some (Value.slice (some ⟨b, 0, none⟩) S S) → i = j
  len : ow.length = np
  fln : F.length = np * S
  np1 : 1 ≤ np ∧ np ≤ 1024
  rng : AP.Rng ow
  siz : 512 ≤ S ∧ S ≤ 65536
  byt : ∀ x ∈ F, 0 ≤ x ∧ x ≤ 255

theorem own_cells {w : World} {base g n cap : Nat} {e : TypeId} {xs : List Value} (h : w.ownsRow base e 1 (.slice (some ⟨g, 0, none⟩) n cap) n xs) : ∃ cur, w.heap[g]? = some (.cells cur e (0, 0)) := by
  rcases h.2 with ⟨h1, _⟩ | ⟨g', cap', cur, h1, _, h3, _⟩
  · cases h1
  · simp only [Value.slice.injEq, Option.some.injEq, Addr.mk.injEq, and_true, true_and] at h1
    obtain ⟨rfl, rfl⟩ := h1
    exact ⟨cur, h3⟩
section
variable {w : World} {g k ck r cr np S : Nat} {ow F : List Int} {vs : List Value}
theorem Rf.c0 (h : Rf w g k ck r cr np S ow vs F) : w.cell? ⟨g, 0, none⟩ = some (.int .i64 S) := cell_of h.box 0
theorem Rf.c1 (h : Rf w g k ck r cr np S ow vs F) : w.cell? ⟨g, 1, none⟩ = some (.slice (some ⟨k, 0, none⟩) np ck) := cell_of h.box 1
theorem Rf.c2 (h : Rf w g k ck r cr np S ow vs F) : w.cell? ⟨g, 2, none⟩ = some (.slice (some ⟨r, 0, none⟩) np cr) := cell_of h.box 2
theorem Rf.co (h : Rf w g k ck r cr np S ow vs F) (i : Nat) (hi : i < np) : w.cell? ⟨k, i, none⟩ = some (.int .i64 (ow[i]?.getD 0 - 1)) := by
  have hl := h.len
  rw [h.own.cellAt i (by omega)]
  simp [show i < ow.length by omega]
theorem Rf.kr (h : Rf w g k ck r cr np S ow vs F) : g ≠ k ∧ g ≠ r ∧ k ≠ r ∧ (∀ i b : Nat, vs[i]? = some (Value.slice (some ⟨b, 0, none⟩) S S) → i < np → b ≠ g ∧ b ≠ k ∧ b ≠ r) := by
  obtain ⟨c1, h1⟩ := own_cells h.own
  obtain ⟨c2, h2⟩ := own_cells h.row
  have h0 := h.box
  have hs := h.siz
  refine ⟨?_, ?_, ?_, fun i b hb hi => ?_⟩
  · rintro rfl; rw [h1] at h0; simp at h0
  · rintro rfl; rw [h2] at h0; simp at h0
  · rintro rfl; rw [h1] at h2; simp at h2
  · rcases h.pgs i hi with ⟨h3, _⟩ | ⟨b', h3, h4⟩
    · rw [hb] at h3; simp at h3
    · rw [hb] at h3
      simp only [Option.some.injEq, Value.slice.injEq, Addr.mk.injEq, and_true] at h3
      subst h3
      obtain ⟨c3, h5⟩ := own_cells h4
      refine ⟨?_, ?_, ?_⟩
      · rintro rfl; rw [h5] at h0; simp at h0
      · rintro rfl; rw [h5] at h1; simp at h1
      · rintro rfl; rw [h5] at h2; simp at h2
end

/-- an owner written -/
theorem Rf.setOw {w : World} {g k ck r cr np S : Nat} {ow F : List Int} {vs : List Value} (h : Rf w g k ck r cr np S ow vs F) (i : Nat) (c : Int) (h0 : 0 ≤ c) (h1 : c ≤ 63) :
    Rf (w.setCell ⟨k, i, none⟩ (.int .i64 (c - 1))) g k ck r cr np S (ow.set i c) vs F ∧ w.grownBy (w.setCell ⟨k, i, none⟩ (.int .i64 (c - 1))) (some k) := by
  have hst := h.own.stored i (.int .i64 (c - 1))
  have hg : w.grownBy (w.setCell ⟨k, i, none⟩ (.int .i64 (c - 1))) (some k) := only_setCell (World.grownBy.refl w _) i _
  obtain ⟨n1, n2, n3, n4⟩ := h.kr
  have em : (ow.map (fun x => Value.int .i64 (x - 1))).set i (.int .i64 (c - 1)) = (ow.set i c).map (fun x => .int .i64 (x - 1)) := by rw [List.map_set]
  rw [em] at hst
  refine ⟨⟨?_, hst.1, h.row.kept hg (Or.inr (by simp [Value.ownBlock]; omega)), fun j hj => ?_, h.dis, by simp [h.len], h.fln, h.np1, h.rng.set h0 h1, h.siz, h.byt⟩, hg⟩
  · rw [Below.heap_setCell _ _ _ _ n1]; exact h.box
  · rcases h.pgs j hj with h2 | ⟨b, h2, h3⟩
    · exact .inl h2
    · exact .inr ⟨b, h2, h3.kept hg (Or.inr (by have := (n4 j b h2 hj).2.1; simp [Value.ownBlock]; omega))⟩

set_option maxHeartbeats 400000 in
theorem rOwner_any {w : World} {g k ck r cr np S : Nat} {ow F : List Int} {vs : List Value} (h : Rf w g k ck r cr np S ow vs F) (p : Int) :
    Calls Try.prog 65 #[.pointer (some ⟨g, 0, none⟩), .int .i64 p] w fun e w' => e = .returned (.int .i64 (AP.owner ow p)) ∧ w = w' := by
  have c1 := h.c1
  have hnp := h.np1
  have hlen := Lib.hid h.len
  by_cases h0 : p < 0
  · have Hr := Lib.hid (AP.owner_out (ow := ow) (.inl h0))
    clear h
    go_enter Try.func65, Try.ntmps65
    go_wp2
    go_ret
    exact ⟨ret_int Hr.out.symm, rfl⟩
  · by_cases h1 : p < np
    · obtain ⟨q, rfl⟩ := Int.eq_ofNat_of_zero_le (show 0 ≤ p by omega)
      have hq : q < np := by omega
      have hc := h.co q hq
      have Hr := Lib.hid (AP.owner_at (ow := ow) (k := q) (by rw [hlen.out]; exact hq))
      clear h
      go_enter Try.func65, Try.ntmps65
      go_wp2
      go_ret
      exact ⟨ret_int Hr.out.symm, rfl⟩
    · have Hr := Lib.hid (AP.owner_out (ow := ow) (p := p) (.inr (by rw [hlen.out]; omega)))
      clear h
      go_enter Try.func65, Try.ntmps65
      go_wp2
      go_ret
      exact ⟨ret_int Hr.out.symm, rfl⟩

set_option maxHeartbeats 400000 in
theorem rGranted_any {w : World} {g k ck r cr np S : Nat} {ow F : List Int} {vs : List Value} (h : Rf w g k ck r cr np S ow vs F) :
    Calls Try.prog 42 #[.pointer (some ⟨g, 0, none⟩)] w fun e w' => e = .returned (.int .i64 (AP.granted ow)) ∧ w = w' := by
  have c1 := h.c1
  have hnp := h.np1
  have hlen := Lib.hid h.len
  have hrng := Lib.hid h.rng
  have hco := Lib.hid h.co
  clear h
  go_enter Try.func42, Try.ntmps42
  go_wp2
  go_loop [3, 4] (fun n i => ∃ j : Nat, j ≤ np ∧ i = .int .i64 j ∧ n = .int .i64 (AP.granted (ow.take j))) (fun _ i => np - (intOf i).toNat)
  case atStart => exact ⟨0, Nat.zero_le _, rfl, rfl⟩
  case round =>
    obtain ⟨j, hj, rfl, rfl⟩ := hrel
    have hg := AP.granted_le (ow.take j)
    have hgl : ((ow.take j).length : Int) ≤ 1024 := by have := hlen.out; simp; omega
    by_cases hlt : j < np
    · have hc := hco.out j hlt
      have hb := hrng.out.at j
      have Hs := Lib.hid (AP.granted_snoc ow j (by rw [hlen.out]; exact hlt) hrng.out)
      by_cases h1 : 1 ≤ ow[j]?.getD 0
      · have Hm := Lib.hid (show min (ow[j]?.getD 0) 1 = 1 by omega)
        have h0 : (0 : Int) ≤ ow[j]?.getD 0 - 1 := by omega
        go_wp2
        go_round
        case rel => exact ⟨j + 1, by omega, by go_num, by rw [Hs.out, Hm.out]⟩
        case measure => simp [intOf]; omega
      · have Hm := Lib.hid (show min (ow[j]?.getD 0) 1 = 0 by omega)
        have h0 : ¬ (0 : Int) ≤ ow[j]?.getD 0 - 1 := by omega
        go_wp2
        go_round
        case rel => exact ⟨j + 1, by omega, by go_num, by rw [Hs.out, Hm.out, Int.add_zero]⟩
        case measure => simp [intOf]; omega
    · have Ht := Lib.hid (show ow.take j = ow from List.take_of_length_le (by rw [hlen.out]; omega))
      go_wp2
      go_ret
      exact ⟨ret_int (by rw [Ht.out]), rfl⟩

def rGrPost (ow F : List Int) (vs : List Value) (g k ck r cr np S : Nat) (o : Int) (w : World) (e : Ending) (w' : World) : Prop :=
  e = .returned (.tuple #[.int .i64 (AP.grP ow o), .int .i64 (AP.grE ow o)]) ∧ Rf w' g k ck r cr np S (AP.grO ow o) vs F ∧ w.grownBy w' (some k)

set_option maxHeartbeats 1000000 in
theorem rGrant_any {w : World} {g k ck r cr np S : Nat} {ow F : List Int} {vs : List Value} (h : Rf w g k ck r cr np S ow vs F) (o : Int) :
    Calls Try.prog 60 #[.pointer (some ⟨g, 0, none⟩), .int .i64 o] w (rGrPost ow F vs g k ck r cr np S o w) := by
  have c1 := h.c1
  have hnp := h.np1
  have H := Lib.hid h
  clear h
  by_cases ho : 0 ≤ o ∧ o < 63
  · have hok : AP.okO o = true := by unfold AP.okO; exact decide_eq_true ho
    have Hok := Lib.hid hok
    clear hok
    obtain ⟨ho1, ho2⟩ := ho
    go_enter Try.func60, Try.ntmps60
    go_wp2_with (fail)
    go_loop [6] (fun i => ∃ j : Nat, j ≤ np ∧ i = .int .i64 j ∧ ∀ q, q < j → ow[q]?.getD 0 ≠ 0) (fun i => np - (intOf i).toNat)
    case atStart => exact ⟨0, Nat.zero_le _, rfl, fun q hq => by omega⟩
    case round =>
      obtain ⟨j, hj, rfl, hall⟩ := hrel
      have Hall := Lib.hid hall
      clear hall
      have hlen := Lib.hid H.out.len
      by_cases hlt : j < np
      · have hc := H.out.co j hlt
        have hb := H.out.rng.at j
        by_cases h0 : ow[j]?.getD 0 = 0
        · have hl := AP.least_at Hall.out (by rw [hlen.out]; exact hlt) h0
          have hf := H.out.own.frozenAt j
          have hneg : ow[j]?.getD 0 - 1 < 0 := by omega
          have Hp : Hid (rGrPost ow F vs g k ck r cr np S o w (.returned (.tuple #[.int .i64 j, .int .i64 0])) (w.setCell ⟨k, j, none⟩ (.int .i64 o))) := by
            obtain ⟨s1, s2⟩ := H.out.setOw j (o + 1) (by omega) (by omega)
            rw [show o + 1 - 1 = o by omega] at s1 s2
            have hl2 : AP.least ow < ow.length := by rw [hl, hlen.out]; exact hlt
            refine Lib.hid ⟨?_, ?_, s2⟩
            · unfold AP.grP AP.grE; rw [if_pos ⟨Hok.out, hl2⟩, if_pos Hok.out, if_pos hl2, hl]
            · unfold AP.grO; rw [if_pos ⟨Hok.out, hl2⟩, hl]; exact s1
          clear hl h0
          go_wp2_with (fail)
          go_ret2
          exact Hp.out
        · have hneg : ¬ ow[j]?.getD 0 - 1 < 0 := by omega
          have H0 := Lib.hid h0
          clear h0
          go_wp2_with (fail)
          go_round
          case rel =>
            refine ⟨j + 1, by omega, by go_num, fun q hq => ?_⟩
            rcases Nat.lt_succ_iff_lt_or_eq.1 hq with h | rfl
            · exact Hall.out q h
            · exact H0.out
          case measure => simp [intOf]; omega
      · have hl := AP.least_none (ow := ow) (fun q hq => Hall.out q (by rw [hlen.out] at hq; omega))
        have Hp : Hid (rGrPost ow F vs g k ck r cr np S o w (.returned (.tuple #[.int .i64 (-1), .int .i64 5])) w) := by
          refine Lib.hid ⟨?_, ?_, World.grownBy.refl w _⟩
          · unfold AP.grP AP.grE; rw [if_neg (fun h => by omega), if_pos Hok.out, if_neg (by omega)]
          · unfold AP.grO; rw [if_neg (fun h => by omega)]; exact H.out
        clear hl
        go_wp2_with (fail)
        go_ret2
        exact Hp.out
  · have hok : ¬ AP.okO o = true := by unfold AP.okO; simpa using ho
    have Hp : Hid (rGrPost ow F vs g k ck r cr np S o w (.returned (.tuple #[.int .i64 (-1), .int .i64 1])) w) := by
      refine Lib.hid ⟨?_, ?_, World.grownBy.refl w _⟩
      · unfold AP.grP AP.grE; rw [if_neg (fun h => hok h.1), if_neg hok]
      · unfold AP.grO; rw [if_neg (fun h => hok h.1)]; exact H.out
    clear hok
    by_cases h0 : o < 0
    · clear ho
      go_enter Try.func60, Try.ntmps60
      go_wp2_with (fail)
      go_ret2
      exact Hp.out
    · have h1 : 63 ≤ o := by omega
      clear ho
      go_enter Try.func60, Try.ntmps60
      go_wp2_with (fail)
      go_ret2
      exact Hp.out

def rPaPost (ow F : List Int) (vs : List Value) (g k ck r cr np S : Nat) (p o : Int) (w : World) (e : Ending) (w' : World) : Prop :=
  e = .returned (.int .i64 (AP.paE ow p o)) ∧ Rf w' g k ck r cr np S (AP.paO ow p o) vs F ∧ w.grownBy w' (some k)

set_option maxHeartbeats 400000 in
theorem rPass_any {w : World} {g k ck r cr np S : Nat} {ow F : List Int} {vs : List Value} (h : Rf w g k ck r cr np S ow vs F) (p o : Int) :
    Calls Try.prog 66 #[.pointer (some ⟨g, 0, none⟩), .int .i64 p, .int .i64 o] w (rPaPost ow F vs g k ck r cr np S p o w) := by
  have c1 := h.c1
  have hnp := h.np1
  have H := Lib.hid h
  have Ho := Lib.hid (rOwner_any h p)
  clear h
  rcases owner_facts H.out.rng H.out.len p with h0 | ⟨q, hq, rfl, h0⟩
  · have Hp : Hid (rPaPost ow F vs g k ck r cr np S p o w (.returned (.int .i64 7)) w) := by
      refine Lib.hid ⟨?_, ?_, World.grownBy.refl w _⟩
      · unfold AP.paE; rw [if_pos h0]
      · unfold AP.paO; rw [if_pos h0]; exact H.out
    go_enter Try.func66, Try.ntmps66
    go_wp2_with (fail)
    refine Ho.out.mono ?_
    rintro e w' ⟨rfl, rfl⟩
    go_wp2_with (fail)
    go_ret
    exact Hp.out
  · by_cases ho : 0 ≤ o ∧ o < 63
    · have hok : AP.okO o = true := by unfold AP.okO; exact decide_eq_true ho
      obtain ⟨ho1, ho2⟩ := ho
      have hf := (H.out.own.frozenAt q)
      have hc := H.out.co q hq
      have Hp : Hid (rPaPost ow F vs g k ck r cr np S q o w (.returned (.int .i64 0)) (w.setCell ⟨k, q, none⟩ (.int .i64 o))) := by
        obtain ⟨s1, s2⟩ := H.out.setOw q (o + 1) (by omega) (by omega)
        rw [show o + 1 - 1 = o by omega] at s1 s2
        refine Lib.hid ⟨?_, ?_, s2⟩
        · unfold AP.paE; rw [if_neg (by omega), if_pos hok]
        · unfold AP.paO; rw [if_neg (by omega), if_pos hok]; exact s1
      clear hok
      go_enter Try.func66, Try.ntmps66
      go_wp2_with (fail)
      refine Ho.out.mono ?_
      rintro e w' ⟨rfl, rfl⟩
      go_wp2_with (fail)
      go_ret
      exact Hp.out
    · have hok : ¬ AP.okO o = true := by unfold AP.okO; simpa using ho
      have Hp : Hid (rPaPost ow F vs g k ck r cr np S q o w (.returned (.int .i64 1)) w) := by
        refine Lib.hid ⟨?_, ?_, World.grownBy.refl w _⟩
        · unfold AP.paE; rw [if_neg (by omega), if_neg hok]
        · unfold AP.paO; rw [if_neg (by omega), if_neg hok]; exact H.out
      clear hok
      by_cases h1 : o < 0
      · clear ho
        go_enter Try.func66, Try.ntmps66
        go_wp2_with (fail)
        refine Ho.out.mono ?_
        rintro e w' ⟨rfl, rfl⟩
        go_wp2_with (fail)
        go_ret
        exact Hp.out
      · have h2 : 63 ≤ o := by omega
        clear ho
        go_enter Try.func66, Try.ntmps66
        go_wp2_with (fail)
        refine Ho.out.mono ?_
        rintro e w' ⟨rfl, rfl⟩
        go_wp2_with (fail)
        go_ret
        exact Hp.out
end Go.Proofs.Ytfmgncajhjkdlaa.R6
/- the document's arena: its pages told, and one page's bytes. -/
namespace Go.Proofs.Ytfmgncajhjkdlaa.R6
open Go.RowKit Go.PlainAid
set_option linter.unusedVariables false
set_option linter.unusedSimpArgs false

theorem pages_neg {ow : List Int} {o : Int} (h : o < 0) : AP.pages ow o = [] := by
  unfold AP.pages
  rw [List.map_eq_nil_iff, List.filter_eq_nil_iff]
  intro i _
  simp
  omega

set_option maxHeartbeats 400000 in
theorem rPages_any {w : World} {g k ck r cr np S : Nat} {ow F : List Int} {vs : List Value} (h : Rf w g k ck r cr np S ow vs F) (o : Int) :
    Calls Try.prog 69 #[.pointer (some ⟨g, 0, none⟩), .int .i64 o] w (PgPost ow o w) := by
  have c1 := h.c1
  have hnp := h.np1
  have hgl : g < w.heap.size := (Array.getElem?_eq_some_iff.1 h.box).1
  have hkl : k < w.heap.size := (h.own.lt k rfl).2
  have hlen := Lib.hid h.len
  have hrng := Lib.hid h.rng
  have hco := Lib.hid h.co
  clear h
  by_cases hneg : o < 0
  · have He := Lib.hid (pages_neg (ow := ow) hneg)
    have h0 : ¬ (0 : Int) ≤ o := by omega
    clear hneg
    go_enter Try.func69, Try.ntmps69
    go_wp2
    go_loop [5, 6] (fun v i => v = .slice none 0 0 ∧ i = .int .i64 0) (fun _ i => 0)
    case atStart => exact ⟨rfl, rfl⟩
    case round =>
      obtain ⟨rfl, rfl⟩ := hrel
      have hd : decide ((0 : Int) ≤ o) = false := decide_eq_false (by omega)
      go_wp2
      go_ret
      exact ⟨_, rfl, by rw [He.out]; exact World.ownsRow_nil _ _ _ _, Below.refl _ _⟩
  have h0 : (0 : Int) ≤ o := by omega
  clear hneg
  go_enter Try.func69, Try.ntmps69
  go_wp2
  go_loopw [5, 6] (fun v i wr => ∃ (j n : Nat) (ad : Option Addr) (cap : Nat), j ≤ np ∧ i = .int .i64 j ∧ n = (pgs ow o j).length ∧ n ≤ j ∧ v = .slice ad n cap ∧ wr.ownsRow w.heap.size 3 1 (.slice ad n cap) n ((pgs ow o j).map (.int .i64)) ∧ Below w.heap.size w wr) (fun _ i _ => np - (intOf i).toNat)
  case atStart => exact ⟨0, 0, none, 0, Nat.zero_le _, rfl, rfl, by omega, rfl, World.ownsRow_nil _ _ _ _, Below.refl _ _⟩
  case round =>
    obtain ⟨j, n, ad, cap, hj, rfl, hn, hnj, rfl, hown, hbel⟩ := hrel
    have Hn := Lib.hid hn
    clear hn
    have hsz := hbel.size
    have c1' := (hbel.cell (p := ⟨g, 1, none⟩) hgl).trans c1
    by_cases hlt : j < np
    · have hc := (hbel.cell (p := ⟨k, j, none⟩) hkl).trans (hco.out j hlt)
      have hb := hrng.out.at j
      by_cases h1 : ow[j]?.getD 0 - 1 = o
      · have Hs := Lib.hid (pgs_yes (ow := ow) (o := o) (k := j) (by omega) h1)
        have h1' : (ow[j]?.getD 0 - 1 == o) = true := by simp [h1]
        clear h1
        go_wp2_with (at_builtin; go_must (refine wp_appI w wr rfl _ _ rfl w.heap.size (.slice ad n cap) n (pgs ow o j) (j : Int) rfl hown rfl hbel (by omega) hsz ?_); intro g2 cap2 w2 hown2 hbel2)
        go_roundw
        case rel => exact ⟨j + 1, n + 1, _, cap2, by omega, by go_num, by rw [Hs.out, List.length_append, ← Hn.out]; rfl, by omega, rfl, by rw [Hs.out]; exact hown2, hbel2⟩
        case measure => simp [intOf]; omega
      · have Hs := Lib.hid (pgs_no (ow := ow) (o := o) (k := j) (fun hh => h1 hh.2))
        have h1' : (ow[j]?.getD 0 - 1 == o) = false := by simp [h1]
        clear h1
        go_wp2
        go_roundw
        case rel => exact ⟨j + 1, n, ad, cap, by omega, by go_num, by rw [Hs.out]; exact Hn.out, by omega, rfl, by rw [Hs.out]; exact hown, hbel⟩
        case measure => simp [intOf]; omega
    · have hjn : j = np := by omega
      have He : Hid (AP.pages ow o = pgs ow o j) := Lib.hid (by unfold AP.pages pgs; rw [hlen.out, hjn])
      have Hjn := Lib.hid hjn
      clear hjn
      go_wp2
      go_ret
      exact ⟨_, rfl, by rw [He.out, ← Hn.out]; exact hown, hbel⟩

/-- the blocks of the document's arena -/
def rFoot (g k r S : Nat) (vs : List Value) (i : Nat) : Prop := i = g ∨ i = k ∨ i = r ∨ ∃ j : Nat, vs[j]? = some (Value.slice (some ⟨i, 0, none⟩) S S)

/-- the arena where no block of it has turned -/
theorem Rf.keep {w w' : World} {g k ck r cr np S : Nat} {ow F : List Int} {vs : List Value} {T : Nat → Prop} (h : Rf w g k ck r cr np S ow vs F) (ht : Tch T w w') (hd : ∀ i, T i → ¬ rFoot g k r S vs i) : Rf w' g k ck r cr np S ow vs F := by
  have hk : ∀ {base : Nat} {e : TypeId} {n cap b : Nat} {xs : List Value}, w.ownsRow base e 1 (.slice (some ⟨b, 0, none⟩) n cap) n xs → ¬ T b → w'.ownsRow base e 1 (.slice (some ⟨b, 0, none⟩) n cap) n xs := by
    intro base e n cap b xs ho hb
    rcases ho.2 with ⟨h1, _⟩ | ⟨g', cap', cur, h1, h2, h3, h4⟩
    · cases h1
    · have h1' := h1
      simp only [Value.slice.injEq, Option.some.injEq, Addr.mk.injEq, and_true, true_and] at h1
      obtain ⟨rfl, rfl⟩ := h1
      exact ⟨ho.1, .inr ⟨b, cap, cur, rfl, h2, (ht.block b (Array.getElem?_eq_some_iff.1 h3).1 hb).trans h3, h4⟩⟩
  refine ⟨(ht.block g (Array.getElem?_eq_some_iff.1 h.box).1 (fun hT => hd g hT (.inl rfl))).trans h.box, hk h.own (fun hT => hd k hT (.inr (.inl rfl))), hk h.row (fun hT => hd r hT (.inr (.inr (.inl rfl)))), fun i hi => ?_, h.dis, h.len, h.fln, h.np1, h.rng, h.siz, h.byt⟩
  rcases h.pgs i hi with h1 | ⟨b, h1, h2⟩
  · exact .inl h1
  · exact .inr ⟨b, h1, hk h2 (fun hT => hd b hT (.inr (.inr (.inr ⟨i, h1⟩))))⟩

theorem rFoot_lt {w : World} {g k ck r cr np S : Nat} {ow F : List Int} {vs : List Value} (h : Rf w g k ck r cr np S ow vs F) (i : Nat) (hi : rFoot g k r S vs i) : i < w.heap.size := by
  rcases hi with rfl | rfl | rfl | ⟨j, hj⟩
  · exact (Array.getElem?_eq_some_iff.1 h.box).1
  · obtain ⟨c, hc⟩ := own_cells h.own; exact (Array.getElem?_eq_some_iff.1 hc).1
  · obtain ⟨c, hc⟩ := own_cells h.row; exact (Array.getElem?_eq_some_iff.1 hc).1
  · have hl : vs.length = np := by have := h.row.1; omega
    have hjn : j < np := by have := (List.getElem?_eq_some_iff.1 hj).1; omega
    rcases h.pgs j hjn with ⟨h1, _⟩ | ⟨b, h1, h2⟩
    · rw [hj] at h1; simp at h1
    · rw [hj] at h1
      simp only [Option.some.injEq, Value.slice.injEq, Addr.mk.injEq, and_true] at h1
      subst h1
      obtain ⟨c, hc⟩ := own_cells h2; exact (Array.getElem?_eq_some_iff.1 hc).1
theorem Rf.cv {w : World} {g k ck r cr np S : Nat} {ow F : List Int} {vs : List Value} (h : Rf w g k ck r cr np S ow vs F) (i : Nat) (hi : i < np) : w.cell? ⟨r, i, none⟩ = some (vs[i]?.getD (.bool false)) := by
  have hl : vs.length = np := by have := h.row.1; omega
  rw [h.row.cellAt i (by omega)]
  rw [List.getElem?_eq_getElem (by omega)]
  rfl
end Go.Proofs.Ytfmgncajhjkdlaa.R6
/- the document's arena: one page's bytes: contract. -/
namespace Go.Proofs.Ytfmgncajhjkdlaa.R6
open Go.RowKit Go.PlainAid
set_option linter.unusedVariables false
set_option linter.unusedSimpArgs false

/-- what `page` answers -/
def rPgPost (g k ck r cr np S : Nat) (ow F : List Int) (vs : List Value) (q : Nat) (w : World) (e : Ending) (w' : World) : Prop :=
  ∃ (b : Nat) (vs' : List Value), e = .returned (.slice (some ⟨b, 0, none⟩) S S) ∧ vs'[q]? = some (Value.slice (some ⟨b, 0, none⟩) S S) ∧ Rf w' g k ck r cr np S ow vs' F ∧ Tch (fun i => i = r) w w' ∧
    ∀ i, rFoot g k r S vs' i → rFoot g k r S vs i ∨ w.heap.size ≤ i

theorem Rf.drewN {w : World} {g k ck r cr np S : Nat} {ow F : List Int} {vs : List Value} (h : Rf w g k ck r cr np S ow vs F) (n : Nat) : Rf (w.drewN n) g k ck r cr np S ow vs F := ⟨h.box, h.own, h.row, h.pgs, h.dis, h.len, h.fln, h.np1, h.rng, h.siz, h.byt⟩
theorem Rf.drew {w : World} {g k ck r cr np S : Nat} {ow F : List Int} {vs : List Value} (h : Rf w g k ck r cr np S ow vs F) : Rf w.drew g k ck r cr np S ow vs F := ⟨h.box, h.own, h.row, h.pgs, h.dis, h.len, h.fln, h.np1, h.rng, h.siz, h.byt⟩

theorem zeros_b (N : Nat) : (madeCells #[Value.int .u8 0] N).toList = (List.replicate N (0 : Int)).map (.int .u8) := (toList_madeCells_one _ N).trans (by simp)

/-- a page made -/
theorem Rf.made {w : World} {g k ck r cr np S : Nat} {ow F : List Int} {vs : List Value} (h : Rf w g k ck r cr np S ow vs F) (q : Nat) (hq : q < np) (hv : vs[q]? = some (Value.slice none 0 0)) :
    Rf ((w.alloc (.cells (madeCells #[Value.int .u8 0] S) 5)).setCell ⟨r, q, none⟩ (.slice (some ⟨w.heap.size, 0, none⟩) S S)) g k ck r cr np S ow (vs.set q (.slice (some ⟨w.heap.size, 0, none⟩) S S)) F ∧
    Tch (fun i => i = r) w ((w.alloc (.cells (madeCells #[Value.int .u8 0] S) 5)).setCell ⟨r, q, none⟩ (.slice (some ⟨w.heap.size, 0, none⟩) S S)) := by
  have hz : pg F S q = List.replicate S 0 := by
    rcases h.pgs q hq with ⟨_, h1⟩ | ⟨b, h1, _⟩
    · exact h1
    · rw [hv] at h1; simp at h1
  obtain ⟨n1, n2, n3, n4⟩ := h.kr
  have hl : vs.length = np := by have := h.row.1; omega
  have hgl : g < w.heap.size := (Array.getElem?_eq_some_iff.1 h.box).1
  have hrl := (h.row.lt r rfl).2
  have hS := h.siz
  have hst := (h.row.alloc (.cells (madeCells #[Value.int .u8 0] S) 5)).stored q (.slice (some ⟨w.heap.size, 0, none⟩) S S)
  have hnew : (w.alloc (.cells (madeCells #[Value.int .u8 0] S) 5)).ownsRow 0 5 1 (.slice (some ⟨w.heap.size, 0, none⟩) S S) S ((List.replicate S (0 : Int)).map (.int .u8)) := by
    have := World.ownsRow_lit (base := 0) (size := 1) (e := 5) w (madeCells #[Value.int .u8 0] S) S (Nat.zero_le _) (by unfold maxLen; omega) (by simp [madeCells])
    rw [zeros_b] at this; exact this
  have hT : Tch (fun i => i = r) w ((w.alloc (.cells (madeCells #[Value.int .u8 0] S) 5)).setCell ⟨r, q, none⟩ (.slice (some ⟨w.heap.size, 0, none⟩) S S)) :=
    (Tch.of_below (fun i => i = r) ((Below.refl w.heap.size w).alloc (Nat.le_refl _) _)).trans (Tch.setCell _ r q _) (fun i hi => .inl hi)
  have hold : ∀ (b : Nat) (n cap : Nat) (e : TypeId) (xs : List Value), b ≠ r → w.ownsRow 0 e 1 (.slice (some ⟨b, 0, none⟩) n cap) n xs → ((w.alloc (.cells (madeCells #[Value.int .u8 0] S) 5)).setCell ⟨r, q, none⟩ (.slice (some ⟨w.heap.size, 0, none⟩) S S)).ownsRow 0 e 1 (.slice (some ⟨b, 0, none⟩) n cap) n xs := by
    intro b n cap e xs hb ho
    exact (ho.alloc _).kept hst.2 (.inr (by simp [Value.ownBlock]; exact hb))
  have hlt : ∀ (i b : Nat), vs[i]? = some (Value.slice (some ⟨b, 0, none⟩) S S) → b < w.heap.size := fun i b hb => rFoot_lt h b (.inr (.inr (.inr ⟨i, hb⟩)))
  refine ⟨⟨?_, hold k _ _ _ _ n3 h.own, hst.1, fun i hi => ?_, ?_, h.len, h.fln, h.np1, h.rng, h.siz, h.byt⟩, hT⟩
  · exact (hT.block g hgl n2).trans h.box
  · by_cases hiq : i = q
    · subst hiq
      right
      refine ⟨w.heap.size, by simp [hl, hi], ?_⟩
      rw [hz]
      exact hnew.kept hst.2 (.inr (by simp [Value.ownBlock]; omega))
    · rw [List.getElem?_set_ne (by omega)]
      rcases h.pgs i hi with h1 | ⟨b, h1, h2⟩
      · exact .inl h1
      · exact .inr ⟨b, h1, hold b _ _ _ _ (n4 i b h1 hi).2.2 h2⟩
  · intro i j b hi hj
    by_cases hiq : i = q
    · by_cases hjq : j = q
      · omega
      · rw [hiq, List.getElem?_set_self (by omega)] at hi
        rw [List.getElem?_set_ne (by omega)] at hj
        simp at hi
        have := hlt _ _ hj
        omega
    · rw [List.getElem?_set_ne (by omega)] at hi
      by_cases hjq : j = q
      · rw [hjq, List.getElem?_set_self (by omega)] at hj
        simp at hj
        have := hlt _ _ hi
        omega
      · rw [List.getElem?_set_ne (by omega)] at hj
        exact h.dis i j b hi hj

theorem rPgPost.drewN {g k ck r cr np S : Nat} {ow F : List Int} {vs : List Value} {q : Nat} {w : World} {e : Ending} {w' : World} (h : rPgPost g k ck r cr np S ow F vs q w e w') (n : Nat) : rPgPost g k ck r cr np S ow F vs q w e (w'.drewN n) := by
  obtain ⟨b, vs', h1, h2, h3, h4, h5⟩ := h
  exact ⟨b, vs', h1, h2, h3.drewN n, h4.drewN n, h5⟩
theorem rPgPost.drew {g k ck r cr np S : Nat} {ow F : List Int} {vs : List Value} {q : Nat} {w : World} {e : Ending} {w' : World} (h : rPgPost g k ck r cr np S ow F vs q w e w') : rPgPost g k ck r cr np S ow F vs q w e w'.drew := h.drewN 1

set_option maxHeartbeats 1000000 in
theorem rpage_any {w : World} {g k ck r cr np S : Nat} {ow F : List Int} {vs : List Value} (h : Rf w g k ck r cr np S ow vs F) (q : Nat) (hq : q < np) :
    Calls Try.prog 72 #[.pointer (some ⟨g, 0, none⟩), .int .i64 q] w (rPgPost g k ck r cr np S ow F vs q w) := by
  have c0 := h.c0
  have c2 := h.c2
  have hnp := h.np1
  have hS := h.siz
  have cv := h.cv q hq
  have hf := h.row.frozenAt q
  have hmk := run_make_row' (P := Try.prog) 46 5 (.int .u8 0) 1 Try.underlying46 Try.infoB rfl .i64 .i64 S (by omega) (by omega)
  have hl : vs.length = np := by have := h.row.1; omega
  obtain ⟨n1, n2, n3, n4⟩ := h.kr
  have hgl : g < w.heap.size := (Array.getElem?_eq_some_iff.1 h.box).1
  have hrl := (h.row.lt r rfl).2
  have H := Lib.hid h
  rcases h.pgs q hq with ⟨h1, _⟩ | ⟨b, h1, _⟩
  · rw [h1] at cv
    simp only [Option.getD_some] at cv
    have Hm := Lib.hid (h.made q hq h1)
    have hcn : ((w.alloc (.cells (madeCells #[Value.int .u8 0] S) 5)).setCell ⟨r, q, none⟩ (.slice (some ⟨w.heap.size, 0, none⟩) S S)).cell? ⟨r, q, none⟩ = some (.slice (some ⟨w.heap.size, 0, none⟩) S S) := by
      have := Hm.out.1.cv q hq
      simpa [List.getElem?_set, hl, hq] using this
    have hcg := Hm.out.1.c2
    have Hfin : Hid (rPgPost g k ck r cr np S ow F vs q w (.returned (.slice (some ⟨w.heap.size, 0, none⟩) S S)) ((w.alloc (.cells (madeCells #[Value.int .u8 0] S) 5)).setCell ⟨r, q, none⟩ (.slice (some ⟨w.heap.size, 0, none⟩) S S))) := by
      refine Lib.hid ⟨w.heap.size, _, rfl, by simp [hl, hq], Hm.out.1, Hm.out.2, fun i hi => ?_⟩
      rcases hi with h2 | h2 | h2 | ⟨j, hj⟩
      · exact .inl (.inl h2)
      · exact .inl (.inr (.inl h2))
      · exact .inl (.inr (.inr (.inl h2)))
      · by_cases hjq : j = q
        · rw [hjq, List.getElem?_set_self (by omega)] at hj
          simp at hj
          exact .inr (by omega)
        · rw [List.getElem?_set_ne (by omega)] at hj
          exact .inl (.inr (.inr (.inr ⟨j, hj⟩)))
    have hEq : (w.setCell ⟨r, q, none⟩ (.slice (some ⟨w.heap.size, 0, none⟩) S S)).alloc (.cells (madeCells #[Value.int .u8 0] S) 5) = (w.alloc (.cells (madeCells #[Value.int .u8 0] S) 5)).setCell ⟨r, q, none⟩ (.slice (some ⟨w.heap.size, 0, none⟩) S S) := by simp [go_sem, hrl]
    have Hfin2 := Hfin
    rw [← hEq] at Hfin2
    clear h h1 hEq
    go_enter Try.func72, Try.ntmps72
    go_wp2_with (fail)
    go_region
    all_goals (go_wp2_with (fail))
    all_goals go_ret
    all_goals first | exact Hfin.out | exact Hfin.out.drew | exact Hfin2.out | exact Hfin2.out.drew | exact Hfin.out.drewN _
  · rw [h1] at cv
    simp only [Option.getD_some] at cv
    have h0 : ¬ (S : Int) = 0 := by omega
    have h0' : ((S : Int) == 0) = false := by simp; omega
    clear h
    go_enter Try.func72, Try.ntmps72
    go_wp2_with (fail)
    go_ret
    exact ⟨b, vs, rfl, h1, H.out, Tch.refl _ w, fun i hi => .inl hi⟩
end Go.Proofs.Ytfmgncajhjkdlaa.R6
/- flat bytes and pages: plain laws. -/
namespace Go.Proofs.Ytfmgncajhjkdlaa.R6
open Go.RowKit Go.PlainAid

theorem pg_len {F : List Int} {S np i : Nat} (hF : F.length = np * S) (hi : i < np) : (pg F S i).length = S := by
  have h1 : (i + 1) * S ≤ np * S := Nat.mul_le_mul_right S (by omega)
  rw [Nat.succ_mul] at h1
  simp [pg]; omega
theorem pg_at {F : List Int} {S j : Nat} (i : Nat) (hj : j < S) : (pg F S i)[j]?.getD 0 = F[i * S + j]?.getD 0 := by
  simp [pg, hj]
theorem list_getD_ext {a b : List Int} (hl : a.length = b.length) (h : ∀ j, j < a.length → a[j]?.getD 0 = b[j]?.getD 0) : a = b := by
  apply List.ext_getElem hl
  intro j h1 h2
  have := h j h1
  simpa [h1, h2] using this
theorem pg_splice {F l : List Int} {S np q a : Nat} (hF : F.length = np * S) (hq : q < np) (ha : a + l.length ≤ S) : pg (AP.splice F (q * S + a) l) S q = AP.splice (pg F S q) a l := by
  have h1 : (q + 1) * S ≤ np * S := Nat.mul_le_mul_right S (by omega)
  rw [Nat.succ_mul] at h1
  have e1 : (AP.splice F (q * S + a) l).length = np * S := (AP.splice_len (by omega)).trans hF
  have e2 := pg_len hF hq
  have e3 : (AP.splice (pg F S q) a l).length = S := (AP.splice_len (by omega)).trans e2
  apply list_getD_ext ((pg_len e1 hq).trans e3.symm)
  intro j hj
  rw [pg_len e1 hq] at hj
  rw [pg_at q hj, AP.splice_at (by omega), AP.splice_at (by omega), pg_at q hj]
  by_cases h : a ≤ j ∧ j < a + l.length
  · rw [if_pos (by omega), if_pos h, show q * S + j - (q * S + a) = j - a by omega]
  · rw [if_neg (by omega), if_neg h]
theorem pg_splice_ne {F l : List Int} {S np q a i : Nat} (hF : F.length = np * S) (hq : q < np) (hi : i < np) (hne : i ≠ q) (ha : a + l.length ≤ S) : pg (AP.splice F (q * S + a) l) S i = pg F S i := by
  have h1 : (q + 1) * S ≤ np * S := Nat.mul_le_mul_right S (by omega)
  rw [Nat.succ_mul] at h1
  have e1 : (AP.splice F (q * S + a) l).length = np * S := (AP.splice_len (by omega)).trans hF
  apply list_getD_ext ((pg_len e1 hi).trans (pg_len hF hi).symm)
  intro j hj
  rw [pg_len e1 hi] at hj
  rw [pg_at i hj, pg_at i hj, AP.splice_at (by omega), if_neg]
  rcases Nat.lt_or_gt_of_ne hne with h | h
  · have h2 : (i + 1) * S ≤ q * S := Nat.mul_le_mul_right S (by omega)
    rw [Nat.succ_mul] at h2
    omega
  · have h2 : (q + 1) * S ≤ i * S := Nat.mul_le_mul_right S (by omega)
    rw [Nat.succ_mul] at h2
    omega
theorem pg_cut {F : List Int} {S q a n : Nat} (h : a + n ≤ S) : ((pg F S q).drop a).take n = (F.drop (q * S + a)).take n := by
  unfold pg
  rw [List.drop_take, List.take_take, List.drop_drop, Nat.min_eq_left (by omega)]

theorem splice_ext {bs l : List Int} {M T off : Nat} (hT : T ≤ M) (ho : off + l.length ≤ T) (hb : bs.length ≤ M) : AP.ext (AP.splice (AP.ext bs T) off l) M = AP.splice (AP.ext bs M) off l := by
  have e1 := AP.ext_len bs T
  have e2 := AP.ext_len bs M
  have e3 : (AP.splice (AP.ext bs T) off l).length = (AP.ext bs T).length := AP.splice_len (by omega)
  have e4 : (AP.splice (AP.ext bs M) off l).length = (AP.ext bs M).length := AP.splice_len (by omega)
  have hx : ∀ (c : List Int) (K j : Nat), (AP.ext c K)[j]?.getD 0 = c[j]?.getD 0 := by
    intro c K j
    unfold AP.ext
    rw [List.getElem?_append]
    split
    · rfl
    · rw [List.getElem?_replicate]
      rw [show c[j]? = none from List.getElem?_eq_none (by omega)]
      split <;> rfl
  apply list_getD_ext
  · rw [AP.ext_len]; omega
  · intro j _
    rw [hx, AP.splice_at (by omega), AP.splice_at (by omega), hx, hx]
theorem ext_getD (c : List Int) (K j : Nat) : (AP.ext c K)[j]?.getD 0 = c[j]?.getD 0 := by
  unfold AP.ext
  rw [List.getElem?_append]
  split
  · rfl
  · rw [List.getElem?_replicate]
    rw [show c[j]? = none from List.getElem?_eq_none (by omega)]
    split <;> rfl
theorem ext_ext {bs : List Int} {M T : Nat} (hT : T ≤ M) (hb : bs.length ≤ M) : AP.ext (AP.ext bs T) M = AP.ext bs M := by
  apply list_getD_ext
  · rw [AP.ext_len, AP.ext_len, AP.ext_len]; omega
  · intro j _
    rw [ext_getD, ext_getD, ext_getD]
theorem cut_ext {bs : List Int} {M T off n : Nat} (hT : T ≤ M) (ho : off + n ≤ T) (hb : bs.length ≤ M) : ((AP.ext bs T).drop off).take n = ((AP.ext bs M).drop off).take n := by
  have e1 := AP.ext_len bs T
  have e2 := AP.ext_len bs M
  apply list_getD_ext
  · simp; omega
  · intro j hj
    have hjn : j < n := by simp at hj; omega
    rw [List.getElem?_take, List.getElem?_take, if_pos hjn, if_pos hjn, List.getElem?_drop, List.getElem?_drop, ext_getD, ext_getD]
end Go.Proofs.Ytfmgncajhjkdlaa.R6
/- the document's arena: Write and Read: contracts. -/
namespace Go.Proofs.Ytfmgncajhjkdlaa.R6
open Go.RowKit Go.PlainAid
set_option linter.unusedVariables false
set_option linter.unusedSimpArgs false

namespace AP
open Go.Proofs.Ytfmgncajhjkdlaa.AP
/-- the flat bytes behind a Write, and what a Read tells -/
def rwF (ow F : List Int) (S : Nat) (p a : Int) (l : List Int) : List Int := if byE ow S p a l.length = 0 then splice F (p.toNat * S + a.toNat) l else F
def rrL (ow F : List Int) (S : Nat) (p a n : Int) : List Int := if byE ow S p a n = 0 then (F.drop (p.toNat * S + a.toNat)).take n.toNat else []
end AP

/-- bytes put into a page -/
theorem Rf.wrote {w w' : World} {g k ck r cr np S : Nat} {ow F : List Int} {vs : List Value} (h : Rf w g k ck r cr np S ow vs F) {q a b : Nat} {l : List Int} (hq : q < np) (hv : vs[q]? = some (Value.slice (some ⟨b, 0, none⟩) S S)) (ha : a + l.length ≤ S)
    (hl : ∀ x ∈ l, 0 ≤ x ∧ x ≤ 255) (hg : w.grownBy w' (some b)) (ho : w'.ownsRow 0 5 1 (.slice (some ⟨b, 0, none⟩) S S) S ((AP.splice (pg F S q) a l).map (.int .u8))) : Rf w' g k ck r cr np S ow vs (AP.splice F (q * S + a) l) := by
  obtain ⟨n1, n2, n3, n4⟩ := h.kr
  obtain ⟨m1, m2, m3⟩ := n4 q b hv hq
  have h1 : (q + 1) * S ≤ np * S := Nat.mul_le_mul_right S (by omega)
  rw [Nat.succ_mul] at h1
  have hgl : g < w.heap.size := (Array.getElem?_eq_some_iff.1 h.box).1
  refine ⟨(hg.block g hgl (by simp; omega)).trans h.box, h.own.kept hg (.inr (by simp [Value.ownBlock]; omega)), h.row.kept hg (.inr (by simp [Value.ownBlock]; omega)), fun i hi => ?_, h.dis, h.len, ?_, h.np1, h.rng, h.siz, fun x hx => ?_⟩
  · by_cases hiq : i = q
    · subst hiq
      right
      refine ⟨b, hv, ?_⟩
      rw [pg_splice h.fln hi ha]; exact ho
    · rcases h.pgs i hi with ⟨h2, h3⟩ | ⟨b', h2, h3⟩
      · exact .inl ⟨h2, by rw [pg_splice_ne h.fln hq hi hiq ha]; exact h3⟩
      · right
        refine ⟨b', h2, ?_⟩
        rw [pg_splice_ne h.fln hq hi hiq ha]
        refine h3.kept hg (.inr ?_)
        simp only [Value.ownBlock, ne_eq, Option.some.injEq]
        rintro rfl
        exact hiq (h.dis i q b' h2 hv)
  · have := h.fln; rw [AP.splice_len (by omega)]; exact this
  · unfold AP.splice at hx
    rw [List.mem_append, List.mem_append] at hx
    rcases hx with (hx | hx) | hx
    · exact h.byt x (List.mem_of_mem_take hx)
    · exact hl x hx
    · exact h.byt x (List.mem_of_mem_drop hx)

def rFresh (g k r S : Nat) (vs vs' : List Value) (w : World) : Prop := ∀ i, rFoot g k r S vs' i → rFoot g k r S vs i ∨ w.heap.size ≤ i
def rWrPost (g k ck r cr np S : Nat) (ow F : List Int) (vs : List Value) (p a : Int) (l : List Int) (w : World) (e : Ending) (w' : World) : Prop :=
  e = .returned (.int .i64 (AP.byE ow S p a l.length)) ∧ ∃ vs', Rf w' g k ck r cr np S ow vs' (AP.rwF ow F S p a l) ∧ Tch (rFoot g k r S vs) w w' ∧ rFresh g k r S vs vs' w

set_option maxRecDepth 100000 in
set_option maxHeartbeats 1000000 in
theorem rWrite_any {w : World} {g k ck r cr np S : Nat} {ow F : List Int} {vs : List Value} (h : Rf w g k ck r cr np S ow vs F) (p a : Int) (v : Value) (l : List Int) (hl : l.length ≤ maxLen) (hby : ∀ x ∈ l, 0 ≤ x ∧ x ≤ 255)
    (hv : ∀ w', Tch (fun i => i = r) w w' → RB w' v l) :
    Calls Try.prog 67 #[.pointer (some ⟨g, 0, none⟩), .int .i64 p, .int .i64 a, v] w (rWrPost g k ck r cr np S ow F vs p a l w) := by
  have Hv := Lib.hid hv
  obtain ⟨va, vc, rfl⟩ : ∃ va vc, v = .slice va l.length vc := by
    obtain ⟨a, c, e, _⟩ := hv w (Tch.refl _ w)
    exact ⟨a, c, e⟩
  have H := Lib.hid h
  have c0 := h.c0
  have hS := h.siz
  have hnp := h.np1
  have Ho := Lib.hid (rOwner_any h p)
  unfold maxLen at hl
  have Hby := Lib.hid hby
  clear h hv hby
  by_cases hE : AP.byE ow S p a l.length = 0
  · obtain ⟨q, b, m, rfl, rfl, hm, hq, ho, hb, hbm⟩ := byE_yes H.out.rng H.out.len hE
    obtain rfl : l.length = m := by omega
    have HE := Lib.hid hE
    have Hw : Hid (AP.rwF ow F S (q : Int) (b : Int) l = AP.splice F (q * S + b) l) := Lib.hid (by unfold AP.rwF; rw [if_pos hE]; rfl)
    have Hpg := Lib.hid (rpage_any H.out q hq)
    have hng : ¬ AP.owner ow (q : Int) < 0 := by omega
    clear hE hm ho
    go_enter Try.func67, Try.ntmps67
    go_wp2_with (fail)
    refine Ho.out.mono ?_
    rintro e w' ⟨rfl, rfl⟩
    go_wp2_with (fail)
    refine Hpg.out.mono ?_
    rintro e w2 ⟨B, vs', rfl, hvq, hR2, ht2, hf2⟩
    have Hrb := Lib.hid (Hv.out w2 ht2)
    have HR2 := Lib.hid hR2
    have hT := Lib.hid (ht2.mono (T := rFoot g k r S vs) (fun i hi => .inr (.inr (.inl hi))))
    have Hvq := Lib.hid hvq
    have Hf2 := Lib.hid hf2
    clear hR2 ht2 hvq hf2
    have hbS : b ≤ S := by omega
    have HbS : (b : Int) ≤ (S : Int) := by omega
    obtain ⟨x, hx⟩ : ∃ x, (if S = b then (some ⟨B, 0, none⟩ : Option Addr) else some ⟨B, b, none⟩) = some ⟨B, x, none⟩ := ⟨if S = b then 0 else b, by split <;> rfl⟩
    have Hx : Hid (l = [] ∨ x = b) := by
      by_cases hc : S = b
      · exact Lib.hid (.inl (List.eq_nil_of_length_eq_zero (by omega)))
      · rw [if_neg hc] at hx
        simp at hx
        exact Lib.hid (.inr hx.symm)
    by_cases hl0 : l = []
    · have hrun := run_copy_zero w2 (.slice va l.length vc) l (some ⟨B, x, none⟩) (S - b) (S - b) 3 Hrb.out (.inr hl0)
      have Hl0 := Lib.hid hl0
      clear hl0
      go_wp2_with (with_reducible refine wp_copyR w2 rfl _ _ _ _ rfl _ _ rfl rfl _ _ hrun ?_)
      go_ret
      refine ⟨by rw [HE.out]; rfl, vs', ?_, hT.out, Hf2.out⟩
      rw [Hw.out, Hl0.out, AP.splice_nil]; exact HR2.out
    · have hxb : x = b := by
        rcases Hx.out with h0 | h0
        · exact absurd h0 hl0
        · exact h0
      subst hxb
      have hrow : w2.ownsRow 0 5 1 (.slice (some ⟨B, 0, none⟩) S S) S ((pg F S q).map (.int .u8)) := by
        rcases HR2.out.pgs q hq with ⟨h1, _⟩ | ⟨b', h1, h2⟩
        · rw [Hvq.out] at h1; simp at h1
        · rw [Hvq.out] at h1
          simp only [Option.some.injEq, Value.slice.injEq, Addr.mk.injEq, and_true] at h1
          subst h1
          exact h2
      obtain ⟨w3, hrun, ho3, hg3⟩ := run_copy_rb w2 B x S S 0 (pg F S q) l (.slice va l.length vc) (S - x) (S - x) 3 hrow Hrb.out (by omega) (by omega) hl0
      have HR3 := Lib.hid (HR2.out.wrote hq Hvq.out hbm Hby.out hg3 ho3)
      have ht3 := Lib.hid (hT.out.trans (Tch.of_grown hg3) (fun i hi => Hf2.out i (.inr (.inr (.inr ⟨q, by injection hi with hi; subst hi; exact Hvq.out⟩)))))
      clear hrow ho3 hg3 hl0
      go_wp2_with (with_reducible refine wp_copyR w2 rfl _ _ _ _ rfl _ _ rfl rfl _ _ hrun ?_)
      go_ret
      refine ⟨by rw [HE.out]; rfl, vs', ?_, ht3.out, Hf2.out⟩
      rw [Hw.out]; exact HR3.out
  · have Hw : Hid (AP.rwF ow F S p a l = F) := Lib.hid (by unfold AP.rwF; rw [if_neg hE])
    by_cases h0 : AP.owner ow p < 0
    · have He : Hid (AP.byE ow S p a l.length = 7) := Lib.hid (by unfold AP.byE; rw [if_pos h0])
      clear hE
      go_enter Try.func67, Try.ntmps67
      go_wp2_with (fail)
      refine Ho.out.mono ?_
      rintro e w' ⟨rfl, rfl⟩
      go_wp2_with (fail)
      go_ret
      exact ⟨by rw [He.out]; rfl, vs, by rw [Hw.out]; exact H.out, Tch.refl _ w, fun i hi => .inl hi⟩
    · have hbad : a < 0 ∨ (S : Int) < a ∨ (S : Int) - a < l.length := by
        unfold AP.byE at hE; rw [if_neg h0] at hE
        by_cases hb : a < 0 ∨ (l.length : Int) < 0 ∨ (S : Int) < a ∨ (S : Int) - a < l.length
        · rcases hb with h | h | h | h
          · exact .inl h
          · omega
          · exact .inr (.inl h)
          · exact .inr (.inr h)
        · rw [if_neg hb] at hE; exact absurd rfl hE
      have He : Hid (AP.byE ow S p a l.length = 1) := Lib.hid (by unfold AP.byE; rw [if_neg h0, if_pos (by omega)])
      clear hE
      by_cases h1 : a < 0
      · clear hbad
        go_enter Try.func67, Try.ntmps67
        go_wp2_with (fail)
        refine Ho.out.mono ?_
        rintro e w' ⟨rfl, rfl⟩
        go_wp2_with (fail)
        go_ret
        exact ⟨by rw [He.out]; rfl, vs, by rw [Hw.out]; exact H.out, Tch.refl _ w, fun i hi => .inl hi⟩
      by_cases h2 : (S : Int) < a
      · clear hbad
        go_enter Try.func67, Try.ntmps67
        go_wp2_with (fail)
        refine Ho.out.mono ?_
        rintro e w' ⟨rfl, rfl⟩
        go_wp2_with (fail)
        go_ret
        exact ⟨by rw [He.out]; rfl, vs, by rw [Hw.out]; exact H.out, Tch.refl _ w, fun i hi => .inl hi⟩
      · have h3 : (S : Int) - a < l.length := by omega
        clear hbad
        go_enter Try.func67, Try.ntmps67
        go_wp2_with (fail)
        refine Ho.out.mono ?_
        rintro e w' ⟨rfl, rfl⟩
        go_wp2_with (fail)
        go_ret
        exact ⟨by rw [He.out]; rfl, vs, by rw [Hw.out]; exact H.out, Tch.refl _ w, fun i hi => .inl hi⟩
end Go.Proofs.Ytfmgncajhjkdlaa.R6
/- the document's arena: Read: contract. -/
namespace Go.Proofs.Ytfmgncajhjkdlaa.R6
open Go.RowKit Go.PlainAid
set_option linter.unusedVariables false
set_option linter.unusedSimpArgs false

theorem run_app2 (w : World) (ty : TypeId) (base : Nat) (v x : Value) (n : Nat) (xs ys : List Int) (hown : w.ownsRow base 5 1 v n (xs.map (.int .u8))) (hr : RB w x ys)
    (h63 : n + ys.length ≤ 200000000000000) (hbase : base ≤ w.heap.size) :
    ∃ v' w', (Builtin.append_ #[46, 46] ty #[v, x]).run Try.prog w = .ok v' w' ∧ w'.ownsRow base 5 1 v' (n + ys.length) ((xs ++ ys).map (.int .u8)) ∧ w.grownBy w' v.ownBlock := by
  obtain ⟨i0, hi, hz0, hz1, hz2⟩ := info_parts Try.infoB
  obtain ⟨a, c, rfl, hc⟩ := hr
  cases a with
  | none =>
    have hy : ys = [] := by
      cases ys with
      | nil => rfl
      | cons y ys => obtain ⟨b, o, h, _⟩ := hc (by simp); cases h
    subst hy
    exact ⟨v, w, run_app_none w ty base v n c _ hown, by simpa using hown, World.grownBy.refl w _⟩
  | some ad =>
    obtain ⟨v', w', hrun, ho, hg, hiff⟩ := run_append_own_wide (P := Try.prog) w base 46 ty 5 i0 (.int .u8 0) 1 1 Try.underlying46 hi hz0 hz1 hz2 rfl (by decide) v n _ hown ad ys.length c (ys.map (.int .u8)) (by simp) (by
        intro j u hj
        have hjl : j < ys.length := by have := (List.getElem?_eq_some_iff.1 hj).1; simpa using this
        obtain ⟨b, o, e, hcc⟩ := hc (by intro h; rw [h] at hjl; simp at hjl)
        obtain rfl := Option.some.inj e
        rw [Addr.add_lit, hcc j hjl]
        simp [hjl] at hj ⊢
        exact hj) (by
        intro u hu
        obtain ⟨z, _, rfl⟩ := List.mem_map.1 hu
        rfl) (by unfold maxLen; omega) (by omega) hbase
    exact ⟨v', w', hrun, by simpa using ho, hg⟩

/-- append of bytes that are read to a row of the call's own: only that row turns -/
theorem wp_appR2 {ops : Array Oper} {rest : List Oper} {o : Oper} {a : Act} {Q : Exit → Act → World → Prop} (w : World) (hgd : o.guard = none) (s x : Operand)
    (ho : o.op = .call { callee := .builtin .append, args := #[s, x], argTypes := #[46, 46] }) (base : Nat) (v vx : Value) (n : Nat) (xs ys : List Int)
    (hs : a.eval s = v) (hown : w.ownsRow base 5 1 v n (xs.map (.int .u8))) (hx : a.eval x = vx) (hr : RB w vx ys)
    (hn : n + ys.length ≤ 200000000000000) (hbase : base ≤ w.heap.size)
    (h : ∀ v' w', w'.ownsRow base 5 1 v' (n + ys.length) ((xs ++ ys).map (.int .u8)) → w.grownBy w' v.ownBlock → wpList Try.prog ops Q rest (a.put o.dst v') w') :
    wpList Try.prog ops Q (o :: rest) a w := by
  obtain ⟨v', w', hrun, h2, h3⟩ := run_app2 w o.type base v vx n xs ys hown hr hn hbase
  exact Lib.wpList_append_run w hgd s x _ _ ho v _ hs hx _ w' hrun (h v' w' h2 h3)

def rRdPost (g k ck r cr np S : Nat) (ow F : List Int) (vs : List Value) (p a n : Int) (w : World) (e : Ending) (w' : World) : Prop :=
  ∃ v vs', e = .returned (.tuple #[v, .int .i64 (AP.byE ow S p a n)]) ∧ RB w' v (AP.rrL ow F S p a n) ∧ Rf w' g k ck r cr np S ow vs' F ∧ Tch (rFoot g k r S vs) w w' ∧ rFresh g k r S vs vs' w

theorem rb_nil (w : World) : RB w (.slice none 0 0) [] := ⟨none, 0, rfl, fun h => absurd rfl h⟩

set_option maxRecDepth 100000 in
set_option maxHeartbeats 1000000 in
theorem rRead_any {w : World} {g k ck r cr np S : Nat} {ow F : List Int} {vs : List Value} (h : Rf w g k ck r cr np S ow vs F) (p a n : Int) (hn2 : -9223372036854775808 ≤ n) (hn3 : n ≤ 9223372036854775807) :
    Calls Try.prog 68 #[.pointer (some ⟨g, 0, none⟩), .int .i64 p, .int .i64 a, .int .i64 n] w (rRdPost g k ck r cr np S ow F vs p a n w) := by
  have H := Lib.hid h
  have c0 := h.c0
  have hS := h.siz
  have hnp := h.np1
  have Ho := Lib.hid (rOwner_any h p)
  by_cases hE : AP.byE ow S p a n = 0
  · obtain ⟨q, b, m, rfl, rfl, rfl, hq, ho, hb, hbm⟩ := byE_yes H.out.rng H.out.len hE
    have HE := Lib.hid hE
    have Hw : Hid (AP.rrL ow F S (q : Int) (b : Int) (m : Int) = (F.drop (q * S + b)).take m) := Lib.hid (by unfold AP.rrL; rw [if_pos hE]; rfl)
    have hR1 : Rf (w.alloc (.cells #[] 5)) g k ck r cr np S ow vs F := h.keep (Tch.of_below (fun _ => False) ((Below.refl w.heap.size w).alloc (Nat.le_refl _) _)) (fun i hi => hi.elim)
    have Hpg := Lib.hid (rpage_any hR1 q hq)
    have hng : ¬ AP.owner ow (q : Int) < 0 := by omega
    have hrl := (h.row.lt r rfl).2
    have Hfr := Lib.hid (fun i hi => rFoot_lt h i hi)
    have hto : (b : Int) + (m : Int) ≤ (S : Int) := by omega
    have hto2 : b + m ≤ S := by omega
    have hwr : IntKind.i64.wrap ((b : Int) + (m : Int)) = (b : Int) + (m : Int) := IntWalk.i64_in _ ⟨by omega, by omega⟩
    have htn : ((b : Int) + (m : Int)).toNat = b + m := by omega
    have hle : (b : Int) ≤ (b : Int) + (m : Int) := by omega
    have hle2 : b ≤ b + m := by omega
    have hsub : b + m - b = m := by omega
    clear hE ho h hR1
    go_enter Try.func68, Try.ntmps68
    go_wp2_with (fail)
    refine Ho.out.mono ?_
    rintro e w' ⟨rfl, rfl⟩
    go_wp2_with (fail)
    refine Hpg.out.mono ?_
    rintro e w2 ⟨B, vs', rfl, hvq, hR2, ht2, hf2⟩
    have hsz2 : w.heap.size + 1 ≤ w2.heap.size := by have := ht2.size; simpa using this
    have hrow : w2.ownsRow 0 5 1 (.slice (some ⟨B, 0, none⟩) S S) S ((pg F S q).map (.int .u8)) := by
      rcases hR2.pgs q hq with ⟨h1, _⟩ | ⟨b', h1, h2⟩
      · rw [hvq] at h1; simp at h1
      · rw [hvq] at h1
        simp only [Option.some.injEq, Value.slice.injEq, Addr.mk.injEq, and_true] at h1
        subst h1
        exact h2
    have hBr : rFoot g k r S vs' B := .inr (.inr (.inr ⟨q, hvq⟩))
    have hnew : w2.ownsRow w.heap.size 5 1 (.slice (some ⟨w.heap.size, 0, none⟩) 0 0) 0 (([] : List Int).map (.int .u8)) :=
      (own_new w).kept (row := some r) ⟨ht2.os, ht2.tape, ht2.output, ht2.size, fun i hi hne => ht2.block i hi (fun e => hne (by rw [e]))⟩ (.inr (by simp [Value.ownBlock]; omega))
    have Hnew := Lib.hid hnew
    have hdis : ∀ i, rFoot g k r S vs' i → i ≠ w.heap.size := by
      intro i hi e
      rcases hf2 i hi with h1 | h1
      · have := Hfr.out i h1; omega
      · simp at h1; omega
    have Hdis := Lib.hid hdis
    obtain ⟨x, hx⟩ : ∃ x, (if S = b then (some ⟨B, 0, none⟩ : Option Addr) else some ⟨B, b, none⟩) = some ⟨B, x, none⟩ := ⟨if S = b then 0 else b, by split <;> rfl⟩
    have hA : m = 0 ∨ (⟨B, x, none⟩ : Addr) = ⟨B, b, none⟩ := by
      by_cases hc : S = b
      · exact .inl (by omega)
      · rw [if_neg hc] at hx
        exact .inr (Option.some.inj hx.symm)
    have hrb := rb_cut hrow b m (S - b) ⟨B, x, none⟩ hA (by omega)
    have hpl : (pg F S q).length = S := pg_len H.out.fln hq
    have HR2 := Lib.hid hR2
    have Hrb := Lib.hid hrb
    have ht2' : Tch (rFoot g k r S vs) w w2 := ((Tch.of_below (rFoot g k r S vs) ((Below.refl w.heap.size w).alloc (Nat.le_refl _) (.cells #[] 5))).trans (ht2.mono (fun i hi => hi)) (fun i hi => .inl (.inr (.inr (.inl hi)))))
    have HT := Lib.hid ht2'
    have Hf2 := Lib.hid hf2
    have hcl : 0 + (((pg F S q).drop b).take m).length ≤ 200000000000000 := by simp; omega
    have Hcut := Lib.hid (pg_cut (F := F) (S := S) (q := q) (a := b) (n := m) hto2)
    have hbb : w.heap.size ≤ w2.heap.size := by omega
    clear hrow hBr hnew hdis hA hrb hR2 ht2 ht2' hf2 hpl hvq
    go_wp2_with (at_builtin; go_must (refine wp_appR2 w2 rfl _ _ rfl w.heap.size (.slice (some ⟨w.heap.size, 0, none⟩) 0 0) (.slice (some ⟨B, x, none⟩) m (S - b)) 0 [] (((pg F S q).drop b).take m) rfl Hnew.out rfl Hrb.out hcl hbb ?_); intro v3 w3 ho3 hg3)
    go_ret2
    refine ⟨v3, vs', by rw [HE.out]; rfl, ?_, HR2.out.keep (Tch.of_grown hg3) (fun i hi hj => ?_), HT.out.trans (Tch.of_grown hg3) (fun i hi => .inr ?_), fun i hi => ?_⟩
    · rw [Hw.out, ← Hcut.out]; exact rb_own (by simpa using ho3)
    · simp [Value.ownBlock] at hi; exact Hdis.out i hj hi.symm
    · simp [Value.ownBlock] at hi; omega
    · rcases Hf2.out i hi with h1 | h1
      · exact .inl h1
      · exact .inr (by simp at h1; omega)
  · have Hw : Hid (AP.rrL ow F S p a n = []) := Lib.hid (by unfold AP.rrL; rw [if_neg hE])
    clear h
    by_cases h0 : AP.owner ow p < 0
    · have He : Hid (AP.byE ow S p a n = 7) := Lib.hid (by unfold AP.byE; rw [if_pos h0])
      clear hE
      go_enter Try.func68, Try.ntmps68
      go_wp2_with (fail)
      refine Ho.out.mono ?_
      rintro e w' ⟨rfl, rfl⟩
      go_wp2_with (fail)
      go_ret2
      exact ⟨_, vs, by rw [He.out]; rfl, by rw [Hw.out]; exact rb_nil w, H.out, Tch.refl _ w, fun i hi => .inl hi⟩
    · have hbad : a < 0 ∨ n < 0 ∨ (S : Int) < a ∨ (S : Int) - a < n := by
        unfold AP.byE at hE; rw [if_neg h0] at hE
        by_cases hb : a < 0 ∨ n < 0 ∨ (S : Int) < a ∨ (S : Int) - a < n
        · exact hb
        · rw [if_neg hb] at hE; exact absurd rfl hE
      have He : Hid (AP.byE ow S p a n = 1) := Lib.hid (by unfold AP.byE; rw [if_neg h0, if_pos hbad])
      clear hE
      by_cases h1 : a < 0
      · clear hbad
        go_enter Try.func68, Try.ntmps68
        go_wp2_with (fail)
        refine Ho.out.mono ?_
        rintro e w' ⟨rfl, rfl⟩
        go_wp2_with (fail)
        go_ret2
        exact ⟨_, vs, by rw [He.out]; rfl, by rw [Hw.out]; exact rb_nil w, H.out, Tch.refl _ w, fun i hi => .inl hi⟩
      by_cases h2 : n < 0
      · clear hbad
        go_enter Try.func68, Try.ntmps68
        go_wp2_with (fail)
        refine Ho.out.mono ?_
        rintro e w' ⟨rfl, rfl⟩
        go_wp2_with (fail)
        go_ret2
        exact ⟨_, vs, by rw [He.out]; rfl, by rw [Hw.out]; exact rb_nil w, H.out, Tch.refl _ w, fun i hi => .inl hi⟩
      by_cases h3 : (S : Int) < a
      · clear hbad
        go_enter Try.func68, Try.ntmps68
        go_wp2_with (fail)
        refine Ho.out.mono ?_
        rintro e w' ⟨rfl, rfl⟩
        go_wp2_with (fail)
        go_ret2
        exact ⟨_, vs, by rw [He.out]; rfl, by rw [Hw.out]; exact rb_nil w, H.out, Tch.refl _ w, fun i hi => .inl hi⟩
      · have h4 : (S : Int) - a < n := by omega
        clear hbad
        go_enter Try.func68, Try.ntmps68
        go_wp2_with (fail)
        refine Ho.out.mono ?_
        rintro e w' ⟨rfl, rfl⟩
        go_wp2_with (fail)
        go_ret2
        exact ⟨_, vs, by rw [He.out]; rfl, by rw [Hw.out]; exact rb_nil w, H.out, Tch.refl _ w, fun i hi => .inl hi⟩
end Go.Proofs.Ytfmgncajhjkdlaa.R6
/- the document's arena: New: contract. -/
namespace Go.Proofs.Ytfmgncajhjkdlaa.R6
open Go.RowKit Go.PlainAid
set_option linter.unusedVariables false
set_option linter.unusedSimpArgs false

theorem Try.infoS : (Try.prog.info? 46).map (fun i => (i.zero, i.size, i.bytes)) = some (some (.slice none 0 0), 1, 24) := by kernel_rfl

/-- append of one int to a row: only that row turns -/
theorem wp_appI2 {ops : Array Oper} {rest : List Oper} {o : Oper} {a : Act} {Q : Exit → Act → World → Prop} (w : World) (hgd : o.guard = none) (s x : Operand)
    (ho : o.op = .call { callee := .builtin .append, args := #[s, x], argTypes := #[22, 22] }) (base : Nat) (v : Value) (n : Nat) (xs : List Int) (u : Int)
    (hs : a.eval s = v) (hown : w.ownsRow base 3 1 v n (xs.map (.int .i64))) (hx : a.eval x = .slice (some ⟨w.heap.size, 0, none⟩) 1 1)
    (hn : n + 1 < 1000000000000) (hbase : base ≤ w.heap.size)
    (h : ∀ g cap w', w'.ownsRow base 3 1 (.slice (some ⟨g, 0, none⟩) (n + 1) cap) (n + 1) ((xs ++ [u]).map (.int .i64)) → w.grownBy w' v.ownBlock → wpList Try.prog ops Q rest (a.put o.dst (.slice (some ⟨g, 0, none⟩) (n + 1) cap)) w') :
    wpList Try.prog ops Q (o :: rest) a (w.alloc (.cells #[.int .i64 u] 3)) := by
  obtain ⟨i0, hi, hz0, hz1, hz2⟩ := info_parts Try.infoI
  refine wpList_append_own _ hgd s x 22 ho base 3 i0 (.int .i64 0) 1 8 Try.underlying22 hi hz0 hz1 hz2 rfl (by decide) v n _ hs (hown.alloc _) ⟨w.heap.size, 0, none⟩ 1 1 [.int .i64 u] hx (by simp) ?_ ?_ ?_ ?_ (by simp; omega) ?_
  · intro j y hj
    have hj0 : j < 1 := by have := (List.getElem?_eq_some_iff.1 hj).1; simpa using this
    obtain rfl : j = 0 := by omega
    simp at hj
    subst hj
    simp [Addr.add]
  · intro y hy
    simp at hy
    subst hy
    rfl
  · unfold maxLen; omega
  · omega
  · intro v' w' hown' hgrow hiff
    have hg' : w.grownBy w' v.ownBlock := (World.grownBy_alloc w _ v.ownBlock).trans hgrow
    rcases hown'.2 with ⟨rfl, h0⟩ | ⟨g, cap, cur, rfl, _⟩
    · omega
    · exact h g cap w' (by simpa using hown') hg'

/-- append of one nil page to a row: only that row turns -/
theorem wp_appS2 {ops : Array Oper} {rest : List Oper} {o : Oper} {a : Act} {Q : Exit → Act → World → Prop} (w : World) (hgd : o.guard = none) (s x : Operand)
    (ho : o.op = .call { callee := .builtin .append, args := #[s, x], argTypes := #[80, 80] }) (base : Nat) (v : Value) (n : Nat) (xs : List Value)
    (hs : a.eval s = v) (hown : w.ownsRow base 46 1 v n xs) (sz : Nat) (hsz : w.heap.size = sz) (hx : a.eval x = .slice (some ⟨sz, 0, none⟩) 1 1)
    (hn : n + 1 < 1000000000) (hbase : base ≤ w.heap.size)
    (h : ∀ g cap w', w'.ownsRow base 46 1 (.slice (some ⟨g, 0, none⟩) (n + 1) cap) (n + 1) (xs ++ [.slice none 0 0]) → w.grownBy w' v.ownBlock → wpList Try.prog ops Q rest (a.put o.dst (.slice (some ⟨g, 0, none⟩) (n + 1) cap)) w') :
    wpList Try.prog ops Q (o :: rest) a (w.alloc (.cells #[.slice none 0 0] 46)) := by
  subst hsz
  obtain ⟨i0, hi, hz0, hz1, hz2⟩ := info_parts Try.infoS
  refine wpList_append_own _ hgd s x 80 ho base 46 i0 (.slice none 0 0) 1 24 Try.underlying80 hi hz0 hz1 hz2 rfl (by decide) v n _ hs (hown.alloc _) ⟨w.heap.size, 0, none⟩ 1 1 [.slice none 0 0] hx (by simp) ?_ ?_ ?_ ?_ (by simp; omega) ?_
  · intro j y hj
    have hj0 : j < 1 := by have := (List.getElem?_eq_some_iff.1 hj).1; simpa using this
    obtain rfl : j = 0 := by omega
    simp at hj
    subst hj
    simp [Addr.add]
  · intro y hy
    simp at hy
    subst hy
    rfl
  · unfold maxLen; omega
  · omega
  · intro v' w' hown' hgrow hiff
    have hg' : w.grownBy w' v.ownBlock := (World.grownBy_alloc w _ v.ownBlock).trans hgrow
    rcases hown'.2 with ⟨rfl, h0⟩ | ⟨g, cap, cur, rfl, _⟩
    · omega
    · exact h g cap w' (by simpa using hown') hg'

def rNewPost (pages page : Int) (w : World) (e : Ending) (w' : World) : Prop :=
  (okNew pages page = false ∧ e = .returned (.tuple #[.pointer none, .int .i64 1]) ∧ w = w') ∨
  (okNew pages page = true ∧ ∃ g k ck r cr, e = .returned (.tuple #[.pointer (some ⟨g, 0, none⟩), .int .i64 0]) ∧
    Rf w' g k ck r cr pages.toNat page.toNat (List.replicate pages.toNat 0) (List.replicate pages.toNat (.slice none 0 0)) (List.replicate (pages.toNat * page.toNat) 0) ∧ w.heap.size ≤ g ∧ w.heap.size ≤ k ∧ w.heap.size ≤ r ∧ Below w.heap.size w w')

theorem tmod8 (n : Int) (h0 : 0 ≤ n) : n.tmod 8 = n % 8 := Int.tmod_eq_emod_of_nonneg h0

set_option maxHeartbeats 400000 in
theorem rNew_no (pages page : Int) (w : World) (h : okNew pages page = false) : Calls Try.prog 24 #[.int .i64 pages, .int .i64 page] w (rNewPost pages page w) := by
  have Hp : Hid (rNewPost pages page w (.returned (.tuple #[.pointer none, .int .i64 1])) w) := Lib.hid (.inl ⟨h, rfl, rfl⟩)
  have h' : ¬ (1 ≤ pages ∧ pages ≤ 1024 ∧ 512 ≤ page ∧ page ≤ 65536 ∧ page % 8 = 0) := by simpa [okNew] using h
  clear h
  by_cases h1 : pages < 1
  · clear h'
    go_enter Try.func24, Try.ntmps24
    go_wp2
    go_ret2
    exact Hp.out
  by_cases h2 : 1024 < pages
  · clear h'
    go_enter Try.func24, Try.ntmps24
    go_wp2
    go_ret2
    exact Hp.out
  by_cases h3 : page < 512
  · clear h'
    go_enter Try.func24, Try.ntmps24
    go_wp2
    go_ret2
    exact Hp.out
  by_cases h4 : 65536 < page
  · clear h'
    go_enter Try.func24, Try.ntmps24
    go_wp2
    go_ret2
    exact Hp.out
  · have h5 : ¬ page % 8 = 0 := by omega
    clear h'
    go_enter Try.func24, Try.ntmps24
    go_wp2
    go_ret2
    exact Hp.out

/-- the arena while it is being made -/
structure Mk (w0 w : World) (g j : Nat) (S : Nat) (v1 v2 : Value) : Prop where
  box : w.heap[g]? = some (.cells #[.int .i64 S, v1, v2] 82 (0, 0))
  own : w.ownsRow w0.heap.size 3 1 v1 j ((List.replicate j (-1 : Int)).map (.int .i64))
  row : w.ownsRow w0.heap.size 46 1 v2 j (List.replicate j (Value.slice none 0 0))
  bel : Below w0.heap.size w0 w
  low : w0.heap.size ≤ g

theorem own_blk {w : World} {base n j : Nat} {e : TypeId} {v : Value} {xs : List Value} (h : w.ownsRow base e 1 v n xs) (hj : v.ownBlock = some j) : ∃ cur, w.heap[j]? = some (.cells cur e (0, 0)) := by
  rcases h.2 with ⟨rfl, _⟩ | ⟨b, cap, cur, rfl, _, hb, _⟩
  · simp [Value.ownBlock] at hj
  · simp [Value.ownBlock] at hj
    subst hj
    exact ⟨_, hb⟩
theorem Mk.ne {w0 w : World} {g j S : Nat} {v1 v2 : Value} (h : Mk w0 w g j S v1 v2) : v1.ownBlock ≠ some g ∧ v2.ownBlock ≠ some g ∧ (v1.ownBlock = none ∨ v2.ownBlock ≠ v1.ownBlock) := by
  refine ⟨fun e => ?_, fun e => ?_, ?_⟩
  · obtain ⟨c, hc⟩ := own_blk h.own e
    rw [h.box] at hc; simp at hc
  · obtain ⟨c, hc⟩ := own_blk h.row e
    rw [h.box] at hc; simp at hc
  · cases he : v1.ownBlock with
    | none => exact .inl rfl
    | some b =>
      right
      intro e
      obtain ⟨c, hc⟩ := own_blk h.own he
      obtain ⟨d, hd⟩ := own_blk h.row e
      rw [hc] at hd; simp at hd
theorem Mk.one {w0 w w2 : World} {g j S b cap : Nat} {v1 v2 : Value} (h : Mk w0 w g j S v1 v2) (ho : w2.ownsRow w0.heap.size 3 1 (.slice (some ⟨b, 0, none⟩) (j + 1) cap) (j + 1) ((List.replicate j (-1 : Int) ++ [-1]).map (.int .i64))) (hg : w.grownBy w2 v1.ownBlock) :
    (w2.setCell ⟨g, 1, none⟩ (.slice (some ⟨b, 0, none⟩) (j + 1) cap)).heap[g]? = some (.cells #[.int .i64 S, .slice (some ⟨b, 0, none⟩) (j + 1) cap, v2] 82 (0, 0)) ∧
    (w2.setCell ⟨g, 1, none⟩ (.slice (some ⟨b, 0, none⟩) (j + 1) cap)).ownsRow w0.heap.size 3 1 (.slice (some ⟨b, 0, none⟩) (j + 1) cap) (j + 1) ((List.replicate (j + 1) (-1 : Int)).map (.int .i64)) ∧
    (w2.setCell ⟨g, 1, none⟩ (.slice (some ⟨b, 0, none⟩) (j + 1) cap)).ownsRow w0.heap.size 46 1 v2 j (List.replicate j (Value.slice none 0 0)) ∧
    Below w0.heap.size w0 (w2.setCell ⟨g, 1, none⟩ (.slice (some ⟨b, 0, none⟩) (j + 1) cap)) := by
  obtain ⟨n1, n2, n3⟩ := h.ne
  have hgl : g < w.heap.size := (Array.getElem?_eq_some_iff.1 h.box).1
  have hbox : w2.heap[g]? = some (.cells #[.int .i64 S, v1, v2] 82 (0, 0)) := (hg.block g hgl (fun e => n1 e.symm)).trans h.box
  have hs : w2.grownBy (w2.setCell ⟨g, 1, none⟩ (.slice (some ⟨b, 0, none⟩) (j + 1) cap)) (some g) := only_setCell (World.grownBy.refl w2 _) 1 _
  have hbg : b ≠ g := by
    rintro rfl
    obtain ⟨c, hc⟩ := own_cells ho
    rw [hbox] at hc; simp at hc
  have hrow2 : w2.ownsRow w0.heap.size 46 1 v2 j (List.replicate j (Value.slice none 0 0)) := h.row.kept hg (by
    rcases n3 with e | e
    · cases hv : v2.ownBlock with
      | none => exact .inl rfl
      | some _ => right; rw [e]; simp
    · exact .inr e)
  refine ⟨?_, ?_, ?_, ?_⟩
  · show (w2.heap.modify g _)[g]? = _
    rw [Array.getElem?_modify, if_pos rfl, hbox]
    rfl
  · rw [show List.replicate (j + 1) (-1 : Int) = List.replicate j (-1 : Int) ++ [-1] from List.replicate_succ']
    exact ho.kept hs (.inr (by simp [Value.ownBlock]; exact hbg))
  · exact hrow2.kept hs (.inr n2)
  · have hb2 : Below w0.heap.size w0 w2 := h.bel.grown hg h.bel.size (fun q hq => (h.own.lt q hq).1)
    exact hb2.grown hs hb2.size (fun q hq => by injection hq with hq; have := h.low; omega)
theorem Mk.two {w0 w w2 : World} {g j S b cap : Nat} {v1 v2 : Value} (hbx : w.heap[g]? = some (.cells #[.int .i64 S, v1, v2] 82 (0, 0)))
    (hown : w.ownsRow w0.heap.size 3 1 v1 (j + 1) ((List.replicate (j + 1) (-1 : Int)).map (.int .i64))) (hrow : w.ownsRow w0.heap.size 46 1 v2 j (List.replicate j (Value.slice none 0 0)))
    (hbel : Below w0.heap.size w0 w) (hlow : w0.heap.size ≤ g) (ho : w2.ownsRow w0.heap.size 46 1 (.slice (some ⟨b, 0, none⟩) (j + 1) cap) (j + 1) (List.replicate j (Value.slice none 0 0) ++ [.slice none 0 0])) (hg : w.grownBy w2 v2.ownBlock) :
    Mk w0 (w2.setCell ⟨g, 2, none⟩ (.slice (some ⟨b, 0, none⟩) (j + 1) cap)) g (j + 1) S v1 (.slice (some ⟨b, 0, none⟩) (j + 1) cap) := by
  have n2 : v2.ownBlock ≠ some g := by
    intro e
    obtain ⟨c, hc⟩ := own_blk hrow e
    rw [hbx] at hc; simp at hc
  have n1 : v1.ownBlock ≠ some g := by
    intro e
    obtain ⟨c, hc⟩ := own_blk hown e
    rw [hbx] at hc; simp at hc
  have n3 : v1.ownBlock = none ∨ v1.ownBlock ≠ v2.ownBlock := by
    cases he : v1.ownBlock with
    | none => exact .inl rfl
    | some b =>
      right
      intro e
      obtain ⟨c, hc⟩ := own_blk hown he
      obtain ⟨d, hd⟩ := own_blk hrow e.symm
      rw [hc] at hd; simp at hd
  have hgl : g < w.heap.size := (Array.getElem?_eq_some_iff.1 hbx).1
  have hbox : w2.heap[g]? = some (.cells #[.int .i64 S, v1, v2] 82 (0, 0)) := (hg.block g hgl (fun e => n2 e.symm)).trans hbx
  have hs : w2.grownBy (w2.setCell ⟨g, 2, none⟩ (.slice (some ⟨b, 0, none⟩) (j + 1) cap)) (some g) := only_setCell (World.grownBy.refl w2 _) 2 _
  have hbg : b ≠ g := by
    rintro rfl
    obtain ⟨c, hc⟩ := own_cells ho
    rw [hbox] at hc; simp at hc
  refine ⟨?_, ?_, ?_, ?_, hlow⟩
  · show (w2.heap.modify g _)[g]? = _
    rw [Array.getElem?_modify, if_pos rfl, hbox]
    rfl
  · exact (hown.kept hg n3).kept hs (.inr n1)
  · rw [show List.replicate (j + 1) (Value.slice none 0 0) = List.replicate j (Value.slice none 0 0) ++ [Value.slice none 0 0] from List.replicate_succ']
    exact ho.kept hs (.inr (by simp [Value.ownBlock]; exact hbg))
  · have hb2 : Below w0.heap.size w0 w2 := hbel.grown hg hbel.size (fun q hq => (hrow.lt q hq).1)
    exact hb2.grown hs hb2.size (fun q hq => by injection hq with hq; omega)
theorem own_slice {w : World} {base n : Nat} {e : TypeId} {v : Value} {xs : List Value} (h : w.ownsRow base e 1 v n xs) : ∃ ad cap, v = .slice ad n cap := by
  rcases h.2 with ⟨rfl, rfl⟩ | ⟨b, cap, cur, rfl, _⟩
  · exact ⟨_, _, rfl⟩
  · exact ⟨_, _, rfl⟩
theorem own_pos {w : World} {base n : Nat} {e : TypeId} {v : Value} {xs : List Value} (h : w.ownsRow base e 1 v n xs) (hn : 0 < n) : ∃ b cap, v = .slice (some ⟨b, 0, none⟩) n cap := by
  rcases h.2 with ⟨rfl, rfl⟩ | ⟨b, cap, cur, rfl, _⟩
  · omega
  · exact ⟨_, _, rfl⟩
theorem own_mono {w : World} {base base' : Nat} {e : TypeId} {size : Nat} {v : Value} {n : Nat} {xs : List Value} (h : w.ownsRow base e size v n xs) (hb : base' ≤ base) : w.ownsRow base' e size v n xs := by
  refine ⟨h.1, ?_⟩
  rcases h.2 with h1 | ⟨b, cap, cur, h1, h2, h3⟩
  · exact .inl h1
  · exact .inr ⟨b, cap, cur, h1, Nat.le_trans hb h2, h3⟩
theorem Mk.box1 {w0 w w2 : World} {g j S : Nat} {v1 v2 : Value} (h : Mk w0 w g j S v1 v2) (hg : w.grownBy w2 v1.ownBlock) : w2.heap[g]? = some (.cells #[.int .i64 S, v1, v2] 82 (0, 0)) :=
  (hg.block g (Array.getElem?_eq_some_iff.1 h.box).1 (fun e => h.ne.1 e.symm)).trans h.box
theorem box2 {w w2 : World} {base g j S : Nat} {v1 v2 : Value} {xs : List Value} (hbx : w.heap[g]? = some (.cells #[.int .i64 S, v1, v2] 82 (0, 0))) (hrow : w.ownsRow base 46 1 v2 j xs) (hg : w.grownBy w2 v2.ownBlock) :
    w2.heap[g]? = some (.cells #[.int .i64 S, v1, v2] 82 (0, 0)) := by
  have n2 : v2.ownBlock ≠ some g := by
    intro e
    obtain ⟨c, hc⟩ := own_blk hrow e
    rw [hbx] at hc; simp at hc
  exact (hg.block g (Array.getElem?_eq_some_iff.1 hbx).1 (fun e => n2 e.symm)).trans hbx
theorem Mk.done {w0 w : World} {g np S : Nat} {v1 v2 : Value} (h : Mk w0 w g np S v1 v2) (hn : 1 ≤ np ∧ np ≤ 1024) (hS : 512 ≤ S ∧ S ≤ 65536) :
    ∃ k ck r cr, Rf w g k ck r cr np S (List.replicate np 0) (List.replicate np (.slice none 0 0)) (List.replicate (np * S) 0) ∧ w0.heap.size ≤ g ∧ w0.heap.size ≤ k ∧ w0.heap.size ≤ r := by
  obtain ⟨k, ck, rfl⟩ := own_pos h.own (by omega)
  obtain ⟨r, cr, rfl⟩ := own_pos h.row (by omega)
  refine ⟨k, ck, r, cr, ⟨h.box, ?_, own_mono h.row (Nat.zero_le _), fun i hi => .inl ⟨by simp [hi], ?_⟩, fun i j b hi => ?_, by simp, by simp, hn, fun x hx => ?_, hS, fun x hx => ?_⟩, h.low, (h.own.lt k rfl).1, (h.row.lt r rfl).1⟩
  · have := own_mono h.own (Nat.zero_le _)
    simpa using this
  · have h1 : (i + 1) * S ≤ np * S := Nat.mul_le_mul_right S (by omega)
    rw [Nat.succ_mul] at h1
    simp [pg]; omega
  · rw [List.getElem?_replicate] at hi
    split at hi <;> simp at hi
  · have := List.eq_of_mem_replicate hx; omega
  · have := List.eq_of_mem_replicate hx; omega

set_option maxHeartbeats 1000000 in
theorem rNew_yes (pages page : Int) (w : World) (h : okNew pages page = true) : Calls Try.prog 24 #[.int .i64 pages, .int .i64 page] w (rNewPost pages page w) := by
  have h' : 1 ≤ pages ∧ pages ≤ 1024 ∧ 512 ≤ page ∧ page ≤ 65536 ∧ page % 8 = 0 := by simpa [okNew] using h
  have H := Lib.hid h
  clear h
  obtain ⟨h1, h2, h3, h4, h5⟩ := h'
  obtain ⟨N, rfl⟩ := Int.eq_ofNat_of_zero_le (show 0 ≤ pages by omega)
  obtain ⟨S, rfl⟩ := Int.eq_ofNat_of_zero_le (show 0 ≤ page by omega)
  have H34 := Lib.hid (And.intro h3 h4)
  go_enter Try.func24, Try.ntmps24
  go_wp2
  generalize hW : w.alloc _ = W at *
  have hM : Mk w W w.heap.size 0 S (.slice none 0 0) (.slice none 0 0) := by
    rw [← hW]
    exact ⟨heap_alloc_new w _, World.ownsRow_nil _ _ _ _, World.ownsRow_nil _ _ _ _, (Below.refl _ _).alloc (Nat.le_refl _) _, Nat.le_refl _⟩
  clear hW
  go_loopw [7] (fun i wr => ∃ (j : Nat) (v1 v2 : Value), j ≤ N ∧ i = .int .i64 j ∧ Mk w wr w.heap.size j S v1 v2) (fun i _ => N - (intOf i).toNat)
  case atStart => exact ⟨0, _, _, Nat.zero_le _, rfl, hM⟩
  case round =>
    obtain ⟨j, v1, v2, hj, rfl, hm⟩ := hrel
    have HM := Lib.hid hm
    have hsz := hm.bel.size
    by_cases hlt : j < N
    · have c1 := cell_of hm.box 1
      have f1 : wr.frozen? ⟨w.heap.size, 1, none⟩ = false := by simp [World.frozen?, hm.box]
      simp only [List.getElem?_toArray, List.getElem?_cons_zero, List.getElem?_cons_succ] at c1
      clear hm hM
      go_wp2_with (first | (at_builtin; refine wp_appI2 wr rfl _ _ rfl w.heap.size v1 j _ (-1) rfl HM.out.own rfl (by omega) hsz ?_; intro b cap w2 ho hg; have hM1 := Lib.hid (HM.out.one ho hg); have hbx2 := HM.out.box1 hg; have d1 := cell_of hbx2 1; have d2 := cell_of hbx2 2; have g1 : w2.frozen? ⟨w.heap.size, 1, none⟩ = false := (by simp [World.frozen?, hbx2]); simp only [List.getElem?_toArray, List.getElem?_cons_zero, List.getElem?_cons_succ] at d1 d2; clear hbx2 ho hg) | (at_builtin; go_must (refine wp_appS2 (w2.setCell ⟨w.heap.size, 1, none⟩ (.slice (some ⟨b, 0, none⟩) (j + 1) cap)) rfl _ _ rfl w.heap.size v2 j _ rfl hM1.out.2.2.1 w2.heap.size (by simp) rfl (by omega) hM1.out.2.2.2.size ?_); intro b3 cap3 w3 ho3 hg3; have hM3 := Lib.hid (Mk.two hM1.out.1 hM1.out.2.1 hM1.out.2.2.1 hM1.out.2.2.2 (Nat.le_refl _) ho3 hg3); have hbx3 := box2 hM1.out.1 hM1.out.2.2.1 hg3; have k2 := cell_of hbx3 2; have g2 : w3.frozen? ⟨w.heap.size, 2, none⟩ = false := (by simp [World.frozen?, hbx3]); simp only [List.getElem?_toArray, List.getElem?_cons_zero, List.getElem?_cons_succ] at k2; clear hbx3 ho3 hg3))
      go_roundw
      case rel => exact ⟨j + 1, _, _, by omega, by go_num, hM3.out⟩
      case measure => simp [intOf]; omega
    · have hjN : j = N := by omega
      have HjN := Lib.hid hjN
      clear hm hM hjN
      go_wp2
      go_ret2
      obtain ⟨k, ck, r, cr, hR, l1, l2, l3⟩ := HM.out.done (by have := HjN.out; omega) (by have := H34.out; omega)
      rw [HjN.out] at hR
      exact .inr ⟨H.out, w.heap.size, k, ck, r, cr, rfl, hR, l1, l2, l3, HM.out.bel⟩
end Go.Proofs.Ytfmgncajhjkdlaa.R6
