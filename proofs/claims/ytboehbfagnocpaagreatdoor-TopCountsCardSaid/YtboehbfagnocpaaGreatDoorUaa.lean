/- Apl, Arm, Arw, Arp, Arb, Arx, Arz, Ary, Sbw, Srd, Spm. -/
import Derived.Test.YtboehbfagnocpaaGreatDoorRows
import Derived.WalkSpells
import Derived.WalkLawsBesides
import Derived.Lib.Hide
import Derived.Handy
import Derived.PlainAid
import Derived.Deep.LoopGhost
import Derived.Lib.AppendZerosOnto
import Derived.Deep.DeepAppendWide
import Derived.Lib.LazyBuf
import Derived.RangeFuncNested
import Derived.RangeFuncBound
import Derived.Shelf.RegionOpen
import Derived.OwnWalkIn
import Derived.LoopNIn
import Derived.LoopIn
import Derived.OrdersHeld
set_option linter.unusedVariables false
set_option linter.unusedSimpArgs false
set_option maxRecDepth 100000
open Go.Proofs.Tryz
open Go.Lib (hid)
namespace Go.Proofs.YtboehbfagnocpaaGreatDoor.AP
def owner (ow : List Int) (p : Int) : Int := if 0 ≤ p ∧ p < ow.length then ow[p.toNat]?.getD 0 - 1 else -1
def least (ow : List Int) : Nat := ow.findIdx (fun x => x == 0)
def idx (ow : List Int) : Int := if least ow < ow.length then (least ow : Int) else -1
def granted (ow : List Int) : Int := ow.countP (fun x => 0 < x)
def pages (ow : List Int) (o : Int) : List Int := ((List.range ow.length).filter (fun i => decide (0 < ow[i]?.getD 0 ∧ ow[i]?.getD 0 - 1 = o))).map (fun i : Nat => (i : Int))
def okO (o : Int) : Bool := decide (0 ≤ o ∧ o < 63)
def grP (ow : List Int) (o : Int) : Int := if okO o = true ∧ least ow < ow.length then (least ow : Int) else -1
def grE (ow : List Int) (o : Int) : Int := if okO o = true then (if least ow < ow.length then 0 else 5) else 1
def grO (ow : List Int) (o : Int) : List Int := if okO o = true ∧ least ow < ow.length then ow.set (least ow) (o + 1) else ow
def Rng (ow : List Int) : Prop := ∀ x ∈ ow, 0 ≤ x ∧ x ≤ 63
theorem Rng.at {ow : List Int} (h : Rng ow) (i : Nat) : 0 ≤ ow[i]?.getD 0 ∧ ow[i]?.getD 0 ≤ 63 := by
  by_cases hi : i < ow.length
  · simp [hi]; exact h _ (by simp)
  · simp [hi]
theorem Rng.set {ow : List Int} (h : Rng ow) {i : Nat} {c : Int} (h0 : 0 ≤ c) (h1 : c ≤ 63) : Rng (ow.set i c) := by
  intro x hx
  rcases List.mem_or_eq_of_mem_set hx with h2 | h2
  · exact h x h2
  · omega
theorem Rng.grO {ow : List Int} (h : Rng ow) (o : Int) : Rng (grO ow o) := by
  unfold AP.grO okO
  split
  · rename_i h1; simp at h1; exact h.set (by omega) (by omega)
  · exact h
theorem owner_at {ow : List Int} {k : Nat} (h : k < ow.length) : owner ow (k : Int) = ow[k]?.getD 0 - 1 := by
  unfold owner; rw [if_pos ⟨by omega, by omega⟩]; rfl
theorem owner_out {ow : List Int} {p : Int} (h : p < 0 ∨ (ow.length : Int) ≤ p) : owner ow p = -1 := by
  unfold owner; rw [if_neg (by omega)]
theorem least_ge {ow : List Int} {k : Nat} (h : ∀ j, j < k → ow[j]?.getD 0 ≠ 0) (hk : k ≤ ow.length) : k ≤ least ow := by
  unfold least
  refine Nat.le_of_not_lt fun hlt => ?_
  have hl : ow.findIdx (fun x => x == 0) < ow.length := by omega
  have := List.findIdx_getElem (w := hl)
  refine h _ hlt ?_
  simp [hl] at this ⊢
  exact this
theorem least_at {ow : List Int} {k : Nat} (h : ∀ j, j < k → ow[j]?.getD 0 ≠ 0) (hk : k < ow.length) (h0 : ow[k]?.getD 0 = 0) : least ow = k := by
  have h1 := least_ge h (by omega)
  refine Nat.le_antisymm (Nat.le_of_not_lt fun hlt => ?_) h1
  have := List.not_of_lt_findIdx hlt
  simp [hk] at h0 this
  exact this h0
theorem least_none {ow : List Int} (h : ∀ j, j < ow.length → ow[j]?.getD 0 ≠ 0) : least ow = ow.length := by
  have h1 := least_ge h (Nat.le_refl _)
  have : least ow ≤ ow.length := List.findIdx_le_length
  omega
theorem least_zero {ow : List Int} (h : least ow < ow.length) : ow[least ow]?.getD 0 = 0 := by
  have := List.findIdx_getElem (w := h)
  unfold least at *
  simp [h] at this ⊢
  exact this
theorem granted_snoc (ow : List Int) (k : Nat) (h : k < ow.length) (hr : Rng ow) : granted (ow.take (k + 1)) = granted (ow.take k) + min (ow[k]?.getD 0) 1 := by
  have := (hr.at k).1
  rw [List.take_succ_eq_append_getElem h]
  unfold granted
  rw [List.countP_append]
  have e : ow[k]?.getD 0 = ow[k] := by simp [h]
  rw [e] at this ⊢
  by_cases h0 : 0 < ow[k]
  · simp [h0]; omega
  · simp [h0]; omega
theorem granted_le (ow : List Int) : 0 ≤ granted ow ∧ granted ow ≤ ow.length := by
  unfold granted
  have := List.countP_le_length (p := fun x : Int => decide (0 < x)) (l := ow)
  omega
theorem pages_upto_succ (ow : List Int) (o : Int) (k : Nat) : ((List.range (k + 1)).filter (fun i => decide (0 < ow[i]?.getD 0 ∧ ow[i]?.getD 0 - 1 = o))).map (fun i : Nat => (i : Int)) =
    ((List.range k).filter (fun i => decide (0 < ow[i]?.getD 0 ∧ ow[i]?.getD 0 - 1 = o))).map (fun i : Nat => (i : Int)) ++ (if 0 < ow[k]?.getD 0 ∧ ow[k]?.getD 0 - 1 = o then [(k : Int)] else []) := by
  rw [List.range_succ, List.filter_append, List.map_append]
  congr 1
  by_cases h : 0 < ow[k]?.getD 0 ∧ ow[k]?.getD 0 - 1 = o
  · rw [if_pos h, List.filter_cons_of_pos (by exact decide_eq_true h)]; rfl
  · rw [if_neg h, List.filter_cons_of_neg (by simpa using h)]; rfl
end Go.Proofs.YtboehbfagnocpaaGreatDoor.AP
namespace Go.Proofs.YtboehbfagnocpaaGreatDoor
open Go.RowKit Go.PlainAid
theorem ret_int {k : IntKind} {a b : Int} (h : a = b) : Ending.returned (.int k a) = .returned (.int k b) := by rw [h]
theorem ret_bool {a b : Bool} (h : a = b) : Ending.returned (.bool a) = .returned (.bool b) := by rw [h]
theorem below_drewN {B : Nat} {a w : World} (h : Below B a w) (n : Nat) : Below B a (w.drewN n) := ⟨h.os, h.tape, h.output, h.size, h.block⟩
structure Ar (w : World) (g k np : Nat) (size : Int) (bv : Value) (ow bs : List Int) : Prop where
  box : w.heap[g]? = some (.cells #[.int .i64 size, bv, .slice (some ⟨k, 0, none⟩) np np] 167 (0, 0))
  own : w.ownsRow 0 3 1 (.slice (some ⟨k, 0, none⟩) np np) np (ow.map (.int .i64))
  byt : w.ownsRow 0 5 1 bv bs.length (bs.map (.int .u8))
  len : ow.length = np
  np1 : 1 ≤ np ∧ np ≤ 1024
  rng : AP.Rng ow
  siz : 512 ≤ size ∧ size ≤ 65536
theorem cell_of {w : World} {g : Nat} {cs : Array Value} {t : TypeId} {m : Nat × Nat} (h : w.heap[g]? = some (.cells cs t m)) (i : Nat) : w.cell? ⟨g, i, none⟩ = cs[i]? := cell_of_row w g i cs t m h
theorem own_int {w : World} {base g N cap : Nat} {r : List Int} (h : w.ownsRow base 3 1 (.slice (some ⟨g, 0, none⟩) N cap) N (r.map (.int .i64))) (i : Nat) (hi : i < N) :
    w.cell? ⟨g, i, none⟩ = some (.int .i64 (r[i]?.getD 0)) := by
  have hl : r.length = N := by simpa using h.1
  rw [h.cellAt i (by omega)]
  simp [show i < r.length by omega]
section
variable {w : World} {g k np : Nat} {size : Int} {bv : Value} {ow bs : List Int}
theorem Ar.c0 (h : Ar w g k np size bv ow bs) : w.cell? ⟨g, 0, none⟩ = some (.int .i64 size) := cell_of h.box 0
theorem Ar.c1 (h : Ar w g k np size bv ow bs) : w.cell? ⟨g, 1, none⟩ = some bv := cell_of h.box 1
theorem Ar.c2 (h : Ar w g k np size bv ow bs) : w.cell? ⟨g, 2, none⟩ = some (.slice (some ⟨k, 0, none⟩) np np) := cell_of h.box 2
theorem Ar.co (h : Ar w g k np size bv ow bs) (i : Nat) (hi : i < np) : w.cell? ⟨k, i, none⟩ = some (.int .i64 (ow[i]?.getD 0)) := own_int h.own i hi
end
set_option maxHeartbeats 400000 in
theorem owner_any {w : World} {g k np : Nat} {size : Int} {bv : Value} {ow bs : List Int} (h : Ar w g k np size bv ow bs) (p : Int) :
    Calls prog 187 #[.pointer (some ⟨g, 0, none⟩), .int .i64 p] w fun e w' => e = .returned (.int .i64 (AP.owner ow p)) ∧ w = w' := by
  have c2 := h.c2
  have hnp := h.np1
  have hlen := hid h.len
  by_cases h0 : p < 0
  · have Hr := hid (AP.owner_out (ow := ow) (.inl h0))
    clear h
    go_enter func187, ntmps187
    go_wp2
    go_ret
    exact ⟨ret_int Hr.out.symm, rfl⟩
  · obtain ⟨q, rfl⟩ := Int.eq_ofNat_of_zero_le (Int.not_lt.1 h0)
    by_cases h1 : q < np
    · have hc := h.co q h1
      have hb := h.rng.at q
      have Hr := hid (AP.owner_at (ow := ow) (k := q) (by rw [hlen.out]; exact h1))
      clear h
      go_enter func187, ntmps187
      go_wp2
      go_ret
      exact ⟨ret_int Hr.out.symm, rfl⟩
    · have Hr := hid (AP.owner_out (ow := ow) (p := (q : Int)) (.inr (by rw [hlen.out]; omega)))
      clear h
      go_enter func187, ntmps187
      go_wp2
      go_ret
      exact ⟨ret_int Hr.out.symm, rfl⟩
set_option maxHeartbeats 400000 in
theorem page_any {w : World} {g k np : Nat} {size : Int} {bv : Value} {ow bs : List Int} (h : Ar w g k np size bv ow bs) :
    Calls prog 96 #[.pointer (some ⟨g, 0, none⟩)] w fun e w' => e = .returned (.int .i64 size) ∧ w = w' := by
  have c0 := h.c0
  clear h
  go_enter func96, ntmps96
  go_wp2
  go_ret
  exact ⟨rfl, rfl⟩
set_option maxHeartbeats 400000 in
theorem granted_any {w : World} {g k np : Nat} {size : Int} {bv : Value} {ow bs : List Int} (h : Ar w g k np size bv ow bs) :
    Calls prog 95 #[.pointer (some ⟨g, 0, none⟩)] w fun e w' => e = .returned (.int .i64 (AP.granted ow)) ∧ w = w' := by
  have c2 := h.c2
  have hnp := h.np1
  have hlen := hid h.len
  have hrng := hid h.rng
  have hco := hid h.co
  clear h
  go_enter func95, ntmps95
  go_wp2
  go_loop [3, 11] (fun n i => ∃ j : Nat, j ≤ np ∧ i = .int .i64 j ∧ n = .int .i64 (AP.granted (ow.take j))) (fun _ i => np - (intOf i).toNat)
  case atStart => exact ⟨0, Nat.zero_le _, rfl, rfl⟩
  case round =>
    obtain ⟨j, hj, rfl, rfl⟩ := hrel
    have hg := AP.granted_le (ow.take j)
    have hgl : ((ow.take j).length : Int) ≤ 1024 := by have := hlen.out; simp; omega
    by_cases hlt : j < np
    · have hc := hco.out j hlt
      have hb := hrng.out.at j
      have Hs := hid (AP.granted_snoc ow j (by rw [hlen.out]; exact hlt) hrng.out)
      by_cases h1 : ow[j]?.getD 0 ≤ 1
      · have Hm := hid (show min (ow[j]?.getD 0) 1 = ow[j]?.getD 0 by omega)
        go_wp2
        all_goals
          go_round
          case rel => exact ⟨j + 1, by omega, by go_num, by rw [Hs.out, Hm.out]⟩
          case measure => simp [intOf]; omega
      · have Hm := hid (show min (ow[j]?.getD 0) 1 = 1 by omega)
        go_wp2
        all_goals
          go_round
          case rel => exact ⟨j + 1, by omega, by go_num, by rw [Hs.out, Hm.out]⟩
          case measure => simp [intOf]; omega
    · have Ht := hid (show ow.take j = ow from List.take_of_length_le (by rw [hlen.out]; omega))
      go_wp2
      go_ret
      exact ⟨ret_int (by rw [Ht.out]), rfl⟩
set_option maxHeartbeats 400000 in
theorem index_any {w : World} {g k np : Nat} {size : Int} {bv : Value} {ow bs : List Int} (h : Ar w g k np size bv ow bs) :
    Calls prog 276 #[.slice (some ⟨k, 0, none⟩) np np, .int .i64 0] w fun e w' => e = .returned (.int .i64 (AP.idx ow)) ∧ w = w' := by
  have hnp := h.np1
  have hlen := hid h.len
  have hco := hid h.co
  clear h
  go_enter func276, ntmps276
  go_wp2
  go_loop [8] (fun i => ∃ j : Nat, j ≤ np ∧ i = .int .i64 j ∧ ∀ q, q < j → ow[q]?.getD 0 ≠ 0) (fun i => np - (intOf i).toNat)
  case atStart => exact ⟨0, Nat.zero_le _, rfl, fun q hq => by omega⟩
  case round =>
    obtain ⟨j, hj, rfl, hall⟩ := hrel
    have Hall := hid hall
    clear hall
    by_cases hlt : j < np
    · have hc := hco.out j hlt
      by_cases h0 : ow[j]?.getD 0 = 0
      · have hl := AP.least_at Hall.out (by rw [hlen.out]; exact hlt) h0
        have Hr := hid (show AP.idx ow = (j : Int) by unfold AP.idx; rw [hl, hlen.out, if_pos hlt])
        clear hl
        have h0' : ((0 : Int) == ow[j]?.getD 0) = true := by simp [h0]
        clear h0
        go_wp2
        go_ret
        exact ⟨ret_int Hr.out.symm, rfl⟩
      · have h0' : ((0 : Int) == ow[j]?.getD 0) = false := by simp; omega
        have H0 := hid h0
        clear h0
        go_wp2
        go_round
        case rel =>
          refine ⟨j + 1, by omega, by go_num, fun q hq => ?_⟩
          rcases Nat.lt_succ_iff_lt_or_eq.1 hq with h | rfl
          · exact Hall.out q h
          · exact H0.out
        case measure => simp [intOf]; omega
    · have hl := AP.least_none (ow := ow) (fun q hq => Hall.out q (by rw [hlen.out] at hq; omega))
      have Hr := hid (show AP.idx ow = -1 by unfold AP.idx; rw [hl, if_neg (by omega)])
      clear hl
      go_wp2
      go_ret
      exact ⟨ret_int Hr.out.symm, rfl⟩
theorem only_setCell {a w : World} {g : Nat} (h : a.grownBy w (some g)) (i : Nat) (u : Value) : a.grownBy (w.setCell ⟨g, i, none⟩ u) (some g) :=
  ⟨h.os, h.tape, h.output, by simpa [World.setCell] using h.size, fun j hj hne => (Below.heap_setCell w ⟨g, i, none⟩ u j (by rintro rfl; exact hne rfl)).trans (h.block j hj hne)⟩
theorem Ar.setOw {w : World} {g k np : Nat} {size : Int} {bv : Value} {ow bs : List Int} (h : Ar w g k np size bv ow bs) (i : Nat) (c : Int) (h0 : 0 ≤ c) (h1 : c ≤ 63) :
    Ar (w.setCell ⟨k, i, none⟩ (.int .i64 c)) g k np size bv (ow.set i c) bs ∧ w.grownBy (w.setCell ⟨k, i, none⟩ (.int .i64 c)) (some k) := by
  have hst := h.own.stored i (.int .i64 c)
  rw [← List.map_set] at hst
  have hg : w.grownBy (w.setCell ⟨k, i, none⟩ (.int .i64 c)) (some k) := only_setCell (World.grownBy.refl w _) i _
  obtain ⟨k', cap', cur, e, _, hk, _⟩ : ∃ g' cap cur, (Value.slice (some ⟨k, 0, none⟩) np np) = .slice (some ⟨g', 0, none⟩) np cap ∧ (0 : Nat) ≤ g' ∧ w.heap[g']? = some (.cells cur 3 (0, 0)) ∧ True := by
    rcases h.own.2 with ⟨h1, _⟩ | ⟨g', cap, cur, h1, h2, h3, _⟩
    · cases h1
    · exact ⟨g', cap, cur, h1, h2, h3, trivial⟩
  simp only [Value.slice.injEq, Option.some.injEq, Addr.mk.injEq, and_true, true_and] at e
  obtain ⟨rfl, rfl⟩ := e
  have hgk : g ≠ k := by
    rintro rfl
    rw [h.box] at hk
    simp at hk
  refine ⟨⟨?_, hst.1, h.byt.kept hg ?_, by simp [h.len], h.np1, h.rng.set h0 h1, h.siz⟩, hg⟩
  · rw [Below.heap_setCell _ _ _ _ hgk]; exact h.box
  · rcases h.byt.2 with ⟨rfl, _⟩ | ⟨b, cap, cur', rfl, _, hb, _⟩
    · exact .inl rfl
    · right
      intro e
      simp [Value.ownBlock] at e
      subst e
      rw [hk] at hb
      simp at hb
theorem idx_facts {ow : List Int} {np : Nat} (hlen : ow.length = np) : (AP.idx ow = -1 ∧ ¬ AP.least ow < ow.length) ∨ (∃ q : Nat, q < np ∧ AP.idx ow = (q : Int) ∧ AP.least ow = q ∧ AP.least ow < ow.length) := by
  unfold AP.idx
  by_cases h : AP.least ow < ow.length
  · right; exact ⟨_, by omega, by rw [if_pos h], rfl, h⟩
  · left; exact ⟨by rw [if_neg h], h⟩
def GrPost (ow bs : List Int) (g k np : Nat) (size : Int) (bv : Value) (o : Int) (w : World) (e : Ending) (w' : World) : Prop :=
  e = .returned (.tuple #[.int .i64 (AP.grP ow o), .int .i64 (AP.grE ow o)]) ∧ Ar w' g k np size bv (AP.grO ow o) bs ∧ w.grownBy w' (some k)
set_option maxHeartbeats 400000 in
theorem grant_any {w : World} {g k np : Nat} {size : Int} {bv : Value} {ow bs : List Int} (h : Ar w g k np size bv ow bs) (o : Int) :
    Calls prog 235 #[.pointer (some ⟨g, 0, none⟩), .int .i64 o] w (GrPost ow bs g k np size bv o w) := by
  have c2 := h.c2
  have hnp := h.np1
  have H := hid h
  have Hi := hid (index_any h)
  clear h
  by_cases ho : 0 ≤ o ∧ o < 63
  · have hok : AP.okO o = true := by unfold AP.okO; exact decide_eq_true ho
    have Hok := hid hok
    clear hok
    obtain ⟨ho1, ho2⟩ := ho
    rcases idx_facts (ow := ow) H.out.len with ⟨hi, hl⟩ | ⟨q, hq, hi, hl1, hl2⟩
    · have Hp : Hid (GrPost ow bs g k np size bv o w (.returned (.tuple #[.int .i64 (-1), .int .i64 5])) w) := by
        refine hid ⟨?_, ?_, World.grownBy.refl w _⟩
        · unfold AP.grP AP.grE; rw [if_neg (fun h => hl h.2), if_pos Hok.out, if_neg hl]
        · unfold AP.grO; rw [if_neg (fun h => hl h.2)]; exact H.out
      have HI := hid hi
      clear hi hl
      go_enter func235, ntmps235
      go_wp2_with (fail)
      refine Hi.out.mono ?_
      rintro e w' ⟨rfl, rfl⟩
      rw [HI.out]
      go_wp2_with (fail)
      go_ret2
      exact Hp.out
    · have hf := (H.out.own.frozenAt q)
      have hc := H.out.co q hq
      have Hp : Hid (GrPost ow bs g k np size bv o w (.returned (.tuple #[.int .i64 q, .int .i64 0])) (w.setCell ⟨k, q, none⟩ (.int .i64 (o + 1)))) := by
        obtain ⟨s1, s2⟩ := H.out.setOw q (o + 1) (by omega) (by omega)
        refine hid ⟨?_, ?_, s2⟩
        · unfold AP.grP AP.grE; rw [if_pos ⟨Hok.out, hl2⟩, if_pos Hok.out, if_pos hl2, hl1]
        · unfold AP.grO; rw [if_pos ⟨Hok.out, hl2⟩, hl1]; exact s1
      have HI := hid hi
      clear hi hl1 hl2
      go_enter func235, ntmps235
      go_wp2_with (fail)
      refine Hi.out.mono ?_
      rintro e w' ⟨rfl, rfl⟩
      rw [HI.out]
      go_wp2_with (fail)
      go_ret2
      exact Hp.out
  · have hok : ¬ AP.okO o = true := by unfold AP.okO; simpa using ho
    have Hp : Hid (GrPost ow bs g k np size bv o w (.returned (.tuple #[.int .i64 (-1), .int .i64 1])) w) := by
      refine hid ⟨?_, ?_, World.grownBy.refl w _⟩
      · unfold AP.grP AP.grE; rw [if_neg (fun h => hok h.1), if_neg hok]
      · unfold AP.grO; rw [if_neg (fun h => hok h.1)]; exact H.out
    clear hok
    by_cases h0 : o < 0
    · clear ho
      go_enter func235, ntmps235
      go_wp2_with (fail)
      go_ret2
      exact Hp.out
    · have h1 : 63 ≤ o := by omega
      clear ho
      go_enter func235, ntmps235
      go_wp2_with (fail)
      go_ret2
      exact Hp.out
theorem owner_facts {ow : List Int} {np : Nat} (hr : AP.Rng ow) (hlen : ow.length = np) (p : Int) : (AP.owner ow p < 0) ∨ (∃ q : Nat, q < np ∧ p = (q : Int) ∧ 0 ≤ AP.owner ow p) := by
  by_cases h : AP.owner ow p < 0
  · exact .inl h
  · right
    by_cases hp : 0 ≤ p ∧ p < ow.length
    · exact ⟨p.toNat, by omega, by omega, by omega⟩
    · exfalso; unfold AP.owner at h; rw [if_neg hp] at h; omega
theorem Tryz.infoI : (prog.info? 3).map (fun i => (i.zero, i.size, i.bytes)) = some (some (.int .i64 0), 1, 8) := by kernel_rfl
theorem Tryz.infoB : (prog.info? 5).map (fun i => (i.zero, i.size, i.bytes)) = some (some (.int .u8 0), 1, 1) := by kernel_rfl
theorem wp_appI {ops : Array Oper} {rest : List Oper} {o : Oper} {a : Act} {Q : Exit → Act → World → Prop} (w0 w : World) (hgd : o.guard = none) (s x : Operand)
    (ho : o.op = .call { callee := .builtin .append, args := #[s, x], argTypes := #[39, 39] }) (base : Nat) (v : Value) (n : Nat) (xs : List Int) (u : Int)
    (hs : a.eval s = v) (hown : w.ownsRow base 3 1 v n (xs.map (.int .i64))) (hx : a.eval x = .slice (some ⟨w.heap.size, 0, none⟩) 1 1)
    (hbel : Below base w0 w) (hn : n + 1 < 1000000000000) (hbase : base ≤ w.heap.size)
    (h : ∀ g cap w', w'.ownsRow base 3 1 (.slice (some ⟨g, 0, none⟩) (n + 1) cap) (n + 1) ((xs ++ [u]).map (.int .i64)) → Below base w0 w' → wpList prog ops Q rest (a.put o.dst (.slice (some ⟨g, 0, none⟩) (n + 1) cap)) w') :
    wpList prog ops Q (o :: rest) a (w.alloc (.cells #[.int .i64 u] 3)) := by
  obtain ⟨i0, hi, hz0, hz1, hz2⟩ := info_parts Tryz.infoI
  refine wpList_append_own _ hgd s x 39 ho base 3 i0 (.int .i64 0) 1 8 underlying39 hi hz0 hz1 hz2 rfl (by decide) v n _ hs (hown.alloc _) ⟨w.heap.size, 0, none⟩ 1 1 [.int .i64 u] hx (by simp) ?_ ?_ ?_ ?_ (by simp; omega) ?_
  · intro j y hj
    have hj0 : j < 1 := by have := (List.getElem?_eq_some_iff.1 hj).1; simpa using this
    obtain rfl : j = 0 := by omega
    simp at hj
    subst hj
    simp [Addr.add]
  · intro y hy
    simp at hy
    subst hy
    rfl
  · unfold maxLen; omega
  · omega
  · intro v' w' hown' hgrow hiff
    have hb' : Below base w0 w' := (hbel.alloc hbase _).grown hgrow (by simp; omega) (fun k hk => (hown.lt k hk).1)
    rcases hown'.2 with ⟨rfl, h0⟩ | ⟨g, cap, cur, rfl, _⟩
    · omega
    · exact h g cap w' (by simpa using hown') hb'
def pgs (ow : List Int) (o : Int) (k : Nat) : List Int := ((List.range k).filter (fun i => decide (0 < ow[i]?.getD 0 ∧ ow[i]?.getD 0 - 1 = o))).map (fun i : Nat => (i : Int))
theorem pgs_yes {ow : List Int} {o : Int} {k : Nat} (h : 0 < ow[k]?.getD 0) (h2 : ow[k]?.getD 0 - 1 = o) : pgs ow o (k + 1) = pgs ow o k ++ [(k : Int)] := by
  unfold pgs; rw [AP.pages_upto_succ, if_pos ⟨h, h2⟩]
theorem pgs_no {ow : List Int} {o : Int} {k : Nat} (h : ¬ (0 < ow[k]?.getD 0 ∧ ow[k]?.getD 0 - 1 = o)) : pgs ow o (k + 1) = pgs ow o k := by
  unfold pgs; rw [AP.pages_upto_succ, if_neg h, List.append_nil]
def PgPost (ow : List Int) (o : Int) (w : World) (e : Ending) (w' : World) : Prop :=
  ∃ v, e = .returned v ∧ w'.ownsRow w.heap.size 3 1 v (AP.pages ow o).length ((AP.pages ow o).map (.int .i64)) ∧ Below w.heap.size w w'
set_option maxHeartbeats 400000 in
theorem pages_any {w : World} {g k np : Nat} {size : Int} {bv : Value} {ow bs : List Int} (h : Ar w g k np size bv ow bs) (o : Int) :
    Calls prog 238 #[.pointer (some ⟨g, 0, none⟩), .int .i64 o] w (PgPost ow o w) := by
  have c2 := h.c2
  have hnp := h.np1
  have hkl : k < w.heap.size := (h.own.lt k rfl).2
  have hlen := hid h.len
  have hrng := hid h.rng
  have hco := hid h.co
  clear h
  go_enter func238, ntmps238
  go_wp2
  go_loopw [5, 13] (fun v i wr => ∃ (j n : Nat) (ad : Option Addr) (cap : Nat), j ≤ np ∧ i = .int .i64 j ∧ n = (pgs ow o j).length ∧ n ≤ j ∧ v = .slice ad n cap ∧ wr.ownsRow w.heap.size 3 1 (.slice ad n cap) n ((pgs ow o j).map (.int .i64)) ∧ Below w.heap.size w wr) (fun _ i _ => np - (intOf i).toNat)
  case atStart => exact ⟨0, 0, none, 0, Nat.zero_le _, rfl, rfl, by omega, rfl, World.ownsRow_nil _ _ _ _, Below.refl _ _⟩
  case round =>
    obtain ⟨j, n, ad, cap, hj, rfl, hn, hnj, rfl, hown, hbel⟩ := hrel
    have Hn := hid hn
    clear hn
    have hsz := hbel.size
    by_cases hlt : j < np
    · have hc := (hbel.cell (p := ⟨k, j, none⟩) hkl).trans (hco.out j hlt)
      have hb := hrng.out.at j
      by_cases h0 : 0 < ow[j]?.getD 0
      · by_cases h1 : ow[j]?.getD 0 - 1 = o
        · have Hs := hid (pgs_yes h0 h1)
          have h1' : (ow[j]?.getD 0 - 1 == o) = true := by simp [h1]
          clear h1
          go_wp2_with (at_builtin; go_must (refine wp_appI w wr rfl _ _ rfl w.heap.size (.slice ad n cap) n (pgs ow o j) (j : Int) rfl hown rfl hbel (by omega) hsz ?_); intro g2 cap2 w2 hown2 hbel2)
          go_roundw
          case rel => exact ⟨j + 1, n + 1, _, cap2, by omega, by go_num, by rw [Hs.out, List.length_append, ← Hn.out]; rfl, by omega, rfl, by rw [Hs.out]; exact hown2, hbel2⟩
          case measure => simp [intOf]; omega
        · have Hs := hid (pgs_no (ow := ow) (o := o) (k := j) (fun hh => h1 hh.2))
          have h1' : (ow[j]?.getD 0 - 1 == o) = false := by simp [h1]
          clear h1
          go_wp2
          go_roundw
          case rel => exact ⟨j + 1, n, ad, cap, by omega, by go_num, by rw [Hs.out]; exact Hn.out, by omega, rfl, by rw [Hs.out]; exact hown, hbel⟩
          case measure => simp [intOf]; omega
      · have Hs := hid (pgs_no (ow := ow) (o := o) (k := j) (fun hh => h0 hh.1))
        go_wp2
        go_roundw
        case rel => exact ⟨j + 1, n, ad, cap, by omega, by go_num, by rw [Hs.out]; exact Hn.out, by omega, rfl, by rw [Hs.out]; exact hown, hbel⟩
        case measure => simp [intOf]; omega
    · have hjn : j = np := by omega
      have He : Hid (AP.pages ow o = pgs ow o j) := hid (by unfold AP.pages pgs; rw [hlen.out, hjn])
      have Hjn := hid hjn
      clear hjn
      go_wp2
      go_ret
      exact ⟨_, rfl, by rw [He.out, ← Hn.out]; exact hown, hbel⟩
def okNew (pages page : Int) : Bool := decide (1 ≤ pages ∧ pages ≤ 1024 ∧ 512 ≤ page ∧ page ≤ 65536 ∧ page % 8 = 0)
def NewPost (pages page : Int) (w : World) (e : Ending) (w' : World) : Prop :=
  (okNew pages page = false ∧ e = .returned (.tuple #[.pointer none, .int .i64 1]) ∧ w = w') ∨
  (okNew pages page = true ∧ ∃ g k, e = .returned (.tuple #[.pointer (some ⟨g, 0, none⟩), .int .i64 0]) ∧ Ar w' g k pages.toNat page (.slice none 0 0) (List.replicate pages.toNat 0) [] ∧ w.heap.size ≤ g ∧ w.heap.size ≤ k ∧ Below w.heap.size w w')
theorem i64_and7 (n : Int) : bits .and .i64 n 7 = n % 8 := by
  have h127 : (BitVec.ofInt 64 7).toNat = 2 ^ 3 - 1 := by decide
  have key : (BitVec.ofInt 64 n &&& BitVec.ofInt 64 7).toNat = (n % ((2 ^ 64 : Nat) : Int)).toNat % 2 ^ 3 := by
    rw [BitVec.toNat_and, BitVec.toNat_ofInt, h127, Nat.and_two_pow_sub_one_eq_mod]
  show IntKind.i64.wrap ((BitVec.ofInt 64 n &&& BitVec.ofInt 64 7).toNat : Nat) = n % 8
  rw [key, IntKind.wrap_i64]
  omega
theorem and7 (n : Int) (h0 : 0 ≤ n) (h1 : n ≤ 65536) : bits .and .i64 n 7 = n % 8 := i64_and7 n
theorem zeros_list (N : Nat) : (madeCells (Value.int .i64 0).cells (N * 1)).toList = (List.replicate N (0 : Int)).map (.int .i64) := by
  rw [Nat.mul_one]; exact (toList_madeCells_one _ N).trans (by simp)
set_option maxHeartbeats 400000 in
theorem new_yes (pages page : Int) (w : World) (h : okNew pages page = true) : Calls prog 43 #[.int .i64 pages, .int .i64 page] w (NewPost pages page w) := by
  have h' : 1 ≤ pages ∧ pages ≤ 1024 ∧ 512 ≤ page ∧ page ≤ 65536 ∧ page % 8 = 0 := by simpa [okNew] using h
  have H := hid h
  clear h
  obtain ⟨h1, h2, h3, h4, h5⟩ := h'
  have h6 : (bits .and .i64 page 7 != 0) = false := by rw [and7 page (by omega) (by omega)]; simp; omega
  obtain ⟨N, rfl⟩ := Int.eq_ofNat_of_zero_le (show 0 ≤ pages by omega)
  clear h5
  obtain ⟨i0, hi, hz0, hz1, hz2⟩ := info_parts Tryz.infoI
  go_enter func43, ntmps43
  go_wp2_with (at_make; go_must (refine wpList_make_full w rfl _ _ 39 rfl w.heap.size 3 i0 (.int .i64 0) 1 underlying39 hi hz0 hz1 _ _ _ _ N rfl rfl rfl rfl (by rw [hz2]; omega) (by unfold maxLen; omega) (Nat.le_refl _) ?_); intro w2 ho2 hg2)
  rw [zeros_list] at ho2
  have hb2 : Below w.heap.size w w2 := (Below.refl _ _).grown hg2 (Nat.le_refl _) (fun _ h => by cases h)
  have hk := ho2.lt _ rfl
  go_ret2
  refine .inr ⟨H.out, w2.heap.size, _, rfl, ⟨heap_alloc_new w2 _, ?_, World.ownsRow_nil _ _ _ _, by simp, by simp; omega, fun x hx => ?_, ⟨by omega, by omega⟩⟩, hb2.size, hk.1, hb2.alloc hb2.size _⟩
  · rw [Int.toNat_natCast]
    have := (ho2.alloc (.cells #[.int .i64 page, .slice none 0 0, .slice (some ⟨w.heap.size, 0, none⟩) N N] 167))
    refine ⟨this.1, ?_⟩
    rcases this.2 with h | ⟨g, cap, cur, a, b, c⟩
    · exact .inl h
    · exact .inr ⟨g, cap, cur, a, Nat.zero_le _, c⟩
  · have := List.eq_of_mem_replicate hx
    omega
namespace AP
def ext (bs : List Int) (M : Nat) : List Int := bs ++ List.replicate (M - bs.length) 0
theorem ext_len (bs : List Int) (M : Nat) : (ext bs M).length = max bs.length M := by unfold ext; simp; omega
theorem ext_none {bs : List Int} {M : Nat} (h : M ≤ bs.length) : ext bs M = bs := by unfold ext; rw [show M - bs.length = 0 by omega]; simp
def splice (xs : List Int) (off : Nat) (ys : List Int) : List Int := xs.take off ++ ys ++ xs.drop (off + ys.length)
theorem splice_nil (xs : List Int) (off : Nat) : splice xs off [] = xs := by simp [splice]
theorem splice_len {xs : List Int} {off : Nat} {ys : List Int} (h : off + ys.length ≤ xs.length) : (splice xs off ys).length = xs.length := by
  simp [splice]; omega
end AP
def RB (w : World) (v : Value) (l : List Int) : Prop :=
  ∃ a cap, v = .slice a l.length cap ∧ (l ≠ [] → ∃ b o, a = some ⟨b, o, none⟩ ∧ ∀ i, i < l.length → w.cell? ⟨b, o + i, none⟩ = some (.int .u8 (l[i]?.getD 0)))
theorem RB.below {w w' : World} {v : Value} {l : List Int} (h : RB w v l) (hb : Below w.heap.size w w') : RB w' v l := by
  obtain ⟨a, cap, rfl, hc⟩ := h
  refine ⟨a, cap, rfl, fun hne => ?_⟩
  obtain ⟨b, o, rfl, hcc⟩ := hc hne
  refine ⟨b, o, rfl, fun i hi => ?_⟩
  have h1 := hcc i hi
  rw [hb.cell (World.block_lt_of_cell? _ _ h1)]
  exact h1
theorem rb_own {w : World} {base n : Nat} {v : Value} {l : List Int} (h : w.ownsRow base 5 1 v n (l.map (.int .u8))) : RB w v l := by
  have hn : l.length = n := by simpa using h.1
  subst hn
  rcases h.2 with ⟨rfl, h0⟩ | ⟨g, cap, cur, rfl, _⟩
  · exact ⟨none, 0, by rw [h0], fun hne => absurd (List.eq_nil_of_length_eq_zero h0) hne⟩
  · refine ⟨some ⟨g, 0, none⟩, cap, rfl, fun _ => ⟨g, 0, rfl, fun i hi => ?_⟩⟩
    have := h.cellAt i (by omega)
    rw [Nat.zero_add, this]
    simp [hi]
theorem zeros_u8 (k : Nat) : (Builtin.zeroCells (Value.int .u8 0).cells k).toList = (List.replicate k (0 : Int)).map (.int .u8) := by
  refine List.ext_getElem (by simp [Builtin.zeroCells, Value.cells]) (fun i h1 h2 => ?_)
  simp [Builtin.zeroCells, Value.cells, Nat.mod_one]
theorem zeros_size (k : Nat) : (Builtin.zeroCells (Value.int .u8 0).cells k).size = k := by simp [Builtin.zeroCells, Value.cells]
theorem run_app_zeros (w : World) (ty : TypeId) (base : Nat) (v : Value) (n : Nat) (xs : List Int) (hown : w.ownsRow base 5 1 v n (xs.map (.int .u8))) (k : Nat) (h0 : 0 < k) (hn : n + k ≤ 100000000) (hbase : base ≤ w.heap.size) :
    ∃ h cap w', (Builtin.append_ #[118, 3] ty #[v, .int .i64 k]).run prog w = .ok (.slice (some ⟨h, 0, none⟩) (n + k) cap) w' ∧ w'.ownsRow base 5 1 (.slice (some ⟨h, 0, none⟩) (n + k) cap) (n + k) ((xs ++ List.replicate k 0).map (.int .u8)) ∧ w.grownBy w' v.ownBlock ∧ (v.ownBlock = some h ∨ w.heap.size ≤ h) := by
  obtain ⟨i0, hi, hz0, hz1, hz2⟩ := info_parts Tryz.infoB
  have hlx : xs.length = n := by simpa using hown.1
  have fresh : ∀ old, old < n + k → (w.drew.alloc (.cells ((xs.map (Value.int .u8)).toArray ++ Builtin.zeroCells (Value.int .u8 0).cells k ++ Builtin.zeroCells (Value.int .u8 0).cells (grownCap w (n + k) old 5 - (n + k))) 5)).ownsRow base 5 1
        (.slice (some ⟨w.heap.size, 0, none⟩) (n + k) (grownCap w (n + k) old 5)) (n + k) ((xs ++ List.replicate k 0).map (.int .u8)) := by
    intro old ho
    have hge := grownCap_ge w (n + k) old 5
    have hcm : grownCap w (n + k) old 5 ≤ maxLen := grownCap_le_maxLen w (n + k) old 5 (by unfold maxLen; omega)
    refine ⟨by simp [hlx], .inr ⟨w.heap.size, _, _, rfl, hbase, heap_alloc_new w.drew _, hge, hcm, ?_, ?_⟩⟩
    · simp only [Array.size_append, List.size_toArray, zeros_size, List.length_map, hlx]; omega
    · simp only [Array.toList_append, List.append_assoc, zeros_u8, Nat.mul_one]
      rw [← List.append_assoc, ← List.map_append]
      exact List.take_left' (by simp [hlx])
  have grown : ∀ (o : Obj) (row : Option Nat), w.grownBy (w.drew.alloc o) row := fun o row => ⟨rfl, rfl, rfl, by simp, fun j hj _ => Below.heap_alloc w.drew o j hj⟩
  rcases hown.2 with ⟨rfl, rfl⟩ | ⟨g, cap, cur, rfl, hbg, hg, hnc, hcm, hcs, htake⟩
  · obtain rfl : xs = [] := List.eq_nil_of_length_eq_zero hlx
    have hr := Lib.run_append_nil_zeros (P := prog) w 118 3 ty 5 i0 (.int .u8 0) .i64 .i64 underlying118 underlying3 hi hz0 k h0 (by omega) (by omega) (by rw [hz2]; omega)
    have hf := fresh 0 (by omega)
    simp only [Nat.zero_add, List.nil_append, List.map_nil] at hf ⊢
    exact ⟨_, _, _, hr, by simpa using hf, grown _ _, .inr (Nat.le_refl _)⟩
  · by_cases hroom : n + k ≤ cap
    · have hst := run_storeCells_at prog g n 5 ((List.replicate k (0 : Int)).map (.int .u8)) 0 cur w hg (by simp; omega) (by
        intro u hu
        obtain ⟨z, _, rfl⟩ := List.mem_map.1 hu
        rfl)
      simp only [Nat.add_zero] at hst
      have hk : k ≠ 0 := by omega
      have hw : IntKind.i64.wrap (k : Int) = k := by rw [IntKind.wrap_i64]; omega
      have hneg : ¬ ((k : Int) < 0) := by omega
      have h48i : ¬ (281474976710656 < (k : Int) * (i0.bytes : Int)) := by rw [hz2]; omega
      refine ⟨g, cap, w.setRow g (cur.toList.take n ++ (List.replicate k (0 : Int)).map (Value.int .u8) ++ cur.toList.drop (n + ((List.replicate k (0 : Int)).map (Value.int .u8)).length)).toArray, ?_, ⟨by simp [hlx], .inr ⟨g, cap, _, rfl, hbg, setRow_heap w g cur _ 5 _ hg, hroom, hcm, ?_, ?_⟩⟩, ⟨rfl, rfl, rfl, by simp, fun j _ hj => setRow_other w g j _ (fun e => hj (by simp [Value.ownBlock, e]))⟩, .inl rfl⟩
      · have hzz : (Builtin.zeroCells (Value.int IntKind.u8 0).cells k).toList = (List.replicate k (0 : Int)).map (.int .u8) := zeros_u8 k
        simp [-List.map_replicate, Builtin.append_, run_underlying underlying118, run_underlying underlying3, sizeOf, typeInfo, zeroValue, hi, hz0, hz1, asInt, asIntOf, hw, hneg, hk, h48i, hroom, Addr.add_lit, hzz, hst]
      · simp; omega
      · have hxt : cur.toList.take n = xs.map (.int .u8) := by rw [← htake, Nat.mul_one]
        rw [hxt, ← List.map_append, Nat.mul_one]
        exact List.take_left' (by simp [hlx])
    · have holds : ∀ j u, (xs.map (Value.int .u8))[j]? = some u → w.drew.cell? ((⟨g, 0, none⟩ : Addr).add j) = some u := hown.cells (g := g) rfl
      have hold := run_firstCells_some (P := prog) w.drew i0.size n ⟨g, 0, none⟩ n cap (xs.map (Value.int .u8)) (by rw [hz1]; simp [hlx]) holds
      have hr := Lib.run_append_grow_zeros (P := prog) w 118 3 ty 5 i0 (.int .u8 0) .i64 .i64 underlying118 underlying3 hi hz0 (some ⟨g, 0, none⟩) n cap (xs.map (Value.int .u8)) hold k h0 (by omega) (by omega) (by omega) (by rw [hz2]; omega) (growslice_fits (by omega) (by rw [hz2]; omega))
      exact ⟨_, _, _, hr, fresh cap (by omega), grown _ _, .inr (Nat.le_refl _)⟩
theorem wp_appZ {ops : Array Oper} {rest : List Oper} {o : Oper} {a : Act} {Q : Exit → Act → World → Prop} (w : World) (hgd : o.guard = none) (s x : Operand)
    (ho : o.op = .call { callee := .builtin .append, args := #[s, x], argTypes := #[118, 3] }) (base : Nat) (v : Value) (n k : Nat) (xs : List Int)
    (hs : a.eval s = v) (hown : w.ownsRow base 5 1 v n (xs.map (.int .u8))) (hx : a.eval x = .int .i64 k) (h0 : 0 < k)
    (hn : n + k ≤ 100000000) (hbase : base ≤ w.heap.size)
    (h : ∀ h cap w', w'.ownsRow base 5 1 (.slice (some ⟨h, 0, none⟩) (n + k) cap) (n + k) ((xs ++ List.replicate k 0).map (.int .u8)) → w.grownBy w' v.ownBlock → (v.ownBlock = some h ∨ w.heap.size ≤ h) → wpList prog ops Q rest (a.put o.dst (.slice (some ⟨h, 0, none⟩) (n + k) cap)) w') :
    wpList prog ops Q (o :: rest) a w := by
  obtain ⟨q, cap, w', hrun, h2, h3, h4⟩ := run_app_zeros w o.type base v n xs hown k h0 hn hbase
  exact Lib.wpList_append_run w hgd s x _ _ ho v _ hs hx _ w' hrun (h q cap w' h2 h3 h4)
structure Tch (S : Nat → Prop) (w w' : World) : Prop where
  os : w'.os = w.os
  tape : w'.tape = w.tape
  output : w'.output = w.output
  size : w.heap.size ≤ w'.heap.size
  block : ∀ i, i < w.heap.size → ¬ S i → w'.heap[i]? = w.heap[i]?
theorem Tch.refl (S : Nat → Prop) (w : World) : Tch S w w := ⟨rfl, rfl, rfl, Nat.le_refl _, fun _ _ _ => rfl⟩
theorem Tch.trans {S T : Nat → Prop} {a b c : World} (h : Tch S a b) (k : Tch T b c) (hT : ∀ i, T i → S i ∨ a.heap.size ≤ i) : Tch S a c :=
  ⟨k.os.trans h.os, k.tape.trans h.tape, k.output.trans h.output, Nat.le_trans h.size k.size, fun i hi hs => (k.block i (Nat.lt_of_lt_of_le hi h.size) (fun ht => by
    rcases hT i ht with h1 | h1
    · exact hs h1
    · omega)).trans (h.block i hi hs)⟩
theorem Tch.mono {S T : Nat → Prop} {a b : World} (h : Tch S a b) (hT : ∀ i, S i → T i) : Tch T a b := ⟨h.os, h.tape, h.output, h.size, fun i hi ht => h.block i hi (fun hs => ht (hT i hs))⟩
theorem Tch.drewN {S : Nat → Prop} {a b : World} (h : Tch S a b) (n : Nat) : Tch S a (b.drewN n) := ⟨h.os, h.tape, h.output, h.size, h.block⟩
theorem Tch.below {S : Nat → Prop} {a w w' : World} {B : Nat} (hb : Below B a w) (h : Tch S w w') (hB : B ≤ w.heap.size) (hS : ∀ i, S i → B ≤ i) : Below B a w' :=
  hb.trans ⟨h.os, h.tape, h.output, h.size, fun i hi => h.block i (by omega) (fun hs => by have := hS i hs; omega)⟩
theorem Tch.of_grown {w w' : World} {row : Option Nat} (h : w.grownBy w' row) : Tch (fun i => row = some i) w w' := ⟨h.os, h.tape, h.output, h.size, fun i hi hs => h.block i hi (fun e => hs e.symm)⟩
theorem Tch.of_below {w w' : World} (S : Nat → Prop) (h : Below w.heap.size w w') : Tch S w w' := ⟨h.os, h.tape, h.output, h.size, fun i hi _ => h.block i hi⟩
theorem Tch.setCell (w : World) (g i : Nat) (u : Value) : Tch (fun j => j = g) w (w.setCell ⟨g, i, none⟩ u) :=
  ⟨rfl, rfl, rfl, by simp [World.setCell], fun j hj hne => Below.heap_setCell _ _ _ _ hne⟩
namespace AP
def byE (ow : List Int) (S : Nat) (p a n : Int) : Int := if owner ow p < 0 then 7 else if a < 0 ∨ n < 0 ∨ (S : Int) < a ∨ (S : Int) - a < n then 1 else 0
def byB (bs : List Int) (S : Nat) (p : Int) : List Int := ext bs ((p.toNat + 1) * S)
end AP
def ByYes (g k np S q a n : Nat) (bv : Value) (ow bs : List Int) (w : World) (e : Ending) (w' : World) : Prop :=
  ∃ h cap A, e = .returned (.tuple #[.slice (some A) n n, .int .i64 0]) ∧ (n = 0 ∨ A = ⟨h, q * S + a, none⟩) ∧
    Ar w' g k np S (.slice (some ⟨h, 0, none⟩) (AP.byB bs S q).length cap) ow (AP.byB bs S q) ∧ Tch (fun i => i = g ∨ bv.ownBlock = some i) w w' ∧ (bv.ownBlock = some h ∨ w.heap.size ≤ h)
theorem Ar.drewN {w : World} {g k np : Nat} {size : Int} {bv : Value} {ow bs : List Int} (h : Ar w g k np size bv ow bs) (n : Nat) : Ar (w.drewN n) g k np size bv ow bs := ⟨h.box, h.own, h.byt, h.len, h.np1, h.rng, h.siz⟩
theorem Ar.ne {w : World} {g k np : Nat} {size : Int} {bv : Value} {ow bs : List Int} (h : Ar w g k np size bv ow bs) : g ≠ k ∧ bv.ownBlock ≠ some g ∧ bv.ownBlock ≠ some k := by
  obtain ⟨k', cap', cur, e, hk⟩ : ∃ g' cap cur, (Value.slice (some ⟨k, 0, none⟩) np np) = .slice (some ⟨g', 0, none⟩) np cap ∧ w.heap[g']? = some (.cells cur 3 (0, 0)) := by
    rcases h.own.2 with ⟨h1, _⟩ | ⟨g', cap, cur, h1, h2, h3, _⟩
    · cases h1
    · exact ⟨g', cap, cur, h1, h3⟩
  simp only [Value.slice.injEq, Option.some.injEq, Addr.mk.injEq, and_true, true_and] at e
  obtain ⟨rfl, rfl⟩ := e
  have hbb : ∀ j, bv.ownBlock = some j → ∃ cur, w.heap[j]? = some (.cells cur 5 (0, 0)) := by
    intro j hj
    rcases h.byt.2 with ⟨rfl, _⟩ | ⟨b, cap, cur', rfl, _, hb, _⟩
    · simp [Value.ownBlock] at hj
    · simp [Value.ownBlock] at hj
      subst hj
      exact ⟨_, hb⟩
  refine ⟨?_, ?_, ?_⟩
  · rintro rfl
    rw [h.box] at hk; simp at hk
  · intro hj
    obtain ⟨c, hc⟩ := hbb _ hj
    rw [h.box] at hc; simp at hc
  · intro hj
    obtain ⟨c, hc⟩ := hbb _ hj
    rw [hk] at hc; simp at hc
theorem Ar.grow {w w' : World} {g k np S nb M h cap : Nat} {bv : Value} {ow bs : List Int} (hA : Ar w g k np S bv ow bs) (hg : w.grownBy w' bv.ownBlock) (hfresh : bv.ownBlock = some h ∨ w.heap.size ≤ h)
    (ho : w'.ownsRow 0 5 1 (.slice (some ⟨h, 0, none⟩) nb cap) nb ((AP.ext bs M).map (.int .u8))) (hnb : nb = (AP.ext bs M).length) :
    Ar (w'.setCell ⟨g, 1, none⟩ (.slice (some ⟨h, 0, none⟩) nb cap)) g k np S (.slice (some ⟨h, 0, none⟩) (AP.ext bs M).length cap) ow (AP.ext bs M) ∧
    Tch (fun i => i = g ∨ bv.ownBlock = some i) w (w'.setCell ⟨g, 1, none⟩ (.slice (some ⟨h, 0, none⟩) nb cap)) := by
  subst hnb
  obtain ⟨n1, n2, n3⟩ := hA.ne
  have hgl := (Array.getElem?_eq_some_iff.1 hA.box).1
  have hkl := (hA.own.lt k rfl).2
  have hgh : g ≠ h := by
    rcases hfresh with h1 | h1
    · rintro rfl; exact n2 h1
    · omega
  have hkh : k ≠ h := by
    rcases hfresh with h1 | h1
    · rintro rfl; exact n3 h1
    · omega
  have hbox : w'.heap[g]? = some (.cells #[.int .i64 (S : Int), bv, .slice (some ⟨k, 0, none⟩) np np] 167 (0, 0)) := (hg.block g hgl (fun e => n2 e.symm)).trans hA.box
  have hs : w'.grownBy (w'.setCell ⟨g, 1, none⟩ (.slice (some ⟨h, 0, none⟩) (AP.ext bs M).length cap)) (some g) := only_setCell (World.grownBy.refl w' _) 1 _
  refine ⟨⟨?_, ?_, ?_, hA.len, hA.np1, hA.rng, hA.siz⟩, ?_⟩
  · show (w'.heap.modify g _)[g]? = _
    rw [Array.getElem?_modify, if_pos rfl, hbox]
    rfl
  · exact (hA.own.kept hg (.inr (fun e => n3 e.symm))).kept hs (.inr (fun e => n1 (by injection e with e; exact e.symm)))
  · exact ho.kept hs (.inr (fun e => hgh (by injection e with e; exact e.symm)))
  · exact ((Tch.of_grown hg).mono (T := fun i => i = g ∨ bv.ownBlock = some i) (fun i hi => .inr hi)).trans (Tch.setCell w' g 1 _) (fun i hi => .inl (.inl hi))
theorem own_cap {w : World} {base g n cap : Nat} {e : TypeId} {size : Nat} {xs : List Value} (h : w.ownsRow base e size (.slice (some ⟨g, 0, none⟩) n cap) n xs) : n ≤ cap ∧ cap ≤ maxLen := by
  rcases h.2 with ⟨h1, _⟩ | ⟨_, cap', _, h1, _, _, h2, h3, _⟩
  · simp at h1
  · simp only [Value.slice.injEq] at h1
    obtain ⟨_, _, rfl⟩ := h1
    exact ⟨h2, h3⟩
theorem mul_facts {q S np : Nat} (hq : q < np) (hn : np ≤ 1024) (hS : S ≤ 65536) : q * S ≤ 67043328 ∧ (q + 1) * S = q * S + S := by
  have h1 : q * S ≤ 1023 * 65536 := Nat.mul_le_mul (by omega) hS
  exact ⟨by omega, Nat.succ_mul q S⟩
set_option maxRecDepth 100000 in
set_option maxHeartbeats 1000000 in
theorem bytes_grow {w : World} {g k np S : Nat} {bv : Value} {ow bs : List Int} (h : Ar w g k np S bv ow bs) (q a n : Nat) (hq : q < np) (ho : 0 ≤ AP.owner ow (q : Int)) (ha : a ≤ S) (hn : a + n ≤ S) (hgrow : bs.length < (q + 1) * S) :
    Calls prog 233 #[.pointer (some ⟨g, 0, none⟩), .int .i64 q, .int .i64 a, .int .i64 n] w (ByYes g k np S q a n bv ow bs w) := by
  have c0 := h.c0
  have c1 := h.c1
  have hnp := h.np1
  obtain ⟨z1, z2⟩ := h.siz
  obtain ⟨m1, m2⟩ := mul_facts (S := S) hq hnp.2 (by omega)
  have H := hid h
  have Hown := hid (owner_any h (q : Int))
  obtain ⟨va, vc, hbv⟩ : ∃ va vc, bv = .slice va bs.length vc := by
    rcases h.byt.2 with ⟨h1, h2⟩ | ⟨b, cap, cur, h1, _⟩
    · exact ⟨none, 0, by rw [h1, h2]⟩
    · exact ⟨_, _, h1⟩
  subst hbv
  have f1 : w.frozen? ⟨g, 1, none⟩ = false := by simp [World.frozen?, h.box]
  obtain ⟨nb, hnb⟩ : ∃ nb, nb = bs.length := ⟨_, rfl⟩
  rw [← hnb] at c1 hgrow
  obtain ⟨D, hD⟩ : ∃ D, D = (q + 1) * S - nb := ⟨_, rfl⟩
  have hD1 : 0 < D := by omega
  obtain ⟨QS, hQS⟩ : ∃ QS, QS = q * S := ⟨_, rfl⟩
  rw [← hQS] at m1 m2
  rw [m2] at hgrow hD
  have e1 : IntKind.i64.wrap ((q : Int) + 1) = (q : Int) + 1 := IntWalk.i64_in _ ⟨by omega, by omega⟩
  have e2 : ((q : Int) + 1) * (S : Int) = ((QS + S : Nat) : Int) := by rw [← m2]; simp
  have e3 : IntKind.i64.wrap ((QS : Int) + (S : Int)) = (QS : Int) + (S : Int) := IntWalk.i64_in _ ⟨by omega, by omega⟩
  have e4 : (QS : Int) + (S : Int) - (nb : Int) = (D : Int) := by omega
  have e5 : IntKind.i64.wrap (D : Int) = (D : Int) := IntWalk.i64_in _ ⟨by omega, by omega⟩
  have e6 : (q : Int) * (S : Int) = (QS : Int) := by rw [hQS]; simp
  have e7 : IntKind.i64.wrap (QS : Int) = (QS : Int) := IntWalk.i64_in _ ⟨by omega, by omega⟩
  have e8 : IntKind.i64.wrap ((QS : Int) + (a : Int)) = (QS : Int) + (a : Int) := IntWalk.i64_in _ ⟨by omega, by omega⟩
  have e9 : ((QS : Int) + (a : Int)).toNat = QS + a := by omega
  simp only [Int.natCast_add] at e2
  have Hnb := hid hnb
  have HD := hid hD
  have HQS := hid hQS
  have Hbyt : Hid (w.ownsRow 0 5 1 (.slice va nb vc) nb (bs.map (.int .u8))) := hid (by rw [hnb]; exact h.byt)
  have Hne : Hid ((Value.slice va nb vc).ownBlock ≠ some g) := hid (by rw [hnb]; exact h.ne.2.1)
  have Hbox : Hid (w.heap[g]? = some (.cells #[.int .i64 (S : Int), .slice va nb vc, .slice (some ⟨k, 0, none⟩) np np] 167 (0, 0))) := hid (by rw [hnb]; exact h.box)
  have Hext : Hid ((AP.ext bs (QS + S)) = bs ++ List.replicate D 0 ∧ AP.byB bs S (q : Int) = AP.ext bs (QS + S) ∧ (AP.ext bs (QS + S)).length = nb + D) := by
    refine hid ⟨?_, ?_, ?_⟩
    · unfold AP.ext; rw [hD, ← hnb]
    · unfold AP.byB; rw [Int.toNat_natCast, m2]
    · rw [AP.ext_len, ← hnb]; omega
  have hgl := h.c0
  have hgl := World.block_lt_of_cell? _ _ hgl
  have Hm2 := hid m2
  clear hD hQS m2 hnb h
  go_enter func233, ntmps233
  go_wp2_with (fail)
  refine Hown.out.mono ?_
  rintro e w' ⟨rfl, rfl⟩
  go_wp2_with (fail)
  go_quiet (fail)
  go_wp2_with (at_builtin; go_must (refine wp_appZ _ rfl _ _ rfl 0 (.slice va nb vc) nb D bs rfl (by exact Hbyt.out) rfl hD1 (by omega) (Nat.zero_le _) ?_); intro hh cap w2 ho2 hg2 hfr; have hbx2 : w2.heap[g]? = some (.cells #[.int .i64 (S : Int), .slice va nb vc, .slice (some ⟨k, 0, none⟩) np np] 167 (0, 0)) := (hg2.block g hgl (fun e => Hne.out e.symm)).trans Hbox.out; have d1 := cell_of hbx2 1; have d0 := cell_of hbx2 0; have g1 : w2.frozen? ⟨g, 1, none⟩ = false := (by simp [World.frozen?, hbx2]))
  simp only [List.getElem?_toArray, List.getElem?_cons_zero, List.getElem?_cons_succ] at d0 d1
  have hg3 : w.grownBy w2 (Value.slice va bs.length vc).ownBlock := by
    rw [← Hnb.out]; exact ⟨hg2.os, hg2.tape, hg2.output, hg2.size, hg2.block⟩
  rw [← Hext.out.1] at ho2
  have hfr3 : (Value.slice va bs.length vc).ownBlock = some hh ∨ w.heap.size ≤ hh := by rw [← Hnb.out]; exact hfr
  obtain ⟨hG1, hG2⟩ := H.out.grow hg3 hfr3 ho2 Hext.out.2.2.symm
  have Hl := hid Hext.out.2.2
  obtain ⟨hTc, hcm⟩ := own_cap ho2
  have t0 := hG1.c0
  have t1 := hG1.c1
  rw [Hl.out] at t1
  have HG1 := hid hG1
  have HG2 := hid hG2
  have hTS : nb + D = QS + S := by have := HD.out; omega
  clear d0 d1 g1 hbx2 ho2 hg2 hfr hg3 hG1 hG2 hTS e1 e2 e3 e4 e5
  have HTS : Hid (nb + D = QS + S) := hid (by have := HD.out; omega)
  generalize w2.setCell ⟨g, 1, none⟩ (.slice (some ⟨hh, 0, none⟩) (nb + D) cap) = W at *
  generalize nb + D = T at *
  have i1 : (QS : Int) + (a : Int) ≤ (T : Int) := by have := HTS.out; omega
  have i2 : QS + a ≤ T := by have := HTS.out; omega
  have i3 : (QS : Int) + (a : Int) ≤ (cap : Int) := by omega
  have i4 : QS + a ≤ cap := by omega
  have i5 : (0 : Int) ≤ (QS : Int) + (a : Int) := by omega
  have i6 : n ≤ cap - (QS + a) := by have := HTS.out; omega
  have i7 : (n : Int) ≤ ((cap - (QS + a) : Nat) : Int) := by omega
  obtain ⟨x, hx⟩ : ∃ x, (if cap = QS + a then (some ⟨hh, 0, none⟩ : Option Addr) else some ⟨hh, QS + a, none⟩) = some ⟨hh, x, none⟩ := ⟨if cap = QS + a then 0 else QS + a, by split <;> rfl⟩
  have Hx : Hid (n = 0 ∨ x = QS + a) := by
    by_cases hc : cap = QS + a
    · exact hid (.inl (by have := HTS.out; omega))
    · rw [if_neg hc] at hx
      simp at hx
      exact hid (.inr hx.symm)
  go_quiet (fail)
  go_wp2_with (fail)
  go_ret2
  refine ⟨hh, cap, ⟨hh, x, none⟩, rfl, ?_, ?_, ?_, ?_⟩
  · rcases Hx.out with h | h
    · exact .inl h
    · exact .inr (by rw [h, HQS.out])
  · rw [Hext.out.2.1]; exact HG1.out.drewN _
  · exact HG2.out.drewN _
  · exact hfr3
set_option maxRecDepth 100000 in
set_option maxHeartbeats 1000000 in
theorem bytes_have {w : World} {g k np S : Nat} {bv : Value} {ow bs : List Int} (h : Ar w g k np S bv ow bs) (q a n : Nat) (hq : q < np) (ho : 0 ≤ AP.owner ow (q : Int)) (ha : a ≤ S) (hn : a + n ≤ S) (hgrow : (q + 1) * S ≤ bs.length) (hbl : bs.length ≤ 67108864) :
    Calls prog 233 #[.pointer (some ⟨g, 0, none⟩), .int .i64 q, .int .i64 a, .int .i64 n] w (ByYes g k np S q a n bv ow bs w) := by
  have c0 := h.c0
  have c1 := h.c1
  have hnp := h.np1
  obtain ⟨z1, z2⟩ := h.siz
  obtain ⟨m1, m2⟩ := mul_facts (S := S) hq hnp.2 (by omega)
  have H := hid h
  have Hown := hid (owner_any h (q : Int))
  obtain ⟨hh, cap, hbv⟩ : ∃ hh cap, bv = .slice (some ⟨hh, 0, none⟩) bs.length cap := by
    rcases h.byt.2 with ⟨h1, h2⟩ | ⟨b, cap, cur, h1, _⟩
    · omega
    · exact ⟨_, _, h1⟩
  subst hbv
  obtain ⟨hTc, hcm⟩ := own_cap h.byt
  obtain ⟨T, hT⟩ : ∃ T, T = bs.length := ⟨_, rfl⟩
  rw [← hT] at c1 hgrow hTc hbl
  obtain ⟨QS, hQS⟩ : ∃ QS, QS = q * S := ⟨_, rfl⟩
  rw [← hQS] at m1 m2
  rw [m2] at hgrow
  have e1 : IntKind.i64.wrap ((q : Int) + 1) = (q : Int) + 1 := IntWalk.i64_in _ ⟨by omega, by omega⟩
  have e2 : ((q : Int) + 1) * (S : Int) = ((QS + S : Nat) : Int) := by rw [← m2]; simp
  have e3 : IntKind.i64.wrap ((QS : Int) + (S : Int)) = (QS : Int) + (S : Int) := IntWalk.i64_in _ ⟨by omega, by omega⟩
  have e5 : IntKind.i64.wrap ((QS : Int) + (S : Int) - (T : Int)) = (QS : Int) + (S : Int) - (T : Int) := IntWalk.i64_in _ ⟨by omega, by omega⟩
  have e6 : (q : Int) * (S : Int) = (QS : Int) := by rw [hQS]; simp
  have e7 : IntKind.i64.wrap (QS : Int) = (QS : Int) := IntWalk.i64_in _ ⟨by omega, by omega⟩
  have e8 : IntKind.i64.wrap ((QS : Int) + (a : Int)) = (QS : Int) + (a : Int) := IntWalk.i64_in _ ⟨by omega, by omega⟩
  have e9 : ((QS : Int) + (a : Int)).toNat = QS + a := by omega
  simp only [Int.natCast_add] at e2
  have Hext : Hid (AP.byB bs S (q : Int) = bs) := hid (by unfold AP.byB; rw [Int.toNat_natCast, m2]; exact AP.ext_none (by omega))
  have HQS := hid hQS
  have HT := hid hT
  clear hQS m2 hT h
  have i1 : (QS : Int) + (a : Int) ≤ (T : Int) := by omega
  have i2 : QS + a ≤ T := by omega
  have i3 : (QS : Int) + (a : Int) ≤ (cap : Int) := by omega
  have i4 : QS + a ≤ cap := by omega
  have i5 : (0 : Int) ≤ (QS : Int) + (a : Int) := by omega
  have i6 : n ≤ cap - (QS + a) := by omega
  have i7 : (n : Int) ≤ ((cap - (QS + a) : Nat) : Int) := by omega
  obtain ⟨x, hx⟩ : ∃ x, (if cap = QS + a then (some ⟨hh, 0, none⟩ : Option Addr) else some ⟨hh, QS + a, none⟩) = some ⟨hh, x, none⟩ := ⟨if cap = QS + a then 0 else QS + a, by split <;> rfl⟩
  have Hx : Hid (n = 0 ∨ x = QS + a) := by
    by_cases hc : cap = QS + a
    · exact hid (.inl (by omega))
    · rw [if_neg hc] at hx
      simp at hx
      exact hid (.inr hx.symm)
  go_enter func233, ntmps233
  go_wp2_with (fail)
  refine Hown.out.mono ?_
  rintro e w' ⟨rfl, rfl⟩
  go_wp2_with (fail)
  go_quiet (fail)
  go_wp2_with (fail)
  go_quiet (fail)
  go_wp2_with (fail)
  go_ret2
  refine ⟨hh, cap, ⟨hh, x, none⟩, rfl, ?_, ?_, ?_, .inl rfl⟩
  · rcases Hx.out with h | h
    · exact .inl h
    · exact .inr (by rw [h, HQS.out])
  · rw [Hext.out]; exact (H.out.drewN _).drewN _
  · exact ((Tch.refl _ w).drewN _).drewN _
def ByNo (ow : List Int) (S : Nat) (p a n : Int) (w : World) (e : Ending) (w' : World) : Prop :=
  e = .returned (.tuple #[.slice none 0 0, .int .i64 (AP.byE ow S p a n)]) ∧ w = w'
set_option maxRecDepth 100000 in
set_option maxHeartbeats 1000000 in
theorem bytes_no {w : World} {g k np S : Nat} {bv : Value} {ow bs : List Int} (h : Ar w g k np S bv ow bs) (p a n : Int) (hne : AP.byE ow S p a n ≠ 0) (hn2 : -9223372036854775808 ≤ n) (hn3 : n ≤ 9223372036854775807) :
    Calls prog 233 #[.pointer (some ⟨g, 0, none⟩), .int .i64 p, .int .i64 a, .int .i64 n] w (ByNo ow S p a n w) := by
  have c0 := h.c0
  obtain ⟨z1, z2⟩ := h.siz
  have Hown := hid (owner_any h p)
  clear h
  by_cases h0 : AP.owner ow p < 0
  · have He : Hid (AP.byE ow S p a n = 7) := hid (by unfold AP.byE; rw [if_pos h0])
    clear hne
    go_enter func233, ntmps233
    go_wp2_with (fail)
    refine Hown.out.mono ?_
    rintro e w' ⟨rfl, rfl⟩
    go_wp2_with (fail)
    go_ret2
    exact ⟨by rw [He.out]; rfl, rfl⟩
  · have hbad : a < 0 ∨ n < 0 ∨ (S : Int) < a ∨ (S : Int) - a < n := by
      unfold AP.byE at hne; rw [if_neg h0] at hne
      by_cases hb : a < 0 ∨ n < 0 ∨ (S : Int) < a ∨ (S : Int) - a < n
      · exact hb
      · rw [if_neg hb] at hne; exact absurd rfl hne
    have He : Hid (AP.byE ow S p a n = 1) := hid (by unfold AP.byE; rw [if_neg h0, if_pos hbad])
    clear hne
    by_cases h1 : a < 0
    · clear hbad
      go_enter func233, ntmps233
      go_wp2_with (fail)
      refine Hown.out.mono ?_
      rintro e w' ⟨rfl, rfl⟩
      go_wp2_with (fail)
      go_ret2
      exact ⟨by rw [He.out]; rfl, rfl⟩
    by_cases h2 : n < 0
    · clear hbad
      go_enter func233, ntmps233
      go_wp2_with (fail)
      refine Hown.out.mono ?_
      rintro e w' ⟨rfl, rfl⟩
      go_wp2_with (fail)
      go_ret2
      exact ⟨by rw [He.out]; rfl, rfl⟩
    by_cases h3 : (S : Int) < a
    · clear hbad
      go_enter func233, ntmps233
      go_wp2_with (fail)
      refine Hown.out.mono ?_
      rintro e w' ⟨rfl, rfl⟩
      go_wp2_with (fail)
      go_ret2
      exact ⟨by rw [He.out]; rfl, rfl⟩
    · have h4 : (S : Int) - a < n := by omega
      clear hbad
      go_enter func233, ntmps233
      go_wp2_with (fail)
      refine Hown.out.mono ?_
      rintro e w' ⟨rfl, rfl⟩
      go_wp2_with (fail)
      go_ret2
      exact ⟨by rw [He.out]; rfl, rfl⟩
theorem byE_yes {ow : List Int} {S np : Nat} {p a n : Int} (hr : AP.Rng ow) (hl : ow.length = np) (h : AP.byE ow S p a n = 0) : ∃ q b m : Nat, p = q ∧ a = b ∧ n = m ∧ q < np ∧ 0 ≤ AP.owner ow (q : Int) ∧ b ≤ S ∧ b + m ≤ S := by
  unfold AP.byE at h
  by_cases h0 : AP.owner ow p < 0
  · rw [if_pos h0] at h; omega
  rw [if_neg h0] at h
  by_cases hb : a < 0 ∨ n < 0 ∨ (S : Int) < a ∨ (S : Int) - a < n
  · rw [if_pos hb] at h; omega
  rcases owner_facts hr hl p with h1 | ⟨q, hq, rfl, h1⟩
  · omega
  exact ⟨q, a.toNat, n.toNat, rfl, by omega, by omega, hq, h1, by omega, by omega⟩
theorem bytes_yes {w : World} {g k np S : Nat} {bv : Value} {ow bs : List Int} (h : Ar w g k np S bv ow bs) (q a n : Nat) (hq : q < np) (ho : 0 ≤ AP.owner ow (q : Int)) (ha : a ≤ S) (hn : a + n ≤ S) (hbl : bs.length ≤ 67108864) :
    Calls prog 233 #[.pointer (some ⟨g, 0, none⟩), .int .i64 q, .int .i64 a, .int .i64 n] w (ByYes g k np S q a n bv ow bs w) := by
  by_cases hg : bs.length < (q + 1) * S
  · exact bytes_grow h q a n hq ho ha hn hg
  · exact bytes_have h q a n hq ho ha hn (by omega) hbl
theorem run_copy_rb (w : World) (g off N cap base : Nat) (xs l : List Int) (v : Value) (dLen dCap : Nat) (ty : TypeId) (hown : w.ownsRow base 5 1 (.slice (some ⟨g, 0, none⟩) N cap) N (xs.map (.int .u8))) (hv : RB w v l)
    (hfit : off + l.length ≤ N) (hd : l.length ≤ dLen) (hpos : l ≠ []) :
    ∃ w', (Builtin.copy_ #[118, 118] ty #[.slice (some ⟨g, off, none⟩) dLen dCap, v]).run prog w = .ok (goInt l.length) w' ∧
      w'.ownsRow base 5 1 (.slice (some ⟨g, 0, none⟩) N cap) N ((AP.splice xs off l).map (.int .u8)) ∧ w.grownBy w' (some g) := by
  obtain ⟨i0, hi, hz0, hz1, hz2⟩ := info_parts Tryz.infoB
  obtain ⟨a, c, rfl, hc⟩ := hv
  obtain ⟨b, o, rfl, hcc⟩ := hc hpos
  have hlx : xs.length = N := by simpa using hown.1
  rcases hown.2 with ⟨h, _⟩ | ⟨g', cap', cur, h, hbg, hg, hnc, hcm, hcs, htake⟩
  · simp at h
  · simp only [Value.slice.injEq, Option.some.injEq, Addr.mk.injEq, and_true, true_and] at h
    obtain ⟨rfl, rfl⟩ := h
    have hf := run_firstCells_some (P := prog) w i0.size l.length ⟨b, o, none⟩ l.length c (l.map (Value.int .u8)) (by rw [hz1]; simp) (by
      intro j u hj
      have hjl : j < l.length := by have := (List.getElem?_eq_some_iff.1 hj).1; simpa using this
      rw [Addr.add_lit, hcc j hjl]
      simp [hjl] at hj ⊢
      exact hj)
    have hst := run_storeCells_at prog g off 5 (l.map (Value.int .u8)) 0 cur w hg (by simp; omega) (by
      intro u hu
      obtain ⟨z, _, rfl⟩ := List.mem_map.1 hu
      rfl)
    simp only [Nat.add_zero] at hst
    refine ⟨w.setRow g (cur.toList.take off ++ l.map (Value.int .u8) ++ cur.toList.drop (off + (l.map (Value.int .u8)).length)).toArray, ?_, ⟨?_, .inr ⟨g, cap, _, rfl, hbg, setRow_heap w g cur _ 5 _ hg, hnc, hcm, ?_, ?_⟩⟩, ⟨rfl, rfl, rfl, by simp, fun j _ hj => setRow_other w g j _ (fun e => hj (by rw [e]))⟩⟩
    · have hmin : Nat.min l.length dLen = l.length := Nat.min_eq_left hd
      have hs1 : i0.size = 1 := hz1
      simp [-List.map_append, Builtin.copy_, run_underlying underlying118, Builtin.lenOf, sizeOf, typeInfo, hi, hmin, hf, hst]
    · rw [List.length_map, AP.splice_len (by omega)]; omega
    · simp; omega
    · have hA : cur.toList = xs.map (Value.int .u8) ++ cur.toList.drop N := by
        rw [← htake, Nat.mul_one, List.take_append_drop]
      have hlx2 : (xs.map (Value.int .u8)).length = N := by simp [hlx]
      generalize cur.toList.drop N = R at hA
      have t1 : (xs.map (Value.int .u8) ++ R).take off = (xs.map (Value.int .u8)).take off := List.take_append_of_le_length (by omega)
      have t2 : (xs.map (Value.int .u8) ++ R).drop (off + l.length) = (xs.map (Value.int .u8)).drop (off + l.length) ++ R := List.drop_append_of_le_length (by omega)
      have e : (xs.map (Value.int .u8)).take off ++ l.map (Value.int .u8) ++ ((xs.map (Value.int .u8)).drop (off + l.length) ++ R) = (AP.splice xs off l).map (Value.int .u8) ++ R := by
        simp [AP.splice, List.append_assoc]
      rw [hA, List.length_map, t1, t2, e, Nat.mul_one, List.take_append_of_le_length (by rw [List.length_map, AP.splice_len (by omega)]; omega)]
      exact List.take_of_length_le (by rw [List.length_map, AP.splice_len (by omega)]; omega)
theorem run_copy_zero (w : World) (v : Value) (l : List Int) (a : Option Addr) (n dCap : Nat) (ty : TypeId) (hv : RB w v l) (h : n = 0 ∨ l = []) : (Builtin.copy_ #[118, 118] ty #[.slice a n dCap, v]).run prog w = .ok (goInt 0) w := by
  obtain ⟨i0, hi, hz0, hz1, hz2⟩ := info_parts Tryz.infoB
  obtain ⟨b, c, rfl, _⟩ := hv
  have hm : min l.length n = 0 := by
    rcases h with rfl | rfl
    · simp
    · simp
  cases a <;> cases b <;> simp [Builtin.copy_, run_underlying underlying118, Builtin.lenOf, Builtin.firstCells, sizeOf, typeInfo, hi, hm, storeCells, loadCells, loadCellsFrom]
theorem wp_copyR {P : Program} (w : World) {ops : Array Oper} {rest : List Oper} {o : Oper} {a : Act} {Q : Exit → Act → World → Prop} (hgd : o.guard = none) (s x : Operand) (t tn : TypeId)
    (ho : o.op = .call { callee := .builtin .copy, args := #[s, x], argTypes := #[t, tn] }) (vs vx : Value) (hs : a.eval s = vs) (hx : a.eval x = vx)
    (v' : Value) (w' : World) (hr : (Builtin.copy_ #[t, tn] o.type #[vs, vx]).run P w = .ok v' w') (h : wpList P ops Q rest (a.put o.dst v') w') : wpList P ops Q (o :: rest) a w := by
  refine wpList_plain hgd fun _ hK => ?_
  unfold Oper.wp execOp
  simp only [ho, resolve, invoke, builtin, Sem.run_bind, Sem.run_pure, Result.andThen_ok, List.map_toArray, List.map_cons, List.map_nil, hs, hx, hr]
  exact hK _ _ h
namespace AP
def wrB (ow bs : List Int) (S : Nat) (p a : Int) (l : List Int) : List Int := if byE ow S p a l.length = 0 then splice (byB bs S p) (p.toNat * S + a.toNat) l else bs
def rdB (ow bs : List Int) (S : Nat) (p a n : Int) : List Int := if byE ow S p a n = 0 then byB bs S p else bs
def rdL (ow bs : List Int) (S : Nat) (p a n : Int) : List Int := if byE ow S p a n = 0 then ((byB bs S p).drop (p.toNat * S + a.toNat)).take n.toNat else []
end AP
def Fresh (bv bv' : Value) (w : World) : Prop := ∀ j, bv'.ownBlock = some j → bv.ownBlock = some j ∨ w.heap.size ≤ j
def WrPost (g k np S : Nat) (bv : Value) (ow bs : List Int) (p a : Int) (l : List Int) (w : World) (e : Ending) (w' : World) : Prop :=
  e = .returned (.int .i64 (AP.byE ow S p a l.length)) ∧ ∃ bv', Ar w' g k np S bv' ow (AP.wrB ow bs S p a l) ∧ Tch (fun i => i = g ∨ bv.ownBlock = some i) w w' ∧ Fresh bv bv' w
theorem Ar.bytes {w w' : World} {g k np S N h cap : Nat} {ow bs bs' : List Int} (hA : Ar w g k np S (.slice (some ⟨h, 0, none⟩) N cap) ow bs) (hg : w.grownBy w' (some h)) (ho : w'.ownsRow 0 5 1 (.slice (some ⟨h, 0, none⟩) N cap) bs'.length (bs'.map (.int .u8))) : Ar w' g k np S (.slice (some ⟨h, 0, none⟩) N cap) ow bs' := by
  obtain ⟨n1, n2, n3⟩ := hA.ne
  simp only [Value.ownBlock, ne_eq, Option.some.injEq] at n2 n3
  exact ⟨(hg.block g (Array.getElem?_eq_some_iff.1 hA.box).1 (fun e => n2 (by injection e with e; exact e.symm))).trans hA.box, hA.own.kept hg (.inr (fun e => n3 (by injection e with e; exact e.symm))), ho, hA.len, hA.np1, hA.rng, hA.siz⟩
theorem byB_len (bs : List Int) {S q : Nat} : (q + 1) * S ≤ (AP.byB bs S (q : Int)).length := by
  unfold AP.byB; rw [Int.toNat_natCast, AP.ext_len]; omega
set_option maxRecDepth 100000 in
set_option maxHeartbeats 1000000 in
theorem write_any {w : World} {g k np S : Nat} {bv : Value} {ow bs : List Int} (h : Ar w g k np S bv ow bs) (p a : Int) (v : Value) (l : List Int) (hbl : bs.length ≤ 67108864) (hl : l.length ≤ maxLen)
    (hv : ∀ w', Tch (fun i => i = g ∨ bv.ownBlock = some i) w w' → RB w' v l) :
    Calls prog 190 #[.pointer (some ⟨g, 0, none⟩), .int .i64 p, .int .i64 a, v] w (WrPost g k np S bv ow bs p a l w) := by
  have Hv := hid hv
  obtain ⟨va, vc, rfl⟩ : ∃ va vc, v = .slice va l.length vc := by
    obtain ⟨a, c, e, _⟩ := hv w (Tch.refl _ w)
    exact ⟨a, c, e⟩
  have H := hid h
  unfold maxLen at hl
  clear h hv
  by_cases hE : AP.byE ow S p a l.length = 0
  · obtain ⟨q, b, m, rfl, rfl, hm, hq, ho, hb, hbm⟩ := byE_yes H.out.rng H.out.len hE
    obtain rfl : l.length = m := by omega
    have HE := hid hE
    have Hby := hid (bytes_yes H.out q b l.length hq ho hb hbm hbl)
    have hbb := byB_len bs (S := S) (q := q)
    rw [Nat.succ_mul] at hbb
    have Hbb := hid hbb
    have Hw : Hid (AP.wrB ow bs S (q : Int) (b : Int) l = AP.splice (AP.byB bs S (q : Int)) (q * S + b) l) := hid (by unfold AP.wrB; rw [if_pos hE]; rfl)
    clear hE hm hbb
    go_enter func190, ntmps190
    go_wp2_with (fail)
    refine Hby.out.mono ?_
    rintro e w2 ⟨hh, cap, A, rfl, hA, hA2, ht, hfr⟩
    have Hrb := hid (Hv.out w2 ht)
    by_cases hl0 : l = []
    · have hrun := run_copy_zero w2 (.slice va l.length vc) l (some A) l.length l.length 3 Hrb.out (.inr hl0)
      have Hl0 := hid hl0
      have HA := hid hA
      clear hA hl0
      go_wp2_with (with_reducible refine wp_copyR w2 rfl _ _ _ _ rfl _ _ rfl rfl _ _ hrun ?_)
      go_ret
      refine ⟨by rw [HE.out]; rfl, .slice (some ⟨hh, 0, none⟩) (AP.byB bs S (q : Int)).length cap, ?_, ht, fun j hj => ?_⟩
      · rw [Hw.out, Hl0.out, AP.splice_nil]; exact hA2
      · simp [Value.ownBlock] at hj; subst hj; exact hfr
    · have hAe : A = ⟨hh, q * S + b, none⟩ := by
        rcases hA with h0 | h0
        · exact absurd (List.eq_nil_of_length_eq_zero h0) hl0
        · exact h0
      subst hAe
      obtain ⟨w3, hrun, ho3, hg3⟩ := run_copy_rb w2 hh (q * S + b) _ cap 0 (AP.byB bs S q) l (.slice va l.length vc) l.length l.length 3 hA2.byt Hrb.out (by have := Hbb.out; omega) (Nat.le_refl _) hl0
      have hlen : (AP.splice (AP.byB bs S (q : Int)) (q * S + b) l).length = (AP.byB bs S (q : Int)).length := AP.splice_len (by have := Hbb.out; omega)
      have hA3 := hA2.bytes (bs' := AP.splice (AP.byB bs S (q : Int)) (q * S + b) l) hg3 (by rw [hlen]; exact ho3)
      have HA3 := hid hA3
      have ht3 := ht.trans (Tch.of_grown hg3) (fun i hi => by
        rcases hfr with h0 | h0
        · exact .inl (.inr (by rw [h0]; exact hi))
        · exact .inr (by injection hi with hi; omega))
      clear hA hlen hA3 ho3 hg3
      go_wp2_with (with_reducible refine wp_copyR w2 rfl _ _ _ _ rfl _ _ rfl rfl _ _ hrun ?_)
      go_ret
      refine ⟨by rw [HE.out]; rfl, .slice (some ⟨hh, 0, none⟩) (AP.byB bs S (q : Int)).length cap, ?_, ht3, fun j hj => ?_⟩
      · rw [Hw.out]; exact HA3.out
      · simp [Value.ownBlock] at hj; subst hj; exact hfr
  · have Hby := hid (bytes_no H.out p a (l.length : Int) hE (by omega) (by omega))
    have Hw : Hid (AP.wrB ow bs S p a l = bs) := hid (by unfold AP.wrB; rw [if_neg hE])
    have hrun := run_copy_zero w (.slice va l.length vc) l none 0 0 3 (Hv.out w (Tch.refl _ w)) (.inl rfl)
    clear hE
    go_enter func190, ntmps190
    go_wp2_with (fail)
    refine Hby.out.mono ?_
    rintro e w2 ⟨rfl, rfl⟩
    go_wp2_with (with_reducible refine wp_copyR w rfl _ _ _ _ rfl _ _ rfl rfl _ _ hrun ?_)
    go_ret
    exact ⟨rfl, bv, by rw [Hw.out]; exact H.out, Tch.refl _ w, fun j hj => .inl hj⟩
theorem run_app_none (w : World) (ty : TypeId) (base : Nat) (v : Value) (n c : Nat) (xs : List Value) (hown : w.ownsRow base 5 1 v n xs) : (Builtin.append_ #[118, 118] ty #[v, .slice none 0 c]).run prog w = .ok v w := by
  obtain ⟨i0, hi, hz0, hz1, hz2⟩ := info_parts Tryz.infoB
  rcases hown.2 with ⟨rfl, rfl⟩ | ⟨g, cap, cur, rfl, _, _, hnc, _⟩
  · simp [Builtin.append_, run_underlying underlying118, sizeOf, typeInfo, hi, Builtin.lenOf, Builtin.firstCells]
  · simp [Builtin.append_, run_underlying underlying118, sizeOf, typeInfo, hi, Builtin.lenOf, Builtin.firstCells, hnc, storeCells]
theorem run_app (w : World) (ty : TypeId) (base : Nat) (v x : Value) (n : Nat) (xs ys : List Int) (hown : w.ownsRow base 5 1 v n (xs.map (.int .u8))) (hr : RB w x ys)
    (h63 : n + ys.length ≤ 200000000000000) (hbase : base ≤ w.heap.size) :
    ∃ v' w', (Builtin.append_ #[118, 118] ty #[v, x]).run prog w = .ok v' w' ∧ w'.ownsRow base 5 1 v' (n + ys.length) ((xs ++ ys).map (.int .u8)) ∧ Below base w w' ∧ (v' = .slice none 0 0 → v = .slice none 0 0) := by
  obtain ⟨i0, hi, hz0, hz1, hz2⟩ := info_parts Tryz.infoB
  obtain ⟨a, c, rfl, hc⟩ := hr
  cases a with
  | none =>
    have hy : ys = [] := by
      cases ys with
      | nil => rfl
      | cons y ys => obtain ⟨b, o, h, _⟩ := hc (by simp); cases h
    subst hy
    exact ⟨v, w, run_app_none w ty base v n c _ hown, by simpa using hown, Below.refl _ _, fun h => h⟩
  | some ad =>
    obtain ⟨v', w', hrun, ho, hg, hiff⟩ := run_append_own_wide (P := prog) w base 118 ty 5 i0 (.int .u8 0) 1 1 underlying118 hi hz0 hz1 hz2 rfl (by decide) v n _ hown ad ys.length c (ys.map (.int .u8)) (by simp) (by
        intro j u hj
        have hjl : j < ys.length := by have := (List.getElem?_eq_some_iff.1 hj).1; simpa using this
        obtain ⟨b, o, e, hcc⟩ := hc (by intro h; rw [h] at hjl; simp at hjl)
        obtain rfl := Option.some.inj e
        rw [Addr.add_lit, hcc j hjl]
        simp [hjl] at hj ⊢
        exact hj) (by
        intro u hu
        obtain ⟨z, _, rfl⟩ := List.mem_map.1 hu
        rfl) (by unfold maxLen; omega) (by omega) hbase
    exact ⟨v', w', hrun, by simpa using ho, (Below.refl _ _).grown hg hbase (fun k hk => (hown.lt k hk).1), fun h => (hiff.1 h).1⟩
theorem wp_appR {ops : Array Oper} {rest : List Oper} {o : Oper} {a : Act} {Q : Exit → Act → World → Prop} (w0 w : World) (hgd : o.guard = none) (s x : Operand)
    (ho : o.op = .call { callee := .builtin .append, args := #[s, x], argTypes := #[118, 118] }) (base : Nat) (v vx : Value) (n : Nat) (xs ys : List Int)
    (hs : a.eval s = v) (hown : w.ownsRow base 5 1 v n (xs.map (.int .u8))) (hx : a.eval x = vx) (hr : RB w vx ys)
    (hbel : Below base w0 w) (hn : n + ys.length ≤ 200000000000000) (hbase : base ≤ w.heap.size)
    (h : ∀ v' w', w'.ownsRow base 5 1 v' (n + ys.length) ((xs ++ ys).map (.int .u8)) → Below base w0 w' → (v' = .slice none 0 0 → v = .slice none 0 0) → wpList prog ops Q rest (a.put o.dst v') w') :
    wpList prog ops Q (o :: rest) a w := by
  obtain ⟨v', w', hrun, h2, h3, h4⟩ := run_app w o.type base v vx n xs ys hown hr hn hbase
  exact Lib.wpList_append_run w hgd s x _ _ ho v _ hs hx _ w' hrun (h v' w' h2 (hbel.trans h3) h4)
theorem own_new (w : World) : (w.alloc (.cells #[] 5)).ownsRow w.heap.size 5 1 (.slice (some ⟨w.heap.size, 0, none⟩) 0 0) 0 (([] : List Int).map (.int .u8)) :=
  World.ownsRow_lit w #[] 0 (Nat.le_refl _) (by decide) (by simp)
def ClPost (l : List Int) (w : World) (e : Ending) (w' : World) : Prop :=
  ∃ v, e = .returned v ∧ w'.ownsRow w.heap.size 5 1 v l.length (l.map (.int .u8)) ∧ Below w.heap.size w w'
set_option maxHeartbeats 400000 in
theorem clone_nil (w : World) : Calls prog 275 #[.slice none 0 0] w fun e w' => e = .returned (.slice none 0 0) ∧ w = w' := by
  have hq := run_eql_slice_nil (P := prog) w 118 5 none 0 0 underlying118
  go_enter func275, ntmps275
  go_wp2
  go_ret
  exact ⟨rfl, rfl⟩
set_option maxHeartbeats 400000 in
theorem clone_some (A : Addr) (n c : Nat) (l : List Int) (w : World) (hr : RB w (.slice (some A) n c) l) (hl : l.length ≤ 140737488351232) : Calls prog 275 #[.slice (some A) n c] w (ClPost l w) := by
  have hra := hid (hr.below (w' := w.alloc (.cells #[] 5)) ((Below.refl _ _).alloc (Nat.le_refl _) _))
  have hq := run_eql_slice_nil (P := prog) w 118 5 (some A) n c underlying118
  clear hr
  go_enter func275, ntmps275
  go_wp2_with (at_builtin; go_must (refine wp_appR w _ rfl _ _ rfl w.heap.size (.slice (some ⟨w.heap.size, 0, none⟩) 0 0) (.slice (some A) n c) 0 [] l rfl (own_new w) rfl hra.out ((Below.refl _ _).alloc (Nat.le_refl _) _) (by omega) (by simp) ?_); intro v2 w2 ho2 hb2 hn2)
  go_ret
  exact ⟨_, rfl, by simpa using ho2, hb2⟩
def RdPost (g k np S : Nat) (bv : Value) (ow bs : List Int) (p a n : Int) (w : World) (e : Ending) (w' : World) : Prop :=
  ∃ v bv' B, e = .returned (.tuple #[v, .int .i64 (AP.byE ow S p a n)]) ∧ w.heap.size ≤ B ∧ w'.ownsRow B 5 1 v (AP.rdL ow bs S p a n).length ((AP.rdL ow bs S p a n).map (.int .u8)) ∧
    Ar w' g k np S bv' ow (AP.rdB ow bs S p a n) ∧ Tch (fun i => i = g ∨ bv.ownBlock = some i) w w' ∧ Fresh bv bv' w ∧ (∀ j, bv'.ownBlock = some j → j < B)
theorem rb_cut {w : World} {base h N cap : Nat} {l : List Int} (ho : w.ownsRow base 5 1 (.slice (some ⟨h, 0, none⟩) N cap) N (l.map (.int .u8))) (off n c : Nat) (A : Addr) (hA : n = 0 ∨ A = ⟨h, off, none⟩) (hfit : off + n ≤ N) : RB w (.slice (some A) n c) ((l.drop off).take n) := by
  have hl : l.length = N := by simpa using ho.1
  have hlen : ((l.drop off).take n).length = n := by simp; omega
  refine ⟨some A, c, by rw [hlen], fun hne => ?_⟩
  rcases hA with rfl | rfl
  · exact absurd (by simp) hne
  · refine ⟨h, off, rfl, fun i hi => ?_⟩
    rw [hlen] at hi
    rw [ho.cellAt (off + i) (by omega)]
    rw [List.getElem?_take, if_pos hi, List.getElem?_drop]
    simp [show off + i < l.length by omega]
theorem own_belowB {w w' : World} {base n : Nat} {e : TypeId} {size : Nat} {v : Value} {xs : List Value} (h : w.ownsRow base e size v n xs) (hb : Below w.heap.size w w') : w'.ownsRow base e size v n xs :=
  h.kept (row := none) ⟨hb.os, hb.tape, hb.output, hb.size, fun i hi _ => hb.block i hi⟩ (by cases hv : v.ownBlock <;> simp)
theorem Ar.belowB {w w' : World} {g k np : Nat} {size : Int} {bv : Value} {ow bs : List Int} (h : Ar w g k np size bv ow bs) (hb : Below w.heap.size w w') : Ar w' g k np size bv ow bs :=
  ⟨(hb.block g (Array.getElem?_eq_some_iff.1 h.box).1).trans h.box, own_belowB h.own hb, own_belowB h.byt hb, h.len, h.np1, h.rng, h.siz⟩
set_option maxRecDepth 100000 in
set_option maxHeartbeats 1000000 in
theorem read_any {w : World} {g k np S : Nat} {bv : Value} {ow bs : List Int} (h : Ar w g k np S bv ow bs) (p a n : Int) (hbl : bs.length ≤ 67108864) (hn2 : -9223372036854775808 ≤ n) (hn3 : n ≤ 9223372036854775807) :
    Calls prog 231 #[.pointer (some ⟨g, 0, none⟩), .int .i64 p, .int .i64 a, .int .i64 n] w (RdPost g k np S bv ow bs p a n w) := by
  have H := hid h
  have hsz := h.siz
  clear h
  by_cases hE : AP.byE ow S p a n = 0
  · obtain ⟨q, b, m, rfl, rfl, rfl, hq, ho, hb, hbm⟩ := byE_yes H.out.rng H.out.len hE
    have HE := hid hE
    have Hby := hid (bytes_yes H.out q b m hq ho hb hbm hbl)
    have hbb := byB_len bs (S := S) (q := q)
    rw [Nat.succ_mul] at hbb
    have Hbb := hid hbb
    have HrL : Hid (AP.rdL ow bs S (q : Int) (b : Int) (m : Int) = ((AP.byB bs S (q : Int)).drop (q * S + b)).take m) := hid (by unfold AP.rdL; rw [if_pos hE]; rfl)
    have HrB : Hid (AP.rdB ow bs S (q : Int) (b : Int) (m : Int) = AP.byB bs S (q : Int)) := hid (by unfold AP.rdB; rw [if_pos hE])
    clear hE hbb
    go_enter func231, ntmps231
    go_wp2_with (fail)
    refine Hby.out.mono ?_
    rintro e w2 ⟨hh, cap, A, rfl, hA, hA2, ht, hfr⟩
    have Hrb := hid (rb_cut hA2.byt (q * S + b) m m A hA (by have := Hbb.out; omega))
    have HA := hid hA
    clear hA
    go_wp2_with (fail)
    refine (clone_some A m m _ w2 Hrb.out (by simp; omega)).mono ?_
    rintro e w3 ⟨v, rfl, hv, hb3⟩
    go_wp2_with (fail)
    go_ret2
    refine ⟨v, .slice (some ⟨hh, 0, none⟩) (AP.byB bs S (q : Int)).length cap, w2.heap.size, by rw [HE.out]; rfl, ht.size, by rw [HrL.out]; exact hv, by rw [HrB.out]; exact hA2.belowB hb3, ht.trans (Tch.of_below (fun _ => False) hb3) (fun i hi => hi.elim), fun j hj => ?_, fun j hj => ?_⟩
    · simp [Value.ownBlock] at hj; subst hj; exact hfr
    · exact (hA2.byt.lt j hj).2
  · have Hby := hid (bytes_no H.out p a n hE hn2 hn3)
    have HrL : Hid (AP.rdL ow bs S p a n = []) := hid (by unfold AP.rdL; rw [if_neg hE])
    have HrB : Hid (AP.rdB ow bs S p a n = bs) := hid (by unfold AP.rdB; rw [if_neg hE])
    clear hE
    go_enter func231, ntmps231
    go_wp2_with (fail)
    refine Hby.out.mono ?_
    rintro e w2 ⟨rfl, rfl⟩
    go_wp2_with (fail)
    refine (clone_nil w).mono ?_
    rintro e w3 ⟨rfl, rfl⟩
    go_wp2_with (fail)
    go_ret2
    exact ⟨.slice none 0 0, bv, w.heap.size, rfl, Nat.le_refl _, by rw [HrL.out]; exact World.ownsRow_nil _ _ _ _, by rw [HrB.out]; exact H.out, Tch.refl _ w, fun j hj => .inl hj, fun j hj => (H.out.byt.lt j hj).2⟩
end Go.Proofs.YtboehbfagnocpaaGreatDoor
namespace Go.Proofs.YtboehbfagnocpaaGreatDoor
open Go.RowKit Go.PlainAid Go.Shelf
attribute [local go_sem] Oper.semAt_some
def bwd (us : List Bool) (k : Nat) : List (Nat × Bool) := (List.range k).map (fun i => (us.length - 1 - i, us[us.length - 1 - i]?.getD false))
theorem bwd_succ (us : List Bool) (k : Nat) : bwd us (k + 1) = bwd us k ++ [(us.length - 1 - k, us[us.length - 1 - k]?.getD false)] := by simp [bwd, List.range_succ]
theorem bwd_len (us : List Bool) (k : Nat) : (bwd us k).length = k := by simp [bwd]
def Kp2 (u b : Nat) (A B : World) : Prop := ∀ i, i = u ∨ i = b → B.heap[i]? = A.heap[i]?
set_option maxRecDepth 100000 in
set_option maxHeartbeats 2000000 in
theorem back1_in (F : Fence) (n : Nat) (h7 : F.fn 329) (hro : F.round = none) (hn : 1 ≤ n) (l bb ub cap : Nat) (us : List Bool) (hsm : us.length ≤ 100000) (J Jx : List (Nat × Bool) → World → Prop)
    (hY : ∀ pre x W, J pre W → pre.length < us.length → YieldAt F (n - 1) prog l #[.int .i64 (x.1 : Int), .bool x.2] W fun e W' =>
      (e = .returned (.bool true) ∧ J (pre ++ [x]) W' ∧ Kp2 ub bb W W') ∨ (e = .returned (.bool false) ∧ Jx (pre ++ [x]) W'))
    (W : World) (hBs : W.cell? ⟨bb, 0, none⟩ = some (.slice (some ⟨ub, 0, none⟩) us.length cap)) (hc : ∀ j, j < us.length → W.cell? ⟨ub, j, none⟩ = some (.bool (us[j]?.getD false))) (h0 : J [] W) :
    CallsIn F n prog 329 #[.func (.yield l) #[] #[], .pointer (some ⟨bb, 0, none⟩)] W fun e W' => (∃ v, e = .returned v) ∧
      ((∃ ys, ys = bwd us us.length ∧ J ys W') ∨ (∃ pre, True ∧ Jx pre W')) := by
  obtain ⟨L, hL⟩ : ∃ L, L = us.length := ⟨_, rfl⟩
  have HL := hid hL
  rw [← hL] at hBs hsm
  rw [← hL] at hc
  rw [← hL] at hY
  clear hL
  refine callsIn_of_wp func329 rfl h7 ?_ hro
  simp only [ntmps329, List.size_toArray, List.length_cons, List.length_nil, Nat.reduceAdd, Nat.reduceSub, Array.replicate_succ, Array.replicate_zero, List.push_toArray, List.append_toArray, List.nil_append, List.cons_append]
  gi_wp2
  gi_loopw [3] (fun i wr => ∃ k : Nat, k ≤ L ∧ i = .int .i64 ((L : Int) - 1 - k) ∧ J (bwd us k) wr ∧ Kp2 ub bb W wr)
    (fun i _ => (intOf i + 1).toNat)
  case atStart => exact ⟨0, Nat.zero_le _, by simp, h0, fun _ _ => rfl⟩
  case round =>
    obtain ⟨k, hk, rfl, hJs, hkp⟩ := hrel
    by_cases hlt : k < L
    · obtain ⟨m, hm⟩ : ∃ m, m = L - 1 - k := ⟨_, rfl⟩
      have em : (L : Int) - 1 - (k : Int) = (m : Int) := by omega
      rw [em]
      have hb1 : wr.cell? ⟨bb, 0, none⟩ = some (.slice (some ⟨ub, 0, none⟩) L cap) := by
        have : wr.cell? ⟨bb, 0, none⟩ = W.cell? ⟨bb, 0, none⟩ := by unfold World.cell?; rw [hkp bb (.inr rfl)]
        rw [this]; exact hBs
      have hcx : wr.cell? ⟨ub, m, none⟩ = some (.bool (us[m]?.getD false)) := by
        have : wr.cell? ⟨ub, m, none⟩ = W.cell? ⟨ub, m, none⟩ := by unfold World.cell?; rw [hkp ub (.inl rfl)]
        rw [this]; exact hc m (by omega)
      have hmL : m < L := by omega
      obtain ⟨fn, tmps, assign, body, hy, hR⟩ := hY _ (m, us[m]?.getD false) wr hJs (by rw [bwd_len]; exact hlt)
      dsimp only at hy
      have Hm := hid hm
      have Hem := hid em
      clear em hm
      gi_wp2
      refine hR.mono ?_
      rintro e W3 (⟨rfl, hJ3, hk3⟩ | ⟨rfl, hJx3⟩)
      · gi_wp2
        go_roundw
        case rel => exact ⟨k + 1, by omega, by have := Hem.out; simp; omega, by rw [bwd_succ, ← HL.out, ← Hm.out]; exact hJ3, fun i hi => (hk3 i hi).trans (hkp i hi)⟩
        case measure => (simp [intOf]; try omega)
      · gi_wp2
        refine bodyPost_ret (results_none rfl _ _ _) rfl ?_
        exact ⟨⟨_, rfl⟩, .inr ⟨_, trivial, hJx3⟩⟩
    · obtain rfl : k = L := by omega
      have em : (k : Int) - 1 - (k : Int) = -1 := by omega
      rw [em]
      gi_wp2
      go_end0
      exact ⟨⟨_, rfl⟩, .inl ⟨_, by rw [← HL.out], hJs⟩⟩
set_option maxHeartbeats 1000000 in
theorem back_in (F : Fence) (n : Nat) (h5 : F.fn 306) (hro : F.round = none) (a : Option Addr) (len cap : Nat) (w : World) :
    CallsIn F n prog 306 #[.slice a len cap] w fun e w' => e = .returned (.func (.func 329) #[] #[.pointer (some ⟨w.heap.size, 0, none⟩)]) ∧ w' = w.alloc (.cells #[.slice a len cap] 341) := by
  refine callsIn_of_wp func306 rfl h5 ?_ hro
  simp only [ntmps306, List.size_toArray, List.length_cons, List.length_nil, Nat.reduceAdd, Nat.reduceSub, Array.replicate_succ, Array.replicate_zero, List.push_toArray, List.append_toArray, List.nil_append, List.cons_append]
  gi_wp2
  go_ret
  exact ⟨rfl, rfl⟩
theorem back_stops (F : Fence) (n : Nat) (h7 : F.fn 329) (hro : F.round = none) (hn : 1 ≤ n) (bb ub cap : Nat) (us : List Bool) (hsm : us.length ≤ 100000) (w : World) (hbb : bb < w.heap.size) (hub : ub < w.heap.size)
    (hBs : w.cell? ⟨bb, 0, none⟩ = some (.slice (some ⟨ub, 0, none⟩) us.length cap)) (hc : ∀ j, j < us.length → w.cell? ⟨ub, j, none⟩ = some (.bool (us[j]?.getD false))) :
    SeqStopsK F n prog 329 #[.pointer (some ⟨bb, 0, none⟩)] (fun x : Nat × Bool => #[Value.int .i64 (x.1 : Int), .bool x.2]) (Kp2 ub bb) (fun ys => ys = bwd us us.length) (fun _ => True) us.length w := fun l J Jx W hW _ _ hY h0 =>
  back1_in F n h7 hro hn l bb ub cap us hsm J Jx hY W ((hW.cell (p := ⟨bb, 0, none⟩) hbb).trans hBs) (fun j hj => (hW.cell (p := ⟨ub, j, none⟩) hub).trans (hc j hj)) h0
end Go.Proofs.YtboehbfagnocpaaGreatDoor
namespace Go.Proofs.YtboehbfagnocpaaGreatDoor
open Go.RowKit Go.PlainAid Go.Shelf
def OnlyN (Q : Exit → Act → World → Prop) : Exit → Act → World → Prop
  | .normal, a, w => Q .normal a w
  | _, _, _ => False
theorem OnlyN.lets (Q : Exit → Act → World → Prop) : ¬ LetsOut (OnlyN Q) := fun ⟨_, _, h⟩ => h
theorem OnlyN.imp (Q : Exit → Act → World → Prop) : ∀ e a w, OnlyN Q e a w → Q e a w := fun e a w h => by
  cases e <;> first | exact h | exact (h : False).elim
theorem wpIn_of_wp_round {P : Program} {l n : Nat} {o : Oper} {a : Act} {w : World} {K : Act → World → Prop} {Q : Exit → Act → World → Prop} (hd : ∀ c, o.op ≠ .defer c) (h : o.wp P a w K Q) :
    o.wpIn (Fence.wide.inRound l) n P a w K Q := by
  unfold Oper.wp at h
  refine ⟨fun f _ => trivial, ?_⟩
  have hs : Oper.semAt (Fence.wide.inRound l).round a.eval o = execOp a.eval o := Oper.semAt_some l a.eval o hd
  rw [hs]
  generalize (execOp a.eval o).run P w = r at *
  cases r with
  | ok x w' =>
    cases x with
    | value v => exact h
    | skip => exact h
    | defer d => exact h
    | enter f args => exact ⟨fun h => by simp [Fence.wide] at h, callsIn_wide.2 h⟩
    | row row args => exact ⟨fun h => by simp [Fence.wide] at h, fun c cs _ => let ⟨v, w2, r, s⟩ := h c cs; ⟨v, w2, r, stepsIn_wide.2 s⟩⟩
    | round l f tmps assign body => exact (h : False).elim
    | _ => exact (h : False).elim
  | halt x w' => cases x <;> first | exact h | exact (h : False).elim
theorem wpAnyIn_round {P : Program} {l n : Nat} {md : Region.Mode} {ops : Array Oper} {Q : Exit → Act → World → Prop} (hd : ∀ (i : Nat) (o : Oper), ops[i]? = some o → ∀ c, o.op ≠ .defer c) (hL : ¬ LetsOut Q) :
    ∀ (fuel : Nat) (listed : Array Bool) (a : Act) (w : World), wpAny P md ops Q fuel listed a w → wpAnyIn (Fence.wide.inRound l) n P md ops Q fuel listed a w
  | 0, listed, a, w, h => h
  | fuel + 1, listed, a, w, h => by
    refine ⟨h.1, fun i hi => ?_⟩
    have h1 := h.2 i hi
    have ih := wpAnyIn_round (P := P) (md := md) (l := l) (n := n) hd hL fuel (listed.setIfInBounds i true)
    unfold wpOp at h1
    unfold wpOpIn
    cases ho : ops[i]? with
    | none =>
      simp only [ho] at h1 ⊢
      exact ih _ _ h1
    | some o =>
      simp only [ho] at h1 ⊢
      by_cases hw : Region.wanted o (yielded ops a.tmps) = true
      · rw [if_pos hw] at h1 ⊢
        rcases h1 with h1 | ⟨_, h1⟩
        · exact wpIn_of_wp_round (hd i o ho) (Oper.wp_mono ih h1)
        · exact absurd h1 hL
      · rw [if_neg hw] at h1 ⊢
        exact ⟨fun f _ => trivial, ih _ _ h1⟩
theorem wpIn_region_held_round {P : Program} {l n : Nat} {id : Nat} {ops : Array Oper} {Q : Exit → Act → World → Prop} {a : Act} {w : World} (S : World → Prop) (hm : P.follows .mixedOrders = true) (hd : ∀ (i : Nat) (o : Oper), ops[i]? = some o → ∀ c, o.op ≠ .defer c)
    (h : wpAnyH P .any ops (OnlyN Q) S ops.size (Array.replicate ops.size false) a w.drew) : (Code.region id ops true).wpIn (Fence.wide.inRound l) n P Q a w :=
  wpIn_mono (wpIn_region_any hm (wpAnyIn_round hd (OnlyN.lets Q) _ _ _ _ (wpAny_of_held _ _ _ _ h))) (OnlyN.imp Q)
def notDefer (o : Oper) : Bool := match o.op with | .defer _ => false | _ => true
theorem noDefer {ops : Array Oper} (h : ops.all notDefer = true) : ∀ (i : Nat) (o : Oper), ops[i]? = some o → ∀ c, o.op ≠ .defer c := by
  intro i o ho c hc
  rw [Array.all_eq_true] at h
  obtain ⟨hi, he⟩ := Array.getElem?_eq_some_iff.1 ho
  have h1 := h i hi
  rw [he] at h1
  simp [notDefer, hc] at h1
universe u
theorem lzA {α : Type u} : (∀ {xs : List α} {i : Nat} (h : i < xs.toArray.size), xs.toArray[i] = xs[i]) ∧ (∀ (a : α) (xs : List α) (i : Nat) (h : i + 1 < (a :: xs).length), (a :: xs)[i + 1] = xs[i]'(Nat.lt_of_succ_lt_succ h)) ∧ (∀ (a : α) (xs : List α) (h : 0 < (a :: xs).length), (a :: xs)[0] = a) :=
  ⟨List.getElem_toArray, List.getElem_cons_succ, List.getElem_cons_zero⟩
theorem lzP : (∀ (a : Act) (i : Tmp) (v : Value), a.put (some i) v = { tmps := a.tmps.setIfInBounds i v, defers := a.defers }) ∧ (∀ (a : Act) (v : Value), a.put none v = a) := ⟨fun _ _ _ => rfl, fun _ _ => rfl⟩
theorem lzS {α : Type u} : (∀ (l : List α) (i : Nat) (a : α), l.toArray.setIfInBounds i a = (l.set i a).toArray) ∧ (∀ {x : α} {xs : List α} {a : α}, (x :: xs).set 0 a = a :: xs) ∧ (∀ {x : α} {xs : List α} {i : Nat} {a : α}, (x :: xs).set (i + 1) a = x :: xs.set i a) :=
  ⟨List.setIfInBounds_toArray, List.set_cons_zero, List.set_cons_succ⟩
section
variable {P : Program} {ops : Array Oper} {Q : Exit → Act → World → Prop} {md : Region.Mode} {S : World → Prop}
def whB (md : Region.Mode) (ops : Array Oper) (i : Nat) (listed : Array Bool) : Bool := Region.noSelect ops && Region.free md ops listed i && (Region.ready md ops listed).contains i
theorem whE (i : Nat) {oi : Oper} {v : Value} {fuel : Nat} {listed : Array Bool} {a : Act} {w : World} (hi : ops[i]? = some oi)
    (h : wpAnyH P md ops Q S fuel (listed.setIfInBounds i true) (a.put oi.dst v) w)
    (hy : ∀ w0, S w0 → Sem.run P (execOp a.eval oi) w0 = .ok (.value v) w0 := by intro w0 hS0; (try simp only [lzA]); go_simp; (try with_reducible rfl))
    (hb : whB md ops i listed = true := by kernel_rfl) (hQ : ∀ c a w, Q (.panic c) (a.put oi.dst v) w → Q (.panic c) a w := by exact fun _ _ _ h => h)
    (hw : Region.wanted oi (yielded ops a.tmps) = true := by rfl) (hS : S w := by first | trivial | assumption) : wpAnyH P md ops Q S (fuel + 1) listed a w := by
  simp only [whB, Bool.and_eq_true] at hb
  exact wpAnyH_take hi hb.1.1 hb.1.2 hb.2 hQ (Or.inl ⟨hw, hy⟩) hS h
end
end Go.Proofs.YtboehbfagnocpaaGreatDoor
namespace Go.Proofs.YtboehbfagnocpaaGreatDoor
open Go.RowKit Go.PlainAid
namespace SP
structure Pg where
  used : List Bool
  n : Int
  cl : Bool
deriving DecidableEq
structure Pi where
  S : Nat
  ow : List Int
  bs : List Int
  sz : List Int
  rows : List (List Int)
  pg : List (Option Pg)
deriving DecidableEq
def Pi.page (π : Pi) (p : Nat) : Option Pg := (π.pg[p]?).join
structure Bk where
  sb : Nat
  g : Nat
  k : Nat
  bv : Value
  zb : Nat
  zc : Nat
  rb : Nat
  rc : Nat
  rv : List Value
  mb : Nat
  pb : Nat → Nat
  pv : Nat → Value
inductive Ix where
  | sl | ar | own | byt | siz | rows | row (c : Nat) | map | pg (p : Nat) | use (p : Nat)
deriving DecidableEq
def blk (β : Bk) (π : Pi) : Ix → Option Nat
  | .sl => some β.sb
  | .ar => some β.g
  | .own => some β.k
  | .byt => β.bv.ownBlock
  | .siz => some β.zb
  | .rows => some β.rb
  | .row c => (β.rv[c]?).bind (·.ownBlock)
  | .map => some β.mb
  | .pg p => (π.page p).map (fun _ => β.pb p)
  | .use p => (π.page p).bind (fun _ => (β.pv p).ownBlock)
end SP
open SP
def ptrE : Value → Option (DataW Unit × List MemPlace)
  | .pointer none => some (.lit (.int .i64 (-1)), [])
  | .pointer (some ⟨b, 0, none⟩) => some (.lit (.int .i64 (b : Int)), [])
  | _ => none
def pcode : Option Nat → Int
  | none => -1
  | some b => (b : Int)
def pval (o : Option Nat) : Value := .pointer (o.map (fun b => ⟨b, 0, none⟩))
theorem ptrE_val (o : Option Nat) : ptrE (pval o) = some (.lit (.int .i64 (pcode o)), []) := by cases o <;> rfl
theorem ptrE_inv {v : Value} {o : Option Nat} {ps : List MemPlace} (h : ptrE v = some (.lit (.int .i64 (pcode o)), ps)) : v = pval o := by
  unfold ptrE at h
  split at h
  · cases o with
    | none => rfl
    | some b => simp [pcode] at h
  · rename_i b
    cases o with
    | none => simp [pcode] at h
    | some b' =>
      simp [pcode] at h
      obtain ⟨h1, _⟩ := h
      obtain rfl : b = b' := by omega
      rfl
  · cases h
def MapAt (w : World) (m : Nat) (n : Nat) (f : Int → Option Nat) : Prop :=
  ∃ D : DataW Unit, w.ownsMap prog 3 ptrE m n D ∧ ∀ p : Int, D.atKey (.int .i64 p) (.lit (.int .i64 (-1))) = .lit (.int .i64 (pcode (f p)))
theorem zeroP (w : World) : (zeroValue 340).run prog w = .ok (.pointer none) w := by
  have h : (prog.info? 340).map (fun i => i.zero) = some (some (.pointer none)) := by kernel_rfl
  obtain ⟨i, hi, hz⟩ := Option.map_eq_some_iff.1 h
  simp [zeroValue, typeInfo, hi, hz]
theorem keyI : Maps.Keyed prog 3 := Maps.int_keyed underlying3
theorem wf_of {a : Int} (h : -9223372036854775808 ≤ a ∧ a ≤ 9223372036854775807) : (Lit.int .i64 a).wf = true := by
  simp [Lit.wf, IntKind.min, IntKind.max, IntKind.signed, IntKind.bits]; omega
theorem MapAt.look {w : World} {m n : Nat} {f : Int → Option Nat} (h : MapAt w m n f) (p : Int) (hp : -9223372036854775808 ≤ p ∧ p ≤ 9223372036854775807) :
    (Instr.lookup 191 (.map (some m)) (.int .i64 p) false).run prog w = .ok (pval (f p)) w := by
  obtain ⟨D, ho, hD⟩ := h
  obtain ⟨v, ps, hrun, hv⟩ := ho.lookup keyI underlying191 (zeroP w) (ptrE_val none) (Maps.keyOf_int_mk underlying3 (wf_of hp))
  rw [show (DataW.lit (.int .i64 (pcode none)) : DataW Unit) = .lit (.int .i64 (-1)) from rfl, hD p] at hv
  rw [hrun, ptrE_inv hv]
theorem MapAt.kept {w w' : World} {m n : Nat} {f : Int → Option Nat} (h : MapAt w m n f) (hb : w'.heap[m]? = w.heap[m]?) : MapAt w' m n f := by
  obtain ⟨D, ⟨es, clock, h1, h2⟩, hD⟩ := h
  exact ⟨D, ⟨es, clock, hb.trans h1, h2⟩, hD⟩
theorem MapAt.lt {w : World} {m n : Nat} {f : Int → Option Nat} (h : MapAt w m n f) : m < w.heap.size := by
  obtain ⟨D, ho, _⟩ := h; exact ho.lt
theorem MapAt.new (w : World) : MapAt (w.alloc (.map #[] 0)) w.heap.size 0 (fun _ => none) :=
  ⟨.map [], World.ownsMap_made w _ _ _, fun p => rfl⟩
theorem MapAt.put {w : World} {m n : Nat} {f : Int → Option Nat} (h : MapAt w m n f) (hn : n < maxLen) (p : Int) (hp : -9223372036854775808 ≤ p ∧ p ≤ 9223372036854775807) (b : Nat) :
    ∃ w', (Instr.mapUpdate 191 (.map (some m)) (.int .i64 p) (.pointer (some ⟨b, 0, none⟩))).run prog w = .ok () w' ∧ MapAt w' m (n + 1) (fun q => if q = p then some b else f q) ∧ w.grownBy w' (some m) := by
  obtain ⟨D, ho, hD⟩ := h
  obtain ⟨w', hrun, ho', hg⟩ := ho.update keyI underlying191 hn (Maps.keyOf_int_mk underlying3 (wf_of hp)) (ptrE_val (some b))
  refine ⟨w', hrun, ⟨_, ho', fun q => ?_⟩, hg⟩
  dsimp only
  by_cases hq : q = p
  · subst hq
    rw [if_pos rfl]
    exact Maps.atKey_put_same ho.isMap (by trivial) _ _
  · rw [if_neg hq, Maps.atKey_put_other (by simpa using hq)]
    exact hD q
theorem own_tchB {w w' : World} {T : Nat → Prop} {base : Nat} {e : TypeId} {n : Nat} {v : Value} {xs : List Value} (ho : w.ownsRow base e 1 v n xs) (ht : Tch T w w') (hb : ∀ b, v.ownBlock = some b → ¬ T b) : w'.ownsRow base e 1 v n xs := by
  refine ⟨ho.1, ?_⟩
  rcases ho.2 with h1 | ⟨g', cap', cur, rfl, h2, h3, h4⟩
  · exact .inl h1
  · exact .inr ⟨g', cap', cur, rfl, h2, (ht.block g' (Array.getElem?_eq_some_iff.1 h3).1 (hb g' rfl)).trans h3, h4⟩
end Go.Proofs.YtboehbfagnocpaaGreatDoor
