/- several texts in one: Qms, Qhs, Qcn, Qwe. -/
import Derived.Test.YtfmgncajhjkdlaaVa
import Derived.Test.YtfmgncajhjkdlaaSat
import Derived.Test.YtfmgncajhjkdlaaSrd
import Derived.Deep.RegionHeld
/- the document's slab in memory. -/
namespace Go.Proofs.Ytfmgncajhjkdlaa.R7
open Go.RowKit Go.PlainAid
open SP
set_option linter.unusedVariables false
set_option linter.unusedSimpArgs false

structure Rp where
  S : Nat
  ow : List Int
  F : List Int
  sz : List Int
  rows : List (List Int)
  tk : List Int
  cl : List Int
structure Gk where
  sb : Nat
  g : Nat
  k : Nat
  ck : Nat
  r : Nat
  cr : Nat
  vs : List Value
  vz : Value
  rb : Nat
  rc : Nat
  rv : List Value
  vt : Value
  vc : Value
inductive Jx where
  | sl | ar | siz | rows | row (c : Nat) | tk | cl
deriving DecidableEq
def bk (γ : Gk) (ρ : Rp) : Jx → Nat → Prop
  | .sl, b => b = γ.sb
  | .ar, b => R6.rFoot γ.g γ.k γ.r ρ.S γ.vs b
  | .siz, b => γ.vz.ownBlock = some b
  | .rows, b => b = γ.rb
  | .row c, b => ∃ v, γ.rv[c]? = some v ∧ v.ownBlock = some b
  | .tk, b => γ.vt.ownBlock = some b
  | .cl, b => γ.vc.ownBlock = some b
def rs (γ : Gk) (ρ : Rp) (w : World) : Jx → Prop
  | .sl => w.heap[γ.sb]? = some (.cells #[.pointer (some ⟨γ.g, 0, none⟩), γ.vz, .slice (some ⟨γ.rb, 0, none⟩) ρ.sz.length γ.rc, γ.vt, γ.vc] 84 (0, 0))
  | .ar => R6.Rf w γ.g γ.k γ.ck γ.r γ.cr ρ.ow.length ρ.S ρ.ow γ.vs ρ.F
  | .siz => w.ownsRow 0 3 1 γ.vz ρ.sz.length (ρ.sz.map (.int .i64))
  | .rows => w.ownsRow 0 22 1 (.slice (some ⟨γ.rb, 0, none⟩) ρ.sz.length γ.rc) ρ.sz.length γ.rv
  | .row c => ∀ v l, γ.rv[c]? = some v → ρ.rows[c]? = some l → w.ownsRow 0 3 1 v l.length (l.map (.int .i64))
  | .tk => w.ownsRow 0 3 1 γ.vt ρ.tk.length (ρ.tk.map (.int .i64))
  | .cl => w.ownsRow 0 3 1 γ.vc ρ.cl.length (ρ.cl.map (.int .i64))

structure Ms (w : World) (γ : Gk) (ρ : Rp) : Prop where
  lie : ∀ i, rs γ ρ w i
  inj : ∀ i j b, bk γ ρ i b → bk γ ρ j b → i = j
  lt : ∀ i b, bk γ ρ i b → b < w.heap.size
theorem rs_keep {γ : Gk} {ρ : Rp} {w w' : World} {T : Nat → Prop} {i : Jx} (h : rs γ ρ w i) (ht : Tch T w w') (hd : ∀ b, bk γ ρ i b → ¬ T b) : rs γ ρ w' i := by
  cases i with
  | sl => exact (ht.block _ (Array.getElem?_eq_some_iff.1 h).1 (hd _ rfl)).trans h
  | ar => exact R6.Rf.keep h ht (fun b hb hx => hd b hx hb)
  | siz => exact own_tchB h ht hd
  | rows => exact own_tchB h ht (fun b hb => hd b (show b = γ.rb by simpa [Value.ownBlock] using hb.symm))
  | row c =>
    intro v l hv hl
    exact own_tchB (h v l hv hl) ht (fun b hb => hd b ⟨v, hv, hb⟩)
  | tk => exact own_tchB h ht hd
  | cl => exact own_tchB h ht hd
def ft (γ : Gk) (ρ : Rp) (b : Nat) : Prop := ∃ i, bk γ ρ i b
/-- a call's mark -/
structure Go (w : World) (γ : Gk) (ρ : Rp) (w' : World) (γ' : Gk) (ρ' : Rp) : Prop where
  tch : Tch (ft γ ρ) w w'
  ft : ∀ b, R7.ft γ' ρ' b → R7.ft γ ρ b ∨ w.heap.size ≤ b
  sb : γ'.sb = γ.sb
  g : γ'.g = γ.g
theorem Go.refl (w : World) (γ : Gk) (ρ : Rp) : Go w γ ρ w γ ρ := ⟨Tch.refl _ _, fun _ h => .inl h, rfl, rfl⟩
theorem Go.trans {a b c : World} {γ γ' γ'' : Gk} {ρ ρ' ρ'' : Rp} (h : Go a γ ρ b γ' ρ') (k : Go b γ' ρ' c γ'' ρ'') : Go a γ ρ c γ'' ρ'' :=
  ⟨h.tch.trans k.tch h.ft, fun x hx => by
    rcases k.ft x hx with h1 | h1
    · exact h.ft x h1
    · exact .inr (Nat.le_trans h.tch.size h1), k.sb.trans h.sb, k.g.trans h.g⟩
theorem Go.of_below {w w' : World} {γ : Gk} {ρ : Rp} (h : Below w.heap.size w w') : Go w γ ρ w' γ ρ := ⟨Tch.of_below _ h, fun _ h => .inl h, rfl, rfl⟩
theorem Go.more {w w' w'' : World} {γ γ' : Gk} {ρ ρ' : Rp} (h : Go w γ ρ w' γ' ρ') (hb : Below w'.heap.size w' w'') : Go w γ ρ w'' γ' ρ' := h.trans (Go.of_below hb)
theorem Ms.upd {w w' : World} {γ γ' : Gk} {ρ ρ' : Rp} (h : Ms w γ ρ) (I : Jx → Prop) {T : Nat → Prop} (ht : Tch T w w') (hT : ∀ b, T b → ∃ i, I i ∧ bk γ ρ i b)
    (hsame : ∀ i, ¬ I i → (∀ b, bk γ' ρ' i b ↔ bk γ ρ i b) ∧ (∀ W, rs γ ρ W i → rs γ' ρ' W i))
    (hI : ∀ i, I i → rs γ' ρ' w' i ∧ ∀ b, bk γ' ρ' i b → b < w'.heap.size ∧ (bk γ ρ i b ∨ (w.heap.size ≤ b ∧ ∀ j, I j → bk γ' ρ' j b → j = i))) (hsb : γ'.sb = γ.sb) (hg : γ'.g = γ.g) : Ms w' γ' ρ' ∧ Go w γ ρ w' γ' ρ' := by
  have hlt : ∀ i b, bk γ' ρ' i b → b < w'.heap.size := fun i b hb => by
    by_cases hi : I i
    · exact ((hI i hi).2 b hb).1
    · rw [(hsame i hi).1] at hb
      exact Nat.lt_of_lt_of_le (h.lt i b hb) ht.size
  refine ⟨⟨fun i => ?_, fun i j b hi hj => ?_, hlt⟩, ⟨ht.mono (fun b hb => let ⟨i, _, hi⟩ := hT b hb; ⟨i, hi⟩), fun b ⟨i, hi⟩ => ?_, hsb, hg⟩⟩
  · by_cases hi : I i
    · exact (hI i hi).1
    · refine (hsame i hi).2 w' (rs_keep (h.lie i) ht (fun b hb hx => ?_))
      obtain ⟨j, hj, hjb⟩ := hT b hx
      exact hi (h.inj i j b hb hjb ▸ hj)
  · by_cases hIi : I i
    · by_cases hIj : I j
      · rcases ((hI i hIi).2 b hi).2 with h1 | ⟨h1, h2⟩
        · rcases ((hI j hIj).2 b hj).2 with h3 | ⟨h3, h4⟩
          · exact h.inj i j b h1 h3
          · exact h4 i hIi hi
        · exact (h2 j hIj hj).symm
      · have hj' : bk γ ρ j b := ((hsame j hIj).1 b).1 hj
        rcases ((hI i hIi).2 b hi).2 with h1 | ⟨h1, _⟩
        · exact h.inj i j b h1 hj'
        · have := h.lt j b hj'; omega
    · have hi' : bk γ ρ i b := ((hsame i hIi).1 b).1 hi
      by_cases hIj : I j
      · rcases ((hI j hIj).2 b hj).2 with h1 | ⟨h1, _⟩
        · exact h.inj i j b hi' h1
        · have := h.lt i b hi'; omega
      · exact h.inj i j b hi' (((hsame j hIj).1 b).1 hj)
  · by_cases hIi : I i
    · rcases ((hI i hIi).2 b hi).2 with h1 | h1
      · exact .inl ⟨i, h1⟩
      · exact .inr h1.1
    · exact .inl ⟨i, ((hsame i hIi).1 b).1 hi⟩
theorem Ms.keep {w w' : World} {γ : Gk} {ρ : Rp} {T : Nat → Prop} (h : Ms w γ ρ) (ht : Tch T w w') (hd : ∀ b, ft γ ρ b → ¬ T b) : Ms w' γ ρ :=
  ⟨fun i => rs_keep (h.lie i) ht (fun b hb => hd b ⟨i, hb⟩), h.inj, fun i b hb => Nat.lt_of_lt_of_le (h.lt i b hb) ht.size⟩
theorem Ms.below {w w' : World} {γ : Gk} {ρ : Rp} (h : Ms w γ ρ) (hb : Below w.heap.size w w') : Ms w' γ ρ := h.keep (Tch.of_below (fun _ => False) hb) (fun _ _ x => x)
theorem Ms.drewN {w : World} {γ : Gk} {ρ : Rp} (h : Ms w γ ρ) (n : Nat) : Ms (w.drewN n) γ ρ := h.keep ((Tch.refl (fun _ => False) w).drewN n) (fun _ _ x => x)
theorem Ms.drew {w : World} {γ : Gk} {ρ : Rp} (h : Ms w γ ρ) : Ms w.drew γ ρ := h.drewN 1
section
variable {w : World} {γ : Gk} {ρ : Rp}
theorem Ms.ar (h : Ms w γ ρ) : R6.Rf w γ.g γ.k γ.ck γ.r γ.cr ρ.ow.length ρ.S ρ.ow γ.vs ρ.F := h.lie .ar
theorem Ms.s0 (h : Ms w γ ρ) : w.cell? ⟨γ.sb, 0, none⟩ = some (.pointer (some ⟨γ.g, 0, none⟩)) := cell_of (h.lie .sl) 0
theorem Ms.s1 (h : Ms w γ ρ) : w.cell? ⟨γ.sb, 1, none⟩ = some γ.vz := cell_of (h.lie .sl) 1
theorem Ms.s2 (h : Ms w γ ρ) : w.cell? ⟨γ.sb, 2, none⟩ = some (.slice (some ⟨γ.rb, 0, none⟩) ρ.sz.length γ.rc) := cell_of (h.lie .sl) 2
theorem Ms.s3 (h : Ms w γ ρ) : w.cell? ⟨γ.sb, 3, none⟩ = some γ.vt := cell_of (h.lie .sl) 3
theorem Ms.s4 (h : Ms w γ ρ) : w.cell? ⟨γ.sb, 4, none⟩ = some γ.vc := cell_of (h.lie .sl) 4
theorem Ms.sf (h : Ms w γ ρ) (i : Nat) : w.frozen? ⟨γ.sb, i, none⟩ = false := by
  have h1 : w.heap[γ.sb]? = some _ := h.lie .sl
  simp [World.frozen?, h1]
theorem Ms.tkO (h : Ms w γ ρ) : w.ownsRow 0 3 1 γ.vt ρ.tk.length (ρ.tk.map (.int .i64)) := h.lie .tk
theorem Ms.clO (h : Ms w γ ρ) : w.ownsRow 0 3 1 γ.vc ρ.cl.length (ρ.cl.map (.int .i64)) := h.lie .cl
theorem Ms.szO (h : Ms w γ ρ) : w.ownsRow 0 3 1 γ.vz ρ.sz.length (ρ.sz.map (.int .i64)) := h.lie .siz
theorem Ms.rvl (h : Ms w γ ρ) : γ.rv.length = ρ.sz.length := by have h1 : w.ownsRow 0 22 1 _ _ γ.rv := h.lie .rows; have := h1.1; omega
/-- a row of one's own reads as it is -/
theorem ri_owns {w : World} {base n : Nat} {v : Value} {l : List Int} (h : w.ownsRow base 3 1 v n (l.map (.int .i64))) : RI w v l := by
  have hl : l.length = n := by simpa using h.1
  obtain ⟨a, cap, rfl, hp⟩ := own_sl h
  refine ⟨a, cap, by rw [hl], fun hne => ?_⟩
  have hpos : 0 < n := by
    rcases Nat.eq_zero_or_pos n with e | e
    · exact absurd (List.length_eq_zero_iff.1 (hl.trans e)) hne
    · exact e
  obtain ⟨g, rfl⟩ := hp hpos
  refine ⟨g, 0, rfl, fun i hi => ?_⟩
  rw [Nat.zero_add]
  exact own_int h i (by omega)
theorem Ms.tkR (h : Ms w γ ρ) : RI w γ.vt ρ.tk := ri_owns h.tkO
theorem Ms.clR (h : Ms w γ ρ) : RI w γ.vc ρ.cl := ri_owns h.clO
theorem Ms.szR (h : Ms w γ ρ) : RI w γ.vz ρ.sz := ri_owns h.szO
/-- a class's row -/
theorem Ms.row (h : Ms w γ ρ) (h2 : ρ.rows.length = ρ.sz.length) (c : Nat) (hc : c < ρ.sz.length) : ∃ a cap l, ρ.rows[c]? = some l ∧ γ.rv[c]? = some (.slice a l.length cap) ∧ w.cell? ⟨γ.rb, c, none⟩ = some (.slice a l.length cap) ∧ w.ownsRow 0 3 1 (.slice a l.length cap) l.length (l.map (.int .i64)) ∧ w.frozen? ⟨γ.rb, c, none⟩ = false := by
  have h1 := h.rvl
  obtain ⟨v, hv⟩ : ∃ v, γ.rv[c]? = some v := ⟨γ.rv[c], List.getElem?_eq_getElem (by omega)⟩
  obtain ⟨l, hl⟩ : ∃ l, ρ.rows[c]? = some l := ⟨ρ.rows[c], List.getElem?_eq_getElem (by omega)⟩
  have h3 : w.ownsRow 0 3 1 v l.length (l.map (.int .i64)) := h.lie (.row c) v l hv hl
  have h5 : w.ownsRow 0 22 1 (.slice (some ⟨γ.rb, 0, none⟩) ρ.sz.length γ.rc) ρ.sz.length γ.rv := h.lie .rows
  have h4 : w.cell? ⟨γ.rb, c, none⟩ = γ.rv[c]? := World.ownsRow.cellAt h5 c (by omega)
  obtain ⟨a, cap, rfl, _⟩ := own_sl h3
  exact ⟨a, cap, l, hl, hv, by rw [h4, hv], h3, h5.frozenAt c⟩
/-! the general turns -/
/-- class c's row is another one -/
theorem Ms.setRow {w' : World} {c : Nat} {v0 v' : Value} {l' : List Int} (h : Ms w γ ρ) (hc : c < ρ.sz.length) (hv : γ.rv[c]? = some v0) {T : Nat → Prop} (ht : Tch T w w') (hT : ∀ b, T b → b = γ.rb ∨ v0.ownBlock = some b)
    (hr : w'.ownsRow 0 22 1 (.slice (some ⟨γ.rb, 0, none⟩) ρ.sz.length γ.rc) ρ.sz.length (γ.rv.set c v')) (ho : w'.ownsRow 0 3 1 v' l'.length (l'.map (.int .i64))) (hb : ∀ b, v'.ownBlock = some b → v0.ownBlock = some b ∨ w.heap.size ≤ b) :
    Ms w' { γ with rv := γ.rv.set c v' } { ρ with rows := ρ.rows.set c l' } ∧ Go w γ ρ w' { γ with rv := γ.rv.set c v' } { ρ with rows := ρ.rows.set c l' } := by
  have hcv : c < γ.rv.length := by rw [h.rvl]; exact hc
  refine h.upd (fun i => i = .rows ∨ i = .row c) ht (fun b hb => ?_) (fun i hi => ?_) (fun i hi => ?_) rfl rfl
  · rcases hT b hb with e | e
    · exact ⟨.rows, .inl rfl, e⟩
    · exact ⟨.row c, .inr rfl, v0, hv, e⟩
  · cases i with
    | row d =>
      have hd : c ≠ d := fun e => hi (.inr (by rw [e]))
      refine ⟨fun b => ?_, fun W hW v l hv' hl' => ?_⟩
      · show (∃ v, (γ.rv.set c v')[d]? = some v ∧ _) ↔ _
        rw [List.getElem?_set_ne hd]; exact Iff.rfl
      · dsimp only at hv' hl'
        rw [List.getElem?_set_ne hd] at hv' hl'
        exact hW v l hv' hl'
    | rows => exact absurd (.inl rfl) hi
    | _ => exact ⟨fun b => Iff.rfl, fun W hW => hW⟩
  · rcases hi with rfl | rfl
    · refine ⟨hr, fun b hb' => ⟨?_, .inl hb'⟩⟩
      have e : b = γ.rb := hb'
      rw [e]
      exact Nat.lt_of_lt_of_le (h.lt .rows _ rfl) ht.size
    · refine ⟨fun v l hv' hl' => ?_, fun b ⟨v, hv', hvb⟩ => ?_⟩
      · dsimp only at hv' hl'
        rw [List.getElem?_set_self hcv] at hv'
        have e1 : v = v' := by simpa using hv'.symm
        have e2 : l = l' := by
          rw [List.getElem?_set] at hl'
          split at hl' <;> simp_all
        rw [e1, e2]
        exact ho
      · dsimp only at hv'
        rw [List.getElem?_set_self hcv] at hv'
        have e1 : v = v' := by simpa using hv'.symm
        rw [e1] at hvb
        refine ⟨(own_cells ho hvb).choose_spec.2.2.2, ?_⟩
        rcases hb b hvb with h1 | h1
        · exact .inl ⟨v0, hv, h1⟩
        · refine .inr ⟨h1, fun j hj hjb => ?_⟩
          rcases hj with rfl | rfl
          · have e : b = γ.rb := hjb
            have := h.lt .rows b e
            omega
          · rfl
/-- the used chunks are others -/
theorem Ms.setTk {w' : World} {v' : Value} {l' : List Int} (h : Ms w γ ρ) {T : Nat → Prop} (ht : Tch T w w') (hT : ∀ b, T b → b = γ.sb ∨ γ.vt.ownBlock = some b)
    (hs : w'.heap[γ.sb]? = some (.cells #[.pointer (some ⟨γ.g, 0, none⟩), γ.vz, .slice (some ⟨γ.rb, 0, none⟩) ρ.sz.length γ.rc, v', γ.vc] 84 (0, 0)))
    (ho : w'.ownsRow 0 3 1 v' l'.length (l'.map (.int .i64))) (hb : ∀ b, v'.ownBlock = some b → γ.vt.ownBlock = some b ∨ w.heap.size ≤ b) :
    Ms w' { γ with vt := v' } { ρ with tk := l' } ∧ Go w γ ρ w' { γ with vt := v' } { ρ with tk := l' } := by
  refine h.upd (fun i => i = .sl ∨ i = .tk) ht (fun b hb => ?_) (fun i hi => ?_) (fun i hi => ?_) rfl rfl
  · rcases hT b hb with e | e
    · exact ⟨.sl, .inl rfl, e⟩
    · exact ⟨.tk, .inr rfl, e⟩
  · cases i with
    | sl => exact absurd (.inl rfl) hi
    | tk => exact absurd (.inr rfl) hi
    | _ => exact ⟨fun b => Iff.rfl, fun W hW => hW⟩
  · rcases hi with rfl | rfl
    · refine ⟨hs, fun b hb' => ⟨(by have e : b = γ.sb := hb'; rw [e]; exact (Array.getElem?_eq_some_iff.1 hs).1), .inl hb'⟩⟩
    · refine ⟨ho, fun b hb' => ⟨(own_cells ho hb').choose_spec.2.2.2, ?_⟩⟩
      rcases hb b hb' with h1 | h1
      · exact .inl h1
      · refine .inr ⟨h1, fun j hj hjb => ?_⟩
        rcases hj with rfl | rfl
        · have e : b = γ.sb := hjb
          have := h.lt .sl b e
          omega
        · rfl
/-- the closed pages are others -/
theorem Ms.setCl {w' : World} {v' : Value} {l' : List Int} (h : Ms w γ ρ) {T : Nat → Prop} (ht : Tch T w w') (hT : ∀ b, T b → b = γ.sb ∨ γ.vc.ownBlock = some b)
    (hs : w'.heap[γ.sb]? = some (.cells #[.pointer (some ⟨γ.g, 0, none⟩), γ.vz, .slice (some ⟨γ.rb, 0, none⟩) ρ.sz.length γ.rc, γ.vt, v'] 84 (0, 0)))
    (ho : w'.ownsRow 0 3 1 v' l'.length (l'.map (.int .i64))) (hb : ∀ b, v'.ownBlock = some b → γ.vc.ownBlock = some b ∨ w.heap.size ≤ b) :
    Ms w' { γ with vc := v' } { ρ with cl := l' } ∧ Go w γ ρ w' { γ with vc := v' } { ρ with cl := l' } := by
  refine h.upd (fun i => i = .sl ∨ i = .cl) ht (fun b hb => ?_) (fun i hi => ?_) (fun i hi => ?_) rfl rfl
  · rcases hT b hb with e | e
    · exact ⟨.sl, .inl rfl, e⟩
    · exact ⟨.cl, .inr rfl, e⟩
  · cases i with
    | sl => exact absurd (.inl rfl) hi
    | cl => exact absurd (.inr rfl) hi
    | _ => exact ⟨fun b => Iff.rfl, fun W hW => hW⟩
  · rcases hi with rfl | rfl
    · refine ⟨hs, fun b hb' => ⟨(by have e : b = γ.sb := hb'; rw [e]; exact (Array.getElem?_eq_some_iff.1 hs).1), .inl hb'⟩⟩
    · refine ⟨ho, fun b hb' => ⟨(own_cells ho hb').choose_spec.2.2.2, ?_⟩⟩
      rcases hb b hb' with h1 | h1
      · exact .inl h1
      · refine .inr ⟨h1, fun j hj hjb => ?_⟩
        rcases hj with rfl | rfl
        · have e : b = γ.sb := hjb
          have := h.lt .sl b e
          omega
        · rfl
/-- the arena is another one -/
theorem Ms.setAr {w' : World} {vs' : List Value} {ow' F' : List Int} (h : Ms w γ ρ) {T : Nat → Prop} (ht : Tch T w w') (hT : ∀ b, T b → R6.rFoot γ.g γ.k γ.r ρ.S γ.vs b)
    (hA : R6.Rf w' γ.g γ.k γ.ck γ.r γ.cr ρ.ow.length ρ.S ow' vs' F') (hf : ∀ b, R6.rFoot γ.g γ.k γ.r ρ.S vs' b → R6.rFoot γ.g γ.k γ.r ρ.S γ.vs b ∨ w.heap.size ≤ b) :
    Ms w' { γ with vs := vs' } { ρ with ow := ow', F := F' } ∧ Go w γ ρ w' { γ with vs := vs' } { ρ with ow := ow', F := F' } := by
  have hl : ow'.length = ρ.ow.length := hA.len
  refine h.upd (fun i => i = .ar) ht (fun b hb => ⟨.ar, rfl, hT b hb⟩) (fun i hi => ?_) (fun i hi => ?_) rfl rfl
  · cases i with
    | ar => exact absurd rfl hi
    | _ => exact ⟨fun b => Iff.rfl, fun W hW => hW⟩
  · subst hi
    refine ⟨by show R6.Rf w' γ.g γ.k γ.ck γ.r γ.cr ow'.length ρ.S ow' vs' F'; rw [hl]; exact hA, fun b hb => ⟨R6.rFoot_lt hA b hb, ?_⟩⟩
    rcases hf b hb with h1 | h1
    · exact .inl h1
    · exact .inr ⟨h1, fun j hj _ => hj⟩
end
/-- the numbers -/
structure Rw (ρ : Rp) (L : Nat) : Prop where
  k1 : 1 ≤ ρ.sz.length ∧ ρ.sz.length ≤ 63
  sz : ∀ x ∈ ρ.sz, 64 ≤ x ∧ x ≤ ρ.S
  rl : ρ.rows.length = ρ.sz.length
  rb : ∀ (c : Nat) (l : List Int), ρ.rows[c]? = some l → l.length ≤ L ∧ ∀ x ∈ l, 0 ≤ x ∧ x < 4194304
  tk : ρ.tk.length ≤ L ∧ ∀ x ∈ ρ.tk, 0 ≤ x ∧ x < 4194304
  cl : ρ.cl.length ≤ L ∧ ∀ x ∈ ρ.cl, 0 ≤ x ∧ x < 1024
  own : ∀ (p : Nat), ρ.ow[p]?.getD 0 ≤ ρ.sz.length
  lim : L ≤ 100000000
end Go.Proofs.Ytfmgncajhjkdlaa.R7
/- the document's slab: is a number in a row; a row without a number; how many chunks; a chunk's class; Used. -/
namespace Go.Proofs.Ytfmgncajhjkdlaa.R7
open Go.RowKit Go.PlainAid
open SP
set_option linter.unusedVariables false
set_option linter.unusedSimpArgs false

set_option maxHeartbeats 1000000 in
theorem has_any {w : World} {v : Value} {l : List Int} (ho : w.ownsRow 0 3 1 v l.length (l.map (.int .i64))) (n : Int) (b : Bool) (hb : decide (n ∈ l) = b) (hl : l.length ≤ 100000000) :
    Calls Try.prog 63 #[v, .int .i64 n] w fun e w' => e = .returned (.bool b) ∧ w = w' := by
  obtain ⟨a, cap, rfl, ha⟩ := own_sl ho
  obtain ⟨N, hN⟩ : ∃ N, l.length = N := ⟨_, rfl⟩
  rw [hN] at ho ha hl ⊢
  have HO := Lib.hid ho
  have HN := Lib.hid hN
  have Hb := Lib.hid hb
  have hNi : (N : Int) ≤ 100000000 := by omega
  clear ho hN hb
  go_enter Try.func63, Try.ntmps63
  go_wp2
  go_loop [5] (fun i => ∃ j : Nat, j ≤ N ∧ i = .int .i64 j ∧ Hid (n ∉ l.take j)) (fun i => N - (intOf i).toNat)
  case atStart => exact ⟨0, Nat.zero_le _, rfl, Lib.hid (by simp)⟩
  case round =>
    obtain ⟨j, hj, rfl, Hj⟩ := hrel
    by_cases hlt : j < N
    · obtain ⟨g, rfl⟩ := ha (by omega)
      have hc := own_int HO.out j hlt
      have Hjl := Lib.hid (show j < l.length by rw [HN.out]; exact hlt)
      by_cases h1 : l[j]?.getD 0 = n
      · have h1' : (l[j]?.getD 0 == n) = true := by simp [h1]
        have Hr : Hid (b = true) := Lib.hid (by
          rw [← Hb.out, decide_eq_true_eq, ← h1, List.getElem?_eq_getElem Hjl.out]
          exact List.getElem_mem Hjl.out)
        clear h1
        go_wp2
        go_ret
        exact ⟨ret_bool Hr.out.symm, rfl⟩
      · have h1' : (l[j]?.getD 0 == n) = false := by simp [h1]
        have Hs : Hid (n ∉ l.take (j + 1)) := Lib.hid (by
          have hjl := Hjl.out
          rw [List.take_add_one, List.getElem?_eq_getElem hjl, List.mem_append]
          rintro (h | h)
          · exact Hj.out h
          · rw [List.getElem?_eq_getElem hjl] at h1
            simp at h h1
            exact h1 h.symm)
        clear h1
        go_wp2
        go_round
        case rel => exact ⟨j + 1, by omega, by go_num, Hs⟩
        case measure => simp [intOf]; omega
    · have Hr : Hid (b = false) := Lib.hid (by
        have h := Hj.out
        rw [List.take_of_length_le (by rw [HN.out]; omega)] at h
        rw [← Hb.out, decide_eq_false h])
      have hjn : j = N := by omega
      subst hjn
      go_wp2
      go_ret
      exact ⟨ret_bool Hr.out.symm, rfl⟩

def wo (l : List Int) (n : Int) : List Int := l.filter (fun x => x != n)
theorem wo_yes {l : List Int} {n : Int} {j : Nat} (hj : j < l.length) (h : l[j]?.getD 0 ≠ n) : wo (l.take (j + 1)) n = wo (l.take j) n ++ [l[j]?.getD 0] := by
  unfold wo
  rw [List.take_add_one, List.filter_append, List.getElem?_eq_getElem hj] at *
  simp at h ⊢
  exact h
theorem wo_no {l : List Int} {n : Int} {j : Nat} (hj : j < l.length) (h : l[j]?.getD 0 = n) : wo (l.take (j + 1)) n = wo (l.take j) n := by
  unfold wo
  rw [List.take_add_one, List.filter_append, List.getElem?_eq_getElem hj] at *
  simp at h ⊢
  exact h
theorem wo_len (l : List Int) (n : Int) (j : Nat) : (wo (l.take j) n).length ≤ j := by
  unfold wo
  have h1 := List.length_filter_le (fun x => x != n) (l.take j)
  have h2 := List.length_take_le j l
  omega

set_option maxHeartbeats 1000000 in
theorem without_any {w : World} {v : Value} {l : List Int} (ho : w.ownsRow 0 3 1 v l.length (l.map (.int .i64))) (n : Int) (hl : l.length ≤ 100000000) :
    Calls Try.prog 62 #[v, .int .i64 n] w fun e w' => ∃ v', e = .returned v' ∧ w'.ownsRow w.heap.size 3 1 v' (wo l n).length ((wo l n).map (.int .i64)) ∧ Below w.heap.size w w' := by
  obtain ⟨a, cap, rfl, ha⟩ := own_sl ho
  have hlt0 : ∀ b, (Value.slice a l.length cap).ownBlock = some b → b < w.heap.size := fun b hb => (own_cells ho hb).choose_spec.2.2.2
  obtain ⟨N, hN⟩ : ∃ N, l.length = N := ⟨_, rfl⟩
  rw [hN] at ho ha hl hlt0 ⊢
  have HO := Lib.hid ho
  have HN := Lib.hid hN
  have Hl0 := Lib.hid hlt0
  have hNi : (N : Int) ≤ 100000000 := by omega
  clear ho hN hlt0
  go_enter Try.func62, Try.ntmps62
  go_wp2
  go_loopw [5, 6] (fun v i wr => ∃ (j m : Nat) (ad : Option Addr) (cap : Nat), j ≤ N ∧ i = .int .i64 j ∧ Hid (m = (wo (l.take j) n).length) ∧ m ≤ j ∧ v = .slice ad m cap ∧ wr.ownsRow w.heap.size 3 1 (.slice ad m cap) m ((wo (l.take j) n).map (.int .i64)) ∧ Below w.heap.size w wr) (fun _ i _ => N - (intOf i).toNat)
  case atStart => exact ⟨0, 0, none, 0, Nat.zero_le _, rfl, Lib.hid rfl, by omega, rfl, World.ownsRow_nil _ _ _ _, Below.refl _ _⟩
  case round =>
    obtain ⟨j, m, ad, cap, hj, rfl, Hn, hnj, rfl, hown, hbel⟩ := hrel
    have hsz := hbel.size
    by_cases hlt : j < N
    · obtain ⟨g, rfl⟩ := ha (by omega)
      have hc := (hbel.cell (p := ⟨g, j, none⟩) (Hl0.out g rfl)).trans (own_int HO.out j hlt)
      have Hjl := Lib.hid (show j < l.length by rw [HN.out]; exact hlt)
      by_cases h1 : l[j]?.getD 0 = n
      · have h1' : (l[j]?.getD 0 == n) = true := by simp [h1]
        have Hs := Lib.hid (wo_no Hjl.out h1)
        clear h1
        go_wp2
        go_roundw
        case rel => exact ⟨j + 1, m, ad, cap, by omega, by go_num, by rw [Hs.out]; exact Hn, by omega, rfl, by rw [Hs.out]; exact hown, hbel⟩
        case measure => simp [intOf]; omega
      · have h1' : (l[j]?.getD 0 == n) = false := by simp [h1]
        have Hs := Lib.hid (wo_yes Hjl.out h1)
        clear h1
        go_wp2_with (at_builtin; go_must (refine wp_appI w wr rfl _ _ rfl w.heap.size (.slice ad m cap) m (wo (l.take j) n) (l[j]?.getD 0) rfl hown rfl hbel (by omega) hsz ?_); intro g2 cap2 w2 hown2 hbel2)
        go_roundw
        case rel => exact ⟨j + 1, m + 1, _, cap2, by omega, by go_num, Lib.hid (by rw [Hs.out, List.length_append, ← Hn.out]; rfl), by omega, rfl, by rw [Hs.out]; exact hown2, hbel2⟩
        case measure => simp [intOf]; omega
    · have hjn : j = N := by omega
      subst hjn
      have He : Hid (wo l n = wo (l.take j) n) := Lib.hid (by rw [List.take_of_length_le (by rw [HN.out]; omega)])
      go_wp2
      go_ret
      exact ⟨_, rfl, by rw [He.out, ← Hn.out]; exact hown, hbel⟩

def perI (sz : List Int) (S : Nat) (c : Int) : Int := if 0 ≤ c ∧ c < (sz.length : Int) then (S : Int) / (sz[c.toNat]?.getD 0) else 0

set_option maxHeartbeats 1000000 in
theorem per_any {w : World} {v : Value} {sz : List Int} (ho : w.ownsRow 0 3 1 v sz.length (sz.map (.int .i64))) (S : Nat) (c : Int) (hk : sz.length ≤ 63) (hS : 512 ≤ S ∧ S ≤ 65536) (hx : ∀ x ∈ sz, 64 ≤ x ∧ x ≤ S) :
    Calls Try.prog 71 #[v, .int .i64 c, .int .i64 S] w fun e w' => e = .returned (.int .i64 (perI sz S c)) ∧ w = w' := by
  obtain ⟨a, cap, rfl, ha⟩ := own_sl ho
  by_cases hc : 0 ≤ c ∧ c < (sz.length : Int)
  · have Hr : Hid (perI sz S c = (S : Int) / (sz[c.toNat]?.getD 0)) := Lib.hid (by unfold perI; rw [if_pos hc])
    obtain ⟨k, rfl⟩ := Int.eq_ofNat_of_zero_le hc.1
    rw [Int.toNat_natCast] at Hr
    have hk2 : k < sz.length := by omega
    obtain ⟨g, rfl⟩ := ha (by omega)
    have hcell := own_int ho k hk2
    have hx1 := hx (sz[k]?.getD 0) (by rw [List.getElem?_eq_getElem hk2]; exact List.getElem_mem hk2)
    generalize sz[k]?.getD 0 = x at *
    have hSi : (512 : Int) ≤ S ∧ (S : Int) ≤ 65536 := by omega
    generalize (S : Int) = S' at *
    generalize sz.length = m at *
    clear ho ha hx
    go_enter Try.func71, Try.ntmps71
    go_wp2
    go_ret
    exact ⟨ret_int Hr.out.symm, rfl⟩
  · have Hr : Hid (perI sz S c = 0) := Lib.hid (by unfold perI; rw [if_neg hc])
    generalize sz.length = m at *
    clear ho ha hx
    by_cases h0 : c < 0
    · go_enter Try.func71, Try.ntmps71
      go_wp2
      go_ret
      exact ⟨ret_int Hr.out.symm, rfl⟩
    · have h1 : (m : Int) ≤ c := by omega
      go_enter Try.func71, Try.ntmps71
      go_wp2
      go_ret
      exact ⟨ret_int Hr.out.symm, rfl⟩

def clI (ρ : Rp) (ch : Int) : Int := if ch < 0 then -1 else if perI ρ.sz ρ.S (AP.owner ρ.ow (ch / 4096)) ≤ ch % 4096 then -1 else AP.owner ρ.ow (ch / 4096)
theorem perI_range (sz : List Int) (S : Nat) (c : Int) (hS : S ≤ 65536) (hx : ∀ x ∈ sz, 64 ≤ x ∧ x ≤ S) : 0 ≤ perI sz S c ∧ perI sz S c ≤ 1024 := by
  unfold perI
  split
  case isFalse => omega
  case isTrue hc =>
    have h1 := hx (sz[c.toNat]?.getD 0) (by rw [List.getElem?_eq_getElem (by omega)]; exact List.getElem_mem (by omega))
    generalize sz[c.toNat]?.getD 0 = x at *
    refine ⟨Int.ediv_nonneg (by omega) (by omega), ?_⟩
    have h2 : (S : Int) / x * x ≤ S := Int.ediv_mul_le _ (by omega)
    have h3 : (S : Int) / x * 64 ≤ (S : Int) / x * x := Int.mul_le_mul_of_nonneg_left h1.1 (Int.ediv_nonneg (by omega) (by omega))
    omega
section
variable {w : World} {γ : Gk} {ρ : Rp} {L : Nat}
set_option maxHeartbeats 1000000 in
theorem class_any (h : Ms w γ ρ) (hr : Rw ρ L) (ch : Int) (hch : ch ≤ 9223372036854775807) :
    Calls Try.prog 64 #[.pointer (some ⟨γ.sb, 0, none⟩), .int .i64 ch] w fun e w' => e = .returned (.int .i64 (clI ρ ch)) ∧ ∃ n, w' = w.drewN n := by
  by_cases h0 : ch < 0
  · have Hr : Hid (clI ρ ch = -1) := Lib.hid (by unfold clI; rw [if_pos h0])
    clear h hr
    go_enter Try.func64, Try.ntmps64
    go_wp2
    go_ret
    exact ⟨ret_int Hr.out.symm, 0, rfl⟩
  obtain ⟨m, rfl⟩ := Int.eq_ofNat_of_zero_le (show 0 ≤ ch by omega)
  have s0 := h.s0
  have s1 := h.s1
  have hS := h.ar.siz
  have c0 := h.ar.c0
  have HO : Hid (∀ n, Calls Try.prog 65 #[.pointer (some ⟨γ.g, 0, none⟩), .int .i64 ((m : Int) / 4096)] (w.drewN n) fun e w' => e = .returned (.int .i64 (AP.owner ρ.ow ((m : Int) / 4096))) ∧ w' = w.drewN n) := Lib.hid (fun n => (R6.rOwner_any (h.drewN n).ar ((m : Int) / 4096)).mono (fun e w' h => ⟨h.1, h.2.symm⟩))
  have HP : Hid (∀ n, Calls Try.prog 71 #[γ.vz, .int .i64 (AP.owner ρ.ow ((m : Int) / 4096)), .int .i64 ρ.S] (w.drewN n) fun e w' => e = .returned (.int .i64 (perI ρ.sz ρ.S (AP.owner ρ.ow ((m : Int) / 4096)))) ∧ w' = w.drewN n) := Lib.hid (fun n => (per_any (h.drewN n).szO ρ.S _ (by have := hr.k1; omega) (by omega) hr.sz).mono (fun e w' h => ⟨h.1, h.2.symm⟩))
  have hpr := perI_range ρ.sz ρ.S (AP.owner ρ.ow ((m : Int) / 4096)) (by omega) hr.sz
  by_cases hge : perI ρ.sz ρ.S (AP.owner ρ.ow ((m : Int) / 4096)) ≤ (m : Int) % 4096
  · have Hr : Hid (clI ρ m = -1) := Lib.hid (by unfold clI; rw [if_neg h0, if_pos hge])
    generalize perI ρ.sz ρ.S (AP.owner ρ.ow ((m : Int) / 4096)) = z at *
    generalize AP.owner ρ.ow ((m : Int) / 4096) = c at *
    clear h hr
    go_enter Try.func64, Try.ntmps64
    go_wp2_with (go_at_call 65; refine (HO.out 0).mono ?_; rintro e w' ⟨rfl, rfl⟩)
    go_quiet ((go_at_call 71; exact Calls.quiet_of_same (HP.out _)))
    go_wp2
    go_ret
    exact ⟨ret_int Hr.out.symm, _, rfl⟩
  · have Hr : Hid (clI ρ m = AP.owner ρ.ow ((m : Int) / 4096)) := Lib.hid (by unfold clI; rw [if_neg h0, if_neg hge])
    generalize perI ρ.sz ρ.S (AP.owner ρ.ow ((m : Int) / 4096)) = z at *
    generalize AP.owner ρ.ow ((m : Int) / 4096) = c at *
    clear h hr
    go_enter Try.func64, Try.ntmps64
    go_wp2_with (go_at_call 65; refine (HO.out 0).mono ?_; rintro e w' ⟨rfl, rfl⟩)
    go_quiet ((go_at_call 71; exact Calls.quiet_of_same (HP.out _)))
    go_wp2
    go_ret
    exact ⟨ret_int Hr.out.symm, _, rfl⟩

set_option maxHeartbeats 1000000 in
theorem used_any (h : Ms w γ ρ) (hr : ρ.tk.length ≤ 100000000) (ch : Int) (b : Bool) (hb : decide (ch ∈ ρ.tk) = b) :
    Calls Try.prog 52 #[.pointer (some ⟨γ.sb, 0, none⟩), .int .i64 ch] w fun e w' => e = .returned (.bool b) ∧ w = w' := by
  have s3 := h.s3
  have HH := Lib.hid (has_any h.tkO ch b hb hr)
  clear h hr hb
  go_enter Try.func52, Try.ntmps52
  go_wp2_with (go_at_call 63; refine HH.out.mono ?_; rintro e w' ⟨rfl, rfl⟩)
  go_ret
  exact ⟨rfl, rfl⟩
end
end Go.Proofs.Ytfmgncajhjkdlaa.R7
/- the document's slab: Chunks; Counts. -/
namespace Go.Proofs.Ytfmgncajhjkdlaa.R7
open Go.RowKit Go.PlainAid
open SP
set_option linter.unusedVariables false
set_option linter.unusedSimpArgs false

def chP (l : List Int) (p : Int) : List Int := l.filter (fun x => x / 4096 == p)
theorem chP_yes {l : List Int} {p : Int} {j : Nat} (hj : j < l.length) (h : (l[j]?.getD 0) / 4096 = p) : chP (l.take (j + 1)) p = chP (l.take j) p ++ [l[j]?.getD 0] := by
  unfold chP
  rw [List.take_add_one, List.filter_append, List.getElem?_eq_getElem hj] at *
  simp at h ⊢
  exact h
theorem chP_no {l : List Int} {p : Int} {j : Nat} (hj : j < l.length) (h : (l[j]?.getD 0) / 4096 ≠ p) : chP (l.take (j + 1)) p = chP (l.take j) p := by
  unfold chP
  rw [List.take_add_one, List.filter_append, List.getElem?_eq_getElem hj] at *
  simp at h ⊢
  exact h
section
variable {w : World} {γ : Gk} {ρ : Rp} {L : Nat}
set_option maxHeartbeats 1000000 in
theorem chunks_any (h : Ms w γ ρ) (hr : Rw ρ L) (p : Int) :
    Calls Try.prog 50 #[.pointer (some ⟨γ.sb, 0, none⟩), .int .i64 p] w fun e w' => ∃ v', e = .returned v' ∧ w'.ownsRow w.heap.size 3 1 v' (chP ρ.tk p).length ((chP ρ.tk p).map (.int .i64)) ∧ Below w.heap.size w w' := by
  have ho := h.tkO
  have s3 := h.s3
  have hsl := h.lt .sl _ rfl
  have hl : ρ.tk.length ≤ 100000000 := by have := hr.tk.1; have := hr.lim; omega
  have Hx := Lib.hid hr.tk.2
  obtain ⟨a, cap, hvt, ha⟩ := own_sl ho
  rw [hvt] at ho s3
  clear h hr hvt
  generalize ρ.tk = l at *
  have hlt0 : ∀ b, (Value.slice a l.length cap).ownBlock = some b → b < w.heap.size := fun b hb => (own_cells ho hb).choose_spec.2.2.2
  obtain ⟨N, hN⟩ : ∃ N, l.length = N := ⟨_, rfl⟩
  rw [hN] at ho ha hl hlt0 s3
  have HO := Lib.hid ho
  have HN := Lib.hid hN
  have Hl0 := Lib.hid hlt0
  have hNi : (N : Int) ≤ 100000000 := by omega
  clear ho hN hlt0
  go_enter Try.func50, Try.ntmps50
  go_wp2
  go_loopw [5, 6] (fun v i wr => ∃ (j m : Nat) (ad : Option Addr) (cap : Nat), j ≤ N ∧ i = .int .i64 j ∧ Hid (m = (chP (l.take j) p).length) ∧ m ≤ j ∧ v = .slice ad m cap ∧ wr.ownsRow w.heap.size 3 1 (.slice ad m cap) m ((chP (l.take j) p).map (.int .i64)) ∧ Below w.heap.size w wr) (fun _ i _ => N - (intOf i).toNat)
  case atStart => exact ⟨0, 0, none, 0, Nat.zero_le _, rfl, Lib.hid rfl, by omega, rfl, World.ownsRow_nil _ _ _ _, Below.refl _ _⟩
  case round =>
    obtain ⟨j, m, ad, cap2, hj, rfl, Hn, hnj, rfl, hown, hbel⟩ := hrel
    have hsz := hbel.size
    have t3 := (hbel.cell (p := ⟨γ.sb, 3, none⟩) hsl).trans s3
    by_cases hlt : j < N
    · obtain ⟨g, rfl⟩ := ha (by omega)
      have hc := (hbel.cell (p := ⟨g, j, none⟩) (Hl0.out g rfl)).trans (own_int HO.out j hlt)
      have Hjl := Lib.hid (show j < l.length by rw [HN.out]; exact hlt)
      have hxb := Hx.out (l[j]?.getD 0) (by rw [List.getElem?_eq_getElem Hjl.out]; exact List.getElem_mem Hjl.out)
      obtain ⟨z, hz⟩ := Int.eq_ofNat_of_zero_le hxb.1
      have hzi : (z : Int) ≤ 9223372036854775807 := by omega
      rw [hz] at hc
      clear hxb
      by_cases h1 : (z : Int) / 4096 = p
      · have h1' : ((z : Int) / 4096 == p) = true := by simp [h1]
        have Hs := Lib.hid (chP_yes (p := p) Hjl.out (by rw [hz]; exact h1))
        rw [hz] at Hs
        clear h1 hz
        go_wp2_with (at_builtin; go_must (refine wp_appI w wr rfl _ _ rfl w.heap.size (.slice ad m cap2) m (chP (l.take j) p) (z : Int) rfl hown rfl hbel (by omega) hsz ?_); intro g2 cap3 w2 hown2 hbel2)
        go_roundw
        case rel => exact ⟨j + 1, m + 1, _, cap3, by omega, by go_num, Lib.hid (by rw [Hs.out, List.length_append, ← Hn.out]; rfl), by omega, rfl, by rw [Hs.out]; exact hown2, hbel2⟩
        case measure => simp [intOf]; omega
      · have h1' : ((z : Int) / 4096 == p) = false := by simp [h1]
        have Hs := Lib.hid (chP_no (p := p) Hjl.out (by rw [hz]; exact h1))
        clear h1 hz
        go_wp2
        go_roundw
        case rel => exact ⟨j + 1, m, ad, cap2, by omega, by go_num, by rw [Hs.out]; exact Hn, by omega, rfl, by rw [Hs.out]; exact hown, hbel⟩
        case measure => simp [intOf]; omega
    · have hjn : j = N := by omega
      subst hjn
      have He : Hid (chP l p = chP (l.take j) p) := Lib.hid (by rw [List.take_of_length_le (by rw [HN.out]; omega)])
      go_wp2
      go_ret
      exact ⟨_, rfl, by rw [He.out, ← Hn.out]; exact hown, hbel⟩

theorem counts_no (h : Ms w γ ρ) (hr : Rw ρ L) (c : Int) (hc : c < 0 ∨ (ρ.sz.length : Int) ≤ c) :
    Calls Try.prog 53 #[.pointer (some ⟨γ.sb, 0, none⟩), .int .i64 c] w fun e w' => e = .returned (.tuple #[.int .i64 0, .int .i64 0, .int .i64 0]) ∧ Below w.heap.size w w' := by
  have s1 := h.s1
  obtain ⟨a, zc, hvz, ha⟩ := own_sl h.szO
  rw [hvz] at s1
  generalize ρ.sz.length = nz at *
  clear h hr hvz ha
  by_cases h0 : c < 0
  · clear hc
    go_enter Try.func53, Try.ntmps53
    go_wp2
    refine bodyPost_ret (results_tmp3 rfl _ _ _) rfl ?_
    exact ⟨rfl, Below.refl _ _⟩
  · have h1 : (nz : Int) ≤ c := by omega
    clear hc
    go_enter Try.func53, Try.ntmps53
    go_wp2
    refine bodyPost_ret (results_tmp3 rfl _ _ _) rfl ?_
    exact ⟨rfl, Below.refl _ _⟩

def usN (ρ : Rp) (c : Int) (l : List Int) : Nat := (l.filter (fun x => clI ρ x == c)).length
theorem usN_yes {c : Int} {l : List Int} {j : Nat} (hj : j < l.length) (h : clI ρ (l[j]?.getD 0) = c) : usN ρ c (l.take (j + 1)) = usN ρ c (l.take j) + 1 := by
  unfold usN
  rw [List.take_add_one, List.filter_append, List.getElem?_eq_getElem hj] at *
  simp at h ⊢
  simp [h]
theorem usN_no {c : Int} {l : List Int} {j : Nat} (hj : j < l.length) (h : clI ρ (l[j]?.getD 0) ≠ c) : usN ρ c (l.take (j + 1)) = usN ρ c (l.take j) := by
  unfold usN
  rw [List.take_add_one, List.filter_append, List.getElem?_eq_getElem hj] at *
  simp at h ⊢
  simp [h]
set_option maxRecDepth 100000 in
set_option maxHeartbeats 2000000 in
theorem counts_yes (h : Ms w γ ρ) (hr : Rw ρ L) (c : Nat) (hc : c < ρ.sz.length) {l0 : List Int} (hl0 : ρ.rows[c]? = some l0) :
    Calls Try.prog 53 #[.pointer (some ⟨γ.sb, 0, none⟩), .int .i64 c] w fun e w' => e = .returned (.tuple #[.int .i64 (AP.pages ρ.ow c).length, .int .i64 (usN ρ c ρ.tk), .int .i64 l0.length]) ∧ Below w.heap.size w w' := by
  have ho := h.tkO
  have s0 := h.s0
  have s1 := h.s1
  have s2 := h.s2
  have s3 := h.s3
  have hsl := h.lt .sl _ rfl
  have hrw := h.lt .rows _ rfl
  have hl : ρ.tk.length ≤ 100000000 := by have := hr.tk.1; have := hr.lim; omega
  have Hx := Lib.hid hr.tk.2
  obtain ⟨a, cap, hvt, ha⟩ := own_sl ho
  rw [hvt] at ho s3
  obtain ⟨az, zc, hvz, haz⟩ := own_sl h.szO
  rw [hvz] at s1
  obtain ⟨ar, rcap, l1, hl1, hrv, hrc, hro, hfr⟩ := h.row hr.rl c hc
  rw [hl0] at hl1
  cases hl1
  have hlt0 : ∀ b, (Value.slice a ρ.tk.length cap).ownBlock = some b → b < w.heap.size := fun b hb => (own_cells ho hb).choose_spec.2.2.2
  obtain ⟨N, hN⟩ : ∃ N, ρ.tk.length = N := ⟨_, rfl⟩
  rw [hN] at ho ha hl hlt0 s3
  obtain ⟨M0, hM0⟩ : ∃ M0, l0.length = M0 := ⟨_, rfl⟩
  rw [hM0] at hrc ⊢
  have HC : Hid (∀ ch : Nat, ch < 4194304 → ∀ n, Calls Try.prog 64 #[.pointer (some ⟨γ.sb, 0, none⟩), .int .i64 ch] (w.drewN n) fun e w' => e = .returned (.int .i64 (clI ρ ch)) ∧ ∃ m, w' = (w.drewN n).drewN m) := Lib.hid (fun ch hch n => class_any (h.drewN n) hr ch (by omega))
  have HP : Hid (∀ w', Below w.heap.size w w' → Calls Try.prog 69 #[.pointer (some ⟨γ.g, 0, none⟩), .int .i64 c] w' (PgPost ρ.ow c w')) := Lib.hid (fun w' hb => R6.rPages_any (h.below hb).ar c)
  have HO := Lib.hid ho
  have HN := Lib.hid hN
  have Hl0 := Lib.hid hlt0
  have hNi : (N : Int) ≤ 100000000 := by omega
  have hczi : (c : Int) < (ρ.sz.length : Int) := by omega
  have hd1 : decide ((c : Int) < 0) = false := decide_eq_false (by omega)
  have hd2 : decide (ρ.sz.length ≤ c) = false := decide_eq_false (by omega)
  have hd3 : decide ((ρ.sz.length : Int) ≤ (c : Int)) = false := decide_eq_false (by omega)
  clear h hr ho hN hlt0 hc hl0 hrv hro hfr hvz haz hvt
  go_enter Try.func53, Try.ntmps53
  go_wp2
  go_loopw [7, 8] (fun u i wr => ∃ (j m n : Nat), j ≤ N ∧ i = .int .i64 j ∧ Hid (m = usN ρ c (ρ.tk.take j)) ∧ m ≤ j ∧ u = .int .i64 m ∧ wr = w.drewN n) (fun _ i _ => N - (intOf i).toNat)
  case atStart => exact ⟨0, 0, 0, Nat.zero_le _, rfl, Lib.hid rfl, by omega, rfl, rfl⟩
  case round =>
    obtain ⟨j, m, n, hj, rfl, Hm, hmj, rfl, rfl⟩ := hrel
    have hmi : (m : Int) ≤ 100000000 := by omega
    by_cases hlt : j < N
    · obtain ⟨g, rfl⟩ := ha (by omega)
      have hc := own_int HO.out j hlt
      have Hjl := Lib.hid (show j < ρ.tk.length by rw [HN.out]; exact hlt)
      have hxb := Hx.out (ρ.tk[j]?.getD 0) (by rw [List.getElem?_eq_getElem Hjl.out]; exact List.getElem_mem Hjl.out)
      obtain ⟨z, hz⟩ := Int.eq_ofNat_of_zero_le hxb.1
      have HCz := Lib.hid (HC.out z (by omega))
      rw [hz] at hc
      clear hxb
      have e3 : (w.drewN n).cell? ⟨γ.sb, 3, none⟩ = some (.slice (some ⟨g, 0, none⟩) N cap) := s3
      have ec : (w.drewN n).cell? ⟨g, j, none⟩ = some (.int .i64 (z : Int)) := hc
      by_cases h1 : clI ρ (z : Int) = c
      · have Hs := Lib.hid (usN_yes (ρ := ρ) (c := (c : Int)) Hjl.out (by rw [hz]; exact h1))
        have HCd : Hid (∀ n, Calls Try.prog 64 #[.pointer (some ⟨γ.sb, 0, none⟩), .int .i64 z] (w.drewN n) fun e w' => e = .returned (.int .i64 c) ∧ ∃ m, w' = (w.drewN n).drewN m) := Lib.hid (fun n => by have := HCz.out n; rw [h1] at this; exact this)
        clear h1 hz
        go_wp2_with (go_at_call 64; refine (HCd.out n).mono ?_; rintro e w' ⟨rfl, m2, rfl⟩; rw [World.drewN_drewN])
        go_roundw
        case rel => exact ⟨j + 1, m + 1, _, by omega, by go_num, Lib.hid (by rw [Hs.out, ← Hm.out]), by omega, by go_num, rfl⟩
        case measure => simp [intOf]; omega
      · have h1' : (clI ρ (z : Int) == (c : Int)) = false := by simp [h1]
        have Hs := Lib.hid (usN_no (ρ := ρ) (c := (c : Int)) Hjl.out (by rw [hz]; exact h1))
        obtain ⟨y, hy⟩ : ∃ y, clI ρ (z : Int) = y := ⟨_, rfl⟩
        rw [hy] at h1'
        have HCd : Hid (∀ n, Calls Try.prog 64 #[.pointer (some ⟨γ.sb, 0, none⟩), .int .i64 z] (w.drewN n) fun e w' => e = .returned (.int .i64 y) ∧ ∃ m, w' = (w.drewN n).drewN m) := Lib.hid (fun n => by have := HCz.out n; rw [hy] at this; exact this)
        clear h1 hz hy
        go_wp2_with (go_at_call 64; refine (HCd.out n).mono ?_; rintro e w' ⟨rfl, m2, rfl⟩; rw [World.drewN_drewN])
        go_roundw
        case rel => exact ⟨j + 1, m, _, by omega, by go_num, Lib.hid (by rw [Hs.out, ← Hm.out]), by omega, rfl, rfl⟩
        case measure => simp [intOf]; omega
    · have hjn : j = N := by omega
      subst hjn
      have He : Hid (usN ρ c ρ.tk = m) := Lib.hid (by rw [Hm.out, List.take_of_length_le (by rw [HN.out]; omega)])
      have e3 : (w.drewN n).cell? ⟨γ.sb, 3, none⟩ = some (.slice a j cap) := s3
      have hb0 : Hid (Below w.heap.size w (w.drewN n)) := Lib.hid (below_drewN (Below.refl _ w) n)
      have d0 : (w.drewN n).cell? ⟨γ.sb, 0, none⟩ = some (.pointer (some ⟨γ.g, 0, none⟩)) := s0
      have HPn : Hid (Calls Try.prog 69 #[.pointer (some ⟨γ.g, 0, none⟩), .int .i64 c] (w.drewN n).drew (PgPost ρ.ow c (w.drewN n).drew)) := Lib.hid (HP.out _ (below_drewN (Below.refl _ w) (n + 1)))
      go_wp2_with (fail)
      clear HC Hx HO HN Hl0 ha
      refine wp_region_held_drew (S := fun w' => w'.cell? ⟨γ.sb, 0, none⟩ = some (.pointer (some ⟨γ.g, 0, none⟩)) ∧ w'.cell? ⟨γ.sb, 2, none⟩ = some (.slice (some ⟨γ.rb, 0, none⟩) ρ.sz.length γ.rc) ∧ w'.cell? ⟨γ.rb, c, none⟩ = some (.slice ar M0 rcap)) (by kernel_rfl) ⟨s0, s2, hrc⟩ (fun hHeld => ?_)
      refine wpAnyH_take (i := 0) (oi := _) (v := ?_) rfl (by kernel_rfl) (by kernel_rfl) (by kernel_rfl) (fun _ _ _ h => h) (Or.inl ⟨by rfl, ?_⟩) (by assumption) ?_
      rotate_left
      · intro w0 hS0; (try simp only [List.getElem_toArray, List.getElem_cons_succ, List.getElem_cons_zero]); go_simp; (try with_reducible rfl)
      (try simp only [Act.put, List.getElem_toArray, List.getElem_cons_succ, List.getElem_cons_zero, List.setIfInBounds_toArray, List.set_cons_zero, List.set_cons_succ])
      refine wpAnyH_take (i := 1) (oi := _) (v := ?_) rfl (by kernel_rfl) (by kernel_rfl) (by kernel_rfl) (fun _ _ _ h => h) (Or.inl ⟨by rfl, ?_⟩) (by assumption) ?_
      rotate_left
      · intro w0 hS0; (try simp only [List.getElem_toArray, List.getElem_cons_succ, List.getElem_cons_zero]); go_simp; (try with_reducible rfl)
      (try simp only [Act.put, List.getElem_toArray, List.getElem_cons_succ, List.getElem_cons_zero, List.setIfInBounds_toArray, List.set_cons_zero, List.set_cons_succ])
      refine wpAnyH_take (i := 2) (oi := _) (v := ?_) rfl (by kernel_rfl) (by kernel_rfl) (by kernel_rfl) (fun _ _ _ h => h) (Or.inl ⟨by rfl, ?_⟩) (by assumption) ?_
      rotate_left
      · intro w0 hS0; (try simp only [List.getElem_toArray, List.getElem_cons_succ, List.getElem_cons_zero]); go_simp; (try with_reducible rfl)
      (try simp only [Act.put, List.getElem_toArray, List.getElem_cons_succ, List.getElem_cons_zero, List.setIfInBounds_toArray, List.set_cons_zero, List.set_cons_succ])
      refine wpAnyH_take (i := 3) (oi := _) (v := ?_) rfl (by kernel_rfl) (by kernel_rfl) (by kernel_rfl) (fun _ _ _ h => h) (Or.inl ⟨by rfl, ?_⟩) (by assumption) ?_
      rotate_left
      · intro w0 hS0; (try simp only [List.getElem_toArray, List.getElem_cons_succ, List.getElem_cons_zero]); go_simp; (try with_reducible rfl)
      (try simp only [Act.put, List.getElem_toArray, List.getElem_cons_succ, List.getElem_cons_zero, List.setIfInBounds_toArray, List.set_cons_zero, List.set_cons_succ])
      refine wpAnyH_take (i := 4) (oi := _) (v := ?_) rfl (by kernel_rfl) (by kernel_rfl) (by kernel_rfl) (fun _ _ _ h => h) (Or.inl ⟨by rfl, ?_⟩) (by assumption) ?_
      rotate_left
      · intro w0 hS0; (try simp only [List.getElem_toArray, List.getElem_cons_succ, List.getElem_cons_zero]); go_simp; (try with_reducible rfl)
      (try simp only [Act.put, List.getElem_toArray, List.getElem_cons_succ, List.getElem_cons_zero, List.setIfInBounds_toArray, List.set_cons_zero, List.set_cons_succ])
      refine wpAnyH_take (i := 7) (oi := _) (v := ?_) rfl (by kernel_rfl) (by kernel_rfl) (by kernel_rfl) (fun _ _ _ h => h) (Or.inl ⟨by rfl, ?_⟩) (by assumption) ?_
      rotate_left
      · intro w0 hS0; (try simp only [List.getElem_toArray, List.getElem_cons_succ, List.getElem_cons_zero]); go_simp; (try with_reducible rfl)
      (try simp only [Act.put, List.getElem_toArray, List.getElem_cons_succ, List.getElem_cons_zero, List.setIfInBounds_toArray, List.set_cons_zero, List.set_cons_succ])
      refine wpAnyH_take (i := 8) (oi := _) (v := ?_) rfl (by kernel_rfl) (by kernel_rfl) (by kernel_rfl) (fun _ _ _ h => h) (Or.inl ⟨by rfl, ?_⟩) (by assumption) ?_
      rotate_left
      · intro w0 hS0; (try simp only [List.getElem_toArray, List.getElem_cons_succ, List.getElem_cons_zero]); go_simp; (try with_reducible rfl)
      (try simp only [Act.put, List.getElem_toArray, List.getElem_cons_succ, List.getElem_cons_zero, List.setIfInBounds_toArray, List.set_cons_zero, List.set_cons_succ])
      refine wpAnyH_take (i := 9) (oi := _) (v := ?_) rfl (by kernel_rfl) (by kernel_rfl) (by kernel_rfl) (fun _ _ _ h => h) (Or.inl ⟨by rfl, ?_⟩) (by assumption) ?_
      rotate_left
      · intro w0 hS0; (try simp only [List.getElem_toArray, List.getElem_cons_succ, List.getElem_cons_zero]); go_simp; (try with_reducible rfl)
      (try simp only [Act.put, List.getElem_toArray, List.getElem_cons_succ, List.getElem_cons_zero, List.setIfInBounds_toArray, List.set_cons_zero, List.set_cons_succ])
      refine wpAnyH_take (i := 10) (oi := _) (v := ?_) rfl (by kernel_rfl) (by kernel_rfl) (by kernel_rfl) (fun _ _ _ h => h) (Or.inl ⟨by rfl, ?_⟩) (by assumption) ?_
      rotate_left
      · intro w0 hS0; (try simp only [List.getElem_toArray, List.getElem_cons_succ, List.getElem_cons_zero]); go_simp; (try with_reducible rfl)
      (try simp only [Act.put, List.getElem_toArray, List.getElem_cons_succ, List.getElem_cons_zero, List.setIfInBounds_toArray, List.set_cons_zero, List.set_cons_succ])
      refine wpAnyH_take (i := 11) (oi := _) (v := ?_) rfl (by kernel_rfl) (by kernel_rfl) (by kernel_rfl) (fun _ _ _ h => h) (Or.inl ⟨by rfl, ?_⟩) (by assumption) ?_
      rotate_left
      · intro w0 hS0; (try simp only [List.getElem_toArray, List.getElem_cons_succ, List.getElem_cons_zero]); go_simp; (try with_reducible rfl)
      (try simp only [Act.put, List.getElem_toArray, List.getElem_cons_succ, List.getElem_cons_zero, List.setIfInBounds_toArray, List.set_cons_zero, List.set_cons_succ])
      refine wpAnyH_take (i := 12) (oi := _) (v := ?_) rfl (by kernel_rfl) (by kernel_rfl) (by kernel_rfl) (fun _ _ _ h => h) (Or.inl ⟨by rfl, ?_⟩) (by assumption) ?_
      rotate_left
      · intro w0 hS0; (try simp only [List.getElem_toArray, List.getElem_cons_succ, List.getElem_cons_zero]); go_simp; (try with_reducible rfl)
      (try simp only [Act.put, List.getElem_toArray, List.getElem_cons_succ, List.getElem_cons_zero, List.setIfInBounds_toArray, List.set_cons_zero, List.set_cons_succ])
      refine wpAnyH_take (i := 13) (oi := _) (v := ?_) rfl (by kernel_rfl) (by kernel_rfl) (by kernel_rfl) (fun _ _ _ h => h) (Or.inl ⟨by rfl, ?_⟩) (by assumption) ?_
      rotate_left
      · intro w0 hS0; (try simp only [List.getElem_toArray, List.getElem_cons_succ, List.getElem_cons_zero]); go_simp; (try with_reducible rfl)
      (try simp only [Act.put, List.getElem_toArray, List.getElem_cons_succ, List.getElem_cons_zero, List.setIfInBounds_toArray, List.set_cons_zero, List.set_cons_succ])
      refine wpAnyH_take (i := 14) (oi := _) (v := ?_) rfl (by kernel_rfl) (by kernel_rfl) (by kernel_rfl) (fun _ _ _ h => h) (Or.inl ⟨by rfl, ?_⟩) (by assumption) ?_
      rotate_left
      · intro w0 hS0; (try simp only [List.getElem_toArray, List.getElem_cons_succ, List.getElem_cons_zero]); go_simp; (try with_reducible rfl)
      (try simp only [Act.put, List.getElem_toArray, List.getElem_cons_succ, List.getElem_cons_zero, List.setIfInBounds_toArray, List.set_cons_zero, List.set_cons_succ])
      refine wpAnyH_take (i := 15) (oi := _) (v := ?_) rfl (by kernel_rfl) (by kernel_rfl) (by kernel_rfl) (fun _ _ _ h => h) (Or.inl ⟨by rfl, ?_⟩) (by assumption) ?_
      rotate_left
      · intro w0 hS0; (try simp only [List.getElem_toArray, List.getElem_cons_succ, List.getElem_cons_zero]); go_simp; (try with_reducible rfl)
      (try simp only [Act.put, List.getElem_toArray, List.getElem_cons_succ, List.getElem_cons_zero, List.setIfInBounds_toArray, List.set_cons_zero, List.set_cons_succ])
      refine wpAnyH_ready (rs := [5]) (by kernel_rfl) (by simp) ?_
      refine AllReadyH.cons (o := _) rfl (fun K hK => ?_) AllReadyH.nil
      rw [if_pos (by rfl)]
      (try simp only [List.getElem_toArray, List.getElem_cons_succ, List.getElem_cons_zero])
      go_simp
      refine HPn.out.mono ?_
      rintro e w2 ⟨v2, rfl, ho2, hb2⟩
      obtain ⟨a2, c2, rfl, _⟩ := own_sl ho2
      clear ho2
      dsimp only
      refine hK.out _ _ (⟨(hb2.cell (p := ⟨γ.sb, 0, none⟩) hsl).trans s0, (hb2.cell (p := ⟨γ.sb, 2, none⟩) hsl).trans s2, (hb2.cell (p := ⟨γ.rb, c, none⟩) hrw).trans hrc⟩) (fun hHeld => ?_)
      clear hK K
      (try simp only [Act.put, List.getElem_toArray, List.getElem_cons_succ, List.getElem_cons_zero, List.setIfInBounds_toArray, List.set_cons_zero, List.set_cons_succ])
      refine wpAnyH_take (i := 6) (oi := _) (v := ?_) rfl (by kernel_rfl) (by kernel_rfl) (by kernel_rfl) (fun _ _ _ h => h) (Or.inl ⟨by rfl, ?_⟩) (by assumption) ?_
      rotate_left
      · intro w0 hS0; (try simp only [List.getElem_toArray, List.getElem_cons_succ, List.getElem_cons_zero]); go_simp; (try with_reducible rfl)
      (try simp only [Act.put, List.getElem_toArray, List.getElem_cons_succ, List.getElem_cons_zero, List.setIfInBounds_toArray, List.set_cons_zero, List.set_cons_succ])
      refine wpAnyH_take (i := 16) (oi := _) (v := ?_) rfl (by kernel_rfl) (by kernel_rfl) (by kernel_rfl) (fun _ _ _ h => h) (Or.inl ⟨by rfl, ?_⟩) (by assumption) ?_
      rotate_left
      · intro w0 hS0; (try simp only [List.getElem_toArray, List.getElem_cons_succ, List.getElem_cons_zero]); go_simp; (try with_reducible rfl)
      (try simp only [Act.put, List.getElem_toArray, List.getElem_cons_succ, List.getElem_cons_zero, List.setIfInBounds_toArray, List.set_cons_zero, List.set_cons_succ])
      refine wpAnyH_take (i := 17) (oi := _) (v := ?_) rfl (by kernel_rfl) (by kernel_rfl) (by kernel_rfl) (fun _ _ _ h => h) (Or.inl ⟨by rfl, ?_⟩) (by assumption) ?_
      rotate_left
      · intro w0 hS0; (try simp only [List.getElem_toArray, List.getElem_cons_succ, List.getElem_cons_zero]); go_simp; (try with_reducible rfl)
      (try simp only [Act.put, List.getElem_toArray, List.getElem_cons_succ, List.getElem_cons_zero, List.setIfInBounds_toArray, List.set_cons_zero, List.set_cons_succ])
      refine wpAnyH_take (i := 18) (oi := _) (v := ?_) rfl (by kernel_rfl) (by kernel_rfl) (by kernel_rfl) (fun _ _ _ h => h) (Or.inl ⟨by rfl, ?_⟩) (by assumption) ?_
      rotate_left
      · intro w0 hS0; (try simp only [List.getElem_toArray, List.getElem_cons_succ, List.getElem_cons_zero]); go_simp; (try with_reducible rfl)
      (try simp only [Act.put, List.getElem_toArray, List.getElem_cons_succ, List.getElem_cons_zero, List.setIfInBounds_toArray, List.set_cons_zero, List.set_cons_succ])
      refine wpAnyH_done (by kernel_rfl) ?_ _
      go_wp2
      refine bodyPost_ret (results_tmp3 rfl _ _ _) rfl ?_
      exact ⟨by rw [He.out]; rfl, (below_drewN (Below.refl _ w) (n + 1)).trans (hb2.mono (Nat.le_refl _))⟩
end
end Go.Proofs.Ytfmgncajhjkdlaa.R7
/- a region that draws its order, walked by hand, whose last operation may break what all others keep. -/
namespace Go.Proofs.Ytfmgncajhjkdlaa
open Go.RowKit Go.PlainAid

section
variable {P : Program} {ops : Array Oper} {Q : Exit → Act → World → Prop} {md : Region.Mode} {S : World → Prop} {z : Nat}
/-- whatever order is picked from here on, and S holds behind every operation but operation z -/
def wpAnyE (P : Program) (md : Region.Mode) (ops : Array Oper) (Q : Exit → Act → World → Prop) (S : World → Prop) (z : Nat) : Nat → Array Bool → Act → World → Prop
  | 0, listed, a, w => Region.ready md ops listed = [] ∧ Q .normal a w
  | fuel + 1, listed, a, w =>
    (Region.ready md ops listed = [] → Q .normal a w) ∧
    ∀ i ∈ Region.ready md ops listed, wpOp P ops Q i (fun a' w' => (i ≠ z → S w') ∧ wpAnyE P md ops Q S z fuel (listed.setIfInBounds i true) a' w') a w
theorem wpAny_of_E : ∀ (fuel : Nat) (listed : Array Bool) (a : Act) (w : World), wpAnyE P md ops Q S z fuel listed a w → wpAny P md ops Q fuel listed a w
  | 0, _, _, _, h => h
  | fuel + 1, _, _, _, h => ⟨h.1, fun i hi => wpOp_mono (fun a' w' h' => wpAny_of_E fuel _ a' w' h'.2) (h.2 i hi)⟩
theorem wpAnyE_first {i : Nat} {oi oz : Oper} {v : Value} (hz : ops[z]? = some oz) (hzi : ∃ e ∈ oz.after, Region.binds md e = true ∧ e.on = i) (hi : ops[i]? = some oi) (hsel : ∀ (j : Nat) (o : Oper) cs b, ops[j]? = some o → o.op ≠ .select cs b)
    (hQ : ∀ c a w, Q (.panic c) (a.put oi.dst v) w → Q (.panic c) a w) :
    ∀ (fuel : Nat) (listed : Array Bool) (a : Act) (w : World),
      (∀ j oj, ops[j]? = some oj → j ≠ i → listed.getD j true = false → (∀ e ∈ oj.after, Region.binds md e = true → e.on ≠ i) → oi.apart ops oj = true) →
      i ∈ Region.ready md ops listed → YieldsIf P ops S oi v a → S w →
      wpAnyE P md ops Q S z fuel (listed.setIfInBounds i true) (a.put oi.dst v) w → wpAnyE P md ops Q S z (fuel + 1) listed a w := by
  intro fuel
  induction fuel with
  | zero =>
    intro listed a w _ hr hy hS H
    refine ⟨fun h => (by rw [h] at hr; cases hr), fun j hj => ?_⟩
    by_cases hji : j = i
    · subst hji; exact hy.wpOp hi hS ⟨fun _ => hS, H⟩
    · have := ready_mono hj hji
      rw [H.1] at this
      cases this
  | succ fuel ih =>
    intro listed a w hfree hr hy hS H
    refine ⟨fun h => (by rw [h] at hr; cases hr), fun j hj => ?_⟩
    by_cases hji : j = i
    · subst hji; exact hy.wpOp hi hS ⟨fun _ => hS, H⟩
    · have h1 := H.2 j (ready_mono hj hji)
      obtain ⟨hjun, oj, hoj, hall⟩ := mem_ready.1 hj
      have hnot : ∀ e ∈ oj.after, Region.binds md e = true → e.on ≠ i := fun e he hb heq => by
        have h1 := hall e he hb
        have h0 := (mem_ready.1 hr).1
        rw [heq] at h1
        rcases Nat.lt_or_ge i listed.size with h' | h'
        · simp [h'] at h0 h1; rw [h0] at h1; cases h1
        · simp [Array.getElem?_eq_none h'] at h1
      have hjz : j ≠ z := fun e => by
        subst e
        rw [hoj] at hz
        cases hz
        obtain ⟨e, he, hb, hon⟩ := hzi
        exact hnot e he hb hon
      have h2 := wpOp_putIf hoj (hfree j oj hoj hji hjun hnot) (fun cs b => hsel i oi cs b hi) (fun cs b => hsel j oj cs b hoj) hQ hy h1
      have hfree' : ∀ k ok, ops[k]? = some ok → k ≠ i → (listed.setIfInBounds j true).getD k true = false →
          (∀ e ∈ ok.after, Region.binds md e = true → e.on ≠ i) → oi.apart ops ok = true := fun k ok hk hki hun hno => by
        refine hfree k ok hk hki ?_ hno
        by_cases hjk : j = k
        · subst hjk; exact hjun
        · rw [getD_set_ne true hjk] at hun; exact hun
      refine wpOp_mono (fun a' w' h3 => ⟨fun _ => h3.2.1 hjz, ih (listed.setIfInBounds j true) a' w' hfree' (ready_mono hr (Ne.symm hji)) h3.1 (h3.2.1 hjz) ?_⟩) h2
      rw [Array.setIfInBounds_comm _ _ hji]
      exact h3.2.2
def behind (md : Region.Mode) (ops : Array Oper) (z i : Nat) : Bool := match ops[z]? with | some oz => oz.after.any (fun e => Region.binds md e && e.on == i) | none => false
theorem wpAnyE_take {i : Nat} {oi : Oper} {v : Value} {fuel : Nat} {listed : Array Bool} {a : Act} {w : World} (hb : behind md ops z i = true) (hi : ops[i]? = some oi)
    (hs : Region.noSelect ops = true) (hf : Region.free md ops listed i = true) (hr : (Region.ready md ops listed).contains i = true)
    (hQ : ∀ c a w, Q (.panic c) (a.put oi.dst v) w → Q (.panic c) a w) (hy : YieldsIf P ops S oi v a) (hS : S w)
    (h : wpAnyE P md ops Q S z fuel (listed.setIfInBounds i true) (a.put oi.dst v) w) : wpAnyE P md ops Q S z (fuel + 1) listed a w := by
  obtain ⟨oz, hz⟩ : ∃ oz, ops[z]? = some oz := by
    cases e : ops[z]? with
    | none => simp [behind, e] at hb
    | some oz => exact ⟨oz, rfl⟩
  have hzi : ∃ e ∈ oz.after, Region.binds md e = true ∧ e.on = i := by
    simp only [behind, hz] at hb
    obtain ⟨k, hk, h2⟩ := Array.any_eq_true.1 hb
    rw [Bool.and_eq_true, beq_iff_eq] at h2
    exact ⟨oz.after[k], Array.getElem_mem hk, h2.1, h2.2⟩
  exact wpAnyE_first hz hzi hi (Region.noSelect_spec hs) hQ fuel listed a w (Region.free_spec hi hf) (by simpa using hr) hy hS h
theorem wpAnyE_done {listed : Array Bool} {a : Act} {w : World} (hr : Region.ready md ops listed = []) (h : Q .normal a w) :
    ∀ fuel, wpAnyE P md ops Q S z fuel listed a w
  | 0 => ⟨hr, h⟩
  | _ + 1 => ⟨fun _ => h, by rw [hr]; simp⟩
def AllReadyE (P : Program) (md : Region.Mode) (ops : Array Oper) (Q : Exit → Act → World → Prop) (S : World → Prop) (z fuel : Nat) (listed : Array Bool) (a : Act) (w : World) (rs : List Nat) : Prop :=
  ∀ i ∈ rs, wpOp P ops Q i (fun a' w' => (i ≠ z → S w') ∧ wpAnyE P md ops Q S z fuel (listed.setIfInBounds i true) a' w') a w
theorem AllReadyE.nil {fuel : Nat} {listed : Array Bool} {a : Act} {w : World} : AllReadyE P md ops Q S z fuel listed a w [] := fun _ h => by cases h
theorem AllReadyE.cons {fuel : Nat} {listed : Array Bool} {a : Act} {w : World} {i : Nat} {o : Oper} {rs : List Nat} (ho : ops[i]? = some o)
    (h : ∀ K' : Act → World → Prop, Shut (∀ a w, S w → (S w → wpAnyE P md ops Q S z fuel (listed.setIfInBounds i true) a w) → K' a w) → if Region.wanted o (yielded ops a.tmps) = true then Oper.wp P o a w K' Q else K' (a.put o.dst undef) w)
    (hs : AllReadyE P md ops Q S z fuel listed a w rs) : AllReadyE P md ops Q S z fuel listed a w (i :: rs) := fun j hj => by
  rcases List.mem_cons.1 hj with rfl | hj
  · exact wpOp_step ho (fun K' hK => h K' (fun a w hS hW => hK a w ⟨fun _ => hS, hW hS⟩))
  · exact hs j hj
theorem AllReadyE.last {fuel : Nat} {listed : Array Bool} {a : Act} {w : World} {o : Oper} (ho : ops[z]? = some o)
    (h : ∀ K' : Act → World → Prop, Shut (∀ a w, True → (True → wpAnyE P md ops Q S z fuel (listed.setIfInBounds z true) a w) → K' a w) → if Region.wanted o (yielded ops a.tmps) = true then Oper.wp P o a w K' Q else K' (a.put o.dst undef) w) :
    AllReadyE P md ops Q S z fuel listed a w [z] := fun j hj => by
  rcases List.mem_cons.1 hj with rfl | hj
  · exact wpOp_step ho (fun K' hK => h K' (fun a w _ hW => hK a w ⟨fun hz => absurd rfl hz, hW trivial⟩))
  · cases hj
theorem wpAnyE_ready {rs : List Nat} {fuel : Nat} {listed : Array Bool} {a : Act} {w : World} (hr : Region.ready md ops listed = rs) (hne : rs ≠ [])
    (h : AllReadyE P md ops Q S z fuel listed a w rs) : wpAnyE P md ops Q S z (fuel + 1) listed a w := ⟨fun h0 => absurd (hr ▸ h0) hne, hr ▸ h⟩
theorem wp_region_E {id : Nat} {a : Act} {w : World} (S : World → Prop) (z : Nat) (hm : P.follows .mixedOrders = true) (hS : S w.drew)
    (h : S w.drew → wpAnyE P .any ops Q S z ops.size (Array.replicate ops.size false) a w.drew) : (Code.region id ops true).wp P Q a w :=
  wp_region_any hm (wpAny_of_E _ _ _ _ (h hS))
end
end Go.Proofs.Ytfmgncajhjkdlaa
