/- an arena and the document's beside it: what lies where, and each call's contract over both. -/
import Derived.Test.YtmkfnnhhioeioaaApn
import Derived.Test.YtmkfnnhhioeioaaArq
namespace Go.Proofs.Ytmkfnnhhioeioaa
open Go.RowKit Go.PlainAid
set_option linter.unusedVariables false
set_option linter.unusedSimpArgs false

structure St where
  g : Nat
  k : Nat
  np : Nat
  S : Nat
  bv : Value
  ow : List Int
  bs : List Int
  g' : Nat
  k' : Nat
  ck : Nat
  r : Nat
  cr : Nat
  ow' : List Int
  F : List Int
  vs : List Value

def aFoot (g k : Nat) (bv : Value) (i : Nat) : Prop := i = g ∨ i = k ∨ bv.ownBlock = some i

structure PairI (w : World) (X : Nat → Prop) (s : St) : Prop where
  ar : Ar w s.g s.k s.np s.S s.bv s.ow s.bs
  rf : Rf w s.g' s.k' s.ck s.r s.cr s.np s.S s.ow' s.vs s.F
  xa : ∀ i, aFoot s.g s.k s.bv i → X i
  xr : ∀ i, rFoot s.g' s.k' s.r s.S s.vs i → X i
  dj : ∀ i, aFoot s.g s.k s.bv i → ¬ rFoot s.g' s.k' s.r s.S s.vs i
  xl : ∀ i, X i → i < w.heap.size

theorem Ar.keep {w w' : World} {g k np : Nat} {size : Int} {bv : Value} {ow bs : List Int} {T : Nat → Prop} (h : Ar w g k np size bv ow bs) (ht : Tch T w w') (hd : ∀ i, aFoot g k bv i → ¬ T i) : Ar w' g k np size bv ow bs := by
  have hk : ∀ {base : Nat} {e : TypeId} {n : Nat} {v : Value} {xs : List Value}, w.ownsRow base e 1 v n xs → (∀ b, v.ownBlock = some b → ¬ T b) → w'.ownsRow base e 1 v n xs := by
    intro base e n v xs ho hb
    refine ⟨ho.1, ?_⟩
    rcases ho.2 with h1 | ⟨g', cap', cur, rfl, h2, h3, h4⟩
    · exact .inl h1
    · exact .inr ⟨g', cap', cur, rfl, h2, (ht.block g' (Array.getElem?_eq_some_iff.1 h3).1 (hb g' rfl)).trans h3, h4⟩
  exact ⟨(ht.block g (Array.getElem?_eq_some_iff.1 h.box).1 (hd g (.inl rfl))).trans h.box, hk h.own (fun b hb => by simp [Value.ownBlock] at hb; subst hb; exact hd _ (.inr (.inl rfl))), hk h.byt (fun b hb => hd b (.inr (.inr hb))), h.len, h.np1, h.rng, h.siz⟩
theorem aFoot_lt {w : World} {g k np : Nat} {size : Int} {bv : Value} {ow bs : List Int} (h : Ar w g k np size bv ow bs) (i : Nat) (hi : aFoot g k bv i) : i < w.heap.size := by
  rcases hi with rfl | rfl | hi
  · exact (Array.getElem?_eq_some_iff.1 h.box).1
  · exact (h.own.lt _ rfl).2
  · exact (h.byt.lt _ hi).2

section
variable {w w' : World} {X : Nat → Prop} {s : St}
theorem PairI.keep {T : Nat → Prop} (h : PairI w X s) (ht : Tch T w w') (hd : ∀ i, X i → ¬ T i) : PairI w' X s :=
  ⟨h.ar.keep ht (fun i hi => hd i (h.xa i hi)), h.rf.keep ht (fun i hi hx => hd i (h.xr i hx) hi), h.xa, h.xr, h.dj, fun i hi => Nat.lt_of_lt_of_le (h.xl i hi) ht.size⟩
theorem PairI.drew (h : PairI w X s) : PairI w.drew X s := h.keep (T := fun _ => False) ((Tch.refl _ w).drewN 1) (fun _ _ h => h)
theorem PairI.drewN (h : PairI w X s) (n : Nat) : PairI (w.drewN n) X s := h.keep (T := fun _ => False) ((Tch.refl _ w).drewN n) (fun _ _ h => h)
/-- the arena has turned, the document's has not -/
theorem PairI.goA (h : PairI w X s) {T : Nat → Prop} {bv' : Value} {ow' bs' : List Int} (hA : Ar w' s.g s.k s.np s.S bv' ow' bs') (ht : Tch T w w') (hT : ∀ i, T i → aFoot s.g s.k s.bv i)
    (hf : ∀ i, bv'.ownBlock = some i → s.bv.ownBlock = some i ∨ w.heap.size ≤ i) : PairI w' (fun i => X i ∨ aFoot s.g s.k bv' i) { s with bv := bv', ow := ow', bs := bs' } ∧ Tch X w w' := by
  refine ⟨⟨hA, h.rf.keep ht (fun i hi hx => h.dj i (hT i hi) hx), fun i hi => .inr hi, fun i hi => .inl (h.xr i hi), fun i hi hx => ?_, fun i hi => ?_⟩, ht.mono (fun i hi => h.xa i (hT i hi))⟩
  · rcases hi with h1 | h1 | h1
    · exact h.dj i (.inl h1) hx
    · exact h.dj i (.inr (.inl h1)) hx
    · rcases hf i h1 with h2 | h2
      · exact h.dj i (.inr (.inr h2)) hx
      · have := rFoot_lt h.rf i hx; omega
  · rcases hi with h1 | h1
    · exact Nat.lt_of_lt_of_le (h.xl i h1) ht.size
    · exact aFoot_lt hA i h1
/-- the document's arena has turned, the arena has not -/
theorem PairI.goR (h : PairI w X s) {T : Nat → Prop} {vs' : List Value} {ow' F' : List Int} (hR : Rf w' s.g' s.k' s.ck s.r s.cr s.np s.S ow' vs' F') (ht : Tch T w w') (hT : ∀ i, T i → rFoot s.g' s.k' s.r s.S s.vs i)
    (hf : rFresh s.g' s.k' s.r s.S s.vs vs' w) : PairI w' (fun i => X i ∨ rFoot s.g' s.k' s.r s.S vs' i) { s with vs := vs', ow' := ow', F := F' } ∧ Tch X w w' := by
  refine ⟨⟨h.ar.keep ht (fun i hi hx => h.dj i hi (hT i hx)), hR, fun i hi => .inl (h.xa i hi), fun i hi => .inr hi, fun i hi hx => ?_, fun i hi => ?_⟩, ht.mono (fun i hi => h.xr i (hT i hi))⟩
  · rcases hf i hx with h2 | h2
    · exact h.dj i hi h2
    · have := aFoot_lt h.ar i hi; omega
  · rcases hi with h1 | h1
    · exact Nat.lt_of_lt_of_le (h.xl i h1) ht.size
    · exact rFoot_lt hR i h1

/-- from X to Y: what is new is new in memory -/
def Nu (X Y : Nat → Prop) (w : World) : Prop := ∀ i, Y i → X i ∨ w.heap.size ≤ i
theorem Nu.refl (X : Nat → Prop) (w : World) : Nu X X w := fun i h => .inl h
theorem Nu.trans {X Y Z : Nat → Prop} {w w' : World} (h : Nu X Y w) (k : Nu Y Z w') (hs : w.heap.size ≤ w'.heap.size) : Nu X Z w := fun i hi => by
  rcases k i hi with h1 | h1
  · exact h i h1
  · exact .inr (by omega)
/-- a step of the pair -/
structure Step (X Y : Nat → Prop) (w w' : World) (s : St) : Prop where
  pr : PairI w' Y s
  tc : Tch X w w'
  nu : Nu X Y w
theorem Step.trans {X Y Z : Nat → Prop} {w1 w2 w3 : World} {s t : St} (h : Step X Y w1 w2 s) (k : Step Y Z w2 w3 t) : Step X Z w1 w3 t :=
  ⟨k.pr, h.tc.trans k.tc h.nu, h.nu.trans k.nu h.tc.size⟩
theorem Step.refl {X : Nat → Prop} {w : World} {s : St} (h : PairI w X s) : Step X X w w s := ⟨h, Tch.refl _ w, Nu.refl X w⟩
theorem Step.drew {X Y : Nat → Prop} {w w' : World} {s : St} (h : Step X Y w w' s) : Step X Y w w'.drew s := ⟨h.pr.drew, h.tc.drewN 1, h.nu⟩
theorem Step.drewN {X Y : Nat → Prop} {w w' : World} {s : St} (h : Step X Y w w' s) (n : Nat) : Step X Y w (w'.drewN n) s := ⟨h.pr.drewN n, h.tc.drewN n, h.nu⟩
/-- a step beside the pair -/
theorem Step.beside {X Y T : Nat → Prop} {w w' w'' : World} {s : St} (h : Step X Y w w' s) (ht : Tch T w' w'') (hT : ∀ i, T i → ¬ Y i ∧ w.heap.size ≤ i) : Step X Y w w'' s :=
  ⟨h.pr.keep ht (fun i hi hx => (hT i hx).1 hi), h.tc.trans ht (fun i hi => .inr (hT i hi).2), h.nu⟩
theorem Step.below {X Y : Nat → Prop} {w w' w'' : World} {s : St} (h : Step X Y w w' s) (hb : Below w'.heap.size w' w'') : Step X Y w w'' s :=
  h.beside (Tch.of_below (fun _ => False) hb) (fun i hi => hi.elim)
theorem PairI.goA' (h : PairI w X s) {T : Nat → Prop} {bv' : Value} {ow' bs' : List Int} (hA : Ar w' s.g s.k s.np s.S bv' ow' bs') (ht : Tch T w w') (hT : ∀ i, T i → aFoot s.g s.k s.bv i)
    (hf : ∀ i, bv'.ownBlock = some i → s.bv.ownBlock = some i ∨ w.heap.size ≤ i) : Step X (fun i => X i ∨ aFoot s.g s.k bv' i) w w' { s with bv := bv', ow := ow', bs := bs' } := by
  obtain ⟨h1, h2⟩ := h.goA hA ht hT hf
  refine ⟨h1, h2, fun i hi => ?_⟩
  rcases hi with h3 | h3 | h3 | h3
  · exact .inl h3
  · exact .inl (h.xa i (.inl h3))
  · exact .inl (h.xa i (.inr (.inl h3)))
  · rcases hf i h3 with h4 | h4
    · exact .inl (h.xa i (.inr (.inr h4)))
    · exact .inr h4
theorem PairI.goR' (h : PairI w X s) {T : Nat → Prop} {vs' : List Value} {ow' F' : List Int} (hR : Rf w' s.g' s.k' s.ck s.r s.cr s.np s.S ow' vs' F') (ht : Tch T w w') (hT : ∀ i, T i → rFoot s.g' s.k' s.r s.S s.vs i)
    (hf : rFresh s.g' s.k' s.r s.S s.vs vs' w) : Step X (fun i => X i ∨ rFoot s.g' s.k' s.r s.S vs' i) w w' { s with vs := vs', ow' := ow', F := F' } := by
  obtain ⟨h1, h2⟩ := h.goR hR ht hT hf
  refine ⟨h1, h2, fun i hi => ?_⟩
  rcases hi with h3 | h3
  · exact .inl h3
  · rcases hf i h3 with h4 | h4
    · exact .inl (h.xr i h4)
    · exact .inr h4

/-- what a call answers and how it leaves the pair -/
def Ans (X : Nat → Prop) (w : World) (v : Value) (s' : St) (e : Ending) (w' : World) : Prop := e = .returned v ∧ ∃ Y, Step X Y w w' s'

theorem pGrant (h : PairI w X s) (o : Int) : Calls Try.prog 10 #[.pointer (some ⟨s.g, 0, none⟩), .int .i64 o] w (Ans X w (.tuple #[.int .i64 (AP.grP s.ow o), .int .i64 (AP.grE s.ow o)]) { s with ow := AP.grO s.ow o }) :=
  (grant_any h.ar o).mono fun e w' ⟨he, hA, hg⟩ => ⟨he, _, h.goA' hA (Tch.of_grown hg) (fun i hi => by injection hi with hi; exact .inr (.inl hi.symm)) (fun i hi => .inl hi)⟩
theorem pReturn (h : PairI w X s) (o : Int) : Calls Try.prog 9 #[.pointer (some ⟨s.g, 0, none⟩), .int .i64 o] w (Ans X w (.int .i64 (AP.reE s.ow o)) { s with ow := AP.reO s.ow o }) :=
  (return_any h.ar o).mono fun e w' ⟨he, hA, hg⟩ => ⟨he, _, h.goA' hA (Tch.of_grown hg) (fun i hi => by injection hi with hi; exact .inr (.inl hi.symm)) (fun i hi => .inl hi)⟩
theorem pPass (h : PairI w X s) (p o : Int) : Calls Try.prog 15 #[.pointer (some ⟨s.g, 0, none⟩), .int .i64 p, .int .i64 o] w (Ans X w (.int .i64 (AP.paE s.ow p o)) { s with ow := AP.paO s.ow p o }) :=
  (pass_any h.ar p o).mono fun e w' ⟨he, hA, hg⟩ => ⟨he, _, h.goA' hA (Tch.of_grown hg) (fun i hi => by injection hi with hi; exact .inr (.inl hi.symm)) (fun i hi => .inl hi)⟩
theorem qGrant (h : PairI w X s) (o : Int) : Calls Try.prog 24 #[.pointer (some ⟨s.g', 0, none⟩), .int .i64 o] w (Ans X w (.tuple #[.int .i64 (AP.grP s.ow' o), .int .i64 (AP.grE s.ow' o)]) { s with ow' := AP.grO s.ow' o }) :=
  (rGrant_any h.rf o).mono fun e w' ⟨he, hA, hg⟩ => ⟨he, _, h.goR' hA (Tch.of_grown hg) (fun i hi => by injection hi with hi; exact .inr (.inl hi.symm)) (fun i hi => .inl hi)⟩
theorem qReturn (h : PairI w X s) (o : Int) : Calls Try.prog 25 #[.pointer (some ⟨s.g', 0, none⟩), .int .i64 o] w (Ans X w (.int .i64 (AP.reE s.ow' o)) { s with ow' := AP.reO s.ow' o }) :=
  (rReturn_any h.rf o).mono fun e w' ⟨he, hA, hg⟩ => ⟨he, _, h.goR' hA (Tch.of_grown hg) (fun i hi => by injection hi with hi; exact .inr (.inl hi.symm)) (fun i hi => .inl hi)⟩
theorem qPass (h : PairI w X s) (p o : Int) : Calls Try.prog 28 #[.pointer (some ⟨s.g', 0, none⟩), .int .i64 p, .int .i64 o] w (Ans X w (.int .i64 (AP.paE s.ow' p o)) { s with ow' := AP.paO s.ow' p o }) :=
  (rPass_any h.rf p o).mono fun e w' ⟨he, hA, hg⟩ => ⟨he, _, h.goR' hA (Tch.of_grown hg) (fun i hi => by injection hi with hi; exact .inr (.inl hi.symm)) (fun i hi => .inl hi)⟩

theorem pWrite (h : PairI w X s) (p a : Int) (v : Value) (l : List Int) (hbl : s.bs.length ≤ 67108864) (hl : l.length ≤ maxLen) (hv : ∀ w', Tch X w w' → RB w' v l) :
    Calls Try.prog 14 #[.pointer (some ⟨s.g, 0, none⟩), .int .i64 p, .int .i64 a, v] w fun e w' => e = .returned (.int .i64 (AP.byE s.ow s.S p a l.length)) ∧ ∃ bv' Y, Step X Y w w' { s with bv := bv', bs := AP.wrB s.ow s.bs s.S p a l } := by
  have hT : ∀ i, (i = s.g ∨ s.bv.ownBlock = some i) → aFoot s.g s.k s.bv i := fun i hi => by
    rcases hi with h1 | h1
    · exact .inl h1
    · exact .inr (.inr h1)
  refine (write_any h.ar p a v l hbl hl (fun w' ht => hv w' (ht.mono (fun i hi => h.xa i (hT i hi))))).mono ?_
  rintro e w' ⟨he, bv', hA, ht, hf⟩
  exact ⟨he, bv', _, h.goA' hA ht hT hf⟩
theorem qWrite (h : PairI w X s) (p a : Int) (v : Value) (l : List Int) (hl : l.length ≤ maxLen) (hby : ∀ x ∈ l, 0 ≤ x ∧ x ≤ 255) (hv : ∀ w', Tch X w w' → RB w' v l) :
    Calls Try.prog 26 #[.pointer (some ⟨s.g', 0, none⟩), .int .i64 p, .int .i64 a, v] w fun e w' => e = .returned (.int .i64 (AP.byE s.ow' s.S p a l.length)) ∧ ∃ vs' Y, Step X Y w w' { s with vs := vs', F := AP.rwF s.ow' s.F s.S p a l } := by
  refine (rWrite_any h.rf p a v l hl hby (fun w' ht => hv w' (ht.mono (fun i hi => h.xr i (.inr (.inr (.inl hi))))))).mono ?_
  rintro e w' ⟨he, vs', hA, ht, hf⟩
  exact ⟨he, vs', _, h.goR' hA ht (fun i hi => hi) hf⟩
theorem pRead (h : PairI w X s) (p a n : Int) (hbl : s.bs.length ≤ 67108864) (hn2 : -9223372036854775808 ≤ n) (hn3 : n ≤ 9223372036854775807) :
    Calls Try.prog 16 #[.pointer (some ⟨s.g, 0, none⟩), .int .i64 p, .int .i64 a, .int .i64 n] w fun e w' => ∃ v bv' Y, e = .returned (.tuple #[v, .int .i64 (AP.byE s.ow s.S p a n)]) ∧
      w'.ownsRow w.heap.size 5 1 v (AP.rdL s.ow s.bs s.S p a n).length ((AP.rdL s.ow s.bs s.S p a n).map (.int .u8)) ∧ Step X Y w w' { s with bv := bv', bs := AP.rdB s.ow s.bs s.S p a n } ∧ (∀ j, v.ownBlock = some j → ¬ Y j) := by
  refine (read_any h.ar p a n hbl hn2 hn3).mono ?_
  rintro e w' ⟨v, bv', B, he, hB, ho, hA, ht, hf, hlo⟩
  have hst := h.goA' hA ht (fun i hi => by
    rcases hi with h1 | h1
    · exact .inl h1
    · exact .inr (.inr h1)) hf
  refine ⟨v, bv', _, he, own_mono ho hB, hst, fun j hj hY => ?_⟩
  have h1 := (ho.lt j hj).1
  rcases hY with h2 | h2 | h2 | h2
  · have := h.xl j h2; omega
  · have := h.xl j (h.xa j (.inl h2)); omega
  · have := h.xl j (h.xa j (.inr (.inl h2))); omega
  · have := hlo j h2; omega
theorem qRead (h : PairI w X s) (p a n : Int) (hn2 : -9223372036854775808 ≤ n) (hn3 : n ≤ 9223372036854775807) :
    Calls Try.prog 27 #[.pointer (some ⟨s.g', 0, none⟩), .int .i64 p, .int .i64 a, .int .i64 n] w fun e w' => ∃ v vs' Y, e = .returned (.tuple #[v, .int .i64 (AP.byE s.ow' s.S p a n)]) ∧
      RB w' v (AP.rrL s.ow' s.F s.S p a n) ∧ Step X Y w w' { s with vs := vs' } := by
  refine (rRead_any h.rf p a n hn2 hn3).mono ?_
  rintro e w' ⟨v, vs', he, hrb, hR, ht, hf⟩
  exact ⟨v, vs', _, he, hrb, h.goR' hR ht (fun i hi => hi) hf⟩
theorem pPages (h : PairI w X s) (o : Int) : Calls Try.prog 11 #[.pointer (some ⟨s.g, 0, none⟩), .int .i64 o] w (PgPost s.ow o w) := pages_any h.ar o
theorem qPages (h : PairI w X s) (o : Int) : Calls Try.prog 29 #[.pointer (some ⟨s.g', 0, none⟩), .int .i64 o] w (PgPost s.ow' o w) := rPages_any h.rf o
end

/-- an arena and the document's that agree -/
def Same (s : St) : Prop := s.ow = s.ow' ∧ AP.ext s.bs (s.np * s.S) = s.F ∧ s.bs.length ≤ s.np * s.S
def Pair (w : World) (X : Nat → Prop) (g g' np S : Nat) : Prop := ∃ s : St, PairI w X s ∧ Same s ∧ s.g = g ∧ s.g' = g' ∧ s.np = np ∧ s.S = S
def DoPost (X : Nat → Prop) (g g' np S : Nat) (w : World) (e : Ending) (w' : World) : Prop :=
  e = .returned (.bool true) ∧ ∃ Y s, Step X Y w w' s ∧ Same s ∧ s.g = g ∧ s.g' = g' ∧ s.np = np ∧ s.S = S

theorem Same.write {s : St} (h : Same s) {w : World} (hA : Ar w s.g s.k s.np s.S s.bv s.ow s.bs) (p a : Int) (l : List Int) (bv : Value) (vs : List Value) : Same { s with bv := bv, bs := AP.wrB s.ow s.bs s.S p a l, vs := vs, F := AP.rwF s.ow' s.F s.S p a l } := by
  obtain ⟨h1, h2, h3⟩ := h
  refine ⟨h1, ?_, ?_⟩
  · show AP.ext (AP.wrB s.ow s.bs s.S p a l) (s.np * s.S) = AP.rwF s.ow' s.F s.S p a l
    unfold AP.wrB AP.rwF
    rw [← h1]
    by_cases hE : AP.byE s.ow s.S p a l.length = 0
    · rw [if_pos hE, if_pos hE, ← h2]
      obtain ⟨q, b, m, rfl, rfl, hm, hq, ho, hb, hbm⟩ := byE_yes hA.rng hA.len hE
      obtain rfl : l.length = m := by omega
      have h4 : (q + 1) * s.S ≤ s.np * s.S := Nat.mul_le_mul_right s.S (by omega)
      have h5 : (q + 1) * s.S = q * s.S + s.S := Nat.succ_mul q s.S
      unfold AP.byB
      simp only [Int.toNat_natCast]
      exact splice_ext h4 (by omega) h3
    · rw [if_neg hE, if_neg hE, h2]
  · show (AP.wrB s.ow s.bs s.S p a l).length ≤ s.np * s.S
    unfold AP.wrB
    by_cases hE : AP.byE s.ow s.S p a l.length = 0
    · rw [if_pos hE]
      obtain ⟨q, b, m, rfl, rfl, hm, hq, ho, hb, hbm⟩ := byE_yes hA.rng hA.len hE
      obtain rfl : l.length = m := by omega
      have h4 : (q + 1) * s.S ≤ s.np * s.S := Nat.mul_le_mul_right s.S (by omega)
      have h5 : (q + 1) * s.S = q * s.S + s.S := Nat.succ_mul q s.S
      have h6 := byB_len s.bs (S := s.S) (q := q)
      simp only [Int.toNat_natCast]
      rw [AP.splice_len (by omega)]
      unfold AP.byB
      rw [AP.ext_len, Int.toNat_natCast]
      omega
    · rw [if_neg hE]; exact h3
theorem Same.read {s : St} (h : Same s) {w : World} (hA : Ar w s.g s.k s.np s.S s.bv s.ow s.bs) (p a n : Int) (bv : Value) (vs : List Value) : Same { s with bv := bv, bs := AP.rdB s.ow s.bs s.S p a n, vs := vs } ∧ AP.rdL s.ow s.bs s.S p a n = AP.rrL s.ow' s.F s.S p a n := by
  obtain ⟨h1, h2, h3⟩ := h
  by_cases hE : AP.byE s.ow s.S p a n = 0
  · obtain ⟨q, b, m, rfl, rfl, rfl, hq, ho, hb, hbm⟩ := byE_yes hA.rng hA.len hE
    have h4 : (q + 1) * s.S ≤ s.np * s.S := Nat.mul_le_mul_right s.S (by omega)
    have h5 : (q + 1) * s.S = q * s.S + s.S := Nat.succ_mul q s.S
    have e1 : AP.rdB s.ow s.bs s.S (q : Int) (b : Int) (m : Int) = AP.ext s.bs ((q + 1) * s.S) := by unfold AP.rdB AP.byB; rw [if_pos hE, Int.toNat_natCast]
    refine ⟨⟨h1, ?_, ?_⟩, ?_⟩
    · show AP.ext (AP.rdB s.ow s.bs s.S (q : Int) (b : Int) (m : Int)) (s.np * s.S) = s.F
      rw [e1, ext_ext h4 h3, h2]
    · show (AP.rdB s.ow s.bs s.S (q : Int) (b : Int) (m : Int)).length ≤ s.np * s.S
      rw [e1, AP.ext_len]; omega
    · unfold AP.rdL AP.rrL AP.byB
      rw [← h1, if_pos hE, if_pos hE, ← h2]
      simp only [Int.toNat_natCast]
      exact cut_ext h4 (by omega) h3
  · have e1 : AP.rdB s.ow s.bs s.S p a n = s.bs := by unfold AP.rdB; rw [if_neg hE]
    refine ⟨⟨h1, ?_, ?_⟩, ?_⟩
    · show AP.ext (AP.rdB s.ow s.bs s.S p a n) (s.np * s.S) = s.F
      rw [e1, h2]
    · show (AP.rdB s.ow s.bs s.S p a n).length ≤ s.np * s.S
      rw [e1]; exact h3
    · unfold AP.rdL AP.rrL
      rw [← h1, if_neg hE, if_neg hE]
end Go.Proofs.Ytmkfnnhhioeioaa
