/- a slab: what it is, in plain words; and where it lies. -/
import Derived.Test.YtfmgncajhjkdlaaSrd
import Derived.Maps.OwnOps
import Derived.Maps.OwnSet
import Derived.Maps.Views
namespace Go.Proofs.Ytfmgncajhjkdlaa
open Go.RowKit Go.PlainAid
set_option linter.unusedVariables false
set_option linter.unusedSimpArgs false

namespace SP
/-- what is known of a page -/
structure Pg where
  used : List Bool
  n : Int
  cl : Bool
deriving DecidableEq
/-- a slab, as the code has it -/
structure Pi where
  S : Nat
  ow : List Int
  bs : List Int
  sz : List Int
  rows : List (List Int)
  pg : List (Option Pg)
deriving DecidableEq
def Pi.page (π : Pi) (p : Nat) : Option Pg := (π.pg[p]?).join
/-- where it lies -/
structure Bk where
  sb : Nat
  g : Nat
  k : Nat
  bv : Value
  zb : Nat
  zc : Nat
  rb : Nat
  rc : Nat
  rv : List Value
  mb : Nat
  pb : Nat → Nat
  pv : Nat → Value
inductive Ix where
  | sl | ar | own | byt | siz | rows | row (c : Nat) | map | pg (p : Nat) | use (p : Nat)
deriving DecidableEq
def blk (β : Bk) (π : Pi) : Ix → Option Nat
  | .sl => some β.sb
  | .ar => some β.g
  | .own => some β.k
  | .byt => β.bv.ownBlock
  | .siz => some β.zb
  | .rows => some β.rb
  | .row c => (β.rv[c]?).bind (·.ownBlock)
  | .map => some β.mb
  | .pg p => (π.page p).map (fun _ => β.pb p)
  | .use p => (π.page p).bind (fun _ => (β.pv p).ownBlock)
end SP
open SP

/-- a pointer among a map's elements -/
def ptrE : Value → Option (DataW Unit × List MemPlace)
  | .pointer none => some (.lit (.int .i64 (-1)), [])
  | .pointer (some ⟨b, 0, none⟩) => some (.lit (.int .i64 (b : Int)), [])
  | _ => none
def pcode : Option Nat → Int
  | none => -1
  | some b => (b : Int)
def pval (o : Option Nat) : Value := .pointer (o.map (fun b => ⟨b, 0, none⟩))
theorem ptrE_val (o : Option Nat) : ptrE (pval o) = some (.lit (.int .i64 (pcode o)), []) := by cases o <;> rfl
theorem ptrE_inv {v : Value} {o : Option Nat} {ps : List MemPlace} (h : ptrE v = some (.lit (.int .i64 (pcode o)), ps)) : v = pval o := by
  unfold ptrE at h
  split at h
  · cases o with
    | none => rfl
    | some b => simp [pcode] at h
  · rename_i b
    cases o with
    | none => simp [pcode] at h
    | some b' =>
      simp [pcode] at h
      obtain ⟨h1, _⟩ := h
      obtain rfl : b = b' := by omega
      rfl
  · cases h

/-- the map in block m tells f -/
def MapAt (w : World) (m : Nat) (n : Nat) (f : Int → Option Nat) : Prop :=
  ∃ D : DataW Unit, w.ownsMap Try.prog 3 ptrE m n D ∧ ∀ p : Int, D.atKey (.int .i64 p) (.lit (.int .i64 (-1))) = .lit (.int .i64 (pcode (f p)))

theorem zeroP (w : World) : (zeroValue 68).run Try.prog w = .ok (.pointer none) w := by
  have h : (Try.prog.info? 68).map (fun i => i.zero) = some (some (.pointer none)) := by kernel_rfl
  obtain ⟨i, hi, hz⟩ := Option.map_eq_some_iff.1 h
  simp [zeroValue, typeInfo, hi, hz]
theorem keyI : Maps.Keyed Try.prog 3 := Maps.int_keyed Try.underlying3
theorem wf_of {a : Int} (h : -9223372036854775808 ≤ a ∧ a ≤ 9223372036854775807) : (Lit.int .i64 a).wf = true := by
  simp [Lit.wf, IntKind.min, IntKind.max, IntKind.signed, IntKind.bits]; omega

theorem MapAt.look {w : World} {m n : Nat} {f : Int → Option Nat} (h : MapAt w m n f) (p : Int) (hp : -9223372036854775808 ≤ p ∧ p ≤ 9223372036854775807) :
    (Instr.lookup 64 (.map (some m)) (.int .i64 p) false).run Try.prog w = .ok (pval (f p)) w := by
  obtain ⟨D, ho, hD⟩ := h
  obtain ⟨v, ps, hrun, hv⟩ := ho.lookup keyI Try.underlying64 (zeroP w) (ptrE_val none) (Maps.keyOf_int_mk Try.underlying3 (wf_of hp))
  rw [show (DataW.lit (.int .i64 (pcode none)) : DataW Unit) = .lit (.int .i64 (-1)) from rfl, hD p] at hv
  rw [hrun, ptrE_inv hv]
theorem MapAt.kept {w w' : World} {m n : Nat} {f : Int → Option Nat} (h : MapAt w m n f) (hb : w'.heap[m]? = w.heap[m]?) : MapAt w' m n f := by
  obtain ⟨D, ⟨es, clock, h1, h2⟩, hD⟩ := h
  exact ⟨D, ⟨es, clock, hb.trans h1, h2⟩, hD⟩
theorem MapAt.lt {w : World} {m n : Nat} {f : Int → Option Nat} (h : MapAt w m n f) : m < w.heap.size := by
  obtain ⟨D, ho, _⟩ := h; exact ho.lt
theorem MapAt.new (w : World) : MapAt (w.alloc (.map #[] 0)) w.heap.size 0 (fun _ => none) :=
  ⟨.map [], World.ownsMap_made w _ _ _, fun p => rfl⟩
theorem MapAt.put {w : World} {m n : Nat} {f : Int → Option Nat} (h : MapAt w m n f) (hn : n < maxLen) (p : Int) (hp : -9223372036854775808 ≤ p ∧ p ≤ 9223372036854775807) (b : Nat) :
    ∃ w', (Instr.mapUpdate 64 (.map (some m)) (.int .i64 p) (.pointer (some ⟨b, 0, none⟩))).run Try.prog w = .ok () w' ∧ MapAt w' m (n + 1) (fun q => if q = p then some b else f q) ∧ w.grownBy w' (some m) := by
  obtain ⟨D, ho, hD⟩ := h
  obtain ⟨w', hrun, ho', hg⟩ := ho.update keyI Try.underlying64 hn (Maps.keyOf_int_mk Try.underlying3 (wf_of hp)) (ptrE_val (some b))
  refine ⟨w', hrun, ⟨_, ho', fun q => ?_⟩, hg⟩
  dsimp only
  by_cases hq : q = p
  · subst hq
    rw [if_pos rfl]
    exact Maps.atKey_put_same ho.isMap (by trivial) _ _
  · rw [if_neg hq, Maps.atKey_put_other (by simpa using hq)]
    exact hD q
/-- a row of the call's own, where its block is not turned -/
theorem own_tchB {w w' : World} {T : Nat → Prop} {base : Nat} {e : TypeId} {n : Nat} {v : Value} {xs : List Value} (ho : w.ownsRow base e 1 v n xs) (ht : Tch T w w') (hb : ∀ b, v.ownBlock = some b → ¬ T b) : w'.ownsRow base e 1 v n xs := by
  refine ⟨ho.1, ?_⟩
  rcases ho.2 with h1 | ⟨g', cap', cur, rfl, h2, h3, h4⟩
  · exact .inl h1
  · exact .inr ⟨g', cap', cur, rfl, h2, (ht.block g' (Array.getElem?_eq_some_iff.1 h3).1 (hb g' rfl)).trans h3, h4⟩
end Go.Proofs.Ytfmgncajhjkdlaa
