/- a slab: where it lies. -/
import Derived.Test.YtfmgncajhjkdlaaSpm
namespace Go.Proofs.Ytfmgncajhjkdlaa
open Go.RowKit Go.PlainAid
open SP
set_option linter.unusedVariables false
set_option linter.unusedSimpArgs false

/-- the map of the pages -/
def fm (β : Bk) (π : Pi) (q : Int) : Option Nat := if 0 ≤ q then (π.page q.toNat).map (fun _ => β.pb q.toNat) else none
/-- what lies in each block -/
def res (β : Bk) (π : Pi) (L : Nat) (w : World) : Ix → Prop
  | .sl => w.heap[β.sb]? = some (.cells #[.pointer (some ⟨β.g, 0, none⟩), .slice (some ⟨β.zb, 0, none⟩) π.sz.length β.zc, .slice (some ⟨β.rb, 0, none⟩) π.sz.length β.rc, .map (some β.mb)] 66 (0, 0))
  | .ar => w.heap[β.g]? = some (.cells #[.int .i64 π.S, β.bv, .slice (some ⟨β.k, 0, none⟩) π.ow.length π.ow.length] 75 (0, 0))
  | .own => w.ownsRow 0 3 1 (.slice (some ⟨β.k, 0, none⟩) π.ow.length π.ow.length) π.ow.length (π.ow.map (.int .i64))
  | .byt => w.ownsRow 0 5 1 β.bv π.bs.length (π.bs.map (.int .u8))
  | .siz => w.ownsRow 0 3 1 (.slice (some ⟨β.zb, 0, none⟩) π.sz.length β.zc) π.sz.length (π.sz.map (.int .i64))
  | .rows => w.ownsRow 0 22 1 (.slice (some ⟨β.rb, 0, none⟩) π.sz.length β.rc) π.sz.length β.rv
  | .row c => ∀ v l, β.rv[c]? = some v → π.rows[c]? = some l → w.ownsRow 0 3 1 v l.length (l.map (.int .i64))
  | .map => MapAt w β.mb L (fm β π)
  | .pg p => ∀ x, π.page p = some x → w.heap[β.pb p]? = some (.cells #[β.pv p, .int .i64 x.n, .bool x.cl] 70 (0, 0))
  | .use p => ∀ x, π.page p = some x → w.ownsRow 0 4 1 (β.pv p) x.used.length (x.used.map .bool)

structure Mem (w : World) (β : Bk) (π : Pi) (L : Nat) : Prop where
  lie : ∀ i, res β π L w i
  inj : ∀ i j b, blk β π i = some b → blk β π j = some b → i = j
  lt : ∀ i b, blk β π i = some b → b < w.heap.size

/-- one block's matter stays where its block is not turned -/
theorem res_keep {β : Bk} {π : Pi} {L : Nat} {w w' : World} {T : Nat → Prop} {i : Ix} (h : res β π L w i) (ht : Tch T w w') (hd : ∀ b, blk β π i = some b → ¬ T b) : res β π L w' i := by
  cases i with
  | sl => exact (ht.block _ (Array.getElem?_eq_some_iff.1 h).1 (hd _ rfl)).trans h
  | ar => exact (ht.block _ (Array.getElem?_eq_some_iff.1 h).1 (hd _ rfl)).trans h
  | own => exact own_tchB h ht hd
  | byt => exact own_tchB h ht hd
  | siz => exact own_tchB h ht hd
  | rows => exact own_tchB h ht hd
  | row c =>
    intro v l hv hl
    exact own_tchB (h v l hv hl) ht (fun b hb => hd b (by simp [blk, hv, hb]))
  | map => exact MapAt.kept h (ht.block _ (MapAt.lt h) (hd _ rfl))
  | pg p =>
    intro x hx
    have h1 := h x hx
    exact (ht.block _ (Array.getElem?_eq_some_iff.1 h1).1 (hd _ (by simp [blk, hx]))).trans h1
  | use p =>
    intro x hx
    exact own_tchB (h x hx) ht (fun b hb => hd b (by simp [blk, hx, hb]))

/-- the slab behind a turn of some of its blocks -/
theorem Mem.upd {w w' : World} {β β' : Bk} {π π' : Pi} {L L' : Nat} (h : Mem w β π L) (I : Ix → Prop) {T : Nat → Prop} (ht : Tch T w w') (hT : ∀ b, T b → ∃ i, I i ∧ blk β π i = some b)
    (hsame : ∀ i, ¬ I i → blk β' π' i = blk β π i ∧ (∀ W, res β π L W i → res β' π' L' W i))
    (hI : ∀ i, I i → res β' π' L' w' i ∧ ∀ b, blk β' π' i = some b → b < w'.heap.size ∧ (blk β π i = some b ∨ (w.heap.size ≤ b ∧ ∀ j, I j → blk β' π' j = some b → j = i))) : Mem w' β' π' L' := by
  have hlt : ∀ i b, blk β' π' i = some b → b < w'.heap.size := fun i b hb => by
    by_cases hi : I i
    · exact ((hI i hi).2 b hb).1
    · rw [(hsame i hi).1] at hb
      exact Nat.lt_of_lt_of_le (h.lt i b hb) ht.size
  refine ⟨fun i => ?_, fun i j b hi hj => ?_, hlt⟩
  · by_cases hi : I i
    · exact (hI i hi).1
    · refine (hsame i hi).2 w' (res_keep (h.lie i) ht (fun b hb hx => ?_))
      obtain ⟨j, hj, hjb⟩ := hT b hx
      exact hi (h.inj i j b hb hjb ▸ hj)
  · by_cases hIi : I i
    · by_cases hIj : I j
      · rcases ((hI i hIi).2 b hi).2 with h1 | ⟨h1, h2⟩
        · rcases ((hI j hIj).2 b hj).2 with h3 | ⟨h3, h4⟩
          · exact h.inj i j b h1 h3
          · exact h4 i hIi hi
        · exact (h2 j hIj hj).symm
      · have hj' : blk β π j = some b := by rw [← (hsame j hIj).1]; exact hj
        rcases ((hI i hIi).2 b hi).2 with h1 | ⟨h1, _⟩
        · exact h.inj i j b h1 hj'
        · have := h.lt j b hj'; omega
    · have hi' : blk β π i = some b := by rw [← (hsame i hIi).1]; exact hi
      by_cases hIj : I j
      · rcases ((hI j hIj).2 b hj).2 with h1 | ⟨h1, _⟩
        · exact h.inj i j b hi' h1
        · have := h.lt i b hi'; omega
      · have hj' : blk β π j = some b := by rw [← (hsame j hIj).1]; exact hj
        exact h.inj i j b hi' hj'

def foot (β : Bk) (π : Pi) (b : Nat) : Prop := ∃ i, blk β π i = some b
/-- a call's mark: it turns nothing but the slab's blocks, and its new blocks are new -/
structure Step (w : World) (β : Bk) (π : Pi) (w' : World) (β' : Bk) (π' : Pi) : Prop where
  tch : Tch (foot β π) w w'
  ft : ∀ b, foot β' π' b → foot β π b ∨ w.heap.size ≤ b
  sb : β'.sb = β.sb
  g : β'.g = β.g
theorem Step.refl (w : World) (β : Bk) (π : Pi) : Step w β π w β π := ⟨Tch.refl _ _, fun _ h => .inl h, rfl, rfl⟩
theorem Step.trans {a b c : World} {β β' β'' : Bk} {π π' π'' : Pi} (h : Step a β π b β' π') (k : Step b β' π' c β'' π'') : Step a β π c β'' π'' :=
  ⟨h.tch.trans k.tch h.ft, fun x hx => by
    rcases k.ft x hx with h1 | h1
    · exact h.ft x h1
    · exact .inr (Nat.le_trans h.tch.size h1), k.sb.trans h.sb, k.g.trans h.g⟩
theorem Step.of_below {w w' : World} {β : Bk} {π : Pi} (h : Below w.heap.size w w') : Step w β π w' β π := ⟨Tch.of_below _ h, fun _ h => .inl h, rfl, rfl⟩
theorem Mem.updS {w w' : World} {β β' : Bk} {π π' : Pi} {L L' : Nat} (h : Mem w β π L) (I : Ix → Prop) {T : Nat → Prop} (ht : Tch T w w') (hT : ∀ b, T b → ∃ i, I i ∧ blk β π i = some b)
    (hsame : ∀ i, ¬ I i → blk β' π' i = blk β π i ∧ (∀ W, res β π L W i → res β' π' L' W i))
    (hI : ∀ i, I i → res β' π' L' w' i ∧ ∀ b, blk β' π' i = some b → b < w'.heap.size ∧ (blk β π i = some b ∨ (w.heap.size ≤ b ∧ ∀ j, I j → blk β' π' j = some b → j = i))) (hsb : β'.sb = β.sb) (hg : β'.g = β.g) :
    Mem w' β' π' L' ∧ Step w β π w' β' π' :=
  ⟨h.upd I ht hT hsame hI, ⟨ht.mono (fun b hb => let ⟨i, _, hi⟩ := hT b hb; ⟨i, hi⟩), fun b ⟨i, hi⟩ => by
    by_cases hIi : I i
    · rcases ((hI i hIi).2 b hi).2 with h1 | h1
      · exact .inl ⟨i, h1⟩
      · exact .inr h1.1
    · exact .inl ⟨i, by rw [← (hsame i hIi).1]; exact hi⟩, hsb, hg⟩⟩
theorem Mem.keep {w w' : World} {β : Bk} {π : Pi} {L : Nat} {T : Nat → Prop} (h : Mem w β π L) (ht : Tch T w w') (hd : ∀ b, foot β π b → ¬ T b) : Mem w' β π L :=
  ⟨fun i => res_keep (h.lie i) ht (fun b hb => hd b ⟨i, hb⟩), h.inj, fun i b hb => Nat.lt_of_lt_of_le (h.lt i b hb) ht.size⟩
theorem Mem.below {w w' : World} {β : Bk} {π : Pi} {L : Nat} (h : Mem w β π L) (hb : Below w.heap.size w w') : Mem w' β π L :=
  h.keep (Tch.of_below (fun _ => False) hb) (fun _ _ x => x)
theorem Mem.drewN {w : World} {β : Bk} {π : Pi} {L : Nat} (h : Mem w β π L) (n : Nat) : Mem (w.drewN n) β π L := h.keep ((Tch.refl (fun _ => False) w).drewN n) (fun _ _ x => x)
theorem Mem.drew {w : World} {β : Bk} {π : Pi} {L : Nat} (h : Mem w β π L) : Mem w.drew β π L := h.drewN 1

/-- the numbers of a slab that may be -/
structure Wf (π : Pi) (L : Nat) : Prop where
  np1 : 1 ≤ π.ow.length ∧ π.ow.length ≤ 1024
  rng : AP.Rng π.ow
  siz : 512 ≤ π.S ∧ π.S ≤ 65536
  k1 : 1 ≤ π.sz.length ∧ π.sz.length ≤ 63
  sz : ∀ x ∈ π.sz, 64 ≤ x ∧ x ≤ π.S
  rl : π.rows.length = π.sz.length
  pl : π.pg.length = π.ow.length
  pg : ∀ p, p < π.ow.length → (π.page p = none ∧ π.ow[p]?.getD 0 = 0) ∨ ∃ x, π.page p = some x ∧ 1 ≤ π.ow[p]?.getD 0 ∧ π.ow[p]?.getD 0 ≤ π.sz.length ∧ x.used.length = π.S / (π.sz[(π.ow[p]?.getD 0 - 1).toNat]?.getD 0).toNat ∧ x.n = (x.used.count true : Int)
  ch : ∀ (c : Nat) (l : List Int), π.rows[c]? = some l → l.length ≤ L ∧ l.Nodup ∧ ∀ x ∈ l, ∃ (p i : Nat) (g : Pg), x = ((p * 4096 + i : Nat) : Int) ∧ π.page p = some g ∧ i < g.used.length ∧ g.used[i]?.getD false = false ∧ g.cl = false ∧ π.ow[p]?.getD 0 = (c : Int) + 1
  lim : L ≤ 100000000

section
variable {w : World} {β : Bk} {π : Pi} {L : Nat}
theorem Mem.ar (h : Mem w β π L) (hw : Wf π L) : Ar w β.g β.k π.ow.length π.S β.bv π.ow π.bs := ⟨h.lie .ar, h.lie .own, h.lie .byt, rfl, hw.np1, hw.rng, by have := hw.siz; omega⟩
theorem Mem.s0 (h : Mem w β π L) : w.cell? ⟨β.sb, 0, none⟩ = some (.pointer (some ⟨β.g, 0, none⟩)) := cell_of (h.lie .sl) 0
theorem Mem.s1 (h : Mem w β π L) : w.cell? ⟨β.sb, 1, none⟩ = some (.slice (some ⟨β.zb, 0, none⟩) π.sz.length β.zc) := cell_of (h.lie .sl) 1
theorem Mem.s2 (h : Mem w β π L) : w.cell? ⟨β.sb, 2, none⟩ = some (.slice (some ⟨β.rb, 0, none⟩) π.sz.length β.rc) := cell_of (h.lie .sl) 2
theorem Mem.s3 (h : Mem w β π L) : w.cell? ⟨β.sb, 3, none⟩ = some (.map (some β.mb)) := cell_of (h.lie .sl) 3
theorem Mem.size (h : Mem w β π L) (c : Nat) (hc : c < π.sz.length) : w.cell? ⟨β.zb, c, none⟩ = some (.int .i64 (π.sz[c]?.getD 0)) := own_int (h.lie .siz) c hc
theorem Mem.rvl (h : Mem w β π L) : β.rv.length = π.sz.length := by have h1 : w.ownsRow 0 22 1 _ _ β.rv := h.lie .rows; have := h1.1; omega
/-- a class's row -/
theorem Mem.rowL (h : Mem w β π L) (h2 : π.rows.length = π.sz.length) (c : Nat) (hc : c < π.sz.length) : ∃ a cap l, π.rows[c]? = some l ∧ β.rv[c]? = some (.slice a l.length cap) ∧ w.cell? ⟨β.rb, c, none⟩ = some (.slice a l.length cap) ∧ w.ownsRow 0 3 1 (.slice a l.length cap) l.length (l.map (.int .i64)) := by
  have h1 := h.rvl
  obtain ⟨v, hv⟩ : ∃ v, β.rv[c]? = some v := ⟨β.rv[c], List.getElem?_eq_getElem (by omega)⟩
  obtain ⟨l, hl⟩ : ∃ l, π.rows[c]? = some l := ⟨π.rows[c], List.getElem?_eq_getElem (by omega)⟩
  have h3 : w.ownsRow 0 3 1 v l.length (l.map (.int .i64)) := h.lie (.row c) v l hv hl
  have h4 : w.cell? ⟨β.rb, c, none⟩ = β.rv[c]? := World.ownsRow.cellAt (h.lie .rows) c (by omega)
  rcases h3.2 with ⟨h5, h6⟩ | ⟨b, cap, cur, h5, _⟩
  · rw [h5] at hv h3
    rw [h6] at h3
    exact ⟨none, 0, l, hl, by rw [h6]; exact hv, by rw [h4, hv, h6], by rw [h6]; exact h3⟩
  · rw [h5] at hv h3
    exact ⟨_, cap, l, hl, hv, by rw [h4, hv], h3⟩
theorem Mem.row (h : Mem w β π L) (hw : Wf π L) (c : Nat) (hc : c < π.sz.length) : ∃ a cap l, π.rows[c]? = some l ∧ β.rv[c]? = some (.slice a l.length cap) ∧ w.cell? ⟨β.rb, c, none⟩ = some (.slice a l.length cap) ∧ w.ownsRow 0 3 1 (.slice a l.length cap) l.length (l.map (.int .i64)) := h.rowL hw.rl c hc
/-- a page's block -/
theorem Mem.page (h : Mem w β π L) {p : Nat} {x : Pg} (hx : π.page p = some x) :
    w.cell? ⟨β.pb p, 0, none⟩ = some (β.pv p) ∧ w.cell? ⟨β.pb p, 1, none⟩ = some (.int .i64 x.n) ∧ w.cell? ⟨β.pb p, 2, none⟩ = some (.bool x.cl) ∧ (∀ i, w.frozen? ⟨β.pb p, i, none⟩ = false) := by
  have h1 := h.lie (.pg p) x hx
  exact ⟨cell_of h1 0, cell_of h1 1, cell_of h1 2, fun i => by simp [World.frozen?, h1]⟩
theorem Mem.used (h : Mem w β π L) {p : Nat} {x : Pg} (hx : π.page p = some x) (hpos : 0 < x.used.length) : ∃ b cap, β.pv p = .slice (some ⟨b, 0, none⟩) x.used.length cap ∧ w.ownsRow 0 4 1 (.slice (some ⟨b, 0, none⟩) x.used.length cap) x.used.length (x.used.map .bool) ∧
    (∀ i, i < x.used.length → w.cell? ⟨b, i, none⟩ = some (.bool (x.used[i]?.getD false))) ∧ (∀ i, w.frozen? ⟨b, i, none⟩ = false) := by
  have h1 : w.ownsRow 0 4 1 (β.pv p) x.used.length (x.used.map .bool) := h.lie (.use p) x hx
  rcases h1.2 with ⟨_, h2⟩ | ⟨b, cap, cur, h2, _⟩
  · omega
  · rw [h2] at h1
    refine ⟨b, cap, h2, h1, fun i hi => ?_, fun i => h1.frozenAt i⟩
    rw [h1.cellAt i (by omega)]
    simp [hi]
theorem Mem.look (h : Mem w β π L) (q : Int) (hq : -9223372036854775808 ≤ q ∧ q ≤ 9223372036854775807) :
    (Instr.lookup 64 (.map (some β.mb)) (.int .i64 q) false).run Try.prog w = .ok (pval (fm β π q)) w := MapAt.look (h.lie .map) q hq
end
end Go.Proofs.Ytfmgncajhjkdlaa
