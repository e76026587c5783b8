/- Spn, Sla, Sfr, Spw, Spu, Sal, Sfe. -/
import Derived.Test.YtboehbfagnocpaaGreatDoorUaa
import Derived.Deep.RegionHeld3
import Derived.Deep.AppendLies
import Derived.Deep.CutRange
set_option linter.unusedVariables false
set_option linter.unusedSimpArgs false
set_option maxRecDepth 100000
open Go.Proofs.Tryz
open Go.Lib (hid)
namespace Go.Proofs.YtboehbfagnocpaaGreatDoor
open Go.RowKit Go.PlainAid
open SP
def fm (β : Bk) (π : Pi) (q : Int) : Option Nat := if 0 ≤ q then (π.page q.toNat).map (fun _ => β.pb q.toNat) else none
def res (β : Bk) (π : Pi) (L : Nat) (w : World) : Ix → Prop
  | .sl => w.heap[β.sb]? = some (.cells #[.pointer (some ⟨β.g, 0, none⟩), .slice (some ⟨β.zb, 0, none⟩) π.sz.length β.zc, .slice (some ⟨β.rb, 0, none⟩) π.sz.length β.rc, .map (some β.mb)] 193 (0, 0))
  | .ar => w.heap[β.g]? = some (.cells #[.int .i64 π.S, β.bv, .slice (some ⟨β.k, 0, none⟩) π.ow.length π.ow.length] 167 (0, 0))
  | .own => w.ownsRow 0 3 1 (.slice (some ⟨β.k, 0, none⟩) π.ow.length π.ow.length) π.ow.length (π.ow.map (.int .i64))
  | .byt => w.ownsRow 0 5 1 β.bv π.bs.length (π.bs.map (.int .u8))
  | .siz => w.ownsRow 0 3 1 (.slice (some ⟨β.zb, 0, none⟩) π.sz.length β.zc) π.sz.length (π.sz.map (.int .i64))
  | .rows => w.ownsRow 0 39 1 (.slice (some ⟨β.rb, 0, none⟩) π.sz.length β.rc) π.sz.length β.rv
  | .row c => ∀ v l, β.rv[c]? = some v → π.rows[c]? = some l → w.ownsRow 0 3 1 v l.length (l.map (.int .i64))
  | .map => MapAt w β.mb L (fm β π)
  | .pg p => ∀ x, π.page p = some x → w.heap[β.pb p]? = some (.cells #[β.pv p, .int .i64 x.n, .bool x.cl] 343 (0, 0))
  | .use p => ∀ x, π.page p = some x → w.ownsRow 0 4 1 (β.pv p) x.used.length (x.used.map .bool)
structure Mem (w : World) (β : Bk) (π : Pi) (L : Nat) : Prop where
  lie : ∀ i, res β π L w i
  inj : ∀ i j b, blk β π i = some b → blk β π j = some b → i = j
  lt : ∀ i b, blk β π i = some b → b < w.heap.size
theorem res_keep {β : Bk} {π : Pi} {L : Nat} {w w' : World} {T : Nat → Prop} {i : Ix} (h : res β π L w i) (ht : Tch T w w') (hd : ∀ b, blk β π i = some b → ¬ T b) : res β π L w' i := by
  cases i with
  | sl => exact (ht.block _ (Array.getElem?_eq_some_iff.1 h).1 (hd _ rfl)).trans h
  | ar => exact (ht.block _ (Array.getElem?_eq_some_iff.1 h).1 (hd _ rfl)).trans h
  | own => exact own_tchB h ht hd
  | byt => exact own_tchB h ht hd
  | siz => exact own_tchB h ht hd
  | rows => exact own_tchB h ht hd
  | row c =>
    intro v l hv hl
    exact own_tchB (h v l hv hl) ht (fun b hb => hd b (by simp [blk, hv, hb]))
  | map => exact MapAt.kept h (ht.block _ (MapAt.lt h) (hd _ rfl))
  | pg p =>
    intro x hx
    have h1 := h x hx
    exact (ht.block _ (Array.getElem?_eq_some_iff.1 h1).1 (hd _ (by simp [blk, hx]))).trans h1
  | use p =>
    intro x hx
    exact own_tchB (h x hx) ht (fun b hb => hd b (by simp [blk, hx, hb]))
theorem Mem.upd {w w' : World} {β β' : Bk} {π π' : Pi} {L L' : Nat} (h : Mem w β π L) (I : Ix → Prop) {T : Nat → Prop} (ht : Tch T w w') (hT : ∀ b, T b → ∃ i, I i ∧ blk β π i = some b)
    (hsame : ∀ i, ¬ I i → blk β' π' i = blk β π i ∧ (∀ W, res β π L W i → res β' π' L' W i))
    (hI : ∀ i, I i → res β' π' L' w' i ∧ ∀ b, blk β' π' i = some b → b < w'.heap.size ∧ (blk β π i = some b ∨ (w.heap.size ≤ b ∧ ∀ j, I j → blk β' π' j = some b → j = i))) : Mem w' β' π' L' := by
  have hlt : ∀ i b, blk β' π' i = some b → b < w'.heap.size := fun i b hb => by
    by_cases hi : I i
    · exact ((hI i hi).2 b hb).1
    · rw [(hsame i hi).1] at hb
      exact Nat.lt_of_lt_of_le (h.lt i b hb) ht.size
  refine ⟨fun i => ?_, fun i j b hi hj => ?_, hlt⟩
  · by_cases hi : I i
    · exact (hI i hi).1
    · refine (hsame i hi).2 w' (res_keep (h.lie i) ht (fun b hb hx => ?_))
      obtain ⟨j, hj, hjb⟩ := hT b hx
      exact hi (h.inj i j b hb hjb ▸ hj)
  · by_cases hIi : I i
    · by_cases hIj : I j
      · rcases ((hI i hIi).2 b hi).2 with h1 | ⟨h1, h2⟩
        · rcases ((hI j hIj).2 b hj).2 with h3 | ⟨h3, h4⟩
          · exact h.inj i j b h1 h3
          · exact h4 i hIi hi
        · exact (h2 j hIj hj).symm
      · have hj' : blk β π j = some b := by rw [← (hsame j hIj).1]; exact hj
        rcases ((hI i hIi).2 b hi).2 with h1 | ⟨h1, _⟩
        · exact h.inj i j b h1 hj'
        · have := h.lt j b hj'; omega
    · have hi' : blk β π i = some b := by rw [← (hsame i hIi).1]; exact hi
      by_cases hIj : I j
      · rcases ((hI j hIj).2 b hj).2 with h1 | ⟨h1, _⟩
        · exact h.inj i j b hi' h1
        · have := h.lt i b hi'; omega
      · have hj' : blk β π j = some b := by rw [← (hsame j hIj).1]; exact hj
        exact h.inj i j b hi' hj'
def foot (β : Bk) (π : Pi) (b : Nat) : Prop := ∃ i, blk β π i = some b
structure Step (w : World) (β : Bk) (π : Pi) (w' : World) (β' : Bk) (π' : Pi) : Prop where
  tch : Tch (foot β π) w w'
  ft : ∀ b, foot β' π' b → foot β π b ∨ w.heap.size ≤ b
  sb : β'.sb = β.sb
  g : β'.g = β.g
theorem Step.refl (w : World) (β : Bk) (π : Pi) : Step w β π w β π := ⟨Tch.refl _ _, fun _ h => .inl h, rfl, rfl⟩
theorem Step.trans {a b c : World} {β β' β'' : Bk} {π π' π'' : Pi} (h : Step a β π b β' π') (k : Step b β' π' c β'' π'') : Step a β π c β'' π'' :=
  ⟨h.tch.trans k.tch h.ft, fun x hx => by
    rcases k.ft x hx with h1 | h1
    · exact h.ft x h1
    · exact .inr (Nat.le_trans h.tch.size h1), k.sb.trans h.sb, k.g.trans h.g⟩
theorem Step.of_below {w w' : World} {β : Bk} {π : Pi} (h : Below w.heap.size w w') : Step w β π w' β π := ⟨Tch.of_below _ h, fun _ h => .inl h, rfl, rfl⟩
theorem Mem.updS {w w' : World} {β β' : Bk} {π π' : Pi} {L L' : Nat} (h : Mem w β π L) (I : Ix → Prop) {T : Nat → Prop} (ht : Tch T w w') (hT : ∀ b, T b → ∃ i, I i ∧ blk β π i = some b)
    (hsame : ∀ i, ¬ I i → blk β' π' i = blk β π i ∧ (∀ W, res β π L W i → res β' π' L' W i))
    (hI : ∀ i, I i → res β' π' L' w' i ∧ ∀ b, blk β' π' i = some b → b < w'.heap.size ∧ (blk β π i = some b ∨ (w.heap.size ≤ b ∧ ∀ j, I j → blk β' π' j = some b → j = i))) (hsb : β'.sb = β.sb) (hg : β'.g = β.g) :
    Mem w' β' π' L' ∧ Step w β π w' β' π' :=
  ⟨h.upd I ht hT hsame hI, ⟨ht.mono (fun b hb => let ⟨i, _, hi⟩ := hT b hb; ⟨i, hi⟩), fun b ⟨i, hi⟩ => by
    by_cases hIi : I i
    · rcases ((hI i hIi).2 b hi).2 with h1 | h1
      · exact .inl ⟨i, h1⟩
      · exact .inr h1.1
    · exact .inl ⟨i, by rw [← (hsame i hIi).1]; exact hi⟩, hsb, hg⟩⟩
theorem Mem.keep {w w' : World} {β : Bk} {π : Pi} {L : Nat} {T : Nat → Prop} (h : Mem w β π L) (ht : Tch T w w') (hd : ∀ b, foot β π b → ¬ T b) : Mem w' β π L :=
  ⟨fun i => res_keep (h.lie i) ht (fun b hb => hd b ⟨i, hb⟩), h.inj, fun i b hb => Nat.lt_of_lt_of_le (h.lt i b hb) ht.size⟩
theorem Mem.below {w w' : World} {β : Bk} {π : Pi} {L : Nat} (h : Mem w β π L) (hb : Below w.heap.size w w') : Mem w' β π L :=
  h.keep (Tch.of_below (fun _ => False) hb) (fun _ _ x => x)
theorem Mem.drewN {w : World} {β : Bk} {π : Pi} {L : Nat} (h : Mem w β π L) (n : Nat) : Mem (w.drewN n) β π L := h.keep ((Tch.refl (fun _ => False) w).drewN n) (fun _ _ x => x)
theorem Mem.drew {w : World} {β : Bk} {π : Pi} {L : Nat} (h : Mem w β π L) : Mem w.drew β π L := h.drewN 1
structure Wf (π : Pi) (L : Nat) : Prop where
  np1 : 1 ≤ π.ow.length ∧ π.ow.length ≤ 1024
  rng : AP.Rng π.ow
  siz : 512 ≤ π.S ∧ π.S ≤ 65536
  k1 : 1 ≤ π.sz.length ∧ π.sz.length ≤ 63
  sz : ∀ x ∈ π.sz, 64 ≤ x ∧ x ≤ π.S
  rl : π.rows.length = π.sz.length
  pl : π.pg.length = π.ow.length
  pg : ∀ p, p < π.ow.length → (π.page p = none ∧ π.ow[p]?.getD 0 = 0) ∨ ∃ x, π.page p = some x ∧ 1 ≤ π.ow[p]?.getD 0 ∧ π.ow[p]?.getD 0 ≤ π.sz.length ∧ x.used.length = π.S / (π.sz[(π.ow[p]?.getD 0 - 1).toNat]?.getD 0).toNat ∧ x.n = (x.used.count true : Int)
  ch : ∀ (c : Nat) (l : List Int), π.rows[c]? = some l → l.length ≤ L ∧ l.Nodup ∧ ∀ x ∈ l, ∃ (p i : Nat) (g : Pg), x = ((p * 4096 + i : Nat) : Int) ∧ π.page p = some g ∧ i < g.used.length ∧ g.used[i]?.getD false = false ∧ g.cl = false ∧ π.ow[p]?.getD 0 = (c : Int) + 1
  lim : L ≤ 100000000
section
variable {w : World} {β : Bk} {π : Pi} {L : Nat}
theorem Mem.ar (h : Mem w β π L) (hw : Wf π L) : Ar w β.g β.k π.ow.length π.S β.bv π.ow π.bs := ⟨h.lie .ar, h.lie .own, h.lie .byt, rfl, hw.np1, hw.rng, by have := hw.siz; omega⟩
theorem Mem.s0 (h : Mem w β π L) : w.cell? ⟨β.sb, 0, none⟩ = some (.pointer (some ⟨β.g, 0, none⟩)) := cell_of (h.lie .sl) 0
theorem Mem.s1 (h : Mem w β π L) : w.cell? ⟨β.sb, 1, none⟩ = some (.slice (some ⟨β.zb, 0, none⟩) π.sz.length β.zc) := cell_of (h.lie .sl) 1
theorem Mem.s2 (h : Mem w β π L) : w.cell? ⟨β.sb, 2, none⟩ = some (.slice (some ⟨β.rb, 0, none⟩) π.sz.length β.rc) := cell_of (h.lie .sl) 2
theorem Mem.s3 (h : Mem w β π L) : w.cell? ⟨β.sb, 3, none⟩ = some (.map (some β.mb)) := cell_of (h.lie .sl) 3
theorem Mem.size (h : Mem w β π L) (c : Nat) (hc : c < π.sz.length) : w.cell? ⟨β.zb, c, none⟩ = some (.int .i64 (π.sz[c]?.getD 0)) := own_int (h.lie .siz) c hc
theorem Mem.rvl (h : Mem w β π L) : β.rv.length = π.sz.length := by have h1 : w.ownsRow 0 39 1 _ _ β.rv := h.lie .rows; have := h1.1; omega
theorem Mem.rowL (h : Mem w β π L) (h2 : π.rows.length = π.sz.length) (c : Nat) (hc : c < π.sz.length) : ∃ a cap l, π.rows[c]? = some l ∧ β.rv[c]? = some (.slice a l.length cap) ∧ w.cell? ⟨β.rb, c, none⟩ = some (.slice a l.length cap) ∧ w.ownsRow 0 3 1 (.slice a l.length cap) l.length (l.map (.int .i64)) := by
  have h1 := h.rvl
  obtain ⟨v, hv⟩ : ∃ v, β.rv[c]? = some v := ⟨β.rv[c], List.getElem?_eq_getElem (by omega)⟩
  obtain ⟨l, hl⟩ : ∃ l, π.rows[c]? = some l := ⟨π.rows[c], List.getElem?_eq_getElem (by omega)⟩
  have h3 : w.ownsRow 0 3 1 v l.length (l.map (.int .i64)) := h.lie (.row c) v l hv hl
  have h4 : w.cell? ⟨β.rb, c, none⟩ = β.rv[c]? := World.ownsRow.cellAt (h.lie .rows) c (by omega)
  rcases h3.2 with ⟨h5, h6⟩ | ⟨b, cap, cur, h5, _⟩
  · rw [h5] at hv h3
    rw [h6] at h3
    exact ⟨none, 0, l, hl, by rw [h6]; exact hv, by rw [h4, hv, h6], by rw [h6]; exact h3⟩
  · rw [h5] at hv h3
    exact ⟨_, cap, l, hl, hv, by rw [h4, hv], h3⟩
theorem Mem.row (h : Mem w β π L) (hw : Wf π L) (c : Nat) (hc : c < π.sz.length) : ∃ a cap l, π.rows[c]? = some l ∧ β.rv[c]? = some (.slice a l.length cap) ∧ w.cell? ⟨β.rb, c, none⟩ = some (.slice a l.length cap) ∧ w.ownsRow 0 3 1 (.slice a l.length cap) l.length (l.map (.int .i64)) := h.rowL hw.rl c hc
theorem Mem.page (h : Mem w β π L) {p : Nat} {x : Pg} (hx : π.page p = some x) :
    w.cell? ⟨β.pb p, 0, none⟩ = some (β.pv p) ∧ w.cell? ⟨β.pb p, 1, none⟩ = some (.int .i64 x.n) ∧ w.cell? ⟨β.pb p, 2, none⟩ = some (.bool x.cl) ∧ (∀ i, w.frozen? ⟨β.pb p, i, none⟩ = false) := by
  have h1 := h.lie (.pg p) x hx
  exact ⟨cell_of h1 0, cell_of h1 1, cell_of h1 2, fun i => by simp [World.frozen?, h1]⟩
theorem Mem.used (h : Mem w β π L) {p : Nat} {x : Pg} (hx : π.page p = some x) (hpos : 0 < x.used.length) : ∃ b cap, β.pv p = .slice (some ⟨b, 0, none⟩) x.used.length cap ∧ w.ownsRow 0 4 1 (.slice (some ⟨b, 0, none⟩) x.used.length cap) x.used.length (x.used.map .bool) ∧
    (∀ i, i < x.used.length → w.cell? ⟨b, i, none⟩ = some (.bool (x.used[i]?.getD false))) ∧ (∀ i, w.frozen? ⟨b, i, none⟩ = false) := by
  have h1 : w.ownsRow 0 4 1 (β.pv p) x.used.length (x.used.map .bool) := h.lie (.use p) x hx
  rcases h1.2 with ⟨_, h2⟩ | ⟨b, cap, cur, h2, _⟩
  · omega
  · rw [h2] at h1
    refine ⟨b, cap, h2, h1, fun i hi => ?_, fun i => h1.frozenAt i⟩
    rw [h1.cellAt i (by omega)]
    simp [hi]
theorem Mem.look (h : Mem w β π L) (q : Int) (hq : -9223372036854775808 ≤ q ∧ q ≤ 9223372036854775807) :
    (Instr.lookup 191 (.map (some β.mb)) (.int .i64 q) false).run prog w = .ok (pval (fm β π q)) w := MapAt.look (h.lie .map) q hq
end
end Go.Proofs.YtboehbfagnocpaaGreatDoor
namespace Go.Proofs.YtboehbfagnocpaaGreatDoor
open Go.RowKit Go.PlainAid Go.Shelf
open SP
attribute [local go_sem] Oper.semAt_some
def psh (p : Nat) (l : List (Nat × Bool)) : List Int := (l.filter (fun x => !x.2)).map (fun x => IntKind.i64.wrap ((p : Int) * 4096 + (x.1 : Int)))
def layL (p : Nat) (us : List Bool) : List Int := psh p (bwd us us.length)
def rowsAdd (π : Pi) (c : Nat) (l : List Int) : Pi := { π with rows := π.rows.set c ((π.rows[c]?.getD []) ++ l) }
theorem psh_snoc (p : Nat) (l : List (Nat × Bool)) (x : Nat × Bool) : psh p (l ++ [x]) = psh p l ++ (if x.2 then [] else [IntKind.i64.wrap ((p : Int) * 4096 + (x.1 : Int))]) := by
  unfold psh
  rcases x with ⟨i, b⟩
  cases b <;> simp
theorem own_cells {w : World} {base : Nat} {e : TypeId} {n : Nat} {v : Value} {xs : List Value} (ho : w.ownsRow base e 1 v n xs) {b : Nat} (hb : v.ownBlock = some b) : ∃ o : Obj, w.heap[b]? = some o ∧ o.isCells = true ∧ base ≤ b ∧ b < w.heap.size := by
  rcases ho.2 with ⟨h1, _⟩ | ⟨g', cap', cur, rfl, h2, h3, h4⟩
  · rw [h1] at hb; cases hb
  · obtain rfl : g' = b := by simpa [Value.ownBlock] using hb
    exact ⟨_, h3, rfl, h2, (Array.getElem?_eq_some_iff.1 h3).1⟩
theorem own_grown {w w' : World} {base : Nat} {e : TypeId} {n : Nat} {v : Value} {xs : List Value} {row : Option Nat} (ho : w.ownsRow base e 1 v n xs) (hg : w.grownBy w' row) (hr : ∀ r, row = some r → ∃ o : Obj, w.heap[r]? = some o ∧ o.isCells = false) : w'.ownsRow base e 1 v n xs :=
  own_tchB ho (Tch.of_grown hg) (fun b hb hx => by
    obtain ⟨o, ho1, ho2⟩ := hr b hx
    obtain ⟨o', h1, h2, _⟩ := own_cells ho hb
    rw [h1] at ho1
    cases ho1
    rw [h2] at ho2; cases ho2)
def rowT (β : Bk) (c : Nat) (b : Nat) : Prop := b = β.rb ∨ (β.rv[c]?).bind (·.ownBlock) = some b
theorem Mem.setRowL {w W : World} {β : Bk} {π : Pi} {L : Nat} (h : Mem w β π L) (hr2 : π.rows.length = π.sz.length) (c : Nat) (hc : c < π.sz.length) (v : Value) (l : List Int) (ht : Tch (rowT β c) w W)
    (h1 : W.ownsRow 0 39 1 (.slice (some ⟨β.rb, 0, none⟩) π.sz.length β.rc) π.sz.length (β.rv.set c v)) (h2 : W.ownsRow 0 3 1 v l.length (l.map (.int .i64)))
    (h3 : ∀ b, v.ownBlock = some b → (β.rv[c]?).bind (·.ownBlock) = some b ∨ w.heap.size ≤ b) : Mem W { β with rv := β.rv.set c v } { π with rows := π.rows.set c l } L ∧ Step w β π W { β with rv := β.rv.set c v } { π with rows := π.rows.set c l } := by
  have hrl := h.rvl
  refine h.updS (fun i => i = .rows ∨ i = .row c) ht ?_ ?_ ?_ rfl rfl
  · rintro b (rfl | hb)
    · exact ⟨.rows, .inl rfl, rfl⟩
    · exact ⟨.row c, .inr rfl, hb⟩
  · intro i hi
    cases i with
    | row c' =>
      have hne : c ≠ c' := fun e => hi (.inr (by rw [e]))
      refine ⟨?_, fun W' hr => ?_⟩
      · simp only [blk]
        rw [List.getElem?_set_ne hne]
      · intro v' l' hv' hl'
        dsimp only at hv' hl'
        rw [List.getElem?_set_ne hne] at hv' hl'
        exact hr v' l' hv' hl'
    | rows => exact absurd (.inl rfl) hi
    | _ => exact ⟨rfl, fun W' hr => hr⟩
  · rintro i (rfl | rfl)
    · refine ⟨h1, fun b hb => ?_⟩
      obtain rfl : β.rb = b := by simpa [blk] using hb
      exact ⟨Nat.lt_of_lt_of_le (h.lt .rows _ rfl) ht.size, .inl rfl⟩
    · refine ⟨?_, fun b hb => ?_⟩
      · intro v' l' hv' hl'
        dsimp only at hv' hl'
        rw [List.getElem?_set_self (by omega)] at hv' hl'
        cases hv'; cases hl'
        exact h2
      · have hb' : v.ownBlock = some b := by
          simp only [blk] at hb
          rw [List.getElem?_set_self (by omega)] at hb
          exact hb
        refine ⟨(own_cells h2 hb').choose_spec.2.2.2, ?_⟩
        rcases h3 b hb' with h5 | h5
        · exact .inl h5
        · refine .inr ⟨h5, ?_⟩
          rintro j (rfl | rfl) hj
          · have : β.rb = b := by simpa [blk] using hj
            have := h.lt .rows _ rfl
            omega
          · rfl
theorem Mem.setRow {w W : World} {β : Bk} {π : Pi} {L : Nat} (h : Mem w β π L) (hw : Wf π L) (c : Nat) (hc : c < π.sz.length) (v : Value) (l : List Int) (ht : Tch (rowT β c) w W)
    (h1 : W.ownsRow 0 39 1 (.slice (some ⟨β.rb, 0, none⟩) π.sz.length β.rc) π.sz.length (β.rv.set c v)) (h2 : W.ownsRow 0 3 1 v l.length (l.map (.int .i64)))
    (h3 : ∀ b, v.ownBlock = some b → (β.rv[c]?).bind (·.ownBlock) = some b ∨ w.heap.size ≤ b) : Mem W { β with rv := β.rv.set c v } { π with rows := π.rows.set c l } L ∧ Step w β π W { β with rv := β.rv.set c v } { π with rows := π.rows.set c l } := h.setRowL hw.rl c hc v l ht h1 h2 h3
theorem psh_len (p : Nat) (l : List (Nat × Bool)) : (psh p l).length ≤ l.length := by unfold psh; simp; exact List.length_filter_le _ _
theorem intE_info : (prog.info? 3).map (fun i => (i.zero, i.size, i.bytes)) = some (some (.int .i64 0), 1, 8) := by kernel_rfl
set_option maxRecDepth 100000 in
set_option maxHeartbeats 4000000 in
theorem lay_any {w : World} {β : Bk} {π : Pi} {L : Nat} (h : Mem w β π L) (hw : Wf π L) (p c : Nat) (x : Pg) (hx : π.page p = some x) (hown : AP.owner π.ow p = c) (hc : c < π.sz.length) (hp : p < 1024) (hpos : 0 < x.used.length) (hus : x.used.length ≤ 4096) :
    Calls prog 277 #[.pointer (some ⟨β.sb, 0, none⟩), .int .i64 p] w fun e w' => (∃ v, e = .returned v) ∧ ∃ v', Mem w' { β with rv := β.rv.set c v' } (rowsAdd π c (layL p x.used)) L ∧ Step w β π w' { β with rv := β.rv.set c v' } (rowsAdd π c (layL p x.used)) := by
  have HM := hid h
  have hlt : ∀ i b, blk β π i = some b → b < w.heap.size := h.lt
  have hsl := hlt .sl _ rfl
  have Hown := hid (fun m => (owner_any ((h.drewN m).ar hw) p))
  refine (callsIn_wide (n := 10)).1 (callsIn_of_wp_marks func277 rfl trivial ?_ rfl)
  simp only [ntmps277, List.size_toArray, List.length_cons, List.length_nil, Nat.reduceAdd, Nat.reduceSub, Array.replicate_succ, Array.replicate_zero, List.push_toArray, List.append_toArray, List.nil_append, List.cons_append]
  refine wpIn_wide.2 ?_
  have b2 := Boxed.new w 102 (.pointer (some ⟨β.sb, 0, none⟩))
  have b3 := Boxed.new (w.alloc (.cells #[.pointer (some ⟨β.sb, 0, none⟩)] 102)) 3 (.int .i64 p)
  rw [World.size_alloc] at b3
  have hB0 : Below w.heap.size w ((w.alloc (.cells #[.pointer (some ⟨β.sb, 0, none⟩)] 102)).alloc (.cells #[.int .i64 p] 3)) := ((Below.refl _ w).alloc (Nat.le_refl _) _).alloc (by simp) _
  have HM1 := hid (h.below hB0)
  have c2 := (b2.alloc (.cells #[.int .i64 p] 3)).cell
  have c3 := b3.cell
  have c0 := HM1.out.s0
  go_wp2_with (fail)
  generalize hW2 : (w.alloc (.cells #[.pointer (some ⟨β.sb, 0, none⟩)] 102)).alloc (.cells #[.int .i64 p] 3) = W2 at *
  have hsz2 : W2.heap.size = w.heap.size + 2 := by rw [← hW2]; simp
  have HownB : Hid (∀ w', Below W2.heap.size W2 w' → Calls prog 187 #[.pointer (some ⟨β.g, 0, none⟩), .int .i64 p] w' fun e w'' => e = .returned (.int .i64 c) ∧ w' = w'') :=
    hid (fun w' hb => by have := owner_any ((HM1.out.below hb).ar hw) p; rw [hown] at this; exact this)
  have HK : Hid (∀ w', Below W2.heap.size W2 w' → w'.cell? ⟨w.heap.size, 0, none⟩ = some (.pointer (some ⟨β.sb, 0, none⟩)) ∧ w'.cell? ⟨w.heap.size + 1, 0, none⟩ = some (.int .i64 p) ∧ w'.cell? ⟨β.sb, 0, none⟩ = some (.pointer (some ⟨β.g, 0, none⟩))) :=
    hid (fun w' hb => ⟨(hb.cell (p := ⟨w.heap.size, 0, none⟩) (by simp; omega)).trans c2, (hb.cell (p := ⟨w.heap.size + 1, 0, none⟩) (by simp; omega)).trans c3, (HM1.out.below hb).s0⟩)
  go_cut [4] from 4 to 12 (fun s4 wx => s4 = .pointer (some ⟨w.heap.size + 2, 0, none⟩) ∧ Hid (Boxed wx (w.heap.size + 2) 3 (.int .i64 c)) ∧ Hid (Below W2.heap.size W2 wx) ∧ wx.heap.size = w.heap.size + 3)
  case first =>
    go_region_held3 (fun w' => w'.cell? ⟨w.heap.size, 0, none⟩ = some (.pointer (some ⟨β.sb, 0, none⟩)) ∧ w'.cell? ⟨w.heap.size + 1, 0, none⟩ = some (.int .i64 p) ∧ w'.cell? ⟨β.sb, 0, none⟩ = some (.pointer (some ⟨β.g, 0, none⟩))) (first | exact ⟨c2, c3, c0⟩ | exact HK.out _ ((Below.refl _ _).drew.alloc (Nat.le_refl _) _) | exact HK.out _ (((Below.refl _ _).drew.alloc (Nat.le_refl _) _).setCell (Nat.le_refl _) _)) (first
      | (go_at_call 187; refine (HownB.out _ (by first | exact (Below.refl _ _).drew | exact ((Below.refl _ _).drew).alloc (Nat.le_refl _) _)).mono ?_; rintro e w' ⟨rfl, rfl⟩))
    all_goals
      go_wp2_with (fail)
      go_meet
      case rel => exact ⟨rfl, hid (by have := Boxed.new W2 3 (.int .i64 c); rw [hsz2] at this; exact this), hid (((Below.refl _ _).alloc (Nat.le_refl _) _).drew), by simp [hsz2]⟩
  case rest =>
    obtain ⟨rfl, B4, hBc, hszc⟩ := hcut
    have HMc := hid (HM1.out.below hBc.out)
    have B2 : Hid (Boxed wc w.heap.size 102 (.pointer (some ⟨β.sb, 0, none⟩))) := hid ((hBc.out.block _ (by omega)).trans (by rw [← hW2]; exact b2.alloc _))
    have B3 : Hid (Boxed wc (w.heap.size + 1) 3 (.int .i64 p)) := hid ((hBc.out.block _ (by omega)).trans b3)
    have k2 := B2.out.cell
    have k3 := B3.out.cell
    have s3 := HMc.out.s3
    have hpi : -9223372036854775808 ≤ (p : Int) ∧ (p : Int) ≤ 9223372036854775807 := by omega
    have hlook := HMc.out.drew.look p hpi
    have hfm : fm β π p = some (β.pb p) := by unfold fm; rw [if_pos (by omega), Int.toNat_natCast, hx]; rfl
    rw [hfm] at hlook
    simp only [pval, Option.map_some] at hlook
    obtain ⟨ub, ucap, hpv, hur, huc, huf⟩ := HMc.out.used hx hpos
    have kp := (HMc.out.page hx).1
    rw [hpv] at kp
    have HK2 : Hid (∀ w', Below wc.heap.size wc w' → w'.cell? ⟨w.heap.size, 0, none⟩ = some (.pointer (some ⟨β.sb, 0, none⟩)) ∧ w'.cell? ⟨w.heap.size + 1, 0, none⟩ = some (.int .i64 p) ∧ w'.cell? ⟨β.sb, 3, none⟩ = some (.map (some β.mb)) ∧ w'.cell? ⟨β.pb p, 0, none⟩ = some (.slice (some ⟨ub, 0, none⟩) x.used.length ucap)) :=
      hid (fun w' hb => ⟨(hb.cell (p := ⟨w.heap.size, 0, none⟩) (by simp; omega)).trans k2, (hb.cell (p := ⟨w.heap.size + 1, 0, none⟩) (by simp; omega)).trans k3, (HMc.out.below hb).s3, by rw [← hpv]; exact ((HMc.out.below hb).page hx).1⟩)
    have Hu := hid (And.intro hpv (And.intro hur (And.intro huc huf)))
    clear c2 c3 c0 b2 b3 hfm hpv hur huc huf
    go_wp2_with (fail)
    go_region_held3 (fun w' => w'.cell? ⟨w.heap.size, 0, none⟩ = some (.pointer (some ⟨β.sb, 0, none⟩)) ∧ w'.cell? ⟨w.heap.size + 1, 0, none⟩ = some (.int .i64 p) ∧ w'.cell? ⟨β.sb, 3, none⟩ = some (.map (some β.mb)) ∧ w'.cell? ⟨β.pb p, 0, none⟩ = some (.slice (some ⟨ub, 0, none⟩) x.used.length ucap)) (first | exact ⟨k2, k3, s3, kp⟩ | exact HK2.out _ ((Below.refl _ _).drew.alloc (Nat.le_refl _) _)) (first
      | (go_at_call 306; refine (((callsIn_wide (n := 1)).1 (back_in Fence.wide 1 trivial rfl (some ⟨ub, 0, none⟩) x.used.length ucap _))).mono ?_; rintro e w' ⟨rfl, rfl⟩))
    obtain ⟨W3, hW3⟩ : ∃ W3, (wc.alloc (.cells #[.slice (some ⟨ub, 0, none⟩) x.used.length ucap] 341)).drew = W3 := ⟨_, rfl⟩
    rw [hW3]
    go_wp2_with (fail)
    obtain ⟨hpv, hur, huc, huf⟩ := Hu.out
    have hsz3 : W3.heap.size = w.heap.size + 4 := by rw [← hW3]; simp [hszc]
    have hB3 : Below wc.heap.size wc W3 := by rw [← hW3]; exact ((Below.refl _ wc).alloc (Nat.le_refl _) _).drew
    have M3 := HMc.out.below hB3
    have X2 : Boxed W3 w.heap.size 102 (.pointer (some ⟨β.sb, 0, none⟩)) := (hB3.block _ (by omega)).trans B2.out
    have X3 : Boxed W3 (w.heap.size + 1) 3 (.int .i64 p) := (hB3.block _ (by omega)).trans B3.out
    have X4 : Boxed W3 (w.heap.size + 2) 3 (.int .i64 c) := (hB3.block _ (by omega)).trans B4.out
    have X5 : Boxed W3 (w.heap.size + 3) 341 (.slice (some ⟨ub, 0, none⟩) x.used.length ucap) := by
      rw [← hW3, ← hszc]; exact Boxed.new wc _ _
    have hubl : ub < w.heap.size := hlt (.use p) ub (by simp [blk, hx, hpv, Value.ownBlock])
    have hsbl : β.sb < w.heap.size := hlt .sl _ rfl
    have hrbl : β.rb < w.heap.size := hlt .rows _ rfl
    obtain ⟨ra, rcap, l0, hl0, hrv0, hrc0, hro0⟩ := M3.row hw c hc
    have hrl := M3.rvl
    have hdif : ∀ i j b, blk β π i = some b → blk β π j = some b → i = j := h.inj
    have hub1 : ub ≠ β.rb := fun e => by have := hdif (.use p) .rows ub (by simp [blk, hx, hpv, Value.ownBlock]) (by rw [e]; rfl); cases this
    have hub2 : ∀ b, (β.rv[c]?).bind (·.ownBlock) = some b → b < w.heap.size ∧ b ≠ ub ∧ b ≠ β.rb ∧ b ≠ β.sb := fun b hb => ⟨hlt (.row c) b hb,
      fun e => (by have := hdif (.use p) (.row c) b (by rw [e]; simp [blk, hx, hpv, Value.ownBlock]) hb; cases this),
      fun e => (by have := hdif .rows (.row c) b (by rw [e]; rfl) hb; cases this),
      fun e => (by have := hdif .sl (.row c) b (by rw [e]; rfl) hb; cases this)⟩
    have hsr : β.sb ≠ β.rb := fun e => by have := hdif .sl .rows β.sb rfl (by rw [e]; rfl); cases this
    have hrows : W3.ownsRow 0 39 1 (.slice (some ⟨β.rb, 0, none⟩) π.sz.length β.rc) π.sz.length β.rv := M3.lie .rows
    have hset0 : β.rv.set c (.slice ra l0.length rcap) = β.rv := by
      apply List.ext_getElem?
      intro i
      by_cases hi : i = c
      · subst hi; rw [List.getElem?_set_self (by omega), hrv0]
      · rw [List.getElem?_set_ne (by omega)]
    have hv0b : ∀ b, (Value.slice ra l0.length rcap).ownBlock = some b → (β.rv[c]?).bind (·.ownBlock) = some b := fun b hb => by rw [hrv0]; exact hb
    refine (wpIn_wide (n := 10)).1 ?_
    refine wpIn_rangeFunc_ownG (F := Fence.wide) (n := 10) (w0 := W3) (w := W3) rfl (by omega) (gf := 329) (lb := #[.pointer (some ⟨w.heap.size + 3, 0, none⟩)]) rfl trivial (enters_of func329 (by kernel_rfl) rfl)
      (back_stops Fence.wide 9 trivial rfl (by omega) (w.heap.size + 3) ub ucap x.used (by omega) W3 (by omega) (by omega) X5.cell (fun j hj => (hB3.cell (p := ⟨ub, j, none⟩) (by show ub < _; omega)).trans (huc j hj)))
      (fun h1 h2 i hi => (h2 i hi).trans (h1 i hi)) ?hkb (Below.refl _ _) (fun _ => rfl)
      (fun pre W => ∃ v, W.ownsRow 0 39 1 (.slice (some ⟨β.rb, 0, none⟩) π.sz.length β.rc) π.sz.length (β.rv.set c v) ∧ W.ownsRow 0 3 1 v (l0 ++ psh p pre).length ((l0 ++ psh p pre).map (.int .i64)) ∧ (∀ b, v.ownBlock = some b → (β.rv[c]?).bind (·.ownBlock) = some b ∨ w.heap.size + 4 ≤ b) ∧ Tch (fun b => b = β.rb ∨ (β.rv[c]?).bind (·.ownBlock) = some b) W3 W)
      (fun _ _ _ => False) ?hI (fun _ _ _ _ _ hs _ _ => hs) ⟨.slice ra l0.length rcap, by rw [hset0]; exact hrows, by simp only [psh, List.filter_nil, List.map_nil, List.append_nil]; exact hro0, fun b hb => .inl (hv0b b hb), Tch.refl _ _⟩
      (fun y => { tmps := #[.pointer (some ⟨β.sb, 0, none⟩), .int .i64 p, .pointer (some ⟨w.heap.size, 0, none⟩), .pointer (some ⟨w.heap.size + 1, 0, none⟩), .pointer (some ⟨w.heap.size + 2, 0, none⟩), .int .i64 (y.1 : Int), .bool y.2, u7, u8, u9, u10, u11, u12,
          .pointer (some ⟨β.sb, 0, none⟩), .pointer (some ⟨β.sb, 0, none⟩), .pointer (some ⟨β.sb, 3, none⟩), .map (some β.mb), .int .i64 p, .pointer (some ⟨β.pb p, 0, none⟩), .pointer (some ⟨β.pb p, 0, none⟩), .pointer (some ⟨β.pb p, 0, none⟩), .slice (some ⟨ub, 0, none⟩) x.used.length ucap,
          .func (.func 329) #[] #[.pointer (some ⟨w.heap.size + 3, 0, none⟩)], .int .i64 (y.1 : Int), .bool y.2, undef, undef, undef, undef, undef, undef, undef, undef, undef, undef, undef, undef, undef, undef, undef, undef, undef, undef, undef, undef, undef], defers := [] })
      ?assign ?body ?done ?stop
    case hkb =>
      intro W l o o' hl _ _ _ i hi
      refine World.putObj_heap_other ?_
      rcases hi with rfl | rfl <;> omega
    case hI =>
      rintro pre A B row ⟨v, h1, h2, h3, h4⟩ hg hr
      exact ⟨v, own_grown h1 hg (fun r e => (hr r e).2), own_grown h2 hg (fun r e => (hr r e).2), h3, h4.trans (Tch.of_grown hg) (fun i hi => .inr (hr i hi).1)⟩
    case assign =>
      intro l y W K hK
      gi_wp2
      exact hK
    case stop =>
      rintro D c pre W _ _ h _
      exact h.elim
    case done =>
      rintro D ys W hD rfl ⟨v, h1, h2, h3, h4⟩ hK
      gi_wp2
      refine ⟨by simp, .inl ⟨_, _, rfl, run_takeDeferred hK, ?_⟩⟩
      have hTW : Tch (rowT β c) w (W.putObj D (.deferred none)) := by
        refine ((((Tch.of_below _ hB0).trans (Tch.of_below (rowT β c) hBc.out) (fun _ h => .inl h)).trans (Tch.of_below (rowT β c) hB3) (fun _ h => .inl h)).trans h4 (fun _ h => .inl h)).trans (Tch.of_grown (grownBy_putObj' W D (.deferred none))) (fun i hi => .inr ?_)
        have : D = i := by simpa using hi
        omega
      refine ⟨_, results_none rfl _ _ _, ⟨_, rfl⟩, v, ?_⟩
      have hfin := h.setRow hw c hc v (l0 ++ layL p x.used) hTW (ownsRow_putObj h1 _ hK rfl) (ownsRow_putObj h2 _ hK rfl) (fun b hb => (h3 b hb).imp_right (fun h5 => by omega))
      have : rowsAdd π c (layL p x.used) = { π with rows := π.rows.set c (l0 ++ layL p x.used) } := by unfold rowsAdd; rw [hl0]; rfl
      rw [this]
      exact hfin
    case body =>
      rintro l pre ⟨yi, yu⟩ W ⟨v, h1, h2, h3, h4⟩ hlt
      cases yu with
      | true =>
        gi_wp2
        refine ⟨KeepsFrom.refl _ _, fun _ _ => rfl, v, h1, ?_, h3, h4⟩
        rw [psh_snoc]
        simpa using h2
      | false =>
        gi_wp2
        have hWs : w.heap.size + 4 ≤ W.heap.size := by have := h4.size; omega
        have hfar : ∀ b, b < W3.heap.size → b ≠ β.rb → (∀ d, (β.rv[c]?).bind (·.ownBlock) = some d → b ≠ d) → ∀ i, W.cell? ⟨b, i, none⟩ = W3.cell? ⟨b, i, none⟩ := fun b hb h5 h6 i => World.cell?_of_block (h4.block b hb (fun hx => by
          rcases hx with hx | hx
          · exact h5 hx
          · exact h6 b hx rfl))
        have k1 : W.cell? ⟨w.heap.size, 0, none⟩ = some (.pointer (some ⟨β.sb, 0, none⟩)) := (hfar _ (by omega) (by omega) (fun b hb => by have := (hub2 b hb).1; omega) 0).trans X2.cell
        have k2 : W.cell? ⟨w.heap.size + 1, 0, none⟩ = some (.int .i64 p) := (hfar _ (by omega) (by omega) (fun b hb => by have := (hub2 b hb).1; omega) 0).trans X3.cell
        have k3 : W.cell? ⟨w.heap.size + 2, 0, none⟩ = some (.int .i64 c) := (hfar _ (by omega) (by omega) (fun b hb => by have := (hub2 b hb).1; omega) 0).trans X4.cell
        have k4 : W.cell? ⟨β.sb, 2, none⟩ = some (.slice (some ⟨β.rb, 0, none⟩) π.sz.length β.rc) := (hfar _ (by omega) hsr (fun b hb => fun e => (hub2 b hb).2.2.2 e.symm) 2).trans M3.s2
        have k5 : W.cell? ⟨β.rb, c, none⟩ = some v := by
          have := World.ownsRow.cellAt h1 c (by omega)
          rw [this, List.getElem?_set_self (by omega)]
        have k6 : W.frozen? ⟨β.rb, c, none⟩ = false := h1.frozenAt c
        have hm1 : IntKind.i64.wrap ((p : Int) * 4096) = (p : Int) * 4096 := IntWalk.i64_in _ ⟨by omega, by omega⟩
        have hci : (c : Int) < (π.sz.length : Int) := by omega
        have HS : Hid (∀ w', Tch (fun b => b = β.rb ∨ v.ownBlock = some b) W w' → (w'.cell? ⟨w.heap.size, 0, none⟩ = some (.pointer (some ⟨β.sb, 0, none⟩)) ∧ w'.cell? ⟨w.heap.size + 1, 0, none⟩ = some (.int .i64 p) ∧ w'.cell? ⟨w.heap.size + 2, 0, none⟩ = some (.int .i64 c) ∧ w'.cell? ⟨β.sb, 2, none⟩ = some (.slice (some ⟨β.rb, 0, none⟩) π.sz.length β.rc))) := hid (fun w' ht => by
          have hg : ∀ b, b < W.heap.size → b ≠ β.rb → some b ≠ v.ownBlock → ∀ i, w'.cell? ⟨b, i, none⟩ = W.cell? ⟨b, i, none⟩ := fun b hb h5 h6 i => World.cell?_of_block (ht.block b hb (fun hx => by
            rcases hx with hx | hx
            · exact h5 hx
            · exact h6 hx.symm))
          have hg2 : ∀ b, b < w.heap.size + 4 → (∀ d, (β.rv[c]?).bind (·.ownBlock) = some d → b ≠ d) → some b ≠ v.ownBlock := fun b hb h5 e => by
            rcases h3 b e.symm with h6 | h6
            · exact h5 b h6 rfl
            · omega
          exact ⟨(hg _ (by omega) (by omega) (hg2 _ (by omega) (fun b hb => by have := (hub2 b hb).1; omega)) 0).trans k1, (hg _ (by omega) (by omega) (hg2 _ (by omega) (fun b hb => by have := (hub2 b hb).1; omega)) 0).trans k2,
            (hg _ (by omega) (by omega) (hg2 _ (by omega) (fun b hb => by have := (hub2 b hb).1; omega)) 0).trans k3, (hg _ (by omega) hsr (hg2 _ (by omega) (fun b hb => fun e => (hub2 b hb).2.2.2 e.symm)) 2).trans k4⟩)
        have hvrb : some β.rb ≠ v.ownBlock := fun e => by
          rcases h3 _ e.symm with h5 | h5
          · exact (hub2 _ h5).2.2.1 rfl
          · omega
        have HF : Hid (∀ w', Tch (fun b => b = β.rb ∨ v.ownBlock = some b) W w' → KeepsFrom W3.heap.size W w' ∧ Kp2 ub (w.heap.size + 3) W w') := hid (fun w' ht => ⟨⟨ht.size, fun k o hk ho hoc => (ht.block k (Array.getElem?_eq_some_iff.1 ho).1 (fun hx => by
          rcases hx with hx | hx
          · omega
          · obtain ⟨o', h5, h6, _⟩ := own_cells h2 hx
            rw [ho] at h5; cases h5; rw [h6] at hoc; cases hoc)).trans ho⟩, fun i hi => ht.block i (by rcases hi with rfl | rfl <;> omega) (fun hx => by
          rcases hx with hx | hx
          · rcases hi with rfl | rfl
            · exact hub1 hx
            · omega
          · rcases h3 i hx with h5 | h5
            · rcases hi with rfl | rfl
              · exact (hub2 _ h5).2.1 rfl
              · have := (hub2 _ h5).1; omega
            · rcases hi with rfl | rfl <;> omega)⟩)
        refine wpIn_region_held_round (fun w' => w'.cell? ⟨w.heap.size, 0, none⟩ = some (.pointer (some ⟨β.sb, 0, none⟩)) ∧ w'.cell? ⟨w.heap.size + 1, 0, none⟩ = some (.int .i64 p) ∧ w'.cell? ⟨w.heap.size + 2, 0, none⟩ = some (.int .i64 c) ∧ w'.cell? ⟨β.sb, 2, none⟩ = some (.slice (some ⟨β.rb, 0, none⟩) π.sz.length β.rc)) (by kernel_rfl) (noDefer (by kernel_rfl)) ?_
        have hS := HS.out W.drew ((Tch.refl _ W).drewN 1)
        clear k1 k2 k3 k4
        refine whE 0 rfl ?_
        simp only [lzP, lzA, lzS]
        refine whE 1 rfl ?_
        simp only [lzP, lzA, lzS]
        refine whE 2 rfl ?_
        simp only [lzP, lzA, lzS]
        refine whE 3 rfl ?_
        simp only [lzP, lzA, lzS]
        refine whE 4 rfl ?_
        simp only [lzP, lzA, lzS]
        refine whE 5 rfl ?_
        simp only [lzP, lzA, lzS]
        refine whE 6 rfl ?_
        simp only [lzP, lzA, lzS]
        refine whE 7 rfl ?_
        simp only [lzP, lzA, lzS]
        refine whE 8 rfl ?_
        simp only [lzP, lzA, lzS]
        refine whE 9 rfl ?_
        simp only [lzP, lzA, lzS]
        refine whE 10 rfl ?_
        simp only [lzP, lzA, lzS]
        refine whE 12 rfl ?_
        simp only [lzP, lzA, lzS]
        refine whE 13 rfl ?_
        simp only [lzP, lzA, lzS]
        refine whE 14 rfl ?_
        simp only [lzP, lzA, lzS]
        refine whE 15 rfl ?_
        simp only [lzP, lzA, lzS]
        obtain ⟨X1, hX1⟩ : ∃ X1, (W.alloc (.cells #[.int .i64 (IntKind.i64.wrap ((p : Int) * 4096 + (yi : Int)))] 3)).drew = X1 := ⟨_, rfl⟩
        have hXs : X1.heap.size = W.heap.size + 1 := by rw [← hX1]; simp
        have hBX : Below W.heap.size W X1 := by rw [← hX1]; exact ((Below.refl _ W).alloc (Nat.le_refl _) _).drew
        have hTX : Tch (fun b => b = β.rb ∨ v.ownBlock = some b) W X1 := Tch.of_below _ hBX
        have hd5 : W.drew.cell? ⟨β.rb, c, none⟩ = some v := k5
        have hX5 : X1.cell? ⟨β.rb, c, none⟩ = some v := (hBX.cell (p := ⟨β.rb, c, none⟩) (by show β.rb < _; omega)).trans k5
        have hro1 : X1.ownsRow 0 3 1 v (l0 ++ psh p pre).length ((l0 ++ psh p pre).map (.int .i64)) := own_tchB h2 (Tch.of_below (fun _ => False) hBX) (fun _ _ x => x)
        have hnews := World.news_of_block (w := X1) (B := W.heap.size) (cs := #[.int .i64 (IntKind.i64.wrap ((p : Int) * 4096 + (yi : Int)))]) (t := 3) (fr := (0, 0)) (by rw [← hX1]; exact World.alloc_heap_new W _)
        have hpl := psh_len p pre
        have hl0L := (hw.ch c l0 hl0).1
        have hLim := hw.lim
        obtain ⟨i0, hi0, hz0, hz1, hz2⟩ := info_parts intE_info
        refine wpAnyH_ready (rs := [11, 16]) (by kernel_rfl) (by simp) ?_
        refine AllReadyH.cons (o := _) rfl (fun K hK => ?_) (AllReadyH.cons (o := _) rfl (fun K hK => ?_) AllReadyH.nil)
        · rw [if_pos (by rfl)]
          (try simp only [lzA])
          go_simp
          refine hK.out _ _ (HS.out _ ((Tch.refl _ W).drewN 1)) (fun hHeld => ?_)
          clear hK K
          (try simp only [lzP, lzA, lzS])
          refine wpAnyH_ready (rs := [16]) (by kernel_rfl) (by simp) ?_
          refine AllReadyH.cons (o := _) rfl (fun K hK => ?_) AllReadyH.nil
          rw [if_pos (by rfl)]
          (try simp only [lzA])
          go_simp
          refine hK.out _ _ (HS.out _ hTX) (fun hHeld => ?_)
          clear hK K
          (try simp only [lzP, lzA, lzS])
          refine wpAnyH_ready (rs := [17]) (by kernel_rfl) (by simp) ?_
          refine AllReadyH.cons (o := _) rfl (fun K hK => ?_) AllReadyH.nil
          refine step_append_lies X1 rfl (.tmp 38) (.tmp 43) 39 rfl 0 3 i0 (.int .i64 0) 1 8 underlying39 hi0 hz0 hz1 hz2 rfl (by decide) v _ _ rfl hro1 ⟨W.heap.size, 0, none⟩ 1 1 [.int .i64 (IntKind.i64.wrap ((p : Int) * 4096 + (yi : Int)))] rfl rfl hnews (by simp [Value.oneCell']) (by omega) (by simp only [List.length_append]; unfold maxLen; omega) (by simp only [List.length_append]; omega) (by omega) (W.heap.size + 1) hXs ?_
          intro g' cap' w1 hown1 hgr1 hat1 hlt1
          obtain ⟨N1, hN1⟩ : ∃ N1, (l0 ++ psh p pre).length + 1 = N1 := ⟨_, rfl⟩
          rw [hN1] at hown1 ⊢
          have HN := hid hN1
          clear hN1
          refine hK.out _ _ (HS.out _ (hTX.trans (Tch.of_grown hgr1) (fun i hi => .inl (.inr hi)))) (fun hHeld => ?_)
          clear hK K
          (try simp only [lzP, lzA, lzS])
          have hTw : Tch (fun b => b = β.rb ∨ v.ownBlock = some b) W w1 := hTX.trans (Tch.of_grown hgr1) (fun i hi => .inl (.inr hi))
          have hk5 : w1.cell? ⟨β.rb, c, none⟩ = some v := (hgr1.cell_far ⟨β.rb, c, none⟩ (by show β.rb < _; omega) hvrb).trans hX5
          have hrw1 : w1.ownsRow 0 39 1 (.slice (some ⟨β.rb, 0, none⟩) π.sz.length β.rc) π.sz.length (β.rv.set c v) := own_tchB (own_tchB h1 (Tch.of_below (fun _ => False) hBX) (fun _ _ x => x)) (Tch.of_grown hgr1) (fun b hb hx => hvrb (by rw [show b = β.rb by simpa [Value.ownBlock] using hb.symm] at hx; exact hx.symm))
          have hk6 : w1.frozen? ⟨β.rb, c, none⟩ = false := hrw1.frozenAt c
          refine whE 18 rfl ?_
          (try simp only [lzP, lzA, lzS])
          refine wpAnyH_ready (rs := [19]) (by kernel_rfl) (by simp) ?_
          refine AllReadyH.cons (o := _) rfl (fun K hK => ?_) AllReadyH.nil
          rw [if_pos (by rfl)]
          (try simp only [lzA])
          go_simp
          have hTs : Tch (fun b => b = β.rb ∨ v.ownBlock = some b) W (w1.setCell ⟨β.rb, c, none⟩ (.slice (some ⟨g', 0, none⟩) N1 cap')) := hTw.trans (Tch.setCell w1 β.rb c _) (fun i hi => .inl (.inl hi))
          refine hK.out _ _ (HS.out _ hTs) (fun hHeld => ?_)
          clear hK K
          (try simp only [lzP, lzA, lzS])
          refine wpAnyH_done (by kernel_rfl) ?_ _
          have hst := (hrw1.stored c (.slice (some ⟨g', 0, none⟩) N1 cap')).1
          rw [List.set_set] at hst
          have hgrb : g' ≠ β.rb := by
            rcases hat1 with e | e
            · intro e'; exact hvrb (by rw [e, e'])
            · omega
          refine ⟨(HF.out _ hTs).1, (HF.out _ hTs).2, _, hst, ?_, ?_, ?_⟩
          · have := own_tchB hown1 (Tch.setCell w1 β.rb c (.slice (some ⟨g', 0, none⟩) N1 cap')) (fun b hb hx => hgrb ((show g' = b by simpa [Value.ownBlock] using hb).trans hx))
            have hN1 := HN.out
            rw [show (l0 ++ psh p (pre ++ [(yi, false)])).length = N1 by rw [← hN1, psh_snoc]; simp; omega]
            simpa only [psh_snoc, ← List.append_assoc, List.map_append, List.map_cons, List.map_nil, Bool.false_eq_true, if_false] using this
          · intro b hb
            have e : g' = b := by simpa [Value.ownBlock] using hb
            subst e
            rcases hat1 with e | e
            · exact h3 _ e
            · right; omega
          · exact h4.trans hTs (fun i hi => by
              rcases hi with hi | hi
              · exact .inl (.inl hi)
              · rcases h3 i hi with h5 | h5
                · exact .inl (.inr h5)
                · exact .inr (by omega))
        · rw [if_pos (by rfl)]
          (try simp only [lzA])
          go_simp
          refine hK.out _ _ (HS.out _ hTX) (fun hHeld => ?_)
          clear hK K
          (try simp only [lzP, lzA, lzS])
          refine wpAnyH_ready (rs := [11]) (by kernel_rfl) (by simp) ?_
          refine AllReadyH.cons (o := _) rfl (fun K hK => ?_) AllReadyH.nil
          rw [if_pos (by rfl)]
          (try simp only [lzA])
          go_simp
          refine hK.out _ _ (HS.out _ hTX) (fun hHeld => ?_)
          clear hK K
          (try simp only [lzP, lzA, lzS])
          refine wpAnyH_ready (rs := [17]) (by kernel_rfl) (by simp) ?_
          refine AllReadyH.cons (o := _) rfl (fun K hK => ?_) AllReadyH.nil
          refine step_append_lies X1 rfl (.tmp 38) (.tmp 43) 39 rfl 0 3 i0 (.int .i64 0) 1 8 underlying39 hi0 hz0 hz1 hz2 rfl (by decide) v _ _ rfl hro1 ⟨W.heap.size, 0, none⟩ 1 1 [.int .i64 (IntKind.i64.wrap ((p : Int) * 4096 + (yi : Int)))] rfl rfl hnews (by simp [Value.oneCell']) (by omega) (by simp only [List.length_append]; unfold maxLen; omega) (by simp only [List.length_append]; omega) (by omega) (W.heap.size + 1) hXs ?_
          intro g' cap' w1 hown1 hgr1 hat1 hlt1
          obtain ⟨N1, hN1⟩ : ∃ N1, (l0 ++ psh p pre).length + 1 = N1 := ⟨_, rfl⟩
          rw [hN1] at hown1 ⊢
          have HN := hid hN1
          clear hN1
          refine hK.out _ _ (HS.out _ (hTX.trans (Tch.of_grown hgr1) (fun i hi => .inl (.inr hi)))) (fun hHeld => ?_)
          clear hK K
          (try simp only [lzP, lzA, lzS])
          have hTw : Tch (fun b => b = β.rb ∨ v.ownBlock = some b) W w1 := hTX.trans (Tch.of_grown hgr1) (fun i hi => .inl (.inr hi))
          have hk5 : w1.cell? ⟨β.rb, c, none⟩ = some v := (hgr1.cell_far ⟨β.rb, c, none⟩ (by show β.rb < _; omega) hvrb).trans hX5
          have hrw1 : w1.ownsRow 0 39 1 (.slice (some ⟨β.rb, 0, none⟩) π.sz.length β.rc) π.sz.length (β.rv.set c v) := own_tchB (own_tchB h1 (Tch.of_below (fun _ => False) hBX) (fun _ _ x => x)) (Tch.of_grown hgr1) (fun b hb hx => hvrb (by rw [show b = β.rb by simpa [Value.ownBlock] using hb.symm] at hx; exact hx.symm))
          have hk6 : w1.frozen? ⟨β.rb, c, none⟩ = false := hrw1.frozenAt c
          refine whE 18 rfl ?_
          (try simp only [lzP, lzA, lzS])
          refine wpAnyH_ready (rs := [19]) (by kernel_rfl) (by simp) ?_
          refine AllReadyH.cons (o := _) rfl (fun K hK => ?_) AllReadyH.nil
          rw [if_pos (by rfl)]
          (try simp only [lzA])
          go_simp
          have hTs : Tch (fun b => b = β.rb ∨ v.ownBlock = some b) W (w1.setCell ⟨β.rb, c, none⟩ (.slice (some ⟨g', 0, none⟩) N1 cap')) := hTw.trans (Tch.setCell w1 β.rb c _) (fun i hi => .inl (.inl hi))
          refine hK.out _ _ (HS.out _ hTs) (fun hHeld => ?_)
          clear hK K
          (try simp only [lzP, lzA, lzS])
          refine wpAnyH_done (by kernel_rfl) ?_ _
          have hst := (hrw1.stored c (.slice (some ⟨g', 0, none⟩) N1 cap')).1
          rw [List.set_set] at hst
          have hgrb : g' ≠ β.rb := by
            rcases hat1 with e | e
            · intro e'; exact hvrb (by rw [e, e'])
            · omega
          refine ⟨(HF.out _ hTs).1, (HF.out _ hTs).2, _, hst, ?_, ?_, ?_⟩
          · have := own_tchB hown1 (Tch.setCell w1 β.rb c (.slice (some ⟨g', 0, none⟩) N1 cap')) (fun b hb hx => hgrb ((show g' = b by simpa [Value.ownBlock] using hb).trans hx))
            have hN1 := HN.out
            rw [show (l0 ++ psh p (pre ++ [(yi, false)])).length = N1 by rw [← hN1, psh_snoc]; simp; omega]
            simpa only [psh_snoc, ← List.append_assoc, List.map_append, List.map_cons, List.map_nil, Bool.false_eq_true, if_false] using this
          · intro b hb
            have e : g' = b := by simpa [Value.ownBlock] using hb
            subst e
            rcases hat1 with e | e
            · exact h3 _ e
            · right; omega
          · exact h4.trans hTs (fun i hi => by
              rcases hi with hi | hi
              · exact .inl (.inl hi)
              · rcases h3 i hi with h5 | h5
                · exact .inl (.inr h5)
                · exact .inr (by omega))
end Go.Proofs.YtboehbfagnocpaaGreatDoor
namespace Go.Proofs.YtboehbfagnocpaaGreatDoor
open Go.RowKit Go.PlainAid
open SP
namespace SP
def setPg (π : Pi) (p : Nat) (x : Pg) : Pi := { π with pg := π.pg.set p (some x) }
def per (π : Pi) (c : Nat) : Nat := π.S / (π.sz[c]?.getD 0).toNat
def frPg (π : Pi) (c : Nat) : Pg := ⟨List.replicate (per π c) false, 0, false⟩
end SP
def freshP (π : Pi) (p c : Nat) : Pi := rowsAdd (setPg π p (frPg π c)) c (layL p (List.replicate (per π c) false))
theorem Wf.mono {π : Pi} {L L' : Nat} (h : Wf π L) (hl : L ≤ L') (hm : L' ≤ 100000000) : Wf π L' :=
  ⟨h.np1, h.rng, h.siz, h.k1, h.sz, h.rl, h.pl, fun p hp => (h.pg p hp).imp_right id, fun c l hcl => ⟨by have := (h.ch c l hcl).1; omega, (h.ch c l hcl).2⟩, hm⟩
set_option maxHeartbeats 400000 in
theorem per_any {w : World} {b k cap : Nat} (c : Nat) (S x r : Int) (hc : c < k) (hk : k ≤ 63) (hS : 512 ≤ S ∧ S ≤ 65536) (hx : 64 ≤ x ∧ x ≤ S) (hcell : w.cell? ⟨b, c, none⟩ = some (.int .i64 x)) (hr : S / x = r) :
    Calls prog 239 #[.slice (some ⟨b, 0, none⟩) k cap, .int .i64 c, .int .i64 S] w fun e w' => e = .returned (.int .i64 r) ∧ w = w' := by
  have Hr := hid hr
  clear hr
  go_enter func239, ntmps239
  go_wp2
  all_goals go_ret
  all_goals exact ⟨ret_int Hr.out, rfl⟩
set_option maxHeartbeats 400000 in
theorem class_any {w : World} {β : Bk} {π : Pi} {L : Nat} (h : Mem w β π L) (c : Int) :
    Calls prog 234 #[.pointer (some ⟨β.sb, 0, none⟩), .int .i64 c] w fun e w' => e = .returned (.bool (decide (0 ≤ c ∧ c < (π.sz.length : Int)))) ∧ w = w' := by
  have s1 := h.s1
  clear h
  by_cases h0 : c < 0
  · go_enter func234, ntmps234
    go_wp2
    go_ret
    exact ⟨ret_bool (by simp; omega), rfl⟩
  · go_enter func234, ntmps234
    go_wp2
    go_ret
    exact ⟨ret_bool (by simp), rfl⟩
theorem page_setPg {π : Pi} {p : Nat} {x : Pg} (hp : p < π.pg.length) (q : Nat) : (setPg π p x).page q = if q = p then some x else π.page q := by
  unfold setPg Pi.page
  dsimp only
  by_cases h : q = p
  · subst h; rw [List.getElem?_set_self hp, if_pos rfl]; rfl
  · rw [List.getElem?_set_ne (fun e => h e.symm), if_neg h]
theorem boolE_info : (prog.info? 4).map (fun i => (i.zero, i.size, i.bytes)) = some (some (.bool false), 1, 1) := by kernel_rfl
set_option maxRecDepth 100000 in
set_option maxHeartbeats 4000000 in
theorem fresh_any {w : World} {β : Bk} {π : Pi} {L : Nat} (h : Mem w β π L) (p c : Nat) (hw1 : Wf (setPg π p (frPg π c)) (L + 1)) (hown : AP.owner π.ow p = c) (hc : c < π.sz.length) (hp : p < π.ow.length) :
    Calls prog 236 #[.pointer (some ⟨β.sb, 0, none⟩), .int .i64 p, .int .i64 c] w fun e w' => (∃ v, e = .returned v) ∧ ∃ β', Mem w' β' (freshP π p c) (L + 1) ∧ Step w β π w' β' (freshP π p c) := by
  have s0 := h.drew.s0
  have s1 := h.drew.s1
  have s3 := h.drew.s3
  obtain ⟨r, hr⟩ : ∃ r, r = per π c := ⟨_, rfl⟩
  have hS := hw1.siz
  have hk := hw1.k1
  have hsz := h.drew.size c hc
  have hnp := hw1.np1
  have hlim := hw1.lim
  dsimp only [setPg] at hS hk hnp
  have hx : 64 ≤ π.sz[c]?.getD 0 ∧ π.sz[c]?.getD 0 ≤ π.S := hw1.sz _ (by rw [List.getElem?_eq_getElem hc]; exact List.getElem_mem hc)
  have hA : Ar w.drew β.g β.k π.ow.length π.S β.bv π.ow π.bs := ⟨h.drew.lie .ar, h.drew.lie .own, h.drew.lie .byt, rfl, hnp, hw1.rng, by omega⟩
  have HA := hid hA
  have HM := hid h
  have hp1 : p < 1024 := by omega
  have hrb : 1 ≤ r ∧ r ≤ 1024 := by
    rw [hr]
    unfold per
    have e := Int.toNat_of_nonneg (show 0 ≤ π.sz[c]?.getD 0 by omega)
    generalize (π.sz[c]?.getD 0).toNat = d at *
    exact ⟨(Nat.le_div_iff_mul_le (by omega)).2 (by omega), Nat.le_trans (Nat.div_le_div_left (c := 64) (by omega) (by omega)) (by omega)⟩
  have Hper : Hid ((π.S : Int) / (π.sz[c]?.getD 0) = (r : Int)) := hid (by
    have e := Int.toNat_of_nonneg (show 0 ≤ π.sz[c]?.getD 0 by omega)
    rw [hr, ← e]
    unfold per
    rfl)
  have Hr := hid hr
  clear hr
  obtain ⟨i0, hi0, hz0, hz1, hz2⟩ := info_parts boolE_info
  obtain ⟨W1, hmk, ho1, hg1⟩ := run_make_full (P := prog) w.drew 0 341 4 i0 (.bool false) 1 underlying341 hi0 hz0 hz1 .i64 .i64 r (by rw [hz2]; omega) (by unfold maxLen; omega) (Nat.zero_le _)
  have hsd : w.drew.heap.size = w.heap.size := rfl
  rw [hsd] at hmk ho1
  have hb1 : Below w.heap.size w W1 := (Below.refl _ _).drew.grown hg1 (Nat.le_refl _) (fun _ h => by cases h)
  have hlt1 := (ho1.lt _ rfl).2
  have M1 := h.below hb1
  have M2 := M1.below ((Below.refl _ W1).alloc (Nat.le_refl _) (.cells #[.slice (some ⟨w.heap.size, 0, none⟩) r r, .int .i64 0, .bool false] 343))
  obtain ⟨W6, hmu, hmap, hg6⟩ := MapAt.put (M2.lie .map) (by unfold maxLen; omega) p (by omega) W1.heap.size
  have HM2 := hid M2
  have HM1 := hid M1
  have Hmap := hid hmap
  have Ho1 := hid ho1
  have hsm : β.sb ≠ β.mb := fun e => by have := h.inj .sl .map β.sb rfl (by rw [e]; rfl); cases this
  have k6 : ∀ i, W6.cell? ⟨β.sb, i, none⟩ = (W1.alloc (.cells #[.slice (some ⟨w.heap.size, 0, none⟩) r r, .int .i64 0, .bool false] 343)).cell? ⟨β.sb, i, none⟩ := fun i => World.cell?_of_block (hg6.block _ (M2.lt .sl _ rfl) (by simpa using hsm))
  clear M1 M2 hmap ho1 h hA
  go_enter func236, ntmps236
  go_wp2_with (fail)
  go_region_held3 (fun w' => w'.cell? ⟨β.sb, 0, none⟩ = some (.pointer (some ⟨β.g, 0, none⟩)) ∧ w'.cell? ⟨β.sb, 1, none⟩ = some (.slice (some ⟨β.zb, 0, none⟩) π.sz.length β.zc) ∧ w'.cell? ⟨β.sb, 3, none⟩ = some (.map (some β.mb))) (first | exact ⟨s0, s1, s3⟩ | exact ⟨HM1.out.s0, HM1.out.s1, HM1.out.s3⟩ | exact ⟨HM2.out.s0, HM2.out.s1, HM2.out.s3⟩ | exact ⟨(k6 0).trans HM2.out.s0, (k6 1).trans HM2.out.s1, (k6 3).trans HM2.out.s3⟩) (first
      | (go_at_call 96; refine (page_any HA.out).mono ?_; rintro e w' ⟨rfl, rfl⟩)
      | (go_at_call 239; refine (per_any c π.S _ r hc hk.2 (by omega) hx hsz Hper.out).mono ?_; rintro e w' ⟨rfl, rfl⟩))
  have hpl : p < π.pg.length := by
    have := hw1.pl
    simp only [setPg, List.length_set] at this
    omega
  have h := HM.out
  have ho1 := Ho1.out
  have hb2 := (Below.refl _ W1).alloc (Nat.le_refl _) (.cells #[.slice (some ⟨w.heap.size, 0, none⟩) r r, .int .i64 0, .bool false] 343)
  have hW2n := World.alloc_heap_new W1 (.cells #[.slice (some ⟨w.heap.size, 0, none⟩) r r, .int .i64 0, .bool false] 343)
  obtain ⟨W2, hW2⟩ : ∃ W2, W1.alloc (.cells #[.slice (some ⟨w.heap.size, 0, none⟩) r r, .int .i64 0, .bool false] 343) = W2 := ⟨_, rfl⟩
  rw [hW2] at hg6 hb2 hW2n
  have hs2 : W2.heap.size = W1.heap.size + 1 := by rw [← hW2]; simp
  have hmbl := h.lt .map _ rfl
  obtain ⟨x0, hx0⟩ : ∃ x0, x0 = frPg π c := ⟨_, rfl⟩
  have hx0u : x0.used = List.replicate r false := by rw [hx0, Hr.out]; rfl
  have hx0n : x0.n = 0 := by rw [hx0]; rfl
  have hx0c : x0.cl = false := by rw [hx0]; rfl
  have HX := hid hx0
  rw [← hx0] at hw1
  clear hx0
  have hpage := page_setPg (π := π) (p := p) (x := x0) hpl
  have M6 : Mem W6 { β with pb := fun q => if q = p then W1.heap.size else β.pb q, pv := fun q => if q = p then .slice (some ⟨w.heap.size, 0, none⟩) r r else β.pv q } (setPg π p x0) (L + 1) ∧ Step w β π W6 { β with pb := fun q => if q = p then W1.heap.size else β.pb q, pv := fun q => if q = p then .slice (some ⟨w.heap.size, 0, none⟩) r r else β.pv q } (setPg π p x0) := by
    refine h.updS (fun i => i = .map ∨ i = .pg p ∨ i = .use p) (T := fun b => b = β.mb) ?_ ?_ ?_ ?_ rfl rfl
    · exact ((Tch.of_below _ hb1).trans (Tch.of_below (fun b => b = β.mb) hb2) (fun _ h => .inl h)).trans (Tch.of_grown hg6) (fun i hi => .inl (by simpa using hi.symm))
    · rintro b rfl
      exact ⟨.map, .inl rfl, rfl⟩
    · intro i hi
      cases i with
      | pg q =>
        have hq : q ≠ p := fun e => hi (.inr (.inl (by rw [e])))
        refine ⟨by simp only [blk, hpage, if_neg hq], fun W' hr x hxq => ?_⟩
        rw [hpage, if_neg hq] at hxq
        dsimp only
        rw [if_neg hq, if_neg hq]
        exact hr x hxq
      | use q =>
        have hq : q ≠ p := fun e => hi (.inr (.inr (by rw [e])))
        refine ⟨by simp only [blk, hpage, if_neg hq], fun W' hr x hxq => ?_⟩
        rw [hpage, if_neg hq] at hxq
        dsimp only
        rw [if_neg hq]
        exact hr x hxq
      | map => exact absurd (.inl rfl) hi
      | row c' => exact ⟨rfl, fun W' hr => hr⟩
      | _ => exact ⟨rfl, fun W' hr => hr⟩
    · rintro i (rfl | rfl | rfl)
      · refine ⟨?_, fun b hb => ?_⟩
        · have e : (fun q : Int => if q = (p : Int) then some W1.heap.size else fm β π q) = fm { β with pb := fun q => if q = p then W1.heap.size else β.pb q, pv := fun q => if q = p then .slice (some ⟨w.heap.size, 0, none⟩) r r else β.pv q } (setPg π p x0) := by
            funext q
            unfold fm
            by_cases h0 : 0 ≤ q
            · obtain ⟨n, rfl⟩ := Int.eq_ofNat_of_zero_le h0
              rw [if_pos h0, if_pos h0, Int.toNat_natCast, hpage]
              by_cases hn : n = p
              · subst hn; simp
              · rw [if_neg (by omega), if_neg hn]
                dsimp only
                rw [if_neg hn]
            · rw [if_neg h0, if_neg h0, if_neg (by omega)]
          show MapAt W6 β.mb (L + 1) _
          rw [← e]
          exact Hmap.out
        · have e : β.mb = b := by simpa [blk] using hb
          subst e
          exact ⟨by have := hg6.size; have := hb1.size; omega, .inl rfl⟩
      · refine ⟨?_, fun b hb => ?_⟩
        · intro x hxq
          rw [hpage, if_pos rfl] at hxq
          cases hxq
          dsimp only
          rw [if_pos rfl, if_pos rfl, hx0n, hx0c]
          exact (hg6.block _ (by omega) (by simp; have := hb1.size; omega)).trans hW2n
        · have e : W1.heap.size = b := by simpa [blk, hpage] using hb
          subst e
          refine ⟨by have := hg6.size; omega, .inr ⟨hb1.size, ?_⟩⟩
          rintro j (rfl | rfl | rfl) hj
          · have : β.mb = W1.heap.size := by simpa [blk] using hj
            have := hb1.size
            omega
          · rfl
          · have : w.heap.size = W1.heap.size := by simpa [blk, hpage, Value.ownBlock] using hj
            omega
      · refine ⟨?_, fun b hb => ?_⟩
        · intro x hxq
          rw [hpage, if_pos rfl] at hxq
          cases hxq
          dsimp only
          rw [if_pos rfl, hx0u, List.length_replicate]
          have e : (madeCells (Value.bool false).cells (r * 1)).toList = (List.replicate r false).map .bool := by
            rw [Nat.mul_one]; exact (toList_madeCells_one _ r).trans (by simp)
          rw [e] at ho1
          exact own_tchB (own_tchB ho1 (Tch.of_below (fun _ => False) hb2) (fun _ _ x => x)) (Tch.of_grown hg6) (fun b hb hx => by
            have e1 : w.heap.size = b := by simpa [Value.ownBlock] using hb
            have e2 : β.mb = b := by simpa using hx
            omega)
        · have e : w.heap.size = b := by simpa [blk, hpage, Value.ownBlock] using hb
          subst e
          refine ⟨by have := hg6.size; omega, .inr ⟨Nat.le_refl _, ?_⟩⟩
          rintro j (rfl | rfl | rfl) hj
          · have : β.mb = w.heap.size := by simpa [blk] using hj
            omega
          · have : W1.heap.size = w.heap.size := by simpa [blk, hpage] using hj
            omega
          · rfl
  have HM6 := hid M6
  clear M6 ho1 h hpage
  go_wp2_with (go_at_call 277; refine (lay_any HM6.out.1 hw1 p c x0 (by rw [page_setPg hpl, if_pos rfl]) hown hc hp1 (by rw [hx0u]; simp; omega) (by rw [hx0u]; simp; omega)).mono ?_; rintro e w7 ⟨⟨v7, rfl⟩, vr, hM7, hS7⟩)
  go_end0
  have e : freshP π p c = rowsAdd (setPg π p x0) c (layL p x0.used) := by unfold freshP; rw [HX.out]; rfl
  rw [e]
  exact ⟨⟨_, rfl⟩, _, hM7, HM6.out.2.trans hS7⟩
theorem Wf.page_lt {π : Pi} {L : Nat} (h : Wf π L) {p : Nat} {x : Pg} (hx : π.page p = some x) : p < π.ow.length := by
  rw [← h.pl]
  unfold Pi.page at hx
  by_cases hp : p < π.pg.length
  · exact hp
  · rw [List.getElem?_eq_none (by omega)] at hx; cases hx
theorem Wf.page_some {π : Pi} {L : Nat} (h : Wf π L) {p : Nat} {x : Pg} (hx : π.page p = some x) : 1 ≤ π.ow[p]?.getD 0 ∧ π.ow[p]?.getD 0 ≤ π.sz.length ∧ x.used.length = π.S / (π.sz[(π.ow[p]?.getD 0 - 1).toNat]?.getD 0).toNat ∧ x.n = (x.used.count true : Int) ∧ 1 ≤ x.used.length ∧ x.used.length ≤ 1024 := by
  rcases h.pg p (h.page_lt hx) with ⟨h1, _⟩ | ⟨y, h1, h2, h3, h4, h5⟩
  · rw [h1] at hx; cases hx
  · rw [h1] at hx
    cases hx
    refine ⟨h2, h3, h4, h5, ?_⟩
    rw [h4]
    have hc : (π.ow[p]?.getD 0 - 1).toNat < π.sz.length := by omega
    have hx := h.sz (π.sz[(π.ow[p]?.getD 0 - 1).toNat]?.getD 0) (by rw [List.getElem?_eq_getElem hc]; exact List.getElem_mem hc)
    have hS := h.siz
    generalize π.sz[(π.ow[p]?.getD 0 - 1).toNat]?.getD 0 = d at *
    have e := Int.toNat_of_nonneg (show 0 ≤ d by omega)
    generalize d.toNat = d' at *
    exact ⟨(Nat.le_div_iff_mul_le (by omega)).2 (by omega), Nat.le_trans (Nat.div_le_div_left (c := 64) (by omega) (by omega)) (by omega)⟩
theorem Wf.per_one {π : Pi} {L : Nat} (h : Wf π L) {c : Nat} (hc : c < π.sz.length) : 1 ≤ per π c ∧ per π c ≤ 1024 := by
  unfold per
  have hx := h.sz (π.sz[c]?.getD 0) (by rw [List.getElem?_eq_getElem hc]; exact List.getElem_mem hc)
  have hS := h.siz
  generalize π.sz[c]?.getD 0 = d at *
  have e := Int.toNat_of_nonneg (show 0 ≤ d by omega)
  generalize d.toNat = d' at *
  exact ⟨(Nat.le_div_iff_mul_le (by omega)).2 (by omega), Nat.le_trans (Nat.div_le_div_left (c := 64) (by omega) (by omega)) (by omega)⟩
theorem Wf.setRow {π : Pi} {L L' : Nat} (h : Wf π L) (hL : L ≤ L') (hm : L' ≤ 100000000) (c : Nat) (l : List Int) (hl : l.length ≤ L') (hnd : l.Nodup)
    (hx : ∀ x ∈ l, ∃ (p i : Nat) (g : Pg), x = ((p * 4096 + i : Nat) : Int) ∧ π.page p = some g ∧ i < g.used.length ∧ g.used[i]?.getD false = false ∧ g.cl = false ∧ π.ow[p]?.getD 0 = (c : Int) + 1) : Wf { π with rows := π.rows.set c l } L' :=
  ⟨h.np1, h.rng, h.siz, h.k1, h.sz, by simpa using h.rl, h.pl, h.pg, fun c' l' hc' => by
    dsimp only at hc'
    by_cases e : c = c'
    · subst e
      by_cases hlt : c < π.rows.length
      · rw [List.getElem?_set_self hlt] at hc'
        cases hc'
        exact ⟨hl, hnd, hx⟩
      · rw [List.getElem?_eq_none (by simpa using hlt)] at hc'; cases hc'
    · rw [List.getElem?_set_ne e] at hc'
      have := h.ch c' l' hc'
      exact ⟨by omega, this.2⟩, hm⟩
theorem Wf.setPg {π : Pi} {L : Nat} (h : Wf π L) {p : Nat} {x y : Pg} (hx : π.page p = some x) (hl : y.used.length = x.used.length) (hn : y.n = (y.used.count true : Int))
    (hu : ∀ (c : Nat) (l : List Int) (i : Nat), π.rows[c]? = some l → ((p * 4096 + i : Nat) : Int) ∈ l → i < x.used.length → x.used[i]?.getD false = false → x.cl = false → y.used[i]?.getD false = false ∧ y.cl = false) : Wf (SP.setPg π p y) L := by
  have hp : p < π.pg.length := by rw [h.pl]; exact h.page_lt hx
  have hpage := page_setPg (π := π) (p := p) (x := y) hp
  refine ⟨h.np1, h.rng, h.siz, h.k1, h.sz, h.rl, by simpa [SP.setPg] using h.pl, fun q hq => ?_, fun c l hcl => ⟨(h.ch c l hcl).1, (h.ch c l hcl).2.1, fun z hz => ?_⟩, h.lim⟩
  · rw [hpage]
    by_cases e : q = p
    · subst e
      rw [if_pos rfl]
      have := h.page_some hx
      exact .inr ⟨y, rfl, this.1, this.2.1, hl.trans this.2.2.1, hn⟩
    · rw [if_neg e]
      exact h.pg q hq
  · obtain ⟨q, i, g, h1, h2, h3, h6, h4, h5⟩ := (h.ch c l hcl).2.2 z hz
    by_cases e : q = p
    · subst e
      rw [hx] at h2
      cases h2
      have h7 := hu c l i hcl (h1 ▸ hz) h3 h6 h4
      exact ⟨q, i, y, h1, by rw [hpage, if_pos rfl], by omega, h7.1, h7.2, h5⟩
    · exact ⟨q, i, g, h1, by rw [hpage, if_neg e]; exact h2, h3, h6, h4, h5⟩
theorem Wf.newPg {π : Pi} {L : Nat} (h : Wf π L) {p c : Nat} (hp : p < π.ow.length) (hc : c < π.sz.length) (hno : ∀ x, π.page p = some x → x.cl = true) : Wf (SP.setPg { π with ow := π.ow.set p ((c : Int) + 1) } p (frPg π c)) L := by
  have hpl : p < π.pg.length := by rw [h.pl]; exact hp
  have hpage : ∀ q, (SP.setPg { π with ow := π.ow.set p ((c : Int) + 1) } p (frPg π c)).page q = if q = p then some (frPg π c) else π.page q := page_setPg (π := { π with ow := π.ow.set p ((c : Int) + 1) }) hpl
  have hk := h.k1
  have how : ∀ q, q ≠ p → (π.ow.set p ((c : Int) + 1))[q]?.getD 0 = π.ow[q]?.getD 0 := fun q hq => by rw [List.getElem?_set_ne (fun e => hq e.symm)]
  have how2 : (π.ow.set p ((c : Int) + 1))[p]?.getD 0 = (c : Int) + 1 := by rw [List.getElem?_set_self hp]; rfl
  refine ⟨by simpa [SP.setPg] using h.np1, ?_, h.siz, h.k1, h.sz, h.rl, by simpa [SP.setPg] using h.pl, fun q hq => ?_, fun c' l hcl => ⟨(h.ch c' l hcl).1, (h.ch c' l hcl).2.1, fun z hz => ?_⟩, h.lim⟩
  · exact h.rng.set (by omega) (by omega)
  · rw [hpage]
    by_cases e : q = p
    · subst e
      rw [if_pos rfl]
      refine .inr ⟨_, rfl, ?_⟩
      simp only [SP.setPg]
      rw [how2]
      refine ⟨by omega, by omega, ?_, ?_⟩
      · rw [show ((c : Int) + 1 - 1).toNat = c by omega]
        simp [frPg, per]
      · simp [frPg, List.count_replicate]
    · rw [if_neg e]
      simp only [SP.setPg]
      rw [how q e]
      exact h.pg q (by simpa [SP.setPg] using hq)
  · obtain ⟨q, i, g, h1, h2, h3, h6, h4, h5⟩ := (h.ch c' l hcl).2.2 z hz
    have e : q ≠ p := fun e => by
      subst e
      have := hno g h2
      rw [h4] at this; cases this
    refine ⟨q, i, g, h1, by rw [hpage, if_neg e]; exact h2, h3, h6, h4, ?_⟩
    simp only [SP.setPg]
    rw [how q e]; exact h5
theorem mem_bwd {us : List Bool} {k : Nat} (hk : k ≤ us.length) {y : Nat × Bool} (h : y ∈ bwd us k) : y.1 < us.length ∧ y.2 = us[y.1]?.getD false := by
  unfold bwd at h
  obtain ⟨i, hi, rfl⟩ := List.mem_map.1 h
  have := List.mem_range.1 hi
  exact ⟨by dsimp only; omega, rfl⟩
theorem mem_layL {p : Nat} {us : List Bool} {x : Int} (hp : p < 1024) (hu : us.length ≤ 4096) (h : x ∈ layL p us) : ∃ i, i < us.length ∧ x = ((p * 4096 + i : Nat) : Int) ∧ us[i]?.getD false = false := by
  unfold layL psh at h
  obtain ⟨y, hy, rfl⟩ := List.mem_map.1 h
  obtain ⟨h1, h2⟩ := List.mem_filter.1 hy
  obtain ⟨h3, h4⟩ := mem_bwd (Nat.le_refl _) h1
  refine ⟨y.1, h3, ?_, ?_⟩
  · rw [IntWalk.i64_in _ (by omega)]; omega
  · rw [← h4]; simpa using h2
theorem layL_len (p : Nat) (us : List Bool) : (layL p us).length ≤ us.length := by
  unfold layL
  have := psh_len p (bwd us us.length)
  rw [bwd_len] at this
  exact this
theorem layL_nodup (p : Nat) (us : List Bool) (hp : p < 1024) (hu : us.length ≤ 4096) : (layL p us).Nodup := by
  unfold layL psh bwd
  rw [List.Nodup, List.pairwise_map]
  refine List.Pairwise.filter _ ?_
  rw [List.pairwise_map]
  refine List.Pairwise.imp_of_mem ?_ List.nodup_range
  intro a b ha hb hab
  have h1 := List.mem_range.1 ha
  have h2 := List.mem_range.1 hb
  dsimp only
  rw [IntWalk.i64_in _ (by omega), IntWalk.i64_in _ (by omega)]
  omega
theorem Wf.lay {π : Pi} {L : Nat} (h : Wf π L) {p c : Nat} {x : Pg} (hx : π.page p = some x) (hcl : x.cl = false) (how : π.ow[p]?.getD 0 = (c : Int) + 1) (hm : L + 1024 ≤ 100000000)
    (hno : ∀ l, π.rows[c]? = some l → ∀ i, i < x.used.length → ((p * 4096 + i : Nat) : Int) ∉ l) : Wf (rowsAdd π c (layL p x.used)) (L + 1024) := by
  have hp := h.page_lt hx
  have hnp := h.np1
  have hps := h.page_some hx
  have h3 := layL_len p x.used
  have hc : c < π.rows.length := by rw [h.rl]; omega
  have e : π.rows[c]?.getD [] = π.rows[c] := by rw [List.getElem?_eq_getElem hc]; rfl
  have h5 := h.ch c π.rows[c] (List.getElem?_eq_getElem hc)
  refine h.setRow (by omega) hm c _ ?_ ?_ ?_
  · rw [List.length_append, e]; omega
  · rw [e, List.nodup_append]
    refine ⟨h5.2.1, layL_nodup p x.used (by omega) (by omega), ?_⟩
    intro a ha b hb hab
    obtain ⟨i, h6, h7, _⟩ := mem_layL (by omega) (by omega) hb
    exact hno _ (List.getElem?_eq_getElem hc) i h6 (by rw [← h7, ← hab]; exact ha)
  · intro z hz
    rw [e] at hz
    rcases List.mem_append.1 hz with hz | hz
    · exact h5.2.2 z hz
    · obtain ⟨i, h6, h7, h8⟩ := mem_layL (by omega) (by omega) hz
      exact ⟨p, i, x, h7, hx, h6, h8, hcl, how⟩
theorem Mem.setPage {w W : World} {β : Bk} {π : Pi} {L : Nat} (h : Mem w β π L) {p : Nat} {x y : Pg} (hx : π.page p = some x) (ht : Tch (fun b => b = β.pb p ∨ (β.pv p).ownBlock = some b) w W)
    (h1 : W.heap[β.pb p]? = some (.cells #[β.pv p, .int .i64 y.n, .bool y.cl] 343 (0, 0))) (h2 : W.ownsRow 0 4 1 (β.pv p) y.used.length (y.used.map .bool)) :
    Mem W β (setPg π p y) L ∧ Step w β π W β (setPg π p y) := by
  have hp : p < π.pg.length := by
    unfold Pi.page at hx
    by_cases hp : p < π.pg.length
    · exact hp
    · rw [List.getElem?_eq_none (by omega)] at hx; cases hx
  have hpage := page_setPg (π := π) (p := p) (x := y) hp
  refine h.updS (fun i => i = .pg p ∨ i = .use p) ht ?_ ?_ ?_ rfl rfl
  · rintro b (rfl | hb)
    · exact ⟨.pg p, .inl rfl, by simp [blk, hx]⟩
    · exact ⟨.use p, .inr rfl, by simp [blk, hx, hb]⟩
  · intro i hi
    cases i with
    | pg q =>
      have hq : q ≠ p := fun e => hi (.inl (by rw [e]))
      refine ⟨by simp only [blk, hpage, if_neg hq], fun W' hr x hxq => ?_⟩
      rw [hpage, if_neg hq] at hxq
      exact hr x hxq
    | use q =>
      have hq : q ≠ p := fun e => hi (.inr (by rw [e]))
      refine ⟨by simp only [blk, hpage, if_neg hq], fun W' hr x hxq => ?_⟩
      rw [hpage, if_neg hq] at hxq
      exact hr x hxq
    | map =>
      refine ⟨rfl, fun W' hr => ?_⟩
      have e : fm β (setPg π p y) = fm β π := by
        funext q
        unfold fm
        by_cases h0 : 0 ≤ q
        · obtain ⟨n, rfl⟩ := Int.eq_ofNat_of_zero_le h0
          rw [if_pos h0, if_pos h0, Int.toNat_natCast, hpage]
          by_cases hn : n = p
          · subst hn; rw [if_pos rfl, hx]; rfl
          · rw [if_neg hn]
        · rw [if_neg h0, if_neg h0]
      show MapAt W' β.mb L _
      rw [e]
      exact hr
    | row c' => exact ⟨rfl, fun W' hr => hr⟩
    | _ => exact ⟨rfl, fun W' hr => hr⟩
  · rintro i (rfl | rfl)
    · refine ⟨fun z hz => ?_, fun b hb => ?_⟩
      · rw [hpage, if_pos rfl] at hz
        cases hz
        exact h1
      · have hb' : blk β π (.pg p) = some b := by simpa [blk, hpage, hx] using hb
        exact ⟨Nat.lt_of_lt_of_le (h.lt _ b hb') ht.size, .inl hb'⟩
    · refine ⟨fun z hz => ?_, fun b hb => ?_⟩
      · rw [hpage, if_pos rfl] at hz
        cases hz
        exact h2
      · have hb' : blk β π (.use p) = some b := by simpa [blk, hpage, hx] using hb
        exact ⟨Nat.lt_of_lt_of_le (h.lt _ b hb') ht.size, .inl hb'⟩
theorem Mem.setUsed {w : World} {β : Bk} {π : Pi} {L : Nat} (h : Mem w β π L) {p ub cap : Nat} {x : Pg} (hx : π.page p = some x) (hpv : β.pv p = .slice (some ⟨ub, 0, none⟩) x.used.length cap) (i : Nat) (b : Bool) :
    Mem (w.setCell ⟨ub, i, none⟩ (.bool b)) β (setPg π p { x with used := x.used.set i b }) L ∧ Step w β π (w.setCell ⟨ub, i, none⟩ (.bool b)) β (setPg π p { x with used := x.used.set i b }) := by
  have ht := Tch.setCell w ub i (.bool b)
  have hne : β.pb p ≠ ub := fun e => by have := h.inj (.pg p) (.use p) ub (by simp [blk, hx, e]) (by simp [blk, hx, hpv, Value.ownBlock]); cases this
  have h1 := h.lie (.pg p) x hx
  have h2 : w.ownsRow 0 4 1 (β.pv p) x.used.length (x.used.map .bool) := h.lie (.use p) x hx
  rw [hpv] at h2
  refine h.setPage hx (ht.mono (fun b hb => .inr (by rw [hpv, hb]; rfl))) ?_ ?_
  · exact (ht.block _ (Array.getElem?_eq_some_iff.1 h1).1 hne).trans h1
  · have h3 := (h2.stored i (.bool b)).1
    rw [← List.map_set] at h3
    dsimp only
    rw [hpv, List.length_set]
    exact h3
theorem cells_set {w : World} {g i : Nat} {cs : Array Value} {t : TypeId} (hg : w.heap[g]? = some (.cells cs t (0, 0))) (u : Value) : (w.setCell ⟨g, i, none⟩ u).heap[g]? = some (.cells (cs.setIfInBounds i u) t (0, 0)) := heap_setCell_same w g i cs t u hg
theorem Mem.setN {w : World} {β : Bk} {π : Pi} {L : Nat} (h : Mem w β π L) {p : Nat} {x : Pg} (hx : π.page p = some x) (m : Int) :
    Mem (w.setCell ⟨β.pb p, 1, none⟩ (.int .i64 m)) β (setPg π p { x with n := m }) L ∧ Step w β π (w.setCell ⟨β.pb p, 1, none⟩ (.int .i64 m)) β (setPg π p { x with n := m }) := by
  have ht := Tch.setCell w (β.pb p) 1 (.int .i64 m)
  have h1 := h.lie (.pg p) x hx
  have h2 : w.ownsRow 0 4 1 (β.pv p) x.used.length (x.used.map .bool) := h.lie (.use p) x hx
  refine h.setPage hx (ht.mono (fun b hb => .inl hb)) ?_ ?_
  · rw [cells_set h1]; rfl
  · exact own_tchB h2 ht (fun b hb e => by have := h.inj (.pg p) (.use p) b (by simp [blk, hx, e]) (by simp [blk, hx, hb]); cases this)
namespace SP
def usedP (π : Pi) (ch : Int) : Bool := if ch < 0 then false else match π.page (ch / 4096).toNat with | none => false | some x => decide ((ch % 4096).toNat < x.used.length) && x.used[(ch % 4096).toNat]?.getD false
def lastC (l : List Int) : Int := l[l.length - 1]?.getD 0
def mark (π : Pi) (ch : Int) (b : Bool) (d : Int) : Pi := match π.page (ch / 4096).toNat with | none => π | some x => setPg π (ch / 4096).toNat { x with used := x.used.set (ch % 4096).toNat b, n := x.n + d }
def rowC (π : Pi) (c : Nat) : List Int := π.rows[c]?.getD []
def popP (π : Pi) (c : Nat) : Pi := mark { π with rows := π.rows.set c (rowC π c).dropLast } (lastC (rowC π c)) true 1
end SP
def preP (π : Pi) (c : Nat) : Pi := if rowC π c = [] then freshP { π with ow := π.ow.set (AP.least π.ow) ((c : Int) + 1) } (AP.least π.ow) c else π
def alOk (π : Pi) (c : Int) : Nat := if ¬ (0 ≤ c ∧ c < (π.sz.length : Int)) then 1 else if rowC π c.toNat = [] ∧ ¬ AP.least π.ow < π.ow.length then 5 else 0
def alC (π : Pi) (c : Int) : Int := if alOk π c = 0 then lastC (rowC (preP π c.toNat) c.toNat) else -1
def alS (π : Pi) (c : Int) : Pi := if alOk π c = 0 then popP (preP π c.toNat) c.toNat else π
set_option maxRecDepth 100000 in
set_option maxHeartbeats 1000000 in
theorem used_any {w : World} {β : Bk} {π : Pi} {L : Nat} (h : Mem w β π L) (hw : Wf π L) (ch : Int) (hch : ch ≤ 9223372036854775807) :
    Calls prog 229 #[.pointer (some ⟨β.sb, 0, none⟩), .int .i64 ch] w fun e w' => e = .returned (.bool (usedP π ch)) ∧ w = w' := by
  have s3 := h.s3
  by_cases h0 : ch < 0
  · have Hr := hid (show usedP π ch = false by unfold usedP; rw [if_pos h0])
    clear h
    go_enter func229, ntmps229
    go_wp2
    go_ret
    exact ⟨ret_bool Hr.out.symm, rfl⟩
  · obtain ⟨m, rfl⟩ := Int.eq_ofNat_of_zero_le (Int.not_lt.1 h0)
    obtain ⟨p, hp⟩ : ∃ p, p = m / 4096 := ⟨_, rfl⟩
    obtain ⟨i, hi⟩ : ∃ i, i = m % 4096 := ⟨_, rfl⟩
    have hm : m = p * 4096 + i := by omega
    have hi2 : i < 4096 := by omega
    have e1 : ((m : Int) / 4096).toNat = p := by omega
    have e2 : ((m : Int) % 4096).toNat = i := by omega
    have q1 : (m : Int) / 4096 = (p : Int) := by omega
    have q2 : (m : Int) % 4096 = (i : Int) := by omega
    have hpb : (p : Int) ≤ 2251799813685247 := by omega
    have hlk := h.look p (by omega)
    unfold fm at hlk
    rw [if_pos (by omega), Int.toNat_natCast] at hlk
    cases hx : π.page p with
    | none =>
      have hw := hw
      rw [hx] at hlk
      simp only [Option.map_none, pval] at hlk
      have Hr := hid (show usedP π m = false by unfold usedP; rw [if_neg (by omega), e1, hx])
      clear h hp hi e1 e2 hm
      go_enter func229, ntmps229
      go_wp2
      go_ret
      exact ⟨ret_bool Hr.out.symm, rfl⟩
    | some x =>
      rw [hx] at hlk
      simp only [Option.map_some, pval] at hlk
      have hps := hw.page_some hx
      obtain ⟨ub, cap, hpv, _, huc, huf⟩ := h.used hx (by omega)
      have k1 := (h.page hx).1
      rw [hpv] at k1
      have hN1 := hps.2.2.2.2
      have Hr := hid (show usedP π m = (decide (i < x.used.length) && x.used[i]?.getD false) by unfold usedP; rw [if_neg (by omega), e1, e2, hx])
      clear hps hpv
      generalize x.used.length = N at *
      by_cases hlt : i < N
      · have k2 := huc i hlt
        rw [show decide (i < N) = true by simpa using hlt, Bool.true_and] at Hr
        clear h hp hi e1 e2 huc hm hx hw
        go_enter func229, ntmps229
        go_wp2
        go_ret
        exact ⟨ret_bool Hr.out.symm, rfl⟩
      · rw [show decide (i < N) = false by simpa using hlt, Bool.false_and] at Hr
        clear h hp hi e1 e2 huc hm hx hw
        go_enter func229, ntmps229
        go_wp2
        go_ret
        exact ⟨ret_bool Hr.out.symm, rfl⟩
theorem Mem.owned {w W : World} {β : Bk} {π : Pi} {L : Nat} {ow' : List Int} (h : Mem w β π L) (hA : Ar W β.g β.k π.ow.length π.S β.bv ow' π.bs) (hg : w.grownBy W (some β.k)) :
    Mem W β { π with ow := ow' } L ∧ Step w β π W β { π with ow := ow' } := by
  have hl : ow'.length = π.ow.length := hA.len
  refine h.updS (fun i => i = .own) (Tch.of_grown hg) ?_ ?_ ?_ rfl rfl
  · intro b hb
    exact ⟨.own, rfl, by simpa [blk] using hb⟩
  · intro i hi
    cases i with
    | own => exact absurd rfl hi
    | ar => exact ⟨rfl, fun W' hr => by simpa only [res, hl] using hr⟩
    | row c' => exact ⟨rfl, fun W' hr => hr⟩
    | pg q => exact ⟨rfl, fun W' hr => hr⟩
    | use q => exact ⟨rfl, fun W' hr => hr⟩
    | _ => exact ⟨rfl, fun W' hr => hr⟩
  · rintro i rfl
    refine ⟨?_, fun b hb => ?_⟩
    · have := hA.own
      simpa only [res, hl] using this
    · have e : β.k = b := by simpa [blk] using hb
      subst e
      exact ⟨Nat.lt_of_lt_of_le (h.lt .own _ rfl) hg.size, .inl rfl⟩
theorem own_drop {w : World} {base g n cap : Nat} {e : TypeId} {xs : List Value} (h : w.ownsRow base e 1 (.slice (some ⟨g, 0, none⟩) (n + 1) cap) (n + 1) xs) : w.ownsRow base e 1 (.slice (some ⟨g, 0, none⟩) n cap) n xs.dropLast := by
  rcases h.2 with ⟨h1, _⟩ | ⟨g', cap', cur, h1, h2, h3, h4, h5, h6, h7⟩
  · cases h1
  · obtain ⟨rfl, rfl⟩ : g' = g ∧ cap' = cap := by simpa [eq_comm] using h1
    have hl := h.1
    refine ⟨by simp; omega, .inr ⟨g', cap', cur, rfl, h2, h3, by omega, h5, h6, ?_⟩⟩
    rw [← h7]
    simp only [Nat.mul_one] at h6 ⊢
    rw [List.dropLast_eq_take, List.take_take]
    congr 1
    simp
    omega
theorem setPg_setPg (π : Pi) (p : Nat) (x y : Pg) : setPg (setPg π p x) p y = setPg π p y := by unfold setPg; simp
theorem class_at {w : World} {β : Bk} {π : Pi} {L : Nat} (h : Mem w β π L) (c : Int) {b : Bool} (hb : decide (0 ≤ c ∧ c < (π.sz.length : Int)) = b) :
    Calls prog 234 #[.pointer (some ⟨β.sb, 0, none⟩), .int .i64 c] w fun e w' => e = .returned (.bool b) ∧ w = w' := by rw [← hb]; exact class_any h c
theorem layL_new (p r : Nat) (hr : 0 < r) : layL p (List.replicate r false) ≠ [] := by
  unfold layL psh
  intro h
  have h1 := List.map_eq_nil_iff.1 h
  rw [List.filter_eq_nil_iff] at h1
  rw [List.length_replicate, show r = (r - 1) + 1 by omega, bwd_succ] at h1
  have := h1 _ (List.mem_append_right _ (List.mem_singleton_self _))
  simp only [List.length_replicate, List.getElem?_replicate] at this
  rw [if_pos (by omega)] at this
  simp at this
theorem freshP_row {π : Pi} {p c : Nat} (hc : c < π.rows.length) : rowC (freshP π p c) c = rowC π c ++ layL p (List.replicate (per π c) false) := by
  unfold rowC freshP rowsAdd setPg
  dsimp only
  rw [List.getElem?_set_self hc]; rfl
theorem Wf.pre {π : Pi} {L : Nat} (h : Wf π L) {c : Nat} (hc : c < π.sz.length) (hm : L + 1500 ≤ 100000000) (hok : rowC π c = [] → AP.least π.ow < π.ow.length) : Wf (preP π c) (L + 1025) ∧ rowC (preP π c) c ≠ [] := by
  unfold preP
  by_cases hr : rowC π c = []
  · rw [if_pos hr]
    have hl := hok hr
    have h0 := AP.least_zero hl
    have h1 : Wf (SP.setPg { π with ow := π.ow.set (AP.least π.ow) ((c : Int) + 1) } (AP.least π.ow) (frPg π c)) L := h.newPg hl hc (fun x hx => by have := (h.page_some hx).1; omega)
    have hpl : AP.least π.ow < π.pg.length := by rw [h.pl]; exact hl
    constructor
    · have h2 := (h1.mono (L' := L + 1) (by omega) (by omega)).lay (p := AP.least π.ow) (c := c) (x := frPg π c) ((page_setPg (π := { π with ow := π.ow.set (AP.least π.ow) ((c : Int) + 1) }) hpl _).trans (if_pos rfl)) rfl (by simp only [SP.setPg]; rw [List.getElem?_set_self hl]; rfl) (by omega) (fun l hrl i _ hin => by
        have e0 : l = [] := by
          have : rowC π c = l := by unfold rowC; rw [show π.rows[c]? = some l from hrl]; rfl
          rw [← this]; exact hr
        rw [e0] at hin; cases hin)
      exact h2
    · rw [freshP_row (by rw [h.rl]; exact hc)]
      intro e
      exact layL_new _ _ (by have := (h.per_one hc).1; exact this) (List.append_eq_nil_iff.1 e).2
  · rw [if_neg hr]
    exact ⟨h.mono (by omega) (by omega), hr⟩
theorem own_grant {π : Pi} {c : Nat} (hl : AP.least π.ow < π.ow.length) : AP.owner (π.ow.set (AP.least π.ow) ((c : Int) + 1)) (AP.least π.ow) = c := by
  rw [AP.owner_at (by simpa using hl), List.getElem?_set_self hl]
  simp
theorem alOk_zero {π : Pi} {c : Int} (h : 0 ≤ c ∧ c < (π.sz.length : Int)) (h2 : rowC π c.toNat = [] → AP.least π.ow < π.ow.length) : alOk π c = 0 := by
  unfold alOk
  rw [if_neg (by simpa using h), if_neg (by rintro ⟨h3, h4⟩; exact h4 (h2 h3))]
theorem alOk_inv {π : Pi} {c : Int} (h : alOk π c = 0) (hr : rowC π c.toNat = []) : AP.least π.ow < π.ow.length := by
  unfold alOk at h
  split at h
  · omega
  · split at h
    · omega
    · rename_i h1 h2
      exact Classical.byContradiction fun h3 => h2 ⟨hr, h3⟩
theorem preP_sz (π : Pi) (c : Nat) : (preP π c).sz = π.sz := by unfold preP; split <;> rfl
theorem lastC_mem {l : List Int} (h : l ≠ []) : lastC l ∈ l := by
  have := List.length_pos_iff.2 h
  unfold lastC
  rw [List.getElem?_eq_getElem (by omega)]
  exact List.getElem_mem _
def AlPost (β : Bk) (π : Pi) (L : Nat) (c : Int) (w : World) (e : Ending) (w' : World) : Prop :=
  e = .returned (.tuple #[.int .i64 (alC π c), .int .i64 (alOk π c : Nat)]) ∧ ∃ β', Mem w' β' (alS π c) (L + 2000) ∧ Step w β π w' β' (alS π c)
theorem Mem.more {w : World} {β : Bk} {π : Pi} {L L' : Nat} (h : Mem w β π L) (hl : L ≤ L') : Mem w β π L' := by
  refine ⟨fun i => ?_, h.inj, h.lt⟩
  cases i with
  | map =>
    obtain ⟨D, ho, hD⟩ := h.lie .map
    exact ⟨D, ho.mono hl, hD⟩
  | sl => exact h.lie .sl
  | ar => exact h.lie .ar
  | own => exact h.lie .own
  | byt => exact h.lie .byt
  | siz => exact h.lie .siz
  | rows => exact h.lie .rows
  | row c => exact h.lie (.row c)
  | pg p => exact h.lie (.pg p)
  | use p => exact h.lie (.use p)
set_option maxRecDepth 100000 in
set_option maxHeartbeats 4000000 in
theorem alloc_any {w : World} {β : Bk} {π : Pi} {L : Nat} (h : Mem w β π L) (hw : Wf π L) (c : Int) (hm : L + 2000 ≤ 100000000) :
    Calls prog 191 #[.pointer (some ⟨β.sb, 0, none⟩), .int .i64 c] w (AlPost β π L c w) := by
  by_cases hcl : 0 ≤ c ∧ c < (π.sz.length : Int)
  case neg =>
    have Hc := hid (class_at h c (b := false) (by simpa using hcl))
    have Hp : Hid (AlPost β π L c w (.returned (.tuple #[.int .i64 (-1), .int .i64 1])) w) := by
      have e : alOk π c = 1 := by unfold alOk; rw [if_pos hcl]
      refine hid ⟨?_, β, ?_, ?_⟩
      · unfold alC; rw [e]; rfl
      · unfold alS; rw [e, if_neg (by omega)]; exact h.more (by omega)
      · unfold alS; rw [e, if_neg (by omega)]; exact Step.refl _ _ _
    clear h
    go_enter func191, ntmps191
    go_wp2_with (go_at_call 234; refine Hc.out.mono ?_; rintro e w' ⟨rfl, rfl⟩)
    go_ret2
    exact Hp.out
  case pos =>
    obtain ⟨k, rfl⟩ := Int.eq_ofNat_of_zero_le hcl.1
    have hk : k < π.sz.length := by omega
    have Hc := hid (class_at h (k : Int) (b := true) (by simpa using hk))
    obtain ⟨a, rcap, l, hl, hrv, hrc, hro⟩ := h.row hw k hk
    have s2 := h.s2
    have s0 := h.s0
    have hrl := h.rvl
    have hnp := hw.np1
    have hk1 := hw.k1
    have hrow : rowC π k = l := by unfold rowC; rw [hl]; rfl
    have hA := h.ar hw
    have HA := hid (grant_any hA k)
    have HM := hid h
    clear h hA
    go_enter func191, ntmps191
    go_upto_if 23 with (go_at_call 234; refine Hc.out.mono ?_; rintro e w' ⟨rfl, rfl⟩)
    go_cut [] from 4 to 39 (fun wx => Hid (alOk π k = 0) ∧ ∃ β1, Hid (Mem wx β1 (preP π k) (L + 1025)) ∧ Hid (Step w β π wx β1 (preP π k)))
    case first =>
      by_cases h0 : l.length = 0
      · have hl0 : l = [] := List.length_eq_zero_iff.1 h0
        have hkk : (k : Int) < 63 := by omega
        by_cases hle : AP.least π.ow < π.ow.length
        · have Hg : Hid (∀ e w', GrPost π.ow π.bs β.g β.k π.ow.length π.S β.bv k w e w' → e = .returned (.tuple #[.int .i64 (AP.least π.ow : Nat), .int .i64 0]) ∧ Mem w' β { π with ow := π.ow.set (AP.least π.ow) ((k : Int) + 1) } L ∧ Step w β π w' β { π with ow := π.ow.set (AP.least π.ow) ((k : Int) + 1) }) := hid (fun e w' ⟨he, hA', hg⟩ => by
            have ok : AP.okO (k : Int) = true := by unfold AP.okO; exact decide_eq_true ⟨by omega, hkk⟩
            unfold AP.grP AP.grE at he
            rw [if_pos ⟨ok, hle⟩, if_pos ok, if_pos hle] at he
            unfold AP.grO at hA'
            rw [if_pos ⟨ok, hle⟩] at hA'
            exact ⟨he, HM.out.owned hA' hg⟩)
          have HW : Hid (Wf (setPg { π with ow := π.ow.set (AP.least π.ow) ((k : Int) + 1) } (AP.least π.ow) (frPg { π with ow := π.ow.set (AP.least π.ow) ((k : Int) + 1) } k)) (L + 1)) := hid ((hw.newPg hle hk (fun x hx => by have := (hw.page_some hx).1; have := AP.least_zero hle; omega)).mono (by omega) (by omega))
          have Hok := hid (alOk_zero (π := π) (c := (k : Int)) hcl (fun _ => hle))
          have Hpre : Hid (preP π k = freshP { π with ow := π.ow.set (AP.least π.ow) ((k : Int) + 1) } (AP.least π.ow) k) := hid (by unfold preP; rw [if_pos (hrow.trans hl0)])
          have Hown := hid (own_grant (π := π) (c := k) hle)
          have Hle := hid hle
          generalize AP.least π.ow = q at *
          clear hle
          go_wp2_with (first
            | (go_at_call 235; refine HA.out.mono ?_; intro e w1 hg1; obtain ⟨rfl, hM1, hS1⟩ := Hg.out e w1 hg1; clear hg1)
            | (go_at_call 236; refine (fresh_any hM1 q k HW.out Hown.out hk (by simpa using Hle.out)).mono ?_; rintro e w2 ⟨⟨v2, rfl⟩, β2, hM2, hS2⟩))
          go_meet
          case rel => exact ⟨Hok, β2, hid (by rw [Hpre.out]; exact hM2.more (by omega)), hid (by rw [Hpre.out]; exact hS1.trans hS2)⟩
        · have Hp : Hid (∀ e w', GrPost π.ow π.bs β.g β.k π.ow.length π.S β.bv k w e w' → e = .returned (.tuple #[.int .i64 (-1), .int .i64 5]) ∧ AlPost β π L k w (.returned (.tuple #[.int .i64 (-1), .int .i64 5])) w') := hid (fun e w' ⟨he, hA', hg⟩ => by
            have ok : AP.okO (k : Int) = true := by unfold AP.okO; exact decide_eq_true ⟨by omega, hkk⟩
            unfold AP.grP AP.grE at he
            rw [if_neg (fun h => hle h.2), if_pos ok, if_neg hle] at he
            unfold AP.grO at hA'
            rw [if_neg (fun h => hle h.2)] at hA'
            have e5 : alOk π k = 5 := by unfold alOk; rw [if_neg (by simpa using hcl), if_pos ⟨hrow.trans hl0, hle⟩]
            have := HM.out.owned hA' hg
            refine ⟨he, ?_, β, ?_, ?_⟩
            · unfold alC; rw [e5]; rfl
            · unfold alS; rw [e5, if_neg (by omega)]; exact this.1.more (by omega)
            · unfold alS; rw [e5, if_neg (by omega)]; exact this.2)
          clear hle
          go_wp2_with (go_at_call 235; refine HA.out.mono ?_; intro e w1 hg1; obtain ⟨rfl, hP1⟩ := Hp.out e w1 hg1; clear hg1)
          go_ret2
          exact hP1
      · have hl0 : l ≠ [] := fun e => h0 (by rw [e]; rfl)
        have hne : rowC π k ≠ [] := by rw [hrow]; exact hl0
        have Hok := hid (alOk_zero (π := π) (c := (k : Int)) hcl (fun e => absurd e hne))
        have Hpre : Hid (preP π k = π) := hid (by unfold preP; rw [if_neg hne])
        go_wp2
        go_meet
        case rel => exact ⟨Hok, β, hid (by rw [Hpre.out]; exact HM.out.more (by omega)), hid (by rw [Hpre.out]; exact Step.refl _ _ _)⟩
    case rest =>
      obtain ⟨Hok, β1, HM1, HS1⟩ := hcut
      have hwp := hw.pre hk (by omega) (fun hr => alOk_inv (c := (k : Int)) Hok.out hr)
      have hkz : k < (preP π k).sz.length := by rw [preP_sz]; exact hk
      have HC : Hid (alC π k = lastC (rowC (preP π k) k)) := hid (by unfold alC; rw [if_pos Hok.out]; rfl)
      have HS : Hid (alS π k = popP (preP π k) k) := hid (by unfold alS; rw [if_pos Hok.out]; rfl)
      generalize preP π k = π1 at *
      obtain ⟨hw1, hne⟩ := hwp
      clear s2 s0 hrc hro hrv hl hrow HA Hc HM hnp hk1 hrl
      obtain ⟨a1, cap1, l1, hl1, hrv1, hrc1, hro1⟩ := HM1.out.row hw1 k hkz
      have hrl1 := HM1.out.rvl
      have hk1 := hw1.k1
      have hrow1 : rowC π1 k = l1 := by unfold rowC; rw [hl1]; rfl
      rw [hrow1] at hne HC
      have hlp := List.length_pos_iff.2 hne
      have hll := (hw1.ch k l1 hl1).1
      obtain ⟨n, hn⟩ : ∃ n, l1.length = n + 1 := ⟨l1.length - 1, by omega⟩
      obtain ⟨p, i, g, hch, hpg, hig, hgu, hgc, hgo⟩ := (hw1.ch k l1 hl1).2.2 _ (lastC_mem hne)
      rw [hn] at hrc1 hro1 hrv1
      obtain ⟨rg, cap', e1, _, hrg⟩ := hro1.form (by omega)
      obtain ⟨rfl, rfl⟩ : a1 = some ⟨rg, 0, none⟩ ∧ cap1 = cap' := by simpa using e1
      clear e1
      have hcap := own_cap hro1
      have hps := hw1.page_some hpg
      have hpl := hw1.page_lt hpg
      have hnp := hw1.np1
      have hgn : 0 ≤ g.n ∧ g.n ≤ 1024 := by
        have := List.count_le_length (a := true) (l := g.used)
        omega
      obtain ⟨ch, hchm⟩ : ∃ ch : Nat, ch = p * 4096 + i := ⟨_, rfl⟩
      rw [← hchm] at hch
      have hu := hps.2.2.2.2
      have q1 : (ch : Int) / 4096 = (p : Int) := by omega
      have q2 : (ch : Int) % 4096 = (i : Int) := by omega
      have hlast : wc.cell? ⟨rg, n, none⟩ = some (.int .i64 (ch : Int)) := by
        have := own_int hro1 n (by omega)
        rw [this, ← hch]
        unfold lastC
        rw [hn, Nat.add_sub_cancel]
      -- the worlds
      have Md := HM1.out.drew
      have hrows : wc.drew.ownsRow 0 39 1 (.slice (some ⟨β1.rb, 0, none⟩) π1.sz.length β1.rc) π1.sz.length β1.rv := Md.lie .rows
      have hst := hrows.stored k (.slice (some ⟨rg, 0, none⟩) n cap1)
      have hrgb : rg ≠ β1.rb := fun e => by have := HM1.out.inj (.row k) .rows rg (by simp [blk, hrv1, Value.ownBlock]) (by rw [e]; rfl); cases this
      have hrod : wc.drew.ownsRow 0 3 1 (.slice (some ⟨rg, 0, none⟩) (n + 1) cap1) (n + 1) (l1.map (.int .i64)) := hro1.kept (row := none) ⟨rfl, rfl, rfl, Nat.le_refl _, fun _ _ _ => rfl⟩ (by simp [Value.ownBlock])
      have hdl : (l1.dropLast).length = n := by simp [hn]
      have hfr0 : wc.drew.frozen? ⟨β1.rb, k, none⟩ = false := hrows.frozenAt k
      have MW1 := Md.setRow hw1 k hkz (.slice (some ⟨rg, 0, none⟩) n cap1) l1.dropLast ((Tch.setCell wc.drew β1.rb k _).mono (fun b hb => .inl hb)) hst.1
        (by rw [hdl, List.map_dropLast]; exact own_tchB (own_drop hrod) (Tch.setCell wc.drew β1.rb k (.slice (some ⟨rg, 0, none⟩) n cap1)) (fun b hb hx => hrgb ((show rg = b by simpa [Value.ownBlock] using hb).trans hx)))
        (fun b hb => .inl (by rw [hrv1]; exact hb))
      obtain ⟨W1, hW1⟩ : ∃ W1, wc.drew.setCell ⟨β1.rb, k, none⟩ (.slice (some ⟨rg, 0, none⟩) n cap1) = W1 := ⟨_, rfl⟩
      rw [hW1] at MW1
      have s2 := HM1.out.s2
      have hs2d := Md.s2
      have k2 := MW1.1.s2
      have k3 := MW1.1.s3
      have hlk := MW1.1.look p (by omega)
      unfold fm at hlk
      rw [if_pos (by omega), Int.toNat_natCast, show ({ π1 with rows := π1.rows.set k l1.dropLast } : Pi).page p = some g from hpg] at hlk
      simp only [Option.map_some, pval] at hlk
      obtain ⟨ub, ucap, hpv, hur, huc, huf⟩ := MW1.1.used (p := p) (x := g) hpg (by omega)
      have kp := (MW1.1.page (p := p) (x := g) hpg)
      rw [hpv] at kp
      obtain ⟨kp0, kp1, _, kpf⟩ := kp
      have kuf := huf i
      have kuc := huc i hig
      have MW2 := MW1.1.setUsed (p := p) (x := g) hpg hpv i true
      have hpg3 : (setPg { π1 with rows := π1.rows.set k l1.dropLast } p { g with used := g.used.set i true }).page p = some { g with used := g.used.set i true } := (page_setPg (by show p < π1.pg.length; rw [hw1.pl]; exact hpl) _).trans (if_pos rfl)
      have kq := MW2.1.page hpg3
      have MW3 := MW2.1.setN hpg3 (g.n + 1)
      have hw4 : IntKind.i64.wrap (g.n + 1) = g.n + 1 := IntWalk.i64_in _ (by omega)
      have hpop : popP π1 k = setPg (setPg { π1 with rows := π1.rows.set k l1.dropLast } p { g with used := g.used.set i true }) p { g with used := g.used.set i true, n := g.n + 1 } := by
        rw [setPg_setPg]
        unfold popP SP.mark
        rw [hrow1, hch, show ((ch : Int) / 4096).toNat = p by omega, show ((ch : Int) % 4096).toNat = i by omega, show ({ π1 with rows := π1.rows.set k l1.dropLast } : Pi).page p = some g from hpg]
      have hpq : (p : Int) ≤ 1023 := by omega
      have Hp : Hid (AlPost β π L k w (.returned (.tuple #[.int .i64 (ch : Int), .int .i64 0])) ((W1.setCell ⟨ub, i, none⟩ (.bool true)).setCell ⟨β1.pb p, 1, none⟩ (.int .i64 (g.n + 1)))) := by
        refine hid ⟨?_, { β1 with rv := β1.rv.set k (.slice (some ⟨rg, 0, none⟩) n cap1) }, ?_⟩
        · rw [HC.out, hch, Hok.out]; rfl
        · rw [HS.out, hpop]
          exact ⟨MW3.1.more (by omega), HS1.out.trans ((Step.of_below (Below.refl _ _).drew).trans (MW1.2.trans (MW2.2.trans MW3.2)))⟩
      obtain ⟨_, kq1, _, kqf⟩ := kq
      have kqf1 := kqf 1
      have Hs2 := hid hs2d
      have k2' := k2
      rw [← hW1] at k2'
      have hrcd : wc.drew.cell? ⟨β1.rb, k, none⟩ = some (.slice (some ⟨rg, 0, none⟩) (n + 1) cap1) := hrc1
      have hsb := HS1.out.sb
      rw [hsb] at s2 hs2d k2 k3 k2'
      have hN : (g.used.length : Int) = (g.used.length : Int) := rfl
      generalize g.used.length = N at *
      generalize g.n = gn at *
      clear HM1 HS1 HC HS Md hrows hst hrod MW1 MW2 MW3 hpop hpv hur huc huf hpg hpg3 hps hgo hgc hgu hw hw1 hne hrow1 hch hro1 hl1 hrv1 kpf kqf hgn hN hsb Hs2
      clear hchm
      go_wp2_with (fail)
      go_region
      go_wp2
      go_ret2
      exact Hp.out
def ownC (π : Pi) (p : Nat) : Nat := (π.ow[p]?.getD 0 - 1).toNat
theorem usedP_inv {π : Pi} {ch : Int} (h : usedP π ch = true) : ∃ p i g, ch = ((p * 4096 + i : Nat) : Int) ∧ i < 4096 ∧ π.page p = some g ∧ i < g.used.length ∧ g.used[i]?.getD false = true := by
  unfold usedP at h
  split at h
  · cases h
  · split at h
    · cases h
    · rename_i h0 x hx
      rw [Bool.and_eq_true, decide_eq_true_eq] at h
      exact ⟨(ch / 4096).toNat, (ch % 4096).toNat, x, by omega, by omega, hx, h.1, h.2⟩
theorem count_on {l : List Bool} {i : Nat} (h : i < l.length) (hv : l[i]?.getD false = false) : (l.set i true).count true = l.count true + 1 := by
  have e : l[i] = false := by rw [List.getElem?_eq_getElem h] at hv; exact hv
  have h1 := List.count_set (a := true) (b := true) (l := l) h
  simp [e] at h1
  omega
theorem used_at {w : World} {β : Bk} {π : Pi} {L : Nat} (h : Mem w β π L) (hw : Wf π L) (ch : Int) (hch : ch ≤ 9223372036854775807) {b : Bool} (hb : usedP π ch = b) :
    Calls prog 229 #[.pointer (some ⟨β.sb, 0, none⟩), .int .i64 ch] w fun e w' => e = .returned (.bool b) ∧ w = w' := by rw [← hb]; exact used_any h hw ch hch
end Go.Proofs.YtboehbfagnocpaaGreatDoor
