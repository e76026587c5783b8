/- what the calls do, told of each chunk and each class. -/
import Derived.Test.YtfmgncajhjkdlaaScn
namespace Go.Proofs.Ytfmgncajhjkdlaa
open Go.RowKit Go.PlainAid
open SP
set_option linter.unusedVariables false
set_option linter.unusedSimpArgs false

theorem sum_filter {α : Type} (P : α → Bool) (f : α → Int) : ∀ (l : List α), ((l.filter P).map f).sum = (l.map (fun x => if P x then f x else 0)).sum
  | [] => rfl
  | x :: l => by
    rw [List.filter_cons]
    cases h : P x with
    | true => simp [h, sum_filter P f l]
    | false => simp [h, sum_filter P f l]
theorem sum_upd (f f' : Nat → Int) (p : Nat) (h : ∀ q, q ≠ p → f' q = f q) : ∀ n, ((List.range n).map f').sum = ((List.range n).map f).sum + (if p < n then f' p - f p else 0)
  | 0 => by simp
  | n + 1 => by
    rw [List.range_succ, List.map_append, List.map_append, List.sum_append, List.sum_append, sum_upd f f' p h n]
    simp only [List.map_cons, List.map_nil, List.sum_cons, List.sum_nil]
    by_cases e : n = p
    · subst e
      rw [if_neg (by omega), if_pos (by omega)]
      omega
    · rw [h n e]
      by_cases h1 : p < n
      · rw [if_pos h1, if_pos (by omega)]; omega
      · rw [if_neg h1, if_neg (by omega)]; omega
/-- the used chunks of a class, by its pages -/
def pn (π : Pi) (c : Int) (q : Nat) : Int := if 0 < π.ow[q]?.getD 0 ∧ π.ow[q]?.getD 0 - 1 = c then nOf π q else 0
def cls (π : Pi) (c : Int) : Int := sumN π (AP.pages π.ow c)
theorem cls_eq (π : Pi) (c : Int) : cls π c = ((List.range π.ow.length).map (pn π c)).sum := by
  unfold cls sumN AP.pages
  rw [List.map_map, sum_filter]
  congr 1
  apply List.map_congr_left
  intro q _
  unfold pn
  simp
theorem page_setPgI {π : Pi} {p : Nat} {x : Pg} (hp : p < π.pg.length) (q : Nat) : nOf (SP.setPg π p x) (q : Int) = if q = p then x.n else nOf π (q : Int) := by
  unfold nOf
  rw [Int.toNat_natCast, page_setPg hp]
  by_cases e : q = p
  · rw [if_pos e, if_pos e]
  · rw [if_neg e, if_neg e]
/-- a page's number of used chunks turned -/
theorem cls_setPg {π : Pi} {L p : Nat} {x y : Pg} (h : Wf π L) (hx : π.page p = some x) (c : Int) : cls (SP.setPg π p y) c = cls π c + (if (ownC π p : Int) = c then y.n - x.n else 0) := by
  have hpl := h.page_lt hx
  have hps := h.page_some hx
  have hp : p < π.pg.length := by rw [h.pl]; exact hpl
  rw [cls_eq, cls_eq]
  show ((List.range π.ow.length).map (pn (SP.setPg π p y) c)).sum = _
  rw [sum_upd (pn π c) (pn (SP.setPg π p y) c) p (fun q hq => by
    unfold pn
    rw [page_setPgI hp, if_neg hq]; rfl), if_pos hpl]
  congr 1
  unfold pn
  rw [page_setPgI hp, if_pos rfl]
  have e : nOf π (p : Int) = x.n := by unfold nOf; rw [Int.toNat_natCast, hx]
  rw [e]
  show (if 0 < π.ow[p]?.getD 0 ∧ π.ow[p]?.getD 0 - 1 = c then y.n else 0) - _ = _
  unfold ownC
  by_cases h1 : π.ow[p]?.getD 0 - 1 = c
  · rw [if_pos ⟨by omega, h1⟩, if_pos ⟨by omega, h1⟩, if_pos (by omega)]
  · rw [if_neg (fun hh => h1 hh.2), if_neg (fun hh => h1 hh.2), if_neg (by omega)]; rfl
/-- a page handed on, that has no used chunk -/
theorem cls_new {π : Pi} {L p k : Nat} {x : Pg} (h : Wf π L) (hpl : p < π.ow.length) (hno : nOf π (p : Int) = 0) (hx : x.n = 0) (c : Int) : cls (SP.setPg { π with ow := π.ow.set p ((k : Int) + 1) } p x) c = cls π c := by
  have hp : p < π.pg.length := by rw [h.pl]; exact hpl
  rw [cls_eq, cls_eq]
  show ((List.range (π.ow.set p ((k : Int) + 1)).length).map (pn (SP.setPg { π with ow := π.ow.set p ((k : Int) + 1) } p x) c)).sum = _
  rw [List.length_set, sum_upd (pn π c) _ p (fun q hq => by
    unfold pn
    rw [page_setPgI (π := { π with ow := π.ow.set p ((k : Int) + 1) }) hp, if_neg hq]
    show (if 0 < (π.ow.set p ((k : Int) + 1))[q]?.getD 0 ∧ (π.ow.set p ((k : Int) + 1))[q]?.getD 0 - 1 = c then nOf π q else 0) = _
    rw [List.getElem?_set_ne (fun e => hq e.symm)]), if_pos hpl]
  unfold pn
  rw [page_setPgI (π := { π with ow := π.ow.set p ((k : Int) + 1) }) hp, if_pos rfl, hno, hx]
  simp
theorem cls_rows (π : Pi) (r : List (List Int)) (c : Int) : cls { π with rows := r } c = cls π c := rfl
theorem cls_lay (π : Pi) (k : Nat) (l : List Int) (c : Int) : cls (rowsAdd π k l) c = cls π c := rfl

/-! a chunk that is popped -/
structure Popped (π : Pi) (c : Nat) (p i : Nat) (g : Pg) : Prop where
  ch : lastC (rowC π c) = ((p * 4096 + i : Nat) : Int)
  pg : π.page p = some g
  lt : i < g.used.length
  un : g.used[i]?.getD false = false
  cl : g.cl = false
  ow : ownC π p = c
  pop : popP π c = SP.setPg { π with rows := π.rows.set c (rowC π c).dropLast } p { g with used := g.used.set i true, n := g.n + 1 }
theorem Wf.popped {π : Pi} {L : Nat} (h : Wf π L) {c : Nat} (hc : c < π.sz.length) (hne : rowC π c ≠ []) : ∃ p i g, Popped π c p i g := by
  have hcr : c < π.rows.length := by rw [h.rl]; exact hc
  have hrow : π.rows[c]? = some (rowC π c) := by unfold rowC; rw [List.getElem?_eq_getElem hcr]; rfl
  obtain ⟨hl, hnd, hx⟩ := h.ch c _ hrow
  obtain ⟨p, i, g, e1, hpg, hig, hgu, hgc, hgo⟩ := hx _ (lastC_mem hne)
  have hps := h.page_some hpg
  refine ⟨p, i, g, e1, hpg, hig, hgu, hgc, by unfold ownC; omega, ?_⟩
  unfold popP SP.mark
  rw [e1, show (((p * 4096 + i : Nat) : Int) / 4096).toNat = p by omega, show (((p * 4096 + i : Nat) : Int) % 4096).toNat = i by omega, show ({ π with rows := π.rows.set c (rowC π c).dropLast } : Pi).page p = some g from hpg]
theorem usedP_at (π : Pi) (p i : Nat) (hi : i < 4096) : usedP π ((p * 4096 + i : Nat) : Int) = match π.page p with | none => false | some x => decide (i < x.used.length) && x.used[i]?.getD false := by
  unfold usedP
  rw [if_neg (by omega), show (((p * 4096 + i : Nat) : Int) / 4096).toNat = p by omega, show (((p * 4096 + i : Nat) : Int) % 4096).toNat = i by omega]
  cases π.page p <;> rfl
theorem usedP_set {π : Pi} {p i : Nat} {g : Pg} (hp : p < π.pg.length) (hpg : π.page p = some g) (b : Bool) (m : Int) (ch : Int) : usedP (SP.setPg π p { g with used := g.used.set i b, n := m }) ch = if ch = ((p * 4096 + i : Nat) : Int) ∧ i < g.used.length ∧ i < 4096 then b else usedP π ch := by
  by_cases h0 : ch < 0
  · unfold usedP
    rw [if_pos h0, if_pos h0, if_neg (by omega)]
  · obtain ⟨k, rfl⟩ := Int.eq_ofNat_of_zero_le (Int.not_lt.1 h0)
    obtain ⟨q, j, e, hj⟩ : ∃ q j : Nat, (k : Int) = ((q * 4096 + j : Nat) : Int) ∧ j < 4096 := ⟨k / 4096, k % 4096, by omega, by omega⟩
    rw [e, usedP_at _ q j hj, usedP_at _ q j hj, page_setPg hp]
    by_cases e1 : q = p
    · subst e1
      rw [if_pos rfl, hpg]
      dsimp only
      rw [List.length_set]
      by_cases e2 : j = i
      · subst e2
        by_cases hlt : j < g.used.length
        · rw [if_pos ⟨rfl, hlt, hj⟩, List.getElem?_set_self hlt]
          simp [hlt]
        · rw [if_neg (fun hh => hlt hh.2.1)]
          simp [hlt]
      · rw [List.getElem?_set_ne (fun e => e2 e.symm), if_neg (fun hh => e2 (by have := hh.1; have := hh.2.2; omega))]
    · rw [if_neg e1, if_neg (fun hh => e1 (by have := hh.1; have := hh.2.2; omega))]
/-- the state in which Alloc pops -/
structure Pre (π π1 : Pi) (c : Nat) : Prop where
  sz : π1.sz = π.sz
  S : π1.S = π.S
  len : π1.ow.length = π.ow.length
  bs : π1.bs = π.bs
  used : ∀ ch, usedP π1 ch = usedP π ch
  cls : ∀ k, Go.Proofs.Ytfmgncajhjkdlaa.cls π1 k = Go.Proofs.Ytfmgncajhjkdlaa.cls π k
  own : ∀ p x, π.page p = some x → ownC π1 p = ownC π p ∧ π1.page p = some x
theorem freshP_page {π : Pi} {p k : Nat} (hp : p < π.pg.length) (q : Nat) : (freshP { π with ow := π.ow.set p ((k : Int) + 1) } p k).page q = if q = p then some (frPg π k) else π.page q :=
  page_setPg (π := { π with ow := π.ow.set p ((k : Int) + 1) }) hp q
theorem fresh_used {π : Pi} {p k : Nat} (hp : p < π.pg.length) (hno : ∀ i, i < 4096 → usedP π ((p * 4096 + i : Nat) : Int) = false) (ch : Int) : usedP (freshP { π with ow := π.ow.set p ((k : Int) + 1) } p k) ch = usedP π ch := by
  by_cases h0 : ch < 0
  · unfold usedP
    rw [if_pos h0, if_pos h0]
  · obtain ⟨m, rfl⟩ := Int.eq_ofNat_of_zero_le (Int.not_lt.1 h0)
    obtain ⟨q, j, e, hj⟩ : ∃ q j : Nat, (m : Int) = ((q * 4096 + j : Nat) : Int) ∧ j < 4096 := ⟨m / 4096, m % 4096, by omega, by omega⟩
    rw [e]
    by_cases e1 : q = p
    · subst e1
      rw [hno j hj, usedP_at _ q j hj, freshP_page hp, if_pos rfl]
      dsimp only [frPg]
      rw [List.getElem?_replicate]
      by_cases h : j < per π k
      · rw [if_pos h]; simp
      · rw [if_neg h]; simp
    · rw [usedP_at _ q j hj, usedP_at _ q j hj, freshP_page hp, if_neg e1]
theorem Wf.preFacts {π : Pi} {L : Nat} (h : Wf π L) {c : Nat} (hc : c < π.sz.length) (hok : rowC π c = [] → AP.least π.ow < π.ow.length) : Pre π (preP π c) c := by
  unfold preP
  by_cases hr : rowC π c = []
  · rw [if_pos hr]
    have hl := hok hr
    have h0 := AP.least_zero hl
    generalize AP.least π.ow = q at *
    have hpl : q < π.pg.length := by rw [h.pl]; exact hl
    have hnone : π.page q = none := by
      rcases h.pg q hl with h1 | ⟨x, h1, h2, _⟩
      · exact h1.1
      · omega
    refine ⟨rfl, rfl, by simp [freshP, rowsAdd, SP.setPg], rfl, fresh_used hpl (fun i hi => by rw [usedP_at _ q i hi, hnone]), fun k => ?_, fun p x hx => ?_⟩
    · show Go.Proofs.Ytfmgncajhjkdlaa.cls (SP.setPg { π with ow := π.ow.set q ((c : Int) + 1) } q _) k = _
      exact cls_new h hl (by unfold nOf; rw [Int.toNat_natCast, hnone]) rfl k
    · have e : p ≠ q := fun e => by subst e; rw [hnone] at hx; cases hx
      refine ⟨?_, by rw [freshP_page hpl, if_neg e]; exact hx⟩
      unfold ownC
      show ((π.ow.set q ((c : Int) + 1))[p]?.getD 0 - 1).toNat = _
      rw [List.getElem?_set_ne (fun e2 => e e2.symm)]
  · rw [if_neg hr]
    exact ⟨rfl, rfl, rfl, rfl, fun _ => rfl, fun _ => rfl, fun p x hx => ⟨rfl, hx⟩⟩
end Go.Proofs.Ytfmgncajhjkdlaa
