/- a slab's numbers stay such as may be. -/
import Derived.Test.YtfmgncajhjkdlaaSfr
namespace Go.Proofs.Ytfmgncajhjkdlaa
open Go.RowKit Go.PlainAid
open SP
set_option linter.unusedVariables false
set_option linter.unusedSimpArgs false

theorem Wf.page_lt {π : Pi} {L : Nat} (h : Wf π L) {p : Nat} {x : Pg} (hx : π.page p = some x) : p < π.ow.length := by
  rw [← h.pl]
  unfold Pi.page at hx
  by_cases hp : p < π.pg.length
  · exact hp
  · rw [List.getElem?_eq_none (by omega)] at hx; cases hx
theorem Wf.page_some {π : Pi} {L : Nat} (h : Wf π L) {p : Nat} {x : Pg} (hx : π.page p = some x) : 1 ≤ π.ow[p]?.getD 0 ∧ π.ow[p]?.getD 0 ≤ π.sz.length ∧ x.used.length = π.S / (π.sz[(π.ow[p]?.getD 0 - 1).toNat]?.getD 0).toNat ∧ x.n = (x.used.count true : Int) ∧ 1 ≤ x.used.length ∧ x.used.length ≤ 1024 := by
  rcases h.pg p (h.page_lt hx) with ⟨h1, _⟩ | ⟨y, h1, h2, h3, h4, h5⟩
  · rw [h1] at hx; cases hx
  · rw [h1] at hx
    cases hx
    refine ⟨h2, h3, h4, h5, ?_⟩
    rw [h4]
    have hc : (π.ow[p]?.getD 0 - 1).toNat < π.sz.length := by omega
    have hx := h.sz (π.sz[(π.ow[p]?.getD 0 - 1).toNat]?.getD 0) (by rw [List.getElem?_eq_getElem hc]; exact List.getElem_mem hc)
    have hS := h.siz
    generalize π.sz[(π.ow[p]?.getD 0 - 1).toNat]?.getD 0 = d at *
    have e := Int.toNat_of_nonneg (show 0 ≤ d by omega)
    generalize d.toNat = d' at *
    exact ⟨(Nat.le_div_iff_mul_le (by omega)).2 (by omega), Nat.le_trans (Nat.div_le_div_left (c := 64) (by omega) (by omega)) (by omega)⟩
theorem Wf.per_one {π : Pi} {L : Nat} (h : Wf π L) {c : Nat} (hc : c < π.sz.length) : 1 ≤ per π c ∧ per π c ≤ 1024 := by
  unfold per
  have hx := h.sz (π.sz[c]?.getD 0) (by rw [List.getElem?_eq_getElem hc]; exact List.getElem_mem hc)
  have hS := h.siz
  generalize π.sz[c]?.getD 0 = d at *
  have e := Int.toNat_of_nonneg (show 0 ≤ d by omega)
  generalize d.toNat = d' at *
  exact ⟨(Nat.le_div_iff_mul_le (by omega)).2 (by omega), Nat.le_trans (Nat.div_le_div_left (c := 64) (by omega) (by omega)) (by omega)⟩

/-- a class's row changed -/
theorem Wf.setRow {π : Pi} {L L' : Nat} (h : Wf π L) (hL : L ≤ L') (hm : L' ≤ 100000000) (c : Nat) (l : List Int) (hl : l.length ≤ L') (hnd : l.Nodup)
    (hx : ∀ x ∈ l, ∃ (p i : Nat) (g : Pg), x = ((p * 4096 + i : Nat) : Int) ∧ π.page p = some g ∧ i < g.used.length ∧ g.used[i]?.getD false = false ∧ g.cl = false ∧ π.ow[p]?.getD 0 = (c : Int) + 1) : Wf { π with rows := π.rows.set c l } L' :=
  ⟨h.np1, h.rng, h.siz, h.k1, h.sz, by simpa using h.rl, h.pl, h.pg, fun c' l' hc' => by
    dsimp only at hc'
    by_cases e : c = c'
    · subst e
      by_cases hlt : c < π.rows.length
      · rw [List.getElem?_set_self hlt] at hc'
        cases hc'
        exact ⟨hl, hnd, hx⟩
      · rw [List.getElem?_eq_none (by simpa using hlt)] at hc'; cases hc'
    · rw [List.getElem?_set_ne e] at hc'
      have := h.ch c' l' hc'
      exact ⟨by omega, this.2⟩, hm⟩
/-- a page's chunks marked otherwise -/
theorem Wf.setPg {π : Pi} {L : Nat} (h : Wf π L) {p : Nat} {x y : Pg} (hx : π.page p = some x) (hl : y.used.length = x.used.length) (hn : y.n = (y.used.count true : Int))
    (hu : ∀ (c : Nat) (l : List Int) (i : Nat), π.rows[c]? = some l → ((p * 4096 + i : Nat) : Int) ∈ l → i < x.used.length → x.used[i]?.getD false = false → x.cl = false → y.used[i]?.getD false = false ∧ y.cl = false) : Wf (SP.setPg π p y) L := by
  have hp : p < π.pg.length := by rw [h.pl]; exact h.page_lt hx
  have hpage := page_setPg (π := π) (p := p) (x := y) hp
  refine ⟨h.np1, h.rng, h.siz, h.k1, h.sz, h.rl, by simpa [SP.setPg] using h.pl, fun q hq => ?_, fun c l hcl => ⟨(h.ch c l hcl).1, (h.ch c l hcl).2.1, fun z hz => ?_⟩, h.lim⟩
  · rw [hpage]
    by_cases e : q = p
    · subst e
      rw [if_pos rfl]
      have := h.page_some hx
      exact .inr ⟨y, rfl, this.1, this.2.1, hl.trans this.2.2.1, hn⟩
    · rw [if_neg e]
      exact h.pg q hq
  · obtain ⟨q, i, g, h1, h2, h3, h6, h4, h5⟩ := (h.ch c l hcl).2.2 z hz
    by_cases e : q = p
    · subst e
      rw [hx] at h2
      cases h2
      have h7 := hu c l i hcl (h1 ▸ hz) h3 h6 h4
      exact ⟨q, i, y, h1, by rw [hpage, if_pos rfl], by omega, h7.1, h7.2, h5⟩
    · exact ⟨q, i, g, h1, by rw [hpage, if_neg e]; exact h2, h3, h6, h4, h5⟩
/-- a page of a class, new: no chunk of it lies in a row -/
theorem Wf.newPg {π : Pi} {L : Nat} (h : Wf π L) {p c : Nat} (hp : p < π.ow.length) (hc : c < π.sz.length) (hno : ∀ x, π.page p = some x → x.cl = true) : Wf (SP.setPg { π with ow := π.ow.set p ((c : Int) + 1) } p (frPg π c)) L := by
  have hpl : p < π.pg.length := by rw [h.pl]; exact hp
  have hpage : ∀ q, (SP.setPg { π with ow := π.ow.set p ((c : Int) + 1) } p (frPg π c)).page q = if q = p then some (frPg π c) else π.page q := page_setPg (π := { π with ow := π.ow.set p ((c : Int) + 1) }) hpl
  have hk := h.k1
  have how : ∀ q, q ≠ p → (π.ow.set p ((c : Int) + 1))[q]?.getD 0 = π.ow[q]?.getD 0 := fun q hq => by rw [List.getElem?_set_ne (fun e => hq e.symm)]
  have how2 : (π.ow.set p ((c : Int) + 1))[p]?.getD 0 = (c : Int) + 1 := by rw [List.getElem?_set_self hp]; rfl
  refine ⟨by simpa [SP.setPg] using h.np1, ?_, h.siz, h.k1, h.sz, h.rl, by simpa [SP.setPg] using h.pl, fun q hq => ?_, fun c' l hcl => ⟨(h.ch c' l hcl).1, (h.ch c' l hcl).2.1, fun z hz => ?_⟩, h.lim⟩
  · exact h.rng.set (by omega) (by omega)
  · rw [hpage]
    by_cases e : q = p
    · subst e
      rw [if_pos rfl]
      refine .inr ⟨_, rfl, ?_⟩
      simp only [SP.setPg]
      rw [how2]
      refine ⟨by omega, by omega, ?_, ?_⟩
      · rw [show ((c : Int) + 1 - 1).toNat = c by omega]
        simp [frPg, per]
      · simp [frPg, List.count_replicate]
    · rw [if_neg e]
      simp only [SP.setPg]
      rw [how q e]
      exact h.pg q (by simpa [SP.setPg] using hq)
  · obtain ⟨q, i, g, h1, h2, h3, h6, h4, h5⟩ := (h.ch c' l hcl).2.2 z hz
    have e : q ≠ p := fun e => by
      subst e
      have := hno g h2
      rw [h4] at this; cases this
    refine ⟨q, i, g, h1, by rw [hpage, if_neg e]; exact h2, h3, h6, h4, ?_⟩
    simp only [SP.setPg]
    rw [how q e]; exact h5
theorem mem_bwd {us : List Bool} {k : Nat} (hk : k ≤ us.length) {y : Nat × Bool} (h : y ∈ bwd us k) : y.1 < us.length ∧ y.2 = us[y.1]?.getD false := by
  unfold bwd at h
  obtain ⟨i, hi, rfl⟩ := List.mem_map.1 h
  have := List.mem_range.1 hi
  exact ⟨by dsimp only; omega, rfl⟩
theorem mem_layL {p : Nat} {us : List Bool} {x : Int} (hp : p < 1024) (hu : us.length ≤ 4096) (h : x ∈ layL p us) : ∃ i, i < us.length ∧ x = ((p * 4096 + i : Nat) : Int) ∧ us[i]?.getD false = false := by
  unfold layL psh at h
  obtain ⟨y, hy, rfl⟩ := List.mem_map.1 h
  obtain ⟨h1, h2⟩ := List.mem_filter.1 hy
  obtain ⟨h3, h4⟩ := mem_bwd (Nat.le_refl _) h1
  refine ⟨y.1, h3, ?_, ?_⟩
  · rw [IntWalk.i64_in _ (by omega)]; omega
  · rw [← h4]; simpa using h2
theorem layL_len (p : Nat) (us : List Bool) : (layL p us).length ≤ us.length := by
  unfold layL
  have := psh_len p (bwd us us.length)
  rw [bwd_len] at this
  exact this
theorem layL_nodup (p : Nat) (us : List Bool) (hp : p < 1024) (hu : us.length ≤ 4096) : (layL p us).Nodup := by
  unfold layL psh bwd
  rw [List.Nodup, List.pairwise_map]
  refine List.Pairwise.filter _ ?_
  rw [List.pairwise_map]
  refine List.Pairwise.imp_of_mem ?_ List.nodup_range
  intro a b ha hb hab
  have h1 := List.mem_range.1 ha
  have h2 := List.mem_range.1 hb
  dsimp only
  rw [IntWalk.i64_in _ (by omega), IntWalk.i64_in _ (by omega)]
  omega
/-- a page's free chunks laid: none of them lay there -/
theorem Wf.lay {π : Pi} {L : Nat} (h : Wf π L) {p c : Nat} {x : Pg} (hx : π.page p = some x) (hcl : x.cl = false) (how : π.ow[p]?.getD 0 = (c : Int) + 1) (hm : L + 1024 ≤ 100000000)
    (hno : ∀ l, π.rows[c]? = some l → ∀ i, i < x.used.length → ((p * 4096 + i : Nat) : Int) ∉ l) : Wf (rowsAdd π c (layL p x.used)) (L + 1024) := by
  have hp := h.page_lt hx
  have hnp := h.np1
  have hps := h.page_some hx
  have h3 := layL_len p x.used
  have hc : c < π.rows.length := by rw [h.rl]; omega
  have e : π.rows[c]?.getD [] = π.rows[c] := by rw [List.getElem?_eq_getElem hc]; rfl
  have h5 := h.ch c π.rows[c] (List.getElem?_eq_getElem hc)
  refine h.setRow (by omega) hm c _ ?_ ?_ ?_
  · rw [List.length_append, e]; omega
  · rw [e, List.nodup_append]
    refine ⟨h5.2.1, layL_nodup p x.used (by omega) (by omega), ?_⟩
    intro a ha b hb hab
    obtain ⟨i, h6, h7, _⟩ := mem_layL (by omega) (by omega) hb
    exact hno _ (List.getElem?_eq_getElem hc) i h6 (by rw [← h7, ← hab]; exact ha)
  · intro z hz
    rw [e] at hz
    rcases List.mem_append.1 hz with hz | hz
    · exact h5.2.2 z hz
    · obtain ⟨i, h6, h7, h8⟩ := mem_layL (by omega) (by omega) hz
      exact ⟨p, i, x, h7, hx, h6, h8, hcl, how⟩
end Go.Proofs.Ytfmgncajhjkdlaa
