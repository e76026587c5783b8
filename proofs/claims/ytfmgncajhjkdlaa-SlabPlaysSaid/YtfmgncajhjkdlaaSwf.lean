/- each call leaves the slab's numbers such as may be. -/
import Derived.Test.YtfmgncajhjkdlaaSnw
namespace Go.Proofs.Ytfmgncajhjkdlaa
open Go.RowKit Go.PlainAid
open SP
set_option linter.unusedVariables false
set_option linter.unusedSimpArgs false

theorem chunk_inj {p i q j : Nat} (hi : i < 4096) (hj : j < 4096) (h : ((p * 4096 + i : Nat) : Int) = ((q * 4096 + j : Nat) : Int)) : p = q ∧ i = j := by omega
theorem Wf.pop {π : Pi} {L : Nat} (h : Wf π L) {c : Nat} (hc : c < π.sz.length) (hne : rowC π c ≠ []) : Wf (popP π c) L := by
  have hcr : c < π.rows.length := by rw [h.rl]; exact hc
  have hrow : π.rows[c]? = some (rowC π c) := by unfold rowC; rw [List.getElem?_eq_getElem hcr]; rfl
  obtain ⟨hl, hnd, hx⟩ := h.ch c _ hrow
  obtain ⟨p, i, g, e1, hpg, hig, hgu, hgc, hgo⟩ := hx _ (lastC_mem hne)
  have hps := h.page_some hpg
  have hsplit : rowC π c = (rowC π c).dropLast ++ [lastC (rowC π c)] := by
    have h1 := List.dropLast_concat_getLast hne
    rw [List.getLast_eq_getElem] at h1
    have hlp := List.length_pos_iff.2 hne
    have h2 : lastC (rowC π c) = (rowC π c)[(rowC π c).length - 1]'(by omega) := by
      unfold lastC
      rw [List.getElem?_eq_getElem (by have := List.length_pos_iff.2 hne; omega)]; rfl
    rw [h2]
    exact h1.symm
  have hnd2 := hnd
  rw [hsplit, List.nodup_append] at hnd2
  have h1 := h.setRow (Nat.le_refl _) h.lim c (rowC π c).dropLast (by simp; omega) hnd2.1 (fun x hxm => hx x (List.dropLast_subset _ hxm))
  unfold popP SP.mark
  rw [e1, show (((p * 4096 + i : Nat) : Int) / 4096).toNat = p by omega, show (((p * 4096 + i : Nat) : Int) % 4096).toNat = i by omega, show ({ π with rows := π.rows.set c (rowC π c).dropLast } : Pi).page p = some g from hpg]
  refine h1.setPg (x := g) hpg (by simp) ?_ ?_
  · dsimp only
    rw [count_on hig hgu]
    have := hps.2.2.2.1
    omega
  · intro c' l' j hl' hj hjl hju hjc
    refine ⟨?_, hjc⟩
    dsimp only
    by_cases e : i = j
    · subst e
      exfalso
      dsimp only at hl'
      by_cases e2 : c = c'
      · subst e2
        rw [List.getElem?_set_self hcr] at hl'
        cases hl'
        exact hnd2.2.2 _ hj _ (List.mem_singleton_self _) e1.symm
      · rw [List.getElem?_set_ne e2] at hl'
        obtain ⟨q, j', g', f1, f2, f3, _, _, f4⟩ := (h.ch c' l' hl').2.2 _ hj
        have := (h.page_some f2).2.2.2.2.2
        obtain ⟨rfl, rfl⟩ := chunk_inj (by omega) (by omega) f1
        omega
    · rw [List.getElem?_set_ne e]
      exact hju
theorem Wf.alS {π : Pi} {L : Nat} (h : Wf π L) (c : Int) (hm : L + 2000 ≤ 100000000) : Wf (alS π c) (L + 2000) := by
  unfold Go.Proofs.Ytfmgncajhjkdlaa.alS
  split
  · rename_i h0
    have hc : 0 ≤ c ∧ c < (π.sz.length : Int) := by
      unfold alOk at h0
      split at h0
      · omega
      · rename_i h1; simpa using h1
    obtain ⟨k, rfl⟩ := Int.eq_ofNat_of_zero_le hc.1
    rw [Int.toNat_natCast]
    have hp := h.pre (c := k) (by omega) (by omega) (fun hr => alOk_inv h0 hr)
    exact (hp.1.pop (by rw [preP_sz]; omega) hp.2).mono (by omega) (by omega)
  · exact h.mono (by omega) (by omega)
theorem Wf.markOff {π : Pi} {L p i : Nat} {g : Pg} (h : Wf π L) (hpg : π.page p = some g) (hig : i < g.used.length) (hgu : g.used[i]?.getD false = true) : Wf (SP.setPg π p { g with used := g.used.set i false, n := g.n - 1 }) L := by
  have hps := h.page_some hpg
  have hcnt := count_off hig hgu
  refine h.setPg hpg (by simp) (by simp only; omega) (fun c l j _ _ hj hju hjc => ⟨?_, hjc⟩)
  show (g.used.set i false)[j]?.getD false = false
  by_cases e : i = j
  · subst e; rw [List.getElem?_set_self hj]; rfl
  · rw [List.getElem?_set_ne e]; exact hju
theorem Wf.frS {π : Pi} {L : Nat} (h : Wf π L) (ch : Int) (hm : L + 2000 ≤ 100000000) : Wf (frS π ch) (L + 2000) := by
  unfold Go.Proofs.Ytfmgncajhjkdlaa.frS
  cases hu : usedP π ch with
  | false => exact h.mono (by omega) (by omega)
  | true =>
    rw [if_pos rfl]
    obtain ⟨p, i, g, hchp, hi4, hpg, hig, hgu⟩ := usedP_inv hu
    have hps := h.page_some hpg
    have hM := h.markOff hpg hig hgu
    have e1 : (ch / 4096).toNat = p := by omega
    have e2 : (ch % 4096).toNat = i := by omega
    have hmk : SP.mark π ch false (-1) = SP.setPg π p { g with used := g.used.set i false, n := g.n - 1 } := by
      unfold SP.mark
      rw [e1, e2, hpg]; rfl
    rw [hmk, e1]
    cases hcl : closedP π p with
    | true => rw [if_pos rfl]; exact hM.mono (by omega) (by omega)
    | false =>
      rw [if_neg (by simp)]
      have hgc : g.cl = false := by unfold closedP at hcl; rw [hpg] at hcl; exact hcl
      have hoc : π.ow[p]?.getD 0 = (ownC π p : Int) + 1 := by unfold ownC; omega
      have hcr : ownC π p < π.rows.length := by rw [h.rl]; omega
      have hrow : π.rows[ownC π p]? = some (rowC π (ownC π p)) := by unfold rowC; rw [List.getElem?_eq_getElem hcr]; rfl
      generalize ownC π p = c at *
      have h1 := hM.ch c _ (show (SP.setPg π p { g with used := g.used.set i false, n := g.n - 1 }).rows[c]? = some (rowC π c) from hrow)
      have hpl : p < π.pg.length := by rw [h.pl]; exact h.page_lt hpg
      refine (hM.setRow (L' := L + 2000) (by omega) (by omega) c (rowC π c ++ [ch]) ?_ ?_ ?_)
      · simp; omega
      · rw [List.nodup_append]
        refine ⟨h1.2.1, by simp, ?_⟩
        intro a ha b hb hab
        have e3 : b = ch := by simpa using hb
        subst e3 hab
        obtain ⟨q, j, g', f1, f2, f3, f4, _, _⟩ := (h.ch c _ hrow).2.2 _ ha
        have := (h.page_some f2).2.2.2.2.2
        rw [hchp] at f1
        obtain ⟨rfl, rfl⟩ := chunk_inj (by omega) (by omega) f1
        rw [hpg] at f2
        cases f2
        rw [hgu] at f4; cases f4
      · intro x hx
        rcases List.mem_append.1 hx with hx | hx
        · exact h1.2.2 x hx
        · have e3 : x = ch := by simpa using hx
          exact ⟨p, i, _, e3.trans hchp, (page_setPg hpl _).trans (if_pos rfl), by simpa using hig, by dsimp only; rw [List.getElem?_set_self hig]; rfl, hgc, hoc⟩
theorem kept_mem {p m : Nat} {ms : List Nat} (h : m ∈ kept p ms) : m ∈ ms ∧ m / 4096 ≠ p := by
  unfold kept at h
  obtain ⟨h1, h2⟩ := List.mem_filter.1 h
  exact ⟨h1, by simpa [hit] using h2⟩
theorem rowKept_mem {p : Nat} {l : List Int} (h0 : ∀ x ∈ l, 0 ≤ x) {x : Int} (h : x ∈ rowKept p l) : x ∈ l ∧ (x / 4096).toNat ≠ p := by
  unfold rowKept asI at h
  obtain ⟨m, hm, rfl⟩ := List.mem_map.1 h
  obtain ⟨h1, h2⟩ := kept_mem hm
  obtain ⟨y, hy, rfl⟩ := List.mem_map.1 h1
  have := h0 y hy
  exact ⟨by rw [Int.toNat_of_nonneg this]; exact hy, by omega⟩
theorem rowKept_len (p : Nat) (l : List Int) : (rowKept p l).length ≤ l.length := by
  unfold rowKept asI
  have := kept_le p (l.map Int.toNat)
  simp at this ⊢
  exact this
theorem rowKept_nodup {p : Nat} {l : List Int} (h : l.Nodup) (h0 : ∀ x ∈ l, 0 ≤ x) : (rowKept p l).Nodup := by
  have e : rowKept p l = l.filter (fun x => !hit p x.toNat) := by
    unfold rowKept asI kept
    rw [List.filter_map, List.map_map]
    conv => rhs; rw [← List.map_id (l.filter _)]
    apply List.map_congr_left
    intro x hx
    have := h0 x (List.mem_filter.1 hx).1
    simp
    omega
  rw [e]
  exact h.filter _
theorem Wf.nonneg {π : Pi} {L : Nat} (h : Wf π L) {c : Nat} {l : List Int} (hl : π.rows[c]? = some l) : ∀ x ∈ l, 0 ≤ x := fun x hx => by
  obtain ⟨p, i, g, e, _⟩ := (h.ch c l hl).2.2 x hx
  omega
theorem Wf.clS {π : Pi} {L : Nat} (h : Wf π L) (p : Int) (hm : L + 2000 ≤ 100000000) : Wf (clS π p) (L + 2000) := by
  unfold Go.Proofs.Ytfmgncajhjkdlaa.clS
  cases hx : pageI π p with
  | none => exact h.mono (by omega) (by omega)
  | some x =>
    dsimp only
    cases hcl : x.cl with
    | true => rw [if_pos rfl]; exact h.mono (by omega) (by omega)
    | false =>
      rw [if_neg (by simp)]
      obtain ⟨q, rfl, hx2⟩ := pageI_inv hx
      rw [Int.toNat_natCast]
      have hps := h.page_some hx2
      have hoc : π.ow[q]?.getD 0 = (ownC π q : Int) + 1 := by unfold ownC; omega
      have hcr : ownC π q < π.rows.length := by rw [h.rl]; omega
      have hrow : π.rows[ownC π q]? = some (rowC π (ownC π q)) := by unfold rowC; rw [List.getElem?_eq_getElem hcr]; rfl
      generalize ownC π q = c at *
      obtain ⟨h1, h2, h3⟩ := h.ch c _ hrow
      have h0 := h.nonneg hrow
      have hR := h.setRow (Nat.le_refl _) h.lim c (rowKept q (rowC π c)) (Nat.le_trans (rowKept_len _ _) h1) (rowKept_nodup h2 h0) (fun z hz => h3 z (rowKept_mem h0 hz).1)
      refine Wf.mono (L := L) ?_ (by omega) (by omega)
      refine hR.setPg (x := x) (y := { x with cl := true }) hx2 rfl hps.2.2.2.1 ?_
      intro c' l' j hl' hj hjl _ _
      exfalso
      dsimp only at hl'
      by_cases e2 : c = c'
      · subst e2
        rw [List.getElem?_set_self hcr] at hl'
        cases hl'
        exact (rowKept_mem h0 hj).2 (by omega)
      · rw [List.getElem?_set_ne e2] at hl'
        obtain ⟨q', j', g', f1, f2, f3, _, _, f4⟩ := (h.ch c' l' hl').2.2 _ hj
        have := (h.page_some f2).2.2.2.2.2
        obtain ⟨rfl, rfl⟩ := chunk_inj (by omega) (by omega) f1
        omega
theorem Wf.mvS {π : Pi} {L : Nat} (h : Wf π L) (p c : Int) (hm : L + 2000 ≤ 100000000) : Wf (mvS π p c) (L + 2000) := by
  unfold Go.Proofs.Ytfmgncajhjkdlaa.mvS
  split
  · rename_i h0
    unfold mvE at h0
    cases hx : pageI π p with
    | none => rw [hx] at h0; simp at h0
    | some x =>
      rw [hx] at h0
      dsimp only at h0
      obtain ⟨q, rfl, hx2⟩ := pageI_inv hx
      cases hcl : x.cl with
      | false => rw [hcl] at h0; simp at h0
      | true =>
        rw [hcl, if_neg (by simp)] at h0
        split at h0
        · omega
        · rename_i hc
          obtain ⟨k, rfl⟩ := Int.eq_ofNat_of_zero_le (show 0 ≤ c by omega)
          have hk : k < π.sz.length := by omega
          rw [Int.toNat_natCast, Int.toNat_natCast]
          have hql := h.page_lt hx2
          have h1 := h.newPg hql hk (fun y hy => by rw [hx2] at hy; cases hy; exact hcl)
          have hpl : q < π.pg.length := by rw [h.pl]; exact hql
          have h2 := h1.lay (p := q) (c := k) (x := frPg π k) ((page_setPg (π := { π with ow := π.ow.set q ((k : Int) + 1) }) hpl _).trans (if_pos rfl)) rfl (by simp only [SP.setPg]; rw [List.getElem?_set_self hql]; rfl) (by omega) (fun l hrl i hi hin => by
            obtain ⟨q', j', g', f1, f2, f3, _, f5, f4⟩ := (h.ch k l hrl).2.2 _ hin
            have := (h.page_some f2).2.2.2.2.2
            have hp1 := (h.per_one hk).2
            have hi2 : i < per π k := by simpa [frPg] using hi
            obtain ⟨rfl, rfl⟩ := chunk_inj (by omega) (by omega) f1
            rw [hx2] at f2
            cases f2
            rw [hcl] at f5; cases f5)
          exact h2.mono (by omega) (by omega)
  · exact h.mono (by omega) (by omega)
end Go.Proofs.Ytfmgncajhjkdlaa
