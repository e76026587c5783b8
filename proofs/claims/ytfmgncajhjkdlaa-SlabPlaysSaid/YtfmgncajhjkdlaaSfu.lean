/- SlabFull: the plain law. -/
import Derived.Test.YtfmgncajhjkdlaaSgn
import Derived.Test.YtfmgncajhjkdlaaSsh
namespace Go.Proofs.Ytfmgncajhjkdlaa
open Go.RowKit Go.PlainAid
open SP
set_option linter.unusedVariables false
set_option linter.unusedSimpArgs false

/-- what an Alloc that goes well has done -/
structure AlF (π : Pi) (c p i : Nat) : Prop where
  ch : alC π c = ((p * 4096 + i : Nat) : Int)
  un : usedP π ((p * 4096 + i : Nat) : Int) = false
  used : ∀ d, usedP (alS π c) d = if d = ((p * 4096 + i : Nat) : Int) then true else usedP π d
  own : ownC (alS π c) p = c
  pg : ∃ x, (alS π c).page p = some x ∧ i < x.used.length
  sz : (alS π c).sz = π.sz
  S : (alS π c).S = π.S
  len : (alS π c).ow.length = π.ow.length
  bs : (alS π c).bs = π.bs
  cls : ∀ k, Go.Proofs.Ytfmgncajhjkdlaa.cls (alS π c) k = Go.Proofs.Ytfmgncajhjkdlaa.cls π k + (if (c : Int) = k then 1 else 0)
  oth : ∀ q x, π.page q = some x → ownC (alS π c) q = ownC π q
theorem alOk_bound {π : Pi} {c : Int} (h : alOk π c = 0) : 0 ≤ c ∧ c < (π.sz.length : Int) := by
  unfold alOk at h
  split at h
  · omega
  · rename_i h1; simpa using h1
theorem alF_of {π : Pi} {L : Nat} (h : Wf π L) (hm : L + 2000 ≤ 100000000) {c : Nat} (hok : alOk π c = 0) : ∃ p i, AlF π c p i := by
  have hcb := alOk_bound hok
  have hc : c < π.sz.length := by omega
  have hpf := h.preFacts hc (fun hr => alOk_inv hok hr)
  have hpw := h.pre hc (by omega) (fun hr => alOk_inv hok hr)
  have hS : alS π c = popP (preP π c) c := by unfold alS; rw [if_pos hok]; rfl
  have hC : alC π c = lastC (rowC (preP π c) c) := by unfold alC; rw [if_pos hok]; rfl
  generalize preP π c = π1 at *
  obtain ⟨p, i, g, hp⟩ := hpw.1.popped (by rw [hpf.sz]; exact hc) hpw.2
  have hps := hpw.1.page_some hp.pg
  have hpl := hpw.1.page_lt hp.pg
  have hi4 : i < 4096 := by have := hp.lt; omega
  have hgl : p < π1.pg.length := by rw [hpw.1.pl]; exact hpl
  have hun : usedP π1 ((p * 4096 + i : Nat) : Int) = false := by rw [usedP_at _ p i hi4, hp.pg]; simp [hp.un]
  have hpage : ∀ q, (popP π1 c).page q = if q = p then some { g with used := g.used.set i true, n := g.n + 1 } else π1.page q := fun q => by
    rw [hp.pop]; exact page_setPg (π := { π1 with rows := π1.rows.set c (rowC π1 c).dropLast }) hgl q
  refine ⟨p, i, by rw [hC, hp.ch], by rw [← hpf.used]; exact hun, fun d => ?_, ?_, ?_, ?_, ?_, ?_, ?_, fun k => ?_, fun q x hx => ?_⟩
  · rw [hS, hp.pop, usedP_set (π := { π1 with rows := π1.rows.set c (rowC π1 c).dropLast }) hgl hp.pg]
    by_cases e : d = ((p * 4096 + i : Nat) : Int)
    · rw [if_pos ⟨e, hp.lt, hi4⟩, if_pos e]
    · rw [if_neg (fun hh => e hh.1), if_neg e]
      exact hpf.used d
  · rw [hS, hp.pop]
    exact hp.ow
  · rw [hS]
    exact ⟨_, by rw [hpage, if_pos rfl], by simpa using hp.lt⟩
  · rw [hS, hp.pop]; exact hpf.sz
  · rw [hS, hp.pop]; exact hpf.S
  · rw [hS, hp.pop]; exact hpf.len
  · rw [hS, hp.pop]; exact hpf.bs
  · rw [hS, hp.pop, ← hpf.cls k]
    have hR : Wf { π1 with rows := π1.rows.set c (rowC π1 c).dropLast } (L + 1025) := by
      have hcr : c < π1.rows.length := by rw [hpw.1.rl, hpf.sz]; exact hc
      have hrow : π1.rows[c]? = some (rowC π1 c) := by unfold rowC; rw [List.getElem?_eq_getElem hcr]; rfl
      obtain ⟨hl, hnd, hx⟩ := hpw.1.ch c _ hrow
      exact hpw.1.setRow (Nat.le_refl _) hpw.1.lim c _ (by simp; omega) (List.Nodup.sublist (List.dropLast_sublist _) hnd) (fun x hxm => hx x (List.dropLast_subset _ hxm))
    rw [cls_setPg hR (show ({ π1 with rows := π1.rows.set c (rowC π1 c).dropLast } : Pi).page p = some g from hp.pg)]
    rw [show ownC { π1 with rows := π1.rows.set c (rowC π1 c).dropLast } p = c from hp.ow]
    rw [show (g.n + 1 - g.n : Int) = 1 by omega]
    rfl
  · rw [hS, hp.pop]
    exact (hpf.own q x hx).1

/-! so many chunks -/
def zeros (ow : List Int) : Nat := ow.countP (fun x => x == 0)
def room (π : Pi) (N : Nat) : Nat := zeros π.ow * N + (rowC π 0).length
structure FuI (P z j L : Nat) (π : Pi) : Prop where
  wf : Wf π L
  sz : π.sz = [(z : Int)]
  S : π.S = 512
  len : π.ow.length = P
  room : room π (512 / z) + j = P * (512 / z)
  cls : cls π 0 = j
theorem zeros_set {ow : List Int} {q : Nat} (hq : q < ow.length) (h0 : ow[q]?.getD 0 = 0) (v : Int) (hv : v ≠ 0) : zeros (ow.set q v) + 1 = zeros ow := by
  unfold zeros
  have e : ow[q] = 0 := by rw [List.getElem?_eq_getElem hq] at h0; exact h0
  have h1 := List.countP_set (p := fun x : Int => x == 0) (l := ow) (a := v) hq
  have h2 : 0 < ow.countP (fun x => x == 0) := List.countP_pos_iff.2 ⟨ow[q], List.getElem_mem hq, by simp [e]⟩
  simp [e, hv] at h1
  omega
theorem zeros_pos {ow : List Int} (h : AP.least ow < ow.length) : 0 < zeros ow := List.countP_pos_iff.2 ⟨0, by
  have := AP.least_zero h
  rw [List.getElem?_eq_getElem h] at this
  have h2 := List.getElem_mem h
  simp at this
  rw [this] at h2
  exact h2, by simp⟩
theorem zeros_none {ow : List Int} (h : ¬ AP.least ow < ow.length) : zeros ow = 0 := by
  unfold zeros
  rw [List.countP_eq_zero]
  intro x hx
  simp
  intro e
  subst e
  apply h
  unfold AP.least
  rw [List.findIdx_lt_length]
  exact ⟨0, hx, by simp⟩
theorem layL_rep (p r : Nat) : (layL p (List.replicate r false)).length = r := by
  have key : ∀ k, k ≤ r → (psh p (bwd (List.replicate r false) k)).length = k := by
    intro k
    induction k with
    | zero => intro _; rfl
    | succ k ih =>
      intro hk
      rw [bwd_succ, psh_snoc, List.length_append, ih (by omega)]
      rw [show (List.replicate r false)[(List.replicate r false).length - 1 - k]?.getD false = false by
        rw [List.getElem?_replicate]; split <;> rfl]
      rfl
  unfold layL
  rw [List.length_replicate]
  exact key r (Nat.le_refl _)
theorem fuI_init {P z : Nat} (hP : 1 ≤ P ∧ P ≤ 5) (hz : 64 ≤ z ∧ z ≤ 512) : FuI P z 0 0 (madeP P 512 [(z : Int)]) := by
  have hs : Szs 512 [(z : Int)] := ⟨by simp, by simp; omega, by simp; omega, fun i hi => by simp at hi⟩
  have hr : AP.Rng (List.replicate P 0) := fun x hx => by have := List.eq_of_mem_replicate hx; omega
  refine ⟨newP_wf hs hr (granted_rep P) (by simp; omega) (by omega), rfl, rfl, by simp [madeP, newP], ?_, ?_⟩
  · have h1 : zeros (List.replicate P (0 : Int)) = P := by
      unfold zeros
      induction P with
      | zero => rfl
      | succ n ih => rw [List.replicate_succ, List.countP_cons]; simp [List.countP_replicate]
    show zeros (List.replicate P (0 : Int)) * (512 / z) + (([[]] : List (List Int))[0]?.getD []).length + 0 = _
    rw [h1]; rfl
  · rw [cls_eq]
    have : ∀ q, pn (madeP P 512 [(z : Int)]) 0 q = 0 := fun q => by
      unfold pn nOf
      rw [show (madeP P 512 [(z : Int)]).page (q : Int).toNat = none from newP_page _ _ _ _ _]
      simp
    have e : (List.range (madeP P 512 [(z : Int)]).ow.length).map (pn (madeP P 512 [(z : Int)]) 0) = (List.range (madeP P 512 [(z : Int)]).ow.length).map (fun _ => 0) := List.map_congr_left (fun q _ => this q)
    rw [e]
    have : ∀ n, ((List.range n).map (fun _ => (0 : Int))).sum = 0 := fun n => by
      induction n with
      | zero => rfl
      | succ n ih => rw [List.range_succ, List.map_append, List.sum_append, ih]; rfl
    rw [this]; rfl
theorem fuN1 {z : Nat} (hz : 64 ≤ z ∧ z ≤ 512) : 1 ≤ 512 / z ∧ 512 / z ≤ 8 := ⟨(Nat.le_div_iff_mul_le (by omega)).2 (by omega), Nat.le_trans (Nat.div_le_div_left (c := 64) hz.1 (by omega)) (by omega)⟩
theorem fuI_ok {P z j L : Nat} {π : Pi} (h : FuI P z j L π) (hj : j < P * (512 / z)) : alOk π (0 : Nat) = 0 := by
  refine alOk_zero (by rw [h.sz]; simp) (fun hr => ?_)
  by_cases hl : AP.least π.ow < π.ow.length
  · exact hl
  · exfalso
    have h1 := h.room
    unfold Go.Proofs.Ytfmgncajhjkdlaa.room at h1
    rw [zeros_none hl, show rowC π 0 = [] from hr] at h1
    simp at h1
    omega
theorem fuI_step {P z j L : Nat} {π : Pi} (h : FuI P z j L π) (hz : 64 ≤ z ∧ z ≤ 512) (hj : j < P * (512 / z)) (hm : L + 2000 ≤ 100000000) : FuI P z (j + 1) (L + 2000) (alS π (0 : Nat)) := by
  have hok := fuI_ok h hj
  obtain ⟨p, i, hf⟩ := alF_of h.wf hm hok
  refine ⟨h.wf.alS _ hm, hf.sz.trans h.sz, hf.S.trans h.S, hf.len.trans h.len, ?_, by rw [hf.cls, h.cls]; simp⟩
  have hc : 0 < π.sz.length := by rw [h.sz]; simp
  have hpf := h.wf.preFacts hc (fun hr => alOk_inv (c := ((0 : Nat) : Int)) hok hr)
  have hpw := h.wf.pre hc (by omega) (fun hr => alOk_inv (c := ((0 : Nat) : Int)) hok hr)
  have hS : alS π (0 : Nat) = popP (preP π 0) 0 := by unfold alS; rw [if_pos hok]; rfl
  have hroom : room (preP π 0) (512 / z) = room π (512 / z) := by
    unfold preP
    by_cases hr : rowC π 0 = []
    · rw [if_pos hr]
      have hl := alOk_inv (c := ((0 : Nat) : Int)) hok hr
      have h0 := AP.least_zero hl
      unfold Go.Proofs.Ytfmgncajhjkdlaa.room
      rw [freshP_row (by rw [h.wf.rl]; exact hc), show rowC { π with ow := π.ow.set (AP.least π.ow) (((0 : Nat) : Int) + 1) } 0 = rowC π 0 from rfl, hr, List.nil_append, layL_rep]
      have h2 := zeros_set hl h0 (((0 : Nat) : Int) + 1) (by omega)
      show zeros (π.ow.set (AP.least π.ow) (((0 : Nat) : Int) + 1)) * (512 / z) + per _ 0 = zeros π.ow * (512 / z) + 0
      rw [← h2, show per { π with ow := π.ow.set (AP.least π.ow) (((0 : Nat) : Int) + 1) } 0 = 512 / z by unfold per; rw [show ({ π with ow := π.ow.set (AP.least π.ow) (((0 : Nat) : Int) + 1) } : Pi).sz = [(z : Int)] from h.sz, show ({ π with ow := π.ow.set (AP.least π.ow) (((0 : Nat) : Int) + 1) } : Pi).S = 512 from h.S]; simp, Nat.add_mul]
      omega
    · rw [if_neg hr]
  have hpop : room (popP (preP π 0) 0) (512 / z) + 1 = room (preP π 0) (512 / z) := by
    generalize preP π 0 = π1 at *
    obtain ⟨p', i', g', hp⟩ := hpw.1.popped (by rw [hpf.sz]; exact hc) hpw.2
    unfold Go.Proofs.Ytfmgncajhjkdlaa.room
    rw [hp.pop]
    have hcr : 0 < π1.rows.length := by rw [hpw.1.rl, hpf.sz]; exact hc
    have e : rowC (SP.setPg { π1 with rows := π1.rows.set 0 (rowC π1 0).dropLast } p' { g' with used := g'.used.set i' true, n := g'.n + 1 }) 0 = (rowC π1 0).dropLast := by
      show ((π1.rows.set 0 (rowC π1 0).dropLast)[0]?.getD []) = _
      rw [List.getElem?_set_self hcr]; rfl
    rw [e, List.length_dropLast]
    have := List.length_pos_iff.2 hpw.2
    show zeros π1.ow * _ + _ + 1 = _
    omega
  have hrm := h.room
  rw [hS]
  omega
theorem fuI_full {P z L : Nat} {π : Pi} (h : FuI P z (P * (512 / z)) L π) (hz : 64 ≤ z ∧ z ≤ 512) : alC π 0 = -1 ∧ alOk π 0 = 5 ∧ alS π 0 = π ∧ coP π 0 = P ∧ coU π 0 = (P * (512 / z) : Nat) ∧ coF π 0 = 0 := by
  have hr := h.room
  have hN := fuN1 hz
  have h0 : room π (512 / z) = 0 := by omega
  unfold Go.Proofs.Ytfmgncajhjkdlaa.room at h0
  have hrow : rowC π 0 = [] := List.length_eq_zero_iff.1 (by omega)
  have hzo : zeros π.ow = 0 := by
    rcases Nat.eq_zero_or_pos (zeros π.ow) with e | e
    · exact e
    · have := Nat.mul_le_mul e hN.1; omega
  have hl : ¬ AP.least π.ow < π.ow.length := fun hl => by have := zeros_pos hl; omega
  have hc : 0 ≤ (0 : Int) ∧ (0 : Int) < (π.sz.length : Int) := by rw [h.sz]; simp
  have hok : alOk π 0 = 5 := by unfold alOk; rw [if_neg (fun hh => hh hc), if_pos ⟨hrow, hl⟩]
  have hisC : isC π 0 := hc
  refine ⟨by unfold alC; rw [hok]; rfl, hok, by unfold alS; rw [hok]; rfl, ?_, ?_, ?_⟩
  · unfold coP
    rw [if_pos hisC]
    have hall : ∀ q, q < π.ow.length → π.ow[q]?.getD 0 = 1 := fun q hq => by
      have h1 : π.ow[q]?.getD 0 ≠ 0 := fun e => by
        unfold zeros at hzo
        rw [List.countP_eq_zero] at hzo
        have := hzo _ (List.getElem_mem hq)
        rw [List.getElem?_eq_getElem hq] at e
        simp at e this
        exact this e
      rcases h.wf.pg q hq with ⟨_, h2⟩ | ⟨x, _, h2, h3, _⟩
      · exact absurd h2 h1
      · rw [h.sz] at h3
        simp at h3
        omega
    unfold AP.pages
    rw [List.length_map, List.filter_eq_self.2 (fun q hq => by
      have := hall q (List.mem_range.1 hq)
      simp [this]), List.length_range, h.len]
  · unfold coU
    rw [if_pos hisC]
    exact h.cls
  · unfold coF
    rw [if_pos hisC]
    show ((rowC π 0).length : Int) = 0
    rw [hrow]; rfl
end Go.Proofs.Ytfmgncajhjkdlaa
