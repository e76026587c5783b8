/- SlabApart: the plain law. -/
import Derived.Test.YtfmgncajhjkdlaaSfu
import Derived.Test.YtfmgncajhjkdlaaSpt
namespace Go.Proofs.Ytfmgncajhjkdlaa
open Go.RowKit Go.PlainAid
open SP
set_option linter.unusedVariables false
set_option linter.unusedSimpArgs false

theorem Wf.bs {π : Pi} {L : Nat} (h : Wf π L) (bs' : List Int) : Wf { π with bs := bs' } L := ⟨h.np1, h.rng, h.siz, h.k1, h.sz, h.rl, h.pl, h.pg, h.ch, h.lim⟩
/-- what a Free that goes well has done -/
structure FrF (π : Pi) (ch : Int) : Prop where
  ok : frE π ch = 0
  used : ∀ d, usedP (frS π ch) d = if d = ch then false else usedP π d
  sz : (frS π ch).sz = π.sz
  S : (frS π ch).S = π.S
  ow : (frS π ch).ow = π.ow
  bs : (frS π ch).bs = π.bs
  cls : ∀ k p, (ch / 4096).toNat = p → Go.Proofs.Ytfmgncajhjkdlaa.cls (frS π ch) k = Go.Proofs.Ytfmgncajhjkdlaa.cls π k + (if (ownC π p : Int) = k then -1 else 0)
theorem frF_of {π : Pi} {L : Nat} (h : Wf π L) {ch : Int} (hu : usedP π ch = true) : FrF π ch := by
  obtain ⟨p, i, g, hchp, hi4, hpg, hig, hgu⟩ := usedP_inv hu
  have hps := h.page_some hpg
  have e1 : (ch / 4096).toNat = p := by omega
  have e2 : (ch % 4096).toNat = i := by omega
  have hpl : p < π.pg.length := by rw [h.pl]; exact h.page_lt hpg
  have hmk : SP.mark π ch false (-1) = SP.setPg π p { g with used := g.used.set i false, n := g.n - 1 } := by
    unfold SP.mark
    rw [e1, e2, hpg]; rfl
  have hst : ∃ r, frS π ch = { SP.setPg π p { g with used := g.used.set i false, n := g.n - 1 } with rows := r } := by
    unfold frS
    rw [hu, if_pos rfl, hmk]
    split
    · exact ⟨_, rfl⟩
    · exact ⟨_, rfl⟩
  obtain ⟨r, hr⟩ := hst
  refine ⟨by unfold frE; rw [hu]; rfl, fun d => ?_, by rw [hr]; rfl, by rw [hr]; rfl, by rw [hr]; rfl, by rw [hr]; rfl, fun k q hq => ?_⟩
  · rw [hr]
    show usedP (SP.setPg π p { g with used := g.used.set i false, n := g.n - 1 }) d = _
    rw [usedP_set hpl hpg]
    by_cases e : d = ch
    · rw [if_pos ⟨e.trans hchp, hig, hi4⟩, if_pos e]
    · rw [if_neg (fun hh => e (hh.1.trans hchp.symm)), if_neg e]
  · rw [hr]
    show Go.Proofs.Ytfmgncajhjkdlaa.cls (SP.setPg π p { g with used := g.used.set i false, n := g.n - 1 }) k = _
    rw [cls_setPg h hpg]
    have : q = p := by omega
    subst this
    rw [show ((g.n - 1 : Int) - g.n) = -1 by omega]

/-! what lies in a chunk -/
def zOf (π : Pi) (c : Nat) : Nat := (szP π (c / 4096)).toNat
def off (π : Pi) (c : Nat) : Nat := (c / 4096) * π.S + (c % 4096) * zOf π c
def conts (π : Pi) (c : Nat) (m : Int) : Prop := ∀ (t : Nat), t < zOf π c → π.bs[off π c + t]?.getD 0 = m
theorem fits_nat {π : Pi} {L : Nat} (h : Wf π L) {c : Nat} (hu : usedP π (c : Int) = true) : whP π c = ((c / 4096 : Nat) : Int) ∧ whA π c = (((c % 4096) * zOf π c : Nat) : Int) ∧ whS π c = (zOf π c : Int) ∧ c / 4096 < π.ow.length ∧ 0 ≤ AP.owner π.ow ((c / 4096 : Nat) : Int) ∧ (c % 4096) * zOf π c + zOf π c ≤ π.S ∧ 64 ≤ zOf π c ∧ ∃ x, π.page (c / 4096) = some x := by
  obtain ⟨p, i, hch, h1, h2, h3, h4, h5, h6, h7, x, hx, hi⟩ := fits_of h hu
  have hps := h.page_some hx
  have e1 : c / 4096 = p := by omega
  have e2 : c % 4096 = i := by omega
  have hz : ((szP π p).toNat : Int) = szP π p := Int.toNat_of_nonneg (by omega)
  have hm : ((i * (szP π p).toNat : Nat) : Int) = (i : Int) * szP π p := by rw [Int.natCast_mul, hz]
  unfold zOf
  rw [e1, e2]
  refine ⟨h1, by rw [h2, hm], by rw [h3, hz], h4, h5, ?_, by omega, x, hx⟩
  omega
theorem off_fit {π : Pi} {L : Nat} (h : Wf π L) {c : Nat} (hu : usedP π (c : Int) = true) : off π c + zOf π c ≤ (c / 4096 + 1) * π.S ∧ (c / 4096) * π.S ≤ off π c := by
  have h1 := (fits_nat h hu).2.2.2.2.2.1
  unfold off
  rw [Nat.add_mul, Nat.one_mul]
  omega
theorem off_apart {π : Pi} {L : Nat} (h : Wf π L) {c d : Nat} (hc : usedP π (c : Int) = true) (hd : usedP π (d : Int) = true) (hne : c ≠ d) : off π c + zOf π c ≤ off π d ∨ off π d + zOf π d ≤ off π c := by
  have h1 := off_fit h hc
  have h2 := off_fit h hd
  by_cases e : c / 4096 = d / 4096
  · have ez : zOf π c = zOf π d := by unfold zOf; rw [e]
    have e2 : c % 4096 ≠ d % 4096 := fun e3 => hne (by omega)
    unfold off
    rw [ez, e]
    rcases Nat.lt_or_gt_of_ne e2 with h3 | h3
    · left
      have := Nat.mul_le_mul_right (zOf π d) (show c % 4096 + 1 ≤ d % 4096 by omega)
      rw [Nat.add_mul, Nat.one_mul] at this
      omega
    · right
      have := Nat.mul_le_mul_right (zOf π d) (show d % 4096 + 1 ≤ c % 4096 by omega)
      rw [Nat.add_mul, Nat.one_mul] at this
      omega
  · rcases Nat.lt_or_gt_of_ne e with h3 | h3
    · left
      have := Nat.mul_le_mul_right π.S (show c / 4096 + 1 ≤ d / 4096 by omega)
      omega
    · right
      have := Nat.mul_le_mul_right π.S (show d / 4096 + 1 ≤ c / 4096 by omega)
      omega
theorem ext_at (bs : List Int) (M k : Nat) : (AP.ext bs M)[k]?.getD 0 = bs[k]?.getD 0 := by
  unfold AP.ext
  by_cases h : k < bs.length
  · rw [List.getElem?_append_left h]
  · rw [List.getElem?_append_right (by omega), List.getElem?_replicate, List.getElem?_eq_none (by omega)]
    split <;> rfl
theorem by_zero {π : Pi} {L : Nat} (h : Wf π L) {c n : Nat} (hu : usedP π (c : Int) = true) (hn : n ≤ zOf π c) : AP.byE π.ow π.S (whP π c) (whA π c) n = 0 := by
  obtain ⟨h1, h2, h3, h4, h5, h6, h7, _⟩ := fits_nat h hu
  unfold AP.byE
  rw [h1, h2, if_neg (by omega), if_neg (by omega)]
theorem pt_facts {π : Pi} {L : Nat} (h : Wf π L) {c : Nat} (hu : usedP π (c : Int) = true) (l : List Int) (hl : l.length = zOf π c) :
    ptOk π c l.length = 0 ∧ (∀ (k : Nat), (ptS π c l).bs[k]?.getD 0 = if off π c ≤ k ∧ k < off π c + zOf π c then l[k - off π c]?.getD 0 else π.bs[k]?.getD 0) ∧ ptS π c l = { π with bs := (ptS π c l).bs } ∧ ((ptS π c l).bs.length ≤ max π.bs.length (π.ow.length * π.S)) := by
  obtain ⟨h1, h2, h3, h4, h5, h6, h7, _⟩ := fits_nat h hu
  have hok : ptOk π c l.length = 0 := by
    unfold ptOk
    rw [if_neg (by rw [hu]; simp), h3, if_neg (by omega)]
  have hby := by_zero h hu (Nat.le_of_eq hl)
  have hS : ptS π c l = { π with bs := AP.splice (AP.byB π.bs π.S (whP π c)) ((c / 4096) * π.S + (c % 4096) * zOf π c) l } := by
    unfold ptS AP.wrB
    rw [hok, if_pos rfl, hby, if_pos rfl, h1, h2]
    rfl
  have hfit := off_fit h hu
  have hlen : (AP.byB π.bs π.S (whP π c)).length = max π.bs.length ((c / 4096 + 1) * π.S) := by
    unfold AP.byB
    rw [h1, AP.ext_len]; rfl
  have hin : off π c + l.length ≤ (AP.byB π.bs π.S (whP π c)).length := by rw [hlen, hl]; omega
  refine ⟨hok, fun k => ?_, by rw [hS], ?_⟩
  · rw [hS]
    show (AP.splice (AP.byB π.bs π.S (whP π c)) (off π c) l)[k]?.getD 0 = _
    rw [AP.splice_at hin, hl]
    by_cases hk : off π c ≤ k ∧ k < off π c + zOf π c
    · rw [if_pos hk, if_pos hk]
    · rw [if_neg hk, if_neg hk]
      exact ext_at _ _ _
  · rw [hS]
    show (AP.splice (AP.byB π.bs π.S (whP π c)) (off π c) l).length ≤ _
    rw [AP.splice_len hin, hlen]
    have := Nat.mul_le_mul_right π.S (show c / 4096 + 1 ≤ π.ow.length by omega)
    omega
theorem gt_facts {π : Pi} {L : Nat} (h : Wf π L) {c : Nat} (hu : usedP π (c : Int) = true) :
    gtOk π c (zOf π c) = 0 ∧ gtS π c (zOf π c) = { π with bs := (gtS π c (zOf π c)).bs } ∧ (∀ (k : Nat), (gtS π c (zOf π c)).bs[k]?.getD 0 = π.bs[k]?.getD 0) ∧ ((gtS π c (zOf π c)).bs.length ≤ max π.bs.length (π.ow.length * π.S)) ∧ (gtL π c (zOf π c)).length = zOf π c ∧ (∀ (t : Nat), t < zOf π c → (gtL π c (zOf π c))[t]?.getD 0 = π.bs[off π c + t]?.getD 0) := by
  obtain ⟨h1, h2, h3, h4, h5, h6, h7, _⟩ := fits_nat h hu
  have hok : gtOk π c (zOf π c) = 0 := by
    unfold gtOk
    rw [if_neg (by rw [hu]; simp), h3, if_neg (by omega)]
  have hby := by_zero h hu (Nat.le_refl _)
  have hS : gtS π c (zOf π c) = { π with bs := AP.byB π.bs π.S (whP π c) } := by
    unfold gtS AP.rdB
    rw [hok, if_pos rfl, hby, if_pos rfl]
  have hL : gtL π c (zOf π c) = ((AP.byB π.bs π.S (whP π c)).drop (off π c)).take (zOf π c) := by
    unfold gtL AP.rdL
    rw [hok, if_pos rfl, hby, if_pos rfl, h1, h2]
    rfl
  have hfit := off_fit h hu
  have hlen : (AP.byB π.bs π.S (whP π c)).length = max π.bs.length ((c / 4096 + 1) * π.S) := by
    unfold AP.byB
    rw [h1, AP.ext_len]; rfl
  refine ⟨hok, by rw [hS], fun k => by rw [hS]; exact ext_at _ _ _, ?_, ?_, fun t ht => ?_⟩
  · rw [hS]
    show (AP.byB π.bs π.S (whP π c)).length ≤ _
    rw [hlen]
    have := Nat.mul_le_mul_right π.S (show c / 4096 + 1 ≤ π.ow.length by omega)
    omega
  · rw [hL, List.length_take, List.length_drop, hlen]
    omega
  · rw [hL, List.getElem?_take, if_pos ht, List.getElem?_drop]
    exact ext_at _ _ _

/-! the chunks that are held -/
structure ApI (π : Pi) (hs : List Nat) (ms : List Int) : Prop where
  nd : hs.Nodup
  ln : hs.length = ms.length
  us : ∀ c ∈ hs, usedP π (c : Int) = true
  ct : ∀ (k : Nat), k < hs.length → conts π (hs[k]?.getD 0) (ms[k]?.getD 0)
  bl : π.bs.length ≤ π.ow.length * π.S
theorem mem_at {hs : List Nat} {k : Nat} (h : k < hs.length) : hs[k]?.getD 0 ∈ hs := by
  rw [List.getElem?_eq_getElem h]; exact List.getElem_mem h
theorem ApI.alloc {π : Pi} {L : Nat} {hs : List Nat} {ms : List Int} (h : ApI π hs ms) (hw : Wf π L) {c p i : Nat} (hf : AlF π c p i) : ApI (alS π c) hs ms ∧ (p * 4096 + i) ∉ hs := by
  have hz : ∀ d : Nat, usedP π (d : Int) = true → zOf (alS π c) d = zOf π d := fun d hd => by
    obtain ⟨x, hx⟩ := (fits_nat hw hd).2.2.2.2.2.2.2
    unfold zOf szP
    rw [hf.oth _ x hx, hf.sz]
  refine ⟨⟨h.nd, h.ln, fun d hd => ?_, fun k hk => ?_, by rw [hf.bs, hf.len, hf.S]; exact h.bl⟩, fun hm => ?_⟩
  · rw [hf.used]
    split
    · rfl
    · exact h.us d hd
  · have hu := h.us _ (mem_at hk)
    have e1 := hz _ hu
    have e2 : off (alS π c) (hs[k]?.getD 0) = off π (hs[k]?.getD 0) := by unfold off; rw [e1, hf.S]
    intro t ht
    rw [hf.bs, e2]
    rw [e1] at ht
    exact h.ct k hk t ht
  · have := h.us _ hm
    rw [hf.un] at this; cases this
theorem zOf_bs (π : Pi) (bs' : List Int) (c : Nat) : zOf { π with bs := bs' } c = zOf π c := rfl
theorem usedP_bs (π : Pi) (bs' : List Int) (d : Int) : usedP { π with bs := bs' } d = usedP π d := rfl
theorem ApI.put {π : Pi} {L : Nat} {hs : List Nat} {ms : List Int} (h : ApI π hs ms) (hw : Wf π L) {d : Nat} (hd : usedP π (d : Int) = true) (hn : d ∉ hs) (m : Int) : ApI (ptS π d (List.replicate (zOf π d) m)) (hs ++ [d]) (ms ++ [m]) := by
  obtain ⟨h1, h2, h3, h4⟩ := pt_facts hw hd (List.replicate (zOf π d) m) (by simp)
  generalize (ptS π d (List.replicate (zOf π d) m)).bs = bs' at *
  rw [h3]
  refine ⟨?_, by simp [h.ln], fun c hc => ?_, fun k hk => ?_, by show bs'.length ≤ π.ow.length * π.S; have := h.bl; omega⟩
  · rw [List.nodup_append]
    exact ⟨h.nd, by simp, fun x hx y hy e => hn (by rw [← (show y = d by simpa using hy), ← e]; exact hx)⟩
  · rw [usedP_bs]
    rcases List.mem_append.1 hc with h5 | h5
    · exact h.us c h5
    · rw [show c = d by simpa using h5]; exact hd
  · by_cases hk2 : k < hs.length
    · rw [List.getElem?_append_left hk2, List.getElem?_append_left (by rw [← h.ln]; exact hk2)]
      have hu := h.us _ (mem_at hk2)
      have hne : hs[k]?.getD 0 ≠ d := fun e => hn (e ▸ mem_at hk2)
      intro t ht
      show bs'[off π (hs[k]?.getD 0) + t]?.getD 0 = _
      rw [h2, if_neg (by have := off_apart hw hu hd hne; have ht' : t < zOf π (hs[k]?.getD 0) := ht; omega)]
      exact h.ct k hk2 t ht
    · have e : k = hs.length := by simp at hk; omega
      subst e
      rw [List.getElem?_append_right (Nat.le_refl _), Nat.sub_self, h.ln, List.getElem?_append_right (Nat.le_refl _), Nat.sub_self]
      intro t ht
      show bs'[off π d + t]?.getD 0 = m
      have ht' : t < zOf π d := ht
      rw [h2, if_pos ⟨by omega, by omega⟩, show off π d + t - off π d = t by omega, List.getElem?_replicate, if_pos ht']
      rfl
theorem erase_at {α : Type} (l : List α) (k j : Nat) (hk : k < l.length) : (l.take k ++ l.drop (k + 1))[j]? = if j < k then l[j]? else l[j + 1]? := by
  by_cases h : j < k
  · rw [if_pos h, List.getElem?_append_left (by simp; omega), List.getElem?_take, if_pos h]
  · rw [if_neg h, List.getElem?_append_right (by simp; omega), List.getElem?_drop]
    congr 1
    simp
    omega
theorem ApI.free {π : Pi} {L : Nat} {hs : List Nat} {ms : List Int} (h : ApI π hs ms) (hw : Wf π L) {k : Nat} (hk : k < hs.length) : ApI (frS π ((hs[k]?.getD 0 : Nat) : Int)) (hs.take k ++ hs.drop (k + 1)) (ms.take k ++ ms.drop (k + 1)) := by
  have hf := frF_of hw (h.us _ (mem_at hk))
  have hz : ∀ d, zOf (frS π ((hs[k]?.getD 0 : Nat) : Int)) d = zOf π d := fun d => by
    unfold zOf szP ownC
    rw [hf.ow, hf.sz]
  have ho : ∀ d, off (frS π ((hs[k]?.getD 0 : Nat) : Int)) d = off π d := fun d => by unfold off; rw [hz, hf.S]
  have hsub : List.Sublist (hs.take k ++ hs.drop (k + 1)) hs := by
    have : List.Sublist (hs.take k ++ hs.drop (k + 1)) (hs.take k ++ hs.drop k) := List.Sublist.append_left (by
      rw [← List.drop_drop]
      exact List.drop_sublist _ _) _
    rwa [List.take_append_drop] at this
  have hnot : hs[k]?.getD 0 ∉ hs.take k ++ hs.drop (k + 1) := by
    intro hm
    obtain ⟨j, hj, e⟩ := List.mem_iff_getElem.1 hm
    have e2 := List.getElem?_eq_getElem hj
    rw [e, erase_at hs k j hk] at e2
    have hnd := List.pairwise_iff_getElem.1 h.nd
    have hjl : j < (hs.take k ++ hs.drop (k + 1)).length := hj
    simp at hjl
    have e3 : hs[k]?.getD 0 = hs[k] := by rw [List.getElem?_eq_getElem hk]; rfl
    by_cases h1 : j < k
    · rw [if_pos h1, List.getElem?_eq_getElem (by omega), e3] at e2
      exact hnd j k (by omega) hk h1 (by simpa using e2)
    · rw [if_neg h1, List.getElem?_eq_getElem (by omega), e3] at e2
      exact hnd k (j + 1) hk (by omega) (by omega) (by simpa using e2.symm)
  refine ⟨h.nd.sublist hsub, by simp [h.ln], fun c hc => ?_, fun j hj => ?_, by rw [hf.bs, hf.ow, hf.S]; exact h.bl⟩
  · rw [hf.used, if_neg (fun e => hnot (by rw [← (show c = hs[k]?.getD 0 by omega)]; exact hc))]
    exact h.us c (hsub.subset hc)
  · rw [erase_at hs k j hk, erase_at ms k j (by rw [← h.ln]; exact hk)]
    have hjl : j < hs.length - 1 := by simp at hj; omega
    intro t ht
    rw [hf.bs, ho]
    rw [hz] at ht
    by_cases h1 : j < k
    · rw [if_pos h1] at ht ⊢
      rw [if_pos h1]
      exact h.ct j (by omega) t ht
    · rw [if_neg h1] at ht ⊢
      rw [if_neg h1]
      exact h.ct (j + 1) (by omega) t ht
theorem ApI.get {π : Pi} {L : Nat} {hs : List Nat} {ms : List Int} (h : ApI π hs ms) (hw : Wf π L) {d : Nat} (hd : usedP π (d : Int) = true) : ApI (gtS π d (zOf π d)) hs ms ∧ ∀ e, zOf (gtS π d (zOf π d)) e = zOf π e := by
  obtain ⟨h1, h2, h3, h4, _⟩ := gt_facts hw hd
  generalize (gtS π d (zOf π d)).bs = bs' at *
  rw [h2]
  refine ⟨⟨h.nd, h.ln, h.us, fun k hk t ht => ?_, by show bs'.length ≤ π.ow.length * π.S; have := h.bl; omega⟩, fun e => rfl⟩
  show bs'[off π (hs[k]?.getD 0) + t]?.getD 0 = _
  rw [h3]
  exact h.ct k hk t ht
theorem Wf.ptS {π : Pi} {L : Nat} (h : Wf π L) (c : Int) (l : List Int) : Wf (ptS π c l) L := by
  unfold Go.Proofs.Ytfmgncajhjkdlaa.ptS
  split
  · exact h.bs _
  · exact h
theorem Wf.gtS {π : Pi} {L : Nat} (h : Wf π L) (c n : Int) : Wf (gtS π c n) L := by
  unfold Go.Proofs.Ytfmgncajhjkdlaa.gtS
  split
  · exact h.bs _
  · exact h
end Go.Proofs.Ytfmgncajhjkdlaa
