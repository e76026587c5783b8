/- several texts in one: Qsm, Qso, Qsp, Qgp, Qtw, Qct. -/
import Derived.Test.YtfmgncajhjkdlaaVd
import Derived.Test.YtfmgncajhjkdlaaVc
import Derived.Test.YtfmgncajhjkdlaaSgn
import Derived.Test.YtfmgncajhjkdlaaSpt
import Derived.Test.YtfmgncajhjkdlaaSap
import Derived.Laws.BytesArg
import Derived.BigQuiet
/- what the document's slab and the slab have in common. -/
namespace Go.Proofs.Ytfmgncajhjkdlaa.R7
open Go.RowKit Go.PlainAid
open SP
set_option linter.unusedVariables false
set_option linter.unusedSimpArgs false

structure Sim (π : Pi) (ρ : Rp) (L : Nat) : Prop where
  S : ρ.S = π.S
  ow : ρ.ow = π.ow
  sz : ρ.sz = π.sz
  rows : ρ.rows = π.rows
  F : AP.ext π.bs (π.ow.length * π.S) = ρ.F
  bl : π.bs.length ≤ π.ow.length * π.S
  tk : ∀ x, x ∈ ρ.tk ↔ usedP π x = true
  up : ρ.tk.Pairwise (· < ·)
  cl : ∀ p : Int, p ∈ ρ.cl ↔ ∃ x, pageI π p = some x ∧ x.cl = true
  tkl : ρ.tk.length ≤ L
  cll : ρ.cl.length ≤ L
theorem Sim.mono {π : Pi} {ρ : Rp} {L L' : Nat} (h : Sim π ρ L) (hl : L ≤ L') : Sim π ρ L' := ⟨h.S, h.ow, h.sz, h.rows, h.F, h.bl, h.tk, h.up, h.cl, Nat.le_trans h.tkl hl, Nat.le_trans h.cll hl⟩

/-! lists that rise -/
theorem rise_ext : ∀ {l m : List Int}, l.Pairwise (· < ·) → m.Pairwise (· < ·) → (∀ x, x ∈ l ↔ x ∈ m) → l = m
  | [], [], _, _, _ => rfl
  | [], y :: m, _, _, h => by have := (h y).2 (by simp); cases this
  | x :: l, [], _, _, h => by have := (h x).1 (by simp); cases this
  | x :: l, y :: m, h1, h2, h => by
    rw [List.pairwise_cons] at h1 h2
    have hxy : x = y := by
      rcases List.mem_cons.1 ((h x).1 (by simp)) with e | e
      · exact e
      · rcases List.mem_cons.1 ((h y).2 (by simp)) with e2 | e2
        · exact e2.symm
        · have := h2.1 x e
          have := h1.1 y e2
          omega
    subst hxy
    rw [rise_ext h1.2 h2.2 (fun z => ⟨fun hz => by
      rcases List.mem_cons.1 ((h z).1 (List.mem_cons_of_mem _ hz)) with e | e
      · have := h1.1 z hz; omega
      · exact e, fun hz => by
      rcases List.mem_cons.1 ((h z).2 (List.mem_cons_of_mem _ hz)) with e | e
      · have := h2.1 z hz; omega
      · exact e⟩)]
theorem mem_wo {l : List Int} {n x : Int} : x ∈ wo l n ↔ x ∈ l ∧ x ≠ n := by
  unfold wo
  rw [List.mem_filter]
  simp
theorem wo_up {l : List Int} {n : Int} (h : l.Pairwise (· < ·)) : (wo l n).Pairwise (· < ·) := h.filter _
theorem wo_le (l : List Int) (n : Int) : (wo l n).length ≤ l.length := List.length_filter_le _ _
theorem mem_insI {l : List Int} {n x : Int} : x ∈ insI l n ↔ x ∈ l ∨ x = n := by
  unfold insI
  rw [List.mem_append, List.mem_cons]
  have h : x ∈ l ↔ x ∈ l.takeWhile (fun y => decide (y < n)) ∨ x ∈ l.dropWhile (fun y => decide (y < n)) := by
    rw [← List.mem_append, List.takeWhile_append_dropWhile]
  rw [h]
  constructor
  · rintro (h | h | h)
    · exact .inl (.inl h)
    · exact .inr h
    · exact .inl (.inr h)
  · rintro ((h | h) | h)
    · exact .inl h
    · exact .inr (.inr h)
    · exact .inr (.inl h)
theorem insI_len (l : List Int) (n : Int) : (insI l n).length = l.length + 1 := by
  unfold insI
  have : (l.takeWhile (fun y => decide (y < n)) ++ l.dropWhile (fun y => decide (y < n))).length = l.length := by rw [List.takeWhile_append_dropWhile]
  rw [List.length_append] at this
  rw [List.length_append, List.length_cons]
  omega
theorem insI_up : ∀ {l : List Int} {n : Int}, l.Pairwise (· < ·) → n ∉ l → (insI l n).Pairwise (· < ·)
  | [], n, _, _ => by simp [insI]
  | y :: l, n, h, hn => by
    rw [List.pairwise_cons] at h
    by_cases hy : y < n
    · have ih := insI_up h.2 (fun e => hn (List.mem_cons_of_mem _ e))
      have e : insI (y :: l) n = y :: insI l n := by
        unfold insI
        rw [List.takeWhile_cons, List.dropWhile_cons]
        simp [hy]
      rw [e, List.pairwise_cons]
      refine ⟨fun z hz => ?_, ih⟩
      rcases mem_insI.1 hz with h1 | h1
      · exact h.1 z h1
      · omega
    · have e : insI (y :: l) n = n :: y :: l := by
        unfold insI
        rw [List.takeWhile_cons, List.dropWhile_cons]
        simp [hy]
      have hny : n ≠ y := fun e => hn (by simp [e])
      rw [e, List.pairwise_cons, List.pairwise_cons]
      refine ⟨fun z hz => ?_, h⟩
      rcases List.mem_cons.1 hz with h1 | h1
      · omega
      · have := h.1 z h1; omega

/-! the slab's own words -/
section
variable {π : Pi} {ρ : Rp} {L : Nat}
theorem usedD (hw : Wf π L) {ch : Int} (h : usedP π ch = true) : ∃ (p i : Nat) (g : Pg), ch = ((p * 4096 + i : Nat) : Int) ∧ π.page p = some g ∧ i < g.used.length ∧ g.used[i]?.getD false = true ∧ p < π.ow.length ∧ i < 1024 ∧ p < 1024 := by
  obtain ⟨p, i, g, h1, h2, h3, h4, h5⟩ := usedP_inv h
  have h6 := hw.page_some h3
  have h7 := hw.page_lt h3
  have h8 := hw.np1
  exact ⟨p, i, g, h1, h3, h4, h5, h7, by omega, by omega⟩
theorem Sim.rw (h : Sim π ρ L) (hw : Wf π L) : Rw ρ L := by
  have hnp := hw.np1
  refine ⟨by rw [h.sz]; exact hw.k1, fun x hx => by rw [h.S]; exact hw.sz x (by rw [← h.sz]; exact hx), by rw [h.rows, h.sz]; exact hw.rl, fun c l hl => ?_, ⟨h.tkl, fun x hx => ?_⟩, ⟨h.cll, fun x hx => ?_⟩, fun p => ?_, hw.lim⟩
  · rw [h.rows] at hl
    have h1 := hw.ch c l hl
    refine ⟨h1.1, fun x hx => ?_⟩
    obtain ⟨p, i, g, rfl, h2, h3, _⟩ := h1.2.2 x hx
    have h6 := hw.page_some h2
    have h7 := hw.page_lt h2
    omega
  · obtain ⟨p, i, g, rfl, _, _, _, _, h1, h2⟩ := usedD hw ((h.tk x).1 hx)
    omega
  · obtain ⟨g, h1, _⟩ := (h.cl x).1 hx
    obtain ⟨q, rfl, h2⟩ := pageI_inv h1
    have h7 := hw.page_lt h2
    omega
  · rw [h.ow, h.sz]
    by_cases hp : p < π.ow.length
    · rcases hw.pg p hp with ⟨_, h1⟩ | ⟨_, _, _, h1, _⟩ <;> omega
    · rw [List.getElem?_eq_none (by omega)]
      simp
theorem perI_per (hw : Wf π L) {c : Nat} (hc : c < π.sz.length) : perI π.sz π.S c = (per π c : Nat) := by
  unfold perI per
  rw [if_pos ⟨by omega, by omega⟩, Int.toNat_natCast]
  have hx := hw.sz (π.sz[c]?.getD 0) (by rw [List.getElem?_eq_getElem hc]; exact List.getElem_mem hc)
  generalize π.sz[c]?.getD 0 = d at *
  obtain ⟨m, rfl⟩ := Int.eq_ofNat_of_zero_le (show 0 ≤ d by omega)
  rw [Int.toNat_natCast, Int.natCast_ediv]
theorem page_own (hw : Wf π L) {p : Nat} {g : Pg} (hp : π.page p = some g) : AP.owner π.ow p = ownC π p ∧ ownC π p < π.sz.length ∧ perI π.sz π.S (ownC π p) = (g.used.length : Nat) ∧ per π (ownC π p) = g.used.length ∧ p < π.ow.length ∧ p < 1024 ∧ 1 ≤ g.used.length ∧ g.used.length ≤ 1024 := by
  have h1 := hw.szP hp
  have h2 := hw.page_some hp
  have h3 := hw.page_lt hp
  have h4 := hw.np1
  have h5 : per π (ownC π p) = g.used.length := h2.2.2.1.symm
  exact ⟨h1.2.2.2, h1.2.2.1, by rw [perI_per hw h1.2.2.1, h5], h5, h3, by omega, h2.2.2.2.2.1, h2.2.2.2.2.2⟩
theorem clI_at (h : Sim π ρ L) (hw : Wf π L) {p i : Nat} {g : Pg} (hp : π.page p = some g) (hi : i < g.used.length) : clI ρ ((p * 4096 + i : Nat) : Int) = (ownC π p : Nat) := by
  obtain ⟨h1, h2, h3, _, _, _, _, h8⟩ := page_own hw hp
  unfold clI
  rw [if_neg (by omega), h.ow, h.sz, h.S, show ((p * 4096 + i : Nat) : Int) / 4096 = (p : Int) by omega, show ((p * 4096 + i : Nat) : Int) % 4096 = (i : Int) by omega, h1, h3, if_neg (by omega)]
theorem pageI_setPg {q : Nat} {y : Pg} (hq : q < π.pg.length) (p : Int) : pageI (SP.setPg π q y) p = if p = (q : Int) then some y else pageI π p := by
  unfold pageI
  by_cases h : 0 ≤ p
  · rw [if_pos h, if_pos h, page_setPg hq]
    obtain ⟨m, rfl⟩ := Int.eq_ofNat_of_zero_le h
    rw [Int.toNat_natCast]
    by_cases e : m = q
    · rw [if_pos e, if_pos (by omega)]
    · rw [if_neg e, if_neg (by omega)]
  · rw [if_neg h, if_neg h, if_neg (by omega)]
theorem pageI_nat (p : Nat) : pageI π (p : Int) = π.page p := by unfold pageI; rw [if_pos (by omega), Int.toNat_natCast]
theorem lay_eq {tk : List Int} {p : Nat} {us : List Bool} (hp : p < 1024) (hu : us.length ≤ 1024) (h : ∀ i, i < us.length → (((p * 4096 + i : Nat) : Int) ∈ tk ↔ us[i]?.getD false = true)) : layL p us = lyD tk p 0 us.length := by
  have key : ∀ k, k ≤ us.length → psh p (bwd us k) = lyD tk p (us.length - k) us.length := by
    intro k
    induction k with
    | zero => intro _; rw [Nat.sub_zero, lyD_top]; rfl
    | succ k ih =>
      intro hk
      rw [bwd_succ, psh_snoc, ih (by omega)]
      dsimp only
      have e1 : us.length - 1 - k = us.length - (k + 1) := by omega
      have e2 : us.length - k = us.length - (k + 1) + 1 := by omega
      rw [e1, e2]
      have h1 := h (us.length - (k + 1)) (by omega)
      have hlt : us.length - (k + 1) < us.length := by omega
      generalize us.length - (k + 1) = j at *
      cases hb : us[j]?.getD false with
      | true => rw [if_pos rfl, List.append_nil, lyD_no hlt (h1.2 hb)]
      | false =>
        rw [if_neg (by simp), lyD_yes hlt (fun e => by have := h1.1 e; rw [hb] at this; cases this), IntWalk.i64_in _ (by omega)]
        congr 2
  have := key us.length (Nat.le_refl _)
  rwa [Nat.sub_self] at this
theorem used_bit {p i : Nat} {g : Pg} (hp : π.page p = some g) (hi : i < g.used.length) (h4 : g.used.length ≤ 1024) : usedP π ((p * 4096 + i : Nat) : Int) = true ↔ g.used[i]?.getD false = true := by
  rw [usedP_at π p i (by omega), hp]
  dsimp only
  simp [hi]
theorem lay_page (h : Sim π ρ L) (hw : Wf π L) {p : Nat} {g : Pg} (hp : π.page p = some g) : layL p g.used = lyD ρ.tk p 0 g.used.length := by
  obtain ⟨_, _, _, _, _, h6, _, h8⟩ := page_own hw hp
  exact lay_eq h6 h8 (fun i hi => by rw [h.tk, used_bit hp hi h8])
theorem row_at (hw : Wf π L) {c : Nat} (hc : c < π.sz.length) : π.rows[c]? = some (rowC π c) := by
  unfold rowC
  rw [List.getElem?_eq_getElem (by rw [hw.rl]; exact hc)]; rfl
end
end Go.Proofs.Ytfmgncajhjkdlaa.R7
/- both slabs side by side: Free, Open, Close. -/
namespace Go.Proofs.Ytfmgncajhjkdlaa.R7
open Go.RowKit Go.PlainAid
open SP
set_option linter.unusedVariables false
set_option linter.unusedSimpArgs false

section
variable {w : World} {γ : Gk} {π : Pi} {ρ : Rp} {L : Nat}
def Nr (w : World) (γ : Gk) (ρ : Rp) (π' : Pi) (L' : Nat) (w' : World) : Prop := ∃ γ' ρ', Ms w' γ' ρ' ∧ Sim π' ρ' L' ∧ Go w γ ρ w' γ' ρ'
theorem Nr.same (h : Ms w γ ρ) (hs : Sim π ρ L) {L' : Nat} (hl : L ≤ L') : Nr w γ ρ π L' w := ⟨γ, ρ, h, hs.mono hl, Go.refl _ _ _⟩
theorem Nr.below (h : Ms w γ ρ) (hs : Sim π ρ L) {L' : Nat} (hl : L ≤ L') {w' : World} (hb : Below w.heap.size w w') : Nr w γ ρ π L' w' := ⟨γ, ρ, h.below hb, hs.mono hl, Go.of_below hb⟩
theorem Nr.drewN (h : Ms w γ ρ) (hs : Sim π ρ L) {L' : Nat} (hl : L ≤ L') (n : Nat) : Nr w γ ρ π L' (w.drewN n) := Nr.below h hs hl (below_drewN (Below.refl _ _) n)

theorem Sim.marked (h : Sim π ρ L) (hw : Wf π L) {p i : Nat} {g : Pg} (hp : π.page p = some g) (b : Bool) (m : Int) {r : List (List Int)} {l' : List Int} {L' : Nat} (hL : L ≤ L')
    (hl' : ∀ x, x ∈ l' ↔ usedP (SP.setPg π p { g with used := g.used.set i b, n := m }) x = true) (hup : l'.Pairwise (· < ·)) (hle : l'.length ≤ L') :
    Sim { SP.setPg π p { g with used := g.used.set i b, n := m } with rows := r } { ρ with tk := l', rows := r } L' := by
  have hpl : p < π.pg.length := by rw [hw.pl]; exact hw.page_lt hp
  refine ⟨h.S, h.ow, h.sz, rfl, h.F, h.bl, hl', hup, fun q => ?_, hle, Nat.le_trans h.cll hL⟩
  show q ∈ ρ.cl ↔ ∃ x, pageI (SP.setPg π p { g with used := g.used.set i b, n := m }) q = some x ∧ x.cl = true
  rw [h.cl, pageI_setPg hpl]
  by_cases e : q = (p : Int)
  · subst e
    rw [if_pos rfl, pageI_nat, hp]
    simp
  · rw [if_neg e]
theorem wo_used (h : Sim π ρ L) (hw : Wf π L) {p i : Nat} {g : Pg} (hp : π.page p = some g) (hi : i < g.used.length) (hi2 : i < 1024) (m : Int) (x : Int) : x ∈ wo ρ.tk ((p * 4096 + i : Nat) : Int) ↔ usedP (SP.setPg π p { g with used := g.used.set i false, n := m }) x = true := by
  have hpl : p < π.pg.length := by rw [hw.pl]; exact hw.page_lt hp
  rw [mem_wo, h.tk, usedP_set hpl hp]
  by_cases e : x = ((p * 4096 + i : Nat) : Int)
  · subst e
    rw [if_pos ⟨rfl, hi, by omega⟩]
    simp
  · rw [if_neg (fun hh => e hh.1)]
    exact ⟨fun hh => hh.1, fun hh => ⟨hh, e⟩⟩

theorem free_sim (h : Ms w γ ρ) (hs : Sim π ρ L) (hw : Wf π L) (ch : Int) (hm : L + 2000 ≤ 99000000) :
    Calls Try.prog 44 #[.pointer (some ⟨γ.sb, 0, none⟩), .int .i64 ch] w fun e w' => e = .returned (.int .i64 (frE π ch : Nat)) ∧ Nr w γ ρ (frS π ch) (L + 2000) w' := by
  have hr := hs.rw hw
  cases hu : usedP π ch with
  | false =>
    refine (free_no h hr ch (by rw [hs.tk, hu]; simp)).mono ?_
    rintro e w' ⟨rfl, rfl⟩
    refine ⟨by unfold frE; rw [hu]; rfl, ?_⟩
    unfold frS
    rw [hu, if_neg (by simp)]
    exact Nr.same h hs (by omega)
  | true =>
    obtain ⟨p, i, g, rfl, hp, hi, hbit, hpl, hi2, hp2⟩ := usedD hw hu
    have hmem : ((p * 4096 + i : Nat) : Int) ∈ ρ.tk := (hs.tk _).2 hu
    have q1 : ((p * 4096 + i : Nat) : Int) / 4096 = (p : Int) := by omega
    have q2 : (((p * 4096 + i : Nat) : Int) / 4096).toNat = p := by omega
    have q3 : (((p * 4096 + i : Nat) : Int) % 4096).toNat = i := by omega
    have hcl : (p : Int) ∈ ρ.cl ↔ g.cl = true := by rw [hs.cl, pageI_nat, hp]; simp
    have hcp : closedP π p = g.cl := by unfold closedP; rw [hp]
    have hmk : SP.mark π ((p * 4096 + i : Nat) : Int) false (-1) = SP.setPg π p { g with used := g.used.set i false, n := g.n + -1 } := by
      unfold SP.mark
      rw [q2, q3, hp]
    have hE : frE π ((p * 4096 + i : Nat) : Int) = 0 := by unfold frE; rw [hu]; rfl
    have hle : (wo ρ.tk ((p * 4096 + i : Nat) : Int)).length ≤ L + 2000 := Nat.le_trans (wo_le _ _) (by have := hs.tkl; omega)
    rw [hE]
    cases hc : g.cl with
    | true =>
      refine (free_cl h hr (p * 4096 + i) hmem (by rw [q1]; exact hcl.2 hc) (by omega)).mono ?_
      rintro e w' ⟨rfl, γ', hM, hG⟩
      refine ⟨rfl, γ', _, hM, ?_, hG⟩
      unfold frS
      rw [hu, if_pos rfl, q2, hcp, hc, if_pos rfl, hmk]
      have := hs.marked hw hp false (g.n + -1) (r := ρ.rows) (L' := L + 2000) (by omega) (wo_used hs hw hp hi hi2 _) (wo_up hs.up) hle
      rw [hs.rows] at this
      have e2 : tkR ρ (wo ρ.tk ((p * 4096 + i : Nat) : Int)) = { ρ with tk := wo ρ.tk ((p * 4096 + i : Nat) : Int), rows := π.rows } := by unfold tkR; rw [← hs.rows]
      rw [e2]
      exact this
    | false =>
      obtain ⟨h1, h2, _⟩ := page_own hw hp
      have hrow := row_at hw h2
      have hll := (hw.ch _ _ hrow).1
      refine (free_op h hr (p * 4096 + i) hmem (by rw [q1, hcl, hc]; simp) (by omega) (ownC π p) (clI_at hs hw hp hi) (by rw [hs.sz]; exact h2) (l := rowC π (ownC π p)) (by rw [hs.rows]; exact hrow) (by omega)).mono ?_
      rintro e w' ⟨rfl, γ', hM, hG⟩
      refine ⟨rfl, γ', _, hM, ?_, hG⟩
      unfold frS
      rw [hu, if_pos rfl, q2, hcp, hc, if_neg (by simp), hmk]
      have := hs.marked hw hp false (g.n + -1) (r := π.rows.set (ownC π p) (rowC π (ownC π p) ++ [((p * 4096 + i : Nat) : Int)])) (L' := L + 2000) (by omega) (wo_used hs hw hp hi hi2 _) (wo_up hs.up) hle
      have e2 : rowR (tkR ρ (wo ρ.tk ((p * 4096 + i : Nat) : Int))) (ownC π p) (rowC π (ownC π p) ++ [((p * 4096 + i : Nat) : Int)]) = { ρ with tk := wo ρ.tk ((p * 4096 + i : Nat) : Int), rows := π.rows.set (ownC π p) (rowC π (ownC π p) ++ [((p * 4096 + i : Nat) : Int)]) } := by unfold rowR tkR; rw [← hs.rows]
      rw [e2]
      exact this

/-- a page opened or closed, rows anew -/
theorem Sim.shut (h : Sim π ρ L) (hw : Wf π L) {p : Nat} {g : Pg} (hp : π.page p = some g) (b : Bool) {r : List (List Int)} {l' : List Int} {L' : Nat} (hL : L ≤ L')
    (hl' : ∀ q : Int, q ∈ l' ↔ if q = (p : Int) then b = true else q ∈ ρ.cl) (hle : l'.length ≤ L') :
    Sim { SP.setPg π p { g with cl := b } with rows := r } { ρ with cl := l', rows := r } L' := by
  have hpl : p < π.pg.length := by rw [hw.pl]; exact hw.page_lt hp
  refine ⟨h.S, h.ow, h.sz, rfl, h.F, h.bl, fun x => ?_, h.up, fun q => ?_, Nat.le_trans h.tkl hL, hle⟩
  · show x ∈ ρ.tk ↔ usedP (SP.setPg π p { g with cl := b }) x = true
    rw [h.tk]
    have e : usedP (SP.setPg π p { g with cl := b }) x = usedP π x := by
      unfold usedP
      split
      · rfl
      · rw [page_setPg hpl]
        by_cases e : (x / 4096).toNat = p
        · rw [if_pos e, e, hp]
        · rw [if_neg e]
    rw [e]
  · show q ∈ l' ↔ ∃ x, pageI (SP.setPg π p { g with cl := b }) q = some x ∧ x.cl = true
    rw [hl', pageI_setPg hpl]
    by_cases e : q = (p : Int)
    · rw [if_pos e, if_pos e]; simp
    · rw [if_neg e, if_neg e, h.cl]

theorem open_sim (h : Ms w γ ρ) (hs : Sim π ρ L) (hw : Wf π L) (p : Int) (hm : L + 2000 ≤ 99000000) :
    Calls Try.prog 46 #[.pointer (some ⟨γ.sb, 0, none⟩), .int .i64 p] w fun e w' => e = .returned (.int .i64 (opE π p : Nat)) ∧ Nr w γ ρ (opS π p) (L + 2000) w' := by
  have hr := hs.rw hw
  by_cases hcl : p ∈ ρ.cl
  · obtain ⟨g, hg, hc⟩ := (hs.cl p).1 hcl
    obtain ⟨q, rfl, hp⟩ := pageI_inv hg
    obtain ⟨h1, h2, h3, h4, h5, h6, _, _⟩ := page_own hw hp
    have hrow := row_at hw h2
    have hll := (hw.ch _ _ hrow).1
    have hE : opE π q = 0 := by unfold opE; rw [hg]; simp [hc]
    rw [hE]
    refine (open_yes h hr q (ownC π q) g.used.length hcl h6 (by rw [hs.ow]; exact h1) (by rw [hs.sz]; exact h2) (by rw [hs.sz, hs.S]; exact h3) (l0 := rowC π (ownC π q)) (by rw [hs.rows]; exact hrow) (by omega)).mono ?_
    rintro e w' ⟨rfl, γ', hM, hG⟩
    refine ⟨rfl, γ', _, hM, ?_, hG⟩
    have e1 : opS π q = { SP.setPg π q { g with cl := false } with rows := π.rows.set (ownC π q) (rowC π (ownC π q) ++ lyD ρ.tk q 0 g.used.length) } := by
      unfold opS
      rw [hg]
      dsimp only
      rw [if_neg (by rw [hc]; simp), Int.toNat_natCast, lay_page hs hw hp]
      rfl
    rw [e1]
    have := hs.shut hw hp false (r := π.rows.set (ownC π q) (rowC π (ownC π q) ++ lyD ρ.tk q 0 g.used.length)) (l' := wo ρ.cl q) (L' := L + 2000) (by omega) (fun x => by
      rw [mem_wo]
      by_cases e : x = (q : Int)
      · rw [if_pos e]; simp [e]
      · rw [if_neg e]; simp [e]) (Nat.le_trans (wo_le _ _) (by have := hs.cll; omega))
    have e2 : rowR (clR ρ (wo ρ.cl q)) (ownC π q) (rowC π (ownC π q) ++ lyD ρ.tk q 0 g.used.length) = { ρ with cl := wo ρ.cl q, rows := π.rows.set (ownC π q) (rowC π (ownC π q) ++ lyD ρ.tk q 0 g.used.length) } := by unfold rowR clR; rw [← hs.rows]
    rw [e2]
    exact this
  · have hno : ∀ x, pageI π p = some x → x.cl = false := fun x hx => by
      cases hc : x.cl with
      | false => rfl
      | true => exact absurd ((hs.cl p).2 ⟨x, hx, hc⟩) hcl
    refine (open_no h hr p hcl).mono ?_
    rintro e w' ⟨rfl, rfl⟩
    have hS : opS π p = π ∧ opE π p = 7 := by
      unfold opS opE
      cases hx : pageI π p with
      | none => exact ⟨rfl, rfl⟩
      | some x =>
        dsimp only
        rw [if_pos (hno x hx), if_pos (hno x hx)]
        exact ⟨rfl, rfl⟩
    rw [hS.1, hS.2]
    exact ⟨rfl, Nr.same h hs (by omega)⟩

theorem kept_ne {q : Nat} {l : List Int} (h0 : ∀ x ∈ l, 0 ≤ x) : rowKept q l = neP l q := by
  unfold rowKept neP asI kept
  induction l with
  | nil => rfl
  | cons x l ih =>
    have hx := h0 x (by simp)
    obtain ⟨m, rfl⟩ := Int.eq_ofNat_of_zero_le hx
    have ih := ih (fun y hy => h0 y (List.mem_cons_of_mem _ hy))
    rw [List.map_cons, List.filter_cons, List.filter_cons, Int.toNat_natCast]
    unfold hit
    by_cases e : m / 4096 = q
    · have e1 : ((m : Int) / 4096 != (q : Int)) = false := by simp; omega
      rw [e1]
      simp only [e, decide_true, Bool.not_true, Bool.false_eq_true, if_false]
      exact ih
    · have e1 : ((m : Int) / 4096 != (q : Int)) = true := by simp; omega
      rw [e1]
      simp only [e, decide_false, Bool.not_false, if_true, List.map_cons]
      rw [← ih]
      rfl
theorem owner_none (hw : Wf π L) {p : Int} (h : pageI π p = none) : AP.owner π.ow p < 0 := by
  unfold AP.owner
  split
  case isFalse => omega
  case isTrue hp =>
    obtain ⟨m, rfl⟩ := Int.eq_ofNat_of_zero_le hp.1
    rw [pageI_nat] at h
    rw [Int.toNat_natCast]
    rcases hw.pg m (by omega) with ⟨_, h1⟩ | ⟨x, h1, _⟩
    · omega
    · rw [h] at h1; cases h1
theorem close_sim (h : Ms w γ ρ) (hs : Sim π ρ L) (hw : Wf π L) (p : Int) (hm : L + 2000 ≤ 99000000) :
    Calls Try.prog 45 #[.pointer (some ⟨γ.sb, 0, none⟩), .int .i64 p] w fun e w' => e = .returned (.int .i64 (clE π p : Nat)) ∧ Nr w γ ρ (clS π p) (L + 2000) w' := by
  have hr := hs.rw hw
  cases hg : pageI π p with
  | none =>
    have hS : clS π p = π ∧ clE π p = 7 := by unfold clS clE; rw [hg]; exact ⟨rfl, rfl⟩
    refine (close_no2 h hr p (by rw [hs.ow]; exact owner_none hw hg)).mono ?_
    rintro e w' ⟨rfl, rfl⟩
    rw [hS.1, hS.2]
    exact ⟨rfl, Nr.same h hs (by omega)⟩
  | some g =>
    cases hc : g.cl with
    | true =>
      have hS : clS π p = π ∧ clE π p = 7 := by unfold clS clE; rw [hg]; simp [hc]
      refine (close_no1 h hr p ((hs.cl p).2 ⟨g, hg, hc⟩)).mono ?_
      rintro e w' ⟨rfl, rfl⟩
      rw [hS.1, hS.2]
      exact ⟨rfl, Nr.same h hs (by omega)⟩
    | false =>
      obtain ⟨q, rfl, hp⟩ := pageI_inv hg
      obtain ⟨h1, h2, h3, h4, h5, h6, _, _⟩ := page_own hw hp
      have hrow := row_at hw h2
      have hll := (hw.ch _ _ hrow).1
      have hcl : (q : Int) ∉ ρ.cl := by rw [hs.cl, hg]; simp [hc]
      have hE : clE π q = 0 := by unfold clE; rw [hg]; simp [hc]
      rw [hE]
      refine (close_yes h hr q (ownC π q) hcl h6 (by rw [hs.ow]; exact h1) (by rw [hs.sz]; exact h2) (l := rowC π (ownC π q)) (by rw [hs.rows]; exact hrow) (by have := hs.cll; omega)).mono ?_
      rintro e w' ⟨rfl, γ', hM, hG⟩
      refine ⟨rfl, γ', _, hM, ?_, hG⟩
      have e1 : clS π q = { SP.setPg π q { g with cl := true } with rows := π.rows.set (ownC π q) (neP (rowC π (ownC π q)) q) } := by
        unfold clS
        rw [hg]
        dsimp only
        rw [if_neg (by rw [hc]; simp), Int.toNat_natCast, kept_ne (hw.nonneg hrow)]
      rw [e1]
      have := hs.shut hw hp true (r := π.rows.set (ownC π q) (neP (rowC π (ownC π q)) q)) (l' := ρ.cl ++ [(q : Int)]) (L' := L + 2000) (by omega) (fun x => by
        rw [List.mem_append, List.mem_singleton]
        by_cases e : x = (q : Int)
        · rw [if_pos e]; simp [e]
        · rw [if_neg e]; simp [e]) (by have := hs.cll; simp; omega)
      have e2 : rowR (clR ρ (ρ.cl ++ [(q : Int)])) (ownC π q) (neP (rowC π (ownC π q)) q) = { ρ with cl := ρ.cl ++ [(q : Int)], rows := π.rows.set (ownC π q) (neP (rowC π (ownC π q)) q) } := by unfold rowR clR; rw [← hs.rows]
      rw [e2]
      exact this
end
end Go.Proofs.Ytfmgncajhjkdlaa.R7
/- both slabs side by side: Alloc, Move, Chunks, Where, Counts. -/
namespace Go.Proofs.Ytfmgncajhjkdlaa.R7
open Go.RowKit Go.PlainAid
open SP
set_option linter.unusedVariables false
set_option linter.unusedSimpArgs false

/-! a page's chunks -/
theorem chU_up (p : Nat) (us : List Bool) (k : Nat) : (chU p us k).Pairwise (· < ·) := by
  unfold chU
  rw [List.pairwise_map]
  refine List.Pairwise.filter _ (List.Pairwise.imp ?_ List.pairwise_lt_range)
  intro a b h
  omega
theorem chU_cnt (p : Nat) (us : List Bool) : ∀ k, k ≤ us.length → (chU p us k).length = (us.take k).count true
  | 0, _ => by simp [chU]
  | k + 1, hk => by
    have ih := chU_cnt p us k (by omega)
    rw [List.take_add_one, List.count_append, List.getElem?_eq_getElem (by omega)]
    cases hb : us[k]?.getD false with
    | true =>
      rw [chU_yes hb, List.length_append, ih]
      rw [List.getElem?_eq_getElem (by omega)] at hb
      simp at hb
      simp [hb]
    | false =>
      rw [chU_no hb, ih]
      rw [List.getElem?_eq_getElem (by omega)] at hb
      simp at hb
      simp [hb]
theorem mem_chU {p : Nat} {us : List Bool} {k : Nat} {x : Int} : x ∈ chU p us k ↔ ∃ i, i < k ∧ us[i]?.getD false = true ∧ x = ((p * 4096 + i : Nat) : Int) := by
  unfold chU
  simp only [List.mem_map, List.mem_filter, List.mem_range]
  constructor
  · rintro ⟨i, ⟨h1, h2⟩, rfl⟩
    exact ⟨i, h1, h2, rfl⟩
  · rintro ⟨i, h1, h2, rfl⟩
    exact ⟨i, ⟨h1, h2⟩, rfl⟩
section
variable {w : World} {γ : Gk} {π : Pi} {ρ : Rp} {L : Nat}
theorem mem_chP {l : List Int} {p x : Int} : x ∈ chP l p ↔ x ∈ l ∧ x / 4096 = p := by
  unfold chP
  rw [List.mem_filter]
  simp
theorem chP_eq (hs : Sim π ρ L) (hw : Wf π L) (p : Int) : chP ρ.tk p = chL π p := by
  have hup : (chL π p).Pairwise (· < ·) := by
    unfold chL
    split
    · exact List.Pairwise.nil
    · exact chU_up _ _ _
  refine rise_ext (hs.up.filter _) hup (fun x => ?_)
  rw [mem_chP, hs.tk]
  constructor
  · rintro ⟨h1, rfl⟩
    obtain ⟨q, i, g, rfl, hp, hi, hb, _, hi2, _⟩ := usedD hw h1
    have e : ((q * 4096 + i : Nat) : Int) / 4096 = (q : Int) := by omega
    unfold chL
    rw [e, pageI_nat, hp]
    dsimp only
    rw [Int.toNat_natCast, mem_chU]
    exact ⟨i, hi, hb, rfl⟩
  · intro h1
    unfold chL at h1
    cases hg : pageI π p with
    | none => rw [hg] at h1; cases h1
    | some g =>
      rw [hg] at h1
      obtain ⟨q, rfl, hp⟩ := pageI_inv hg
      dsimp only at h1
      rw [Int.toNat_natCast, mem_chU] at h1
      obtain ⟨i, hi, hb, rfl⟩ := h1
      have h8 := (hw.page_some hp).2.2.2.2.2
      exact ⟨(used_bit hp hi h8).2 hb, by omega⟩
theorem chL_len (hw : Wf π L) {q : Nat} {g : Pg} (hp : π.page q = some g) : ((chL π q).length : Int) = g.n := by
  unfold chL
  rw [pageI_nat, hp]
  dsimp only
  rw [Int.toNat_natCast, chU_cnt q g.used _ (Nat.le_refl _), List.take_length]
  exact (hw.page_some hp).2.2.2.1.symm

/-- a page of a class, new, in both -/
theorem Sim.fresh (hs : Sim π ρ L) (hw : Wf π L) {q k : Nat} (hq : q < π.ow.length) (hk : k < π.sz.length) (hno : ∀ i, i < 4096 → usedP π ((q * 4096 + i : Nat) : Int) = false) {cl' : List Int} {L' : Nat} (hL : L ≤ L')
    (hcl : ∀ p, p ∈ cl' ↔ p ∈ ρ.cl ∧ p ≠ (q : Int)) (hle : cl'.length ≤ L') :
    Sim (freshP { π with ow := π.ow.set q ((k : Int) + 1) } q k) { ρ with ow := π.ow.set q ((k : Int) + 1), rows := π.rows.set k (rowC π k ++ lyD ρ.tk q 0 (per π k)), cl := cl' } L' := by
  have hpl : q < π.pg.length := by rw [hw.pl]; exact hq
  have hnp := hw.np1
  have hper := hw.per_one hk
  have hlay : layL q (List.replicate (per π k) false) = lyD ρ.tk q 0 (per π k) := by
    have := lay_eq (tk := ρ.tk) (p := q) (us := List.replicate (per π k) false) (by omega) (by rw [List.length_replicate]; exact hper.2) (fun i hi => by
      rw [List.length_replicate] at hi
      rw [hs.tk, hno i (by omega), List.getElem?_replicate, if_pos hi]
      simp)
    rwa [List.length_replicate] at this
  refine ⟨hs.S, rfl, hs.sz, ?_, ?_, ?_, fun x => ?_, hs.up, fun p => ?_, Nat.le_trans hs.tkl hL, hle⟩
  · show π.rows.set k (rowC π k ++ lyD ρ.tk q 0 (per π k)) = π.rows.set k (π.rows[k]?.getD [] ++ layL q (List.replicate (per π k) false))
    rw [hlay]; rfl
  · show AP.ext π.bs ((π.ow.set q ((k : Int) + 1)).length * π.S) = ρ.F
    rw [List.length_set]; exact hs.F
  · show π.bs.length ≤ (π.ow.set q ((k : Int) + 1)).length * π.S
    rw [List.length_set]; exact hs.bl
  · rw [fresh_used hpl hno]; exact hs.tk x
  · rw [hcl, hs.cl]
    have e : pageI (freshP { π with ow := π.ow.set q ((k : Int) + 1) } q k) p = if p = (q : Int) then some (frPg π k) else pageI π p := pageI_setPg (π := { π with ow := π.ow.set q ((k : Int) + 1) }) hpl p
    rw [e]
    by_cases h : p = (q : Int)
    · rw [if_pos h]; simp [h, frPg]
    · rw [if_neg h]; simp [h]

theorem last_split {l : List Int} (h : l ≠ []) : l = l.dropLast ++ [lastC l] := by
  have h1 := List.dropLast_concat_getLast h
  have h2 : lastC l = l.getLast h := by
    have := List.length_pos_iff.2 h
    unfold lastC
    rw [List.getElem?_eq_getElem (by omega), List.getLast_eq_getElem]; rfl
  rw [h2]; exact h1.symm
theorem unused_page (hw : Wf π L) {q : Nat} (hp : π.page q = none) : ∀ i, i < 4096 → usedP π ((q * 4096 + i : Nat) : Int) = false := fun i hi => by rw [usedP_at π q i hi, hp]

/-- a chunk popped, in both -/
theorem Sim.popped {π1 : Pi} {ρ1 : Rp} {k p i : Nat} {g : Pg} {L' L2 : Nat} (hs : Sim π1 ρ1 L') (hw : Wf π1 L') (hP : Popped π1 k p i g) (hL : L' + 1 ≤ L2) :
    Sim (popP π1 k) (tkR (rowR ρ1 k (rowC π1 k).dropLast) (insI ρ1.tk ((p * 4096 + i : Nat) : Int))) L2 := by
  have hpl : p < π1.pg.length := by rw [hw.pl]; exact hw.page_lt hP.pg
  have h8 := (hw.page_some hP.pg).2.2.2.2.2
  have hlt := hP.lt
  rw [hP.pop]
  have hnot : ((p * 4096 + i : Nat) : Int) ∉ ρ1.tk := by
    rw [hs.tk, used_bit hP.pg hP.lt h8, hP.un]; simp
  have := hs.marked hw hP.pg true (g.n + 1) (i := i) (r := π1.rows.set k (rowC π1 k).dropLast) (l' := insI ρ1.tk ((p * 4096 + i : Nat) : Int)) (L' := L2) (by omega) (fun x => by
    rw [mem_insI, hs.tk, usedP_set hpl hP.pg]
    by_cases e : x = ((p * 4096 + i : Nat) : Int)
    · rw [if_pos ⟨e, hP.lt, by omega⟩]; simp [e]
    · rw [if_neg (fun hh => e hh.1)]; exact ⟨fun hh => hh.resolve_right e, .inl⟩) (insI_up hs.up hnot) (by rw [insI_len]; have := hs.tkl; omega)
  have e2 : tkR (rowR ρ1 k (rowC π1 k).dropLast) (insI ρ1.tk ((p * 4096 + i : Nat) : Int)) = { ρ1 with tk := insI ρ1.tk ((p * 4096 + i : Nat) : Int), rows := π1.rows.set k (rowC π1 k).dropLast } := by unfold rowR tkR; rw [← hs.rows]
  rw [e2]
  exact this

theorem alloc_sim (h : Ms w γ ρ) (hs : Sim π ρ L) (hw : Wf π L) (c : Int) (hm : L + 3000 ≤ 99000000) :
    Calls Try.prog 43 #[.pointer (some ⟨γ.sb, 0, none⟩), .int .i64 c] w fun e w' => e = .returned (.tuple #[.int .i64 (alC π c), .int .i64 (alOk π c : Nat)]) ∧ Nr w γ ρ (alS π c) (L + 2000) w' := by
  have hr := hs.rw hw
  have hk1 := hw.k1
  by_cases hc : 0 ≤ c ∧ c < (π.sz.length : Int)
  case neg =>
    have e1 : alOk π c = 1 := by unfold alOk; rw [if_pos hc]
    refine (alloc_arg h hr c (by rw [hs.sz]; omega)).mono ?_
    rintro e w' ⟨rfl, rfl⟩
    refine ⟨by unfold alC; rw [e1]; rfl, ?_⟩
    unfold alS
    rw [e1, if_neg (by omega)]
    exact Nr.same h hs (by omega)
  case pos =>
    obtain ⟨k, rfl⟩ := Int.eq_ofNat_of_zero_le hc.1
    have hk : k < π.sz.length := by omega
    have hrow := row_at hw hk
    have okk : AP.okO (k : Int) = true := by unfold AP.okO; exact decide_eq_true ⟨by omega, by omega⟩
    by_cases hfull : rowC π k = [] ∧ ¬ AP.least π.ow < π.ow.length
    · have e1 : alOk π k = 5 := by unfold alOk; rw [if_neg (by simpa using hc), Int.toNat_natCast, if_pos hfull]
      have hgE : AP.grE ρ.ow k = (5 : Nat) := by unfold AP.grE; rw [hs.ow, if_pos okk, if_neg hfull.2]; rfl
      have hgO : AP.grO ρ.ow k = ρ.ow := by unfold AP.grO; rw [hs.ow, if_neg (fun hh => hfull.2 hh.2)]
      refine (alloc_full h hr k (by rw [hs.sz]; exact hk) (by rw [hs.rows, hrow, hfull.1]) 5 hgE (by omega) (by omega)).mono ?_
      rintro e w' ⟨rfl, hM, hG⟩
      rw [hgO] at hM hG
      refine ⟨by unfold alC; rw [e1]; rfl, γ, ρ, hM, ?_, hG⟩
      unfold alS
      rw [e1, if_neg (by omega)]
      exact hs.mono (by omega)
    · have hok : rowC π k = [] → AP.least π.ow < π.ow.length := fun hh => Classical.byContradiction fun h2 => hfull ⟨hh, h2⟩
      have e1 : alOk π k = 0 := alOk_zero hc (by rw [Int.toNat_natCast]; exact hok)
      have hpre := hw.pre hk (by omega) hok
      obtain ⟨p, i, g, hP⟩ := hpre.1.popped (c := k) (by rw [preP_sz]; exact hk) hpre.2
      have hg8 := (hpre.1.page_some hP.pg)
      have hpL := hpre.1.page_lt hP.pg
      have hnp1 := hpre.1.np1
      have hlt := hP.lt
      have hsp := last_split hpre.2
      rw [hP.ch] at hsp
      have key : ∃ ρ1, preA ρ ρ1 k (p * 4096 + i) (rowC (preP π k) k).dropLast ∧ Sim (preP π k) ρ1 (L + 1025) ∧ ρ1.tk = ρ.tk := by
        by_cases hempty : rowC π k = []
        · have hl := hok hempty
          have h0 := AP.least_zero hl
          have hnone : π.page (AP.least π.ow) = none := by
            rcases hw.pg _ hl with h1 | ⟨x, h1, h2, _⟩
            · exact h1.1
            · omega
          have hgO : AP.grO ρ.ow k = π.ow.set (AP.least π.ow) ((k : Int) + 1) := by unfold AP.grO; rw [hs.ow, if_pos ⟨okk, hl⟩]
          have hncl : ((AP.least π.ow : Nat) : Int) ∉ ρ.cl := by rw [hs.cl, pageI_nat, hnone]; simp
          have hsim := hs.fresh hw hl hk (unused_page hw hnone) (cl' := ρ.cl) (L' := L + 1025) (by omega) (fun q => ⟨fun hq => ⟨hq, fun e => hncl (e ▸ hq)⟩, fun hq => hq.1⟩) (by have := hs.cll; omega)
          have hpp : preP π k = freshP { π with ow := π.ow.set (AP.least π.ow) ((k : Int) + 1) } (AP.least π.ow) k := by unfold preP; rw [if_pos hempty]
          rw [← hpp] at hsim
          have hrw : rowC (preP π k) k = lyD ρ.tk (AP.least π.ow) 0 (per π k) := by
            have : (preP π k).rows = π.rows.set k (rowC π k ++ lyD ρ.tk (AP.least π.ow) 0 (per π k)) := hsim.rows.symm
            unfold rowC at this ⊢
            rw [this, List.getElem?_set_self (by rw [hw.rl]; exact hk)]
            show π.rows[k]?.getD [] ++ _ = _
            rw [show π.rows[k]?.getD [] = rowC π k from rfl, hempty, List.nil_append]
          refine ⟨_, .inr ⟨by rw [hs.rows, hrow, hempty], by unfold AP.grE; rw [hs.ow, if_pos okk, if_pos hl], AP.least π.ow, per π k, by unfold AP.grP; rw [hs.ow, if_pos ⟨okk, hl⟩], by have := hw.np1; omega, by rw [hgO]; exact own_grant hl, by rw [hs.sz, hs.S]; exact perI_per hw hk, by rw [← hrw]; exact hsp, rfl⟩, ?_, rfl⟩
          have e2 : rowR (owR ρ (AP.grO ρ.ow k)) k ((rowC (preP π k) k).dropLast ++ [((p * 4096 + i : Nat) : Int)]) = { ρ with ow := π.ow.set (AP.least π.ow) ((k : Int) + 1), rows := π.rows.set k (rowC π k ++ lyD ρ.tk (AP.least π.ow) 0 (per π k)), cl := ρ.cl } := by
            unfold rowR owR
            rw [← hsp, hgO, hempty, List.nil_append, hrw, ← hs.rows]
          rw [e2]
          exact hsim
        · have hpp : preP π k = π := by unfold preP; rw [if_neg hempty]
          rw [hpp] at hsp ⊢
          exact ⟨ρ, .inl ⟨by rw [hs.rows, hrow]; exact congrArg some hsp, rfl⟩, hs.mono (by omega), rfl⟩
      obtain ⟨ρ1, hA, hs1, htk⟩ := key
      refine (alloc_ok h hr k (p * 4096 + i) (by rw [hs.sz]; exact hk) _ ρ1 hA (by omega) (by omega)).mono ?_
      rintro e w' ⟨rfl, γ', hM, hG⟩
      refine ⟨?_, γ', _, hM, ?_, hG⟩
      · have e3 : alC π k = ((p * 4096 + i : Nat) : Int) := by unfold alC; rw [if_pos e1, Int.toNat_natCast, hP.ch]
        rw [e3, e1]; rfl
      · unfold alS
        rw [if_pos e1, Int.toNat_natCast, ← htk]
        exact hs1.popped hpre.1 hP (by omega)

theorem move_sim (h : Ms w γ ρ) (hs : Sim π ρ L) (hw : Wf π L) (p c : Int) (hm : L + 3000 ≤ 99000000) :
    Calls Try.prog 47 #[.pointer (some ⟨γ.sb, 0, none⟩), .int .i64 p, .int .i64 c] w fun e w' => e = .returned (.int .i64 (mvE π p c : Nat)) ∧ Nr w γ ρ (mvS π p c) (L + 2000) w' := by
  have hr := hs.rw hw
  have hk1 := hw.k1
  have hno : ∀ n, mvE π p c = n → n ≠ 0 → ∀ w', Nr w γ ρ π (L + 2000) w' → Nr w γ ρ (mvS π p c) (L + 2000) w' := fun n hn h0 w' hh => by
    unfold mvS; rw [hn, if_neg h0]; exact hh
  by_cases hcl : p ∈ ρ.cl
  · obtain ⟨g, hg, hc⟩ := (hs.cl p).1 hcl
    obtain ⟨q, rfl, hp⟩ := pageI_inv hg
    by_cases hcc : 0 ≤ c ∧ c < (π.sz.length : Int)
    · obtain ⟨k, rfl⟩ := Int.eq_ofNat_of_zero_le hcc.1
      have hk : k < π.sz.length := by omega
      have hlen := chL_len hw hp
      have hce := chP_eq hs hw q
      by_cases hn : 0 < g.n
      · have hE : mvE π q k = 10 := by unfold mvE; rw [hg]; dsimp only; rw [if_neg (by rw [hc]; simp), if_neg (by simpa using hcc), if_pos hn]
        refine (move_busy h hr q k hcl (by rw [hs.sz]; exact hk) (by rw [hce]; intro e; rw [e] at hlen; simp at hlen; omega)).mono ?_
        rintro e w' ⟨rfl, hb⟩
        rw [hE]
        exact ⟨rfl, hno 10 hE (by omega) _ (Nr.below h hs (by omega) hb)⟩
      · have hE : mvE π q k = 0 := by unfold mvE; rw [hg]; dsimp only; rw [if_neg (by rw [hc]; simp), if_neg (by simpa using hcc), if_neg hn]
        obtain ⟨h1, h2, h3, h4, h5, h6, _, h8⟩ := page_own hw hp
        have hnil : chL π q = [] := List.length_eq_zero_iff.1 (by omega)
        have okk : AP.okO (k : Int) = true := by unfold AP.okO; exact decide_eq_true ⟨by omega, by omega⟩
        have hpO : AP.paO ρ.ow q k = π.ow.set q ((k : Int) + 1) := by unfold AP.paO; rw [hs.ow, h1, if_neg (by omega), if_pos okk, Int.toNat_natCast]
        have hrow := row_at hw hk
        have hll := (hw.ch _ _ hrow).1
        have hno1 : ∀ i, i < 4096 → usedP π ((q * 4096 + i : Nat) : Int) = false := fun i hi => by
          cases hu : usedP π ((q * 4096 + i : Nat) : Int) with
          | false => rfl
          | true =>
            have : ((q * 4096 + i : Nat) : Int) ∈ chP ρ.tk q := mem_chP.2 ⟨(hs.tk _).2 hu, by omega⟩
            rw [hce, hnil] at this; cases this
        refine (move_ok h hr q k (per π k) hcl (by rw [hs.sz]; exact hk) (by rw [hce, hnil]) ⟨hr.k1, hr.sz, hr.rl, hr.rb, hr.tk, hr.cl, fun x => ?_, hr.lim⟩ h6 ?_ (by rw [hs.sz, hs.S]; exact perI_per hw hk) (l0 := rowC π k) (by rw [hs.rows]; exact hrow) (by omega)).mono ?_
        · show (AP.paO ρ.ow q k)[x]?.getD 0 ≤ ρ.sz.length
          rw [hpO, hs.sz]
          have ho := hr.own x
          rw [hs.ow, hs.sz] at ho
          by_cases e : q = x
          · subst e; rw [List.getElem?_set_self h5]; show ((k : Int) + 1) ≤ _; omega
          · rw [List.getElem?_set_ne e]; exact ho
        · rw [hpO, AP.owner_at (by simpa using h5), List.getElem?_set_self h5]
          show ((k : Int) + 1) - 1 = k
          omega
        · rintro e w' ⟨rfl, γ', hM, hG⟩
          refine ⟨by rw [hE]; rfl, γ', _, hM, ?_, hG⟩
          unfold mvS
          rw [hE, if_pos rfl, Int.toNat_natCast, Int.toNat_natCast]
          have := hs.fresh hw h5 hk hno1 (cl' := wo ρ.cl q) (L' := L + 2000) (by omega) (fun x => mem_wo) (Nat.le_trans (wo_le _ _) (by have := hs.cll; omega))
          have e2 : rowR (clR (owR ρ (AP.paO ρ.ow q k)) (wo ρ.cl q)) k (rowC π k ++ lyD ρ.tk q 0 (per π k)) = { ρ with ow := π.ow.set q ((k : Int) + 1), rows := π.rows.set k (rowC π k ++ lyD ρ.tk q 0 (per π k)), cl := wo ρ.cl q } := by
            unfold rowR clR owR
            rw [hpO, ← hs.rows]
          rw [e2]
          exact this
    · have hE : mvE π q c = 1 := by unfold mvE; rw [hg]; dsimp only; rw [if_neg (by rw [hc]; simp), if_pos hcc]
      refine (move_arg h hr q c hcl (by rw [hs.sz]; omega)).mono ?_
      rintro e w' ⟨rfl, rfl⟩
      rw [hE]
      exact ⟨rfl, hno 1 hE (by omega) _ (Nr.same h hs (by omega))⟩
  · have hE : mvE π p c = 7 := by
      unfold mvE
      cases hx : pageI π p with
      | none => rfl
      | some x =>
        dsimp only
        rw [if_pos]
        cases hc : x.cl with
        | false => rfl
        | true => exact absurd ((hs.cl p).2 ⟨x, hx, hc⟩) hcl
    refine (move_no h hr p c hcl).mono ?_
    rintro e w' ⟨rfl, rfl⟩
    rw [hE]
    exact ⟨rfl, hno 7 hE (by omega) _ (Nr.same h hs (by omega))⟩

theorem where_sim (h : Ms w γ ρ) (hs : Sim π ρ L) (hw : Wf π L) (ch : Int) {p a z : Int} (hr : whP π ch = p ∧ whA π ch = a ∧ whS π ch = z) :
    Calls Try.prog 51 #[.pointer (some ⟨γ.sb, 0, none⟩), .int .i64 ch] w fun e w' => e = .returned (.tuple #[.int .i64 p, .int .i64 a, .int .i64 z]) ∧ ∃ n, w' = w.drewN n := by
  obtain ⟨rfl, rfl, rfl⟩ := hr
  have hrr := hs.rw hw
  cases hu : usedP π ch with
  | false =>
    refine (where_no h hrr ch (by rw [hs.tk, hu]; simp)).mono ?_
    rintro e w' ⟨rfl, hn⟩
    exact ⟨by unfold whP whA whS; rw [hu]; rfl, hn⟩
  | true =>
    obtain ⟨p, i, g, rfl, hp, hi, hbit, hpl, hi2, hp2⟩ := usedD hw hu
    obtain ⟨_, h2, _⟩ := page_own hw hp
    have q1 : (((p * 4096 + i : Nat) : Int) / 4096).toNat = p := by omega
    have q2 : ((p * 4096 + i : Nat) : Int) / 4096 = (p : Int) := by omega
    have q3 : ((p * 4096 + i : Nat) : Int) % 4096 = (i : Int) := by omega
    refine (where_yes h hrr (p * 4096 + i) (ownC π p) p i (szP π p) ((hs.tk _).2 hu) (clI_at hs hw hp hi) (by rw [hs.sz]; exact h2) rfl hp2 hi2 (by rw [hs.sz]; rfl)).mono ?_
    rintro e w' ⟨rfl, hn⟩
    refine ⟨?_, hn⟩
    unfold whP whA whS
    rw [hu, if_pos rfl, if_pos rfl, if_pos rfl, q1, q2, q3]

theorem filter_split (P Q R : Int → Bool) (h : ∀ x, Q x = true → R x = false) : ∀ l : List Int, (l.filter (fun x => P x && (Q x || R x))).length = (l.filter (fun x => P x && Q x)).length + ((l.filter R).filter P).length
  | [] => rfl
  | x :: l => by
    have ih := filter_split P Q R h l
    have hx := h x
    rw [List.filter_cons, List.filter_cons, List.filter_cons]
    cases hp : P x <;> cases hq : Q x <;> cases hr : R x <;> simp_all [List.filter_cons] <;> omega
theorem cnt_split (P : Int → Bool) (l : List Int) (h0 : ∀ x ∈ l, 0 ≤ x) : ∀ N : Nat, ((l.filter (fun x => P x && decide (x / 4096 < (N : Int)))).length : Int) = ((List.range N).map (fun q : Nat => (((chP l q).filter P).length : Int))).sum
  | 0 => by
    rw [List.filter_eq_nil_iff.2]
    · rfl
    · intro x hx
      have := h0 x hx
      simp
      intro _
      omega
  | N + 1 => by
    have ih := cnt_split P l h0 N
    rw [List.range_succ, List.map_append, List.sum_append, ← ih]
    have h1 := filter_split P (fun x => decide (x / 4096 < (N : Int))) (fun x => x / 4096 == (N : Int)) (fun x hx => by simp at hx ⊢; omega) l
    have e : (fun x : Int => P x && decide (x / 4096 < ((N + 1 : Nat) : Int))) = (fun x => P x && (decide (x / 4096 < (N : Int)) || x / 4096 == (N : Int))) := by
      funext x
      congr 1
      rw [Bool.eq_iff_iff]
      simp
      omega
    rw [e, h1]
    simp [chP]
theorem usN_cls (hs : Sim π ρ L) (hw : Wf π L) (c : Nat) : (usN ρ c ρ.tk : Int) = cls π c := by
  have hb := (hs.rw hw).tk.2
  unfold usN
  have e : ρ.tk.filter (fun x => clI ρ x == (c : Int)) = ρ.tk.filter (fun x => (clI ρ x == (c : Int)) && decide (x / 4096 < (π.ow.length : Int))) := by
    apply List.filter_congr
    intro x hx
    obtain ⟨p, i, g, rfl, hp, hi, hbit, hpl, hi2, hp2⟩ := usedD hw ((hs.tk x).1 hx)
    have : decide (((p * 4096 + i : Nat) : Int) / 4096 < (π.ow.length : Int)) = true := by simp; omega
    rw [this, Bool.and_true]
  rw [e, cnt_split _ _ (fun x hx => (hb x hx).1), cls_eq]
  congr 1
  apply List.map_congr_left
  intro q hq
  have hql := List.mem_range.1 hq
  rw [chP_eq hs hw]
  unfold pn nOf
  rw [Int.toNat_natCast]
  rcases hw.pg q hql with ⟨h1, h2⟩ | ⟨g, hp, h2, h3, _⟩
  · unfold chL
    rw [pageI_nat, h1]
    rw [if_neg (by omega)]
    rfl
  · have hlen := chL_len hw hp
    have hown : (ownC π q : Int) = π.ow[q]?.getD 0 - 1 := by unfold ownC; omega
    have hall : ∀ x ∈ chL π q, clI ρ x = (ownC π q : Nat) := fun x hx => by
      unfold chL at hx
      rw [pageI_nat, hp] at hx
      dsimp only at hx
      rw [Int.toNat_natCast, mem_chU] at hx
      obtain ⟨i, hi, _, rfl⟩ := hx
      exact clI_at hs hw hp hi
    rw [hp]
    dsimp only
    by_cases e : π.ow[q]?.getD 0 - 1 = (c : Int)
    · rw [if_pos ⟨by omega, e⟩, List.filter_eq_self.2 (fun x hx => by rw [hall x hx, beq_iff_eq]; omega)]
      exact hlen
    · rw [if_neg (fun hh => e hh.2), List.filter_eq_nil_iff.2 (fun x hx => by rw [hall x hx, beq_iff_eq]; omega)]
      rfl
theorem counts_sim (h : Ms w γ ρ) (hs : Sim π ρ L) (hw : Wf π L) (c : Int) {p u f : Int} (hr : coP π c = p ∧ coU π c = u ∧ coF π c = f) :
    Calls Try.prog 53 #[.pointer (some ⟨γ.sb, 0, none⟩), .int .i64 c] w fun e w' => e = .returned (.tuple #[.int .i64 p, .int .i64 u, .int .i64 f]) ∧ Below w.heap.size w w' := by
  obtain ⟨rfl, rfl, rfl⟩ := hr
  have hrr := hs.rw hw
  by_cases hc : isC π c
  · have hcc := hc
    unfold isC at hcc
    obtain ⟨k, rfl⟩ := Int.eq_ofNat_of_zero_le hcc.1
    have hk : k < π.sz.length := by omega
    have hrow := row_at hw hk
    refine (counts_yes h hrr k (by rw [hs.sz]; exact hk) (l0 := rowC π k) (by rw [hs.rows]; exact hrow)).mono ?_
    rintro e w' ⟨rfl, hb⟩
    refine ⟨?_, hb⟩
    unfold coP coU coF
    rw [if_pos hc, if_pos hc, if_pos hc, usN_cls hs hw, hs.ow, Int.toNat_natCast]
    rfl
  · refine (counts_no h hrr c (by rw [hs.sz]; unfold isC at hc; omega)).mono ?_
    rintro e w' ⟨rfl, hb⟩
    refine ⟨?_, hb⟩
    unfold coP coU coF
    rw [if_neg hc, if_neg hc, if_neg hc]
theorem chunks_sim (h : Ms w γ ρ) (hs : Sim π ρ L) (hw : Wf π L) (p : Int) {l : List Int} (hl : chL π p = l) :
    Calls Try.prog 50 #[.pointer (some ⟨γ.sb, 0, none⟩), .int .i64 p] w fun e w' => ∃ v, e = .returned v ∧ w'.ownsRow w.heap.size 3 1 v l.length (l.map (.int .i64)) ∧ Below w.heap.size w w' := by
  have := chunks_any h (hs.rw hw) p
  rw [chP_eq hs hw, hl] at this
  exact this
theorem used_sim (h : Ms w γ ρ) (hs : Sim π ρ L) (hw : Wf π L) (ch : Int) {b : Bool} (hb : usedP π ch = b) :
    Calls Try.prog 52 #[.pointer (some ⟨γ.sb, 0, none⟩), .int .i64 ch] w fun e w' => e = .returned (.bool b) ∧ w = w' :=
  R7.used_any h (by have := hs.tkl; have := hw.lim; omega) ch b (by
    rw [← hb, Bool.eq_iff_iff, decide_eq_true_iff]; exact hs.tk ch)
end
end Go.Proofs.Ytfmgncajhjkdlaa.R7
/- both slabs side by side: Put, Get. -/
namespace Go.Proofs.Ytfmgncajhjkdlaa.R7
open Go.RowKit Go.PlainAid
open SP
set_option linter.unusedVariables false
set_option linter.unusedSimpArgs false

section
variable {w : World} {γ : Gk} {π : Pi} {ρ : Rp} {L : Nat}
theorem bl_max (hs : Sim π ρ L) (hw : Wf π L) : π.bs.length ≤ 67108864 := by
  have h1 := hs.bl
  have h2 := hw.np1
  have h3 := hw.siz
  have h4 : π.ow.length * π.S ≤ 1024 * 65536 := Nat.mul_le_mul (by omega) (by omega)
  omega
theorem Sim.bytes (hs : Sim π ρ L) {bs' F' : List Int} (h1 : AP.ext bs' (π.ow.length * π.S) = F') (h2 : bs'.length ≤ π.ow.length * π.S) : Sim { π with bs := bs' } (fR ρ F') L :=
  ⟨hs.S, hs.ow, hs.sz, hs.rows, h1, h2, hs.tk, hs.up, hs.cl, hs.tkl, hs.cll⟩
theorem ext_same {π : Pi} {F : List Int} (h : AP.ext π.bs (π.ow.length * π.S) = F) (hb : π.bs.length ≤ π.ow.length * π.S) {q b : Nat} {l : List Int} (hq : q < π.ow.length) (hbm : b + l.length ≤ π.S) :
    AP.ext (AP.splice (AP.byB π.bs π.S (q : Int)) (q * π.S + b) l) (π.ow.length * π.S) = AP.splice F (q * π.S + b) l ∧ (AP.splice (AP.byB π.bs π.S (q : Int)) (q * π.S + b) l).length ≤ π.ow.length * π.S := by
  have h4 : (q + 1) * π.S ≤ π.ow.length * π.S := Nat.mul_le_mul_right π.S (by omega)
  have h5 : (q + 1) * π.S = q * π.S + π.S := Nat.succ_mul q π.S
  have h6 := byB_len π.bs (S := π.S) (q := q)
  constructor
  · rw [← h]
    unfold AP.byB
    rw [Int.toNat_natCast]
    exact R6.splice_ext h4 (by omega) hb
  · rw [AP.splice_len (by omega)]
    unfold AP.byB
    rw [AP.ext_len, Int.toNat_natCast]
    omega

/-- a used chunk, in the document's words -/
structure UC (π : Pi) (ρ : Rp) (ch : Int) (p i : Nat) : Prop where
  e : ch = ((p * 4096 + i : Nat) : Int)
  mem : ((p * 4096 + i : Nat) : Int) ∈ ρ.tk
  cl : clI ρ ((p * 4096 + i : Nat) : Int) = (ownC π p : Nat)
  lt : ownC π p < ρ.sz.length
  p4 : p < 1024
  i4 : i < 1024
  z : ρ.sz[ownC π p]?.getD 0 = szP π p
  wp : whP π ch = p
  wa : whA π ch = (i : Int) * szP π p
  ws : whS π ch = szP π p
  pl : p < π.ow.length
  own : 0 ≤ AP.owner π.ow p
  fit : (i : Int) * szP π p + szP π p ≤ π.S
  z1 : 64 ≤ szP π p
theorem uc_of (hs : Sim π ρ L) (hw : Wf π L) {ch : Int} (hu : usedP π ch = true) : ∃ p i, UC π ρ ch p i := by
  obtain ⟨p, i, g, rfl, hp, hi, hbit, hpl, hi2, hp2⟩ := usedD hw hu
  obtain ⟨_, h2, _⟩ := page_own hw hp
  obtain ⟨p', i', e, f1, f2, f3, f4, f5, f6, f7, x, f8, f9⟩ := fits_of hw hu
  have h8 := (hw.page_some f8).2.2.2.2.2
  obtain ⟨rfl, rfl⟩ := chunk_inj (by omega) (by omega) e
  exact ⟨p, i, rfl, (hs.tk _).2 hu, clI_at hs hw hp hi, by rw [hs.sz]; exact h2, hp2, hi2, by rw [hs.sz]; rfl, f1, f2, f3, f4, f5, f6, f7⟩
theorem UC.by {ch : Int} {p i : Nat} (h : UC π ρ ch p i) {n : Int} (h0 : 0 ≤ n) (hn : n ≤ szP π p) : AP.byE π.ow π.S p (i * szP π p) n = 0 := by
  have h1 := h.fit
  have h2 := h.own
  have h3 := h.z1
  have h4 : 0 ≤ (i : Int) * szP π p := Int.mul_nonneg (by omega) (by omega)
  unfold AP.byE
  rw [if_neg (by omega), if_neg (by omega)]

theorem put_sim (h : Ms w γ ρ) (hs : Sim π ρ L) (hw : Wf π L) (ch : Int) (A : Option Addr) (n cap : Nat) (l : List Int) (hl : l.length = n) (hby : ∀ x ∈ l, 0 ≤ x ∧ x ≤ 255) (hrb : ∀ w', Tch (ft γ ρ) w w' → RB w' (.slice A n cap) l) :
    Calls Try.prog 48 #[.pointer (some ⟨γ.sb, 0, none⟩), .int .i64 ch, .slice A n cap] w fun e w' => e = .returned (.int .i64 (ptOk π ch n : Nat)) ∧ Nr w γ ρ (ptS π ch l) L w' := by
  subst hl
  have hr := hs.rw hw
  cases hu : usedP π ch with
  | false =>
    have hE : ptOk π ch l.length = 8 := by unfold ptOk; rw [if_pos hu]
    refine (put_no h hr ch _ (by rw [hs.tk, hu]; simp)).mono ?_
    rintro e w' ⟨rfl, m, rfl⟩
    refine ⟨by rw [hE]; rfl, ?_⟩
    unfold ptS
    rw [hE, if_neg (by omega)]
    exact Nr.drewN h hs (Nat.le_refl _) m
  | true =>
    obtain ⟨p, i, u⟩ := uc_of hs hw hu
    obtain rfl := u.e
    by_cases hn : szP π p < (l.length : Int)
    · have hE : ptOk π ((p * 4096 + i : Nat) : Int) l.length = 4 := by unfold ptOk; rw [if_neg (by rw [hu]; simp), u.ws, if_pos hn]
      refine (put_big h hr (p * 4096 + i) (ownC π p) p i (szP π p) u.mem u.cl u.lt rfl u.p4 u.i4 u.z _ l.length A cap rfl hn).mono ?_
      rintro e w' ⟨rfl, m, rfl⟩
      refine ⟨by rw [hE]; rfl, ?_⟩
      unfold ptS
      rw [hE, if_neg (by omega)]
      exact Nr.drewN h hs (Nat.le_refl _) m
    · have hE : ptOk π ((p * 4096 + i : Nat) : Int) l.length = 0 := by unfold ptOk; rw [if_neg (by rw [hu]; simp), u.ws, if_neg hn]
      have hb0 := u.by (n := (l.length : Int)) (by omega) (by omega)
      refine (put_yes h hr (p * 4096 + i) (ownC π p) p i (szP π p) u.mem u.cl u.lt rfl u.p4 u.i4 u.z _ l (by omega) hby (fun w' ht => hrb w' (ht.mono (fun b hb => ⟨.ar, .inr (.inr (.inl hb))⟩)))).mono ?_
      rintro e w' ⟨rfl, γ', hM, hG⟩
      rw [hs.ow, hs.S] at *
      rw [hb0, hE]
      refine ⟨rfl, γ', _, hM, ?_, hG⟩
      have hz : ((szP π p).toNat : Int) = szP π p := Int.toNat_of_nonneg (by have := u.z1; omega)
      have ha : ((i : Int) * szP π p) = ((i * (szP π p).toNat : Nat) : Int) := by rw [Int.natCast_mul, hz]
      have e1 : ptS π ((p * 4096 + i : Nat) : Int) l = { π with bs := AP.splice (AP.byB π.bs π.S (p : Int)) (p * π.S + i * (szP π p).toNat) l } := by
        unfold ptS AP.wrB
        rw [hE, if_pos rfl, u.wp, u.wa, hb0, if_pos rfl, ha, Int.toNat_natCast, Int.toNat_natCast]
      have e2 : R6.AP.rwF π.ow ρ.F π.S p (i * szP π p) l = AP.splice ρ.F (p * π.S + i * (szP π p).toNat) l := by
        unfold R6.AP.rwF
        rw [hb0, if_pos rfl, ha, Int.toNat_natCast, Int.toNat_natCast]
      have hx := ext_same hs.F hs.bl (q := p) (b := i * (szP π p).toNat) (l := l) u.pl (by have := u.fit; omega)
      rw [e1, e2]
      exact hs.bytes hx.1 hx.2

theorem get_sim (h : Ms w γ ρ) (hs : Sim π ρ L) (hw : Wf π L) (ch n : Int) :
    Calls Try.prog 49 #[.pointer (some ⟨γ.sb, 0, none⟩), .int .i64 ch, .int .i64 n] w fun e w' => ∃ v, e = .returned (.tuple #[v, .int .i64 (gtOk π ch n : Nat)]) ∧ RB w' v (gtL π ch n) ∧ Nr w γ ρ (gtS π ch n) L w' := by
  have hr := hs.rw hw
  have hno : ∀ k m, gtOk π ch n = k → k ≠ 0 → RB (w.drewN m) (.slice none 0 0) (gtL π ch n) ∧ Nr w γ ρ (gtS π ch n) L (w.drewN m) := fun k m hk h0 => by
    unfold gtL gtS
    rw [hk, if_neg h0, if_neg h0]
    exact ⟨⟨none, 0, rfl, fun hh => absurd rfl hh⟩, Nr.drewN h hs (Nat.le_refl _) m⟩
  cases hu : usedP π ch with
  | false =>
    have hE : gtOk π ch n = 8 := by unfold gtOk; rw [if_pos hu]
    refine (get_no h hr ch n (by rw [hs.tk, hu]; simp)).mono ?_
    rintro e w' ⟨rfl, m, rfl⟩
    exact ⟨_, by rw [hE]; rfl, hno 8 m hE (by omega)⟩
  | true =>
    obtain ⟨p, i, u⟩ := uc_of hs hw hu
    obtain rfl := u.e
    by_cases hn : n < 0 ∨ szP π p < n
    · have hE : gtOk π ((p * 4096 + i : Nat) : Int) n = 1 := by unfold gtOk; rw [if_neg (by rw [hu]; simp), u.ws, if_pos hn]
      refine (get_arg h hr (p * 4096 + i) (ownC π p) p i (szP π p) n u.mem u.cl u.lt rfl u.p4 u.i4 u.z hn).mono ?_
      rintro e w' ⟨rfl, m, rfl⟩
      exact ⟨_, by rw [hE]; rfl, hno 1 m hE (by omega)⟩
    · have hE : gtOk π ((p * 4096 + i : Nat) : Int) n = 0 := by unfold gtOk; rw [if_neg (by rw [hu]; simp), u.ws, if_neg hn]
      have hb0 := u.by (n := n) (by omega) (by omega)
      refine (get_yes h hr (p * 4096 + i) (ownC π p) p i (szP π p) n u.mem u.cl u.lt rfl u.p4 u.i4 u.z (by omega) (by omega)).mono ?_
      rintro e w' ⟨v, rfl, hR, γ', hM, hG⟩
      rw [hs.ow, hs.S] at *
      rw [hb0, hE]
      obtain ⟨m, rfl⟩ := Int.eq_ofNat_of_zero_le (show 0 ≤ n by omega)
      have hz : ((szP π p).toNat : Int) = szP π p := Int.toNat_of_nonneg (by have := u.z1; omega)
      have ha : ((i : Int) * szP π p) = ((i * (szP π p).toNat : Nat) : Int) := by rw [Int.natCast_mul, hz]
      have h4 : (p + 1) * π.S ≤ π.ow.length * π.S := Nat.mul_le_mul_right π.S (by have := u.pl; omega)
      have h5 : (p + 1) * π.S = p * π.S + π.S := Nat.succ_mul p π.S
      refine ⟨v, rfl, ?_, γ', ρ, hM, ?_, hG⟩
      · have e1 : gtL π ((p * 4096 + i : Nat) : Int) (m : Int) = R6.AP.rrL π.ow ρ.F π.S p (i * szP π p) (m : Int) := by
          unfold gtL AP.rdL R6.AP.rrL
          rw [hE, if_pos rfl, u.wp, u.wa, hb0, if_pos rfl, if_pos rfl, ha, ← hs.F]
          unfold AP.byB
          simp only [Int.toNat_natCast]
          exact R6.cut_ext h4 (by have := u.fit; omega) hs.bl
        rw [e1]; exact hR
      · have e1 : gtS π ((p * 4096 + i : Nat) : Int) (m : Int) = { π with bs := AP.ext π.bs ((p + 1) * π.S) } := by
          unfold gtS AP.rdB AP.byB
          rw [hE, if_pos rfl, u.wp, u.wa, hb0, if_pos rfl, Int.toNat_natCast]
        rw [e1]
        have := hs.bytes (bs' := AP.ext π.bs ((p + 1) * π.S)) (F' := ρ.F) (by rw [R6.ext_ext h4 hs.bl, hs.F]) (by rw [AP.ext_len]; have := hs.bl; omega)
        exact this
end
end Go.Proofs.Ytfmgncajhjkdlaa.R7
/- both slabs, apart: what lies where, and each call's contract over both. -/
namespace Go.Proofs.Ytfmgncajhjkdlaa.R7
open Go.RowKit Go.PlainAid
open SP
set_option linter.unusedVariables false
set_option linter.unusedSimpArgs false

/-- string(b) -/
theorem conv_rb {w : World} {v : Value} {l : List Int} (h : RB w v l) : (convert 46 9 v).run Try.prog w = .ok (.string (strOfNums l)) w := by
  obtain ⟨a, cap, rfl, hc⟩ := h
  by_cases hl : l = []
  · subst hl
    cases a with
    | none => exact run_convert_bytes_nil w 46 5 Try.underlying46 Try.underlying5 0 cap 9 Try.underlying9
    | some a =>
      rw [run_convert_bytes_string w 46 9 5 _ _ _ Try.underlying46 Try.underlying5 Try.underlying9]
      exact run_bytesToString (P := Try.prog) w a 0 cap [] (by simp [loadCells, loadCellsFrom])
  · obtain ⟨b, o, rfl, hcc⟩ := hc hl
    exact run_convert_bytes_arg w 46 5 Try.underlying46 Try.underlying5 b o _ cap l rfl (fun i hi => by rw [hcc i hi]; simp) 9 Try.underlying9
theorem rb_takeN {w : World} {a : Option Addr} {n cap : Nat} {l : List Int} (h : RB w (.slice a n cap) l) (c : Nat) (hc : c ≤ n) : RB w (.slice a c cap) (l.take c) := by
  obtain ⟨a', cap', e, hcc⟩ := h
  simp only [Value.slice.injEq] at e
  obtain ⟨rfl, hl, rfl⟩ := e
  have hlen : (l.take c).length = c := by simp; omega
  refine ⟨a, cap, by rw [hlen], fun hne => ?_⟩
  obtain ⟨b, o, rfl, hx⟩ := hcc (by rintro rfl; simp at hne)
  refine ⟨b, o, rfl, fun i hi => ?_⟩
  rw [hx i (by omega), List.getElem?_take, if_pos (by omega)]

structure Tw (w : World) (X : Nat → Prop) (β : Bk) (π : Pi) (γ : Gk) (ρ : Rp) (L : Nat) : Prop where
  mem : Mem w β π L
  ms : Ms w γ ρ
  ax : ∀ i, foot β π i → X i
  rx : ∀ i, ft γ ρ i → X i
  dj : ∀ i, foot β π i → ¬ ft γ ρ i
  xl : ∀ i, X i → i < w.heap.size
structure Stp (X Y : Nat → Prop) (w w' : World) : Prop where
  tc : Tch X w w'
  nu : ∀ i, Y i → X i ∨ w.heap.size ≤ i
theorem Stp.refl (X : Nat → Prop) (w : World) : Stp X X w w := ⟨Tch.refl _ _, fun _ h => .inl h⟩
theorem Stp.trans {X Y Z : Nat → Prop} {a b c : World} (h : Stp X Y a b) (k : Stp Y Z b c) : Stp X Z a c := ⟨h.tc.trans k.tc h.nu, fun i hi => (k.nu i hi).elim (h.nu i) (fun h1 => .inr (Nat.le_trans h.tc.size h1))⟩
theorem Stp.beside {X Y T : Nat → Prop} {w w' w'' : World} (h : Stp X Y w w') (ht : Tch T w' w'') (hT : ∀ i, T i → w.heap.size ≤ i) : Stp X Y w w'' := ⟨h.tc.trans ht (fun i hi => .inr (hT i hi)), h.nu⟩

section
variable {w w' : World} {X : Nat → Prop} {β β' : Bk} {π π' : Pi} {γ γ' : Gk} {ρ ρ' : Rp} {L L' : Nat}
theorem Tw.keep {T : Nat → Prop} (h : Tw w X β π γ ρ L) (ht : Tch T w w') (hd : ∀ i, X i → ¬ T i) : Tw w' X β π γ ρ L :=
  ⟨h.mem.keep ht (fun i hi => hd i (h.ax i hi)), h.ms.keep ht (fun i hi => hd i (h.rx i hi)), h.ax, h.rx, h.dj, fun i hi => Nat.lt_of_lt_of_le (h.xl i hi) ht.size⟩
theorem Tw.pgo (h : Tw w X β π γ ρ L) (hM : Mem w' β' π' L') (hS : Step w β π w' β' π') : Tw w' (fun i => foot β' π' i ∨ ft γ ρ i) β' π' γ ρ L' ∧ Stp X (fun i => foot β' π' i ∨ ft γ ρ i) w w' := by
  have hms := h.ms.keep hS.tch (fun i hi hx => h.dj i hx hi)
  refine ⟨⟨hM, hms, fun i hi => .inl hi, fun i hi => .inr hi, fun i hi hx => ?_, fun i hi => ?_⟩, hS.tch.mono h.ax, fun i hi => ?_⟩
  · rcases hS.ft i hi with h1 | h1
    · exact h.dj i h1 hx
    · have := h.xl i (h.rx i hx); omega
  · rcases hi with ⟨j, hj⟩ | ⟨j, hj⟩
    · exact hM.lt j i hj
    · exact hms.lt j i hj
  · rcases hi with h1 | h1
    · exact (hS.ft i h1).imp_left (h.ax i)
    · exact .inl (h.rx i h1)
theorem Tw.rgo (h : Tw w X β π γ ρ L) (hM : Ms w' γ' ρ') (hG : Go w γ ρ w' γ' ρ') : Tw w' (fun i => foot β π i ∨ ft γ' ρ' i) β π γ' ρ' L ∧ Stp X (fun i => foot β π i ∨ ft γ' ρ' i) w w' := by
  have hmm := h.mem.keep hG.tch (fun i hi hx => h.dj i hi hx)
  refine ⟨⟨hmm, hM, fun i hi => .inl hi, fun i hi => .inr hi, fun i hi hx => ?_, fun i hi => ?_⟩, hG.tch.mono h.rx, fun i hi => ?_⟩
  · rcases hG.ft i hx with h1 | h1
    · exact h.dj i hi h1
    · have := h.xl i (h.ax i hi); omega
  · rcases hi with ⟨j, hj⟩ | ⟨j, hj⟩
    · exact hmm.lt j i hj
    · exact hM.lt j i hj
  · rcases hi with h1 | h1
    · exact .inl (h.ax i h1)
    · exact (hG.ft i h1).imp_left (h.rx i)
end

/-- both slabs: the program's may be a step ahead -/
def Sm (X : Nat → Prop) (sb rb g g' : Nat) (w : World) (π π' : Pi) (L L' : Nat) : Prop :=
  ∃ β γ ρ, Tw w X β π' γ ρ L' ∧ Wf π L ∧ Wf π' L' ∧ Sim π ρ L ∧ β.sb = sb ∧ γ.sb = rb ∧ β.g = g ∧ γ.g = g'
section
variable {w w' : World} {X : Nat → Prop} {π π' : Pi} {L L' sb rb g g' : Nat}
theorem Sm.keep {T : Nat → Prop} (h : Sm X sb rb g g' w π π' L L') (ht : Tch T w w') (hd : ∀ i, X i → ¬ T i) : Sm X sb rb g g' w' π π' L L' := by
  obtain ⟨β, γ, ρ, h1, h2⟩ := h
  exact ⟨β, γ, ρ, h1.keep ht hd, h2⟩
theorem Sm.xl (h : Sm X sb rb g g' w π π' L L') : ∀ i, X i → i < w.heap.size := by
  obtain ⟨β, γ, ρ, h1, h2⟩ := h
  exact h1.xl
theorem Sm.below (h : Sm X sb rb g g' w π π' L L') (hb : Below w.heap.size w w') : Sm X sb rb g g' w' π π' L L' := h.keep (Tch.of_below (fun _ => False) hb) (fun _ _ x => x)
theorem Sm.drewN (h : Sm X sb rb g g' w π π' L L') (n : Nat) : Sm X sb rb g g' (w.drewN n) π π' L L' := h.keep ((Tch.refl (fun _ => False) w).drewN n) (fun _ _ x => x)
theorem Sm.wf (h : Sm X sb rb g g' w π π' L L') : Wf π L := by obtain ⟨β, γ, ρ, h1, h2, _⟩ := h; exact h2
theorem Sm.more (h : Sm X sb rb g g' w π π L L) (hl : L ≤ L') (hm : L' ≤ 100000000) : Sm X sb rb g g' w π π L' L' := by
  obtain ⟨β, γ, ρ, h1, h2, h3, h4, h5⟩ := h
  exact ⟨β, γ, ρ, ⟨h1.mem.more hl, h1.ms, h1.ax, h1.rx, h1.dj, h1.xl⟩, h2.mono hl hm, h3.mono hl hm, h4.mono hl, h5⟩
theorem Sm.p {F : Nat} {args : Array Value} {R : Value} (h : Sm X sb rb g g' w π π L L) (hw' : Wf π' L')
    (hc : ∀ β, Mem w β π L → Wf π L → π.bs.length ≤ 67108864 → β.sb = sb → (∀ i, foot β π i → X i) → Calls Try.prog F args w fun e w' => e = .returned R ∧ ∃ β', Mem w' β' π' L' ∧ Step w β π w' β' π') :
    Calls Try.prog F args w fun e w' => e = .returned R ∧ ∃ Y, Sm Y sb rb g g' w' π π' L L' ∧ Stp X Y w w' := by
  obtain ⟨β, γ, ρ, h1, h2, h3, h4, h5, h6, h7, h8⟩ := h
  refine (hc β h1.mem h2 (bl_max h4 h2) h5 h1.ax).mono ?_
  rintro e w' ⟨rfl, β', hM, hS⟩
  obtain ⟨k1, k2⟩ := h1.pgo hM hS
  exact ⟨rfl, _, ⟨β', γ, ρ, k1, h2, hw', h4, hS.sb.trans h5, h6, hS.g.trans h7, h8⟩, k2⟩
theorem Sm.r {F : Nat} {args : Array Value} {R : Value} (h : Sm X sb rb g g' w π π' L L')
    (hc : ∀ γ ρ, Ms w γ ρ → Sim π ρ L → Wf π L → γ.sb = rb → (∀ i, ft γ ρ i → X i) → Calls Try.prog F args w fun e w' => e = .returned R ∧ Nr w γ ρ π' L' w') :
    Calls Try.prog F args w fun e w' => e = .returned R ∧ ∃ Y, Sm Y sb rb g g' w' π' π' L' L' ∧ Stp X Y w w' := by
  obtain ⟨β, γ, ρ, h1, h2, h3, h4, h5, h6, h7, h8⟩ := h
  refine (hc γ ρ h1.ms h4 h2 h6 h1.rx).mono ?_
  rintro e w' ⟨rfl, γ', ρ', hM, hs, hG⟩
  obtain ⟨k1, k2⟩ := h1.rgo hM hG
  exact ⟨rfl, _, ⟨β, γ', ρ', k1, h3, h3, hs, h5, hG.sb.trans h6, h7, hG.g.trans h8⟩, k2⟩

/-! the calls -/
theorem pAlloc (h : Sm X sb rb g g' w π π L L) (c : Int) (hm : L + 3000 ≤ 99000000) : Calls Try.prog 10 #[.pointer (some ⟨sb, 0, none⟩), .int .i64 c] w fun e w' => e = .returned (.tuple #[.int .i64 (alC π c), .int .i64 (alOk π c : Nat)]) ∧ ∃ Y, Sm Y sb rb g g' w' π (alS π c) L (L + 2000) ∧ Stp X Y w w' :=
  h.p (h.wf.alS c (by omega)) (fun β hM hW _ e _ => by subst e; exact alloc_any hM hW c (by omega))
theorem qAlloc {c : Int} (h : Sm X sb rb g g' w π (alS π c) L (L + 2000)) (hm : L + 3000 ≤ 99000000) : Calls Try.prog 43 #[.pointer (some ⟨rb, 0, none⟩), .int .i64 c] w fun e w' => e = .returned (.tuple #[.int .i64 (alC π c), .int .i64 (alOk π c : Nat)]) ∧ ∃ Y, Sm Y sb rb g g' w' (alS π c) (alS π c) (L + 2000) (L + 2000) ∧ Stp X Y w w' :=
  h.r (fun γ ρ hM hs hW e _ => by subst e; exact alloc_sim hM hs hW c hm)
theorem pFree (h : Sm X sb rb g g' w π π L L) (c : Int) (hc : c ≤ 9223372036854775807) (hm : L + 3000 ≤ 99000000) : Calls Try.prog 12 #[.pointer (some ⟨sb, 0, none⟩), .int .i64 c] w fun e w' => e = .returned (.int .i64 (frE π c : Nat)) ∧ ∃ Y, Sm Y sb rb g g' w' π (frS π c) L (L + 2000) ∧ Stp X Y w w' :=
  h.p (h.wf.frS c (by omega)) (fun β hM hW _ e _ => by subst e; exact free_any hM hW c hc (by omega))
theorem qFree {c : Int} (h : Sm X sb rb g g' w π (frS π c) L (L + 2000)) (hm : L + 3000 ≤ 99000000) : Calls Try.prog 44 #[.pointer (some ⟨rb, 0, none⟩), .int .i64 c] w fun e w' => e = .returned (.int .i64 (frE π c : Nat)) ∧ ∃ Y, Sm Y sb rb g g' w' (frS π c) (frS π c) (L + 2000) (L + 2000) ∧ Stp X Y w w' :=
  h.r (fun γ ρ hM hs hW e _ => by subst e; exact free_sim hM hs hW c (by omega))
theorem pClose (h : Sm X sb rb g g' w π π L L) (p : Int) (hp : -9223372036854775808 ≤ p ∧ p ≤ 9223372036854775807) (hm : L + 3000 ≤ 99000000) : Calls Try.prog 15 #[.pointer (some ⟨sb, 0, none⟩), .int .i64 p] w fun e w' => e = .returned (.int .i64 (clE π p : Nat)) ∧ ∃ Y, Sm Y sb rb g g' w' π (clS π p) L (L + 2000) ∧ Stp X Y w w' :=
  h.p (h.wf.clS p (by omega)) (fun β hM hW _ e _ => by subst e; exact close_any hM hW p hp (by omega))
theorem qClose {p : Int} (h : Sm X sb rb g g' w π (clS π p) L (L + 2000)) (hm : L + 3000 ≤ 99000000) : Calls Try.prog 45 #[.pointer (some ⟨rb, 0, none⟩), .int .i64 p] w fun e w' => e = .returned (.int .i64 (clE π p : Nat)) ∧ ∃ Y, Sm Y sb rb g g' w' (clS π p) (clS π p) (L + 2000) (L + 2000) ∧ Stp X Y w w' :=
  h.r (fun γ ρ hM hs hW e _ => by subst e; exact close_sim hM hs hW p (by omega))
theorem pOpen (h : Sm X sb rb g g' w π π L L) (p : Int) (hp : -9223372036854775808 ≤ p ∧ p ≤ 9223372036854775807) (hm : L + 3000 ≤ 99000000) : Calls Try.prog 18 #[.pointer (some ⟨sb, 0, none⟩), .int .i64 p] w fun e w' => e = .returned (.int .i64 (opE π p : Nat)) ∧ ∃ Y, Sm Y sb rb g g' w' π (opS π p) L (L + 2000) ∧ Stp X Y w w' :=
  h.p (h.wf.opS p (by omega)) (fun β hM hW _ e _ => by subst e; exact open_any hM hW p hp (by omega))
theorem qOpen {p : Int} (h : Sm X sb rb g g' w π (opS π p) L (L + 2000)) (hm : L + 3000 ≤ 99000000) : Calls Try.prog 46 #[.pointer (some ⟨rb, 0, none⟩), .int .i64 p] w fun e w' => e = .returned (.int .i64 (opE π p : Nat)) ∧ ∃ Y, Sm Y sb rb g g' w' (opS π p) (opS π p) (L + 2000) (L + 2000) ∧ Stp X Y w w' :=
  h.r (fun γ ρ hM hs hW e _ => by subst e; exact open_sim hM hs hW p (by omega))
theorem pMove (h : Sm X sb rb g g' w π π L L) (p c : Int) (hp : -9223372036854775808 ≤ p ∧ p ≤ 9223372036854775807) (hm : L + 3000 ≤ 99000000) : Calls Try.prog 16 #[.pointer (some ⟨sb, 0, none⟩), .int .i64 p, .int .i64 c] w fun e w' => e = .returned (.int .i64 (mvE π p c : Nat)) ∧ ∃ Y, Sm Y sb rb g g' w' π (mvS π p c) L (L + 2000) ∧ Stp X Y w w' :=
  h.p (h.wf.mvS p c (by omega)) (fun β hM hW _ e _ => by subst e; exact move_any hM hW p c hp (by omega))
theorem qMove {p c : Int} (h : Sm X sb rb g g' w π (mvS π p c) L (L + 2000)) (hm : L + 3000 ≤ 99000000) : Calls Try.prog 47 #[.pointer (some ⟨rb, 0, none⟩), .int .i64 p, .int .i64 c] w fun e w' => e = .returned (.int .i64 (mvE π p c : Nat)) ∧ ∃ Y, Sm Y sb rb g g' w' (mvS π p c) (mvS π p c) (L + 2000) (L + 2000) ∧ Stp X Y w w' :=
  h.r (fun γ ρ hM hs hW e _ => by subst e; exact move_sim hM hs hW p c (by omega))
theorem pPut (h : Sm X sb rb g g' w π π L L) (ch : Int) (hch : ch ≤ 9223372036854775807) (A : Option Addr) (n cap : Nat) (l : List Int) (hln : l.length = n) (hl : n ≤ 1000000) (hv : ∀ w', Tch X w w' → RB w' (.slice A n cap) l) :
    Calls Try.prog 22 #[.pointer (some ⟨sb, 0, none⟩), .int .i64 ch, .slice A n cap] w fun e w' => e = .returned (.int .i64 (ptOk π ch n : Nat)) ∧ ∃ Y, Sm Y sb rb g g' w' π (ptS π ch l) L L ∧ Stp X Y w w' :=
  h.p (h.wf.ptS ch l) (fun β hM hW hb e hx => by subst e; exact put_any hM hW ch hch A n cap l hln hl hb (fun w' ht => hv w' (ht.mono hx)))
theorem qPut {ch : Int} {l : List Int} (h : Sm X sb rb g g' w π (ptS π ch l) L L) (A : Option Addr) (n cap : Nat) (hln : l.length = n) (hby : ∀ x ∈ l, 0 ≤ x ∧ x ≤ 255) (hv : ∀ w', Tch X w w' → RB w' (.slice A n cap) l) :
    Calls Try.prog 48 #[.pointer (some ⟨rb, 0, none⟩), .int .i64 ch, .slice A n cap] w fun e w' => e = .returned (.int .i64 (ptOk π ch n : Nat)) ∧ ∃ Y, Sm Y sb rb g g' w' (ptS π ch l) (ptS π ch l) L L ∧ Stp X Y w w' :=
  h.r (fun γ ρ hM hs hW e hx => by subst e; exact put_sim hM hs hW ch A n cap l hln hby (fun w' ht => hv w' (ht.mono hx)))
theorem pGet (h : Sm X sb rb g g' w π π L L) (ch n : Int) (hch : ch ≤ 9223372036854775807) (hn : -9223372036854775808 ≤ n ∧ n ≤ 9223372036854775807) :
    Calls Try.prog 23 #[.pointer (some ⟨sb, 0, none⟩), .int .i64 ch, .int .i64 n] w fun e w' => ∃ v Y, e = .returned (.tuple #[v, .int .i64 (gtOk π ch n : Nat)]) ∧ w'.ownsRow w.heap.size 5 1 v (gtL π ch n).length ((gtL π ch n).map (.int .u8)) ∧ (∀ b, v.ownBlock = some b → ¬ Y b) ∧ Sm Y sb rb g g' w' π (gtS π ch n) L L ∧ Stp X Y w w' := by
  obtain ⟨β, γ, ρ, h1, h2, h3, h4, h5, h6, h7, h8⟩ := h
  subst h5
  refine (get_any h1.mem h2 ch n hch hn.1 hn.2 (bl_max h4 h2)).mono ?_
  rintro e w' ⟨v, B, β', rfl, hB, ho, hM, hS, hlt⟩
  obtain ⟨k1, k2⟩ := h1.pgo hM hS
  refine ⟨v, _, rfl, R6.own_mono ho hB, fun b hb hx => ?_, ⟨β', γ, ρ, k1, h2, h2.gtS ch n, h4, hS.sb, h6, hS.g.trans h7, h8⟩, k2⟩
  have h9 := (ho.lt b hb).1
  rcases hx with h10 | h10
  · have := hlt b h10; omega
  · have := h1.xl b (h1.rx b h10); omega
theorem qGet {ch n : Int} (h : Sm X sb rb g g' w π (gtS π ch n) L L) :
    Calls Try.prog 49 #[.pointer (some ⟨rb, 0, none⟩), .int .i64 ch, .int .i64 n] w fun e w' => ∃ v Y, e = .returned (.tuple #[v, .int .i64 (gtOk π ch n : Nat)]) ∧ RB w' v (gtL π ch n) ∧ Sm Y sb rb g g' w' (gtS π ch n) (gtS π ch n) L L ∧ Stp X Y w w' := by
  obtain ⟨β, γ, ρ, h1, h2, h3, h4, h5, h6, h7, h8⟩ := h
  subst h6
  refine (get_sim h1.ms h4 h2 ch n).mono ?_
  rintro e w' ⟨v, rfl, hr, γ', ρ', hM, hs, hG⟩
  obtain ⟨k1, k2⟩ := h1.rgo hM hG
  exact ⟨v, _, rfl, hr, ⟨β, γ', ρ', k1, h3, h3, hs, h5, hG.sb, h7, hG.g.trans h8⟩, k2⟩

/-! what is told -/
theorem tChunks (h : Sm X sb rb g g' w π π L L) (p : Int) (hp : -9223372036854775808 ≤ p ∧ p ≤ 9223372036854775807) :
    Calls Try.prog 17 #[.pointer (some ⟨sb, 0, none⟩), .int .i64 p] w fun e w' => ∃ v, e = .returned v ∧ w'.ownsRow w.heap.size 3 1 v (chL π p).length ((chL π p).map (.int .i64)) ∧ Below w.heap.size w w' := by
  obtain ⟨β, γ, ρ, h1, h2, h3, h4, rfl, _⟩ := h
  exact Go.Proofs.Ytfmgncajhjkdlaa.chunks_any h1.mem h2 p hp
theorem uChunks (h : Sm X sb rb g g' w π π L L) (p : Int) :
    Calls Try.prog 50 #[.pointer (some ⟨rb, 0, none⟩), .int .i64 p] w fun e w' => ∃ v, e = .returned v ∧ w'.ownsRow w.heap.size 3 1 v (chL π p).length ((chL π p).map (.int .i64)) ∧ Below w.heap.size w w' := by
  obtain ⟨β, γ, ρ, h1, h2, h3, h4, h5, rfl, _⟩ := h
  exact chunks_sim h1.ms h4 h2 p rfl
theorem tWhere (h : Sm X sb rb g g' w π π L L) (ch : Int) (hc : ch ≤ 9223372036854775807) {p a s : Int} (hr : whP π ch = p ∧ whA π ch = a ∧ whS π ch = s) :
    Calls Try.prog 13 #[.pointer (some ⟨sb, 0, none⟩), .int .i64 ch] w fun e w' => e = .returned (.tuple #[.int .i64 p, .int .i64 a, .int .i64 s]) ∧ ∃ n, w' = w.drewN n := by
  obtain ⟨β, γ, ρ, h1, h2, h3, h4, rfl, _⟩ := h
  obtain ⟨rfl, rfl, rfl⟩ := hr
  exact where_any h1.mem h2 ch hc
theorem uWhere (h : Sm X sb rb g g' w π π L L) (ch : Int) {p a s : Int} (hr : whP π ch = p ∧ whA π ch = a ∧ whS π ch = s) :
    Calls Try.prog 51 #[.pointer (some ⟨rb, 0, none⟩), .int .i64 ch] w fun e w' => e = .returned (.tuple #[.int .i64 p, .int .i64 a, .int .i64 s]) ∧ ∃ n, w' = w.drewN n := by
  obtain ⟨β, γ, ρ, h1, h2, h3, h4, h5, rfl, _⟩ := h
  exact where_sim h1.ms h4 h2 ch hr
theorem tUsed (h : Sm X sb rb g g' w π π L L) (ch : Int) (hc : ch ≤ 9223372036854775807) {b : Bool} (hb : usedP π ch = b) :
    Calls Try.prog 11 #[.pointer (some ⟨sb, 0, none⟩), .int .i64 ch] w fun e w' => e = .returned (.bool b) ∧ w = w' := by
  obtain ⟨β, γ, ρ, h1, h2, h3, h4, rfl, _⟩ := h
  subst hb
  exact Go.Proofs.Ytfmgncajhjkdlaa.used_any h1.mem h2 ch hc
theorem uUsed (h : Sm X sb rb g g' w π π L L) (ch : Int) {b : Bool} (hb : usedP π ch = b) :
    Calls Try.prog 52 #[.pointer (some ⟨rb, 0, none⟩), .int .i64 ch] w fun e w' => e = .returned (.bool b) ∧ w = w' := by
  obtain ⟨β, γ, ρ, h1, h2, h3, h4, h5, rfl, _⟩ := h
  exact used_sim h1.ms h4 h2 ch hb
theorem tCounts (h : Sm X sb rb g g' w π π L L) (c : Int) {p u f : Int} (hr : coP π c = p ∧ coU π c = u ∧ coF π c = f) :
    Calls Try.prog 14 #[.pointer (some ⟨sb, 0, none⟩), .int .i64 c] w fun e w' => e = .returned (.tuple #[.int .i64 p, .int .i64 u, .int .i64 f]) ∧ Below w.heap.size w w' := by
  obtain ⟨β, γ, ρ, h1, h2, h3, h4, rfl, _⟩ := h
  obtain ⟨rfl, rfl, rfl⟩ := hr
  exact counts_any h1.mem h2 c
theorem uCounts (h : Sm X sb rb g g' w π π L L) (c : Int) {p u f : Int} (hr : coP π c = p ∧ coU π c = u ∧ coF π c = f) :
    Calls Try.prog 53 #[.pointer (some ⟨rb, 0, none⟩), .int .i64 c] w fun e w' => e = .returned (.tuple #[.int .i64 p, .int .i64 u, .int .i64 f]) ∧ Below w.heap.size w w' := by
  obtain ⟨β, γ, ρ, h1, h2, h3, h4, h5, rfl, _⟩ := h
  exact counts_sim h1.ms h4 h2 c hr
/-- the document's sizes and used chunks, in memory -/
theorem Sm.see (h : Sm X sb rb g g' w π π L L) : ∃ (vz vt : Value) (tk : List Int), w.cell? ⟨rb, 1, none⟩ = some vz ∧ w.cell? ⟨rb, 3, none⟩ = some vt ∧ RI w vz π.sz ∧ RI w vt tk ∧ (∀ x, x ∈ tk ↔ usedP π x = true) ∧ tk.length ≤ L := by
  obtain ⟨β, γ, ρ, h1, h2, h3, h4, h5, rfl, _⟩ := h
  exact ⟨γ.vz, γ.vt, ρ.tk, h1.ms.s1, h1.ms.s3, by rw [← h4.sz]; exact h1.ms.szR, h1.ms.tkR, h4.tk, h4.tkl⟩
end
end Go.Proofs.Ytfmgncajhjkdlaa.R7
/- what both slabs tell of their classes: the walk. -/
namespace Go.Proofs.Ytfmgncajhjkdlaa.R7
open Go.RowKit Go.PlainAid
open SP
set_option linter.unusedVariables false
set_option linter.unusedSimpArgs false

set_option maxRecDepth 100000 in
set_option maxHeartbeats 2000000 in
theorem tell_any {w : World} {X : Nat → Prop} {sb rb g g' : Nat} {π : Pi} {L : Nat} (h : Sm X sb rb g g' w π π L L) :
    Calls Try.prog 27 #[.pointer (some ⟨sb, 0, none⟩), .pointer (some ⟨rb, 0, none⟩)] w fun e w' => e = .returned (.bool true) ∧ Below w.heap.size w w' := by
  have HS := Lib.hid h
  have hk1 := h.wf.k1
  obtain ⟨n, hn⟩ : ∃ n, π.sz.length = n := ⟨_, rfl⟩
  rw [hn] at hk1
  have Hn := Lib.hid hn
  clear h hn
  go_enter Try.func27, Try.ntmps27
  go_wp2_with (fail)
  go_loopw [5] (fun i wr => ∃ j : Nat, j ≤ n + 2 ∧ i = .int .i64 ((j : Int) - 1) ∧ Hid (Sm X sb rb g g' wr π π L L) ∧ Hid (Below w.heap.size w wr)) (fun i _ => n + 2 - (intOf i + 1).toNat)
  case atStart => exact ⟨0, by omega, rfl, HS, Lib.hid (Below.refl _ _)⟩
  case round =>
    obtain ⟨j, hj, rfl, hS, hB⟩ := hrel
    obtain ⟨vz, vt, tk, s1, s3, hvz, hvt, _, _⟩ := hS.out.see
    obtain ⟨az, cz, rfl, _⟩ := hvz
    rw [Hn.out] at s1
    clear s3 hvt
    by_cases hlt : (j : Int) - 1 ≤ (n : Int)
    · obtain ⟨c, hc⟩ : ∃ c : Int, (j : Int) - 1 = c := ⟨_, rfl⟩
      obtain ⟨p, hp⟩ : ∃ p, coP π c = p := ⟨_, rfl⟩
      obtain ⟨u, hu⟩ : ∃ u, coU π c = u := ⟨_, rfl⟩
      obtain ⟨f, hf⟩ : ∃ f, coF π c = f := ⟨_, rfl⟩
      have Hc := Lib.hid (And.intro hp (And.intro hu hf))
      have Hcj := Lib.hid hc
      have hw1 : IntKind.i64.wrap (c + 1) = c + 1 := IntWalk.i64_in _ (by omega)
      rw [hc] at hlt ⊢
      clear hp hu hf hc
      go_wp2_with (fail)
      refine (tCounts hS.out c Hc.out).mono ?_
      rintro e w1 ⟨rfl, hb1⟩
      have HS1 := Lib.hid (hS.out.below hb1)
      have HB1 := Lib.hid (hB.out.trans (hb1.mono hB.out.size))
      clear hb1 s1
      go_wp2_with (fail)
      refine (uCounts HS1.out c Hc.out).mono ?_
      rintro e w2 ⟨rfl, hb2⟩
      have HS2 := Lib.hid (HS1.out.below hb2)
      have HB2 := Lib.hid (HB1.out.trans (hb2.mono HB1.out.size))
      clear hb2
      go_wp2_with (fail)
      go_roundw
      case rel => exact ⟨j + 1, by have := Hcj.out; omega, by have := Hcj.out; congr 1; omega, HS2, HB2⟩
      case measure => have := Hcj.out; simp only [intOf]; omega
    · go_wp2_with (fail)
      go_ret
      exact ⟨rfl, hB.out⟩
end Go.Proofs.Ytfmgncajhjkdlaa.R7
