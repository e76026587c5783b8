/- several texts in one: Qla, Qfe, Qcl, Qwh, Qmv. -/
import Derived.Test.YtfmgncajhjkdlaaVb
import Derived.BigRegion
/- the document's slab: a chunk appended to a class's row; a page's free chunks laid. -/
namespace Go.Proofs.Ytfmgncajhjkdlaa.R7
open Go.RowKit Go.PlainAid
open SP
set_option linter.unusedVariables false
set_option linter.unusedSimpArgs false

/-- what an append to a class's row does -/
theorem Ms.app {W X1 : World} {γ : Gk} {ρ : Rp} (h : Ms W γ ρ) (h2 : ρ.rows.length = ρ.sz.length) {c : Nat} (hc : c < ρ.sz.length) {v : Value} {l : List Int} (hl : ρ.rows[c]? = some l) (hv : γ.rv[c]? = some v) (x : Int) (hX1 : (W.alloc (.cells #[.int .i64 x] 3)).drew = X1) :
    X1.heap.size = W.heap.size + 1 ∧ W.drew.cell? ⟨γ.sb, 2, none⟩ = some (.slice (some ⟨γ.rb, 0, none⟩) ρ.sz.length γ.rc) ∧ W.drew.cell? ⟨γ.rb, c, none⟩ = some v ∧ X1.cell? ⟨γ.sb, 2, none⟩ = some (.slice (some ⟨γ.rb, 0, none⟩) ρ.sz.length γ.rc) ∧ X1.cell? ⟨γ.rb, c, none⟩ = some v ∧
    X1.ownsRow 0 3 1 v l.length (l.map (.int .i64)) ∧ X1.heap[W.heap.size]? = some (.cells #[.int .i64 x] 3 (0, 0)) ∧
    ∀ g' N1 cap' w1, l.length + 1 = N1 → w1.ownsRow 0 3 1 (.slice (some ⟨g', 0, none⟩) N1 cap') N1 (l.map (.int .i64) ++ [.int .i64 x]) → X1.grownBy w1 v.ownBlock → (v.ownBlock = some g' ∨ g' = W.heap.size + 1) → g' < w1.heap.size →
      w1.cell? ⟨γ.rb, c, none⟩ = some v ∧ w1.frozen? ⟨γ.rb, c, none⟩ = false ∧ w1.cell? ⟨γ.sb, 2, none⟩ = some (.slice (some ⟨γ.rb, 0, none⟩) ρ.sz.length γ.rc) ∧
      (w1.setCell ⟨γ.rb, c, none⟩ (.slice (some ⟨g', 0, none⟩) N1 cap')).cell? ⟨γ.sb, 2, none⟩ = some (.slice (some ⟨γ.rb, 0, none⟩) ρ.sz.length γ.rc) ∧
      Ms (w1.setCell ⟨γ.rb, c, none⟩ (.slice (some ⟨g', 0, none⟩) N1 cap')) { γ with rv := γ.rv.set c (.slice (some ⟨g', 0, none⟩) N1 cap') } { ρ with rows := ρ.rows.set c (l ++ [x]) } ∧
      Go W γ ρ (w1.setCell ⟨γ.rb, c, none⟩ (.slice (some ⟨g', 0, none⟩) N1 cap')) { γ with rv := γ.rv.set c (.slice (some ⟨g', 0, none⟩) N1 cap') } { ρ with rows := ρ.rows.set c (l ++ [x]) } := by
  have hXs : X1.heap.size = W.heap.size + 1 := by rw [← hX1]; simp
  have hBX : Below W.heap.size W X1 := by rw [← hX1]; exact ((Below.refl _ W).alloc (Nat.le_refl _) _).drew
  have hro : W.ownsRow 0 3 1 v l.length (l.map (.int .i64)) := h.lie (.row c) v l hv hl
  have hrows : W.ownsRow 0 22 1 (.slice (some ⟨γ.rb, 0, none⟩) ρ.sz.length γ.rc) ρ.sz.length γ.rv := h.lie .rows
  have hrc : W.cell? ⟨γ.rb, c, none⟩ = some v := by rw [World.ownsRow.cellAt hrows c (by omega), hv]
  have hrbl := h.lt .rows _ rfl
  have hsbl := h.lt .sl _ rfl
  have hvrb : some γ.rb ≠ v.ownBlock := fun e => by have := h.inj .rows (.row c) γ.rb rfl ⟨v, hv, e.symm⟩; cases this
  have hsr : γ.sb ≠ γ.rb := fun e => by have := h.inj .sl .rows γ.sb rfl e; cases this
  have hvsb : some γ.sb ≠ v.ownBlock := fun e => by have := h.inj .sl (.row c) γ.sb rfl ⟨v, hv, e.symm⟩; cases this
  have hX2 : X1.cell? ⟨γ.sb, 2, none⟩ = some (.slice (some ⟨γ.rb, 0, none⟩) ρ.sz.length γ.rc) := (hBX.cell (p := ⟨γ.sb, 2, none⟩) hsbl).trans h.s2
  have hX5 : X1.cell? ⟨γ.rb, c, none⟩ = some v := (hBX.cell (p := ⟨γ.rb, c, none⟩) hrbl).trans hrc
  have hro1 : X1.ownsRow 0 3 1 v l.length (l.map (.int .i64)) := own_tchB hro (Tch.of_below (fun _ => False) hBX) (fun _ _ x => x)
  have hrowX : X1.ownsRow 0 22 1 (.slice (some ⟨γ.rb, 0, none⟩) ρ.sz.length γ.rc) ρ.sz.length γ.rv := own_tchB hrows (Tch.of_below (fun _ => False) hBX) (fun _ _ x => x)
  refine ⟨hXs, h.s2, hrc, hX2, hX5, hro1, by rw [← hX1]; exact World.alloc_heap_new W _, fun g' N1 cap' w1 hN1 hown1 hgr1 hat1 hlt1 => ?_⟩
  have hrw1 : w1.ownsRow 0 22 1 (.slice (some ⟨γ.rb, 0, none⟩) ρ.sz.length γ.rc) ρ.sz.length γ.rv := own_tchB hrowX (Tch.of_grown hgr1) (fun b hb hx => hvrb (by rw [show b = γ.rb by simpa [Value.ownBlock] using hb.symm] at hx; exact hx.symm))
  have hw2 : w1.cell? ⟨γ.sb, 2, none⟩ = some (.slice (some ⟨γ.rb, 0, none⟩) ρ.sz.length γ.rc) := (hgr1.cell_far ⟨γ.sb, 2, none⟩ (by show γ.sb < _; omega) hvsb).trans hX2
  have hst := (hrw1.stored c (.slice (some ⟨g', 0, none⟩) N1 cap')).1
  have hgrb : g' ≠ γ.rb := by
    rcases hat1 with e | e
    · intro e'; exact hvrb (by rw [e, e'])
    · omega
  have hfin := h.setRow hc hv (T := fun b => b = γ.rb ∨ v.ownBlock = some b) (((Tch.of_below (fun b => b = γ.rb ∨ v.ownBlock = some b) hBX).trans (Tch.of_grown hgr1) (fun b hb => .inl (.inr hb))).trans (Tch.setCell w1 γ.rb c _) (fun b hb => .inl (.inl hb))) (fun b hb => hb) hst
    (l' := l ++ [x]) (by
      rw [show (l ++ [x]).length = N1 by simp; omega, List.map_append]
      exact own_tchB hown1 (Tch.setCell w1 γ.rb c (.slice (some ⟨g', 0, none⟩) N1 cap')) (fun b hb hx => hgrb ((show g' = b by simpa [Value.ownBlock] using hb).trans hx)))
    (fun b hb => by
      have e : g' = b := by simpa [Value.ownBlock] using hb
      subst e
      rcases hat1 with e | e
      · exact .inl e
      · exact .inr (by omega))
  exact ⟨(hgr1.cell_far ⟨γ.rb, c, none⟩ (by show γ.rb < _; omega) hvrb).trans hX5, hrw1.frozenAt c, hw2, (World.cell?_setCell_far _ _ _ _ (by show γ.rb ≠ γ.sb; exact fun e => hsr e.symm)).trans hw2, hfin.1, hfin.2⟩

/-- the chunks that are laid, from the last place down to the j-th -/
def lyD (tk : List Int) (p j P : Nat) : List Int := ((List.range' j (P - j)).reverse.filter (fun i => decide (((p * 4096 + i : Nat) : Int) ∉ tk))).map (fun i => ((p * 4096 + i : Nat) : Int))
theorem lyD_top (tk : List Int) (p P : Nat) : lyD tk p P P = [] := by simp [lyD]
theorem lyD_range {j P : Nat} (h : j < P) : (List.range' j (P - j)).reverse = (List.range' (j + 1) (P - (j + 1))).reverse ++ [j] := by
  rw [show P - j = (P - (j + 1)) + 1 by omega, List.range'_succ, List.reverse_cons]
theorem lyD_yes {tk : List Int} {p j P : Nat} (h : j < P) (hn : ((p * 4096 + j : Nat) : Int) ∉ tk) : lyD tk p j P = lyD tk p (j + 1) P ++ [((p * 4096 + j : Nat) : Int)] := by
  unfold lyD
  rw [lyD_range h, List.filter_append, List.map_append]
  simp only [List.filter_cons, List.filter_nil, hn, not_false_eq_true, decide_true, if_true, List.map_cons, List.map_nil]
theorem lyD_no {tk : List Int} {p j P : Nat} (h : j < P) (hn : ((p * 4096 + j : Nat) : Int) ∈ tk) : lyD tk p j P = lyD tk p (j + 1) P := by
  unfold lyD
  rw [lyD_range h, List.filter_append, List.map_append]
  simp only [List.filter_cons, List.filter_nil, hn, not_true_eq_false, decide_false, Bool.false_eq_true, if_false, List.map_nil, List.append_nil]
theorem lyD_len (tk : List Int) (p j P : Nat) : (lyD tk p j P).length ≤ P := by
  unfold lyD
  rw [List.length_map]
  have := List.length_filter_le (fun i => decide (((p * 4096 + i : Nat) : Int) ∉ tk)) (List.range' j (P - j)).reverse
  rw [List.length_reverse, List.length_range'] at this
  omega
def rowR (ρ : Rp) (c : Nat) (l : List Int) : Rp := { ρ with rows := ρ.rows.set c l }
theorem rowR_rowR (ρ : Rp) (c : Nat) (l l' : List Int) : rowR (rowR ρ c l) c l' = rowR ρ c l' := by unfold rowR; simp [List.set_set]
theorem rowR_at {ρ : Rp} {c : Nat} {l : List Int} (hc : c < ρ.rows.length) : (rowR ρ c l).rows[c]? = some l := by unfold rowR; simp [hc]
theorem rowR_sz (ρ : Rp) (c : Nat) (l : List Int) : (rowR ρ c l).sz = ρ.sz := rfl
theorem rowR_same {ρ : Rp} {c : Nat} {l : List Int} (hl : ρ.rows[c]? = some l) : rowR ρ c l = ρ := by
  have : ρ.rows.set c l = ρ.rows := by
    apply List.ext_getElem?
    intro i
    by_cases hi : c = i
    · subst hi
      have hcl : c < ρ.rows.length := by
        rcases Nat.lt_or_ge c ρ.rows.length with h | h
        · exact h
        · rw [List.getElem?_eq_none h] at hl; cases hl
      rw [List.getElem?_set_self hcl, hl]
    · rw [List.getElem?_set_ne hi]
  unfold rowR; rw [this]

set_option maxRecDepth 100000 in
set_option maxHeartbeats 2000000 in
theorem lay_any {w : World} {γ : Gk} {ρ : Rp} (h : Ms w γ ρ) (hk : 1 ≤ ρ.sz.length ∧ ρ.sz.length ≤ 63) (hsz : ∀ x ∈ ρ.sz, 64 ≤ x ∧ x ≤ ρ.S) (hrl : ρ.rows.length = ρ.sz.length) (htk : ρ.tk.length ≤ 100000000) (p c P : Nat) (hp : p < 1024) (hown : AP.owner ρ.ow p = c) (hc : c < ρ.sz.length) (hP : perI ρ.sz ρ.S c = P) {l0 : List Int} (hl0 : ρ.rows[c]? = some l0) (hll : l0.length ≤ 99000000) :
    Calls Try.prog 61 #[.pointer (some ⟨γ.sb, 0, none⟩), .int .i64 p] w fun e w' => (∃ v, e = .returned v) ∧ ∃ γ', Ms w' γ' (rowR ρ c (l0 ++ lyD ρ.tk p 0 P)) ∧ Go w γ ρ w' γ' (rowR ρ c (l0 ++ lyD ρ.tk p 0 P)) := by
  have s0 := h.s0
  have s1 := h.s1
  have hS := h.ar.siz
  have c0 := h.ar.c0
  have HO : Hid (Calls Try.prog 65 #[.pointer (some ⟨γ.g, 0, none⟩), .int .i64 p] w fun e w' => e = .returned (.int .i64 c) ∧ w = w') := Lib.hid (by have := R6.rOwner_any h.ar p; rw [hown] at this; exact this)
  have HP : Hid (∀ n, Calls Try.prog 71 #[γ.vz, .int .i64 c, .int .i64 ρ.S] (w.drewN n) fun e w' => e = .returned (.int .i64 P) ∧ w' = w.drewN n) := Lib.hid (fun n => by
    have := (per_any (h.drewN n).szO ρ.S c (by omega) (by omega) hsz)
    rw [hP] at this
    exact this.mono (fun e w' h => ⟨h.1, h.2.symm⟩))
  have hpr := perI_range ρ.sz ρ.S c (by omega) hsz
  rw [hP] at hpr
  have hPP : (P : Int) ≤ 1024 := hpr.2
  have HM := Lib.hid h
  have Hsz := Lib.hid hsz
  have Hl0 := Lib.hid hl0
  have hcr : c < ρ.rows.length := by omega
  have Hcr := Lib.hid hcr
  have Hrl := Lib.hid hrl
  have Hc := Lib.hid hc
  have hcz : (c : Int) < (ρ.sz.length : Int) := by omega
  clear h hown hP hpr hsz hl0 hcr hrl
  go_enter Try.func61, Try.ntmps61
  go_wp2_with (go_at_call 65; refine HO.out.mono ?_; rintro e w' ⟨rfl, rfl⟩)
  go_quiet ((go_at_call 71; exact Calls.quiet_of_same (HP.out _)))
  go_wp2
  clear s0 s1 c0 HO HP
  go_loopw [5, 6] (fun i u wr => ∃ (j : Nat) (γr : Gk), j ≤ P ∧ i = .int .i64 ((j : Int) - 1) ∧ Hid (Ms wr γr (rowR ρ c (l0 ++ lyD ρ.tk p j P))) ∧ Hid (Go w γ ρ wr γr (rowR ρ c (l0 ++ lyD ρ.tk p j P)))) (fun i _ _ => (intOf i + 1).toNat)
  case atStart => exact ⟨P, γ, Nat.le_refl _, rfl, Lib.hid (by rw [lyD_top, List.append_nil, rowR_same Hl0.out]; exact HM.out.drewN _), Lib.hid (by rw [lyD_top, List.append_nil, rowR_same Hl0.out]; exact Go.of_below (below_drewN (Below.refl _ w) _))⟩
  case round =>
    obtain ⟨j, γr, hj, rfl, HR, HG⟩ := hrel
    cases j with
    | zero =>
      go_wp2
      go_end0
      exact ⟨⟨_, rfl⟩, _, HR.out, HG.out⟩
    | succ k =>
      have hk1 : k < P := by omega
      have hki : (k : Int) ≤ 1023 := by omega
      have hpi : (p : Int) ≤ 1023 := by omega
      have hm1 : IntKind.i64.wrap (4096 * (p : Int)) = 4096 * (p : Int) := IntWalk.i64_in _ (by omega)
      have hm2 : IntKind.i64.wrap (4096 * (p : Int) + (k : Int)) = 4096 * (p : Int) + (k : Int) := IntWalk.i64_in _ (by omega)
      have hR := HR.out
      have e1 : γr.sb = γ.sb := HG.out.sb
      have s2 := hR.s2
      rw [e1, rowR_sz] at s2
      have ei : ((k + 1 : Nat) : Int) - 1 = (k : Int) := by omega
      have ec : ((p * 4096 + k : Nat) : Int) = 4096 * (p : Int) + (k : Int) := by omega
      cases hb : decide (((p * 4096 + k : Nat) : Int) ∈ ρ.tk) with
      | true =>
        have HU := Lib.hid (used_any hR htk (4096 * (p : Int) + (k : Int)) true (by rw [← ec]; exact hb))
        rw [e1] at HU
        have Hs := Lib.hid (lyD_no (tk := ρ.tk) (p := p) hk1 (of_decide_eq_true hb))
        rw [ei]
        clear hR hb ei ec
        go_wp2_with (go_at_call 52; refine HU.out.mono ?_; rintro e w' ⟨rfl, rfl⟩)
        go_roundw
        case rel => exact ⟨k, γr, by omega, rfl, by rw [Hs.out]; exact HR, by rw [Hs.out]; exact HG⟩
        case measure => simp [intOf] <;> omega
      | false =>
        have HU := Lib.hid (used_any hR htk (4096 * (p : Int) + (k : Int)) false (by rw [← ec]; exact hb))
        rw [e1] at HU
        have Hs := Lib.hid (lyD_yes (tk := ρ.tk) (p := p) hk1 (of_decide_eq_false hb))
        have hrlr : (rowR ρ c (l0 ++ lyD ρ.tk p (k + 1) P)).rows.length = ρ.sz.length := by simp only [rowR, List.length_set]; exact Hrl.out
        have hlr := rowR_at (ρ := ρ) (l := l0 ++ lyD ρ.tk p (k + 1) P) Hcr.out
        obtain ⟨a, rcap, l1, hl1, hrv, hrc, hro, hfr⟩ := hR.row hrlr c hc
        rw [hlr] at hl1
        cases hl1
        obtain ⟨v, hv⟩ : ∃ v, v = Value.slice a (l0 ++ lyD ρ.tk p (k + 1) P).length rcap := ⟨_, rfl⟩
        rw [← hv] at hrv hrc hro
        obtain ⟨X1, hX1⟩ : ∃ X1, (wr.alloc (.cells #[.int .i64 (4096 * (p : Int) + (k : Int))] 3)).drew = X1 := ⟨_, rfl⟩
        obtain ⟨hXs, hd2, hd5, hX2, hX5, hro1, hblk, HF0⟩ := hR.app hrlr hc hlr hrv _ hX1
        simp only [rowR_sz] at HF0
        have HF := Lib.hid HF0
        rw [e1, rowR_sz] at hd2 hX2
        have hnews := World.news_of_block (w := X1) hblk
        have hlen := lyD_len ρ.tk p (k + 1) P
        have hl63 : (l0 ++ lyD ρ.tk p (k + 1) P).length + 1 ≤ maxLen := by rw [List.length_append]; unfold maxLen; omega
        have hby : ((l0 ++ lyD ρ.tk p (k + 1) P).length + 1) * 8 ≤ 140737488355328 := by rw [List.length_append]; omega
        obtain ⟨i0, hi0, hz0, hz1, hz2⟩ := info_parts intE_info
        have Hl1 : Hid (l0 ++ lyD ρ.tk p k P = (l0 ++ lyD ρ.tk p (k + 1) P) ++ [4096 * (p : Int) + (k : Int)]) := Lib.hid (by rw [Hs.out, ec, List.append_assoc])
        rw [ei]
        have He1 := Lib.hid e1
        clear hR hb ei ec hlr hrv hro hfr hv e1 hblk HF0 hlen hrlr
        generalize hn0 : (l0 ++ lyD ρ.tk p (k + 1) P).length = n0 at *
        have Hn0 := Lib.hid hn0
        clear hn0
        go_wp2_with (go_at_call 52; refine HU.out.mono ?_; rintro e w' ⟨rfl, rfl⟩)
        go_region_law (refine step_append_lies X1 rfl (.tmp 50) (.tmp 55) 22 rfl 0 3 i0 (.int .i64 0) 1 8 Try.underlying22 hi0 hz0 hz1 hz2 rfl (by decide) v _ _ rfl hro1 ⟨wr.heap.size, 0, none⟩ 1 1 [.int .i64 (4096 * (p : Int) + (k : Int))] rfl rfl hnews (by simp [Value.oneCell']) (by omega) hl63 hby (by omega) (wr.heap.size + 1) hXs ?_
                       intro g' cap' w1 hown1 hgr1 hat1 hlt1
                       obtain ⟨N1, hN1⟩ : ∃ N1, n0 + 1 = N1 := ⟨_, rfl⟩
                       rw [hN1] at hown1 ⊢
                       obtain ⟨f1, f2, f3, f5, f4⟩ := HF.out g' N1 cap' w1 hN1 hown1 hgr1 hat1 hlt1
                       rw [He1.out] at f3 f5
                       have Hf4 : Hid (∃ γ2, Ms (w1.setCell ⟨γr.rb, c, none⟩ (.slice (some ⟨g', 0, none⟩) N1 cap')) γ2 (rowR ρ c (l0 ++ lyD ρ.tk p k P)) ∧ Go w γ ρ (w1.setCell ⟨γr.rb, c, none⟩ (.slice (some ⟨g', 0, none⟩) N1 cap')) γ2 (rowR ρ c (l0 ++ lyD ρ.tk p k P))) := Lib.hid (by
                         rw [Hl1.out, ← rowR_rowR ρ c (l0 ++ lyD ρ.tk p (k + 1) P)]
                         exact ⟨_, f4.1, HG.out.trans f4.2⟩)
                       clear f4 hN1)
        all_goals go_wp2
        all_goals go_roundw
        all_goals first
          | exact ⟨k, Hf4.out.choose, by omega, rfl, Lib.hid Hf4.out.choose_spec.1, Lib.hid Hf4.out.choose_spec.2⟩
          | (simp [intOf] <;> omega)
end Go.Proofs.Ytfmgncajhjkdlaa.R7
/- the document's slab: Free; Open; Where. -/
namespace Go.Proofs.Ytfmgncajhjkdlaa.R7
open Go.RowKit Go.PlainAid
open SP
set_option linter.unusedVariables false
set_option linter.unusedSimpArgs false

section
variable {w : World} {γ : Gk} {ρ : Rp} {L : Nat}
theorem own_put {w w1 : World} {sb i : Nat} {v' : Value} {l' : List Int} (hsl : sb < w.heap.size) (ho : w1.ownsRow w.heap.size 3 1 v' l'.length (l'.map (.int .i64))) : (w1.setCell ⟨sb, i, none⟩ v').ownsRow 0 3 1 v' l'.length (l'.map (.int .i64)) :=
  own_tchB (R6.own_mono ho (Nat.zero_le _)) (Tch.setCell w1 sb i v') (fun b hb hx => by
    have := (own_cells ho hb).choose_spec.2.2.1
    have hx' : b = sb := hx
    omega)
/-- the used chunks: a new row stored -/
theorem Ms.putTk {w1 : World} (h : Ms w γ ρ) (hb : Below w.heap.size w w1) {v' : Value} {l' : List Int} (ho : w1.ownsRow w.heap.size 3 1 v' l'.length (l'.map (.int .i64))) :
    Ms (w1.setCell ⟨γ.sb, 3, none⟩ v') { γ with vt := v' } { ρ with tk := l' } ∧ Go w γ ρ (w1.setCell ⟨γ.sb, 3, none⟩ v') { γ with vt := v' } { ρ with tk := l' } := by
  have h0 : w.heap[γ.sb]? = some _ := h.lie .sl
  have hsl := h.lt .sl _ rfl
  have h1 := (hb.block _ hsl).trans h0
  have hs := cells_set h1 v' (i := 3)
  exact h.setTk (T := fun b => b = γ.sb) ((Tch.of_below _ hb).trans (Tch.setCell w1 γ.sb 3 v') (fun b hb => .inl hb)) (fun b hb => .inl hb) hs (own_put hsl ho) (fun b hb => .inr (own_cells ho hb).choose_spec.2.2.1)
/-- the closed pages: a new row stored -/
theorem Ms.putCl {w1 : World} (h : Ms w γ ρ) (hb : Below w.heap.size w w1) {v' : Value} {l' : List Int} (ho : w1.ownsRow w.heap.size 3 1 v' l'.length (l'.map (.int .i64))) :
    Ms (w1.setCell ⟨γ.sb, 4, none⟩ v') { γ with vc := v' } { ρ with cl := l' } ∧ Go w γ ρ (w1.setCell ⟨γ.sb, 4, none⟩ v') { γ with vc := v' } { ρ with cl := l' } := by
  have h0 : w.heap[γ.sb]? = some _ := h.lie .sl
  have hsl := h.lt .sl _ rfl
  have h1 := (hb.block _ hsl).trans h0
  have hs := cells_set h1 v' (i := 4)
  exact h.setCl (T := fun b => b = γ.sb) ((Tch.of_below _ hb).trans (Tch.setCell w1 γ.sb 4 v') (fun b hb => .inl hb)) (fun b hb => .inl hb) hs (own_put hsl ho) (fun b hb => .inr (own_cells ho hb).choose_spec.2.2.1)

theorem free_no (h : Ms w γ ρ) (hr : Rw ρ L) (ch : Int) (hu : ch ∉ ρ.tk) :
    Calls Try.prog 44 #[.pointer (some ⟨γ.sb, 0, none⟩), .int .i64 ch] w fun e w' => e = .returned (.int .i64 8) ∧ w = w' := by
  have HU := Lib.hid (used_any h (by have := hr.tk.1; have := hr.lim; omega) ch false (decide_eq_false hu))
  clear h hr hu
  go_enter Try.func44, Try.ntmps44
  go_wp2_with (go_at_call 52; refine HU.out.mono ?_; rintro e w' ⟨rfl, rfl⟩)
  go_ret
  exact ⟨rfl, rfl⟩

def tkR (ρ : Rp) (l : List Int) : Rp := { ρ with tk := l }
def clR (ρ : Rp) (l : List Int) : Rp := { ρ with cl := l }
set_option maxRecDepth 100000 in
set_option maxHeartbeats 2000000 in
theorem free_cl (h : Ms w γ ρ) (hr : Rw ρ L) (ch : Nat) (hu : (ch : Int) ∈ ρ.tk) (hcl : (ch : Int) / 4096 ∈ ρ.cl) (hch : ch < 4194304) :
    Calls Try.prog 44 #[.pointer (some ⟨γ.sb, 0, none⟩), .int .i64 ch] w fun e w' => e = .returned (.int .i64 0) ∧ ∃ γ', Ms w' γ' (tkR ρ (wo ρ.tk ch)) ∧ Go w γ ρ w' γ' (tkR ρ (wo ρ.tk ch)) := by
  have hLim := hr.lim
  have htl : ρ.tk.length ≤ 100000000 := by have := hr.tk.1; omega
  have hcll : ρ.cl.length ≤ 100000000 := by have := hr.cl.1; omega
  have HU := Lib.hid (used_any h htl ch true (decide_eq_true hu))
  have HW := Lib.hid (without_any h.tkO ch htl)
  have s3 := h.s3
  have hsl := h.lt .sl _ rfl
  have HM := Lib.hid h
  have Hcl := Lib.hid (decide_eq_true hcl)
  have hci : (ch : Int) ≤ 9223372036854775807 := by omega
  clear h hr hu hcl hch
  go_enter Try.func44, Try.ntmps44
  go_wp2_with (first
    | (go_at_call 52; refine HU.out.mono ?_; rintro e w' ⟨rfl, rfl⟩)
    | (go_at_call 62; refine HW.out.mono ?_; rintro e w1 ⟨v1, rfl, ho1, hb1⟩
       have hsz := hb1.size
       obtain ⟨a1, c1, rfl, _⟩ := own_sl ho1
       obtain ⟨n1, hn1⟩ : ∃ n1, (wo ρ.tk ch).length = n1 := ⟨_, rfl⟩
       rw [hn1] at ho1 ⊢
       have M1 := Lib.hid (HM.out.putTk hb1 (l' := wo ρ.tk ch) (by rw [hn1]; exact ho1))
       have k4 : (w1.setCell ⟨γ.sb, 3, none⟩ (.slice a1 n1 c1)).cell? ⟨γ.sb, 4, none⟩ = some γ.vc := M1.out.1.s4
       have k3 := (HM.out.below hb1).s3
       have hf := (HM.out.below hb1).sf 3
       have hcO : (w1.setCell ⟨γ.sb, 3, none⟩ (.slice a1 n1 c1)).ownsRow 0 3 1 γ.vc ρ.cl.length (ρ.cl.map (.int .i64)) := M1.out.1.clO
       have HH := Lib.hid (has_any hcO ((ch : Int) / 4096) true Hcl.out hcll)
       clear hcO hn1 ho1)
    | (go_at_call 63; refine HH.out.mono ?_; rintro e w' ⟨rfl, rfl⟩))
  go_ret
  exact ⟨rfl, _, M1.out⟩

set_option maxRecDepth 100000 in
set_option maxHeartbeats 4000000 in
theorem free_op (h : Ms w γ ρ) (hr : Rw ρ L) (ch : Nat) (hu : (ch : Int) ∈ ρ.tk) (hcl : (ch : Int) / 4096 ∉ ρ.cl) (hch : ch < 4194304) (c : Nat) (hc : clI ρ ch = c) (hcz : c < ρ.sz.length) {l : List Int} (hl : ρ.rows[c]? = some l) (hll : l.length ≤ 99000000) :
    Calls Try.prog 44 #[.pointer (some ⟨γ.sb, 0, none⟩), .int .i64 ch] w fun e w' => e = .returned (.int .i64 0) ∧ ∃ γ', Ms w' γ' (rowR (tkR ρ (wo ρ.tk ch)) c (l ++ [(ch : Int)])) ∧ Go w γ ρ w' γ' (rowR (tkR ρ (wo ρ.tk ch)) c (l ++ [(ch : Int)])) := by
  have hLim := hr.lim
  have htl : ρ.tk.length ≤ 100000000 := by have := hr.tk.1; omega
  have hcll : ρ.cl.length ≤ 100000000 := by have := hr.cl.1; omega
  have HU := Lib.hid (used_any h htl ch true (decide_eq_true hu))
  have HW := Lib.hid (without_any h.tkO ch htl)
  have s3 := h.s3
  have hsl := h.lt .sl _ rfl
  have HM := Lib.hid h
  have Hcl := Lib.hid (decide_eq_false hcl)
  have hci : (ch : Int) ≤ 9223372036854775807 := by omega
  have Hrl := Lib.hid hr.rl
  have HR1 : Hid (Rw (tkR ρ (wo ρ.tk ch)) L) := Lib.hid ⟨hr.k1, hr.sz, hr.rl, hr.rb, ⟨Nat.le_trans (List.length_filter_le _ _) hr.tk.1, fun x hx => hr.tk.2 x ((List.mem_filter.1 hx).1)⟩, hr.cl, hr.own, hr.lim⟩
  have hczi : (c : Int) < (ρ.sz.length : Int) := by omega
  have Hl := Lib.hid hl
  have Hc := Lib.hid hc
  have hl63 : l.length + 1 ≤ maxLen := by unfold maxLen; omega
  obtain ⟨i0, hi0, hz0, hz1, hz2⟩ := info_parts intE_info
  obtain ⟨n0, hn0⟩ : ∃ n0, l.length = n0 := ⟨_, rfl⟩
  rw [hn0] at hl63
  have hby : (n0 + 1) * 8 ≤ 140737488355328 := by omega
  have Hn0 := Lib.hid hn0
  clear h hr hu hcl hch hl hc hll hn0
  go_enter Try.func44, Try.ntmps44
  go_wp2_with (first
    | (go_at_call 52; refine HU.out.mono ?_; rintro e w' ⟨rfl, rfl⟩)
    | (go_at_call 62; refine HW.out.mono ?_; rintro e w1 ⟨v1, rfl, ho1, hb1⟩
       have hsz := hb1.size
       obtain ⟨a1, c1, rfl, _⟩ := own_sl ho1
       obtain ⟨n1, hn1⟩ : ∃ n1, (wo ρ.tk ch).length = n1 := ⟨_, rfl⟩
       rw [hn1] at ho1 ⊢
       have M1 := Lib.hid (HM.out.putTk hb1 (l' := wo ρ.tk ch) (by rw [hn1]; exact ho1))
       have k3 := (HM.out.below hb1).s3
       have hf := (HM.out.below hb1).sf 3
       obtain ⟨W1, hW1⟩ : ∃ W1, w1.setCell ⟨γ.sb, 3, none⟩ (.slice a1 n1 c1) = W1 := ⟨_, rfl⟩
       rw [hW1] at M1
       have k4 : W1.cell? ⟨γ.sb, 4, none⟩ = some γ.vc := M1.out.1.s4
       have hcO : W1.ownsRow 0 3 1 γ.vc ρ.cl.length (ρ.cl.map (.int .i64)) := M1.out.1.clO
       have HH := Lib.hid (has_any hcO ((ch : Int) / 4096) false Hcl.out hcll)
       have HC : Hid (Calls Try.prog 64 #[.pointer (some ⟨γ.sb, 0, none⟩), .int .i64 ch] W1 fun e w' => e = .returned (.int .i64 c) ∧ ∃ n, w' = W1.drewN n) := Lib.hid ((class_any M1.out.1 HR1.out ch hci).mono (fun e w' h => ⟨h.1.trans (congrArg (fun z => Ending.returned (.int .i64 z)) Hc.out), h.2⟩))
       clear hcO hn1 ho1)
    | (go_at_call 63; refine HH.out.mono ?_; rintro e w' ⟨rfl, rfl⟩))
  refine HC.out.mono ?_
  rintro e W2 ⟨rfl, n2, hW2⟩
  have M2 := M1.out.1.drewN n2
  rw [← hW2] at M2
  have G2 := M1.out.2.more (below_drewN (Below.refl _ W1) n2)
  rw [← hW2] at G2
  have k2 : W2.cell? ⟨γ.sb, 2, none⟩ = some (.slice (some ⟨γ.rb, 0, none⟩) ρ.sz.length γ.rc) := M2.s2
  obtain ⟨a, rcap, l1, hl1, hrv, hrc, hro, hfr⟩ := M2.row Hrl.out c hcz
  obtain ⟨v, hv⟩ : ∃ v, v = Value.slice a l1.length rcap := ⟨_, rfl⟩
  rw [← hv] at hrv hrc hro
  obtain ⟨X1, hX1⟩ : ∃ X1, (W2.alloc (.cells #[.int .i64 (ch : Int)] 3)).drew = X1 := ⟨_, rfl⟩
  have e1 : l1 = l := by
    have := hl1.symm.trans (show (tkR ρ (wo ρ.tk ch)).rows[c]? = some l from Hl.out)
    simpa using this
  subst e1
  obtain ⟨hXs, hd2, hd5, hX2, hX5, hro1, hblk, HF0⟩ := M2.app Hrl.out hcz hl1 hrv _ hX1
  rw [Hn0.out] at HF0 hro1
  have HF := Lib.hid HF0
  have hnews := World.news_of_block (w := X1) hblk
  have HG2 := Lib.hid G2
  have hd2' : W2.drew.cell? ⟨γ.sb, 2, none⟩ = some (.slice (some ⟨γ.rb, 0, none⟩) ρ.sz.length γ.rc) := hd2
  have hX2' : X1.cell? ⟨γ.sb, 2, none⟩ = some (.slice (some ⟨γ.rb, 0, none⟩) ρ.sz.length γ.rc) := hX2
  clear M2 G2 hl1 hrv hro hv hblk HF0 hfr hd2 hX2 hW2
  go_wp2_with (fail)
  go_region_law (refine step_append_lies X1 rfl (.tmp 45) (.tmp 47) 22 rfl 0 3 i0 (.int .i64 0) 1 8 Try.underlying22 hi0 hz0 hz1 hz2 rfl (by decide) v _ _ rfl hro1 ⟨W2.heap.size, 0, none⟩ 1 1 [.int .i64 (ch : Int)] rfl rfl hnews (by simp [Value.oneCell']) (by omega) hl63 hby (by omega) (W2.heap.size + 1) hXs ?_
                 intro g' cap' w3 hown1 hgr1 hat1 hlt1
                 obtain ⟨N1, hN1⟩ : ∃ N1, n0 + 1 = N1 := ⟨_, rfl⟩
                 rw [hN1] at hown1 ⊢
                 obtain ⟨f1, f2, f3, f5, f4⟩ := HF.out g' N1 cap' w3 hN1 hown1 hgr1 hat1 hlt1
                 have f3' : w3.cell? ⟨γ.sb, 2, none⟩ = some (.slice (some ⟨γ.rb, 0, none⟩) ρ.sz.length γ.rc) := f3
                 have Hf4 := Lib.hid (And.intro f4.1 (HG2.out.trans f4.2))
                 clear f4 hN1 f3 f5)
  all_goals go_wp2
  all_goals go_ret
  all_goals exact ⟨rfl, _, Hf4.out⟩
end
end Go.Proofs.Ytfmgncajhjkdlaa.R7
/- the document's slab: Close. -/
namespace Go.Proofs.Ytfmgncajhjkdlaa.R7
open Go.RowKit Go.PlainAid
open SP
set_option linter.unusedVariables false
set_option linter.unusedSimpArgs false

section
variable {w : World} {γ : Gk} {ρ : Rp} {L : Nat}
/-- what an append to the closed pages does -/
theorem Ms.appC {W X1 : World} (h : Ms W γ ρ) (x : Int) (hX1 : W.alloc (.cells #[.int .i64 x] 3) = X1) :
    X1.heap.size = W.heap.size + 1 ∧ X1.cell? ⟨γ.sb, 4, none⟩ = some γ.vc ∧ X1.ownsRow 0 3 1 γ.vc ρ.cl.length (ρ.cl.map (.int .i64)) ∧ X1.heap[W.heap.size]? = some (.cells #[.int .i64 x] 3 (0, 0)) ∧
    ∀ g' N1 cap' w1, ρ.cl.length + 1 = N1 → w1.ownsRow 0 3 1 (.slice (some ⟨g', 0, none⟩) N1 cap') N1 (ρ.cl.map (.int .i64) ++ [.int .i64 x]) → X1.grownBy w1 γ.vc.ownBlock → (γ.vc.ownBlock = some g' ∨ g' = W.heap.size + 1) → g' < w1.heap.size →
      w1.cell? ⟨γ.sb, 4, none⟩ = some γ.vc ∧ w1.frozen? ⟨γ.sb, 4, none⟩ = false ∧
      Ms (w1.setCell ⟨γ.sb, 4, none⟩ (.slice (some ⟨g', 0, none⟩) N1 cap')) { γ with vc := .slice (some ⟨g', 0, none⟩) N1 cap' } (R7.clR ρ (ρ.cl ++ [x])) ∧
      Go W γ ρ (w1.setCell ⟨γ.sb, 4, none⟩ (.slice (some ⟨g', 0, none⟩) N1 cap')) { γ with vc := .slice (some ⟨g', 0, none⟩) N1 cap' } (R7.clR ρ (ρ.cl ++ [x])) := by
  have hXs : X1.heap.size = W.heap.size + 1 := by rw [← hX1]; simp
  have hBX : Below W.heap.size W X1 := by rw [← hX1]; exact (Below.refl _ W).alloc (Nat.le_refl _) _
  have hro : W.ownsRow 0 3 1 γ.vc ρ.cl.length (ρ.cl.map (.int .i64)) := h.clO
  have hsbl := h.lt .sl _ rfl
  have hvsb : some γ.sb ≠ γ.vc.ownBlock := fun e => by have := h.inj .sl .cl γ.sb rfl e.symm; cases this
  have hX4 : X1.cell? ⟨γ.sb, 4, none⟩ = some γ.vc := (hBX.cell (p := ⟨γ.sb, 4, none⟩) hsbl).trans h.s4
  have hro1 : X1.ownsRow 0 3 1 γ.vc ρ.cl.length (ρ.cl.map (.int .i64)) := own_tchB hro (Tch.of_below (fun _ => False) hBX) (fun _ _ x => x)
  refine ⟨hXs, hX4, hro1, by rw [← hX1]; exact World.alloc_heap_new W _, fun g' N1 cap' w1 hN1 hown1 hgr1 hat1 hlt1 => ?_⟩
  have h0 : W.heap[γ.sb]? = some _ := h.lie .sl
  have h1 := (hBX.block _ hsbl).trans h0
  have h2 := ((Tch.of_grown hgr1).block γ.sb (by omega) (fun e => hvsb e.symm)).trans h1
  have hs := cells_set h2 (Value.slice (some ⟨g', 0, none⟩) N1 cap') (i := 4)
  have hgsb : g' ≠ γ.sb := by
    rcases hat1 with e | e
    · intro e'; exact hvsb (by rw [e, e'])
    · omega
  have hfin := h.setCl (T := fun b => b = γ.sb ∨ γ.vc.ownBlock = some b) (((Tch.of_below (fun b => b = γ.sb ∨ γ.vc.ownBlock = some b) hBX).trans (Tch.of_grown hgr1) (fun b hb => .inl (.inr hb))).trans (Tch.setCell w1 γ.sb 4 _) (fun b hb => .inl (.inl hb))) (fun b hb => hb) hs
    (l' := ρ.cl ++ [x]) (by
      rw [show (ρ.cl ++ [x]).length = N1 by simp; omega, List.map_append]
      exact own_tchB hown1 (Tch.setCell w1 γ.sb 4 (.slice (some ⟨g', 0, none⟩) N1 cap')) (fun b hb hx => hgsb ((show g' = b by simpa [Value.ownBlock] using hb).trans hx)))
    (fun b hb => by
      have e : g' = b := by simpa [Value.ownBlock] using hb
      subst e
      rcases hat1 with e | e
      · exact .inl e
      · exact .inr (by omega))
  exact ⟨(hgr1.cell_far ⟨γ.sb, 4, none⟩ (by show γ.sb < _; omega) hvsb).trans hX4, by simp [World.frozen?, h2], hfin.1, hfin.2⟩
/-- a class's row: a new row stored -/
theorem Ms.putRow {w1 : World} (h : Ms w γ ρ) {c : Nat} (hc : c < ρ.sz.length) (hb : Below w.heap.size w w1) {v' : Value} {l' : List Int} (ho : w1.ownsRow w.heap.size 3 1 v' l'.length (l'.map (.int .i64))) :
    Ms (w1.setCell ⟨γ.rb, c, none⟩ v') { γ with rv := γ.rv.set c v' } (rowR ρ c l') ∧ Go w γ ρ (w1.setCell ⟨γ.rb, c, none⟩ v') { γ with rv := γ.rv.set c v' } (rowR ρ c l') := by
  have hrl := h.rvl
  obtain ⟨v0, hv⟩ : ∃ v, γ.rv[c]? = some v := ⟨γ.rv[c], List.getElem?_eq_getElem (by omega)⟩
  have hrbl := h.lt .rows _ rfl
  have hrows : w.ownsRow 0 22 1 (.slice (some ⟨γ.rb, 0, none⟩) ρ.sz.length γ.rc) ρ.sz.length γ.rv := h.lie .rows
  have hrow1 : w1.ownsRow 0 22 1 (.slice (some ⟨γ.rb, 0, none⟩) ρ.sz.length γ.rc) ρ.sz.length γ.rv := own_tchB hrows (Tch.of_below (fun _ => False) hb) (fun _ _ x => x)
  have hst := (hrow1.stored c v').1
  exact h.setRow hc hv (T := fun b => b = γ.rb) ((Tch.of_below _ hb).trans (Tch.setCell w1 γ.rb c v') (fun b hb => .inl hb)) (fun b hb => .inl hb) hst (own_put hrbl ho) (fun b hb => .inr (own_cells ho hb).choose_spec.2.2.1)

theorem close_no1 (h : Ms w γ ρ) (hr : Rw ρ L) (p : Int) (hu : p ∈ ρ.cl) :
    Calls Try.prog 45 #[.pointer (some ⟨γ.sb, 0, none⟩), .int .i64 p] w fun e w' => e = .returned (.int .i64 7) ∧ w = w' := by
  have HU := Lib.hid (has_any h.clO p true (decide_eq_true hu) (by have := hr.cl.1; have := hr.lim; omega))
  have HO := Lib.hid (R6.rOwner_any h.ar p)
  have s0 := h.s0
  have s4 := h.s4
  generalize AP.owner ρ.ow p = c at *
  clear h hr hu
  by_cases h0 : c < 0
  all_goals
    go_enter Try.func45, Try.ntmps45
    go_wp2_with (first
      | (go_at_call 63; refine HU.out.mono ?_; rintro e w' ⟨rfl, rfl⟩)
      | (go_at_call 65; refine HO.out.mono ?_; rintro e w' ⟨rfl, rfl⟩))
    go_ret
    exact ⟨rfl, rfl⟩
theorem close_no2 (h : Ms w γ ρ) (hr : Rw ρ L) (p : Int) (hu : AP.owner ρ.ow p < 0) :
    Calls Try.prog 45 #[.pointer (some ⟨γ.sb, 0, none⟩), .int .i64 p] w fun e w' => e = .returned (.int .i64 7) ∧ w = w' := by
  obtain ⟨b, hb⟩ : ∃ b, decide (p ∈ ρ.cl) = b := ⟨_, rfl⟩
  have HU := Lib.hid (has_any h.clO p b hb (by have := hr.cl.1; have := hr.lim; omega))
  have HO := Lib.hid (R6.rOwner_any h.ar p)
  have s0 := h.s0
  have s4 := h.s4
  generalize AP.owner ρ.ow p = c at *
  clear h hr hb
  go_enter Try.func45, Try.ntmps45
  go_wp2_with (first
    | (go_at_call 63; refine HU.out.mono ?_; rintro e w' ⟨rfl, rfl⟩)
    | (go_at_call 65; refine HO.out.mono ?_; rintro e w' ⟨rfl, rfl⟩))
  go_ret
  exact ⟨rfl, rfl⟩

/-- a row but for a page's chunks -/
def neP (l : List Int) (p : Int) : List Int := l.filter (fun x => x / 4096 != p)
theorem neP_yes {l : List Int} {p : Int} {j : Nat} (hj : j < l.length) (h : (l[j]?.getD 0) / 4096 ≠ p) : neP (l.take (j + 1)) p = neP (l.take j) p ++ [l[j]?.getD 0] := by
  unfold neP
  rw [List.take_add_one, List.filter_append, List.getElem?_eq_getElem hj] at *
  simp at h ⊢
  exact h
theorem neP_no {l : List Int} {p : Int} {j : Nat} (hj : j < l.length) (h : (l[j]?.getD 0) / 4096 = p) : neP (l.take (j + 1)) p = neP (l.take j) p := by
  unfold neP
  rw [List.take_add_one, List.filter_append, List.getElem?_eq_getElem hj] at *
  simp at h ⊢
  exact h

set_option maxRecDepth 100000 in
set_option maxHeartbeats 4000000 in
theorem close_yes (h : Ms w γ ρ) (hr : Rw ρ L) (p c : Nat) (hu : (p : Int) ∉ ρ.cl) (hp : p < 1024) (hown : AP.owner ρ.ow p = c) (hc : c < ρ.sz.length) {l : List Int} (hl : ρ.rows[c]? = some l) (hcl : ρ.cl.length ≤ 99000000) :
    Calls Try.prog 45 #[.pointer (some ⟨γ.sb, 0, none⟩), .int .i64 p] w fun e w' => e = .returned (.int .i64 0) ∧ ∃ γ', Ms w' γ' (rowR (clR ρ (ρ.cl ++ [(p : Int)])) c (neP l p)) ∧ Go w γ ρ w' γ' (rowR (clR ρ (ρ.cl ++ [(p : Int)])) c (neP l p)) := by
  have hLim := hr.lim
  have HU := Lib.hid (has_any h.clO p false (decide_eq_false hu) (by omega))
  have HO : Hid (Calls Try.prog 65 #[.pointer (some ⟨γ.g, 0, none⟩), .int .i64 p] w fun e w' => e = .returned (.int .i64 c) ∧ w = w') := Lib.hid (by have := R6.rOwner_any h.ar p; rw [hown] at this; exact this)
  have s0 := h.s0
  have s4 := h.s4
  have HM := Lib.hid h
  have hsbl := h.lt .sl _ rfl
  have hrbl := h.lt .rows _ rfl
  have hpi : (p : Int) ≤ 1023 := by omega
  have hczi : (c : Int) < (ρ.sz.length : Int) := by omega
  have Hc := Lib.hid hc
  have Hrl := Lib.hid hr.rl
  have Hl := Lib.hid hl
  have Hlb := Lib.hid (hr.rb c l hl)
  obtain ⟨X1, hX1⟩ : ∃ X1, w.alloc (.cells #[.int .i64 (p : Int)] 3) = X1 := ⟨_, rfl⟩
  obtain ⟨hXs, hX4, hro1, hblk, HF0⟩ := h.appC _ hX1
  have hnews := World.news_of_block (w := X1) hblk
  obtain ⟨i0, hi0, hz0, hz1, hz2⟩ := info_parts intE_info
  obtain ⟨n0, hn0⟩ : ∃ n0, ρ.cl.length = n0 := ⟨_, rfl⟩
  rw [hn0] at HF0 hro1 hcl
  have HF := Lib.hid HF0
  have hl63 : n0 + 1 ≤ maxLen := by unfold maxLen; omega
  have hby : (n0 + 1) * 8 ≤ 140737488355328 := by omega
  obtain ⟨v, hv⟩ : ∃ v, γ.vc = v := ⟨_, rfl⟩
  rw [hv] at hX4 s4 HU hro1 HF
  clear h hr hu hown hp hc hl hn0 HF0 hblk
  go_enter Try.func45, Try.ntmps45
  go_wp2_with (first
    | (go_at_call 63; refine HU.out.mono ?_; rintro e w' ⟨rfl, rfl⟩)
    | (go_at_call 65; refine HO.out.mono ?_; rintro e w' ⟨rfl, rfl⟩)
    | (at_builtin; (try rw [hX1]); go_must (refine wpList_append_lies (w := X1) rfl (.tmp 30) (.tmp 32) 22 rfl 0 3 i0 (.int .i64 0) 1 8 Try.underlying22 hi0 hz0 hz1 hz2 rfl (by decide) v _ _ rfl hro1 ⟨w.heap.size, 0, none⟩ 1 1 [.int .i64 (p : Int)] rfl rfl hnews (by simp [Value.oneCell']) (by omega) hl63 hby (by omega) (w.heap.size + 1) hXs ?_)
       intro g' cap' w3 hown1 hgr1 hat1 hlt1
       obtain ⟨N1, hN1⟩ : ∃ N1, n0 + 1 = N1 := ⟨_, rfl⟩
       rw [hN1] at hown1 ⊢
       obtain ⟨f1, f2, f4⟩ := HF.out g' N1 cap' w3 hN1 hown1 hgr1 hat1 hlt1
       have Hf4 := Lib.hid f4
       clear f4 hN1))
  obtain ⟨W5, hW5⟩ : ∃ W5, w3.setCell ⟨γ.sb, 4, none⟩ (.slice (some ⟨g', 0, none⟩) N1 cap') = W5 := ⟨_, rfl⟩
  rw [hW5] at Hf4 ⊢
  have M5 := Hf4.out.1
  have HM5 := Lib.hid M5
  have k2 : W5.cell? ⟨γ.sb, 2, none⟩ = some (.slice (some ⟨γ.rb, 0, none⟩) ρ.sz.length γ.rc) := M5.s2
  obtain ⟨ar, rcap, l1, hl1, hrv, hrc, hro, hfr⟩ := M5.row Hrl.out c Hc.out
  have e1 : l1 = l := by
    have := hl1.symm.trans (show (clR ρ (ρ.cl ++ [(p : Int)])).rows[c]? = some l from Hl.out)
    simpa using this
  subst e1
  have hsb5 : γ.sb < W5.heap.size := M5.lt .sl _ rfl
  have hrb5 : γ.rb < W5.heap.size := M5.lt .rows _ rfl
  obtain ⟨_, _, he, ha⟩ := own_sl hro
  simp only [Value.slice.injEq, true_and] at he
  obtain ⟨rfl, rfl⟩ := he
  have hlt0 : ∀ b, (Value.slice ar l1.length rcap).ownBlock = some b → b < W5.heap.size := fun b hb => (own_cells hro hb).choose_spec.2.2.2
  obtain ⟨N, hN⟩ : ∃ N, l1.length = N := ⟨_, rfl⟩
  rw [hN] at hro ha hlt0 hrc
  have HR := Lib.hid hro
  have HN := Lib.hid hN
  have Hl0 := Lib.hid hlt0
  have hNi : (N : Int) ≤ 100000000 := by have := Hlb.out.1; omega
  have Hx : Hid (∀ x ∈ l1, 0 ≤ x ∧ x < 4194304) := Lib.hid Hlb.out.2
  clear M5 hl1 hrv hro hN hlt0 hW5 f1 f2 hown1 hgr1 hat1 hlt1 HF hro1 hnews hX4 hXs
  go_wp2_with (fail)
  go_loopw [7, 8] (fun v i wr => ∃ (j m : Nat) (ad : Option Addr) (cap : Nat), j ≤ N ∧ i = .int .i64 j ∧ Hid (m = (neP (l1.take j) p).length) ∧ m ≤ j ∧ v = .slice ad m cap ∧ wr.ownsRow W5.heap.size 3 1 (.slice ad m cap) m ((neP (l1.take j) p).map (.int .i64)) ∧ Below W5.heap.size W5 wr) (fun _ i _ => N - (intOf i).toNat)
  case atStart => exact ⟨0, 0, none, 0, Nat.zero_le _, rfl, Lib.hid rfl, by omega, rfl, World.ownsRow_nil _ _ _ _, Below.refl _ _⟩
  case round =>
    obtain ⟨j, m, ad, cap2, hj, rfl, Hn, hnj, rfl, hown, hbel⟩ := hrel
    have hsz := hbel.size
    have t2 := (hbel.cell (p := ⟨γ.sb, 2, none⟩) hsb5).trans k2
    have tr := (hbel.cell (p := ⟨γ.rb, c, none⟩) hrb5).trans hrc
    by_cases hlt : j < N
    · obtain ⟨g, rfl⟩ := ha (by omega)
      have hc := (hbel.cell (p := ⟨g, j, none⟩) (Hl0.out g rfl)).trans (own_int HR.out j hlt)
      have Hjl := Lib.hid (show j < l1.length by rw [HN.out]; exact hlt)
      have hxb := Hx.out (l1[j]?.getD 0) (by rw [List.getElem?_eq_getElem Hjl.out]; exact List.getElem_mem Hjl.out)
      obtain ⟨z, hz⟩ := Int.eq_ofNat_of_zero_le hxb.1
      have hzi : (z : Int) ≤ 9223372036854775807 := by omega
      rw [hz] at hc
      clear hxb
      by_cases h1 : (z : Int) / 4096 = p
      · have h1' : ((z : Int) / 4096 == (p : Int)) = true := by simp [h1]
        have Hs := Lib.hid (neP_no (p := (p : Int)) Hjl.out (by rw [hz]; exact h1))
        clear h1 hz
        go_wp2
        go_roundw
        case rel => exact ⟨j + 1, m, ad, cap2, by omega, by go_num, by rw [Hs.out]; exact Hn, by omega, rfl, by rw [Hs.out]; exact hown, hbel⟩
        case measure => simp [intOf]; omega
      · have h1' : ((z : Int) / 4096 == (p : Int)) = false := by simp [h1]
        have Hs := Lib.hid (neP_yes (p := (p : Int)) Hjl.out (by rw [hz]; exact h1))
        rw [hz] at Hs
        clear h1 hz
        go_wp2_with (at_builtin; go_must (refine wp_appI W5 wr rfl _ _ rfl W5.heap.size (.slice ad m cap2) m (neP (l1.take j) p) (z : Int) rfl hown rfl hbel (by omega) hsz ?_); intro g2 cap3 w2 hown2 hbel2)
        go_roundw
        case rel => exact ⟨j + 1, m + 1, _, cap3, by omega, by go_num, Lib.hid (by rw [Hs.out, List.length_append, ← Hn.out]; rfl), by omega, rfl, by rw [Hs.out]; exact hown2, hbel2⟩
        case measure => simp [intOf]; omega
    · have hjn : j = N := by omega
      subst hjn
      have He : Hid (neP l1 p = neP (l1.take j) p) := Lib.hid (by rw [List.take_of_length_le (by rw [HN.out]; omega)])
      have M6 := Lib.hid (HM5.out.putRow (c := c) Hc.out hbel (l' := neP l1 p) (by rw [He.out, ← Hn.out]; exact hown))
      have hfr6 : wr.frozen? ⟨γ.rb, c, none⟩ = false := ((HM5.out.below hbel).row Hrl.out c Hc.out).choose_spec.choose_spec.choose_spec.2.2.2.2
      go_wp2
      go_ret
      exact ⟨rfl, _, M6.out.1, Hf4.out.2.trans M6.out.2⟩
end
end Go.Proofs.Ytfmgncajhjkdlaa.R7
/- the document's slab: Open; Where; Chunks. -/
namespace Go.Proofs.Ytfmgncajhjkdlaa.R7
open Go.RowKit Go.PlainAid
open SP
set_option linter.unusedVariables false
set_option linter.unusedSimpArgs false

section
variable {w : World} {γ : Gk} {ρ : Rp} {L : Nat}
theorem open_no (h : Ms w γ ρ) (hr : Rw ρ L) (p : Int) (hu : p ∉ ρ.cl) :
    Calls Try.prog 46 #[.pointer (some ⟨γ.sb, 0, none⟩), .int .i64 p] w fun e w' => e = .returned (.int .i64 7) ∧ w = w' := by
  have HU := Lib.hid (has_any h.clO p false (decide_eq_false hu) (by have := hr.cl.1; have := hr.lim; omega))
  have s4 := h.s4
  clear h hr hu
  go_enter Try.func46, Try.ntmps46
  go_wp2_with (go_at_call 63; refine HU.out.mono ?_; rintro e w' ⟨rfl, rfl⟩)
  go_ret
  exact ⟨rfl, rfl⟩

set_option maxRecDepth 100000 in
set_option maxHeartbeats 2000000 in
theorem open_yes (h : Ms w γ ρ) (hr : Rw ρ L) (p c P : Nat) (hu : (p : Int) ∈ ρ.cl) (hp : p < 1024) (hown : AP.owner ρ.ow p = c) (hc : c < ρ.sz.length) (hP : perI ρ.sz ρ.S c = P) {l0 : List Int} (hl0 : ρ.rows[c]? = some l0) (hll : l0.length ≤ 99000000) :
    Calls Try.prog 46 #[.pointer (some ⟨γ.sb, 0, none⟩), .int .i64 p] w fun e w' => e = .returned (.int .i64 0) ∧ ∃ γ', Ms w' γ' (rowR (clR ρ (wo ρ.cl p)) c (l0 ++ lyD ρ.tk p 0 P)) ∧ Go w γ ρ w' γ' (rowR (clR ρ (wo ρ.cl p)) c (l0 ++ lyD ρ.tk p 0 P)) := by
  have hLim := hr.lim
  have htl : ρ.tk.length ≤ 100000000 := by have := hr.tk.1; omega
  have hcll : ρ.cl.length ≤ 100000000 := by have := hr.cl.1; omega
  have HU := Lib.hid (has_any h.clO p true (decide_eq_true hu) hcll)
  have HW := Lib.hid (without_any h.clO p hcll)
  have s4 := h.s4
  have hsl := h.lt .sl _ rfl
  have HM := Lib.hid h
  have Hx := Lib.hid (And.intro hown (And.intro hc (And.intro hP hl0)))
  have Hk := Lib.hid hr.k1
  have Hz := Lib.hid hr.sz
  have Hrl := Lib.hid hr.rl
  clear h hr hu hown hc hP hl0
  go_enter Try.func46, Try.ntmps46
  go_wp2_with (first
    | (go_at_call 63; refine HU.out.mono ?_; rintro e w' ⟨rfl, rfl⟩)
    | (go_at_call 62; refine HW.out.mono ?_; rintro e w1 ⟨v1, rfl, ho1, hb1⟩
       have hsz := hb1.size
       obtain ⟨a1, c1, rfl, _⟩ := own_sl ho1
       obtain ⟨n1, hn1⟩ : ∃ n1, (wo ρ.cl p).length = n1 := ⟨_, rfl⟩
       rw [hn1] at ho1 ⊢
       have M1 := Lib.hid (HM.out.putCl hb1 (l' := wo ρ.cl p) (by rw [hn1]; exact ho1))
       have k4 := (HM.out.below hb1).s4
       have hf := (HM.out.below hb1).sf 4
       have HL := Lib.hid (lay_any M1.out.1 Hk.out Hz.out Hrl.out htl p c P hp Hx.out.1 Hx.out.2.1 Hx.out.2.2.1 Hx.out.2.2.2 hll)
       clear hn1 ho1))
  refine HL.out.mono ?_
  rintro e w3 ⟨⟨v3, rfl⟩, γ3, hM3, hG3⟩
  have HM3 := Lib.hid (And.intro hM3 (M1.out.2.trans hG3))
  clear hM3 hG3
  go_wp2_with (fail)
  go_ret
  exact ⟨rfl, _, HM3.out⟩

theorem where_no (h : Ms w γ ρ) (hr : Rw ρ L) (ch : Int) (hu : ch ∉ ρ.tk) :
    Calls Try.prog 51 #[.pointer (some ⟨γ.sb, 0, none⟩), .int .i64 ch] w fun e w' => e = .returned (.tuple #[.int .i64 (-1), .int .i64 0, .int .i64 0]) ∧ ∃ n, w' = w.drewN n := by
  have HU := Lib.hid (used_any h (by have := hr.tk.1; have := hr.lim; omega) ch false (decide_eq_false hu))
  clear h hr hu
  go_enter Try.func51, Try.ntmps51
  go_wp2_with (go_at_call 52; refine HU.out.mono ?_; rintro e w' ⟨rfl, rfl⟩)
  refine bodyPost_ret (results_tmp3 rfl _ _ _) rfl ?_
  exact ⟨rfl, 0, rfl⟩

set_option maxRecDepth 100000 in
set_option maxHeartbeats 1000000 in
theorem where_yes (h : Ms w γ ρ) (hr : Rw ρ L) (ch c p i : Nat) (z : Int) (hu : (ch : Int) ∈ ρ.tk) (hc : clI ρ ch = c) (hcz : c < ρ.sz.length) (hch : ch = p * 4096 + i) (hp : p < 1024) (hi : i < 1024) (hz : ρ.sz[c]?.getD 0 = z) :
    Calls Try.prog 51 #[.pointer (some ⟨γ.sb, 0, none⟩), .int .i64 ch] w fun e w' => e = .returned (.tuple #[.int .i64 p, .int .i64 (i * z), .int .i64 z]) ∧ ∃ n, w' = w.drewN n := by
  have htl : ρ.tk.length ≤ 100000000 := by have := hr.tk.1; have := hr.lim; omega
  have HU := Lib.hid (used_any h htl ch true (decide_eq_true hu))
  have hci : (ch : Int) ≤ 9223372036854775807 := by omega
  have HC : Hid (∀ n, Calls Try.prog 64 #[.pointer (some ⟨γ.sb, 0, none⟩), .int .i64 ch] (w.drewN n) fun e w' => e = .returned (.int .i64 c) ∧ ∃ m, w' = (w.drewN n).drewN m) := Lib.hid (fun n => (class_any (h.drewN n) hr ch hci).mono (fun e w' h => ⟨h.1.trans (congrArg (fun z => Ending.returned (.int .i64 z)) hc), h.2⟩))
  have s1 := h.s1
  have hzb := hr.sz z (by rw [← hz, List.getElem?_eq_getElem hcz]; exact List.getElem_mem hcz)
  have hS := h.ar.siz
  have hz1 : 64 ≤ z := hzb.1
  have hz2 : z ≤ 65536 := by omega
  have q1 : (ch : Int) / 4096 = (p : Int) := by omega
  have q2 : (ch : Int) % 4096 = (i : Int) := by omega
  have hpi : (p : Int) ≤ 1023 := by omega
  have hii : (i : Int) ≤ 1023 := by omega
  have hwr : IntKind.i64.wrap ((i : Int) * z) = (i : Int) * z := by
    have h1 : (i : Int) * z ≤ 1024 * 65536 := Int.mul_le_mul (by omega) (by omega) (by omega) (by omega)
    have h2 : 0 ≤ (i : Int) * z := Int.mul_nonneg (by omega) (by omega)
    exact IntWalk.i64_in _ (by omega)
  obtain ⟨a, zc, hvz, ha⟩ := own_sl h.szO
  obtain ⟨zb, rfl⟩ := ha (by omega)
  have hO := h.szO
  rw [hvz] at s1 hO
  have hcell : w.cell? ⟨zb, c, none⟩ = some (.int .i64 z) := by rw [← hz]; exact own_int hO c hcz
  have hczi : (c : Int) < (ρ.sz.length : Int) := by omega
  generalize ρ.sz.length = nz at *
  clear h hr hu hc hch hp hi hz hzb hS hvz hO ha
  go_enter Try.func51, Try.ntmps51
  go_wp2_with (go_at_call 52; refine HU.out.mono ?_; rintro e w' ⟨rfl, rfl⟩)
  go_quiet ((go_at_call 64; exact Calls.quiet_of (HC.out _)))
  go_wp2
  refine bodyPost_ret (results_tmp3 rfl _ _ _) rfl ?_
  exact ⟨rfl, _, rfl⟩
end
end Go.Proofs.Ytfmgncajhjkdlaa.R7
/- the document's slab: Move; Put; Get. -/
namespace Go.Proofs.Ytfmgncajhjkdlaa.R7
open Go.RowKit Go.PlainAid
open SP
set_option linter.unusedVariables false
set_option linter.unusedSimpArgs false

section
variable {w : World} {γ : Gk} {ρ : Rp} {L : Nat}
theorem move_no (h : Ms w γ ρ) (hr : Rw ρ L) (p c : Int) (hu : p ∉ ρ.cl) :
    Calls Try.prog 47 #[.pointer (some ⟨γ.sb, 0, none⟩), .int .i64 p, .int .i64 c] w fun e w' => e = .returned (.int .i64 7) ∧ w = w' := by
  have HU := Lib.hid (has_any h.clO p false (decide_eq_false hu) (by have := hr.cl.1; have := hr.lim; omega))
  have s4 := h.s4
  clear h hr hu
  go_enter Try.func47, Try.ntmps47
  go_wp2_with (go_at_call 63; refine HU.out.mono ?_; rintro e w' ⟨rfl, rfl⟩)
  go_ret
  exact ⟨rfl, rfl⟩
theorem move_arg (h : Ms w γ ρ) (hr : Rw ρ L) (p c : Int) (hu : p ∈ ρ.cl) (hc : c < 0 ∨ (ρ.sz.length : Int) ≤ c) :
    Calls Try.prog 47 #[.pointer (some ⟨γ.sb, 0, none⟩), .int .i64 p, .int .i64 c] w fun e w' => e = .returned (.int .i64 1) ∧ w = w' := by
  have HU := Lib.hid (has_any h.clO p true (decide_eq_true hu) (by have := hr.cl.1; have := hr.lim; omega))
  have s4 := h.s4
  have s1 := h.s1
  obtain ⟨a, zc, hvz, ha⟩ := own_sl h.szO
  rw [hvz] at s1
  generalize ρ.sz.length = nz at *
  clear h hr hu hvz ha
  by_cases h0 : c < 0
  · clear hc
    go_enter Try.func47, Try.ntmps47
    go_wp2_with (go_at_call 63; refine HU.out.mono ?_; rintro e w' ⟨rfl, rfl⟩)
    go_ret
    exact ⟨rfl, rfl⟩
  · have h1 : (nz : Int) ≤ c := by omega
    clear hc
    go_enter Try.func47, Try.ntmps47
    go_wp2_with (go_at_call 63; refine HU.out.mono ?_; rintro e w' ⟨rfl, rfl⟩)
    go_ret
    exact ⟨rfl, rfl⟩
theorem move_busy (h : Ms w γ ρ) (hr : Rw ρ L) (p : Int) (c : Nat) (hu : p ∈ ρ.cl) (hc : c < ρ.sz.length) (hb : chP ρ.tk p ≠ []) :
    Calls Try.prog 47 #[.pointer (some ⟨γ.sb, 0, none⟩), .int .i64 p, .int .i64 c] w fun e w' => e = .returned (.int .i64 10) ∧ Below w.heap.size w w' := by
  have HU := Lib.hid (has_any h.clO p true (decide_eq_true hu) (by have := hr.cl.1; have := hr.lim; omega))
  have HC := Lib.hid (chunks_any h hr p)
  have s4 := h.s4
  have s1 := h.s1
  obtain ⟨a, zc, hvz, ha⟩ := own_sl h.szO
  rw [hvz] at s1
  have hczi : (c : Int) < (ρ.sz.length : Int) := by omega
  obtain ⟨m, hm⟩ : ∃ m, (chP ρ.tk p).length = m + 1 := ⟨(chP ρ.tk p).length - 1, by have := List.length_pos_iff.2 hb; omega⟩
  have Hm := Lib.hid hm
  clear h hr hu hvz ha hb hm hc
  generalize ρ.sz.length = nz at *
  go_enter Try.func47, Try.ntmps47
  go_wp2_with (first
    | (go_at_call 63; refine HU.out.mono ?_; rintro e w' ⟨rfl, rfl⟩)
    | (go_at_call 50; refine HC.out.mono ?_; rintro e w2 ⟨v2, rfl, ho2, hb2⟩
       rw [Hm.out] at ho2
       obtain ⟨a2, c2, rfl, _⟩ := own_sl ho2
       clear ho2))
  go_ret
  exact ⟨rfl, hb2⟩

theorem Ms.passed {w' : World} (h : Ms w γ ρ) {ow' : List Int} (hA : R6.Rf w' γ.g γ.k γ.ck γ.r γ.cr ρ.ow.length ρ.S ow' γ.vs ρ.F) (hg : w.grownBy w' (some γ.k)) :
    Ms w' γ { ρ with ow := ow' } ∧ Go w γ ρ w' γ { ρ with ow := ow' } := by
  have := h.setAr (T := fun b => some γ.k = some b) (Tch.of_grown hg) (fun b hb => by
    have e : γ.k = b := by simpa using hb
    rw [← e]; exact .inr (.inl rfl)) hA (fun b hb => .inl hb)
  exact this
def owR (ρ : Rp) (ow : List Int) : Rp := { ρ with ow := ow }
set_option maxRecDepth 100000 in
set_option maxHeartbeats 2000000 in
theorem move_ok (h : Ms w γ ρ) (hr : Rw ρ L) (p c P : Nat) (hu : (p : Int) ∈ ρ.cl) (hc : c < ρ.sz.length) (hb : chP ρ.tk p = []) (hR : Rw (owR ρ (AP.paO ρ.ow p c)) L) (hp : p < 1024) (hown : AP.owner (AP.paO ρ.ow p c) p = c) (hP : perI ρ.sz ρ.S c = P) {l0 : List Int} (hl0 : ρ.rows[c]? = some l0) (hll : l0.length ≤ 99000000) :
    Calls Try.prog 47 #[.pointer (some ⟨γ.sb, 0, none⟩), .int .i64 p, .int .i64 c] w fun e w' => e = .returned (.int .i64 0) ∧ ∃ γ', Ms w' γ' (rowR (clR (owR ρ (AP.paO ρ.ow p c)) (wo ρ.cl p)) c (l0 ++ lyD ρ.tk p 0 P)) ∧ Go w γ ρ w' γ' (rowR (clR (owR ρ (AP.paO ρ.ow p c)) (wo ρ.cl p)) c (l0 ++ lyD ρ.tk p 0 P)) := by
  have HU := Lib.hid (has_any h.clO p true (decide_eq_true hu) (by have := hr.cl.1; have := hr.lim; omega))
  have HC := Lib.hid (chunks_any h hr p)
  have s4 := h.s4
  have s0 := h.s0
  have s1 := h.s1
  obtain ⟨a, zc, hvz, ha⟩ := own_sl h.szO
  rw [hvz] at s1
  have hczi : (c : Int) < (ρ.sz.length : Int) := by omega
  have hm : (chP ρ.tk p).length = 0 := by rw [hb]; rfl
  have Hm := Lib.hid hm
  have HM := Lib.hid h
  have Hx := Lib.hid (And.intro hu (And.intro hc (And.intro hR (And.intro hp (And.intro hown (And.intro hP (And.intro hl0 hll)))))))
  have hpi : (p : Int) ≤ 1023 := by omega
  clear h hr hu hvz ha hb hm hc hR hp hown hP hl0 hll
  go_enter Try.func47, Try.ntmps47
  go_wp2_with (first
    | (go_at_call 63; refine HU.out.mono ?_; rintro e w' ⟨rfl, rfl⟩)
    | (go_at_call 50; refine HC.out.mono ?_; rintro e w2 ⟨v2, rfl, ho2, hb2⟩
       rw [Hm.out] at ho2
       obtain ⟨a2, c2, rfl, _⟩ := own_sl ho2
       have M2 := HM.out.below hb2
       have k0 := M2.s0
       have HP := Lib.hid (R6.rPass_any M2.ar p c)
       clear ho2 M2)
    | (go_at_call 66; refine HP.out.mono ?_; rintro e w3 ⟨rfl, hA3, hg3⟩
       have M3 := Lib.hid ((HM.out.below hb2).passed hA3 hg3)
       have HO := Lib.hid (open_yes (ρ := owR ρ (AP.paO ρ.ow p c)) M3.out.1 Hx.out.2.2.1 p c P Hx.out.1 Hx.out.2.2.2.1 Hx.out.2.2.2.2.1 Hx.out.2.1 Hx.out.2.2.2.2.2.1 Hx.out.2.2.2.2.2.2.1 Hx.out.2.2.2.2.2.2.2)
       clear hA3 hg3))
  refine HO.out.mono ?_
  rintro e w4 ⟨rfl, γ4, hM4, hG4⟩
  have HM4 := Lib.hid (And.intro hM4 ((Go.of_below hb2).trans (M3.out.2.trans hG4)))
  clear hM4 hG4
  go_wp2_with (fail)
  go_ret
  exact ⟨rfl, _, HM4.out⟩

theorem put_no (h : Ms w γ ρ) (hr : Rw ρ L) (ch : Int) (v : Value) (hu : ch ∉ ρ.tk) :
    Calls Try.prog 48 #[.pointer (some ⟨γ.sb, 0, none⟩), .int .i64 ch, v] w fun e w' => e = .returned (.int .i64 8) ∧ ∃ n, w' = w.drewN n := by
  have HU := Lib.hid (where_no h hr ch hu)
  clear h hr hu
  go_enter Try.func48, Try.ntmps48
  go_wp2_with (go_at_call 51; refine HU.out.mono ?_; rintro e w' ⟨rfl, n, rfl⟩)
  go_ret
  exact ⟨rfl, n, rfl⟩
theorem put_big (h : Ms w γ ρ) (hr : Rw ρ L) (ch c p i : Nat) (z : Int) (hu : (ch : Int) ∈ ρ.tk) (hc : clI ρ ch = c) (hcz : c < ρ.sz.length) (hch : ch = p * 4096 + i) (hp : p < 1024) (hi : i < 1024) (hz : ρ.sz[c]?.getD 0 = z) (v : Value) (n : Nat) (a : Option Addr) (cap : Nat) (hv : v = .slice a n cap) (hn : z < (n : Int)) :
    Calls Try.prog 48 #[.pointer (some ⟨γ.sb, 0, none⟩), .int .i64 ch, v] w fun e w' => e = .returned (.int .i64 4) ∧ ∃ n, w' = w.drewN n := by
  subst hv
  have HU := Lib.hid (where_yes h hr ch c p i z hu hc hcz hch hp hi hz)
  have hpi : (p : Int) ≤ 1023 := by omega
  clear h hr hu hc hcz hch hp hi hz
  go_enter Try.func48, Try.ntmps48
  go_wp2_with (go_at_call 51; refine HU.out.mono ?_; rintro e w' ⟨rfl, m, rfl⟩)
  go_ret
  exact ⟨rfl, _, rfl⟩
theorem Ms.wrote {w' : World} (h : Ms w γ ρ) {vs' : List Value} {F' : List Int} (hA : R6.Rf w' γ.g γ.k γ.ck γ.r γ.cr ρ.ow.length ρ.S ρ.ow vs' F') (ht : Tch (R6.rFoot γ.g γ.k γ.r ρ.S γ.vs) w w') (hf : R6.rFresh γ.g γ.k γ.r ρ.S γ.vs vs' w) :
    Ms w' { γ with vs := vs' } { ρ with F := F' } ∧ Go w γ ρ w' { γ with vs := vs' } { ρ with F := F' } := h.setAr ht (fun b hb => hb) hA hf
def fR (ρ : Rp) (F : List Int) : Rp := { ρ with F := F }
theorem put_yes (h : Ms w γ ρ) (hr : Rw ρ L) (ch c p i : Nat) (z : Int) (hu : (ch : Int) ∈ ρ.tk) (hc : clI ρ ch = c) (hcz : c < ρ.sz.length) (hch : ch = p * 4096 + i) (hp : p < 1024) (hi : i < 1024) (hz : ρ.sz[c]?.getD 0 = z) (v : Value) (l : List Int) (hn : (l.length : Int) ≤ z) (hby : ∀ x ∈ l, 0 ≤ x ∧ x ≤ 255)
    (hv : ∀ w', Tch (fun i => i = γ.r) w w' → RB w' v l) :
    Calls Try.prog 48 #[.pointer (some ⟨γ.sb, 0, none⟩), .int .i64 ch, v] w fun e w' => e = .returned (.int .i64 (AP.byE ρ.ow ρ.S p (i * z) l.length)) ∧ ∃ γ', Ms w' γ' (fR ρ (R6.AP.rwF ρ.ow ρ.F ρ.S p (i * z) l)) ∧ Go w γ ρ w' γ' (fR ρ (R6.AP.rwF ρ.ow ρ.F ρ.S p (i * z) l)) := by
  obtain ⟨va, vc, rfl⟩ : ∃ va vc, v = .slice va l.length vc := by
    obtain ⟨a, c, h1, _⟩ := hv w (Tch.refl _ _)
    exact ⟨a, c, h1⟩
  have hzb := hr.sz z (by rw [← hz, List.getElem?_eq_getElem hcz]; exact List.getElem_mem hcz)
  have hS := h.ar.siz
  have hlen : l.length ≤ maxLen := by unfold maxLen; omega
  have HU := Lib.hid (where_yes h hr ch c p i z hu hc hcz hch hp hi hz)
  have hpi : (p : Int) ≤ 1023 := by omega
  have HW : Hid (∀ m, Calls Try.prog 67 #[.pointer (some ⟨γ.g, 0, none⟩), .int .i64 p, .int .i64 (i * z), .slice va l.length vc] (w.drewN m) (R6.rWrPost γ.g γ.k γ.ck γ.r γ.cr ρ.ow.length ρ.S ρ.ow ρ.F γ.vs p (i * z) l (w.drewN m))) := Lib.hid (fun m => R6.rWrite_any (h.drewN m).ar p (i * z) _ l hlen hby (fun w' ht => hv w' (((Tch.refl _ w).drewN m).trans ht (fun b hb => .inl hb))))
  have HM := Lib.hid h
  have s0 := h.s0
  obtain ⟨n, hn0⟩ : ∃ n, l.length = n := ⟨_, rfl⟩
  rw [hn0] at HW hn ⊢
  clear h hr hu hc hcz hch hp hi hz hby hv hzb hS hlen
  have Hn0 := Lib.hid hn0
  clear hn0
  go_enter Try.func48, Try.ntmps48
  go_wp2_with (first
    | (go_at_call 51; refine HU.out.mono ?_; rintro e w' ⟨rfl, m, rfl⟩
       have k0 : (w.drewN m).cell? ⟨γ.sb, 0, none⟩ = some (.pointer (some ⟨γ.g, 0, none⟩)) := s0))
  refine (HW.out m).mono ?_
  rintro e w3 ⟨rfl, vs', hA, ht, hf⟩
  have HM3 := Lib.hid ((HM.out.drewN m).wrote hA ht hf)
  clear hA ht hf
  go_wp2_with (fail)
  go_ret
  exact ⟨by rw [← Hn0.out]; rfl, _, HM3.out.1, (Go.of_below (below_drewN (Below.refl _ w) m)).trans HM3.out.2⟩

theorem get_no (h : Ms w γ ρ) (hr : Rw ρ L) (ch n : Int) (hu : ch ∉ ρ.tk) :
    Calls Try.prog 49 #[.pointer (some ⟨γ.sb, 0, none⟩), .int .i64 ch, .int .i64 n] w fun e w' => e = .returned (.tuple #[.slice none 0 0, .int .i64 8]) ∧ ∃ n, w' = w.drewN n := by
  have HU := Lib.hid (where_no h hr ch hu)
  clear h hr hu
  go_enter Try.func49, Try.ntmps49
  go_wp2_with (go_at_call 51; refine HU.out.mono ?_; rintro e w' ⟨rfl, n, rfl⟩)
  go_ret2
  exact ⟨rfl, n, rfl⟩
theorem get_arg (h : Ms w γ ρ) (hr : Rw ρ L) (ch c p i : Nat) (z n : Int) (hu : (ch : Int) ∈ ρ.tk) (hc : clI ρ ch = c) (hcz : c < ρ.sz.length) (hch : ch = p * 4096 + i) (hp : p < 1024) (hi : i < 1024) (hz : ρ.sz[c]?.getD 0 = z) (hn : n < 0 ∨ z < n) :
    Calls Try.prog 49 #[.pointer (some ⟨γ.sb, 0, none⟩), .int .i64 ch, .int .i64 n] w fun e w' => e = .returned (.tuple #[.slice none 0 0, .int .i64 1]) ∧ ∃ n, w' = w.drewN n := by
  have HU := Lib.hid (where_yes h hr ch c p i z hu hc hcz hch hp hi hz)
  have hpi : (p : Int) ≤ 1023 := by omega
  clear h hr hu hc hcz hch hp hi hz
  by_cases h0 : n < 0
  · clear hn
    go_enter Try.func49, Try.ntmps49
    go_wp2_with (go_at_call 51; refine HU.out.mono ?_; rintro e w' ⟨rfl, m, rfl⟩)
    go_ret2
    exact ⟨rfl, _, rfl⟩
  · have h1 : z < n := by omega
    clear hn
    go_enter Try.func49, Try.ntmps49
    go_wp2_with (go_at_call 51; refine HU.out.mono ?_; rintro e w' ⟨rfl, m, rfl⟩)
    go_ret2
    exact ⟨rfl, _, rfl⟩
theorem get_yes (h : Ms w γ ρ) (hr : Rw ρ L) (ch c p i : Nat) (z n : Int) (hu : (ch : Int) ∈ ρ.tk) (hc : clI ρ ch = c) (hcz : c < ρ.sz.length) (hch : ch = p * 4096 + i) (hp : p < 1024) (hi : i < 1024) (hz : ρ.sz[c]?.getD 0 = z) (hn0 : 0 ≤ n) (hn : n ≤ z) :
    Calls Try.prog 49 #[.pointer (some ⟨γ.sb, 0, none⟩), .int .i64 ch, .int .i64 n] w fun e w' => ∃ v, e = .returned (.tuple #[v, .int .i64 (AP.byE ρ.ow ρ.S p (i * z) n)]) ∧ RB w' v (R6.AP.rrL ρ.ow ρ.F ρ.S p (i * z) n) ∧ ∃ γ', Ms w' γ' ρ ∧ Go w γ ρ w' γ' ρ := by
  have hzb := hr.sz z (by rw [← hz, List.getElem?_eq_getElem hcz]; exact List.getElem_mem hcz)
  have hS := h.ar.siz
  have HU := Lib.hid (where_yes h hr ch c p i z hu hc hcz hch hp hi hz)
  have hpi : (p : Int) ≤ 1023 := by omega
  have HW : Hid (∀ m, Calls Try.prog 68 #[.pointer (some ⟨γ.g, 0, none⟩), .int .i64 p, .int .i64 (i * z), .int .i64 n] (w.drewN m) (R6.rRdPost γ.g γ.k γ.ck γ.r γ.cr ρ.ow.length ρ.S ρ.ow ρ.F γ.vs p (i * z) n (w.drewN m))) := Lib.hid (fun m => R6.rRead_any (h.drewN m).ar p (i * z) n (by omega) (by omega))
  have HM := Lib.hid h
  have s0 := h.s0
  clear h hr hu hc hcz hch hp hi hz hzb hS
  go_enter Try.func49, Try.ntmps49
  go_wp2_with (first
    | (go_at_call 51; refine HU.out.mono ?_; rintro e w' ⟨rfl, m, rfl⟩
       have k0 : (w.drewN m).cell? ⟨γ.sb, 0, none⟩ = some (.pointer (some ⟨γ.g, 0, none⟩)) := s0))
  refine (HW.out m).mono ?_
  rintro e w3 ⟨v3, vs', rfl, hR, hA, ht, hf⟩
  have HM3 := Lib.hid ((HM.out.drewN m).wrote hA ht hf)
  have HR3 := Lib.hid hR
  clear hA ht hf hR
  go_wp2_with (fail)
  go_ret2
  exact ⟨_, rfl, HR3.out, _, HM3.out.1, (Go.of_below (below_drewN (Below.refl _ w) m)).trans HM3.out.2⟩
end
end Go.Proofs.Ytfmgncajhjkdlaa.R7
