/- Free. -/
import Derived.Test.YtfmgncajhjkdlaaSal
import Derived.Deep.RegionLaw
namespace Go.Proofs.Ytfmgncajhjkdlaa
open Go.RowKit Go.PlainAid
open SP
set_option linter.unusedVariables false
set_option linter.unusedSimpArgs false

def ownC (π : Pi) (p : Nat) : Nat := (π.ow[p]?.getD 0 - 1).toNat
def closedP (π : Pi) (p : Nat) : Bool := match π.page p with | none => false | some x => x.cl
def frS (π : Pi) (ch : Int) : Pi :=
  if usedP π ch then
    if closedP π (ch / 4096).toNat then SP.mark π ch false (-1)
    else { SP.mark π ch false (-1) with rows := π.rows.set (ownC π (ch / 4096).toNat) (rowC π (ownC π (ch / 4096).toNat) ++ [ch]) }
  else π
def frE (π : Pi) (ch : Int) : Nat := if usedP π ch then 0 else 8
theorem usedP_inv {π : Pi} {ch : Int} (h : usedP π ch = true) : ∃ p i g, ch = ((p * 4096 + i : Nat) : Int) ∧ i < 4096 ∧ π.page p = some g ∧ i < g.used.length ∧ g.used[i]?.getD false = true := by
  unfold usedP at h
  split at h
  · cases h
  · split at h
    · cases h
    · rename_i h0 x hx
      rw [Bool.and_eq_true, decide_eq_true_eq] at h
      exact ⟨(ch / 4096).toNat, (ch % 4096).toNat, x, by omega, by omega, hx, h.1, h.2⟩
theorem count_off {l : List Bool} {i : Nat} (h : i < l.length) (hv : l[i]?.getD false = true) : (l.set i false).count true + 1 = l.count true := by
  have e : l[i] = true := by rw [List.getElem?_eq_getElem h] at hv; exact hv
  have h1 := List.count_set (a := false) (b := true) (l := l) h
  have h2 : 0 < l.count true := List.count_pos_iff.2 (e ▸ List.getElem_mem h)
  simp [e] at h1
  omega
theorem count_on {l : List Bool} {i : Nat} (h : i < l.length) (hv : l[i]?.getD false = false) : (l.set i true).count true = l.count true + 1 := by
  have e : l[i] = false := by rw [List.getElem?_eq_getElem h] at hv; exact hv
  have h1 := List.count_set (a := true) (b := true) (l := l) h
  simp [e] at h1
  omega

def FrPost (β : Bk) (π : Pi) (L : Nat) (ch : Int) (w : World) (e : Ending) (w' : World) : Prop :=
  e = .returned (.int .i64 (frE π ch : Nat)) ∧ ∃ β', Mem w' β' (frS π ch) (L + 2000) ∧ Step w β π w' β' (frS π ch)
theorem used_at {w : World} {β : Bk} {π : Pi} {L : Nat} (h : Mem w β π L) (hw : Wf π L) (ch : Int) (hch : ch ≤ 9223372036854775807) {b : Bool} (hb : usedP π ch = b) :
    Calls Try.prog 11 #[.pointer (some ⟨β.sb, 0, none⟩), .int .i64 ch] w fun e w' => e = .returned (.bool b) ∧ w = w' := by rw [← hb]; exact used_any h hw ch hch

set_option maxRecDepth 100000 in
set_option maxHeartbeats 4000000 in
theorem free_any {w : World} {β : Bk} {π : Pi} {L : Nat} (h : Mem w β π L) (hw : Wf π L) (ch : Int) (hch : ch ≤ 9223372036854775807) (hm : L + 2000 ≤ 100000000) :
    Calls Try.prog 12 #[.pointer (some ⟨β.sb, 0, none⟩), .int .i64 ch] w (FrPost β π L ch w) := by
  cases hu : usedP π ch with
  | false =>
    have Hu := Lib.hid (used_at h hw ch hch hu)
    have Hp : Hid (FrPost β π L ch w (.returned (.int .i64 8)) w) := by
      refine Lib.hid ⟨?_, β, ?_⟩
      · unfold frE; rw [hu]; rfl
      · unfold frS; rw [hu]; exact ⟨h.more (by omega), Step.refl _ _ _⟩
    clear h hu
    go_enter Try.func12, Try.ntmps12
    go_wp2_with (go_at_call 11; refine Hu.out.mono ?_; rintro e w' ⟨rfl, rfl⟩)
    go_ret
    exact Hp.out
  | true =>
    have Hu := Lib.hid (used_at h hw ch hch hu)
    obtain ⟨p, i, g, hchp, hi4, hpg, hig, hgu⟩ := usedP_inv hu
    obtain ⟨m, hmc⟩ : ∃ m, m = p * 4096 + i := ⟨_, rfl⟩
    rw [← hmc] at hchp
    subst hchp
    have q1 : (m : Int) / 4096 = (p : Int) := by omega
    have q2 : (m : Int) % 4096 = (i : Int) := by omega
    have e1 : ((m : Int) / 4096).toNat = p := by omega
    have e2 : ((m : Int) % 4096).toNat = i := by omega
    have hps := hw.page_some hpg
    have hpl := hw.page_lt hpg
    have hnp := hw.np1
    have hpq : (p : Int) ≤ 1023 := by omega
    have hmk : SP.mark π m false (-1) = setPg (setPg π p { g with used := g.used.set i false }) p { g with used := g.used.set i false, n := g.n - 1 } := by
      rw [setPg_setPg]
      unfold SP.mark
      rw [e1, e2, hpg]; rfl
    have hcnt := count_off hig hgu
    have hgn : 1 ≤ g.n ∧ g.n ≤ 1024 := by
      have := List.count_le_length (a := true) (l := g.used)
      omega
    have hw4 : IntKind.i64.wrap (g.n - 1) = g.n - 1 := IntWalk.i64_in _ (by omega)
    obtain ⟨ub, ucap, hpv, hur, huc, huf⟩ := h.used hpg (by omega)
    have s3 := h.s3
    have hlk := h.look p (by omega)
    unfold fm at hlk
    rw [if_pos (by omega), Int.toNat_natCast, hpg] at hlk
    simp only [Option.map_some, pval] at hlk
    have kp := h.page hpg
    rw [hpv] at kp
    obtain ⟨kp0, _, _, _⟩ := kp
    have kuf := huf i
    have kuc := huc i hig
    have M1 := h.setUsed hpg hpv i false
    have hpg1 : (setPg π p { g with used := g.used.set i false }).page p = some { g with used := g.used.set i false } := (page_setPg (by rw [hw.pl]; exact hpl) _).trans (if_pos rfl)
    have kq := M1.1.page hpg1
    have M2 := M1.1.setN hpg1 (g.n - 1)
    have S2 := M1.2.trans M2.2
    rw [← hmk] at M2 S2
    have hpg2 : (SP.mark π m false (-1)).page p = some { g with used := g.used.set i false, n := g.n - 1 } := by
      rw [hmk]
      exact (page_setPg (by simp only [setPg, List.length_set]; rw [hw.pl]; exact hpl) _).trans (if_pos rfl)
    have kr := (M2.1.page hpg2).2.2.1
    dsimp only at kr
    have hw2 : Wf (SP.mark π m false (-1)) L := by
      rw [hmk, setPg_setPg]
      exact hw.setPg hpg (by simp) (by simp only; omega) (fun c l j _ _ hj hju hjc => by
        refine ⟨?_, hjc⟩
        show (g.used.set i false)[j]?.getD false = false
        by_cases e : i = j
        · subst e; rw [List.getElem?_set_self hj]; rfl
        · rw [List.getElem?_set_ne e]; exact hju)
    have hfrE : frE π m = 0 := by unfold frE; rw [hu]; rfl
    obtain ⟨_, kq1, _, kqf⟩ := kq
    have kqf1 := kqf 1
    obtain ⟨c, hc⟩ : ∃ c : Nat, π.ow[p]?.getD 0 = (c : Int) + 1 := ⟨(π.ow[p]?.getD 0 - 1).toNat, by omega⟩
    have hck : c < π.sz.length := by omega
    have hoc : ownC π p = c := by unfold ownC; omega
    have how : AP.owner π.ow p = c := by rw [AP.owner_at hpl]; omega
    have s0 := M2.1.s0
    have HO : Hid (Calls Try.prog 31 #[.pointer (some ⟨β.g, 0, none⟩), .int .i64 p] _ fun e w' => e = .returned (.int .i64 c) ∧ _ = w') := Lib.hid (by
      have := owner_any (M2.1.ar hw2) p
      rw [show (SP.mark π m false (-1)).ow = π.ow by rw [hmk]; rfl, how] at this
      exact this)
    cases hcl : g.cl with
    | true =>
      have Hp : Hid (FrPost β π L m w (.returned (.int .i64 0)) ((w.setCell ⟨ub, i, none⟩ (.bool false)).setCell ⟨β.pb p, 1, none⟩ (.int .i64 (g.n - 1)))) := by
        refine Lib.hid ⟨by rw [hfrE]; rfl, β, ?_⟩
        unfold frS
        rw [hu, if_pos rfl, e1, show closedP π p = true by unfold closedP; rw [hpg]; exact hcl, if_pos rfl]
        exact ⟨M2.1.more (by omega), S2⟩
      rw [hcl] at kr
      have HC := Lib.hid hcl
      generalize g.used.length = N at *
      generalize g.n = gn at *
      clear h hw hu hpg hgu hps hmk hcnt hpv hur huc huf M1 M2 S2 hpg1 hpg2 hw2 hfrE kqf hc hoc how hcl HO e1 e2
      clear hmc
      go_enter Try.func12, Try.ntmps12
      go_wp2_with (go_at_call 11; refine Hu.out.mono ?_; rintro e w' ⟨rfl, rfl⟩)
      go_ret
      exact Hp.out
    | false =>
      obtain ⟨W2, hW2⟩ : ∃ W2, (w.setCell ⟨ub, i, none⟩ (.bool false)).setCell ⟨β.pb p, 1, none⟩ (.int .i64 (g.n - 1)) = W2 := ⟨_, rfl⟩
      rw [hW2] at M2 S2 kr s0 HO
      have s2 := M2.1.s2
      rw [show (SP.mark π m false (-1)).sz = π.sz by rw [hmk]; rfl] at s2
      have hmr : (SP.mark π m false (-1)).rows = π.rows := by rw [hmk]; rfl
      have hmz : (SP.mark π m false (-1)).sz = π.sz := by rw [hmk]; rfl
      obtain ⟨a, rcap, l, hl, hrv, hrc, hro⟩ := M2.1.row hw2 c (by rw [hmz]; exact hck)
      have hrl := M2.1.rvl
      rw [hmz] at hrl
      have hll := (hw2.ch c l hl).1
      have hrow : rowC π c = l := by unfold rowC; rw [← hmr, hl]; rfl
      have hrows : W2.ownsRow 0 22 1 (.slice (some ⟨β.rb, 0, none⟩) π.sz.length β.rc) π.sz.length β.rv := by
        have : W2.ownsRow 0 22 1 (.slice (some ⟨β.rb, 0, none⟩) (SP.mark π m false (-1)).sz.length β.rc) (SP.mark π m false (-1)).sz.length β.rv := M2.1.lie .rows
        rw [hmz] at this
        exact this
      obtain ⟨v, hv⟩ : ∃ v, v = Value.slice a l.length rcap := ⟨_, rfl⟩
      rw [← hv] at hrv hrc hro
      have hvrb : some β.rb ≠ v.ownBlock := fun e => by have := M2.1.inj .rows (.row c) β.rb rfl (by simp [blk, hrv, e]); cases this
      have hsr : β.sb ≠ β.rb := fun e => by have := M2.1.inj .sl .rows β.sb rfl (by rw [e]; rfl); cases this
      have hvsb : some β.sb ≠ v.ownBlock := fun e => by have := M2.1.inj .sl (.row c) β.sb rfl (by simp [blk, hrv, e]); cases this
      have hrbl := M2.1.lt .rows _ rfl
      have hsbl := M2.1.lt .sl _ rfl
      obtain ⟨X1, hX1⟩ : ∃ X1, (W2.alloc (.cells #[.int .i64 (m : Int)] 3)).drew = X1 := ⟨_, rfl⟩
      have hXs : X1.heap.size = W2.heap.size + 1 := by rw [← hX1]; simp
      have hBX : Below W2.heap.size W2 X1 := by rw [← hX1]; exact ((Below.refl _ W2).alloc (Nat.le_refl _) _).drew
      have hd2 : W2.drew.cell? ⟨β.sb, 2, none⟩ = some (.slice (some ⟨β.rb, 0, none⟩) π.sz.length β.rc) := s2
      have hd5 : W2.drew.cell? ⟨β.rb, c, none⟩ = some v := hrc
      have hX2 : X1.cell? ⟨β.sb, 2, none⟩ = some (.slice (some ⟨β.rb, 0, none⟩) π.sz.length β.rc) := (hBX.cell (p := ⟨β.sb, 2, none⟩) (by show β.sb < _; omega)).trans s2
      have hX5 : X1.cell? ⟨β.rb, c, none⟩ = some v := (hBX.cell (p := ⟨β.rb, c, none⟩) (by show β.rb < _; omega)).trans hrc
      have hro1 : X1.ownsRow 0 3 1 v l.length (l.map (.int .i64)) := own_tchB hro (Tch.of_below (fun _ => False) hBX) (fun _ _ x => x)
      have hrowX : X1.ownsRow 0 22 1 (.slice (some ⟨β.rb, 0, none⟩) π.sz.length β.rc) π.sz.length β.rv := own_tchB hrows (Tch.of_below (fun _ => False) hBX) (fun _ _ x => x)
      have hnews := World.news_of_block (w := X1) (B := W2.heap.size) (cs := #[.int .i64 (m : Int)]) (t := 3) (fr := (0, 0)) (by rw [← hX1]; exact World.alloc_heap_new W2 _)
      have hLim := hw.lim
      obtain ⟨i0, hi0, hz0, hz1, hz2⟩ := info_parts intE_info
      have HF : Hid (∀ g' N1 cap' w1, l.length + 1 = N1 → w1.ownsRow 0 3 1 (.slice (some ⟨g', 0, none⟩) N1 cap') N1 (l.map (.int .i64) ++ [.int .i64 (m : Int)]) → X1.grownBy w1 v.ownBlock → (v.ownBlock = some g' ∨ g' = W2.heap.size + 1) → g' < w1.heap.size →
          w1.cell? ⟨β.rb, c, none⟩ = some v ∧ w1.frozen? ⟨β.rb, c, none⟩ = false ∧ w1.cell? ⟨β.sb, 2, none⟩ = some (.slice (some ⟨β.rb, 0, none⟩) π.sz.length β.rc) ∧ FrPost β π L m w (.returned (.int .i64 0)) (w1.setCell ⟨β.rb, c, none⟩ (.slice (some ⟨g', 0, none⟩) N1 cap'))) := by
        refine Lib.hid (fun g' N1 cap' w1 hN1 hown1 hgr1 hat1 hlt1 => ?_)
        have hrw1 : w1.ownsRow 0 22 1 (.slice (some ⟨β.rb, 0, none⟩) π.sz.length β.rc) π.sz.length β.rv := own_tchB hrowX (Tch.of_grown hgr1) (fun b hb hx => hvrb (by rw [show b = β.rb by simpa [Value.ownBlock] using hb.symm] at hx; exact hx.symm))
        refine ⟨(hgr1.cell_far ⟨β.rb, c, none⟩ (by show β.rb < _; omega) hvrb).trans hX5, hrw1.frozenAt c, (hgr1.cell_far ⟨β.sb, 2, none⟩ (by show β.sb < _; omega) hvsb).trans hX2, by rw [hfrE]; rfl, ?_⟩
        have hst := (hrw1.stored c (.slice (some ⟨g', 0, none⟩) N1 cap')).1
        have hgrb : g' ≠ β.rb := by
          rcases hat1 with e | e
          · intro e'; exact hvrb (by rw [e, e'])
          · omega
        have hTW : Tch (rowT β c) W2 (w1.setCell ⟨β.rb, c, none⟩ (.slice (some ⟨g', 0, none⟩) N1 cap')) :=
          ((Tch.of_below (rowT β c) hBX).trans (Tch.of_grown hgr1) (fun b hb => .inl (.inr (by rw [hrv]; exact hb)))).trans (Tch.setCell w1 β.rb c _) (fun b hb => .inl (.inl hb))
        have hfin := M2.1.setRow hw2 c (by rw [hmz]; exact hck) (.slice (some ⟨g', 0, none⟩) N1 cap') (l ++ [(m : Int)]) hTW (by rw [hmz]; exact hst)
          (by
            rw [show (l ++ [(m : Int)]).length = N1 by simp; omega, List.map_append]
            exact own_tchB hown1 (Tch.setCell w1 β.rb c (.slice (some ⟨g', 0, none⟩) N1 cap')) (fun b hb hx => hgrb ((show g' = b by simpa [Value.ownBlock] using hb).trans hx)))
          (fun b hb => by
            have e : g' = b := by simpa [Value.ownBlock] using hb
            subst e
            rcases hat1 with e | e
            · exact .inl (by rw [hrv]; exact e)
            · exact .inr (by omega))
        have hfs : frS π m = { SP.mark π m false (-1) with rows := (SP.mark π m false (-1)).rows.set c (l ++ [(m : Int)]) } := by
          unfold frS
          rw [hu, if_pos rfl, e1, show closedP π p = false by unfold closedP; rw [hpg]; exact hcl, if_neg (by simp), hoc, hrow, hmr]
        rw [hfs]
        exact ⟨_, hfin.1.more (by omega), S2.trans hfin.2⟩
      rw [hcl] at kr
      have HC := Lib.hid hcl
      have Hv := Lib.hid hv
      have h63 : l.length + 1 ≤ maxLen := by unfold maxLen; omega
      generalize g.used.length = N at *
      generalize g.n = gn at *
      generalize hn0 : l.length = n0 at *
      clear h hw hu hpg hgu hps hmk hcnt hpv hur huc huf M1 M2 S2 hpg1 hpg2 hw2 hfrE kqf hc hoc how hcl e1 e2 hmr hmz hl hrv hro hrl hrow hrows hrowX hv
      clear hmc
      go_enter Try.func12, Try.ntmps12
      go_wp2_with (first
        | (go_at_call 11; refine Hu.out.mono ?_; rintro e w' ⟨rfl, rfl⟩)
        | (go_at_call 31; refine HO.out.mono ?_; rintro e w' ⟨rfl, rfl⟩))
      go_region_law (refine step_append_lies X1 rfl (.tmp 55) (.tmp 57) 22 rfl 0 3 i0 (.int .i64 0) 1 8 Try.underlying22 hi0 hz0 hz1 hz2 rfl (by decide) v _ _ rfl hro1 ⟨W2.heap.size, 0, none⟩ 1 1 [.int .i64 (m : Int)] rfl rfl hnews (by simp [Value.oneCell']) (by omega) h63 (by omega) (by omega) (W2.heap.size + 1) hXs ?_
                     intro g' cap' w1 hown1 hgr1 hat1 hlt1
                     obtain ⟨N1, hN1⟩ : ∃ N1, n0 + 1 = N1 := ⟨_, rfl⟩
                     rw [hN1] at hown1 ⊢
                     obtain ⟨f1, f2, f3, f4⟩ := HF.out g' N1 cap' w1 hN1 hown1 hgr1 hat1 hlt1
                     have Hf4 := Lib.hid f4
                     clear f4 hN1)
      all_goals go_wp2
      all_goals go_ret
      all_goals exact Hf4.out
end Go.Proofs.Ytfmgncajhjkdlaa
