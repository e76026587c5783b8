/- Swf, Swh, Spt, Ita. -/
import Derived.Test.YtboehbfagnocpaaGreatDoorUad
import Derived.Laws.CopyOwn
import Derived.StillTailTactics
set_option linter.unusedVariables false
set_option linter.unusedSimpArgs false
set_option maxRecDepth 100000
open Go.Proofs.Tryz
open Go.Lib (hid)
namespace Go.Proofs.YtboehbfagnocpaaGreatDoor
open Go.RowKit Go.PlainAid
open SP
theorem chunk_inj {p i q j : Nat} (hi : i < 4096) (hj : j < 4096) (h : ((p * 4096 + i : Nat) : Int) = ((q * 4096 + j : Nat) : Int)) : p = q ∧ i = j := by omega
theorem Wf.pop {π : Pi} {L : Nat} (h : Wf π L) {c : Nat} (hc : c < π.sz.length) (hne : rowC π c ≠ []) : Wf (popP π c) L := by
  have hcr : c < π.rows.length := by rw [h.rl]; exact hc
  have hrow : π.rows[c]? = some (rowC π c) := by unfold rowC; rw [List.getElem?_eq_getElem hcr]; rfl
  obtain ⟨hl, hnd, hx⟩ := h.ch c _ hrow
  obtain ⟨p, i, g, e1, hpg, hig, hgu, hgc, hgo⟩ := hx _ (lastC_mem hne)
  have hps := h.page_some hpg
  have hsplit : rowC π c = (rowC π c).dropLast ++ [lastC (rowC π c)] := by
    have h1 := List.dropLast_concat_getLast hne
    rw [List.getLast_eq_getElem] at h1
    have hlp := List.length_pos_iff.2 hne
    have h2 : lastC (rowC π c) = (rowC π c)[(rowC π c).length - 1]'(by omega) := by
      unfold lastC
      rw [List.getElem?_eq_getElem (by have := List.length_pos_iff.2 hne; omega)]; rfl
    rw [h2]
    exact h1.symm
  have hnd2 := hnd
  rw [hsplit, List.nodup_append] at hnd2
  have h1 := h.setRow (Nat.le_refl _) h.lim c (rowC π c).dropLast (by simp; omega) hnd2.1 (fun x hxm => hx x (List.dropLast_subset _ hxm))
  unfold popP SP.mark
  rw [e1, show (((p * 4096 + i : Nat) : Int) / 4096).toNat = p by omega, show (((p * 4096 + i : Nat) : Int) % 4096).toNat = i by omega, show ({ π with rows := π.rows.set c (rowC π c).dropLast } : Pi).page p = some g from hpg]
  refine h1.setPg (x := g) hpg (by simp) ?_ ?_
  · dsimp only
    rw [count_on hig hgu]
    have := hps.2.2.2.1
    omega
  · intro c' l' j hl' hj hjl hju hjc
    refine ⟨?_, hjc⟩
    dsimp only
    by_cases e : i = j
    · subst e
      exfalso
      dsimp only at hl'
      by_cases e2 : c = c'
      · subst e2
        rw [List.getElem?_set_self hcr] at hl'
        cases hl'
        exact hnd2.2.2 _ hj _ (List.mem_singleton_self _) e1.symm
      · rw [List.getElem?_set_ne e2] at hl'
        obtain ⟨q, j', g', f1, f2, f3, _, _, f4⟩ := (h.ch c' l' hl').2.2 _ hj
        have := (h.page_some f2).2.2.2.2.2
        obtain ⟨rfl, rfl⟩ := chunk_inj (by omega) (by omega) f1
        omega
    · rw [List.getElem?_set_ne e]
      exact hju
theorem Wf.alS {π : Pi} {L : Nat} (h : Wf π L) (c : Int) (hm : L + 2000 ≤ 100000000) : Wf (alS π c) (L + 2000) := by
  unfold Go.Proofs.YtboehbfagnocpaaGreatDoor.alS
  split
  · rename_i h0
    have hc : 0 ≤ c ∧ c < (π.sz.length : Int) := by
      unfold alOk at h0
      split at h0
      · omega
      · rename_i h1; simpa using h1
    obtain ⟨k, rfl⟩ := Int.eq_ofNat_of_zero_le hc.1
    rw [Int.toNat_natCast]
    have hp := h.pre (c := k) (by omega) (by omega) (fun hr => alOk_inv h0 hr)
    exact (hp.1.pop (by rw [preP_sz]; omega) hp.2).mono (by omega) (by omega)
  · exact h.mono (by omega) (by omega)
def szP (π : Pi) (p : Nat) : Int := π.sz[ownC π p]?.getD 0
def whP (π : Pi) (ch : Int) : Int := if usedP π ch then ch / 4096 else -1
def whA (π : Pi) (ch : Int) : Int := if usedP π ch then ch % 4096 * szP π (ch / 4096).toNat else 0
def whS (π : Pi) (ch : Int) : Int := if usedP π ch then szP π (ch / 4096).toNat else 0
theorem Wf.szP {π : Pi} {L p : Nat} {x : Pg} (h : Wf π L) (hx : π.page p = some x) : 64 ≤ szP π p ∧ szP π p ≤ (π.S : Int) ∧ ownC π p < π.sz.length ∧ AP.owner π.ow p = ownC π p := by
  have hps := h.page_some hx
  have hpl := h.page_lt hx
  have hc : ownC π p < π.sz.length := by unfold ownC; omega
  have := h.sz (π.sz[ownC π p]?.getD 0) (by rw [List.getElem?_eq_getElem hc]; exact List.getElem_mem hc)
  refine ⟨this.1, this.2, hc, ?_⟩
  rw [AP.owner_at hpl]
  unfold ownC
  omega
set_option maxRecDepth 100000 in
set_option maxHeartbeats 1000000 in
theorem where_any {w : World} {β : Bk} {π : Pi} {L : Nat} (h : Mem w β π L) (hw : Wf π L) (ch : Int) (hch : ch ≤ 9223372036854775807) :
    Calls prog 180 #[.pointer (some ⟨β.sb, 0, none⟩), .int .i64 ch] w fun e w' => e = .returned (.tuple #[.int .i64 (whP π ch), .int .i64 (whA π ch), .int .i64 (whS π ch)]) ∧ ∃ n, w' = w.drewN n := by
  cases hu : usedP π ch with
  | false =>
    have Hu := hid (used_at h hw ch hch hu)
    have Hr : Hid (whP π ch = -1 ∧ whA π ch = 0 ∧ whS π ch = 0) := hid (by unfold whP whA whS; rw [hu]; exact ⟨rfl, rfl, rfl⟩)
    clear h hu
    go_enter func180, ntmps180
    go_wp2_with (go_at_call 229; refine Hu.out.mono ?_; rintro e w' ⟨rfl, rfl⟩)
    refine bodyPost_ret (results_tmp3 rfl _ _ _) rfl ?_
    exact ⟨by rw [Hr.out.1, Hr.out.2.1, Hr.out.2.2]; rfl, 0, rfl⟩
  | true =>
    have Hu := hid (used_at h hw ch hch hu)
    obtain ⟨p, i, g, hchp, hi4, hpg, hig, hgu⟩ := usedP_inv hu
    have hps := hw.page_some hpg
    have hsp := hw.szP hpg
    have hpl := hw.page_lt hpg
    have hnp := hw.np1
    have hS := hw.siz
    have hk1 := hw.k1
    have e1 : (ch / 4096).toNat = p := by omega
    have Hr : Hid (whP π ch = p ∧ whA π ch = (i : Int) * szP π p ∧ whS π ch = szP π p) := hid (by
      unfold whP whA whS
      rw [hu, if_pos rfl, if_pos rfl, if_pos rfl, e1]
      refine ⟨by omega, ?_, rfl⟩
      rw [show ch % 4096 = (i : Int) by omega])
    obtain ⟨m, hm⟩ : ∃ m : Nat, ch = (m : Int) := ⟨p * 4096 + i, hchp⟩
    subst hm
    have q1 : (m : Int) / 4096 = (p : Int) := by omega
    have q2 : (m : Int) % 4096 = (i : Int) := by omega
    have s0 := h.s0
    have s1 := h.s1
    have hcell := h.size (ownC π p) hsp.2.2.1
    have hcell2 : w.cell? ⟨β.zb, ownC π p, none⟩ = some (.int .i64 (szP π p)) := hcell
    have hpq : (p : Int) ≤ 1023 := by omega
    have hi2 : (i : Int) ≤ 1024 := by omega
    have hz1 := hsp.1
    have hz2 := hsp.2.1
    have hcl : (ownC π p : Int) < (π.sz.length : Int) := by omega
    have hw1 : IntKind.i64.wrap ((i : Int) * szP π p) = (i : Int) * szP π p := by
      have h1 : (i : Int) * szP π p ≤ 1024 * 65536 := Int.mul_le_mul hi2 (by omega) (by omega) (by omega)
      have h2 : 0 ≤ (i : Int) * szP π p := Int.mul_nonneg (by omega) (by omega)
      exact IntWalk.i64_in _ (by omega)
    have HO : Hid (∀ n, Calls prog 187 #[.pointer (some ⟨β.g, 0, none⟩), .int .i64 p] (w.drewN n) fun e w' => e = .returned (.int .i64 (ownC π p : Nat)) ∧ w' = w.drewN n) := hid (fun n => by
      have := owner_any ((h.drewN n).ar hw) p
      rw [hsp.2.2.2] at this
      exact this.mono (fun e w' h => ⟨h.1, h.2.symm⟩))
    generalize szP π p = z at *
    generalize ownC π p = c at *
    clear h hu hchp hpg hps hsp hcell e1 hS hig hgu
    go_enter func180, ntmps180
    go_wp2_with (go_at_call 229; refine Hu.out.mono ?_; rintro e w' ⟨rfl, rfl⟩)
    go_quiet ((go_at_call 187; exact Calls.quiet_of_same (HO.out _)))
    go_wp2
    refine bodyPost_ret (results_tmp3 rfl _ _ _) rfl ?_
    exact ⟨by rw [Hr.out.1, Hr.out.2.1, Hr.out.2.2]; rfl, _, rfl⟩
theorem Mem.wrote {w W : World} {β : Bk} {π : Pi} {L : Nat} {bv' : Value} {bs' : List Int} (h : Mem w β π L) (hA : Ar W β.g β.k π.ow.length π.S bv' π.ow bs') (ht : Tch (fun i => i = β.g ∨ β.bv.ownBlock = some i) w W) (hf : Fresh β.bv bv' w) :
    Mem W { β with bv := bv' } { π with bs := bs' } L ∧ Step w β π W { β with bv := bv' } { π with bs := bs' } := by
  refine h.updS (fun i => i = .ar ∨ i = .byt) ht ?_ ?_ ?_ rfl rfl
  · rintro b (rfl | hb)
    · exact ⟨.ar, .inl rfl, rfl⟩
    · exact ⟨.byt, .inr rfl, hb⟩
  · intro i hi
    cases i with
    | ar => exact absurd (.inl rfl) hi
    | byt => exact absurd (.inr rfl) hi
    | row c' => exact ⟨rfl, fun W' hr => hr⟩
    | pg q => exact ⟨rfl, fun W' hr => hr⟩
    | use q => exact ⟨rfl, fun W' hr => hr⟩
    | _ => exact ⟨rfl, fun W' hr => hr⟩
  · rintro i (rfl | rfl)
    · refine ⟨hA.box, fun b hb => ?_⟩
      have e : β.g = b := by simpa [blk] using hb
      subst e
      exact ⟨(Array.getElem?_eq_some_iff.1 hA.box).1, .inl rfl⟩
    · refine ⟨hA.byt, fun b hb => ?_⟩
      have hb' : bv'.ownBlock = some b := hb
      refine ⟨(hA.byt.lt b hb').2, ?_⟩
      rcases hf b hb' with h1 | h1
      · exact .inl h1
      · refine .inr ⟨h1, ?_⟩
        rintro j (rfl | rfl) hj
        · have e : β.g = b := by simpa [blk] using hj
          subst e
          exact absurd hb' hA.ne.2.1
        · rfl
def ptOk (π : Pi) (ch : Int) (n : Nat) : Nat := if usedP π ch = false then 8 else if whS π ch < (n : Int) then 4 else 0
def ptS (π : Pi) (ch : Int) (l : List Int) : Pi := if ptOk π ch l.length = 0 then { π with bs := AP.wrB π.ow π.bs π.S (whP π ch) (whA π ch) l } else π
theorem ptNo {w : World} {β : Bk} {π : Pi} {L k : Nat} {ch : Int} {l : List Int} (h : Mem w β π L) (hk : ptOk π ch l.length = k) (h0 : k ≠ 0) : ∃ β', Mem w β' (ptS π ch l) L ∧ Step w β π w β' (ptS π ch l) := by
  unfold ptS
  rw [hk, if_neg h0]
  exact ⟨β, h, Step.refl _ _ _⟩
theorem fits_of {π : Pi} {L : Nat} (h : Wf π L) {ch : Int} (hu : usedP π ch = true) : ∃ p i : Nat, ch = ((p * 4096 + i : Nat) : Int) ∧ whP π ch = p ∧ whA π ch = (i : Int) * szP π p ∧ whS π ch = szP π p ∧ p < π.ow.length ∧ 0 ≤ AP.owner π.ow p ∧ (i : Int) * szP π p + szP π p ≤ π.S ∧ 64 ≤ szP π p ∧ (∃ x, π.page p = some x ∧ i < x.used.length) := by
  obtain ⟨p, i, g, hchp, hi4, hpg, hig, hgu⟩ := usedP_inv hu
  have hps := h.page_some hpg
  have hsp := h.szP hpg
  have e1 : (ch / 4096).toNat = p := by omega
  refine ⟨p, i, hchp, by unfold whP; rw [hu, if_pos rfl]; omega, ?_, by unfold whS; rw [hu, if_pos rfl, e1], h.page_lt hpg, by rw [hsp.2.2.2]; omega, ?_, hsp.1, g, hpg, hig⟩
  · unfold whA; rw [hu, if_pos rfl, e1, show ch % 4096 = (i : Int) by omega]
  · have e : g.used.length = π.S / (szP π p).toNat := hps.2.2.1
    have hz : ((szP π p).toNat : Int) = szP π p := Int.toNat_of_nonneg (by omega)
    have h1 : (i + 1) * (szP π p).toNat ≤ π.S := Nat.le_trans (Nat.mul_le_mul_right _ (show i + 1 ≤ π.S / (szP π p).toNat by omega)) (Nat.div_mul_le_self _ _)
    have h2 : (((i + 1) * (szP π p).toNat : Nat) : Int) = (i : Int) * szP π p + szP π p := by
      rw [Nat.add_mul, Nat.one_mul, Int.natCast_add, Int.natCast_mul, hz]
    omega
theorem where_at {w : World} {β : Bk} {π : Pi} {L : Nat} (h : Mem w β π L) (hw : Wf π L) (ch : Int) (hch : ch ≤ 9223372036854775807) {p a s : Int} (hp : whP π ch = p) (ha : whA π ch = a) (hs : whS π ch = s) :
    Calls prog 180 #[.pointer (some ⟨β.sb, 0, none⟩), .int .i64 ch] w fun e w' => e = .returned (.tuple #[.int .i64 p, .int .i64 a, .int .i64 s]) ∧ ∃ n, w' = w.drewN n := by
  rw [← hp, ← ha, ← hs]; exact where_any h hw ch hch
set_option maxRecDepth 100000 in
set_option maxHeartbeats 1000000 in
theorem put_any {w : World} {β : Bk} {π : Pi} {L : Nat} (h : Mem w β π L) (hw : Wf π L) (ch : Int) (hch : ch ≤ 9223372036854775807) (A : Option Addr) (n cap : Nat) (l : List Int) (hln : l.length = n) (hl : n ≤ 1000000) (hbl : π.bs.length ≤ 67108864)
    (hv : ∀ w', Tch (foot β π) w w' → RB w' (.slice A n cap) l) :
    Calls prog 121 #[.pointer (some ⟨β.sb, 0, none⟩), .int .i64 ch, .slice A n cap] w fun e w' => e = .returned (.int .i64 (ptOk π ch n : Nat)) ∧ ∃ β', Mem w' β' (ptS π ch l) L ∧ Step w β π w' β' (ptS π ch l) := by
  cases hu : usedP π ch with
  | false =>
    have hk : ptOk π ch n = 8 := by unfold ptOk; rw [if_pos hu]
    have HW := hid (where_at h hw ch hch (p := -1) (a := 0) (s := 0) (by unfold whP; rw [hu]; rfl) (by unfold whA; rw [hu]; rfl) (by unfold whS; rw [hu]; rfl))
    have Hp := hid (fun m => ptNo (w := w.drewN m) (h.drewN m) (show ptOk π ch l.length = 8 by rw [hln]; exact hk) (by omega))
    have Hk := hid hk
    have HS : Hid (∀ m, Step w β π (w.drewN m) β π) := hid (fun m => Step.of_below (below_drewN (Below.refl _ _) m))
    clear h hw hv hu hk
    go_enter func121, ntmps121
    go_wp2_with (go_at_call 180; refine HW.out.mono ?_; rintro e w' ⟨rfl, m, rfl⟩)
    go_ret
    obtain ⟨β', h1, h2⟩ := Hp.out m
    exact ⟨by rw [Hk.out]; rfl, β', h1, (HS.out m).trans h2⟩
  | true =>
    obtain ⟨p, i, hchp, hwP, hwA, hwS, hpl, hown, hfit, hz, _⟩ := fits_of hw hu
    have HW := hid (where_at h hw ch hch hwP hwA hwS)
    have hS := hw.siz
    have hnp := hw.np1
    have s0 := h.s0
    by_cases hlg : szP π p < (n : Int)
    · have hk : ptOk π ch n = 4 := by unfold ptOk; rw [if_neg (by rw [hu]; simp), hwS, if_pos hlg]
      have Hp := hid (fun m => ptNo (w := w.drewN m) (h.drewN m) (show ptOk π ch l.length = 4 by rw [hln]; exact hk) (by omega))
      have Hk := hid hk
      have HS : Hid (∀ m, Step w β π (w.drewN m) β π) := hid (fun m => Step.of_below (below_drewN (Below.refl _ _) m))
      generalize szP π p = z at *
      generalize (i : Int) * z = a at *
      clear h hw hv hu hk hwP hwA hwS hchp hown hfit
      go_enter func121, ntmps121
      go_wp2_with (go_at_call 180; refine HW.out.mono ?_; rintro e w' ⟨rfl, m, rfl⟩)
      go_ret
      obtain ⟨β', h1, h2⟩ := Hp.out m
      exact ⟨by rw [Hk.out]; rfl, β', h1, (HS.out m).trans h2⟩
    · have hk : ptOk π ch n = 0 := by unfold ptOk; rw [if_neg (by rw [hu]; simp), hwS, if_neg hlg]
      have hA0 : 0 ≤ (i : Int) * szP π p := Int.mul_nonneg (by omega) (by omega)
      have hby : AP.byE π.ow π.S (p : Int) ((i : Int) * szP π p) l.length = 0 := by
        unfold AP.byE
        rw [if_neg (by omega), if_neg (by rw [hln]; omega)]
      have HWr : Hid (∀ m, Calls prog 190 #[.pointer (some ⟨β.g, 0, none⟩), .int .i64 p, .int .i64 ((i : Int) * szP π p), .slice A n cap] (w.drewN m) fun e w' => e = .returned (.int .i64 0) ∧ ∃ β', Mem w' β' (ptS π ch l) L ∧ Step w β π w' β' (ptS π ch l)) := hid (fun m => by
        have hAr := (h.drewN m).ar hw
        refine (write_any hAr (p : Int) ((i : Int) * szP π p) (.slice A n cap) l hbl (by unfold maxLen; omega) (fun w' ht => hv w' ?_)).mono ?_
        · exact ((Tch.refl (foot β π) w).drewN m).trans (ht.mono (T := foot β π) (fun b hb => by
            rcases hb with rfl | hb
            · exact ⟨.ar, rfl⟩
            · exact ⟨.byt, hb⟩)) (fun b hb => .inl hb)
        · rintro e w' ⟨rfl, bv', hA', ht, hf⟩
          have hM := (h.drewN m).wrote hA' ht hf
          refine ⟨by rw [hby], { β with bv := bv' }, ?_⟩
          have e : ptS π ch l = { π with bs := AP.wrB π.ow π.bs π.S (p : Int) ((i : Int) * szP π p) l } := by
            unfold ptS; rw [hln, hk, if_pos rfl, hwP, hwA]
          rw [e]
          exact ⟨hM.1, (Step.of_below (below_drewN (Below.refl _ _) m)).trans hM.2⟩)
      have Hk := hid hk
      have s0d : ∀ m, (w.drewN m).cell? ⟨β.sb, 0, none⟩ = some (.pointer (some ⟨β.g, 0, none⟩)) := fun m => (h.drewN m).s0
      generalize szP π p = z at *
      generalize (i : Int) * z = a at *
      clear h hw hv hu hk hwP hwA hwS hchp hown hfit hby s0
      go_enter func121, ntmps121
      go_wp2_with (fail)
      refine HW.out.mono ?_
      rintro e w' ⟨rfl, m, rfl⟩
      have s0m := s0d m
      have HWm := hid (HWr.out m)
      clear s0d HW HWr
      generalize w.drewN m = w1 at *
      go_wp2_with (go_at_call 190; refine HWm.out.mono ?_; rintro e w' ⟨rfl, hE⟩)
      go_ret
      exact ⟨by rw [Hk.out]; rfl, hE⟩
def gtOk (π : Pi) (ch n : Int) : Nat := if usedP π ch = false then 8 else if n < 0 ∨ whS π ch < n then 1 else 0
def gtS (π : Pi) (ch n : Int) : Pi := if gtOk π ch n = 0 then { π with bs := AP.rdB π.ow π.bs π.S (whP π ch) (whA π ch) n } else π
def gtL (π : Pi) (ch n : Int) : List Int := if gtOk π ch n = 0 then AP.rdL π.ow π.bs π.S (whP π ch) (whA π ch) n else []
def GtPost (β : Bk) (π : Pi) (L : Nat) (ch n : Int) (w : World) (e : Ending) (w' : World) : Prop :=
  ∃ v B β', e = .returned (.tuple #[v, .int .i64 (gtOk π ch n : Nat)]) ∧ w.heap.size ≤ B ∧ w'.ownsRow B 5 1 v (gtL π ch n).length ((gtL π ch n).map (.int .u8)) ∧ Mem w' β' (gtS π ch n) L ∧ Step w β π w' β' (gtS π ch n) ∧ (∀ b, foot β' (gtS π ch n) b → b < B)
theorem gtNo {w : World} {β : Bk} {π : Pi} {L k m : Nat} {ch n : Int} (h : Mem w β π L) (hk : gtOk π ch n = k) (h0 : k ≠ 0) : GtPost β π L ch n w (.returned (.tuple #[.slice none 0 0, .int .i64 (k : Nat)])) (w.drewN m) := by
  have e1 : gtS π ch n = π := by unfold gtS; rw [hk, if_neg h0]
  have e2 : gtL π ch n = [] := by unfold gtL; rw [hk, if_neg h0]
  refine ⟨_, w.heap.size, β, by rw [hk], Nat.le_refl _, by rw [e2]; exact World.ownsRow_nil _ _ _ _, by rw [e1]; exact h.drewN m, by rw [e1]; exact Step.of_below (below_drewN (Below.refl _ _) m), ?_⟩
  rintro b ⟨i, hi⟩
  rw [e1] at hi
  exact h.lt i b hi
set_option maxRecDepth 100000 in
set_option maxHeartbeats 1000000 in
theorem get_any {w : World} {β : Bk} {π : Pi} {L : Nat} (h : Mem w β π L) (hw : Wf π L) (ch n : Int) (hch : ch ≤ 9223372036854775807) (hn1 : -9223372036854775808 ≤ n) (hn2 : n ≤ 9223372036854775807) (hbl : π.bs.length ≤ 67108864) :
    Calls prog 181 #[.pointer (some ⟨β.sb, 0, none⟩), .int .i64 ch, .int .i64 n] w (GtPost β π L ch n w) := by
  cases hu : usedP π ch with
  | false =>
    have hk : gtOk π ch n = 8 := by unfold gtOk; rw [if_pos hu]
    have HW := hid (where_at h hw ch hch (p := -1) (a := 0) (s := 0) (by unfold whP; rw [hu]; rfl) (by unfold whA; rw [hu]; rfl) (by unfold whS; rw [hu]; rfl))
    have Hp := hid (fun m => gtNo (m := m) h hk (by omega))
    clear h hw hu hk
    go_enter func181, ntmps181
    go_wp2_with (go_at_call 180; refine HW.out.mono ?_; rintro e w' ⟨rfl, m, rfl⟩)
    go_ret2
    exact Hp.out m
  | true =>
    obtain ⟨p, i, hchp, hwP, hwA, hwS, hpl, hown, hfit, hz, _⟩ := fits_of hw hu
    have HW := hid (where_at h hw ch hch hwP hwA hwS)
    have hS := hw.siz
    have hnp := hw.np1
    by_cases hlg : n < 0 ∨ szP π p < n
    · have hk : gtOk π ch n = 1 := by unfold gtOk; rw [if_neg (by rw [hu]; simp), hwS, if_pos hlg]
      have Hp := hid (fun m => gtNo (m := m) h hk (by omega))
      generalize szP π p = z at *
      generalize (i : Int) * z = a at *
      clear h hw hu hk hwP hwA hwS hchp hown hfit
      by_cases hn0 : n < 0
      · clear hlg
        go_enter func181, ntmps181
        go_wp2_with (go_at_call 180; refine HW.out.mono ?_; rintro e w' ⟨rfl, m, rfl⟩)
        go_ret2
        exact Hp.out m
      · have hlg2 : z < n := by omega
        clear hlg
        go_enter func181, ntmps181
        go_wp2_with (go_at_call 180; refine HW.out.mono ?_; rintro e w' ⟨rfl, m, rfl⟩)
        go_ret2
        exact Hp.out m
    · have hk : gtOk π ch n = 0 := by unfold gtOk; rw [if_neg (by rw [hu]; simp), hwS, if_neg hlg]
      have hA0 : 0 ≤ (i : Int) * szP π p := Int.mul_nonneg (by omega) (by omega)
      have hby : AP.byE π.ow π.S (p : Int) ((i : Int) * szP π p) n = 0 := by
        unfold AP.byE
        rw [if_neg (by omega), if_neg (by omega)]
      have HWr : Hid (∀ m, Calls prog 231 #[.pointer (some ⟨β.g, 0, none⟩), .int .i64 p, .int .i64 ((i : Int) * szP π p), .int .i64 n] (w.drewN m) fun e w' => ∃ v, e = .returned (.tuple #[v, .int .i64 0]) ∧ GtPost β π L ch n w (.returned (.tuple #[v, .int .i64 0])) w') := hid (fun m => by
        have hAr := (h.drewN m).ar hw
        refine (read_any hAr (p : Int) ((i : Int) * szP π p) n hbl hn1 hn2).mono ?_
        rintro e w' ⟨v, bv', B, rfl, hB, hov, hA', ht, hf, hBj⟩
        have hM := (h.drewN m).wrote hA' ht hf
        have e1 : gtS π ch n = { π with bs := AP.rdB π.ow π.bs π.S (p : Int) ((i : Int) * szP π p) n } := by unfold gtS; rw [hk, if_pos rfl, hwP, hwA]
        have e2 : gtL π ch n = AP.rdL π.ow π.bs π.S (p : Int) ((i : Int) * szP π p) n := by unfold gtL; rw [hk, if_pos rfl, hwP, hwA]
        rw [hby]
        refine ⟨v, rfl, v, B, { β with bv := bv' }, by rw [hk]; rfl, hB, by rw [e2]; exact hov, by rw [e1]; exact hM.1, by rw [e1]; exact (Step.of_below (below_drewN (Below.refl _ _) m)).trans hM.2, ?_⟩
        rintro b ⟨j, hj⟩
        rw [e1] at hj
        by_cases hjb : j = .byt
        · subst hjb; exact hBj b hj
        · have : blk β π j = some b := by
            cases j with
            | byt => exact absurd rfl hjb
            | _ => exact hj
          exact Nat.lt_of_lt_of_le (h.lt j b this) hB)
      have s0d : ∀ m, (w.drewN m).cell? ⟨β.sb, 0, none⟩ = some (.pointer (some ⟨β.g, 0, none⟩)) := fun m => (h.drewN m).s0
      have hn0 : 0 ≤ n := by omega
      have hnz : n ≤ szP π p := by omega
      generalize szP π p = z at *
      generalize (i : Int) * z = a at *
      clear h hw hu hk hwP hwA hwS hchp hown hfit hby hlg
      go_enter func181, ntmps181
      go_wp2_with (fail)
      refine HW.out.mono ?_
      rintro e w' ⟨rfl, m, rfl⟩
      have s0m := s0d m
      have HWm := hid (HWr.out m)
      clear s0d HW HWr
      generalize w.drewN m = w1 at *
      go_wp2_with (go_at_call 231; refine HWm.out.mono ?_; rintro e w' ⟨v, rfl, hE⟩)
      go_ret2
      exact hE
end Go.Proofs.YtboehbfagnocpaaGreatDoor
namespace Go.Proofs.YtboehbfagnocpaaGreatDoor.I8.P
def le : Nat → Int → List Int
  | 0, _ => []
  | m + 1, n => n % 256 :: le m (n / 256)
def num : List Int → Int
  | [] => 0
  | c :: l => c + 256 * num l
def Bytes (l : List Int) : Prop := ∀ x ∈ l, 0 ≤ x ∧ x < 256
theorem le_len : ∀ (m : Nat) (n : Int), (le m n).length = m := by
  intro m; induction m with
  | zero => intro n; rfl
  | succ m ih => intro n; simp [le, ih]
theorem le_bytes : ∀ (m : Nat) (n : Int), Bytes (le m n) := by
  intro m; induction m with
  | zero => intro n x hx; simp [le] at hx
  | succ m ih =>
    intro n x hx
    rcases List.mem_cons.1 (by simpa [le] using hx) with rfl | h
    · omega
    · exact ih _ x h
theorem le_snoc : ∀ (m : Nat) (n : Int), le (m + 1) n = le m n ++ [n / 256 ^ m % 256] := by
  intro m; induction m with
  | zero => intro n; simp [le]
  | succ m ih =>
    intro n
    rw [le, ih, le]
    simp only [List.cons_append]
    rw [Int.ediv_ediv_of_nonneg (by decide), Int.pow_succ, Int.mul_comm]
theorem num_le : ∀ (m : Nat) (n : Int), 0 ≤ n → n < 256 ^ m → num (le m n) = n := by
  intro m; induction m with
  | zero => intro n h0 h1; simp [le, num] at *; omega
  | succ m ih =>
    intro n h0 h1
    rw [Int.pow_succ] at h1
    rw [le, num, ih (n / 256) (by omega) (by omega)]; omega
theorem num_bound : ∀ (l : List Int), Bytes l → 0 ≤ num l ∧ num l < 256 ^ l.length := by
  intro l; induction l with
  | nil => intro _; simp [num]
  | cons c l ih =>
    intro h
    have h1 := h c (by simp)
    have h2 := ih (fun x hx => h x (by simp [hx]))
    simp only [num, List.length_cons, Int.pow_succ]
    omega
theorem num_append : ∀ (a b : List Int), num (a ++ b) = num a + 256 ^ a.length * num b := by
  intro a; induction a with
  | nil => intro b; simp [num]
  | cons c l ih =>
    intro b
    simp only [List.cons_append, num, ih, List.length_cons, Int.pow_succ]
    rw [Int.mul_add, ← Int.mul_assoc, Int.mul_comm (256 ^ l.length) 256]; omega
theorem Bytes.take {l : List Int} (h : Bytes l) (k : Nat) : Bytes (l.take k) := fun x hx => h x (List.mem_of_mem_take hx)
theorem Bytes.drop {l : List Int} (h : Bytes l) (k : Nat) : Bytes (l.drop k) := fun x hx => h x (List.mem_of_mem_drop hx)
theorem Bytes.append {a b : List Int} (h : Bytes a) (k : Bytes b) : Bytes (a ++ b) := fun x hx => by
  rcases List.mem_append.1 hx with h1 | h1
  · exact h x h1
  · exact k x h1
theorem Bytes.at {l : List Int} (h : Bytes l) (i : Nat) : 0 ≤ l[i]?.getD 0 ∧ l[i]?.getD 0 < 256 := by
  by_cases hi : i < l.length
  · simp [hi]; exact h _ (by simp)
  · simp [hi]
theorem pow_le {a b : Nat} (h : a ≤ b) : (256 : Int) ^ a ≤ 256 ^ b := by
  have := Nat.pow_le_pow_right (n := 256) (by decide) h
  have e : ∀ c : Nat, (256 : Int) ^ c = ((256 ^ c : Nat) : Int) := fun c => by simp
  rw [e, e]; omega
def splice (xs : List Int) (off : Nat) (ys : List Int) : List Int := xs.take off ++ ys ++ xs.drop (off + ys.length)
theorem splice_nil (xs : List Int) (off : Nat) : splice xs off [] = xs := by simp [splice]
theorem splice_snoc (xs : List Int) (off : Nat) (ys : List Int) (b : Int) (h : off + ys.length < xs.length) : (splice xs off ys).set (off + ys.length) b = splice xs off (ys ++ [b]) := by
  unfold splice
  have hl : (xs.take off ++ ys).length = off + ys.length := by simp; omega
  rw [List.set_append_right _ _ (by omega), hl, Nat.sub_self]
  have hd : xs.drop (off + ys.length) = xs[off + ys.length] :: xs.drop (off + ys.length + 1) := List.drop_eq_getElem_cons h
  rw [hd]
  simp [Nat.add_assoc]
theorem splice_len (xs : List Int) (off : Nat) (ys : List Int) (h : off + ys.length ≤ xs.length) : (splice xs off ys).length = xs.length := by
  simp [splice]; omega
theorem or_disj (a c k : Nat) (ha : a < 2 ^ k) : a ||| (c * 2 ^ k) = a + c * 2 ^ k := by
  have h := Nat.two_pow_add_eq_or_of_lt ha c
  rw [Nat.mul_comm c, Nat.or_comm, ← h, Nat.add_comm]
theorem take_snoc (l : List Int) (k : Nat) (h : k < l.length) : l.take (k + 1) = l.take k ++ [l[k]?.getD 0] := by
  rw [List.take_succ_eq_append_getElem h]; simp [h]
end Go.Proofs.YtboehbfagnocpaaGreatDoor.I8.P
namespace Go.Proofs.YtboehbfagnocpaaGreatDoor.I8
open Go.RowKit Go.PlainAid
theorem ret_int {k : IntKind} {a b : Int} (h : a = b) : Ending.returned (.int k a) = .returned (.int k b) := by rw [h]
theorem ret_bool {a b : Bool} (h : a = b) : Ending.returned (.bool a) = .returned (.bool b) := by rw [h]
theorem below_drewN {B : Nat} {a w : World} (h : Below B a w) (n : Nat) : Below B a (w.drewN n) := ⟨h.os, h.tape, h.output, h.size, h.block⟩
def keyB (s : ByteArray) : Bool := decide (1 ≤ s.size ∧ s.size ≤ 250 ∧ ∀ i, i < s.size → 32 < bt s i ∧ bt s i ≠ 127)
theorem toList_eq (s : ByteArray) : s.toList = s.data.toList := ByteArray.toList_eq s
theorem empty_of_size {s : ByteArray} (h : s.size = 0) : s.toList.isEmpty = true ∧ s.toList = [] := by
  have e : s.data.toList = [] := List.eq_nil_of_length_eq_zero (by simpa using h)
  rw [toList_eq, e]; exact ⟨rfl, rfl⟩
theorem nonempty_of_size {s : ByteArray} (h : 0 < s.size) : s.toList.isEmpty = false ∧ s.toList ≠ [] := by
  have e : s.data.toList ≠ [] := fun h0 => by
    have := congrArg List.length h0
    simp at this
    rw [this] at h
    exact absurd h (by decide)
  rw [toList_eq]; exact ⟨by simpa using e, e⟩
theorem key_no {s : ByteArray} (h : ¬ ∀ i, i < s.size → 32 < bt s i ∧ bt s i ≠ 127) : keyB s = false := by
  unfold keyB; apply decide_eq_false; exact fun ⟨_, _, h3⟩ => h h3
theorem key_len {s : ByteArray} (h : s.size = 0 ∨ 250 < s.size) : keyB s = false := by
  unfold keyB; apply decide_eq_false; rintro ⟨h1, h2, _⟩; omega
theorem key_eq {s : ByteArray} (h : 1 ≤ s.size) (h3 : ∀ i, i < s.size → 32 < bt s i ∧ bt s i ≠ 127) : keyB s = decide ((s.size : Int) ≤ 250) := by
  unfold keyB
  by_cases h2 : s.size ≤ 250
  · rw [decide_eq_true (by omega : (s.size : Int) ≤ 250)]; exact decide_eq_true ⟨h, h2, h3⟩
  · rw [decide_eq_false (by omega : ¬ (s.size : Int) ≤ 250)]; exact decide_eq_false (fun h' => h2 h'.2.1)
set_option maxHeartbeats 400000 in
theorem key_any (s : ByteArray) (w : World) (hs : s.size ≤ maxLen) : Calls prog 164 #[.string s] w fun e w' => e = .returned (.bool (keyB s)) ∧ w = w' := by
  unfold maxLen at hs
  have hb := get_bt s
  go_enter func164, ntmps164
  go_wp2
  go_loop [7] (fun i => ∃ k : Nat, k ≤ s.size ∧ i = .int .i64 k ∧ (∀ j, j < k → 32 < bt s j ∧ bt s j ≠ 127)) (fun i => s.size - (intOf i).toNat)
  case atStart => exact ⟨0, Nat.zero_le _, rfl, fun j hj => by omega⟩
  case round =>
    obtain ⟨k, hk, rfl, hall⟩ := hrel
    have Hall := hid hall
    clear hall
    by_cases hlt : k < s.size
    · have hn := bt_nonneg s k
      have hl := bt_le s k
      by_cases h1 : bt s k ≤ 32
      · go_wp2
        go_ret
        exact ⟨ret_bool (key_no (fun h => by have := (h k hlt).1; omega)).symm, rfl⟩
      · by_cases h2 : bt s k = 127
        · have h2' : (bt s k == 127) = true := by simp [h2]
          have H2 := hid h2
          clear h2
          go_wp2
          go_ret
          exact ⟨ret_bool (key_no (fun h => (h k hlt).2 H2.out)).symm, rfl⟩
        · have h2' : (bt s k == 127) = false := by simp [h2]
          have H2 := hid h2
          clear h2
          go_wp2
          go_round
          case rel =>
            refine ⟨k + 1, by omega, by go_num, fun j hj => ?_⟩
            rcases Nat.lt_succ_iff_lt_or_eq.1 hj with h | rfl
            · exact Hall.out j h
            · exact ⟨by omega, H2.out⟩
          case measure => simp [intOf]; omega
    · by_cases h0 : s.size = 0
      · obtain ⟨e1, e2⟩ := empty_of_size h0
        have Hk0 := hid (key_len (s := s) (by omega))
        have h0' : decide (1 ≤ (s.size : Int)) = false := by simp; omega
        clear h0
        go_wp2
        go_ret
        exact ⟨ret_bool Hk0.out.symm, rfl⟩
      · obtain ⟨e1, e2⟩ := nonempty_of_size (s := s) (by omega)
        have h1' : 1 ≤ s.size := by omega
        have Hky := hid (key_eq (s := s) (by omega) (fun i hi => Hall.out i (by omega)))
        go_wp2
        go_ret
        exact ⟨ret_bool Hky.out.symm, rfl⟩
def rightB (k v : ByteArray) (ex la : Int) : Bool := keyB k && decide ((v.size : Int) ≤ 65536) && decide (0 ≤ ex) && decide (0 ≤ la)
set_option maxHeartbeats 400000 in
theorem right_any (k v : ByteArray) (fl ex ca la : Int) (st wo : Bool) (w : World) (hk : k.size ≤ maxLen) (hv : v.size ≤ maxLen) :
    Calls prog 183 #[.agg #[.string k, .int .u32 fl, .string v, .int .i64 ex, .int .u64 ca, .int .i64 la, .bool st, .bool wo]] w fun e w' => e = .returned (.bool (rightB k v ex la)) ∧ Below w.heap.size w w' := by
  have hkk := fun W => key_any k W hk
  have Hkk := hid hkk
  clear hkk
  unfold maxLen at hv
  cases hkb : keyB k
  all_goals
    have Hkb := hid hkb
    clear hkb
  · have hr : rightB k v ex la = false := by unfold rightB; rw [Hkb.out]; rfl
    have Hr := hid hr
    clear hr
    go_enter func183, ntmps183
    go_wp2_with (go_at_call 164; refine (Hkk.out _).mono ?_; rintro e w' ⟨rfl, rfl⟩; rw [Hkb.out])
    go_ret
    exact ⟨ret_bool Hr.out.symm, (Below.refl _ _).alloc (Nat.le_refl _) _⟩
  by_cases h1 : (v.size : Int) ≤ 65536
  · by_cases h2 : 0 ≤ ex
    · have hr : rightB k v ex la = decide (0 ≤ la) := by unfold rightB; rw [Hkb.out, decide_eq_true h1, decide_eq_true h2]; rfl
      have Hr := hid hr
      clear hr
      go_enter func183, ntmps183
      go_wp2_with (go_at_call 164; refine (Hkk.out _).mono ?_; rintro e w' ⟨rfl, rfl⟩; rw [Hkb.out])
      go_ret
      exact ⟨ret_bool Hr.out.symm, (Below.refl _ _).alloc (Nat.le_refl _) _⟩
    · have hr : rightB k v ex la = false := by unfold rightB; rw [decide_eq_false h2]; simp
      have Hr := hid hr
      clear hr
      go_enter func183, ntmps183
      go_wp2_with (go_at_call 164; refine (Hkk.out _).mono ?_; rintro e w' ⟨rfl, rfl⟩; rw [Hkb.out])
      go_ret
      exact ⟨ret_bool Hr.out.symm, (Below.refl _ _).alloc (Nat.le_refl _) _⟩
  · have hr : rightB k v ex la = false := by unfold rightB; rw [decide_eq_false h1]; simp
    have Hr := hid hr
    clear hr
    go_enter func183, ntmps183
    go_wp2_with (go_at_call 164; refine (Hkk.out _).mono ?_; rintro e w' ⟨rfl, rfl⟩; rw [Hkb.out])
    go_ret
    exact ⟨ret_bool Hr.out.symm, (Below.refl _ _).alloc (Nat.le_refl _) _⟩
def szI (k v : Int) : Int := if k < 0 ∨ v < 0 ∨ 65536 < k ∨ 65536 < v then -1 else 40 + k + v
set_option maxHeartbeats 400000 in
theorem size_any (k v : Int) (w : World) : Calls prog 184 #[.int .i64 k, .int .i64 v] w fun e w' => e = .returned (.int .i64 (szI k v)) ∧ w = w' := by
  by_cases h1 : k < 0 <;> by_cases h2 : v < 0 <;> by_cases h3 : 65536 < k <;> by_cases h4 : 65536 < v
  all_goals first
    | (exfalso; omega)
    | (have Hs := hid (show szI k v = -1 by unfold szI; exact if_pos (by omega))
       by_cases h5 : k < v <;> by_cases h6 : v < k
       all_goals first
        | (exfalso; omega)
        | (go_enter func184, ntmps184
           go_wp2
           go_ret
           exact ⟨ret_int Hs.out.symm, rfl⟩))
    | (have Hs := hid (show szI k v = 40 + k + v by unfold szI; exact if_neg (by omega))
       by_cases h5 : k < v <;> by_cases h6 : v < k
       all_goals first
        | (exfalso; omega)
        | (go_enter func184, ntmps184
           go_wp2
           go_ret
           exact ⟨ret_int Hs.out.symm, rfl⟩))
theorem bit_any (b : Bool) (n : Int) (w : World) : Calls prog 185 #[.bool b, .int .u8 n] w fun e w' => e = .returned (.int .u8 (if b then n else 0)) ∧ w = w' := by
  cases b
  all_goals
    go_enter func185, ntmps185
    go_wp2
    go_ret
    exact ⟨rfl, rfl⟩
def RB (w : World) (v : Value) (l : List Int) : Prop :=
  ∃ a cap, v = .slice a l.length cap ∧ (l ≠ [] → ∃ b o, a = some ⟨b, o, none⟩ ∧ ∀ i, i < l.length → w.cell? ⟨b, o + i, none⟩ = some (.int .u8 (l[i]?.getD 0)))
theorem pow8 (k : Nat) : (2 : Int) ^ (8 * k) = 256 ^ k := by rw [Int.pow_mul]; rfl
theorem or_step (A c : Int) (k : Nat) (a0 : 0 ≤ A) (a1 : A < 256 ^ k) (c0 : 0 ≤ c) (c1 : c < 256) (hk : k < 8) :
    bits .or .u64 A (IntKind.u64.wrap (c * 2 ^ (8 * k))) = A + 256 ^ k * c := by
  obtain ⟨a, rfl⟩ := Int.eq_ofNat_of_zero_le a0
  obtain ⟨d, rfl⟩ := Int.eq_ofNat_of_zero_le c0
  have e1 : (a : Int) < ((2 ^ (8 * k) : Nat) : Int) := by rw [← pow8] at a1; simpa using a1
  have e2 : a < 2 ^ (8 * k) := by omega
  have e3 : 2 ^ (8 * k) * 256 ≤ 2 ^ 64 := by
    rw [show (256 : Nat) = 2 ^ 8 by decide, ← Nat.pow_add]; exact Nat.pow_le_pow_right (by decide) (by omega)
  have e4 : d * 2 ^ (8 * k) < 2 ^ 64 := by
    have : d * 2 ^ (8 * k) ≤ 255 * 2 ^ (8 * k) := Nat.mul_le_mul_right _ (by omega)
    omega
  have e5 : (d : Int) * 2 ^ (8 * k) = ((d * 2 ^ (8 * k) : Nat) : Int) := by simp
  rw [e5, IntKind.wrap_u64, show ((d * 2 ^ (8 * k) : Nat) : Int) % 18446744073709551616 = ((d * 2 ^ (8 * k) : Nat) : Int) by omega, u64_or_nat _ _ (by omega) (by omega), P.or_disj _ _ _ e2, ← pow8]
  simp [Int.mul_comm]
set_option maxHeartbeats 400000 in
theorem get_any (l : List Int) (v : Value) (w : World) (hr : RB w v l) (hb : P.Bytes l) (hl : l.length ≤ 8) :
    Calls prog 232 #[v] w fun e w' => e = .returned (.int .u64 (P.num l)) ∧ w = w' := by
  obtain ⟨a, cap, rfl, hc⟩ := hr
  generalize hn : l.length = m at *
  have Hn := hid hn
  have Hc := hid hc
  clear hn hc
  go_enter func232, ntmps232
  go_wp2
  go_loop [2, 7] (fun n i => ∃ k : Nat, k ≤ m ∧ i = .int .i64 k ∧ n = .int .u64 (P.num (l.take k))) (fun _ i => m - (intOf i).toNat)
  case atStart => exact ⟨0, Nat.zero_le _, rfl, rfl⟩
  case round =>
    obtain ⟨k, hk, rfl, rfl⟩ := hrel
    by_cases hlt : k < m
    · obtain ⟨b1, o1, rfl, hcx⟩ := Hc.out (by intro h; rw [h] at Hn; have := Hn.out; simp at this; omega)
      have h1 := hcx k hlt
      clear hcx
      obtain ⟨b0, b1⟩ := hb.at k
      go_wp2
      have hnb := P.num_bound _ (hb.take k)
      rw [show (l.take k).length = k by have := Hn.out; simp; omega] at hnb
      have hnum : P.num (l.take (k + 1)) = P.num (l.take k) + 256 ^ k * (l[k]?.getD 0) := by
        rw [P.take_snoc l k (by have := Hn.out; omega), P.num_append, show (l.take k).length = k by have := Hn.out; simp; omega]; simp [P.num]
      go_round
      case rel => exact ⟨k + 1, by omega, by go_num, by rw [hnum, or_step _ _ k hnb.1 hnb.2 b0 b1 (by omega)]⟩
      case measure => simp [intOf]; omega
    · go_wp2
      go_ret
      exact ⟨ret_int (by rw [List.take_of_length_le (by have := Hn.out; omega)]), rfl⟩
set_option maxHeartbeats 400000 in
theorem put_any (g off len N cap c base : Nat) (xs : List Int) (n : Int) (w : World) (hown : w.ownsRow base 5 1 (.slice (some ⟨g, 0, none⟩) N cap) N (xs.map (.int .u8))) (hfit : off + len ≤ N) (hlen : len ≤ 8) (h0 : 0 ≤ n) (h1 : n < 18446744073709551616) :
    Calls prog 186 #[.slice (some ⟨g, off, none⟩) len c, .int .u64 n] w fun e w' => e = .returned (.tuple #[]) ∧ w'.ownsRow base 5 1 (.slice (some ⟨g, 0, none⟩) N cap) N ((P.splice xs off (P.le len n)).map (.int .u8)) ∧ Below base w w' := by
  have hgb := (hown.lt g rfl).1
  go_enter func186, ntmps186
  go_wp2
  go_loopw [7] (fun i wr => ∃ k : Nat, k ≤ len ∧ i = .int .i64 k ∧ wr.ownsRow base 5 1 (.slice (some ⟨g, 0, none⟩) N cap) N ((P.splice xs off (P.le k n)).map (.int .u8)) ∧ Below base w wr) (fun i _ => len - (intOf i).toNat)
  case atStart => exact ⟨0, by omega, rfl, by rw [P.le, P.splice_nil]; exact hown, Below.refl _ _⟩
  case round =>
    obtain ⟨k, hk, rfl, ho, hbl⟩ := hrel
    by_cases hlt : k < len
    · have hyl := ho.1
      obtain ⟨y, hc⟩ : ∃ y, wr.cell? ⟨g, off + k, none⟩ = some y := by rw [ho.cellAt (off + k) (by omega)]; exact ⟨_, List.getElem?_eq_getElem (by omega)⟩
      have hf := ho.frozenAt (off + k)
      clear hyl
      go_wp2
      go_roundw
      case rel =>
        refine ⟨k + 1, by omega, by go_num, ?_, hbl.setCell hgb _⟩
        have hst := (ho.stored (off + k) (.int .u8 (n / 2 ^ (8 * k) % 256))).1
        rw [pow8]
        rw [P.le_snoc, ← P.splice_snoc _ _ _ _ (by have := hown.1; simp at this; rw [P.le_len]; omega), P.le_len, List.map_set]
        rw [pow8] at hst
        exact hst
      case measure => simp [intOf]; omega
    · obtain rfl : k = len := by omega
      go_wp2
      go_end0
      exact ⟨rfl, ho, hbl⟩
theorem Tryz.info5 : (prog.info? 5).map (fun i => (i.zero, i.size, i.bytes)) = some (some (.int .u8 0), 1, 1) := by kernel_rfl
theorem wp_app {ops : Array Oper} {rest : List Oper} {o : Oper} {a : Act} {Q : Exit → Act → World → Prop} (w0 w : World) (hgd : o.guard = none) (s x : Operand)
    (ho : o.op = .call { callee := .builtin .append, args := #[s, x], argTypes := #[118, 118] }) (base : Nat) (v : Value) (n : Nat) (xs : List Int) (ys : List Int) (ad : Addr) (c : Nat)
    (hs : a.eval s = v) (hown : w.ownsRow base 5 1 v n (xs.map (.int .u8))) (hx : a.eval x = .slice (some ad) ys.length c) (hcell : ∀ j, j < ys.length → w.cell? (ad.add j) = some (.int .u8 (ys[j]?.getD 0)))
    (hbel : Below base w0 w) (hn : n + ys.length < 1000000000000) (hpos : 0 < n + ys.length) (hbase : base ≤ w.heap.size)
    (h : ∀ g cap w', w'.ownsRow base 5 1 (.slice (some ⟨g, 0, none⟩) (n + ys.length) cap) (n + ys.length) ((xs ++ ys).map (.int .u8)) → Below base w0 w' → wpList prog ops Q rest (a.put o.dst (.slice (some ⟨g, 0, none⟩) (n + ys.length) cap)) w') :
    wpList prog ops Q (o :: rest) a w := by
  obtain ⟨i0, hi, hz0, hz1, hz2⟩ := info_parts Tryz.info5
  refine wpList_append_own _ hgd s x 118 ho base 5 i0 (.int .u8 0) 1 1 underlying118 hi hz0 hz1 hz2 rfl (by decide) v n _ hs hown ad ys.length c (ys.map (.int .u8)) hx (by simp) ?_ ?_ ?_ ?_ hbase ?_
  · intro j y hj
    have hjl : j < ys.length := by have := (List.getElem?_eq_some_iff.1 hj).1; simpa using this
    rw [hcell j hjl]
    simp [hjl] at hj ⊢
    exact hj
  · intro y hy
    obtain ⟨z, _, rfl⟩ := List.mem_map.1 hy
    rfl
  · unfold maxLen; omega
  · omega
  · intro v' w' hown' hgrow hiff
    have hb' : Below base w0 w' := hbel.grown hgrow hbase (fun k hk => (hown.lt k hk).1)
    rcases hown'.2 with ⟨rfl, h0⟩ | ⟨g, cap, cur, rfl, _⟩
    · omega
    · exact h g cap w' (by simpa using hown') hb'
theorem wp_app1 {ops : Array Oper} {rest : List Oper} {o : Oper} {a : Act} {Q : Exit → Act → World → Prop} (w0 w : World) (hgd : o.guard = none) (s x : Operand)
    (ho : o.op = .call { callee := .builtin .append, args := #[s, x], argTypes := #[118, 118] }) (base : Nat) (v : Value) (n : Nat) (xs : List Int) (u : Int)
    (hs : a.eval s = v) (hown : w.ownsRow base 5 1 v n (xs.map (.int .u8))) (hx : a.eval x = .slice (some ⟨w.heap.size, 0, none⟩) 1 1)
    (hbel : Below base w0 w) (hn : n + 1 < 1000000000000) (hbase : base ≤ w.heap.size)
    (h : ∀ g cap w', w'.ownsRow base 5 1 (.slice (some ⟨g, 0, none⟩) (n + 1) cap) (n + 1) ((xs ++ [u]).map (.int .u8)) → Below base w0 w' → wpList prog ops Q rest (a.put o.dst (.slice (some ⟨g, 0, none⟩) (n + 1) cap)) w') :
    wpList prog ops Q (o :: rest) a (w.alloc (.cells #[.int .u8 u] 5)) := by
  refine wp_app w0 (w.alloc (.cells #[.int .u8 u] 5)) hgd s x ho base v n xs [u] ⟨w.heap.size, 0, none⟩ 1 hs (hown.alloc _) hx ?_ (hbel.alloc hbase _) hn (by simp) (by simp; omega) h
  intro j hj
  obtain rfl : j = 0 := by simpa using hj
  simp [Addr.add]
def lenV : Value → Nat | .slice _ n _ => n | _ => 0
def strB (s : ByteArray) : List Int := s.data.toList.map (fun b => (b.toNat : Int))
theorem strB_len (s : ByteArray) : (strB s).length = s.size := by simp [strB]
theorem strB_cells (s : ByteArray) : (strB s).map (Value.int .u8) = Lib.strCells s := by simp [strB, Lib.strCells]
theorem strB_bytes (s : ByteArray) : P.Bytes (strB s) := by
  intro x hx
  obtain ⟨b, _, rfl⟩ := List.mem_map.1 hx
  have := b.toNat_lt
  omega
theorem run_copy_str (w : World) (g off N cap base : Nat) (xs : List Int) (s : ByteArray) (dLen dCap : Nat) (ty : TypeId) (hown : w.ownsRow base 5 1 (.slice (some ⟨g, 0, none⟩) N cap) N (xs.map (.int .u8)))
    (hfit : off + s.size ≤ N) (hd : s.size ≤ dLen) :
    ∃ w', (Builtin.copy_ #[118, 9] ty #[.slice (some ⟨g, off, none⟩) dLen dCap, .string s]).run prog w = .ok (goInt s.size) w' ∧
      w'.ownsRow base 5 1 (.slice (some ⟨g, 0, none⟩) N cap) N ((P.splice xs off (strB s)).map (.int .u8)) ∧ Below base w w' := by
  obtain ⟨i0, hi, hz0, hz1, hz2⟩ := info_parts Tryz.info5
  have hlen := hown.1
  rcases hown.2 with ⟨h, _⟩ | ⟨g', cap', cur, h, hbg, hg, hnc, hcm, hcs, htake⟩
  · simp at h
  · simp only [Value.slice.injEq, Option.some.injEq, Addr.mk.injEq, and_true, true_and] at h
    obtain ⟨rfl, rfl⟩ := h
    have hcl : (Lib.strCells s).length = s.size := Lib.strCells_length s
    have hst := run_storeCells_at prog g off 5 (Lib.strCells s) 0 cur w hg (by rw [Nat.add_zero, hcl]; omega) (Lib.strCells_oneCell s)
    simp only [Nat.add_zero] at hst
    refine ⟨w.setRow g (cur.toList.take off ++ Lib.strCells s ++ cur.toList.drop (off + (Lib.strCells s).length)).toArray, ?_, ⟨?_, .inr ⟨g, cap, _, rfl, hbg, setRow_heap w g cur _ 5 _ hg, hnc, hcm, ?_, ?_⟩⟩, ?_⟩
    · have hmin : Nat.min s.size dLen = s.size := Nat.min_eq_left hd
      have ht : List.take s.size (List.map (fun b => Value.int .u8 (b.toNat : Int)) s.data.toList) = Lib.strCells s := List.take_of_length_le (by simp)
      rw [List.append_assoc] at hst
      simp [Builtin.copy_, run_underlying underlying118, Builtin.lenOf, Builtin.firstCells, sizeOf, typeInfo, hi, hmin, ht, hst]
    · rw [List.length_map, P.splice_len _ _ _ (by rw [strB_len]; simp at hlen; omega)]; simpa using hlen
    · simp [hcl]; omega
    · have hA : cur.toList = xs.map (Value.int .u8) ++ cur.toList.drop N := by
        rw [← htake, Nat.mul_one, List.take_append_drop]
      have hlx : (xs.map (Value.int .u8)).length = N := by simpa using hlen
      have hlx' : xs.length = N := by simpa using hlx
      rw [hcl]
      generalize cur.toList.drop N = R at hA
      have t1 : (xs.map (Value.int .u8) ++ R).take off = (xs.map (Value.int .u8)).take off := List.take_append_of_le_length (by omega)
      have t2 : (xs.map (Value.int .u8) ++ R).drop (off + s.size) = (xs.map (Value.int .u8)).drop (off + s.size) ++ R := List.drop_append_of_le_length (by omega)
      have e : (xs.map (Value.int .u8)).take off ++ Lib.strCells s ++ ((xs.map (Value.int .u8)).drop (off + s.size) ++ R) = (P.splice xs off (strB s)).map (Value.int .u8) ++ R := by
        simp [P.splice, strB_cells, strB_len, List.append_assoc]
      rw [hA, t1, t2, e, Nat.mul_one, List.take_append_of_le_length (by rw [List.length_map, P.splice_len _ _ _ (by rw [strB_len]; omega)]; omega)]
      exact List.take_of_length_le (by rw [List.length_map, P.splice_len _ _ _ (by rw [strB_len]; omega)]; omega)
    · exact ⟨rfl, rfl, rfl, by simp, fun i hi => setRow_other w g i _ (by omega)⟩
theorem run_copy_str0 (w : World) (s : ByteArray) (a : Option Addr) (dLen dCap : Nat) (ty : TypeId) (h0 : s.size = 0) :
    (Builtin.copy_ #[118, 9] ty #[.slice a dLen dCap, .string s]).run prog w = .ok (goInt 0) w := by
  obtain ⟨i0, hi, hz0, hz1, hz2⟩ := info_parts Tryz.info5
  have hex : ((s.extract 0 0).data.map fun b => Value.int .u8 (b.toNat : Int)) = #[] := by
    have : (s.extract 0 0) = ByteArray.empty := by simp
    rw [this]; simp
  cases a <;> simp [Builtin.copy_, run_underlying underlying118, Builtin.lenOf, Builtin.firstCells, sizeOf, typeInfo, hi, h0, hex, storeCells]
theorem own_below {w w' : World} {base n : Nat} {e : TypeId} {size : Nat} {v : Value} {xs : List Value} (h : w.ownsRow base e size v n xs) (hb : Below w.heap.size w w') : w'.ownsRow base e size v n xs :=
  h.kept (row := none) ⟨hb.os, hb.tape, hb.output, hb.size, fun i hi _ => hb.block i hi⟩ (by cases hv : v.ownBlock <;> simp)
def Box (w : World) (g : Nat) (k v : ByteArray) (fl ex ca la : Int) (st wo : Bool) : Prop :=
  w.cell? ⟨g, 0, none⟩ = some (.string k) ∧ w.cell? ⟨g, 1, none⟩ = some (.int .u32 fl) ∧ w.cell? ⟨g, 2, none⟩ = some (.string v) ∧ w.cell? ⟨g, 3, none⟩ = some (.int .i64 ex) ∧
  w.cell? ⟨g, 4, none⟩ = some (.int .u64 ca) ∧ w.cell? ⟨g, 5, none⟩ = some (.int .i64 la) ∧ w.cell? ⟨g, 6, none⟩ = some (.bool st) ∧ w.cell? ⟨g, 7, none⟩ = some (.bool wo) ∧ g < w.heap.size
theorem Box.below {w w' : World} {g B : Nat} {k v : ByteArray} {fl ex ca la : Int} {st wo : Bool} (h : Box w g k v fl ex ca la st wo) (hb : Below B w w') (hg : g < B) : Box w' g k v fl ex ca la st wo := by
  obtain ⟨h0, h1, h2, h3, h4, h5, h6, h7, h8⟩ := h
  exact ⟨(hb.cell (by exact hg)).trans h0, (hb.cell (by exact hg)).trans h1, (hb.cell (by exact hg)).trans h2, (hb.cell (by exact hg)).trans h3, (hb.cell (by exact hg)).trans h4, (hb.cell (by exact hg)).trans h5, (hb.cell (by exact hg)).trans h6, (hb.cell (by exact hg)).trans h7, Nat.lt_of_lt_of_le h8 hb.size⟩
theorem box_new (w : World) (k v : ByteArray) (fl ex ca la : Int) (st wo : Bool) : Box (w.alloc (.cells #[.string k, .int .u32 fl, .string v, .int .i64 ex, .int .u64 ca, .int .i64 la, .bool st, .bool wo] 50)) w.heap.size k v fl ex ca la st wo := by
  refine ⟨?_, ?_, ?_, ?_, ?_, ?_, ?_, ?_, by simp⟩ <;> simp [go_sem]
def bitV (b : Bool) (n : Int) : Int := if b then n else 0
theorem bit_val (b : Bool) (n : Int) (w : World) : Calls prog 185 #[.bool b, .int .u8 n] w fun e w' => e = .returned (.int .u8 (bitV b n)) ∧ w = w' := bit_any b n w
theorem bitV_le1 (b : Bool) : 0 ≤ bitV b 1 ∧ bitV b 1 ≤ 1 := by cases b <;> decide
theorem bitV_le2 (b : Bool) : 0 ≤ bitV b 2 ∧ bitV b 2 ≤ 2 := by cases b <;> decide
theorem made_list (N : Nat) : (madeCells (Value.int .u8 0).cells (N * 1)).toList = (List.replicate N (0 : Int)).map (.int .u8) := by
  rw [Nat.mul_one]; exact (toList_madeCells_one _ N).trans (by simp)
theorem made_zero (N j : Nat) (h : j < N) : (madeCells (Value.int .u8 0).cells (N * 1)).toList[j]? = some (.int .u8 0) := by
  rw [made_list]; simp [h]
def bitsI (st wo : Bool) : Int := bitV st 1 + bitV wo 2
theorem bitsI_or (st wo : Bool) : bits .or .u8 (bitV st 1) (bitV wo 2) = bitsI st wo := by cases st <;> cases wo <;> decide
theorem bitsI_le (st wo : Bool) : 0 ≤ bitsI st wo ∧ bitsI st wo ≤ 3 := by cases st <;> cases wo <;> decide
def encL (k v : ByteArray) (fl ex ca la : Int) (st wo : Bool) : List Int :=
  P.le 1 k.size ++ P.le 3 (bitsI st wo) ++ P.le 4 fl ++ P.le 8 v.size ++ P.le 8 ex ++ P.le 8 ca ++ P.le 8 la ++ strB k ++ strB v
def encR (k v : ByteArray) (fl ex ca la : Int) (st wo : Bool) : List Int := if rightB k v ex la = true then encL k v fl ex ca la st wo else []
def EncPost (k v : ByteArray) (fl ex ca la : Int) (st wo : Bool) (w : World) (e : Ending) (w' : World) : Prop :=
  ∃ u, e = .returned (.tuple #[u, .int .i64 (if rightB k v ex la = true then 0 else 1)]) ∧ w'.ownsRow w.heap.size 5 1 u (encR k v fl ex ca la st wo).length ((encR k v fl ex ca la st wo).map (.int .u8)) ∧ Below w.heap.size w w'
theorem encL_len (k v : ByteArray) (fl ex ca la : Int) (st wo : Bool) : (encL k v fl ex ca la st wo).length = 40 + k.size + v.size := by
  simp [encL, P.le_len, strB_len]; omega
theorem own_base {w : World} {base base' n : Nat} {e : TypeId} {size : Nat} {v : Value} {xs : List Value} (h : w.ownsRow base e size v n xs) (hb : base' ≤ base) : w.ownsRow base' e size v n xs := by
  refine ⟨h.1, ?_⟩
  rcases h.2 with h1 | ⟨g, cap, cur, h1, h2, h3⟩
  · exact .inl h1
  · exact .inr ⟨g, cap, cur, h1, by omega, h3⟩
theorem encPost_mk {k v : ByteArray} {fl ex ca la : Int} {st wo : Bool} {w w' : World} {G g N : Nat} (hr : rightB k v ex la = true) (hG : w.heap.size = G)
    (ho : w'.ownsRow g 5 1 (.slice (some ⟨g, 0, none⟩) N N) N ((encL k v fl ex ca la st wo).map (.int .u8))) (hg : G ≤ g) (hb : Below G w w') :
    EncPost k v fl ex ca la st wo w (.returned (.tuple #[.slice (some ⟨g, 0, none⟩) N N, .int .i64 0])) w' := by
  subst hG
  have hN : (encL k v fl ex ca la st wo).length = N := by have := ho.1; simpa using this
  subst hN
  have e : encR k v fl ex ca la st wo = encL k v fl ex ca la st wo := by unfold encR; rw [if_pos hr]
  refine ⟨_, by rw [if_pos hr], ?_, hb⟩
  rw [e]
  exact own_base ho hg
theorem splice_mid (A B C ys : List Int) (off : Nat) (ha : A.length = off) (hb : B.length = ys.length) : P.splice (A ++ (B ++ C)) off ys = A ++ (ys ++ C) := by
  subst ha
  unfold P.splice
  rw [← hb]
  simp [List.drop_append]
theorem le_high (n : Int) (h0 : 0 ≤ n) (h1 : n < 4294967296) : P.le 8 n = P.le 4 n ++ [0, 0, 0, 0] := by
  simp only [P.le, List.cons_append, List.nil_append]
  have e4 : n / 256 / 256 / 256 / 256 = 0 := by omega
  rw [e4]
  simp
theorem enc_chain (k v : ByteArray) (fl ex ca la : Int) (st wo : Bool) (N : Nat) (xs3 xs4 xs5 xs6 xs7 xs8 : List Int) (hN : N = 40 + k.size + v.size) (hk : k.size < 256) (hv : v.size < 4294967296)
    (h3 : xs3 = ((List.replicate N (0 : Int)).set 0 (k.size : Int)).set 1 (bits .or .u8 (bitV st 1) (bitV wo 2)))
    (h4 : xs4 = P.splice xs3 4 (P.le 4 fl)) (h5 : xs5 = P.splice xs4 8 (P.le 4 (v.size : Int))) (h6 : xs6 = P.splice xs5 16 (P.le 8 ex)) (h7 : xs7 = P.splice xs6 24 (P.le 8 ca)) (h8 : xs8 = P.splice xs7 32 (P.le 8 la)) :
    P.splice (P.splice xs8 40 (strB k)) (40 + k.size) (strB v) = encL k v fl ex ca la st wo := by
  have hb := bitsI_le st wo
  have e3 : xs3 = [(k.size : Int), bitsI st wo, 0, 0] ++ (List.replicate 4 0 ++ (List.replicate 4 0 ++ ([0, 0, 0, 0] ++ (List.replicate 8 0 ++ (List.replicate 8 0 ++ (List.replicate 8 0 ++ (List.replicate k.size 0 ++ List.replicate v.size 0))))))) := by
    rw [h3, bitsI_or, hN, show 40 + k.size + v.size = 40 + (k.size + v.size) by omega, ← List.replicate_append_replicate, ← List.replicate_append_replicate]
    rfl
  generalize hP : [(k.size : Int), bitsI st wo, 0, 0] = H at e3
  have hH : H.length = 4 := by rw [← hP]; rfl
  have hHe : H = P.le 1 k.size ++ P.le 3 (bitsI st wo) := by
    rw [← hP]; simp only [P.le, List.cons_append, List.nil_append]
    rw [show (k.size : Int) % 256 = k.size by omega, show bitsI st wo % 256 = bitsI st wo by omega, show bitsI st wo / 256 = 0 by omega]; rfl
  have l4 : (P.le 4 fl).length = 4 := P.le_len _ _
  have l5 : (P.le 4 (v.size : Int)).length = 4 := P.le_len _ _
  have l6 : (P.le 8 ex).length = 8 := P.le_len _ _
  have l7 : (P.le 8 ca).length = 8 := P.le_len _ _
  have l8 : (P.le 8 la).length = 8 := P.le_len _ _
  have lk : (strB k).length = k.size := strB_len k
  have lv : (strB v).length = v.size := strB_len v
  rw [h8, h7, h6, h5, h4, e3]
  rw [splice_mid _ _ _ _ 4 hH (by rw [l4]; rfl)]
  rw [← List.append_assoc H, splice_mid _ _ _ _ 8 (by simp [hH, l4]) (by rw [l5]; rfl)]
  rw [← List.append_assoc (H ++ _), ← List.append_assoc _ [0, 0, 0, 0], splice_mid _ _ _ _ 16 (by simp [hH, l4, l5]) (by rw [l6]; rfl)]
  rw [← List.append_assoc _ (P.le 8 ex), splice_mid _ _ _ _ 24 (by simp [hH, l4, l5, l6]) (by rw [l7]; rfl)]
  rw [← List.append_assoc _ (P.le 8 ca), splice_mid _ _ _ _ 32 (by simp [hH, l4, l5, l6, l7]) (by rw [l8]; rfl)]
  rw [← List.append_assoc _ (P.le 8 la), splice_mid _ _ _ _ 40 (by simp [hH, l4, l5, l6, l7, l8]) (by rw [lk]; simp)]
  have hlast : List.replicate v.size (0 : Int) = List.replicate v.size 0 ++ [] := by simp
  rw [hlast, ← List.append_assoc _ (strB k), splice_mid _ _ _ _ (40 + k.size) (by simp [hH, l4, l5, l6, l7, l8, lk]; omega) (by rw [lv]; simp)]
  unfold encL
  rw [le_high (v.size : Int) (by omega) (by omega), hHe]
  simp [List.append_assoc]
set_option maxHeartbeats 500000 in
theorem encode_any (k v : ByteArray) (fl ex ca la : Int) (st wo : Bool) (w : World) (hk : k.size ≤ maxLen) (hv : v.size ≤ maxLen) (hr : rightB k v ex la = true) (hk1 : 1 ≤ k.size) (hk2 : k.size ≤ 250) (hv2 : v.size ≤ 65536) (hf0 : 0 ≤ fl) (hf1 : fl < 4294967296) (hx0 : 0 ≤ ex) (hx1 : ex ≤ 9223372036854775807) (hc0 : 0 ≤ ca) (hc1 : ca ≤ 18446744073709551615) (hl0 : 0 ≤ la) (hl1 : la ≤ 9223372036854775807) :
    Calls prog 118 #[.agg #[.string k, .int .u32 fl, .string v, .int .i64 ex, .int .u64 ca, .int .i64 la, .bool st, .bool wo]] w (EncPost k v fl ex ca la st wo w) := by
  have Hr := hid hr
  obtain ⟨N, hN⟩ : ∃ N : Nat, N = 40 + k.size + v.size := ⟨_, rfl⟩
  have Hsz := hid (show szI k.size v.size = (N : Int) by unfold szI; rw [if_neg (by omega)]; omega)
  have hN1 : 41 ≤ N := by omega
  have hN2 : N ≤ 65826 := by omega
  have HN := hid hN
  clear hN
  clear hr
  obtain ⟨i0, hi, hz0, hz1, hz2⟩ := info_parts Tryz.info5
  go_enter func118, ntmps118
  go_wp2_with (fail)
  refine (right_any k v fl ex ca la st wo _ hk hv).mono ?_
  rintro e w1 ⟨rfl, hb1⟩
  rw [Hr.out]
  have hbox := (box_new w k v fl ex ca la st wo).below hb1 (by simp)
  have hbw : Below w.heap.size w w1 := ((Below.refl _ _).alloc (Nat.le_refl _) _).trans (hb1.mono (by simp))
  clear hb1
  obtain ⟨x0, x1, x2, x3, x4, x5, x6, x7, hgl⟩ := id hbox
  go_wp2_with (fail)
  refine (size_any _ _ _).mono ?_
  rintro e w' ⟨rfl, rfl⟩
  rw [Hsz.out]
  go_wp2_with (at_make; go_must (refine wpList_make_full w1 rfl _ _ 118 rfl w1.heap.size 5 i0 (.int .u8 0) 1 underlying118 hi hz0 hz1 _ _ _ _ N rfl rfl rfl rfl (by rw [hz2]; omega) (by unfold maxLen; omega) (Nat.le_refl _) ?_); intro w2 ho2 hg2)
  have hb2 : Below w1.heap.size w1 w2 := (Below.refl _ _).grown hg2 (Nat.le_refl _) (fun _ h => by cases h)
  have hbox2 := hbox.below hb2 hgl
  clear x0 x1 x2 x3 x4 x5 x6 x7
  obtain ⟨x0, x1, x2, x3, x4, x5, x6, x7, _⟩ := id hbox2
  generalize hg : w1.heap.size = g at *
  have hc0 : w2.cell? ⟨g, 0, none⟩ = some (.int .u8 0) := by rw [ho2.cellAt 0 (by omega)]; exact made_zero N 0 (by omega)
  have hc1 : w2.cell? ⟨g, 1, none⟩ = some (.int .u8 0) := by rw [ho2.cellAt 1 (by omega)]; exact made_zero N 1 (by omega)
  have hf0' := ho2.frozenAt 0
  have hf1' := ho2.frozenAt 1
  rw [made_list] at ho2
  have Ho2 := hid ho2
  have Hb2 := hid hb2
  have Hbox2 := hid hbox2
  have Hbw := hid hbw
  have bst := bitV_le1 st
  have bwo := bitV_le2 wo
  have n0 : (0 : Int) < (N : Int) := by omega
  have n0n : 0 < N := by omega
  have hwk : IntKind.u8.wrap (k.size : Int) = k.size := IntWalk.u8_in _ ⟨by omega, by omega⟩
  have n1 : (1 : Int) < (N : Int) := by omega
  clear hi hz0 hz1 hz2 ho2 hg2 hb2 hbox hbox2 hbw
  generalize hG : w.heap.size = G at *
  have hne : ¬ g = G := by omega
  have HG := hid hG
  clear hG
  go_region_held3 (fun w' => w'.cell? ⟨G, 0, none⟩ = some (.string k) ∧ w'.cell? ⟨G, 6, none⟩ = some (.bool st) ∧ w'.cell? ⟨G, 7, none⟩ = some (.bool wo)) (first | exact ⟨x0, x6, x7⟩ | (simp [go_sem, x0, x6, x7, hne]; done)) (first | (go_at_call 185; refine (bit_val _ _ _).mono ?_; rintro e w' ⟨rfl, rfl⟩))
  have ho3 : (((w2.setCell ⟨g, 0, none⟩ (.int .u8 (k.size : Int))).setCell ⟨g, 1, none⟩ (.int .u8 (bits .or .u8 (bitV st 1) (bitV wo 2)))).drew).ownsRow g 5 1 (.slice (some ⟨g, 0, none⟩) N N) N (((List.replicate N (0 : Int)).set 0 (k.size : Int)).set 1 (bits .or .u8 (bitV st 1) (bitV wo 2)) |>.map (.int .u8)) := by
    have h1 := ((Ho2.out.stored 0 (.int .u8 (k.size : Int))).1.stored 1 (.int .u8 (bits .or .u8 (bitV st 1) (bitV wo 2)))).1
    rw [← List.map_set, ← List.map_set] at h1
    exact h1
  have hb3 : Below g w2 (((w2.setCell ⟨g, 0, none⟩ (.int .u8 (k.size : Int))).setCell ⟨g, 1, none⟩ (.int .u8 (bits .or .u8 (bitV st 1) (bitV wo 2)))).drew) := (((Below.refl _ _).setCell (by simp) _).setCell (by simp) _).drew
  generalize ((w2.setCell ⟨g, 0, none⟩ (.int .u8 (k.size : Int))).setCell ⟨g, 1, none⟩ (.int .u8 (bits .or .u8 (bitV st 1) (bitV wo 2)))).drew = w3 at *
  have hbox3 := Hbox2.out.below hb3 (by omega)
  have hb13 := Hb2.out.trans hb3
  clear x0 x1 x2 x3 x4 x5 x6 x7 hc0 hc1 hf0' hf1' hb3
  obtain ⟨xs3, hxs3⟩ : ∃ xs3, xs3 = ((List.replicate N (0 : Int)).set 0 (k.size : Int)).set 1 (bits .or .u8 (bitV st 1) (bitV wo 2)) := ⟨_, rfl⟩
  rw [← hxs3] at ho3
  have Hxs3 := hid hxs3
  clear hxs3
  obtain ⟨x0, x1, x2, x3, x4, x5, x6, x7, _⟩ := id hbox3
  go_wp2_with (fail)
  have hgl2 : G < g := hgl
  have r4 : ¬ N = 4 := by omega
  have i4 : (4 : Int) ≤ (N : Int) := by omega
  have m4 : 4 ≤ N := by omega
  have r8 : ¬ N = 8 := by omega
  have i8 : (8 : Int) ≤ (N : Int) := by omega
  have m8 : 8 ≤ N := by omega
  have r12 : ¬ N = 12 := by omega
  have i12 : (12 : Int) ≤ (N : Int) := by omega
  have m12 : 12 ≤ N := by omega
  have r16 : ¬ N = 16 := by omega
  have i16 : (16 : Int) ≤ (N : Int) := by omega
  have m16 : 16 ≤ N := by omega
  have r24 : ¬ N = 24 := by omega
  have i24 : (24 : Int) ≤ (N : Int) := by omega
  have m24 : 24 ≤ N := by omega
  have r32 : ¬ N = 32 := by omega
  have i32 : (32 : Int) ≤ (N : Int) := by omega
  have m32 : 32 ≤ N := by omega
  have r40 : ¬ N = 40 := by omega
  have i40 : (40 : Int) ≤ (N : Int) := by omega
  have m40 : 40 ≤ N := by omega
  have hw1 : IntKind.u64.wrap fl = fl := IntWalk.u64_in _ ⟨by omega, by omega⟩
  have hw2 : IntKind.u64.wrap (v.size : Int) = v.size := IntWalk.u64_in _ ⟨by omega, by omega⟩
  have hw3 : IntKind.u64.wrap ex = ex := IntWalk.u64_in _ ⟨by omega, by omega⟩
  have hw4 : IntKind.u64.wrap la = la := IntWalk.u64_in _ ⟨by omega, by omega⟩
  go_region_held3 (fun w' => w'.cell? ⟨G, 1, none⟩ = some (.int .u32 fl)) (first | exact x1 | (exact (hb4.cell (by exact hgl2)).trans x1)) (first | (go_at_call 186; refine (put_any g 4 4 N N _ g xs3 fl _ (by exact ho3) (by omega) (by omega) (by omega) (by omega)).mono ?_; rintro e w4 ⟨rfl, ho4, hb4⟩))
  have hbox4 := (show Box w3.drew G k v fl ex ca la st wo from hbox3).below hb4 hgl
  have hb14 := hb13.drew.trans hb4
  clear x0 x1 x2 x3 x4 x5 x6 x7 hbox3 hb4 hb13 ho3
  obtain ⟨xs4, hxs4⟩ : ∃ xs4, xs4 = P.splice xs3 4 (P.le 4 fl) := ⟨_, rfl⟩
  rw [← hxs4] at ho4
  have Hxs4 := hid hxs4
  clear hxs4
  obtain ⟨x0, x1, x2, x3, x4, x5, x6, x7, _⟩ := id hbox4
  go_wp2_with (fail)
  go_region_held3 (fun w' => w'.cell? ⟨G, 2, none⟩ = some (.string v)) (first | exact x2 | (exact (hb5.cell (by exact hgl2)).trans x2)) (first | (go_at_call 186; refine (put_any g 8 4 N N _ g xs4 (v.size : Int) _ (by exact ho4) (by omega) (by omega) (by omega) (by omega)).mono ?_; rintro e w5 ⟨rfl, ho5, hb5⟩))
  have hbox5 := (show Box w4.drew G k v fl ex ca la st wo from hbox4).below hb5 hgl
  have hb15 := hb14.drew.trans hb5
  clear x0 x1 x2 x3 x4 x5 x6 x7 hbox4 hb5 hb14 ho4
  obtain ⟨xs5, hxs5⟩ : ∃ xs5, xs5 = P.splice xs4 8 (P.le 4 (v.size : Int)) := ⟨_, rfl⟩
  rw [← hxs5] at ho5
  have Hxs5 := hid hxs5
  clear hxs5
  obtain ⟨x0, x1, x2, x3, x4, x5, x6, x7, _⟩ := id hbox5
  go_wp2_with (fail)
  go_region_held3 (fun w' => w'.cell? ⟨G, 3, none⟩ = some (.int .i64 ex)) (first | exact x3 | (exact (hb6.cell (by exact hgl2)).trans x3)) (first | (go_at_call 186; refine (put_any g 16 8 N N _ g xs5 ex _ (by exact ho5) (by omega) (by omega) (by omega) (by omega)).mono ?_; rintro e w6 ⟨rfl, ho6, hb6⟩))
  have hbox6 := (show Box w5.drew G k v fl ex ca la st wo from hbox5).below hb6 hgl
  have hb16 := hb15.drew.trans hb6
  clear x0 x1 x2 x3 x4 x5 x6 x7 hbox5 hb6 hb15 ho5
  obtain ⟨xs6, hxs6⟩ : ∃ xs6, xs6 = P.splice xs5 16 (P.le 8 ex) := ⟨_, rfl⟩
  rw [← hxs6] at ho6
  have Hxs6 := hid hxs6
  clear hxs6
  obtain ⟨x0, x1, x2, x3, x4, x5, x6, x7, _⟩ := id hbox6
  go_wp2_with (fail)
  go_region_held3 (fun w' => w'.cell? ⟨G, 4, none⟩ = some (.int .u64 ca)) (first | exact x4 | (exact (hb7.cell (by exact hgl2)).trans x4)) (first | (go_at_call 186; refine (put_any g 24 8 N N _ g xs6 ca _ (by exact ho6) (by omega) (by omega) (by omega) (by omega)).mono ?_; rintro e w7 ⟨rfl, ho7, hb7⟩))
  have hbox7 := (show Box w6.drew G k v fl ex ca la st wo from hbox6).below hb7 hgl
  have hb17 := hb16.drew.trans hb7
  clear x0 x1 x2 x3 x4 x5 x6 x7 hbox6 hb7 hb16 ho6
  obtain ⟨xs7, hxs7⟩ : ∃ xs7, xs7 = P.splice xs6 24 (P.le 8 ca) := ⟨_, rfl⟩
  rw [← hxs7] at ho7
  have Hxs7 := hid hxs7
  clear hxs7
  obtain ⟨x0, x1, x2, x3, x4, x5, x6, x7, _⟩ := id hbox7
  go_wp2_with (fail)
  go_region_held3 (fun w' => w'.cell? ⟨G, 5, none⟩ = some (.int .i64 la)) (first | exact x5 | (exact (hb8.cell (by exact hgl2)).trans x5)) (first | (go_at_call 186; refine (put_any g 32 8 N N _ g xs7 la _ (by exact ho7) (by omega) (by omega) (by omega) (by omega)).mono ?_; rintro e w8 ⟨rfl, ho8, hb8⟩))
  have hbox8 := (show Box w7.drew G k v fl ex ca la st wo from hbox7).below hb8 hgl
  have hb18 := hb17.drew.trans hb8
  clear x0 x1 x2 x3 x4 x5 x6 x7 hbox7 hb8 hb17 ho7
  obtain ⟨xs8, hxs8⟩ : ∃ xs8, xs8 = P.splice xs7 32 (P.le 8 la) := ⟨_, rfl⟩
  rw [← hxs8] at ho8
  have Hxs8 := hid hxs8
  clear hxs8
  obtain ⟨x0, x1, x2, x3, x4, x5, x6, x7, _⟩ := id hbox8
  go_wp2_with (fail)
  have hw5 : IntKind.i64.wrap (40 + (k.size : Int)) = 40 + (k.size : Int) := IntWalk.i64_in _ ⟨by omega, by omega⟩
  have hw6 : (40 + (k.size : Int)).toNat = 40 + k.size := by omega
  have hw7 : 40 + (k.size : Int) ≤ (N : Int) := by have := HN.out; omega
  have hw8 : (0 : Int) ≤ 40 + (k.size : Int) := by omega
  have hw9 : 40 + k.size ≤ N := by have := HN.out; omega
  obtain ⟨w9, hrun1, ho9, hb9⟩ := run_copy_str w8.drew g 40 N N g xs8 k (N - 40) (N - 40) 3 ho8 (by omega) (by omega)
  have hx9 := (hb9.cell (p := ⟨G, 2, none⟩) (by exact hgl2)).trans (show w8.drew.cell? ⟨G, 2, none⟩ = some (.string v) from x2)
  have hx9k := (hb9.cell (p := ⟨G, 0, none⟩) (by exact hgl2)).trans (show w8.drew.cell? ⟨G, 0, none⟩ = some (.string k) from x0)
  have hxs := enc_chain k v fl ex ca la st wo N xs3 xs4 xs5 xs6 xs7 xs8 HN.out (by omega) (by omega) Hxs3.out Hxs4.out Hxs5.out Hxs6.out Hxs7.out Hxs8.out
  have Hxs := hid hxs
  clear hxs
  have hbw9 := Hbw.out.trans ((hb18.drew.trans hb9).mono (by omega : G ≤ g))
  by_cases hv0 : v.size = 0
  · have hrun2 := run_copy_str0 w9 v (if N = 40 + k.size then some ⟨g, 0, none⟩ else some ⟨g, 40 + k.size, none⟩) (N - (40 + k.size)) (N - (40 + k.size)) 3 hv0
    have hnil : strB v = [] := List.eq_nil_of_length_eq_zero (by rw [strB_len]; exact hv0)
    rw [hnil, P.splice_nil] at Hxs
    rw [Hxs.out] at ho9
    have hNk : 40 + k.size = N := by have := HN.out; omega
    have HNk := hid hNk
    clear hv0 hnil hNk
    go_region_held3 (fun w' => w'.cell? ⟨G, 0, none⟩ = some (.string k) ∧ w'.cell? ⟨G, 2, none⟩ = some (.string v)) (first | exact ⟨x0, x2⟩ | exact ⟨hx9k, hx9⟩) (first | (fail))
    all_goals (go_wp2_with (fail))
    all_goals
      go_ret2
      first
        | exact encPost_mk Hr.out HG.out ho9 (Nat.le_of_lt hgl) hbw9
        | (rw [HNk.out]; exact encPost_mk Hr.out HG.out ho9 (Nat.le_of_lt hgl) hbw9)
  · have r41 : ¬ N = 40 + k.size := by have := HN.out; omega
    obtain ⟨w10, hrun2, ho10, hb10⟩ := run_copy_str w9 g (40 + k.size) N N g _ v (N - (40 + k.size)) (N - (40 + k.size)) 3 ho9 (by have := HN.out; omega) (by have := HN.out; omega)
    rw [Hxs.out] at ho10
    have hx10 := (hb10.cell (p := ⟨G, 2, none⟩) (by exact hgl2)).trans hx9
    have hx10k := (hb10.cell (p := ⟨G, 0, none⟩) (by exact hgl2)).trans hx9k
    go_region_held3 (fun w' => w'.cell? ⟨G, 0, none⟩ = some (.string k) ∧ w'.cell? ⟨G, 2, none⟩ = some (.string v)) (first | exact ⟨x0, x2⟩ | exact ⟨hx9k, hx9⟩ | exact ⟨hx10k, hx10⟩) (first | (fail))
    all_goals (go_wp2_with (fail))
    all_goals
      go_ret2
      exact encPost_mk Hr.out HG.out ho10 (Nat.le_of_lt hgl) (hbw9.trans (hb10.mono (Nat.le_of_lt hgl)))
end Go.Proofs.YtboehbfagnocpaaGreatDoor.I8
