/- Where; Open. -/
import Derived.Test.YtfmgncajhjkdlaaSwf
import Derived.BigQuiet
import Derived.Deep.QuietTactic
namespace Go.Proofs.Ytfmgncajhjkdlaa
open Go.RowKit Go.PlainAid
open SP
set_option linter.unusedVariables false
set_option linter.unusedSimpArgs false

/-- the size of a page's chunks -/
def szP (π : Pi) (p : Nat) : Int := π.sz[ownC π p]?.getD 0
def whP (π : Pi) (ch : Int) : Int := if usedP π ch then ch / 4096 else -1
def whA (π : Pi) (ch : Int) : Int := if usedP π ch then ch % 4096 * szP π (ch / 4096).toNat else 0
def whS (π : Pi) (ch : Int) : Int := if usedP π ch then szP π (ch / 4096).toNat else 0
theorem Wf.szP {π : Pi} {L p : Nat} {x : Pg} (h : Wf π L) (hx : π.page p = some x) : 64 ≤ szP π p ∧ szP π p ≤ (π.S : Int) ∧ ownC π p < π.sz.length ∧ AP.owner π.ow p = ownC π p := by
  have hps := h.page_some hx
  have hpl := h.page_lt hx
  have hc : ownC π p < π.sz.length := by unfold ownC; omega
  have := h.sz (π.sz[ownC π p]?.getD 0) (by rw [List.getElem?_eq_getElem hc]; exact List.getElem_mem hc)
  refine ⟨this.1, this.2, hc, ?_⟩
  rw [AP.owner_at hpl]
  unfold ownC
  omega

set_option maxRecDepth 100000 in
set_option maxHeartbeats 1000000 in
theorem where_any {w : World} {β : Bk} {π : Pi} {L : Nat} (h : Mem w β π L) (hw : Wf π L) (ch : Int) (hch : ch ≤ 9223372036854775807) :
    Calls Try.prog 13 #[.pointer (some ⟨β.sb, 0, none⟩), .int .i64 ch] w fun e w' => e = .returned (.tuple #[.int .i64 (whP π ch), .int .i64 (whA π ch), .int .i64 (whS π ch)]) ∧ ∃ n, w' = w.drewN n := by
  cases hu : usedP π ch with
  | false =>
    have Hu := Lib.hid (used_at h hw ch hch hu)
    have Hr : Hid (whP π ch = -1 ∧ whA π ch = 0 ∧ whS π ch = 0) := Lib.hid (by unfold whP whA whS; rw [hu]; exact ⟨rfl, rfl, rfl⟩)
    clear h hu
    go_enter Try.func13, Try.ntmps13
    go_wp2_with (go_at_call 11; refine Hu.out.mono ?_; rintro e w' ⟨rfl, rfl⟩)
    refine bodyPost_ret (results_tmp3 rfl _ _ _) rfl ?_
    exact ⟨by rw [Hr.out.1, Hr.out.2.1, Hr.out.2.2]; rfl, 0, rfl⟩
  | true =>
    have Hu := Lib.hid (used_at h hw ch hch hu)
    obtain ⟨p, i, g, hchp, hi4, hpg, hig, hgu⟩ := usedP_inv hu
    have hps := hw.page_some hpg
    have hsp := hw.szP hpg
    have hpl := hw.page_lt hpg
    have hnp := hw.np1
    have hS := hw.siz
    have hk1 := hw.k1
    have e1 : (ch / 4096).toNat = p := by omega
    have Hr : Hid (whP π ch = p ∧ whA π ch = (i : Int) * szP π p ∧ whS π ch = szP π p) := Lib.hid (by
      unfold whP whA whS
      rw [hu, if_pos rfl, if_pos rfl, if_pos rfl, e1]
      refine ⟨by omega, ?_, rfl⟩
      rw [show ch % 4096 = (i : Int) by omega])
    obtain ⟨m, hm⟩ : ∃ m : Nat, ch = (m : Int) := ⟨p * 4096 + i, hchp⟩
    subst hm
    have q1 : (m : Int) / 4096 = (p : Int) := by omega
    have q2 : (m : Int) % 4096 = (i : Int) := by omega
    have s0 := h.s0
    have s1 := h.s1
    have hcell := h.size (ownC π p) hsp.2.2.1
    have hcell2 : w.cell? ⟨β.zb, ownC π p, none⟩ = some (.int .i64 (szP π p)) := hcell
    have hpq : (p : Int) ≤ 1023 := by omega
    have hi2 : (i : Int) ≤ 1024 := by omega
    have hz1 := hsp.1
    have hz2 := hsp.2.1
    have hcl : (ownC π p : Int) < (π.sz.length : Int) := by omega
    have hw1 : IntKind.i64.wrap ((i : Int) * szP π p) = (i : Int) * szP π p := by
      have h1 : (i : Int) * szP π p ≤ 1024 * 65536 := Int.mul_le_mul hi2 (by omega) (by omega) (by omega)
      have h2 : 0 ≤ (i : Int) * szP π p := Int.mul_nonneg (by omega) (by omega)
      exact IntWalk.i64_in _ (by omega)
    have HO : Hid (∀ n, Calls Try.prog 31 #[.pointer (some ⟨β.g, 0, none⟩), .int .i64 p] (w.drewN n) fun e w' => e = .returned (.int .i64 (ownC π p : Nat)) ∧ w' = w.drewN n) := Lib.hid (fun n => by
      have := owner_any ((h.drewN n).ar hw) p
      rw [hsp.2.2.2] at this
      exact this.mono (fun e w' h => ⟨h.1, h.2.symm⟩))
    generalize szP π p = z at *
    generalize ownC π p = c at *
    clear h hu hchp hpg hps hsp hcell e1 hS hig hgu
    go_enter Try.func13, Try.ntmps13
    go_wp2_with (go_at_call 11; refine Hu.out.mono ?_; rintro e w' ⟨rfl, rfl⟩)
    go_quiet ((go_at_call 31; exact Calls.quiet_of_same (HO.out _)))
    go_wp2
    refine bodyPost_ret (results_tmp3 rfl _ _ _) rfl ?_
    exact ⟨by rw [Hr.out.1, Hr.out.2.1, Hr.out.2.2]; rfl, _, rfl⟩

def opS (π : Pi) (p : Int) : Pi := match pageI π p with
  | none => π
  | some x => if x.cl = false then π else rowsAdd (SP.setPg π p.toNat { x with cl := false }) (ownC π p.toNat) (layL p.toNat x.used)
def opE (π : Pi) (p : Int) : Nat := match pageI π p with
  | none => 7
  | some x => if x.cl = false then 7 else 0
theorem Wf.opened {π : Pi} {L : Nat} (h : Wf π L) {q : Nat} {x : Pg} (hx : π.page q = some x) : Wf (SP.setPg π q { x with cl := false }) L :=
  h.setPg hx rfl (h.page_some hx).2.2.2.1 (fun _ _ _ _ _ _ hu _ => ⟨hu, rfl⟩)
theorem Wf.opS {π : Pi} {L : Nat} (h : Wf π L) (p : Int) (hm : L + 2000 ≤ 100000000) : Wf (opS π p) (L + 2000) := by
  unfold Go.Proofs.Ytfmgncajhjkdlaa.opS
  cases hx : pageI π p with
  | none => exact h.mono (by omega) (by omega)
  | some x =>
    dsimp only
    cases hcl : x.cl with
    | false => rw [if_pos rfl]; exact h.mono (by omega) (by omega)
    | true =>
      rw [if_neg (by simp)]
      obtain ⟨q, rfl, hx2⟩ := pageI_inv hx
      rw [Int.toNat_natCast]
      have hps := h.page_some hx2
      have hpl : q < π.pg.length := by rw [h.pl]; exact h.page_lt hx2
      have h2 := (h.opened hx2).lay (p := q) (c := ownC π q) (x := { x with cl := false }) ((page_setPg hpl _).trans (if_pos rfl)) rfl (by show π.ow[q]?.getD 0 = _; unfold ownC; omega) (by omega) (fun l hrl i hi hin => by
        obtain ⟨q', j', g', f1, f2, f3, _, f5, f4⟩ := (h.ch _ l hrl).2.2 _ hin
        have := (h.page_some f2).2.2.2.2.2
        have hi2 : i < x.used.length := hi
        obtain ⟨rfl, rfl⟩ := chunk_inj (by omega) (by omega) f1
        rw [hx2] at f2
        cases f2
        rw [hcl] at f5; cases f5)
      exact h2.mono (by omega) (by omega)

def OpPost (β : Bk) (π : Pi) (L : Nat) (p : Int) (w : World) (e : Ending) (w' : World) : Prop :=
  e = .returned (.int .i64 (opE π p : Nat)) ∧ ∃ β', Mem w' β' (opS π p) (L + 2000) ∧ Step w β π w' β' (opS π p)
theorem opNo {w : World} {β : Bk} {π : Pi} {L : Nat} {p : Int} (h : Mem w β π L) (hx : pageI π p = none ∨ ∃ x, pageI π p = some x ∧ x.cl = false) : OpPost β π L p w (.returned (.int .i64 7)) w := by
  rcases hx with hx | ⟨x, hx, hc⟩
  · refine ⟨by unfold opE; rw [hx]; rfl, β, ?_⟩
    unfold opS; rw [hx]
    exact ⟨h.more (by omega), Step.refl _ _ _⟩
  · refine ⟨by unfold opE; rw [hx]; dsimp only; rw [hc]; rfl, β, ?_⟩
    unfold opS; rw [hx]; dsimp only; rw [if_pos hc]
    exact ⟨h.more (by omega), Step.refl _ _ _⟩

set_option maxRecDepth 100000 in
set_option maxHeartbeats 2000000 in
theorem open_any {w : World} {β : Bk} {π : Pi} {L : Nat} (h : Mem w β π L) (hw : Wf π L) (p : Int) (hp : -9223372036854775808 ≤ p ∧ p ≤ 9223372036854775807) (hm : L + 2000 ≤ 100000000) :
    Calls Try.prog 18 #[.pointer (some ⟨β.sb, 0, none⟩), .int .i64 p] w (OpPost β π L p w) := by
  have s3 := h.s3
  have hlk := h.look p hp
  cases hx : pageI π p with
  | none =>
    have Hp := Lib.hid (opNo (p := p) h (.inl hx))
    rw [fm_pageI, hx] at hlk
    simp only [Option.map_none, pval] at hlk
    clear h hx
    go_enter Try.func18, Try.ntmps18
    go_wp2
    go_ret
    exact Hp.out
  | some x =>
    obtain ⟨q, rfl, hx2⟩ := pageI_inv hx
    rw [fm_pageI, hx] at hlk
    simp only [Option.map_some, pval, Int.toNat_natCast] at hlk
    have kc := (h.page hx2).2.2.1
    have kf := (h.page hx2).2.2.2 2
    cases hcl : x.cl with
    | false =>
      have Hp := Lib.hid (opNo (p := q) h (.inr ⟨x, hx, hcl⟩))
      rw [hcl] at kc
      clear h hx hx2
      go_enter Try.func18, Try.ntmps18
      go_wp2
      go_ret
      exact Hp.out
    | true =>
      rw [hcl] at kc
      have hps := hw.page_some hx2
      have hpl := hw.page_lt hx2
      have hnp := hw.np1
      have hsp := hw.szP hx2
      have M1 := h.setCl hx2 false
      have HL := Lib.hid (lay_any M1.1 (hw.opened hx2) q (ownC π q) { x with cl := false } ((page_setPg (by rw [hw.pl]; exact hpl) _).trans (if_pos rfl)) hsp.2.2.2 hsp.2.2.1 (by omega) (by show 0 < x.used.length; omega) (by show x.used.length ≤ 4096; omega))
      have HS := Lib.hid M1.2
      have hE : Hid (∀ w' β', Mem w' β' (rowsAdd (SP.setPg π q { x with cl := false }) (ownC π q) (layL q x.used)) L → Step (w.setCell ⟨β.pb q, 2, none⟩ (.bool false)) β (SP.setPg π q { x with cl := false }) w' β' (rowsAdd (SP.setPg π q { x with cl := false }) (ownC π q) (layL q x.used)) → OpPost β π L q w (.returned (.int .i64 0)) w') := Lib.hid (fun w' β' h1 h2 => by
        have e : opS π q = rowsAdd (SP.setPg π q { x with cl := false }) (ownC π q) (layL q x.used) := by
          unfold opS; rw [hx]; dsimp only; rw [if_neg (by rw [hcl]; simp)]; rfl
        refine ⟨by unfold opE; rw [hx]; dsimp only; rw [if_neg (by rw [hcl]; simp)]; rfl, β', ?_⟩
        rw [e]
        exact ⟨h1.more (by omega), HS.out.trans h2⟩)
      clear h hx hx2 hps hsp M1 HS
      go_enter Try.func18, Try.ntmps18
      go_wp2_with (go_at_call 36; refine HL.out.mono ?_; rintro e w7 ⟨⟨v7, rfl⟩, vr, hM7, hS7⟩)
      go_ret
      exact hE.out _ _ hM7 hS7
end Go.Proofs.Ytfmgncajhjkdlaa
