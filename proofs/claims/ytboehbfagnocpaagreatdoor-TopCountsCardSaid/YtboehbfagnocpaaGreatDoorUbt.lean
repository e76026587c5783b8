/- Twa, Twk, Twl, Tpk, Tcf, Twp, Tpc, Tcw, Tuf. -/
import Derived.Test.YtboehbfagnocpaaGreatDoorUbs
import Derived.Test.YtboehbfagnocpaaGreatDoorUbq
set_option linter.unusedVariables false
set_option linter.unusedSimpArgs false
set_option maxRecDepth 100000
open Go.Proofs.Tryz
open Go.Lib (hid)
namespace Go.Proofs.YtboehbfagnocpaaGreatDoor
open Go.RowKit Go.PlainAid Go.Shelf
open SP
open PM (Cd An Sd Vl upd upd_same upd_ne)
def gC (key : ByteArray) (Jn : Prop) (x : Cd) : Prop := PM.cOk x ∧ Nx key x ∧ (∀ d, x = .incr d → Jn) ∧ (Jn → PM.numC x)
def gA (Jn : Prop) (x : Cd) (a : An) : Prop := PM.aOk x a ∧ ∀ d, x = .incr d → Jn ∧ a.st = 6
abbrev Wj (key : ByteArray) (Jn : Prop) (need : Bool) (nw nc B : Nat) (s : Mac) : Prop := PM.Within (gC key Jn) (gA Jn) (fun d n => PM.sOk need B d n ∧ (Jn → PM.numS d)) nw nc B s
section
variable {key : ByteArray} {Jn : Prop} {need : Bool} {nw nc B : Nat} {s : Mac} {wi c : Nat}
theorem Wj.work (h : Wj key Jn need nw nc B s) (hw : wi < nw) : Wj key Jn need nw nc B (PM.work PM.stp PM.an0 s wi c).2 :=
  PM.Within.work (fun s n x hs hx => ⟨⟨(PM.stp_ok s n x hs.1 hx.1).1, fun j => (PM.stp_num (hs.2 j) (hx.2.2.2 j)).1⟩, (PM.stp_ok s n x hs.1 hx.1).2, fun d e => ⟨hx.2.2.1 d e, (PM.stp_num (hs.2 (hx.2.2.1 d e)) (hx.2.2.2 (hx.2.2.1 d e))).2 d e⟩⟩) (fun s n h => ⟨PM.sOk_mono s n h.1, h.2⟩) h hw
theorem Wj.wr (h : Wj key Jn need nw nc B s) : Wj key Jn need nw nc B (PM.wr s c) := by
  refine ⟨h.who, h.qs, h.qc, h.qn, fun d => ?_, fun d x hx => ?_, h.ev, h.seq, h.data⟩
  · show (upd s.out c [] d).length + PM.left nw nc s ≤ B
    by_cases e : d = c
    · subst e
      rw [upd_same]
      have := h.ev
      simp only [List.length_nil]
      omega
    · rw [upd_ne _ _ e]; exact h.outs d
  · replace hx : x ∈ upd s.out c [] d := hx
    by_cases e : d = c
    · subst e
      rw [upd_same] at hx; cases hx
    · rw [upd_ne _ _ e] at hx; exact h.outa d x hx
theorem Wj.q20 (h : Wj key Jn need nw nc B s) (hB : B ≤ 160) : (s.q c).length ≤ 40 := by have := h.qn c; omega
theorem dec_len (k n : Nat) (h : n < 10 ^ (k + 1)) : (dec n).size ≤ k + 1 := by
  show (Lib.decDigits n).toArray.size ≤ k + 1
  rw [List.size_toArray]
  exact dd_len k n h
theorem txC_size (hk : key.size = 1) {x : Cd} (hx : PM.cOk x) : (txC key x).size ≤ 50 := by
  cases x with
  | get =>
    show ((⟨#[103, 101, 116, 32]⟩ : ByteArray) ++ key ++ crlf).size ≤ 50
    rw [ByteArray.size_append, ByteArray.size_append, hk]
    decide
  | set fl v =>
    have h1 := dec_len 1 fl (by have := hx.1; omega)
    have h2 := vl_size hx.2
    have h3 := dec_len 1 (vlB v).size (by omega)
    show ((⟨#[115, 101, 116, 32]⟩ : ByteArray) ++ key ++ ⟨#[32]⟩ ++ dec fl ++ ⟨#[32, 48, 32]⟩ ++ dec (vlB v).size ++ crlf ++ vlB v ++ crlf).size ≤ 50
    simp only [ByteArray.size_append, hk]
    have e1 : (⟨#[115, 101, 116, 32]⟩ : ByteArray).size = 4 := rfl
    have e2 : (⟨#[32]⟩ : ByteArray).size = 1 := rfl
    have e3 : (⟨#[32, 48, 32]⟩ : ByteArray).size = 3 := rfl
    have e4 : crlf.size = 2 := rfl
    omega
  | cas t v =>
    have h1 := dec_len 6 t (by have := hx.1; omega)
    have h2 := vl_size hx.2
    have h3 := dec_len 1 (vlB v).size (by omega)
    show ((⟨#[99, 97, 115, 32]⟩ : ByteArray) ++ key ++ ⟨#[32, 48, 32, 48, 32]⟩ ++ dec (vlB v).size ++ ⟨#[32]⟩ ++ dec t ++ crlf ++ vlB v ++ crlf).size ≤ 50
    simp only [ByteArray.size_append, hk]
    have e1 : (⟨#[99, 97, 115, 32]⟩ : ByteArray).size = 4 := rfl
    have e2 : (⟨#[32]⟩ : ByteArray).size = 1 := rfl
    have e3 : (⟨#[32, 48, 32, 48, 32]⟩ : ByteArray).size = 5 := rfl
    have e4 : crlf.size = 2 := rfl
    omega
  | incr d =>
    have h1 := dec_len 19 d (by have h : d < 18446744073709551616 := hx; omega)
    show ((⟨#[105, 110, 99, 114, 32]⟩ : ByteArray) ++ key ++ ⟨#[32]⟩ ++ dec d ++ crlf).size ≤ 50
    simp only [ByteArray.size_append, hk]
    have e1 : (⟨#[105, 110, 99, 114, 32]⟩ : ByteArray).size = 5 := rfl
    have e2 : (⟨#[32]⟩ : ByteArray).size = 1 := rfl
    have e4 : crlf.size = 2 := rfl
    omega
theorem txS_size (hk : key.size = 1) : ∀ {l : List Cd}, (∀ x ∈ l, PM.cOk x) → (txS key l).size ≤ 50 * l.length
  | [], _ => Nat.zero_le _
  | x :: l, h => by
    have h1 := txS_size hk (l := l) (fun y hy => h y (.tail _ hy))
    have h2 := txC_size hk (h x (.head _))
    show (txC key x ++ txS key l).size ≤ _
    rw [ByteArray.size_append, List.length_cons]
    omega
theorem Wj.out (h : Wj key Jn need nw nc B s) (hB : B ≤ 200) (hk : key.size = 1) : (rpS key (s.out c)).size ≤ 60000 := by
  have h1 := rpS_size hk (l := s.out c) (fun x hx => (h.outa c x hx).1)
  have h2 := h.outs c
  omega
end
section
variable {key : ByteArray} {h : Int} {bk nw ns nc : Nat} {p : Pl} {s s' : Mac} {w w' : World} {c wi : Nat} {need : Bool} {B : Nat} {Jn : Prop}
def WkPost (key : ByteArray) (h : Int) (bk nw ns nc : Nat) (p : Pl) (s : Mac) (wi c : Nat) (w : World) (e : Ending) (w' : World) : Prop :=
  e = .returned (.bool (PM.work PM.stp PM.an0 s wi c).1) ∧ ∃ p' : Pl, p'.b = p.b ∧ StoOk key p'.m (PM.work PM.stp PM.an0 s wi c).2.data ∧
    p'.m.ps.num + PM.left nw nc (PM.work PM.stp PM.an0 s wi c).2 ≤ p.m.ps.num + PM.left nw nc s ∧ Turn (svR key h bk nw ns nc p s) (svR key h bk nw ns nc p' (PM.work PM.stp PM.an0 s wi c).2) w w'
theorem wkp_yes {e : Ending} (hW : Wj key Jn need nw nc B s) (hw : wi < nw) (hwork : PM.work PM.stp PM.an0 s wi c = (true, s')) (he : e = .returned (.bool true))
    (hp : ∃ p' : Pl, p'.b = p.b ∧ p'.m.ps.num ≤ p.m.ps.num + 1 ∧ StoOk key p'.m s'.data ∧ Turn (svR key h bk nw ns nc p s) (svR key h bk nw ns nc p' s') w w') : WkPost key h bk nw ns nc p s wi c w e w' := by
  have hl := PM.left_yes (step := PM.stp) (a0 := PM.an0) (c := c) hW hw (by rw [hwork])
  unfold WkPost
  rw [hwork] at hl ⊢
  obtain ⟨p', h1, h2, h3, h4⟩ := hp
  exact ⟨he, p', h1, h3, by dsimp only at hl ⊢; omega, h4⟩
theorem wkp_no {e : Ending} (hwork : PM.work PM.stp PM.an0 s wi c = (false, s)) (ho : StoOk key p.m s.data) (he : e = .returned (.bool false)) (ht : ∃ p' : Pl, p'.b = p.b ∧ p'.m = p.m ∧ Turn (svR key h bk nw ns nc p s) (svR key h bk nw ns nc p' s) w w') : WkPost key h bk nw ns nc p s wi c w e w' := by
  unfold WkPost
  rw [hwork]
  obtain ⟨p', h1, h2, h3⟩ := ht
  exact ⟨he, p', h1, by rw [h2]; exact ho, by rw [h2]; exact Nat.le_refl _, h3⟩
theorem wtake_ok (hks : key.size = 1) (hR : (svR key h bk nw ns nc p s).R w) (hW : Wj key Jn need nw nc B s) (hB : B ≤ 200) (hq : (s.q c).length ≤ 40) (ho : StoOk key p.m s.data) (hw : wi < nw) (hc : c < nc) (hwk : s.wk wi = none) :
    Calls prog 79 #[.pointer (some ⟨p.b, 0, none⟩), .int .i64 wi, .int .i64 c] w (WkPost key h bk nw ns nc p s wi c w) := by
  cases hb : s.busy c with
  | true =>
    refine (take_busy hR hc hb wi).mono (fun e w' hh => ?_)
    exact wkp_no (by unfold PM.work; rw [hwk, hb]) ho hh.1 ⟨p, rfl, rfl, hh.2⟩
  | false =>
    cases hqq : s.q c with
    | nil =>
      refine (take_none hR hc hb hqq (hW.out hB hks) wi).mono (fun e w' hh => ?_)
      exact wkp_no (by unfold PM.work; rw [hwk, hb, hqq]) ho hh.1 ⟨p, rfl, rfl, hh.2⟩
    | cons x rest =>
      have hx : gC key Jn x := hW.qc c x (by rw [hqq]; exact .head _)
      have hsz := txS_size hks (l := x :: rest) (fun y hy => (hW.qc c y (by rw [hqq]; exact hy)).1)
      rw [hqq] at hq
      refine (take_some hx.2.1 hR hc hw hwk hb hqq (hW.out hB hks) (by omega) (by have := hW.seq c; omega)).mono (fun e w' hh => ?_)
      obtain ⟨he, p', h1, h2, h3⟩ := hh
      exact wkp_yes hW hw (by unfold PM.work; rw [hwk, hb, hqq]) he ⟨p', h1, by rw [h2]; omega, by rw [h2]; exact ho, h3⟩
theorem wlock_ok (hk : KeyI key h bk) (hns : ns = 4 ∨ ns = 1) (hR : (svR key h bk nw ns nc p s).R w) (hW : Wj key Jn need nw nc B s) (ho : StoOk key p.m s.data) (hw : wi < nw) {k : PM.Wk Cd An} (hkk : s.wk wi = some k) (hp : k.ph = 0) :
    Calls prog 80 #[.pointer (some ⟨p.b, 0, none⟩), .int .i64 wi, .pointer (some ⟨(p.wp wi).b, 0, none⟩)] w (WkPost key h bk nw ns nc p s wi c w) := by
  refine (lock_ok hk hns hR hw hkk hp).mono (fun e w' hh => ?_)
  obtain ⟨he, p', h1, h2, h3⟩ := hh
  cases hh : s.holder with
  | some v =>
    rw [hh] at he h3
    exact wkp_no (by unfold PM.work; rw [hkk]; dsimp only; rw [if_pos hp, hh]; rfl) ho he ⟨p', h1, h2, h3⟩
  | none =>
    rw [hh] at he h3
    exact wkp_yes (s' := PM.lock s wi k) hW hw (by unfold PM.work; rw [hkk]; dsimp only; rw [if_pos hp, hh]; rfl) he ⟨p', h1, by rw [h2]; omega, by rw [h2]; exact ho, h3⟩
def DoIt (key : ByteArray) (h : Int) (bk nw ns nc : Nat) (p : Pl) (s : Mac) (wi : Nat) (k : PM.Wk Cd An) (w : World) (e : Ending) (w' : World) : Prop :=
  e = .returned (.tuple #[]) ∧ ∃ p' : Pl, p'.b = p.b ∧ p'.m.ps.num ≤ p.m.ps.num + 1 ∧ StoOk key p'.m (PM.stp s.data k.cmd).1 ∧ Turn (svR key h bk nw ns nc p s) (svR key h bk nw ns nc p' (PM.doit PM.stp s wi k)) w w'
theorem work_none (hks : key.size = 1) (hR : (svR key h bk nw ns nc p s).R w) (hW : Wj key Jn need nw nc B s) (hB : B ≤ 200) (hq : (s.q c).length ≤ 40) (ho : StoOk key p.m s.data) (hw : wi < nw) (hc : c < nc) (hwk : s.wk wi = none) :
    Calls prog 30 #[.pointer (some ⟨p.b, 0, none⟩), .int .i64 wi, .int .i64 c] w (WkPost key h bk nw ns nc p s wi c w) := by
  have HT := hid (wtake_ok hks hR hW hB hq ho hw hc hwk)
  have H := Hav.open hR
  have a5 : w.cell? ⟨p.b, 5, none⟩ = some (.slice (some ⟨p.wlb, 0, none⟩) nw p.wlc) := cA (H.get 0 rfl) 5
  have r0 : w.cell? ⟨p.wlb, wi, none⟩ = some (.pointer none) := by rw [row_at (H.get 2 rfl) wi (by rw [lst_len]; exact hw), lst_get hw]; unfold wkV; rw [hwk]
  have h1 : ¬ (nw : Int) ≤ wi := by omega
  have h2 : (wi : Int) < nw := by omega
  clear H hR hW hB hq ho hc hwk
  go_enter func30, ntmps30
  go_wp2_with (go_at_call 79; refine HT.out.mono ?_; rintro e w1 ⟨rfl, hh⟩)
  go_ret
  exact ⟨rfl, hh⟩
theorem work_some (hk : KeyI key h bk) (hns : ns = 4 ∨ ns = 1) (hR : (svR key h bk nw ns nc p s).R w) (hW : Wj key Jn need nw nc B s) (hB : B ≤ 200) (hJ : Jn → TbS key h bk nw ns nc p s w) (ho : StoOk key p.m s.data) (hw : wi < nw) {k : PM.Wk Cd An} (hkk : s.wk wi = some k)
    (HDo : k.ph = 1 → Calls prog 81 #[.pointer (some ⟨p.b, 0, none⟩), .pointer (some ⟨(p.wp wi).b, 0, none⟩)] w (DoIt key h bk nw ns nc p s wi k w)) :
    Calls prog 30 #[.pointer (some ⟨p.b, 0, none⟩), .int .i64 wi, .int .i64 c] w (WkPost key h bk nw ns nc p s wi c w) := by
  have H := Hav.open hR
  have a5 : w.cell? ⟨p.b, 5, none⟩ = some (.slice (some ⟨p.wlb, 0, none⟩) nw p.wlc) := cA (H.get 0 rfl) 5
  have r0 : w.cell? ⟨p.wlb, wi, none⟩ = some (.pointer (some ⟨(p.wp wi).b, 0, none⟩)) := by rw [row_at (H.get 2 rfl) wi (by rw [lst_len]; exact hw), lst_get hw]; unfold wkV; rw [hkk]
  have k15 : w.cell? ⟨(p.wp wi).b, 15, none⟩ = some (.int .i64 k.ph) := cA ((sv_wk hR hw hkk).get 0 rfl) 15
  have h1 : ¬ (nw : Int) ≤ wi := by omega
  have h2 : (wi : Int) < nw := by omega
  have hwho := hW.who wi k hkk
  rcases (by have := hwho.2.2.1; omega : k.ph = 0 ∨ k.ph = 1 ∨ k.ph = 2) with hp | hp | hp
  · rw [hp] at k15
    have k15' : w.cell? ⟨(p.wp wi).b, 15, none⟩ = some (.int .i64 0) := k15
    have HT := hid (wlock_ok (c := c) hk hns hR hW ho hw hkk hp)
    clear k15 H hR hW hB hJ ho hkk HDo hwho hk hns
    go_enter func30, ntmps30
    go_wp2_with (go_at_call 80; refine HT.out.mono ?_; rintro e w1 ⟨rfl, hh⟩)
    go_ret
    exact ⟨rfl, hh⟩
  · rw [hp] at k15
    have k15' : w.cell? ⟨(p.wp wi).b, 15, none⟩ = some (.int .i64 1) := k15
    have HT := hid (HDo hp)
    have HF : Hid (∀ w1, (∃ p' : Pl, p'.b = p.b ∧ p'.m.ps.num ≤ p.m.ps.num + 1 ∧ StoOk key p'.m (PM.stp s.data k.cmd).1 ∧ Turn (svR key h bk nw ns nc p s) (svR key h bk nw ns nc p' (PM.doit PM.stp s wi k)) w w1) → WkPost key h bk nw ns nc p s wi c w (.returned (.bool true)) w1) :=
      hid (fun w1 hh => wkp_yes (s' := PM.doit PM.stp s wi k) hW hw (by unfold PM.work; rw [hkk]; dsimp only; rw [if_neg (by omega), if_pos hp]) rfl hh)
    clear k15 H hR hW hB hJ ho hkk HDo hwho hk hns
    unfold DoIt at HT
    go_enter func30, ntmps30
    go_wp2_with (go_at_call 81; refine HT.out.mono ?_; rintro e w1 ⟨rfl, hh⟩)
    go_ret
    exact HF.out _ hh
  · rw [hp] at k15
    have k15' : w.cell? ⟨(p.wp wi).b, 15, none⟩ = some (.int .i64 2) := k15
    have hga := hwho.2.2.2.2 hp
    have HT := hid (leave_ok hk (by rcases hns with rfl | rfl <;> decide) hR hw hkk hp hwho.2.1 hga.1 (fun d e => ⟨(hga.2 d e).2, hJ (hga.2 d e).1⟩) (hW.out hB hk.size))
    have HF : Hid (∀ w1, Turn (svR key h bk nw ns nc p s) (svR key h bk nw ns nc p (PM.leave s wi k)) w w1 → WkPost key h bk nw ns nc p s wi c w (.returned (.bool true)) w1) :=
      hid (fun w1 hh => wkp_yes (s' := PM.leave s wi k) hW hw (by unfold PM.work; rw [hkk]; dsimp only; rw [if_neg (by omega), if_neg (by omega)]) rfl ⟨p, rfl, by omega, ho, hh⟩)
    clear k15 H hR hW hB hJ ho hkk HDo hwho hk hns hga
    go_enter func30, ntmps30
    go_wp2_with (go_at_call 82; refine HT.out.mono ?_; rintro e w1 ⟨rfl, hh⟩)
    go_ret
    exact HF.out _ hh
end
section
variable {key : ByteArray} {h : Int} {bk nw ns nc : Nat} {p : Pl} {s t : Mac} {w w' : World} {c wi N B : Nat} {need : Bool} {x : Cd} {Jn : Prop}
def DoAll (key : ByteArray) (h : Int) (bk nw ns nc : Nat) : Prop := ∀ (p : Pl) (s : Mac) (w : World) (wi : Nat) (k : PM.Wk Cd An), (svR key h bk nw ns nc p s).R w → wi < nw → s.wk wi = some k → k.ph = 1 → StoOk key p.m s.data → p.m.ps.num ≤ 1000000 → s.data.tok < 1000000 →
  (∀ y, s.data.it = some y → PM.ItG s.data.tok y) → PM.cOk k.cmd → (s.data.it = none → ∃ fl v, k.cmd = .set fl v) → (∀ d, k.cmd = .incr d → TbS key h bk nw ns nc p s w ∧ PM.numS s.data) → s.ev.length ≤ 1000 →
  Calls prog 81 #[.pointer (some ⟨p.b, 0, none⟩), .pointer (some ⟨(p.wp wi).b, 0, none⟩)] w (DoIt key h bk nw ns nc p s wi k w)
def Sat (key : ByteArray) (h : Int) (bk nw ns nc : Nat) (p : Pl) (s : Mac) (w : World) (N : Nat) (t : Mac) (w' : World) : Prop :=
  ∃ p' : Pl, p'.b = p.b ∧ StoOk key p'.m t.data ∧ p'.m.ps.num + PM.left nw nc t ≤ N ∧ Turn (svR key h bk nw ns nc p s) (svR key h bk nw ns nc p' t) w w'
theorem Sat.below {w'' : World} (hs : Sat key h bk nw ns nc p s w N t w') (hb : Below w'.heap.size w' w'') : Sat key h bk nw ns nc p s w N t w'' := by
  obtain ⟨p', h1, h2, h3, h4⟩ := hs
  exact ⟨p', h1, h2, h3, h4.below hb⟩
theorem Sat.le {M : Nat} (hs : Sat key h bk nw ns nc p s w N t w') (hm : N ≤ M) : Sat key h bk nw ns nc p s w M t w' := by
  obtain ⟨p', h1, h2, h3, h4⟩ := hs
  exact ⟨p', h1, h2, by omega, h4⟩
theorem Sat.work (hk : KeyI key h bk) (hns : ns = 4 ∨ ns = 1) (hDo : DoAll key h bk nw ns nc) (hS : Sat key h bk nw ns nc p s w N t w') (hJ : Jn → TbS key h bk nw ns nc p s w) (hW : Wj key Jn need nw nc B t) (hB : B ≤ 200) (hq : (t.q c).length ≤ 40) (hN : N ≤ 1000000) (hw : wi < nw) (hc : c < nc)
    (hd : ∀ k, t.wk wi = some k → k.ph = 1 → t.data.it = none → ∃ fl v, k.cmd = .set fl v) :
    Calls prog 30 #[.pointer (some ⟨p.b, 0, none⟩), .int .i64 wi, .int .i64 c] w' fun e w'' => e = .returned (.bool (PM.work PM.stp PM.an0 t wi c).1) ∧ Sat key h bk nw ns nc p s w N (PM.work PM.stp PM.an0 t wi c).2 w'' := by
  obtain ⟨p', h1, h2, h3, h4⟩ := hS
  have hP : Calls prog 30 #[.pointer (some ⟨p'.b, 0, none⟩), .int .i64 wi, .int .i64 c] w' (WkPost key h bk nw ns nc p' t wi c w') := by
    cases hwk : t.wk wi with
    | none => exact work_none hk.size h4.here hW hB hq h2 hw hc hwk
    | some k =>
      refine work_some hk hns h4.here hW hB (fun j => (hJ j).turn h4) h2 hw hwk (fun hp => ?_)
      have hwho := hW.who wi k hwk
      have hdat := hW.data.1
      have hdn := hW.data.2
      exact hDo p' t w' wi k h4.here hw hwk hp h2 (by omega) (by have := hdat.1; omega) (fun y hy => hdat.2.2 y hy) hwho.2.2.2.1.1 (hd k hwk hp) (fun d e => ⟨(hJ (hwho.2.2.2.1.2.2.1 d e)).turn h4, hdn (hwho.2.2.2.1.2.2.1 d e)⟩) (by have := hW.ev; omega)
  rw [h1] at hP
  refine hP.mono (fun e w'' hh => ?_)
  obtain ⟨g1, p'', g2, g3, g4, g5⟩ := hh
  exact ⟨g1, p'', g2.trans h1, g3, by omega, h4.trans g5⟩
theorem Sat.write {n : Int} (hS : Sat key h bk nw ns nc p s w N t w') (hc : c < nc) (hn : ((rpS key (t.out c)).size : Int) ≤ n) :
    Calls prog 29 #[.pointer (some ⟨p.b, 0, none⟩), .int .i64 c, .int .i64 n] w' fun e w'' => e = .returned (.string (rpS key (t.out c))) ∧ Sat key h bk nw ns nc p s w N (PM.wr t c) w'' := by
  obtain ⟨p', h1, h2, h3, h4⟩ := hS
  have hP := swrite_ok h4.here hc hn
  rw [h1] at hP
  exact hP.mono (fun e w'' hh => ⟨hh.1, p', h1, h2, h3, h4.trans hh.2⟩)
theorem Sat.feed {b : ByteArray} (hS : Sat key h bk nw ns nc p s w N t w') (hc : c < nc) (hx : txC key x = b) (hs : (txS key (t.q c)).size + b.size ≤ 70000) :
    Calls prog 12 #[.pointer (some ⟨p.b, 0, none⟩), .int .i64 c, .string b] w' fun e w'' => e = .returned (.int .i64 b.size) ∧ Sat key h bk nw ns nc p s w (N + 4) (PM.fd t c x) w'' := by
  obtain ⟨p', h1, h2, h3, h4⟩ := hS
  have hP := sfeed_ok h4.here hc hx hs
  rw [h1] at hP
  exact hP.mono (fun e w'' hh => ⟨hh.1, p', h1, h2, by rw [PM.left_fd hc]; omega, h4.trans hh.2⟩)
theorem Wj.allS (hW : Wj key Jn need nw nc B t) (hnw : 0 < nw) : ∀ k, Wj key Jn need nw nc B (PM.allS PM.stp PM.an0 t c k)
  | 0 => hW
  | k + 1 => ((hW.allS hnw k).work hnw).wr
theorem Sat.allW (hk : KeyI key h bk) (hns : ns = 4 ∨ ns = 1) (hDo : DoAll key h bk nw ns nc) (hJ : Jn → TbS key h bk nw ns nc p s w) (hW : Wj key Jn need nw nc B t) (hB : B ≤ 160) (hN : N ≤ 1000000) (hnw : 0 < nw) (hc : c < nc) (hI : PM.Idle t) (hq : t.q c = [x]) (ho : t.out c = []) (hd : t.data.it = none → ∃ fl v, x = .set fl v)
    {k : Nat} (hk4 : k ≤ 4) (w1 : World) (hS : Sat key h bk nw ns nc p s w N (PM.allS PM.stp PM.an0 t c k) w1) :
    Calls prog 30 #[.pointer (some ⟨p.b, 0, none⟩), .int .i64 0, .int .i64 c] w1 fun e w'' => e = .returned (.bool (decide (k < 4))) ∧ Sat key h bk nw ns nc p s w N (PM.work PM.stp PM.an0 (PM.allS PM.stp PM.an0 t c k) 0 c).2 w'' := by
  have hr := PM.all_run (step := PM.stp) (a0 := PM.an0) (hI.wk 0) (hI.busy c) hI.hold hq ho
  have h1 := Sat.work (wi := 0) (c := c) hk hns hDo hS hJ (hW.allS hnw k) (by omega) ((hW.allS hnw k).q20 hB) hN hnw hc (fun kk hkk hp hnn => by
    obtain ⟨e1, e2⟩ := PM.all_hd (hI.wk 0) (hI.busy c) hI.hold hq ho hk4 hkk hp
    rw [e1] at hnn
    rw [e2]; exact hd hnn)
  have e : (PM.work PM.stp PM.an0 (PM.allS PM.stp PM.an0 t c k) 0 c).1 = decide (k < 4) := by
    by_cases h4 : k < 4
    · rw [hr.1 k h4, decide_eq_true h4]
    · rw [show k = 4 by omega, hr.2.1]; rfl
  rw [e] at h1
  exact h1
theorem Sat.allX (hI : PM.Idle t) (hc : c < nc) (hq : t.q c = [x]) (ho : t.out c = []) {r : ByteArray} (hr : rpC key (x, (PM.stp t.data x).2) = r) (hz : r.size ≤ 60000) {k : Nat} (hk4 : k < 4) (w1 : World) (hS : Sat key h bk nw ns nc p s w N (PM.work PM.stp PM.an0 (PM.allS PM.stp PM.an0 t c k) 0 c).2 w1) :
    Calls prog 29 #[.pointer (some ⟨p.b, 0, none⟩), .int .i64 c, .int .i64 1073741824] w1 fun e w'' => e = .returned (.string (if k = 3 then r else ⟨#[]⟩)) ∧ Sat key h bk nw ns nc p s w N (PM.allS PM.stp PM.an0 t c (k + 1)) w'' := by
  have hru := PM.all_run (step := PM.stp) (a0 := PM.an0) (hI.wk 0) (hI.busy c) hI.hold hq ho
  have e : rpS key ((PM.work PM.stp PM.an0 (PM.allS PM.stp PM.an0 t c k) 0 c).2.out c) = if k = 3 then r else ⟨#[]⟩ := by
    rw [hru.2.2.1 k hk4]
    split
    · show rpC key (x, (PM.stp t.data x).2) ++ ⟨#[]⟩ = r
      rw [ba_nil, hr]
    · rfl
  have h1 := Sat.write (n := 1073741824) hS hc (by rw [e]; split; exact (by omega); exact (by decide))
  rw [e] at h1
  exact h1
theorem Sat.allY (hI : PM.Idle t) (hc : c < nc) (hq : t.q c = [x]) (ho : t.out c = []) (w1 : World) (hS : Sat key h bk nw ns nc p s w N (PM.work PM.stp PM.an0 (PM.allS PM.stp PM.an0 t c 4) 0 c).2 w1) :
    Calls prog 29 #[.pointer (some ⟨p.b, 0, none⟩), .int .i64 c, .int .i64 1073741824] w1 fun e w'' => e = .returned (.string ⟨#[]⟩) ∧ Sat key h bk nw ns nc p s w N (PM.allE PM.stp t c x) w'' := by
  have hru := PM.all_run (step := PM.stp) (a0 := PM.an0) (hI.wk 0) (hI.busy c) hI.hold hq ho
  rw [PM.work_no _ _ _ hru.2.1] at hS
  have e : (PM.allS PM.stp PM.an0 t c 4).out c = [] := hru.2.2.2.2 4 (Nat.le_refl _)
  have h1 := Sat.write (n := 1073741824) hS hc (by rw [e]; show ((⟨#[]⟩ : ByteArray).size : Int) ≤ _; decide)
  have e2 : PM.wr (PM.allS PM.stp PM.an0 t c 4) c = PM.allE PM.stp t c x := by
    rw [← hru.2.2.2.1]
    unfold PM.wr
    rw [PM.upd_self _ c e]
  rw [e, e2] at h1
  exact h1
end
section
variable {key : ByteArray} {h : Int} {bk nw ns nc : Nat} {p : Pl} {s t : Mac} {w0 w w' : World} {c wi N B : Nat} {need : Bool} {x : Cd} {l : List (Nat × Nat)} {Jn : Prop}
theorem works_snoc (t : Mac) (l : List (Nat × Nat)) (q : Nat × Nat) : PM.works PM.stp PM.an0 t (l ++ [q]) = (PM.work PM.stp PM.an0 (PM.works PM.stp PM.an0 t l) q.1 q.2).2 := by
  unfold PM.works
  rw [List.foldl_append]
  rfl
theorem Wj.works (hW : Wj key Jn need nw nc B t) (hl : ∀ q ∈ l, q.1 < nw) : Wj key Jn need nw nc B (PM.works PM.stp PM.an0 t l) := by
  induction l generalizing t with
  | nil => exact hW
  | cons q l ih => exact ih (t := (PM.work PM.stp PM.an0 t q.1 q.2).2) (hW.work (hl q (.head _))) (fun r hr => hl r (.tail _ hr))
def rnd (t : Mac) (n m : Nat) : Mac := PM.works PM.stp PM.an0 ((List.replicate n PM.prs).foldl (PM.works PM.stp PM.an0) t) (PM.prs.take m)
theorem prs_take : ∀ a, a < 4 → ∀ b, b < 4 → PM.prs.take (4 * a + b + 1) = PM.prs.take (4 * a + b) ++ [(a, b)] := by decide
theorem rnd_succ {n a b : Nat} (ha : a < 4) (hb : b < 4) : (PM.work PM.stp PM.an0 (rnd t n (4 * a + b)) a b).2 = rnd t n (4 * a + b + 1) := by
  unfold rnd
  rw [prs_take a ha b hb, works_snoc]
theorem rnd_next {n : Nat} : rnd t n 16 = rnd t (n + 1) 0 := by
  unfold rnd
  rw [List.replicate_succ', List.foldl_append]
  rfl
theorem rnd_n {n : Nat} : rnd t n 0 = (List.replicate n PM.prs).foldl (PM.works PM.stp PM.an0) t := rfl
theorem Wj.rounds (hW : Wj key Jn need 4 nc B t) {n m : Nat} : Wj key Jn need 4 nc B (rnd t n m) := by
  have hp : ∀ q ∈ PM.prs, q.1 < 4 := by decide
  have h1 : ∀ (n : Nat) (t : Mac), Wj key Jn need 4 nc B t → Wj key Jn need 4 nc B ((List.replicate n PM.prs).foldl (PM.works PM.stp PM.an0) t) := by
    intro n
    induction n with
    | zero => intro t h; exact h
    | succ n ih => intro t h; rw [List.replicate_succ, List.foldl_cons]; exact ih _ (h.works hp)
  exact (h1 n t hW).works (fun q hq => hp q (List.mem_of_mem_take hq))
theorem Sat.workN (hk : KeyI key h bk) (hns : ns = 4 ∨ ns = 1) (hDo : DoAll key h bk nw ns nc) (hS : Sat key h bk nw ns nc p s w N t w') (hJ : Jn → TbS key h bk nw ns nc p s w) (hW : Wj key Jn true nw nc B t) (hB : B ≤ 160) (hN : N ≤ 1000000) (hw : wi < nw) (hc : c < nc) :
    Calls prog 30 #[.pointer (some ⟨p.b, 0, none⟩), .int .i64 wi, .int .i64 c] w' fun e w'' => (∃ b, e = .returned (.bool b)) ∧ Sat key h bk nw ns nc p s w N (PM.work PM.stp PM.an0 t wi c).2 w'' :=
  (hS.work hk hns hDo hJ hW (by omega) (hW.q20 hB) hN hw hc (fun k _ _ hn => by have := hW.data.1.2.1 rfl; rw [hn] at this; cases this)).mono (fun e w'' hh => ⟨⟨_, hh.1⟩, hh.2⟩)
theorem Sat.made (hm : Made (svR key h bk nw ns nc p s) w0 w) (hS : Sat key h bk nw ns nc p s w N t w') : Below w0.heap.size w0 w' := by
  obtain ⟨p', h1, h2, h3, h4⟩ := hS
  exact (hm.turn h4).bel
theorem Wj.fd (hW : Wj key Jn need nw nc B t) (hc : c < nc) (hx : gC key Jn x) : Wj key Jn need nw nc (B + 4) (PM.fd t c x) := by
  refine ⟨hW.who, fun d hd => ?_, fun d y hy => ?_, fun d => ?_, fun d => ?_, hW.outa, ?_, fun d => ?_, ?_⟩
  · show upd t.q c (t.q c ++ [x]) d = []
    rw [upd_ne _ _ (by omega)]; exact hW.qs d hd
  · replace hy : y ∈ upd t.q c (t.q c ++ [x]) d := hy
    by_cases e : d = c
    · subst e
      rw [upd_same] at hy
      rcases List.mem_append.1 hy with h1 | h1
      · exact hW.qc _ y h1
      · rw [List.mem_singleton.1 h1]; exact hx
    · rw [upd_ne _ _ e] at hy; exact hW.qc _ y hy
  · show 4 * (upd t.q c (t.q c ++ [x]) d).length ≤ B + 4
    by_cases e : d = c
    · subst e
      rw [upd_same, List.length_append, List.length_singleton]
      have := hW.qn d; omega
    · rw [upd_ne _ _ e]; have := hW.qn d; omega
  · rw [PM.left_fd hc]; have := hW.outs d; show (t.out d).length + _ ≤ _; omega
  · rw [PM.left_fd hc]; have := hW.ev; show t.ev.length + _ ≤ _; omega
  · rw [PM.left_fd hc]; have := hW.seq d; show t.seq d + _ ≤ _; omega
  · rw [PM.left_fd hc]
    have := hW.data
    exact ⟨⟨by have := this.1.1; show t.data.tok + _ ≤ _; omega, this.1.2.1, this.1.2.2⟩, this.2⟩
theorem Wj.ini : Wj key False false nw nc 0 PM.ini := by
  have hl : PM.left nw nc PM.ini = 0 := by
    have h1 : ∀ n, PM.sumTo (fun (_ : Nat) => 0) n = 0 := fun n => by
      induction n with
      | zero => rfl
      | succ n ih => unfold PM.sumTo; rw [ih]
    show PM.sumTo (fun (_ : Nat) => 0) nc + PM.sumTo (fun (_ : Nat) => 0) nw = 0
    rw [h1, h1]
  refine ⟨fun w k hk => absurd hk (by show (none : Option (PM.Wk Cd An)) ≠ some k; simp), fun c _ => rfl, fun c x hx => absurd hx (by show ¬ x ∈ ([] : List Cd); simp), fun c => Nat.le_refl _, fun c => ?_, fun c x hx => absurd hx (by show ¬ x ∈ ([] : List (Cd × An)); simp), ?_, fun c => ?_, ?_⟩
  · rw [hl]; exact Nat.le_refl _
  · rw [hl]; exact Nat.le_refl _
  · rw [hl]; exact Nat.le_refl _
  · rw [hl]; exact ⟨⟨Nat.le_refl _, fun h => (by cases h), fun x hx => by cases hx⟩, fun j => j.elim⟩
end
section
variable {s t : Mac} {n : Nat}
def wrn (s : Mac) (n : Nat) : Mac := { s with out := fun d => if d < n then [] else s.out d }
theorem wrn_0 : wrn s 0 = s := by
  unfold wrn
  simp only [Nat.not_lt_zero, if_false]
theorem wrn_succ : PM.wr (wrn s n) n = wrn s (n + 1) := by
  unfold wrn PM.wr
  dsimp only
  congr 1
  funext d
  by_cases e : d = n
  · subst e; rw [upd_same, if_pos (by omega)]
  · rw [upd_ne _ _ e]
    by_cases h : d < n
    · rw [if_pos h, if_pos (by omega)]
    · rw [if_neg h, if_neg (by omega)]
theorem wrn_out {d : Nat} (h : n ≤ d) : (wrn s n).out d = s.out d := if_neg (by omega)
theorem wrn_idle (h : PM.Idle s) : PM.Idle (wrn s n) := ⟨h.busy, h.wk, h.hold⟩
def stored : ByteArray := ⟨#[83, 84, 79, 82, 69, 68, 13, 10]⟩
theorem gC_get : gC ⟨#[107]⟩ False .get := ⟨trivial, nx_get_k, fun d h => (by cases h), fun j => j.elim⟩
end
def qs2 : Mac := PM.fd (PM.fd PM.ini 0 (.set 3 PM.vV)) 0 .get
def st8 (i : Nat) : Mac := PM.works PM.stp PM.an0 qs2 (List.replicate i (0, 0))
theorem st8_succ (i : Nat) : (PM.work PM.stp PM.an0 (st8 i) 0 0).2 = st8 (i + 1) := by
  unfold st8
  rw [List.replicate_succ', works_snoc]
theorem st8_yes : ∀ i, i < 8 → (PM.work PM.stp PM.an0 (st8 i) 0 0).1 = true := by decide +kernel
def okd (s : Mac) : Bool := match s.wk 0 with
  | some k => if k.ph = 1 then (match s.data.it, k.cmd with
    | none, .set _ _ => true
    | none, _ => false
    | some _, _ => true) else true
  | none => true
theorem okd_hd {s : Mac} (h : okd s = true) (k : PM.Wk Cd An) (hk : s.wk 0 = some k) (hp : k.ph = 1) (hn : s.data.it = none) : ∃ fl v, k.cmd = .set fl v := by
  unfold okd at h
  rw [hk] at h
  dsimp only at h
  rw [if_pos hp, hn] at h
  cases hc : k.cmd with
  | set fl v => exact ⟨fl, v, rfl⟩
  | get => rw [hc] at h; cases h
  | cas t v => rw [hc] at h; cases h
  | incr d => rw [hc] at h; cases h
theorem st8_okd : ∀ i, i < 8 → okd (st8 i) = true := by decide +kernel
def ev1 : PM.Ev Cd An := ⟨0, 1, .set 3 PM.vV, ⟨2, some ⟨3, PM.vV, 1, 0⟩, 0⟩⟩
def ev2 : PM.Ev Cd An := ⟨0, 2, .get, ⟨1, some ⟨3, PM.vV, 1, 1⟩, 0⟩⟩
theorem st8_out : (st8 8).out 0 = [(.set 3 PM.vV, ⟨2, some ⟨3, PM.vV, 1, 0⟩, 0⟩), (.get, ⟨1, some ⟨3, PM.vV, 1, 1⟩, 0⟩)] := rfl
theorem st8_told : rpS ⟨#[107]⟩ ((st8 8).out 0) = ⟨#[83, 84, 79, 82, 69, 68, 13, 10, 86, 65, 76, 85, 69, 32, 107, 32, 51, 32, 49, 13, 10, 118, 13, 10, 69, 78, 68, 13, 10]⟩ := by
  rw [st8_out]; decide +kernel
theorem two_text : txC ⟨#[107]⟩ (.set 3 PM.vV) ++ txC ⟨#[107]⟩ .get = ⟨#[115, 101, 116, 32, 107, 32, 51, 32, 48, 32, 49, 13, 10, 118, 13, 10, 103, 101, 116, 32, 107, 13, 10]⟩ := by decide +kernel
theorem gC_set3 : gC ⟨#[107]⟩ False (.set 3 PM.vV) := ⟨⟨by decide, PM.vV_ok⟩, nx_set_3, fun d h => (by cases h), fun j => j.elim⟩
theorem wj_qs2 {nw nc : Nat} (hc : 0 < nc) : Wj ⟨#[107]⟩ False false nw nc 8 qs2 := (Wj.ini.fd hc gC_set3).fd hc gC_get
theorem wj_st8 {nw nc : Nat} (hw : 0 < nw) (hc : 0 < nc) (i : Nat) : Wj ⟨#[107]⟩ False false nw nc 8 (st8 i) := (wj_qs2 hc).works (fun q hq => by rw [List.eq_of_mem_replicate hq]; exact hw)
section
variable {key : ByteArray} {h : Int} {bk nw ns nc : Nat} {p : Pl} {s t : Mac} {w w' : World} {c wi N : Nat} {x y : Cd}
theorem fd2_eq : PM.fd (PM.fd s c x) c y = { s with q := upd s.q c (s.q c ++ [x, y]) } := by
  unfold PM.fd
  dsimp only
  rw [PM.upd_upd, upd_same, List.append_assoc]
  rfl
theorem sfeed2_ok {b : ByteArray} (hR : (svR key h bk nw ns nc p s).R w) (hc : c < nc) (hx : txC key x ++ txC key y = b) (hs : (txS key (s.q c)).size + b.size ≤ 70000) :
    Calls prog 12 #[.pointer (some ⟨p.b, 0, none⟩), .int .i64 c, .string b] w fun e w' => e = .returned (.int .i64 b.size) ∧ Turn (svR key h bk nw ns nc p s) (svR key h bk nw ns nc p (PM.fd (PM.fd s c x) c y)) w w' := by
  have H := Hav.open hR
  have HC := hid (client_ok hR hc)
  have g7 : (fam nc (clR key p s)).R w := H.get 7 rfl
  have k0 : w.cell? ⟨p.cb c, 0, none⟩ = some (.pointer (some ⟨p.nb c, 0, none⟩)) := cA (fam_get g7 hc).1 0
  have HF := hid (feed_ok (fam_get g7 hc).2.1 hs)
  have HT := hid (fun w' t => sv_conn (s' := PM.fd (PM.fd s c x) c y) (w' := w') hR hc (fun d e => ⟨by rw [fd2_eq]; exact upd_ne _ _ e, rfl⟩) ⟨rfl, rfl, rfl, rfl, rfl, rfl⟩ t)
  have e1 : txS key ((PM.fd (PM.fd s c x) c y).q c) = txS key (s.q c) ++ b := by
    rw [fd2_eq]
    show txS key (upd s.q c _ c) = _
    rw [upd_same, txS_append, ← hx]
    simp only [txS, ba_nil]
  rw [e1] at HT
  clear H hR g7 e1
  go_enter func12, ntmps12
  go_wp2_with (first
    | (go_at_call 40; refine HC.out.mono ?_; rintro e w1 ⟨rfl, rfl⟩)
    | (go_at_call 41; refine HF.out.mono ?_; rintro e w1 ⟨rfl, ht⟩))
  go_ret
  exact ⟨rfl, HT.out _ ht⟩
theorem Sat.feed2 {b : ByteArray} (hS : Sat key h bk nw ns nc p s w N t w') (hc : c < nc) (hx : txC key x ++ txC key y = b) (hs : (txS key (t.q c)).size + b.size ≤ 70000) :
    Calls prog 12 #[.pointer (some ⟨p.b, 0, none⟩), .int .i64 c, .string b] w' fun e w'' => e = .returned (.int .i64 b.size) ∧ Sat key h bk nw ns nc p s w (N + 8) (PM.fd (PM.fd t c x) c y) w'' := by
  obtain ⟨p', h1, h2, h3, h4⟩ := hS
  have hP := sfeed2_ok h4.here hc hx hs
  rw [h1] at hP
  exact hP.mono (fun e w'' hh => ⟨hh.1, p', h1, h2, by rw [PM.left_fd hc, PM.left_fd hc]; omega, h4.trans hh.2⟩)
end
section
variable {key : ByteArray} {h : Int} {bk nw ns nc : Nat} {p : Pl} {s t : Mac} {w0 w w' : World} {c wi N B : Nat} {need : Bool} {x : Cd} {l : List (Nat × Nat)} {Jn : Prop}
theorem all_ok (hk : KeyI key h bk) (hns : ns = 4 ∨ ns = 1) (hDo : DoAll key h bk nw ns nc) (hS : Sat key h bk nw ns nc p s w N t w') (hJ : Jn → TbS key h bk nw ns nc p s w) (hW : Wj key Jn need nw nc B t) (hB : B ≤ 160) (hN : N ≤ 1000000) (hnw : 0 < nw) (hc : c < nc) (hI : PM.Idle t) (hq : t.q c = [x]) (ho : t.out c = [])
    (hd : t.data.it = none → ∃ fl v, x = .set fl v) {r : ByteArray} (hr : rpC key (x, (PM.stp t.data x).2) = r) (hz : r.size ≤ 60000) :
    Calls prog 13 #[.pointer (some ⟨p.b, 0, none⟩), .int .i64 c] w' fun e w'' => e = .returned (.string r) ∧ Sat key h bk nw ns nc p s w N (PM.allE PM.stp t c x) w'' := by
  have HW : Hid (∀ k, k < 4 → ∀ w1, Sat key h bk nw ns nc p s w N (PM.allS PM.stp PM.an0 t c k) w1 → Calls prog 30 #[.pointer (some ⟨p.b, 0, none⟩), .int .i64 0, .int .i64 c] w1 fun e w'' => e = .returned (.bool true) ∧ Sat key h bk nw ns nc p s w N (PM.work PM.stp PM.an0 (PM.allS PM.stp PM.an0 t c k) 0 c).2 w'') :=
    hid (fun k hk4 w1 hs => by
      have h1 := Sat.allW hk hns hDo hJ hW hB hN hnw hc hI hq ho hd (Nat.le_of_lt hk4) w1 hs
      rw [decide_eq_true hk4] at h1
      exact h1)
  have HW4 : Hid (∀ w1, Sat key h bk nw ns nc p s w N (PM.allS PM.stp PM.an0 t c 4) w1 → Calls prog 30 #[.pointer (some ⟨p.b, 0, none⟩), .int .i64 0, .int .i64 c] w1 fun e w'' => e = .returned (.bool false) ∧ Sat key h bk nw ns nc p s w N (PM.work PM.stp PM.an0 (PM.allS PM.stp PM.an0 t c 4) 0 c).2 w'') :=
    hid (fun w1 hs => Sat.allW hk hns hDo hJ hW hB hN hnw hc hI hq ho hd (Nat.le_refl 4) w1 hs)
  have HX : Hid (∀ k, k < 3 → ∀ w1, Sat key h bk nw ns nc p s w N (PM.work PM.stp PM.an0 (PM.allS PM.stp PM.an0 t c k) 0 c).2 w1 → Calls prog 29 #[.pointer (some ⟨p.b, 0, none⟩), .int .i64 c, .int .i64 1073741824] w1 fun e w'' => e = .returned (.string ⟨#[]⟩) ∧ Sat key h bk nw ns nc p s w N (PM.allS PM.stp PM.an0 t c (k + 1)) w'') :=
    hid (fun k hk3 w1 hs => by
      have h1 := Sat.allX hI hc hq ho hr hz (by omega : k < 4) w1 hs
      rw [if_neg (by omega)] at h1
      exact h1)
  have HX3 : Hid (∀ k, k = 3 → ∀ w1, Sat key h bk nw ns nc p s w N (PM.work PM.stp PM.an0 (PM.allS PM.stp PM.an0 t c k) 0 c).2 w1 → Calls prog 29 #[.pointer (some ⟨p.b, 0, none⟩), .int .i64 c, .int .i64 1073741824] w1 fun e w'' => e = .returned (.string r) ∧ Sat key h bk nw ns nc p s w N (PM.allS PM.stp PM.an0 t c 4) w'') :=
    hid (fun k hk w1 hs => by
      subst hk
      have h1 := Sat.allX hI hc hq ho hr hz (by omega : 3 < 4) w1 hs
      rw [if_pos rfl] at h1
      exact h1)
  have HY : Hid (∀ w1, Sat key h bk nw ns nc p s w N (PM.work PM.stp PM.an0 (PM.allS PM.stp PM.an0 t c 4) 0 c).2 w1 → Calls prog 29 #[.pointer (some ⟨p.b, 0, none⟩), .int .i64 c, .int .i64 1073741824] w1 fun e w'' => e = .returned (.string ⟨#[]⟩) ∧ Sat key h bk nw ns nc p s w N (PM.allE PM.stp t c x) w'') :=
    hid (fun w1 hs => Sat.allY hI hc hq ho w1 hs)
  have HS : Hid (Sat key h bk nw ns nc p s w N (PM.allS PM.stp PM.an0 t c 0) w') := hid hS
  have e1 : (⟨#[]⟩ : ByteArray) ++ r = r := nil_ba r
  have e2 : r ++ (⟨#[]⟩ : ByteArray) = r := ba_nil r
  have e3 : (⟨#[]⟩ : ByteArray) ++ (⟨#[]⟩ : ByteArray) = ⟨#[]⟩ := nil_ba _
  clear hS hJ hW hB hN hnw hI hq ho hd hr hDo hk hns hc
  go_enter func13, ntmps13
  go_wp2_with (fail)
  go_loopw [5, 6] (fun out i wr => (∃ k : Nat, k < 4 ∧ i = .int .i64 k ∧ out = .string ⟨#[]⟩ ∧ Hid (Sat key h bk nw ns nc p s w N (PM.allS PM.stp PM.an0 t c k) wr)) ∨ (i = .int .i64 4 ∧ out = .string r ∧ Hid (Sat key h bk nw ns nc p s w N (PM.allS PM.stp PM.an0 t c 4) wr))) (fun _ i _ => 4 - (intOf i).toNat)
  case atStart => exact .inl ⟨0, by omega, rfl, rfl, HS⟩
  case round =>
    rcases hrel with ⟨k, hk4, rfl, rfl, hs⟩ | ⟨rfl, rfl, hs⟩
    · have HWk := hid (HW.out k hk4 wr hs.out)
      have h5 : (k : Int) < 5000 := by omega
      have h6 : (k : Int) < 4 := by omega
      by_cases hk3 : k < 3
      · go_wp2_with (first
          | (go_at_call 30; refine HWk.out.mono ?_; rintro e w1 ⟨rfl, hs1⟩; have HXk := hid (HX.out k hk3 w1 hs1))
          | (go_at_call 29; refine HXk.out.mono ?_; rintro e w2 ⟨rfl, hs2⟩))
        go_roundw
        case rel => exact .inl ⟨k + 1, by omega, by first | rfl | simp, by first | rfl | simp [e3], hid hs2⟩
        case measure => simp [intOf]; omega
      · have hk33 : k = 3 := by omega
        go_wp2_with (first
          | (go_at_call 30; refine HWk.out.mono ?_; rintro e w1 ⟨rfl, hs1⟩; have HXk := hid (HX3.out k hk33 w1 hs1))
          | (go_at_call 29; refine HXk.out.mono ?_; rintro e w2 ⟨rfl, hs2⟩))
        go_roundw
        case rel => exact .inr ⟨by first | rfl | (rw [hk33]; first | rfl | simp) | simp, by first | rfl | simp [e1] | trivial, hid hs2⟩
        case measure => simp [intOf]; omega
    · have HWk := hid (HW4.out wr hs.out)
      go_wp2_with (first
        | (go_at_call 30; refine HWk.out.mono ?_; rintro e w1 ⟨rfl, hs1⟩; have HXk := hid (HY.out w1 hs1))
        | (go_at_call 29; refine HXk.out.mono ?_; rintro e w2 ⟨rfl, hs2⟩))
      go_ret
      exact ⟨by first | rfl | simp [e2], hs2⟩
theorem and3 (n : Int) : ∃ k : Nat, k < 4 ∧ bits .and .i64 n 3 = (k : Int) := by
  have h3 : (BitVec.ofInt 64 3).toNat = 2 ^ 2 - 1 := by decide
  have key : (BitVec.ofInt 64 n &&& BitVec.ofInt 64 3).toNat = (n % ((2 ^ 64 : Nat) : Int)).toNat % 2 ^ 2 := by
    rw [BitVec.toNat_and, BitVec.toNat_ofInt, h3, Nat.and_two_pow_sub_one_eq_mod]
  refine ⟨(n % ((2 ^ 64 : Nat) : Int)).toNat % 2 ^ 2, Nat.mod_lt _ (by decide), ?_⟩
  show IntKind.i64.wrap (((BitVec.ofInt 64 n &&& BitVec.ofInt 64 3).toNat : Nat) : Int) = _
  rw [key, IntKind.wrap_i64]
  omega
set_option maxHeartbeats 1000000 in
theorem picked_ok (hk : KeyI key h bk) (hns : ns = 4 ∨ ns = 1) (hDo : DoAll key h bk 4 ns 4) (hm : Made (svR key h bk 4 ns 4 p s) w0 w) (hS : Sat key h bk 4 ns 4 p s w N t w') (hJ : Jn → TbS key h bk 4 ns 4 p s w) (hW : Wj key Jn true 4 4 B t) (hB : B ≤ 160) (hN : N ≤ 1000000) {R : Nat} (hR : R ≤ 1000) {a : Option Addr} {n cap : Nat} {l : List Int} (hp : RI w0 (.slice a n cap) l) (hl : l.length = n) :
    Calls prog 28 #[.pointer (some ⟨p.b, 0, none⟩), .slice a n cap, .int .i64 R] w' fun e w'' => e = .returned (.tuple #[]) ∧ ∃ ps : List (Nat × Nat), (∀ q ∈ ps, q.1 < 4) ∧ Sat key h bk 4 ns 4 p s w N (rnd (PM.works PM.stp PM.an0 t ps) R 0) w'' := by
  have HWa : Hid (∀ (ps : List (Nat × Nat)), (∀ q ∈ ps, q.1 < 4) → ∀ (u v : Int), (∃ i : Nat, i < 4 ∧ u = (i : Int)) → (∃ j : Nat, j < 4 ∧ v = (j : Int)) → ∀ w1, Sat key h bk 4 ns 4 p s w N (PM.works PM.stp PM.an0 t ps) w1 → Calls prog 30 #[.pointer (some ⟨p.b, 0, none⟩), .int .i64 u, .int .i64 v] w1 fun e w'' => (∃ b, e = .returned (.bool b)) ∧ ∃ ps' : List (Nat × Nat), (∀ q ∈ ps', q.1 < 4) ∧ Sat key h bk 4 ns 4 p s w N (PM.works PM.stp PM.an0 t ps') w'') :=
    hid (fun ps hps u v hu hv w1 hs => by
      obtain ⟨i, hi, rfl⟩ := hu
      obtain ⟨j, hj, rfl⟩ := hv
      have h1 := Sat.workN hk hns hDo hs hJ (hW.works hps) hB hN hi hj
      rw [← works_snoc t ps (i, j)] at h1
      exact h1.mono (fun e w'' hh => ⟨hh.1, _, fun q hq => (by
        rcases List.mem_append.1 hq with h2 | h2
        · exact hps q h2
        · rw [List.mem_singleton.1 h2]; exact hi), hh.2⟩))
  have HWb : Hid (∀ (ps : List (Nat × Nat)), (∀ q ∈ ps, q.1 < 4) → ∀ (m i j : Nat), i < 4 → j < 4 → ∀ w1, Sat key h bk 4 ns 4 p s w N (rnd (PM.works PM.stp PM.an0 t ps) m (4 * i + j)) w1 → Calls prog 30 #[.pointer (some ⟨p.b, 0, none⟩), .int .i64 i, .int .i64 j] w1 fun e w'' => (∃ b, e = .returned (.bool b)) ∧ Sat key h bk 4 ns 4 p s w N (rnd (PM.works PM.stp PM.an0 t ps) m (4 * i + j + 1)) w'') :=
    hid (fun ps hps m i j hi hj w1 hs => by
      have h1 := Sat.workN hk hns hDo hs hJ (Wj.rounds (hW.works hps)) hB hN hi hj
      rw [rnd_succ hi hj] at h1; exact h1)
  have HC : Hid (∀ k, k < n → ∃ b o x, a = some ⟨b, o, none⟩ ∧ ∀ w1 t', Sat key h bk 4 ns 4 p s w N t' w1 → ∀ w2, Below w1.heap.size w1 w2 → w2.cell? ⟨b, o + k, none⟩ = some (.int .i64 x)) := hid (fun k hkn => by
    obtain ⟨a', cap', e, hc⟩ := hp
    obtain ⟨b, o, e1, e2⟩ := hc (by intro e; rw [e] at hl; simp at hl; omega)
    simp only [Value.slice.injEq] at e
    have hb0 := e2 k (by omega)
    refine ⟨b, o, l[k]?.getD 0, e.1.trans e1, fun w1 t' hs w2 hb => ?_⟩
    have hb1 := (Sat.made hm hs).cell (p := ⟨b, o + k, none⟩) (cell_lt hb0)
    exact (hb.cell (p := ⟨b, o + k, none⟩) (cell_lt (hb1.trans hb0))).trans (hb1.trans hb0))
  have HS : Hid (Sat key h bk 4 ns 4 p s w N (PM.works PM.stp PM.an0 t []) w') := hid hS
  have hR1 : (R : Int) ≤ 1000 := by omega
  clear hS hJ hW hB hN hDo hk hns hp hl hm
  go_enter func28, ntmps28
  go_wp2_with (fail)
  go_loopw [6] (fun i wr => ∃ k : Nat, k ≤ 200 ∧ i = .int .i64 k ∧ Hid (∃ ps : List (Nat × Nat), (∀ q ∈ ps, q.1 < 4) ∧ Sat key h bk 4 ns 4 p s w N (PM.works PM.stp PM.an0 t ps) wr)) (fun i _ => 200 - (intOf i).toNat)
  case atStart => exact ⟨0, by omega, rfl, hid ⟨[], fun q hq => absurd hq (by simp), HS.out⟩⟩
  case round =>
    obtain ⟨k, hk200, rfl, hps⟩ := hrel
    obtain ⟨ps, hps, hs⟩ := hps.out
    by_cases hkn : k < n ∧ k < 200
    · obtain ⟨b, o, x, rfl, hcx⟩ := HC.out k hkn.1
      have h1 : (k : Int) < n := by omega
      have h2 : (k : Int) < 200 := by omega
      have h3 : (0 : Int) ≤ k := by omega
      have hx0 := hcx wr _ hs wr.drew (below_drewN' wr 1)
      have HX : Hid (∀ w1 ps', Sat key h bk 4 ns 4 p s w N (PM.works PM.stp PM.an0 t ps') w1 → w1.cell? ⟨b, o + k, none⟩ = some (.int .i64 x)) := hid (fun w1 ps' hs => hcx w1 _ hs w1 (Below.refl _ _))
      have HWk := hid (fun u v hu hv => HWa.out ps hps u v hu hv wr.drew (hs.below (below_drewN' wr 1)))
      clear hcx hs
      go_wp2_with (fail)
      go_upto_region 3 with fail
      go_region_held3 (fun w' => w'.cell? ⟨b, o + k, none⟩ = some (.int .i64 x)) (first | exact hx0 | exact hx1) (first
        | (go_at_call 30; refine (HWk.out _ _ (and3 _) (and3 _)).mono ?_; rintro e w1 ⟨⟨bb, rfl⟩, hh⟩; have HH := hid hh; have hx1 : w1.cell? ⟨b, o + k, none⟩ = some (.int .i64 x) := HX.out w1 _ hh.choose_spec.2; clear hh))
      all_goals (go_wp2_with fail)
      go_roundw
      case rel => exact ⟨k + 1, by omega, by first | rfl | simp, HH⟩
      case measure => simp [intOf]; omega
    · have HS2 : Hid (Sat key h bk 4 ns 4 p s w N (rnd (PM.works PM.stp PM.an0 t ps) 0 0) wr) := hid hs
      have HWc := hid (fun m i j hi hj w1 hs => HWb.out ps hps m i j hi hj w1 hs)
      have HPS := hid hps
      clear HWa HWb HC HS hs hps
      have hk2 : ¬ ((k : Int) < n ∧ (k : Int) < 200) := by omega
      have hgo : ¬ ((k : Int) < n) ∨ ((k : Int) < n ∧ ¬ ((k : Int) < 200)) := by omega
      rcases hgo with h1 | ⟨h1, h2⟩
      · go_wp2_with (fail)
        go_loopw [7] (fun i wr => ∃ m : Nat, m ≤ R ∧ i = .int .i64 m ∧ Hid (Sat key h bk 4 ns 4 p s w N (rnd (PM.works PM.stp PM.an0 t ps) m 0) wr)) (fun i _ => R - (intOf i).toNat)
        case atStart => exact ⟨0, by omega, rfl, HS2⟩
        case round =>
          obtain ⟨m, hm, rfl, hs⟩ := hrel
          by_cases hm2 : m < R
          · have hm3 : (m : Int) < R := by omega
            go_wp2_with (fail)
            go_loopw [8] (fun i wr => ∃ u : Nat, u ≤ 4 ∧ i = .int .i64 u ∧ Hid (Sat key h bk 4 ns 4 p s w N (rnd (PM.works PM.stp PM.an0 t ps) m (4 * u)) wr)) (fun i _ => 4 - (intOf i).toNat)
            case atStart => exact ⟨0, by omega, rfl, hs⟩
            case round =>
              obtain ⟨u, hu, rfl, hs⟩ := hrel
              by_cases hu2 : u < 4
              · have hu3 : (u : Int) < 4 := by omega
                go_wp2_with (fail)
                go_loopw [9] (fun i wr => ∃ v : Nat, v ≤ 4 ∧ i = .int .i64 v ∧ Hid (Sat key h bk 4 ns 4 p s w N (rnd (PM.works PM.stp PM.an0 t ps) m (4 * u + v)) wr)) (fun i _ => 4 - (intOf i).toNat)
                case atStart => exact ⟨0, by omega, rfl, hs⟩
                case round =>
                  obtain ⟨v, hv, rfl, hs⟩ := hrel
                  by_cases hv2 : v < 4
                  · have hv3 : (v : Int) < 4 := by omega
                    have HWd := hid (HWc.out m u v hu2 hv2 wr hs.out)
                    go_wp2_with (go_at_call 30; refine HWd.out.mono ?_; rintro e w1 ⟨⟨bb, rfl⟩, hh⟩; have HH := hid hh; clear hh)
                    go_roundw
                    case rel => exact ⟨v + 1, by omega, by first | rfl | simp, HH⟩
                    case measure => simp [intOf]; omega
                  · obtain rfl : v = 4 := by omega
                    go_wp2_with (fail)
                    go_roundw
                    case rel => exact ⟨u + 1, by omega, by first | rfl | simp, hs⟩
                    case measure => simp [intOf]; omega
              · obtain rfl : u = 4 := by omega
                have hs2 : Hid (Sat key h bk 4 ns 4 p s w N (rnd (PM.works PM.stp PM.an0 t ps) (m + 1) 0) wr) := hid (by rw [← rnd_next]; exact hs.out)
                go_wp2_with (fail)
                go_roundw
                case rel => exact ⟨m + 1, by omega, by first | rfl | simp, hs2⟩
                case measure => simp [intOf]; omega
          · obtain rfl : m = R := by omega
            go_wp2_with (fail)
            go_end0
            exact ⟨rfl, ps, HPS.out, hs.out⟩
      · go_wp2_with (fail)
        go_loopw [7] (fun i wr => ∃ m : Nat, m ≤ R ∧ i = .int .i64 m ∧ Hid (Sat key h bk 4 ns 4 p s w N (rnd (PM.works PM.stp PM.an0 t ps) m 0) wr)) (fun i _ => R - (intOf i).toNat)
        case atStart => exact ⟨0, by omega, rfl, HS2⟩
        case round =>
          obtain ⟨m, hm, rfl, hs⟩ := hrel
          by_cases hm2 : m < R
          · have hm3 : (m : Int) < R := by omega
            go_wp2_with (fail)
            go_loopw [8] (fun i wr => ∃ u : Nat, u ≤ 4 ∧ i = .int .i64 u ∧ Hid (Sat key h bk 4 ns 4 p s w N (rnd (PM.works PM.stp PM.an0 t ps) m (4 * u)) wr)) (fun i _ => 4 - (intOf i).toNat)
            case atStart => exact ⟨0, by omega, rfl, hs⟩
            case round =>
              obtain ⟨u, hu, rfl, hs⟩ := hrel
              by_cases hu2 : u < 4
              · have hu3 : (u : Int) < 4 := by omega
                go_wp2_with (fail)
                go_loopw [9] (fun i wr => ∃ v : Nat, v ≤ 4 ∧ i = .int .i64 v ∧ Hid (Sat key h bk 4 ns 4 p s w N (rnd (PM.works PM.stp PM.an0 t ps) m (4 * u + v)) wr)) (fun i _ => 4 - (intOf i).toNat)
                case atStart => exact ⟨0, by omega, rfl, hs⟩
                case round =>
                  obtain ⟨v, hv, rfl, hs⟩ := hrel
                  by_cases hv2 : v < 4
                  · have hv3 : (v : Int) < 4 := by omega
                    have HWd := hid (HWc.out m u v hu2 hv2 wr hs.out)
                    go_wp2_with (go_at_call 30; refine HWd.out.mono ?_; rintro e w1 ⟨⟨bb, rfl⟩, hh⟩; have HH := hid hh; clear hh)
                    go_roundw
                    case rel => exact ⟨v + 1, by omega, by first | rfl | simp, HH⟩
                    case measure => simp [intOf]; omega
                  · obtain rfl : v = 4 := by omega
                    go_wp2_with (fail)
                    go_roundw
                    case rel => exact ⟨u + 1, by omega, by first | rfl | simp, hs⟩
                    case measure => simp [intOf]; omega
              · obtain rfl : u = 4 := by omega
                have hs2 : Hid (Sat key h bk 4 ns 4 p s w N (rnd (PM.works PM.stp PM.an0 t ps) (m + 1) 0) wr) := hid (by rw [← rnd_next]; exact hs.out)
                go_wp2_with (fail)
                go_roundw
                case rel => exact ⟨m + 1, by omega, by first | rfl | simp, hs2⟩
                case measure => simp [intOf]; omega
          · obtain rfl : m = R := by omega
            go_wp2_with (fail)
            go_end0
            exact ⟨rfl, ps, HPS.out, hs.out⟩
end
section
variable {key : ByteArray} {h : Int} {bk : Nat}
def NewOk (key : ByteArray) (h : Int) (bk : Nat) (kv : Int) (nw ns : Nat) (every : Int) : Prop := ∀ w, Calls prog 9 #[.agg #[.int .i64 1, .int .i64 512, .int .i64 200, .int .i64 kv], .int .i64 nw, .int .i64 ns, .int .i64 every] w fun e w' =>
  ∃ p : Pl, e = .returned (.tuple #[.pointer (some ⟨p.b, 0, none⟩), .int .i64 0]) ∧ SOkE p.m ∧ p.m.ps.num = 0 ∧ Made (many (opL key h bk nw ns 0 p (.slice none 0 0))) w w'
def OpSt (key : ByteArray) (h : Int) (bk nw ns n b : Nat) (w w' : World) : Prop := ∃ (p : Pl) (cv : Value), p.b = b ∧ SOkE p.m ∧ p.m.ps.num = 0 ∧ (0 < n → cv = .slice (some ⟨p.clb, 0, none⟩) n p.clc) ∧ Made (many (opL key h bk nw ns n p cv)) w w'
theorem OpSt.open' {nw ns n b : Nat} {w w' : World} (hS : OpSt key h bk nw ns n b w w') (hn : n < 8) : Calls prog 10 #[.pointer (some ⟨b, 0, none⟩)] w' fun e w'' => e = .returned (.int .i64 n) ∧ OpSt key h bk nw ns (n + 1) b w w'' := by
  obtain ⟨p, cv, h1, h2, h3, h4, h5⟩ := hS
  have h6 := open_ok h5.here hn
  rw [h1] at h6
  refine h6.mono (fun e w'' hh => ?_)
  obtain ⟨g1, p', g2, g3, g4⟩ := hh
  exact ⟨g1, p', _, g2, by rw [g3]; exact h2, by rw [g3]; exact h3, fun _ => rfl, h5.turn g4⟩
theorem OpSt.sv {nw ns n b : Nat} {w w' : World} (hS : OpSt key h bk nw ns n b w w') (hn : 0 < n) : ∃ p : Pl, p.b = b ∧ StoOk key p.m PM.sd0 ∧ p.m.ps.num = 0 ∧ Made (svR key h bk nw ns n p PM.ini) w w' := by
  obtain ⟨p, cv, h1, h2, h3, h4, h5⟩ := hS
  have h6 := h4 hn
  subst h6
  exact ⟨p, h1, h2, h3, h5⟩
theorem town_ok {kv : Int} (hkv : kv = 0 ∨ kv = 1) (hNew : NewOk key h bk kv 4 4 5) (w : World) : Calls prog 26 #[.int .i64 4, .int .i64 4, .int .i64 1, .int .i64 kv] w fun e w' => ∃ p : Pl, e = .returned (.pointer (some ⟨p.b, 0, none⟩)) ∧ StoOk key p.m PM.sd0 ∧ p.m.ps.num = 0 ∧ Made (svR key h bk 4 4 4 p PM.ini) w w' := by
  have HN := hid hNew
  have HO : Hid (∀ (b n : Nat) (w' : World), n < 4 → OpSt key h bk 4 4 n b w w' → Calls prog 10 #[.pointer (some ⟨b, 0, none⟩)] w' fun e w'' => e = .returned (.int .i64 n) ∧ OpSt key h bk 4 4 (n + 1) b w w'') := hid (fun b n w' hn hS => hS.open' (by omega))
  have f : bits .and .i64 kv 3 = kv := by rcases hkv with rfl | rfl <;> decide
  clear hNew hkv
  go_enter func26, ntmps26
  go_wp2_with (first
    | (go_at_call 9; refine (HN.out _).mono ?_; rintro e w1 ⟨p, rfl, h1, h2, h3⟩; have HS : Hid (OpSt key h bk 4 4 0 p.b w w1) := hid ⟨p, _, rfl, h1, h2, fun h => absurd h (by omega), h3⟩; clear h1 h2 h3))
  obtain ⟨b, hb⟩ : ∃ b, p.b = b := ⟨_, rfl⟩
  rw [hb] at HS
  simp only [hb]
  clear hb
  go_loopw [11] (fun i wr => ∃ n : Nat, n ≤ 4 ∧ i = .int .i64 n ∧ Hid (OpSt key h bk 4 4 n b w wr)) (fun i _ => 4 - (intOf i).toNat)
  case atStart => exact ⟨0, by omega, rfl, HS⟩
  case round =>
    obtain ⟨n, hn, rfl, hs⟩ := hrel
    by_cases h4 : n < 4
    · have h5 : (n : Int) < 4 := by omega
      have HOn := hid (HO.out b n wr h4 hs.out)
      go_wp2_with (go_at_call 10; refine HOn.out.mono ?_; rintro e w2 ⟨rfl, h1⟩)
      go_roundw
      case rel => exact ⟨n + 1, by omega, by first | rfl | simp, hid h1⟩
      case measure => simp [intOf]; omega
    · obtain rfl : n = 4 := by omega
      go_wp2_with (fail)
      go_ret
      obtain ⟨p, e1, e2, e3, e4⟩ := hs.out.sv (by omega)
      exact ⟨p, by rw [e1]; rfl, e2, e3, e4⟩
def EvOk (key : ByteArray) (h : Int) (bk : Nat) : Prop := ∀ (p : Pl) (s : Mac) (w : World), s.ev = [ev1, ev2] → (svR key h bk 1 1 1 p s).R w → Calls prog 25 #[.pointer (some ⟨p.b, 0, none⟩)] w fun e w' => ∃ g cap, e = .returned (.slice (some ⟨g, 0, none⟩) 2 cap) ∧ Made (rowAt (.slice (some ⟨g, 0, none⟩) 2 cap) 136 35 2 (evC key ev1 ++ evC key ev2)) w w'
def ChkOk (key : ByteArray) : Prop := ∀ (g cap : Nat) (w : World), (rowAt (.slice (some ⟨g, 0, none⟩) 2 cap) 136 35 2 (evC key ev1 ++ evC key ev2)).R w → Calls prog 31 #[.slice (some ⟨g, 0, none⟩) 2 cap, .int .i64 472] w fun e w' => e = .returned (.int .i64 (-1)) ∧ Below w.heap.size w w'
set_option maxHeartbeats 1000000 in
theorem works_ok (hk : KeyI ⟨#[107]⟩ h bk) (hDo : DoAll ⟨#[107]⟩ h bk 1 1 1) (hNew : NewOk ⟨#[107]⟩ h bk 0 1 1 9) (hEv : EvOk ⟨#[107]⟩ h bk) (hCh : ChkOk ⟨#[107]⟩) (w : World) : Calls prog 8 #[] w fun e w' => e = .returned (.bool true) ∧ Below w.heap.size w w' := by
  have HN := hid hNew
  have HO : Hid (∀ (b : Nat) (w' : World), OpSt ⟨#[107]⟩ h bk 1 1 0 b w w' → Calls prog 10 #[.pointer (some ⟨b, 0, none⟩)] w' fun e w'' => e = .returned (.int .i64 0) ∧ OpSt ⟨#[107]⟩ h bk 1 1 1 b w w'') := hid (fun b w' hS => hS.open' (by omega))
  have HF : Hid (∀ (p : Pl) (w2 w3 : World), Sat ⟨#[107]⟩ h bk 1 1 1 p PM.ini w2 0 PM.ini w3 → Calls prog 12 #[.pointer (some ⟨p.b, 0, none⟩), .int .i64 0, .string ⟨#[115, 101, 116, 32, 107, 32, 51, 32, 48, 32, 49, 13, 10, 118, 13, 10, 103, 101, 116, 32, 107, 13, 10]⟩] w3 fun e w4 => e = .returned (.int .i64 23) ∧ Sat ⟨#[107]⟩ h bk 1 1 1 p PM.ini w2 8 (st8 0) w4) :=
    hid (fun p w2 w3 hs => Sat.feed2 (c := 0) (x := .set 3 PM.vV) (y := .get) hs (by decide) two_text (by decide))
  have HW : Hid (∀ (p : Pl) (w2 w3 : World) (i : Nat), i < 8 → Sat ⟨#[107]⟩ h bk 1 1 1 p PM.ini w2 8 (st8 i) w3 → Calls prog 30 #[.pointer (some ⟨p.b, 0, none⟩), .int .i64 0, .int .i64 0] w3 fun e w4 => e = .returned (.bool true) ∧ Sat ⟨#[107]⟩ h bk 1 1 1 p PM.ini w2 8 (st8 (i + 1)) w4) :=
    hid (fun p w2 w3 i hi hs => by
      have hW := wj_st8 (nw := 1) (nc := 1) (by decide) (by decide) i
      have h1 := Sat.work (wi := 0) (c := 0) hk (.inr rfl) hDo hs (fun j : False => j.elim) hW (by decide) (hW.q20 (by decide)) (by decide) (by decide) (by decide) (fun k hkk hp hn => okd_hd (st8_okd i hi) k hkk hp hn)
      rw [st8_yes i hi, st8_succ] at h1
      exact h1)
  have HX : Hid (∀ (p : Pl) (w2 w3 : World), Sat ⟨#[107]⟩ h bk 1 1 1 p PM.ini w2 8 (st8 8) w3 → Calls prog 29 #[.pointer (some ⟨p.b, 0, none⟩), .int .i64 0, .int .i64 999] w3 fun e w4 => e = .returned (.string ⟨#[83, 84, 79, 82, 69, 68, 13, 10, 86, 65, 76, 85, 69, 32, 107, 32, 51, 32, 49, 13, 10, 118, 13, 10, 69, 78, 68, 13, 10]⟩) ∧ Sat ⟨#[107]⟩ h bk 1 1 1 p PM.ini w2 8 (PM.wr (st8 8) 0) w4) :=
    hid (fun p w2 w3 hs => by
      have h1 := Sat.write (c := 0) (n := 999) hs (by decide) (by rw [st8_told]; decide)
      rw [st8_told] at h1
      exact h1)
  have HE : Hid (∀ (p : Pl) (w2 w3 : World), Made (svR ⟨#[107]⟩ h bk 1 1 1 p PM.ini) w w2 → Sat ⟨#[107]⟩ h bk 1 1 1 p PM.ini w2 8 (PM.wr (st8 8) 0) w3 → Calls prog 25 #[.pointer (some ⟨p.b, 0, none⟩)] w3 fun e w4 => ∃ g cap, e = .returned (.slice (some ⟨g, 0, none⟩) 2 cap) ∧ (rowAt (.slice (some ⟨g, 0, none⟩) 2 cap) 136 35 2 (evC ⟨#[107]⟩ ev1 ++ evC ⟨#[107]⟩ ev2)).R w4 ∧ Below w.heap.size w w4) :=
    hid (fun p w2 w3 hm hs => by
      obtain ⟨p', h1, h2, h3, h4⟩ := hs
      have h5 := (Sat.made hm ⟨p', h1, h2, h3, h4⟩)
      have h6 := hEv p' _ w3 rfl h4.here
      rw [h1] at h6
      exact h6.mono (fun e w4 hh => by
        obtain ⟨g, cap, g1, g2⟩ := hh
        exact ⟨g, cap, g1, g2.here, h5.trans (g2.bel.mono h5.size)⟩))
  have HC := hid hCh
  clear hk hDo hNew hEv hCh
  go_enter func8, ntmps8
  go_wp2_with (first
    | (go_at_call 9; refine (HN.out _).mono ?_; rintro e w1 ⟨p0, rfl, h1, h2, h3⟩; have HS : Hid (OpSt ⟨#[107]⟩ h bk 1 1 0 p0.b w w1) := hid ⟨p0, _, rfl, h1, h2, fun h => absurd h (by omega), h3⟩; clear h1 h2 h3)
    | (go_at_call 10; refine (HO.out _ _ HS.out).mono ?_; rintro e w2 ⟨rfl, h1⟩
       obtain ⟨p, e1, e2, e3, e4⟩ := h1.sv (by omega)
       have HM := hid e4
       have HS0 : Hid (Sat ⟨#[107]⟩ h bk 1 1 1 p PM.ini w2 0 PM.ini w2) := hid ⟨p, rfl, e2, by rw [e3]; exact Nat.le_refl _, Turn.rfl' e4.here⟩
       rw [← e1]
       clear e1 e2 e3 e4 h1 HS)
    | (go_at_call 12; refine (HF.out _ _ _ HS0.out).mono ?_; rintro e w3 ⟨rfl, hs1⟩; have HS1 := hid hs1; clear hs1))
  clear HN HO HF HS0
  go_loopw [3] (fun i wr => ∃ n : Nat, n ≤ 8 ∧ i = .int .i64 n ∧ Hid (Sat ⟨#[107]⟩ h bk 1 1 1 p PM.ini w2 8 (st8 n) wr)) (fun i _ => 8 - (intOf i).toNat)
  case atStart => exact ⟨0, by omega, rfl, HS1⟩
  case round =>
    obtain ⟨n, hn, rfl, hs⟩ := hrel
    by_cases h8 : n < 8
    · have h9 : (n : Int) < 8 := by omega
      have HWn := hid (HW.out p w2 wr n h8 hs.out)
      go_wp2_with (go_at_call 30; refine HWn.out.mono ?_; rintro e w4 ⟨rfl, h1⟩; have H1 := hid h1; clear h1)
      go_roundw
      case rel => exact ⟨n + 1, by omega, by first | rfl | simp, H1⟩
      case measure => simp [intOf]; omega
    · obtain rfl : n = 8 := by omega
      have HXn := hid (HX.out p w2 wr hs.out)
      go_wp2_with (first
        | (go_at_call 29; refine HXn.out.mono ?_; rintro e w4 ⟨rfl, h1⟩; have HEn := hid (HE.out p w2 w4 HM.out h1); clear h1)
        | (go_at_call 25; refine HEn.out.mono ?_; rintro e w5 ⟨g, cap, rfl, h1, h2⟩; have HCn := hid (HC.out g cap w5 h1); have HB := hid h2; clear h1 h2)
        | (go_at_call 31; refine HCn.out.mono ?_; rintro e w6 ⟨rfl, h1⟩))
      go_ret
      exact ⟨by first | rfl | simp, HB.out.trans (h1.mono HB.out.size)⟩
end
end Go.Proofs.YtboehbfagnocpaaGreatDoor
namespace Go.Proofs.YtboehbfagnocpaaGreatDoor
open Go.RowKit Go.PlainAid Go.Shelf
open PM (Cd An Sd Vl)
theorem hav_many {D : Nat → Prop} {w0 w : World} {L : List Res} (h : Hav D w0 L w) : (many L).R w := ⟨h.all, h.ap⟩
theorem hav_manyTurn {D : Nat → Prop} {w0 w w' : World} {L L2 : List Res} (h : Hav D w0 L w) (t : Turn (many L) (many L2) w w') : Hav D w0 L2 w' :=
  ⟨t.here.1, t.here.2, fun r hr b hb => by
    rcases t.nu b ⟨r, hr, hb⟩ with ⟨s, hs, hx⟩ | hx
    · exact h.lo s hs b hx
    · exact .inr (Nat.le_trans h.tch.size hx), h.tch.trans t.tch (fun b hb => by obtain ⟨s, hs, hx⟩ := hb; exact h.lo s hs b hx)⟩
theorem szE' : (prog.info? 136).map (·.size) = some 35 := by kernel_rfl
abbrev k7 : ByteArray := ⟨#[107]⟩
abbrev v8 : ByteArray := ⟨#[118]⟩
def E1L : List Value := [.int .i64 1, .int .i64 1, .int .i64 0, .int .i64 1, .int .i64 0, .int .i64 2, .int .i64 0, .string k7, .string v8, .int .u32 3, .int .i64 0, .bool false, .int .u64 0, .bool false, .int .u64 0, .int .u64 0, .bool false, .bool false, .int .i64 0, .int .i64 (-1), .bool false, .int .i64 2, .string k7, .int .u32 3, .string v8, .int .i64 0, .int .u64 1, .int .i64 0, .bool false, .bool false, .int .u64 0, .bool false, .bool false, .bool false, .slice none 0 0]
def E2L : List Value := [.int .i64 1, .int .i64 1, .int .i64 0, .int .i64 2, .int .i64 0, .int .i64 1, .int .i64 0, .string k7, .string ⟨#[]⟩, .int .u32 0, .int .i64 0, .bool false, .int .u64 0, .bool false, .int .u64 0, .int .u64 0, .bool false, .bool false, .int .i64 0, .int .i64 (-1), .bool false, .int .i64 1, .string k7, .int .u32 3, .string v8, .int .i64 0, .int .u64 1, .int .i64 1, .bool false, .bool false, .int .u64 0, .bool false, .bool false, .bool false, .slice none 0 0]
def EZ : Array Value := #[.int .i64 0, .int .i64 0, .int .i64 0, .int .i64 0, .int .i64 0, .int .i64 0, .int .i64 0, .string ⟨#[]⟩, .string ⟨#[]⟩, .int .u32 0, .int .i64 0, .bool false, .int .u64 0, .bool false, .int .u64 0, .int .u64 0, .bool false, .bool false, .int .i64 0, .int .i64 0, .bool false, .int .i64 0, .string ⟨#[]⟩, .int .u32 0, .string ⟨#[]⟩, .int .i64 0, .int .u64 0, .int .i64 0, .bool false, .bool false, .int .u64 0, .bool false, .bool false, .bool false, .slice none 0 0]
theorem st_1 (w : World) : (storeCells ⟨w.heap.size, 0, none⟩ E1L).run prog (w.alloc (.cells EZ 136)) = .ok () (w.alloc (.cells E1L.toArray 136)) := run_storeCells_new w _ EZ E1L.toArray szE' (by rfl) (by simp [E1L, E2L, Value.oneCell'])
theorem st_2 (w : World) : (storeCells ⟨w.heap.size, 0, none⟩ E2L).run prog (w.alloc (.cells EZ 136)) = .ok () (w.alloc (.cells E2L.toArray 136)) := run_storeCells_new w _ EZ E2L.toArray szE' (by rfl) (by simp [E1L, E2L, Value.oneCell'])
theorem ev1_L : evC k7 ev1 = E1L := rfl
theorem ev2_L : evC k7 ev2 = E2L := rfl
theorem goes_1 {wb mb : Nat} {w : World} (hR : (many [wAR wb (.slice none 0 0) 0 mb, mapT mb 0 none, emp]).R w) :
    Calls prog 149 #[.pointer (some ⟨wb, 0, none⟩), .agg E1L.toArray] w fun e w' => e = .returned (.bool true) ∧ ∃ g cap, Turn (many [wAR wb (.slice none 0 0) 0 mb, mapT mb 0 none, emp]) (many [wAR wb (.slice (some ⟨g, 0, none⟩) 1 cap) 1 mb, mapT mb 1 (some 1), rowI g cap k7 3 v8 1 0]) w w' :=
  goes_gen (cas := 0) (cas2 := 1) (sq := 1) (by decide) (by decide) (.inl ⟨rfl, rfl⟩) (by decide) hR (fun W h1 h2 => (live_none h1).mono (fun e w' hh => ⟨none, 0, 0, emp, hh.1, ⟨trivial, hh.2, fun b hb => hb.elim⟩, fun W2 _ =>
    apply_set_no (cas := 0) (key := k7) (value := v8) (flags := 3) (tok := 0) (delta := 0) (cm_ok key_k (.set 3 PM.vV) ⟨by decide, PM.vV_ok⟩) (by decide) (by decide) (by decide)⟩))
theorem goes_2 {wb mb g cap : Nat} {w : World} (hR : (many [wAR wb (.slice (some ⟨g, 0, none⟩) 1 cap) 1 mb, mapT mb 1 (some 1), rowI g cap k7 3 v8 1 0]).R w) :
    Calls prog 149 #[.pointer (some ⟨wb, 0, none⟩), .agg E2L.toArray] w fun e w' => e = .returned (.bool true) ∧ ∃ g' cap', Turn (many [wAR wb (.slice (some ⟨g, 0, none⟩) 1 cap) 1 mb, mapT mb 1 (some 1), rowI g cap k7 3 v8 1 0]) (many [wAR wb (.slice (some ⟨g', 0, none⟩) 1 cap') 1 mb, mapT mb 2 (some 2), rowI g' cap' k7 3 v8 1 1]) w w' :=
  goes_gen (cas := 1) (cas2 := 1) (sq := 2) (by decide) (by decide) (.inr ⟨rfl, rfl⟩) (by decide) hR (fun W h1 h2 => (live_one h1 h2).mono (fun e w' hh => by
    obtain ⟨g', cap', e1, hm⟩ := hh
    refine ⟨some ⟨g', 0, none⟩, 1, cap', rowI g' cap' k7 3 v8 1 0, e1, hm, fun W2 hr => ?_⟩
    exact apply_get_is (cas := 1) (key := k7) (value := ⟨#[]⟩) (flags := 0) (tok := 0) (hasCas := false) (delta := 0) (cm_ok key_k .get trivial) (by decide) (by decide) (by decide) (fun j u hj => by rw [row_at hr j (List.getElem?_eq_some_iff.1 hj).1]; exact hj)))
set_option maxHeartbeats 1000000 in
theorem run_ok {g cap : Nat} {w : World} (hR : (rowAt (.slice (some ⟨g, 0, none⟩) 2 cap) 136 35 2 (evC k7 ev1 ++ evC k7 ev2)).R w) :
    Calls prog 83 #[.slice (some ⟨g, 0, none⟩) 2 cap, .int .i64 472] w fun e w' => ∃ wb, e = .returned (.tuple #[.pointer (some ⟨wb, 0, none⟩), .int .i64 (-1)]) ∧ Below w.heap.size w w' := by
  have hmm : ∀ w : World, (Instr.makeMap 244 none).run prog w = .ok (.map (some w.heap.size)) (w.alloc (.map #[] 0)) := fun w => by rfl
  have hlt : g < w.heap.size := (rowAt (.slice (some ⟨g, 0, none⟩) 2 cap) 136 35 2 (evC k7 ev1 ++ evC k7 ev2)).lt hR rfl
  have HRG : Hid (∀ w', Below w.heap.size w w' → w'.rangeAt g 0 E1L ∧ w'.rangeAt g 35 E2L) := hid (fun w' hb => by
    have h1 := (rowAt (.slice (some ⟨g, 0, none⟩) 2 cap) 136 35 2 (evC k7 ev1 ++ evC k7 ev2)).keep hR (Tch.of_below (fun _ => False) hb) (fun _ _ x => x)
    rw [ev1_L, ev2_L] at h1
    have hl : (E1L ++ E2L).length = 70 := rfl
    refine ⟨fun j v hv => ?_, fun j v hv => ?_⟩
    · have hj : j < 35 := (List.getElem?_eq_some_iff.1 hv).1
      rw [row_at h1 (0 + j) (by rw [hl]; omega), Nat.zero_add, List.getElem?_append_left hj]; exact hv
    · have hj : j < 35 := (List.getElem?_eq_some_iff.1 hv).1
      rw [row_at h1 (35 + j) (by rw [hl]; omega), List.getElem?_append_right (show 35 ≤ 35 + j by omega)]
      rw [show 35 + j - E1L.length = j from by show 35 + j - 35 = j; omega]; exact hv)
  have M0 : Made (mapT w.heap.size 0 none) w (w.alloc (.map #[] 0)) := ⟨mapT_new w, bA w _, fun b hb => by have e : b = w.heap.size := hb; omega⟩
  have J := ((Hav.none w).made M0).cells (wA (.slice none 0 0) 0 w.heap.size) 246
  have J2 := hav_add (r := emp) J trivial (fun b hb => hb)
  simp only [World.size_alloc] at J2
  have HJ : Hid (Hav (fun _ => False) w [wAR (w.heap.size + 1) (.slice none 0 0) 0 w.heap.size, mapT w.heap.size 0 none, emp] ((w.alloc (.map #[] 0)).alloc (.cells (wA (.slice none 0 0) 0 w.heap.size) 246))) := hid (J2.sel [1, 2, 0] (by decide) rfl)
  unfold wA at HJ
  clear M0 J J2 hR
  go_enter func83, ntmps83
  go_wp2_with (fail)
  obtain ⟨mb, hmb⟩ : ∃ mb, w.heap.size = mb := ⟨_, rfl⟩
  obtain ⟨W, hW⟩ : ∃ W, (w.alloc (.map #[] 0)).alloc (.cells #[.slice none 0 0, .int .u64 0, .int .i64 0, .int .i64 1, .map (some w.heap.size), .int .i64 472] 246) = W := ⟨_, rfl⟩
  have HJ0 := HJ.out
  rw [hW, hmb] at HJ0
  rw [hW]
  rw [hmb]
  have HJ1 : Hid (Hav (fun _ => False) w [wAR (mb + 1) (.slice none 0 0) 0 mb, mapT mb 0 none, emp] W) := hid HJ0
  clear HJ0 hW hmb HJ
  go_loopw [15] (fun i wr => (i = .int .i64 0 ∧ Hid (Hav (fun _ => False) w [wAR (mb + 1) (.slice none 0 0) 0 mb, mapT mb 0 none, emp] wr)) ∨ (∃ g1 c1, i = .int .i64 1 ∧ Hid (Hav (fun _ => False) w [wAR (mb + 1) (.slice (some ⟨g1, 0, none⟩) 1 c1) 1 mb, mapT mb 1 (some 1), rowI g1 c1 k7 3 v8 1 0] wr)) ∨ (i = .int .i64 2 ∧ Hid (Below w.heap.size w wr))) (fun i _ => 2 - (intOf i).toNat)
  case atStart => exact .inl ⟨rfl, HJ1⟩
  case round =>
    rcases hrel with ⟨rfl, hs⟩ | ⟨g1, c1, rfl, hs⟩ | ⟨rfl, hs⟩
    · have hbw := (hs.out.made0 0 rfl).bel
      have HL := hid (HRG.out wr hbw).1
      have HST := st_1 wr
      unfold EZ at HST
      have HT2 := hid (range_at 0 (Made.cells wr E1L.toArray 136).here E1L rfl)
      have HGo := hid (goes_1 (w := wr.alloc (.cells E1L.toArray 136)) (hav_many (hs.out.alloc (.cells E1L.toArray 136))))
      go_wp2_with (first
        | (refine wpList_load_mid rfl 136 _ rfl g 0 (by rfl) E1L _ HL.out underlying136 rfl szE' ?_)
        | (refine wpList_load_mid rfl 136 _ rfl wr.heap.size 0 (by rfl) E1L _ HT2.out underlying136 rfl szE' ?_)
        | (go_at_call 149; refine HGo.out.mono ?_; rintro e w2 ⟨rfl, hh⟩; have HH := hid hh; clear hh))
      go_roundw
      case rel =>
        obtain ⟨g1, c1, ht⟩ := HH.out
        exact .inr (.inl ⟨g1, c1, rfl, hid (hav_manyTurn (hs.out.alloc _) ht)⟩)
      case measure => simp [intOf]
    · have hbw := (hs.out.made0 0 rfl).bel
      have HL := hid (HRG.out wr hbw).2
      have HST := st_2 wr
      unfold EZ at HST
      have HT2 := hid (range_at 0 (Made.cells wr E2L.toArray 136).here E2L rfl)
      have HGo := hid (goes_2 (w := wr.alloc (.cells E2L.toArray 136)) (hav_many (hs.out.alloc (.cells E2L.toArray 136))))
      go_wp2_with (first
        | (refine wpList_load_mid rfl 136 _ rfl g 35 (by rfl) E2L _ HL.out underlying136 rfl szE' ?_)
        | (refine wpList_load_mid rfl 136 _ rfl wr.heap.size 0 (by rfl) E2L _ HT2.out underlying136 rfl szE' ?_)
        | (go_at_call 149; refine HGo.out.mono ?_; rintro e w2 ⟨rfl, hh⟩; have HH := hid hh; clear hh))
      go_roundw
      case rel =>
        obtain ⟨g2, c2, ht⟩ := HH.out
        exact .inr (.inr ⟨rfl, hid ((hav_manyTurn (hs.out.alloc _) ht).made0 0 rfl).bel⟩)
      case measure => simp [intOf]
    · go_wp2_with (fail)
      go_ret2
      exact ⟨_, rfl, hs.out⟩
theorem check_ok : ChkOk k7 := fun g cap w hR => by
  have HR := hid (run_ok hR)
  clear hR
  go_enter func31, ntmps31
  go_wp2_with (go_at_call 83; refine HR.out.mono ?_; rintro e w1 ⟨wb, rfl, h1⟩)
  go_ret
  exact ⟨rfl, h1⟩
end Go.Proofs.YtboehbfagnocpaaGreatDoor
