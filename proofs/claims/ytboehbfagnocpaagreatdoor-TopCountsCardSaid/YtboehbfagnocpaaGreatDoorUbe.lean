/- Tsx. -/
import Derived.Test.YtboehbfagnocpaaGreatDoorUbb
set_option linter.unusedVariables false
set_option linter.unusedSimpArgs false
set_option maxRecDepth 100000
open Go.Proofs.Tryz
open Go.Lib (hid)
namespace Go.Proofs.YtboehbfagnocpaaGreatDoor
open Go.RowKit Go.PlainAid Go.Shelf
open SP
def stPL (π : Pi) (b : Nat) (m : SM) (cas : Int) : List Res := [cAt m.s (stC m cas) 105, slabR m.β π m.L, stZ m, tab0 m.tb m.rb b, stQ m, polR m.ps]
theorem per_ok {m : SM} {w : World} (hz : (stZ m).R w) :
    Calls prog 239 #[.slice (some ⟨m.zb, 0, none⟩) 4 m.zc, .int .i64 0, .int .i64 512] w fun e w' => e = .returned (.int .i64 8) ∧ Below w.heap.size w w' := by
  have z0 : w.cell? ⟨m.zb, 0, none⟩ = some (.int .i64 64) := row_at hz 0 (Nat.lt_of_lt_of_eq (m := 4) (by decide) rfl)
  clear hz
  go_enter func239, ntmps239
  go_wp2
  go_ret
  exact ⟨rfl, by go_grown⟩
theorem page_ok {g : Nat} {w : World} (h : w.cell? ⟨g, 0, none⟩ = some (.int .i64 512)) : Calls prog 96 #[.pointer (some ⟨g, 0, none⟩)] w fun e w' => e = .returned (.int .i64 512) ∧ w = w' := by
  go_enter func96, ntmps96
  go_wp2
  go_ret
  exact ⟨rfl, rfl⟩
set_option maxHeartbeats 2000000 in
theorem caps_ok {m : SM} {cas : Int} {bs : List Int} {b : Nat} {w : World} (hR : (many (stPL (pi1 bs) b m cas)).R w) (hw : Wf (pi1 bs) m.L) :
    Calls prog 192 #[.pointer (some ⟨m.s, 0, none⟩), .int .i64 0] w fun e w' => e = .returned (.tuple #[]) ∧ Below w.heap.size w w' := by
  have J := Hav.open hR
  have HF : Hid (∀ w', Below w.heap.size w w' → w'.cell? ⟨m.s, 1, none⟩ = some (.pointer (some ⟨m.β.g, 0, none⟩)) ∧ w'.cell? ⟨m.s, 2, none⟩ = some (.slice (some ⟨m.zb, 0, none⟩) 4 m.zc) ∧ w'.cell? ⟨m.s, 4, none⟩ = some (.slice (some ⟨m.qb, 0, none⟩) 4 m.qc) ∧ w'.cell? ⟨m.qb, 0, none⟩ = some (.pointer (some ⟨m.ps.pb, 0, none⟩)) ∧ w'.cell? ⟨m.β.g, 0, none⟩ = some (.int .i64 512)) :=
    hid (fun w' hb => by
      have h := J.below hb
      exact ⟨cA (h.get 0 rfl) 1, cA (h.get 0 rfl) 2, cA (h.get 0 rfl) 4, row_at (h.get 4 rfl) 0 (Nat.lt_of_lt_of_eq (m := 4) (by decide) rfl), cell_of (Mem.lie (h.get 1 rfl) .ar) 0⟩)
  have HPg : Hid (∀ w', Below w.heap.size w w' → Calls prog 238 #[.pointer (some ⟨m.β.g, 0, none⟩), .int .i64 0] w' fun e w'' => (∃ g cap, e = .returned (.slice (some ⟨g, 0, none⟩) 1 cap)) ∧ Below w'.heap.size w' w'') :=
    hid (fun w' hb => (pages_any (Mem.ar (J.below hb |>.get 1 rfl) hw) 0).mono (fun e w'' h => by
      obtain ⟨v, rfl, ho, hb2⟩ := h
      have e1 : (AP.pages (pi1 bs).ow 0).length = 1 := by show (AP.pages [1] 0).length = 1; decide
      rw [e1] at ho
      rcases ho.2 with ⟨_, h0⟩ | ⟨g, cap, cur, rfl, _⟩
      · omega
      · exact ⟨⟨g, cap, rfl⟩, hb2⟩))
  have HPr : Hid (∀ w', Below w.heap.size w w' → Calls prog 239 #[.slice (some ⟨m.zb, 0, none⟩) 4 m.zc, .int .i64 0, .int .i64 512] w' fun e w'' => e = .returned (.int .i64 8) ∧ Below w'.heap.size w' w'') := hid (fun w' hb => per_ok (J.below hb |>.get 2 rfl))
  have HCp : Hid (∀ w', Below w.heap.size w w' → Calls prog 237 #[.pointer (some ⟨m.ps.pb, 0, none⟩), .int .i64 8] w' fun e w'' => e = .returned (.tuple #[]) ∧ Below w'.heap.size w' w'') := hid (fun w' hb => pol_cap (J.below hb |>.get 5 rfl) 8)
  have HPa : Hid (∀ w', Below w.heap.size w w' → Calls prog 96 #[.pointer (some ⟨m.β.g, 0, none⟩)] w' fun e w'' => e = .returned (.int .i64 512) ∧ w' = w'') := hid (fun w' hb => page_ok (HF.out w' hb).2.2.2.2)
  obtain ⟨f1, f2, f4, fq, fa⟩ := HF.out w (Below.refl _ _)
  clear J hR hw
  go_enter func192, ntmps192
  go_region_held3 (fun w' => w'.cell? ⟨m.s, 1, none⟩ = some (.pointer (some ⟨m.β.g, 0, none⟩)) ∧ w'.cell? ⟨m.s, 2, none⟩ = some (.slice (some ⟨m.zb, 0, none⟩) 4 m.zc) ∧ w'.cell? ⟨m.s, 4, none⟩ = some (.slice (some ⟨m.qb, 0, none⟩) 4 m.qc) ∧ w'.cell? ⟨m.qb, 0, none⟩ = some (.pointer (some ⟨m.ps.pb, 0, none⟩)) ∧ w'.cell? ⟨m.β.g, 0, none⟩ = some (.int .i64 512)) (first | exact HF.out _ HB6.out | exact HF.out _ (Below.refl _ _) | exact HF.out _ (Below.refl _ _).drew) (first
    | (go_at_call 238; refine (HPg.out _ (by first | exact HB6.out | exact (Below.refl _ _).drew | exact Below.refl _ _)).mono ?_; rintro e w6 ⟨⟨g, cap, rfl⟩, hb6⟩; have hbb : Below w.heap.size w w6 := Below.trans (by first | exact HB6.out | exact (Below.refl _ _).drew | exact Below.refl _ _) (hb6.mono (by first | exact HB6.out.size | exact Nat.le_refl _)); have HB6 := hid hbb; have z6 := HF.out w6 hbb; clear hb6 hbb)
    | (go_at_call 96; refine (HPa.out _ (by first | exact HB6.out | exact (Below.refl _ _).drew | exact Below.refl _ _)).mono ?_; rintro e w6 ⟨rfl, rfl⟩)
    | (go_at_call 239; refine (HPr.out _ (by first | exact HB6.out | exact (Below.refl _ _).drew | exact Below.refl _ _)).mono ?_; rintro e w6 ⟨rfl, hb6⟩; have hbb : Below w.heap.size w w6 := Below.trans (by first | exact HB6.out | exact (Below.refl _ _).drew | exact Below.refl _ _) (hb6.mono (by first | exact HB6.out.size | exact Nat.le_refl _)); have HB6 := hid hbb; have z6 := HF.out w6 hbb; clear hb6 hbb)
    | (go_at_call 237; refine (HCp.out _ (by first | exact HB6.out | exact (Below.refl _ _).drew | exact Below.refl _ _)).mono ?_; rintro e w6 ⟨rfl, hb6⟩; have hbb : Below w.heap.size w w6 := Below.trans (by first | exact HB6.out | exact (Below.refl _ _).drew | exact Below.refl _ _) (hb6.mono (by first | exact HB6.out.size | exact Nat.le_refl _)); have HB6 := hid hbb; have z6 := HF.out w6 hbb; clear hb6 hbb))
  all_goals go_end0
  all_goals exact ⟨rfl, HB6.out⟩
set_option maxHeartbeats 1000000 in
theorem room_ok {m : SM} {cas : Int} {b n : Nat} {h : Int} {w : World} (hR : (many (stPL pi0 b m cas)).R w) (hL : m.L = 0) (hn : n ≤ 64) :
    Calls prog 124 #[.pointer (some ⟨m.s, 0, none⟩), .int .i64 n, .int .u64 h, .int .i64 1] w fun e w' => e = .returned (.tuple #[.int .i64 0, .slice none 0 0]) ∧
      ∃ β' : Bk, β'.sb = m.β.sb ∧ β'.g = m.β.g ∧ Turn (many (stPL pi0 b m cas)) (many (stPL (pi1 []) b { m with β := β', L := 2000, bs := [] } cas)) w w' := by
  have J := Hav.open hR
  have s2 : w.cell? ⟨m.s, 2, none⟩ = some (.slice (some ⟨m.zb, 0, none⟩) 4 m.zc) := cA (J.get 0 rfl) 2
  have HC := hid (sclass_ok (n := n) (J.get 2 rfl) hn)
  have HJ := hid J
  have HL := hid hL
  clear J hR hn hL
  go_enter func124, ntmps124
  go_wp2_with (go_at_call 120; refine HC.out.mono ?_; rintro e w1 ⟨rfl, hb1⟩; have J1 := HJ.out.below hb1; have s0 : w1.cell? ⟨m.s, 0, none⟩ = some (.pointer (some ⟨m.β.sb, 0, none⟩)) := cA (J1.get 0 rfl) 0; have HJ1 := hid J1; clear J1 hb1)
  go_at_call 191
  have hm1 : Mem w1 m.β pi0 0 := by have h1 := HJ1.out.get 1 rfl; rw [HL.out] at h1; exact h1
  refine (alloc_any hm1 wf_pi0 0 (by decide)).mono ?_
  rintro e w2 ⟨rfl, β', hm2, hs2⟩
  rw [alC_pi0, alOk_pi0]
  rw [al_pi0] at hm2 hs2
  obtain ⟨m2, hm2e⟩ : ∃ m2 : SM, m2 = { m with β := β', L := 2000, bs := [] } := ⟨_, rfl⟩
  have hst : stC m2 cas = stC m cas := by rw [hm2e]; unfold stC; rw [hs2.sb, hs2.g]
  have ht : Turn (slabR m.β pi0 m.L) (slabR β' (pi1 []) 2000) w1 w2 := by rw [HL.out]; exact slab_turn hm2 hs2
  have J2 := HJ1.out.turn 1 rfl ht
  have HJ2 : Hid (Hav (many (stPL pi0 b m cas)).B w (stPL (pi1 []) b m2 cas) w2) := hid (by
    have h1 := J2
    unfold stPL
    rw [hst, hm2e]
    exact h1)
  have HM : Hid (m2.s = m.s ∧ β'.sb = m.β.sb ∧ β'.g = m.β.g) := hid (by rw [hm2e]; exact ⟨rfl, hs2.sb, hs2.g⟩)
  have hw2 : Wf (pi1 []) m2.L := by rw [hm2e]; exact wf_pi1 [] 2000 (by decide) (by decide)
  have HCp := hid (caps_ok (m := m2) (cas := cas) (b := b) ⟨HJ2.out.all, HJ2.out.ap⟩ hw2)
  rw [HM.out.1] at HCp
  have HME := hid hm2e
  clear J2 ht hst hm2 hs2 hm1 hw2 HJ1 hm2e
  go_wp2_with (go_at_call 192; refine HCp.out.mono ?_; rintro e w3 ⟨rfl, hb3⟩)
  go_ret2
  have J3 := HJ2.out.below hb3
  have e1 := HME.out
  subst e1
  exact ⟨rfl, β', HM.out.2.1, HM.out.2.2, J3.shut⟩
theorem out_no {key : ByteArray} {h : Int} {b : Nat} (hk : KeyI key h b) {m : SM} {cas : Int} {π : Pi} {w : World} (hR : (many (stPL π b m cas)).R w) :
    Calls prog 114 #[.pointer (some ⟨m.s, 0, none⟩), .string key] w fun e w' => e = .returned (.tuple #[]) ∧ Below w.heap.size w w' := by
  have J := Hav.open hR
  have s3 : w.cell? ⟨m.s, 3, none⟩ = some (.pointer (some ⟨m.tb, 0, none⟩)) := cA (J.get 0 rfl) 3
  have HG := hid (get_0 hk (J.get 3 rfl))
  clear J hR
  go_enter func114, ntmps114
  go_wp2_with (go_at_call 115; refine HG.out.mono ?_; rintro e w1 ⟨rfl, n, rfl⟩)
  go_end0
  exact ⟨rfl, below_drewN' _ _⟩
set_option maxHeartbeats 1000000 in
theorem lay_ok {key : ByteArray} {h : Int} {b : Nat} (hk : KeyI key h b) {m : SM} {cas : Int} {x : PM.It} {g cap : Nat} {w : World} (hR : (many (stPL (pi1 m.bs) b m cas)).R w) (hw : Wf (pi1 m.bs) m.L) (hx : ItOk x) (hl : (AP.ext m.bs 512).length = 512) (hbb : I8.P.Bytes (AP.ext m.bs 512)) (hbl : m.bs.length ≤ 512)
    (hr : (bytR g (encI key x).length cap (encI key x)).R w) (hd : ¬ foot m.β (pi1 m.bs) g) (hh : m.ps.held = false) (hnn : m.ps.num ≤ 1000000) :
    Calls prog 125 #[.pointer (some ⟨m.s, 0, none⟩), .int .i64 0, .string key, .slice (some ⟨g, 0, none⟩) (encI key x).length cap] w fun e w' => e = .returned (.tuple #[]) ∧
      ∃ m' : SM, m'.s = m.s ∧ m'.ps.num = m.ps.num + 1 ∧ SOk key x m' ∧ Turn (many (stPL (pi1 m.bs) b m cas)) (stF key h b m' cas) w w' := by
  have J := Hav.open hR
  have s0 : w.cell? ⟨m.s, 0, none⟩ = some (.pointer (some ⟨m.β.sb, 0, none⟩)) := cA (J.get 0 rfl) 0
  have HP := hid (put_it hk.size hx (J.get 1 rfl) hw hl hbb hbl hr hd)
  have HJ := hid J
  have HK := hid hk
  have HX := hid hx
  have HW := hid hw
  have HHN := hid (And.intro hh hnn)
  obtain ⟨nb, hnb⟩ : ∃ nb, (encI key x).length = nb := ⟨_, rfl⟩
  rw [hnb] at HP ⊢
  clear J hR hk hx hw hl hbb hbl hr hd hh hnn hnb
  go_enter func125, ntmps125
  go_wp2_with (fail)
  go_at_call 121
  refine HP.out.mono ?_
  rintro e w1 ⟨rfl, β2, bs2, hsb2, hsg2, hh2, ht2⟩
  have J1 := HJ.out.turn 1 rfl ht2
  have s3 : w1.cell? ⟨m.s, 3, none⟩ = some (.pointer (some ⟨m.tb, 0, none⟩)) := cA (J1.get 0 rfl) 3
  have HS := hid (set_0 HK.out (J1.get 3 rfl) 0)
  have HJ1 := hid J1
  clear J1 ht2 HJ HP s0
  go_wp2_with (fail)
  go_at_call 195
  refine HS.out.mono ?_
  rintro e w2 ⟨rfl, eb, ht3⟩
  have J2 := HJ1.out.turn 3 rfl ht3
  obtain ⟨m2, hm2e⟩ : ∃ m2 : SM, m2 = { m with β := β2, bs := bs2, eb := eb } := ⟨_, rfl⟩
  have hst : stC m2 cas = stC m cas := by rw [hm2e]; unfold stC; rw [hsb2, hsg2]
  have HJ2 : Hid (Hav (many (stPL (pi1 m.bs) b m cas)).B w (stL key h b m2 cas) w2) := hid (by
    have h1 := J2
    unfold stL
    rw [hst, hm2e]
    exact h1)
  have HM : Hid (m2.s = m.s ∧ m2.ps = m.ps ∧ m2.L = m.L) := hid (by rw [hm2e]; exact ⟨rfl, rfl, rfl⟩)
  have HH2 : Hid (Holds key x m2.bs) := hid (by rw [hm2e]; exact hh2)
  have hw2 : Wf (pi1 m2.bs) m2.L := by rw [HM.out.2.2]; exact wf_bs HW.out
  have HPo := hid (policy_ok (m := m2) (cas := cas) (HJ2.out.get 0 rfl) (HJ2.out.get 1 rfl) hw2 (HJ2.out.get 4 rfl))
  rw [HM.out.1] at HPo
  have HW2 := hid hw2
  have HH := hid HK.out.hash
  have HI := hid (fun n => pol_ins (s := m2.ps) (w := w2.drewN n) ((HJ2.out.drewN n).get 5 rfl) (by rw [HM.out.2.1]; exact HHN.out.1) (by rw [HM.out.2.1]; exact HHN.out.2) h)
  clear J2 ht3 hst hsb2 hsg2 hh2 hw2 HJ1 HS s3 hm2e
  go_wp2_with (first
    | (go_at_call 122; refine HPo.out.mono ?_; rintro e w8 ⟨rfl, n8, rfl⟩)
    | (go_at_call 17; refine (HH.out _).mono ?_; rintro e w8 ⟨rfl, rfl⟩))
  go_at_call 196
  refine (HI.out _).mono ?_
  rintro e w9 ⟨rfl, s', hseg, hheld, hpb, hnum, ht⟩
  have J3 := (HJ2.out.drewN n8).turn 5 rfl ht
  go_wp2_with (fail)
  go_end0
  refine ⟨rfl, { m2 with ps := s' }, HM.out.1, by show s'.num = _; rw [hnum, HM.out.2.1], ⟨HW2.out, HH2.out, HX.out, hheld⟩, ?_⟩
  have J4 : Hav (many (stPL (pi1 m.bs) b m cas)).B w (stL key h b { m2 with ps := s' } cas) w9 := by
    unfold stL stQ
    rw [hpb]
    exact J3
  exact J4.shut
end Go.Proofs.YtboehbfagnocpaaGreatDoor
