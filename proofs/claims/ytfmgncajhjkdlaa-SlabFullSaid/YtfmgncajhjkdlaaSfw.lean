/- SlabFull's walk. -/
import Derived.Test.YtfmgncajhjkdlaaSfu
import Derived.Test.YtfmgncajhjkdlaaSsf
import Derived.Deep.CutRange
import Derived.Deep.Cut
import Derived.Deep.CutBlock
namespace Go.Proofs.Ytfmgncajhjkdlaa
open Go.RowKit Go.PlainAid
open SP
set_option linter.unusedVariables false
set_option linter.unusedSimpArgs false

theorem fuI_where {P z j L : Nat} {π : Pi} (h : FuI P z j L π) (hz : 64 ≤ z ∧ z ≤ 512) (hj : j < P * (512 / z)) (hm : L + 2000 ≤ 100000000) :
    ∃ p i : Nat, (alC π 0 = ((p * 4096 + i : Nat) : Int) ∧ alOk π 0 = 0) ∧ p < P ∧ i < 512 / z ∧ whP (alS π 0) ((p * 4096 + i : Nat) : Int) = p ∧ whA (alS π 0) ((p * 4096 + i : Nat) : Int) = (i : Int) * z ∧ whS (alS π 0) ((p * 4096 + i : Nat) : Int) = z := by
  have hok := fuI_ok h hj
  obtain ⟨p, i, hf⟩ := alF_of h.wf hm hok
  have hn := fuI_step h hz hj hm
  obtain ⟨x, hx, hix⟩ := hf.pg
  have hps := hn.wf.page_some hx
  have hpl := hn.wf.page_lt hx
  have how := hf.own
  have hsz : szP (alS π ((0 : Nat) : Int)) p = z := by unfold szP; rw [how, hn.sz]; rfl
  have hN : x.used.length = 512 / z := by
    rw [hps.2.2.1, hn.S]
    have : (((alS π ((0 : Nat) : Int)).ow[p]?.getD 0 - 1).toNat) = 0 := how
    rw [this, hn.sz]
    rfl
  have hu : usedP (alS π ((0 : Nat) : Int)) ((p * 4096 + i : Nat) : Int) = true := by rw [hf.used, if_pos rfl]
  have hi4 : i < 4096 := by omega
  refine ⟨p, i, ⟨hf.ch, hok⟩, by rw [← hn.len]; exact hpl, by omega, ?_, ?_, ?_⟩
  · show whP (alS π ((0 : Nat) : Int)) _ = _
    unfold whP; rw [hu, if_pos rfl]; omega
  · show whA (alS π ((0 : Nat) : Int)) _ = _
    unfold whA; rw [hu, if_pos rfl, show (((p * 4096 + i : Nat) : Int) / 4096).toNat = p by omega, hsz, show ((p * 4096 + i : Nat) : Int) % 4096 = (i : Int) by omega]
  · show whS (alS π ((0 : Nat) : Int)) _ = _
    unfold whS; rw [hu, if_pos rfl, show (((p * 4096 + i : Nat) : Int) / 4096).toNat = p by omega, hsz]

set_option maxRecDepth 100000 in
set_option maxHeartbeats 4000000 in
theorem full_walk (a b : Int) (w : World) (ha : (Lit.int .i64 a).wf = true) (hb : (Lit.int .i64 b).wf = true) :
    Calls Try.prog 4 #[.int .i64 a, .int .i64 b] w fun e w' => e = .returned (.bool true) ∧ Below w.heap.size w w' := by
  obtain ⟨a1, a2⟩ := bd_i64 ha
  obtain ⟨b1, b2⟩ := bd_i64 hb
  clear ha hb
  go_enter Try.func4, Try.ntmps4
  go_wp2_with (fail)
  refine (shown_any w).mono ?_
  rintro e w1 ⟨rfl, hb1⟩
  have HB1 := Lib.hid hb1
  clear hb1
  go_upto_if 21 with (fail)
  go_cut [0] from 20 to 24 (fun s0 wx => w1 = wx ∧ ∃ u : Int, s0 = .int .i64 u ∧ 0 ≤ u ∧ u ≤ 9223372036854775807)
  case first =>
    by_cases h0 : a < 0
    · go_wp2
      go_meet
      case rel => exact ⟨rfl, _, rfl, by omega, by omega⟩
    · go_wp2
      go_meet
      case rel => exact ⟨rfl, a, rfl, by omega, by omega⟩
  case rest =>
  obtain ⟨rfl, u, rfl, hu0, hu1⟩ := hcut
  go_upto_if 26 with (fail)
  go_cut [1] from 25 to 29 (fun s1 wx => w1 = wx ∧ ∃ v : Int, s1 = .int .i64 v ∧ 0 ≤ v ∧ v ≤ 9223372036854775807)
  case first =>
    by_cases h0 : b < 0
    · go_wp2
      go_meet
      case rel => exact ⟨rfl, _, rfl, by omega, by omega⟩
    · go_wp2
      go_meet
      case rel => exact ⟨rfl, b, rfl, by omega, by omega⟩
  case rest =>
  obtain ⟨rfl, v, rfl, hv0, hv1⟩ := hcut
  obtain ⟨P, hP⟩ : ∃ P : Nat, 1 + u % 5 = (P : Int) := ⟨(1 + u % 5).toNat, by omega⟩
  obtain ⟨z, hz⟩ : ∃ z : Nat, 64 + v % 449 = (z : Int) := ⟨(64 + v % 449).toNat, by omega⟩
  have hP5 : 1 ≤ P ∧ P ≤ 5 := by omega
  have hzz : 64 ≤ z ∧ z ≤ 512 := by omega
  have HM := Lib.hid (made_ok P (by omega) ⟨w1.heap.size, 0, none⟩ 1 1 [(z : Int)] (w1.alloc (.cells #[.int .i64 (z : Int)] 3)) (ri_lit (w := w1.alloc (.cells #[.int .i64 (z : Int)] 3)) (l := [(z : Int)]) (k := w1.heap.size) (t := 3) (World.alloc_heap_new w1 _) 1) (by omega) ⟨by simp, by simp; omega, by simp; omega, fun i hi => by simp at hi⟩)
  rw [show (w1.alloc (.cells #[.int .i64 (z : Int)] 3)).heap.size = w1.heap.size + 1 by simp] at HM
  go_wp2_with (fail)
  refine HM.out.mono ?_
  rintro e w2 ⟨sb, rfl, hS0, hb2⟩
  obtain ⟨Y0, hF0, hY0⟩ := hS0.sf
  have HF0 := Lib.hid hF0
  have HY0 : Hid (∀ b, Y0 b → w.heap.size ≤ b) := Lib.hid (fun b hb => by have := hY0 b hb; have := HB1.out.size; omega)
  have HB0 : Hid (Below w.heap.size w w2) := Lib.hid (HB1.out.trans ((((Below.refl _ w1).alloc (Nat.le_refl _) _).mono HB1.out.size).trans (hb2.mono (by have := HB1.out.size; omega))))
  have HI0 := Lib.hid (fuI_init hP5 hzz)
  have hN8 := fuN1 hzz
  have HST : Hid (∀ j L π, FuI P z j L π → j < P * (512 / z) → L + 2000 ≤ 100000000 → FuI P z (j + 1) (L + 2000) (alS π 0) ∧ ∃ p i : Nat, (alC π 0 = ((p * 4096 + i : Nat) : Int) ∧ alOk π 0 = 0) ∧ p < P ∧ i < 512 / z ∧ whP (alS π 0) ((p * 4096 + i : Nat) : Int) = p ∧ whA (alS π 0) ((p * 4096 + i : Nat) : Int) = (i : Int) * z ∧ whS (alS π 0) ((p * 4096 + i : Nat) : Int) = z) := Lib.hid (fun j L π h h2 h3 => ⟨fuI_step h hzz h2 h3, fuI_where h hzz h2 h3⟩)
  have HFU : Hid (∀ L π, FuI P z (P * (512 / z)) L π → alC π 0 = -1 ∧ alOk π 0 = 5 ∧ alS π 0 = π ∧ coP π 0 = P ∧ coU π 0 = (P * (512 / z) : Nat) ∧ coF π 0 = 0) := Lib.hid (fun L π h => fuI_full h hzz)
  have hq0 : (512 : Int) / (z : Int) = ((512 / z : Nat) : Int) := rfl
  have hzN : (512 / z) * z ≤ 512 := Nat.div_mul_le_self 512 z
  generalize 512 / z = N at *
  obtain ⟨M, hM⟩ : ∃ M, P * N = M := ⟨_, rfl⟩
  have hMM : M ≤ 40 := by rw [← hM]; exact Nat.le_trans (Nat.mul_le_mul hP5.2 hN8.2) (by omega)
  have hmul : (P : Int) * (N : Int) = (M : Int) := by rw [← hM]; rfl
  rw [hM] at HST HFU
  clear hM hP hz hS0 hb2 hF0 hY0 HM
  go_wp2_with (fail)
  clear hq0 hmul
  go_loopw [8] (fun s8 wr => ∃ (j : Nat) (Y : Nat → Prop) (π : Pi), j ≤ M ∧ s8 = .int .i64 j ∧ Hid (Sf Y sb wr π (2000 * j)) ∧ Hid (FuI P z j (2000 * j) π) ∧ Hid (∀ b, Y b → w.heap.size ≤ b) ∧ Hid (Below w.heap.size w wr)) (fun s8 _ => M - (intOf s8).toNat)
  case atStart => exact ⟨0, Y0, _, by omega, rfl, HF0, HI0, HY0, HB0⟩
  case round =>
    clear HF0 HI0 HY0 HB0 Y0
    obtain ⟨j, Y, π, hj, rfl, HF, HI, HY, HB⟩ := hrel
    by_cases hlt : j < M
    · obtain ⟨hI', p, i, hal, hpP, hiN, hwh⟩ := HST.out j _ π HI.out hlt (by omega)
      have HA := Lib.hid (alloc_f HF.out 0 (by omega) hal)
      have HI' := Lib.hid hI'
      have Hwh := Lib.hid hwh
      clear hI' hal hwh HI
      go_wp2_with (fail)
      refine HA.out.mono ?_
      rintro e w3 ⟨rfl, hN⟩
      obtain ⟨Y', g1, g2, g3, g4, g5⟩ := hN.below HB.out HB.out.size HY.out
      have HW := Lib.hid (where_f g1 ((p * 4096 + i : Nat) : Int) (by omega) Hwh.out)
      have G1 := Lib.hid g1
      have G4 := Lib.hid g4
      have G5 := Lib.hid g5
      obtain ⟨c, hc⟩ : ∃ c : Nat, p * 4096 + i = c := ⟨_, rfl⟩
      have hcI : (4096 : Int) * (p : Int) + (i : Int) = (c : Int) := by omega
      obtain ⟨A, hA⟩ : ∃ A : Int, (i : Int) * (z : Int) = A := ⟨_, rfl⟩
      have hA0 : 0 ≤ A := by rw [← hA]; exact Int.mul_nonneg (by omega) (by omega)
      have hA1 : A + z ≤ 512 := by
        have h1 : (i + 1) * z ≤ N * z := Nat.mul_le_mul_right z (by omega)
        rw [Nat.add_mul, Nat.one_mul] at h1
        have h2 : ((i * z : Nat) : Int) = A := by rw [← hA]; rfl
        omega
      have hA2 : A % (z : Int) = 0 := by rw [← hA]; exact Int.mul_emod_left _ _
      have hA3 : A / (z : Int) = (i : Int) := by rw [← hA]; exact Int.mul_ediv_cancel _ (by omega)
      rw [hc, hA] at HW
      have hc2 : (c : Int) ≤ 100000 := by omega
      have hpI : (p : Int) < (P : Int) := by omega
      rw [hc]
      clear hN g1 g2 g3 g4 g5 HF HY HB HA hA hc Hwh
      go_wp2_with (fail)
      refine HW.out.mono ?_
      rintro e w4 ⟨rfl, q, rfl⟩
      go_wp2_with (fail)
      go_roundw
      case rel => exact ⟨j + 1, Y', _, by omega, by go_num, Lib.hid (by rw [show 2000 * (j + 1) = 2000 * j + 2000 by omega]; exact G1.out.below (below_drewN (Below.refl _ _) q)), by rw [show 2000 * (j + 1) = 2000 * j + 2000 by omega]; exact HI', G4, Lib.hid (below_drewN G5.out q)⟩
      case measure => simp [intOf]; omega
    · have hjM : j = M := by omega
      rw [hjM] at HI
      have hfu := HFU.out _ π HI.out
      have HA := Lib.hid (alloc_f HF.out 0 (by omega) ⟨hfu.1, hfu.2.1⟩)
      rw [hfu.2.2.1] at HA
      have Hcn : Hid (coP π 0 = P ∧ coU π 0 = (M : Nat) ∧ coF π 0 = 0) := Lib.hid hfu.2.2.2
      clear hfu HI HFU HST hjM
      go_wp2_with (fail)
      refine HA.out.mono ?_
      rintro e w3 ⟨rfl, hN⟩
      obtain ⟨Y', g1, g2, g3, g4, g5⟩ := hN.below HB.out HB.out.size HY.out
      have HC := Lib.hid (counts_f g1 0 Hcn.out)
      have G5 := Lib.hid g5
      clear hN g1 g2 g3 g4 g5 HA HF HY HB
      go_wp2_with (fail)
      refine HC.out.mono ?_
      rintro e w4 ⟨rfl, hb4⟩
      have G6 := Lib.hid (G5.out.trans (hb4.mono G5.out.size))
      clear hb4
      go_wp2
      go_ret
      exact ⟨rfl, G6.out⟩
end Go.Proofs.Ytfmgncajhjkdlaa
