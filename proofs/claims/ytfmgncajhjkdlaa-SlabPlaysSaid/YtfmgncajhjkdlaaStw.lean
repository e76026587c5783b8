/- SlabTurns' walk. -/
import Derived.Test.YtfmgncajhjkdlaaStu
import Derived.Test.YtfmgncajhjkdlaaSsf
import Derived.Deep.CutRange
import Derived.Deep.Cut
import Derived.Deep.CutBlock
namespace Go.Proofs.Ytfmgncajhjkdlaa
open Go.RowKit Go.PlainAid
open SP
set_option linter.unusedVariables false
set_option linter.unusedSimpArgs false

theorem RI.atW {w w' : World} {a : Option Addr} {n cap : Nat} {l : List Int} (h : RI w (.slice a n cap) l) (hb : Below w.heap.size w w') {i : Nat} (hi : i < n) : ∃ b o, a = some ⟨b, o, none⟩ ∧ w'.cell? ⟨b, o + i, none⟩ = some (.int .i64 (l[i]?.getD 0)) := by
  obtain ⟨b, o, h1, h2, h3⟩ := h.at hi
  exact ⟨b, o, h1, (hb.cell (p := ⟨b, o + i, none⟩) h2).trans h3⟩

set_option maxRecDepth 100000 in
set_option maxHeartbeats 4000000 in
theorem turns_walk (l : List Int) (a : Option Addr) (n cap : Nat) (w : World) (hr : RI w (.slice a n cap) l) (hli : I64s l) (hln : l.length = n) :
    Calls Try.prog 3 #[.slice a n cap] w fun e w' => e = .returned (.bool true) ∧ Below w.heap.size w w' := by
  have HM : Hid (∀ w1 : World, Calls Try.prog 9 #[.int .i64 1, .slice (some ⟨w1.heap.size, 0, none⟩) 2 2] (w1.alloc (.cells #[.int .i64 64, .int .i64 512] 3)) fun e w' => ∃ sb, e = .returned (.pointer (some ⟨sb, 0, none⟩)) ∧ Sl (w1.heap.size + 1) sb w' (madeP 1 512 [64, 512]) 0 ∧ Below (w1.heap.size + 1) (w1.alloc (.cells #[.int .i64 64, .int .i64 512] 3)) w') := Lib.hid (fun w1 => by
    have hri := ri_lit (w := w1.alloc (.cells #[.int .i64 64, .int .i64 512] 3)) (l := [64, 512]) (k := w1.heap.size) (t := 3) (World.alloc_heap_new w1 _) 2
    have := made_ok 1 (by omega) ⟨w1.heap.size, 0, none⟩ 2 2 [64, 512] _ hri (by omega) szs_sh
    rw [show (w1.alloc (.cells #[.int .i64 64, .int .i64 512] 3)).heap.size = w1.heap.size + 1 by simp] at this
    exact this)
  have Hr := Lib.hid hr
  have Hli := Lib.hid hli
  clear hr hli
  go_enter Try.func3, Try.ntmps3
  go_wp2_with (fail)
  refine (shown_any w).mono ?_
  rintro e w1 ⟨rfl, hb1⟩
  go_wp2_with (fail)
  refine (HM.out w1).mono ?_
  rintro e w2 ⟨sb, rfl, hS0, hb2⟩
  have hb12 : Below w.heap.size w w2 := hb1.trans ((((Below.refl _ w1).alloc (Nat.le_refl _) _).mono hb1.size).trans (hb2.mono (by have := hb1.size; omega)))
  obtain ⟨Y0, hF0, hY0⟩ := hS0.sf
  have HF0 := Lib.hid hF0
  have HY0 : Hid (∀ b, Y0 b → w.heap.size ≤ b) := Lib.hid (fun b hb => by have := hY0 b hb; have := hb1.size; omega)
  have HB0 := Lib.hid hb12
  have Hb1 := Lib.hid hb1
  clear hS0 hb2 hb12 hF0 hY0 hb1 HM
  go_wp2_with (fail)
  go_loopw [5] (fun s5 wr => ∃ (j : Nat) (Y : Nat → Prop), j ≤ 8 ∧ s5 = .int .i64 j ∧ Hid (Sf Y sb wr (alN j (madeP 1 512 [64, 512])) (2000 * j)) ∧ Hid (∀ b, Y b → w.heap.size ≤ b) ∧ Hid (Below w.heap.size w wr)) (fun s5 _ => 8 - (intOf s5).toNat)
  case atStart => exact ⟨0, Y0, by omega, rfl, HF0, HY0, HB0⟩
  case round =>
    obtain ⟨j, Y, hj, rfl, HF, HY, HB⟩ := hrel
    by_cases hlt : j < 8
    · go_wp2_with (fail)
      refine (alloc_f HF.out 0 (by omega) ⟨rfl, rfl⟩).mono ?_
      rintro e w3 ⟨rfl, hN⟩
      obtain ⟨Y', g1, g2, g3, g4, g5⟩ := hN.below HB.out HB.out.size HY.out
      have G1 := Lib.hid g1
      have G4 := Lib.hid g4
      have G5 := Lib.hid g5
      clear hN g1 g2 g3 g4 g5
      go_wp2_with (fail)
      go_roundw
      case rel => exact ⟨j + 1, Y', by omega, by go_num, by rw [show 2000 * (j + 1) = 2000 * j + 2000 by omega]; exact G1, G4, G5⟩
      case measure => simp [intOf]; omega
    · have hj8 : j = 8 := by omega
      rw [hj8, turn8, show 2000 * 8 = 16000 from rfl] at HF
      clear hj8
      clear HF0 HY0 HB0 Y0
      go_upto_block 2 with (fail)
      clear hlt hj
      go_cut [6] from 29 to 53 (fun s6 wx => ∃ (Y : Nat → Prop) (fs : List Nat) (ad : Option Addr) (m fc : Nat), m ≤ 30 ∧ Hid (fs.length = m) ∧ s6 = .slice ad m fc ∧ Hid (fs.Nodup ∧ ∀ k ∈ fs, k < 8) ∧
        Hid (Sf Y sb wx (tP fs) 76000) ∧ Hid (wx.ownsRow 0 3 1 (.slice ad m fc) m ((asI fs).map (.int .i64))) ∧ Hid (∀ b, (Value.slice ad m fc).ownBlock = some b → ¬ Y b ∧ w.heap.size ≤ b) ∧ Hid (∀ b, Y b → w.heap.size ≤ b) ∧ Hid (Below w.heap.size w wx))
      case first =>
        go_wp2_with (fail)
        go_loopw [6, 7, 8] (fun s6 s7 _ wr => ∃ (j : Nat) (Y : Nat → Prop) (fs : List Nat) (ad : Option Addr) (m fc : Nat), j ≤ n ∧ j ≤ 30 ∧ m ≤ j ∧ Hid (fs.length = m) ∧ s6 = .slice ad m fc ∧ s7 = .int .i64 j ∧ Hid (fs.Nodup ∧ ∀ k ∈ fs, k < 8) ∧
          Hid (Sf Y sb wr (tP fs) (16000 + 2000 * j)) ∧ Hid (wr.ownsRow 0 3 1 (.slice ad m fc) m ((asI fs).map (.int .i64))) ∧ Hid (∀ b, (Value.slice ad m fc).ownBlock = some b → ¬ Y b ∧ w.heap.size ≤ b) ∧ Hid (∀ b, Y b → w.heap.size ≤ b) ∧ Hid (Below w.heap.size w wr)) (fun _ s7 _ _ => n - (intOf s7).toNat)
        case atStart => exact ⟨0, Y, [], none, 0, 0, by omega, by omega, by omega, Lib.hid rfl, rfl, rfl, Lib.hid ⟨by simp, by simp⟩, HF, Lib.hid (World.ownsRow_nil _ _ _ _), Lib.hid (fun b hb => by cases hb), HY, HB⟩
        case round =>
          clear HF HY HB Y
          obtain ⟨j, Y, fs, ad, m, fc, hjn, hj3, hmj, HL, rfl, rfl, Hfs, HF, HO, HD, HY, HB⟩ := hrel
          by_cases hlt : j < n
          · by_cases hlt3 : j < 30
            · obtain ⟨b, o, rfl, hc⟩ := Hr.out.atW HB.out hlt
              obtain ⟨kN, hkN⟩ : ∃ kN : Nat, l[j]?.getD 0 % 8 = (kN : Int) := ⟨(l[j]?.getD 0 % 8).toNat, by omega⟩
              have hk8 : kN < 8 := by omega
              have hand : bits .and .i64 (l[j]?.getD 0) 7 = (kN : Int) := (i64_and7 _).trans hkN
              generalize l[j]?.getD 0 = x at *
              clear hkN
              have hj30 : (j : Int) < 30 := by omega
              have hus := tP_used fs hk8
              by_cases hin : kN ∈ fs
              · rw [show fs.contains kN = true by simpa using hin, Bool.not_true] at hus
                have HU := Lib.hid (used_f HF.out (kN : Int) (by omega) hus)
                clear hus hin
                go_wp2_with (go_at_call 11; refine HU.out.mono ?_; rintro e w' ⟨rfl, rfl⟩)
                go_roundw
                case rel => exact ⟨j + 1, Y, fs, ad, m, fc, by omega, by omega, by omega, HL, rfl, by go_num, Hfs, Lib.hid (HF.out.more (by omega) (by omega)), HO, HD, HY, HB⟩
                case measure => simp [intOf]; omega
              · rw [show fs.contains kN = false by simpa using hin, Bool.not_false] at hus
                have HU := Lib.hid (used_f HF.out (kN : Int) (by omega) hus)
                have hfr := tP_free fs hk8 hin
                have HFr := Lib.hid (free_f HF.out (kN : Int) (by omega) (by omega) hfr.1)
                rw [hfr.2] at HFr
                have Hin := Lib.hid hin
                clear hus hin hfr
                go_wp2_with (go_at_call 11; refine HU.out.mono ?_; rintro e w' ⟨rfl, rfl⟩)
                refine HFr.out.mono ?_
                rintro e w3 ⟨rfl, hN⟩
                obtain ⟨Y', g1, g2, g3, g4, g5⟩ := hN.below HB.out HB.out.size HY.out
                have HF' := Lib.hid g1
                have HY' := Lib.hid g4
                have HB' := Lib.hid g5
                have HO' := Lib.hid (own_tchB HO.out g2 (fun b hb hx => (HD.out b hb).1 hx))
                have HD' : Hid (∀ b, (Value.slice ad m fc).ownBlock = some b → ¬ Y' b ∧ w.heap.size ≤ b) := Lib.hid (fun b hb => ⟨fun hx => by
                  rcases g3 b hx with h1 | h1
                  · exact (HD.out b hb).1 h1
                  · obtain ⟨_, _, _, _, h2⟩ := own_cells HO.out hb
                    omega, (HD.out b hb).2⟩)
                clear hN g1 g2 g3 g4 g5 HF HY HB HO HD HU HFr
                have hbl : Below w3.heap.size w3 (w3.alloc (.cells #[.int .i64 (kN : Int)] 3)) := (Below.refl _ w3).alloc (Nat.le_refl _) _
                have HN := Lib.hid (World.news_of_block (w := w3.alloc (.cells #[.int .i64 (kN : Int)] 3)) (B := w3.heap.size) (cs := #[.int .i64 (kN : Int)]) (t := 3) (fr := (0, 0)) (World.alloc_heap_new w3 _))
                have HOb := Lib.hid (own_belowB HO'.out hbl)
                have HFb := Lib.hid (HF'.out.below hbl)
                have HBb := Lib.hid (HB'.out.trans (hbl.mono HB'.out.size))
                have Hsz : Hid (w3.heap.size < (w3.alloc (.cells #[.int .i64 (kN : Int)] 3)).heap.size) := Lib.hid (by simp)
                obtain ⟨i0, hi0, hz0, hz1, hz2⟩ := info_parts intE_info
                clear hbl
                go_wp2_with (at_builtin; go_must (refine wpList_append_lies _ rfl _ _ 22 rfl 0 3 i0 (.int .i64 0) 1 8 Try.underlying22 hi0 hz0 hz1 hz2 rfl (by decide) (.slice ad m fc) m _ rfl HOb.out ⟨w3.heap.size, 0, none⟩ 1 1 [.int .i64 (kN : Int)] rfl rfl HN.out (by simp [Value.oneCell']) (by omega) (by unfold maxLen; omega) (by omega) (Nat.zero_le _) (w3.alloc (.cells #[.int .i64 (kN : Int)] 3)).heap.size rfl ?_); intro g' cap' w4 hown1 hgr1 hat1 hlt1)
                have HY4 := HY'.out
                have HFin : Hid (Sf Y' sb w4 (tP (fs ++ [kN])) (16000 + 2000 * j + 2000) ∧ w4.ownsRow 0 3 1 (.slice (some ⟨g', 0, none⟩) (m + 1) cap') (m + 1) ((asI (fs ++ [kN])).map (.int .i64)) ∧ (¬ Y' g' ∧ w.heap.size ≤ g') ∧ Below w.heap.size w w4) := by
                  refine Lib.hid ⟨HFb.out.keep (Tch.of_grown hgr1) (fun b hb hx => (HD'.out b hx).1 hb), ?_, ?_, Tch.below HBb.out (Tch.of_grown hgr1) HBb.out.size (fun b hb => (HD'.out b hb).2)⟩
                  · unfold asI at hown1 ⊢
                    rw [List.map_append, List.map_append]
                    exact hown1
                  · rcases hat1 with h1 | h1
                    · exact HD'.out g' h1
                    · refine ⟨fun hx => ?_, ?_⟩
                      · have := HF'.out.ylt g' hx; have := Hsz.out; omega
                      · have := HB'.out.size; have := Hsz.out; omega
                clear hown1 hgr1 hat1 hlt1
                go_roundw
                case rel => exact ⟨j + 1, Y', fs ++ [kN], some ⟨g', 0, none⟩, m + 1, cap', by omega, by omega, by omega, Lib.hid (by have := HL.out; simp; omega), rfl, by go_num, Lib.hid ⟨by
                  rw [List.nodup_append]
                  exact ⟨Hfs.out.1, by simp, fun x hx y hy e => Hin.out (by rw [← (show y = kN by simpa using hy), ← e]; exact hx)⟩, fun k hk => by
                  rcases List.mem_append.1 hk with h1 | h1
                  · exact Hfs.out.2 k h1
                  · rw [show k = kN by simpa using h1]; exact hk8⟩, Lib.hid (by rw [show 16000 + 2000 * (j + 1) = 16000 + 2000 * j + 2000 by omega]; exact HFin.out.1), Lib.hid HFin.out.2.1, Lib.hid (fun b hb => by
                  obtain rfl : g' = b := by simpa [Value.ownBlock] using hb
                  exact HFin.out.2.2.1), HY', Lib.hid HFin.out.2.2.2⟩
                case measure => simp [intOf]; omega
            · have hj30 : ¬ ((j : Int) < 30) := by omega
              go_wp2_with (fail)
              go_meet
              case rel => exact ⟨Y, fs, ad, m, fc, by omega, HL, rfl, Hfs, Lib.hid (HF.out.more (by omega) (by omega)), HO, HD, HY, HB⟩
          · go_wp2_with (fail)
            go_meet
            case rel => exact ⟨Y, fs, ad, m, fc, by omega, HL, rfl, Hfs, Lib.hid (HF.out.more (by omega) (by omega)), HO, HD, HY, HB⟩
      case rest =>
        clear HF HY HB Y
        obtain ⟨Y, fs, ad, m, fc, hm30, HL, rfl, Hfs, HF, HO, HD, HY, HB⟩ := hcut
        have hm2 : (m : Int) ≤ 30 := by omega
        go_wp2_with (fail)
        go_loopw [9, 10, 11] (fun s9 _ _ wr => ∃ (k : Nat) (Z : Nat → Prop), k ≤ m ∧ s9 = .int .i64 ((k : Int) - 1) ∧ Hid (Sf Z sb wr (tP (fs.take k)) (76000 + 2000 * (m - k))) ∧ Hid (wr.ownsRow 0 3 1 (.slice ad m fc) m ((asI fs).map (.int .i64))) ∧
          Hid (∀ b, (Value.slice ad m fc).ownBlock = some b → ¬ Z b ∧ w.heap.size ≤ b) ∧ Hid (∀ b, Z b → w.heap.size ≤ b) ∧ Hid (Below w.heap.size w wr)) (fun s9 _ _ _ => (intOf s9 + 1).toNat)
        case atStart => exact ⟨m, Y, by omega, rfl, Lib.hid (by rw [Nat.sub_self, ← HL.out, List.take_length]; exact HF.out), HO, HD, HY, HB⟩
        case round =>
          obtain ⟨k, Z, hkm, rfl, HFz, HOz, HDz, HYz, HBz⟩ := hrel
          by_cases hk0 : k = 0
          · subst hk0
            have HFe : Hid (Sf Z sb wr (tP []) 200000) := Lib.hid (by have := HFz.out; rw [List.take_zero] at this; exact this.more (by omega) (by omega))
            have HA := Lib.hid (alloc_f HFe.out 0 (by omega) (r := -1) (k := 5) (by decide))
            clear HFz HOz HDz HFe
            go_wp2_with (fail)
            refine HA.out.mono ?_
            rintro e w5 ⟨rfl, hN⟩
            obtain ⟨_, _, _, _, _, g5⟩ := hN.below HBz.out HBz.out.size HYz.out
            have G5 := Lib.hid g5
            clear hN g5
            go_wp2
            go_ret
            exact ⟨rfl, G5.out⟩
          · obtain ⟨q, rfl⟩ : ∃ q, k = q + 1 := ⟨k - 1, by omega⟩
            have eq1 : ((q + 1 : Nat) : Int) - 1 = (q : Int) := by omega
            rw [eq1]
            have hql : q < fs.length := by rw [HL.out]; omega
            obtain ⟨x, hx⟩ : ∃ x, fs[q]?.getD 0 = x := ⟨_, rfl⟩
            have hxm : fs[q] = x := by rw [List.getElem?_eq_getElem hql] at hx; exact hx
            have hx8 : x < 8 := Hfs.out.2 x (hxm ▸ List.getElem_mem hql)
            have htk : fs.take (q + 1) = fs.take q ++ [x] := by rw [List.take_add_one, List.getElem?_eq_getElem hql, hxm]; rfl
            have hxn : x ∉ fs.take q := by
              have h1 := Hfs.out.1
              rw [← List.take_append_drop (q + 1) fs, List.nodup_append] at h1
              have h2 := h1.1
              rw [htk, List.nodup_append] at h2
              exact fun h3 => h2.2.2 x h3 x (List.mem_singleton_self _) rfl
            have hal := tP_alloc (fs.take q) hx8 hxn
            rw [← htk] at hal
            have HA := Lib.hid (alloc_f HFz.out 0 (by omega) hal.1)
            rw [hal.2] at HA
            obtain ⟨g0, fc', e0, _, _⟩ := HOz.out.form (by omega)
            obtain ⟨rfl, rfl⟩ : ad = some ⟨g0, 0, none⟩ ∧ fc = fc' := by simpa using e0
            have hqm : (q : Int) < (m : Int) := by omega
            have hq30 : (q : Int) ≤ 30 := by omega
            have Heq1 := Lib.hid eq1
            clear hal htk hxn hxm hql e0 HFz hk0 eq1
            go_wp2_with (fail)
            refine HA.out.mono ?_
            rintro e w5 ⟨rfl, hN⟩
            obtain ⟨Z', g1, g2, g3, g4, g5⟩ := hN.below HBz.out HBz.out.size HYz.out
            have hO5 := own_tchB HOz.out g2 (fun b hb hx => (HDz.out b hb).1 hx)
            have hc5 := own_int hO5 q (by omega)
            rw [asI_at, hx] at hc5
            have G1 := Lib.hid g1
            have G4 := Lib.hid g4
            have G5 := Lib.hid g5
            have GO := Lib.hid hO5
            have GD : Hid (∀ b, (Value.slice (some ⟨g0, 0, none⟩) m fc).ownBlock = some b → ¬ Z' b ∧ w.heap.size ≤ b) := Lib.hid (fun b hb => ⟨fun hxz => by
              rcases g3 b hxz with h1 | h1
              · exact (HDz.out b hb).1 h1
              · obtain ⟨_, _, _, _, h2⟩ := own_cells HOz.out hb
                omega, (HDz.out b hb).2⟩)
            clear hN g1 g2 g3 g4 g5 hO5 hx HOz HDz HA
            go_wp2_with (fail)
            go_roundw
            case rel => exact ⟨q, Z', by omega, by go_num, Lib.hid (by rw [show 76000 + 2000 * (m - q) = 76000 + 2000 * (m - (q + 1)) + 2000 by omega]; exact G1.out), GO, GD, G4, G5⟩
            case measure => (simp [intOf]; try omega)
end Go.Proofs.Ytfmgncajhjkdlaa
