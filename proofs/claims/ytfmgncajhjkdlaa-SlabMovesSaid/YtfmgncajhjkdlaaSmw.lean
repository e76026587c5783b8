/- SlabMoves' walk. -/
import Derived.Test.YtfmgncajhjkdlaaSmo
import Derived.Test.YtfmgncajhjkdlaaStw
import Derived.Deep.RegionHeld3
namespace Go.Proofs.Ytfmgncajhjkdlaa
open Go.RowKit Go.PlainAid
open SP
set_option linter.unusedVariables false
set_option linter.unusedSimpArgs false

/-- the row of marks that the caller keeps -/
structure Mk (w : World) (Y : Nat → Prop) (B ug : Nat) (us : List Bool) : Prop where
  own : w.ownsRow 0 4 1 (.slice (some ⟨ug, 0, none⟩) 8 8) 8 (us.map .bool)
  far : ¬ Y ug
  lo : B ≤ ug
theorem own_bool {w : World} {base g N cap : Nat} {r : List Bool} (h : w.ownsRow base 4 1 (.slice (some ⟨g, 0, none⟩) N cap) N (r.map .bool)) (i : Nat) (hi : i < N) : w.cell? ⟨g, i, none⟩ = some (.bool (r[i]?.getD false)) := by
  have hl : r.length = N := by simpa using h.1
  rw [h.cellAt i (by omega)]
  simp [show i < r.length by omega]
theorem Mk.nx {w w' : World} {Y Y' : Nat → Prop} {B ug : Nat} {us : List Bool} (h : Mk w Y B ug us) (ht : Tch Y w w') (hy : ∀ b, Y' b → Y b ∨ w.heap.size ≤ b) : Mk w' Y' B ug us :=
  ⟨own_tchB h.own ht (fun b hb => by rw [← (show ug = b by simpa [Value.ownBlock] using hb)]; exact h.far), fun hx => by
    rcases hy ug hx with h1 | h1
    · exact h.far h1
    · obtain ⟨_, _, _, _, h2⟩ := own_cells h.own (b := ug) rfl
      omega, h.lo⟩
theorem Mk.below {w w' : World} {Y : Nat → Prop} {B ug : Nat} {us : List Bool} (h : Mk w Y B ug us) (hb : Below w.heap.size w w') : Mk w' Y B ug us := h.nx (Tch.of_below _ hb) (fun _ h => .inl h)
/-- a mark written -/
theorem Mk.set {w : World} {Y : Nat → Prop} {B ug : Nat} {us : List Bool} (h : Mk w Y B ug us) (i : Nat) (b : Bool) : Mk (w.setCell ⟨ug, i, none⟩ (.bool b)) Y B ug (us.set i b) := by
  have h1 := (h.own.stored i (.bool b)).1
  rw [← List.map_set] at h1
  exact ⟨h1, h.far, h.lo⟩
theorem Sf.set {Y : Nat → Prop} {sb : Nat} {w : World} {π : Pi} {L ug : Nat} (h : Sf Y sb w π L) (hu : ¬ Y ug) (i : Nat) (v : Value) : Sf Y sb (w.setCell ⟨ug, i, none⟩ v) π L :=
  h.keep (Tch.setCell w ug i v) (fun b hb e => hu (e ▸ hb))
theorem below_set {B : Nat} {w0 w : World} (h : Below B w0 w) (hB : B ≤ w.heap.size) {ug : Nat} (hu : B ≤ ug) (i : Nat) (v : Value) : Below B w0 (w.setCell ⟨ug, i, none⟩ v) :=
  Tch.below h (Tch.setCell w ug i v) hB (fun b hb => by omega)

set_option maxRecDepth 100000 in
set_option maxHeartbeats 4000000 in
theorem moves_walk (l1 l2 : List Int) (a1 a2 : Option Addr) (n1 n2 c1 c2 : Nat) (w : World) (hr1 : RI w (.slice a1 n1 c1) l1) (hr2 : RI w (.slice a2 n2 c2) l2) (hln1 : l1.length = n1) (hln2 : l2.length = n2) :
    Calls Try.prog 5 #[.slice a1 n1 c1, .slice a2 n2 c2] w fun e w' => e = .returned (.bool true) ∧ Below w.heap.size w w' := by
  have HM : Hid (∀ w1 : World, Calls Try.prog 9 #[.int .i64 1, .slice (some ⟨w1.heap.size, 0, none⟩) 3 3] (w1.alloc (.cells #[.int .i64 64, .int .i64 128, .int .i64 512] 3)) fun e w' => ∃ sb, e = .returned (.pointer (some ⟨sb, 0, none⟩)) ∧ Sl (w1.heap.size + 1) sb w' mv0 0 ∧ Below (w1.heap.size + 1) (w1.alloc (.cells #[.int .i64 64, .int .i64 128, .int .i64 512] 3)) w') := Lib.hid (fun w1 => by
    have hri := ri_lit (w := w1.alloc (.cells #[.int .i64 64, .int .i64 128, .int .i64 512] 3)) (l := [64, 128, 512]) (k := w1.heap.size) (t := 3) (World.alloc_heap_new w1 _) 3
    have := made_ok 1 (by omega) ⟨w1.heap.size, 0, none⟩ 3 3 [64, 128, 512] _ hri (by omega) ⟨by decide, by decide, by decide, fun i hi => by
      have : i = 0 ∨ i = 1 := by simp at hi; omega
      rcases this with rfl | rfl <;> decide⟩
    rw [show (w1.alloc (.cells #[.int .i64 64, .int .i64 128, .int .i64 512] 3)).heap.size = w1.heap.size + 1 by simp] at this
    exact this)
  have Hr1 := Lib.hid hr1
  have Hr2 := Lib.hid hr2
  clear hr1 hr2
  go_enter Try.func5, Try.ntmps5
  go_wp2_with (fail)
  refine (shown_any w).mono ?_
  rintro e w1 ⟨rfl, hb1⟩
  go_wp2_with (fail)
  refine (HM.out w1).mono ?_
  rintro e w2 ⟨sb, rfl, hS0, hb2⟩
  have hb12 : Below w.heap.size w w2 := hb1.trans ((((Below.refl _ w1).alloc (Nat.le_refl _) _).mono hb1.size).trans (hb2.mono (by have := hb1.size; omega)))
  obtain ⟨Y0, hF0, hY0⟩ := hS0.sf
  have HF0 := Lib.hid hF0
  have HY0 : Hid (∀ b, Y0 b → w.heap.size ≤ b) := Lib.hid (fun b hb => by have := hY0 b hb; have := hb1.size; omega)
  have HB0 := Lib.hid hb12
  clear hS0 hb2 hb12 hF0 hY0 hb1 HM
  obtain ⟨i0, hi0, hz0, hz1, hz2⟩ := info_parts boolE_info
  go_wp2_with (at_make; go_must (refine wpList_make_full w2 rfl _ _ 35 rfl w2.heap.size 4 i0 (.bool false) 1 Try.underlying35 hi0 hz0 hz1 _ _ _ _ 8 rfl rfl rfl rfl (by rw [hz2]; omega) (by unfold maxLen; omega) (Nat.le_refl _) ?_); intro w3 ho3 hg3)
  have hY0u : ¬ Y0 w2.heap.size := fun h => by have := HF0.out.ylt _ h; omega
  have hrep : (madeCells (Value.bool false).cells (8 * 1)).toList = (List.replicate 8 false).map .bool := by
    rw [Nat.mul_one]; exact (toList_madeCells_one _ 8).trans (by simp)
  rw [hrep] at ho3
  have hb3 : Below w2.heap.size w2 w3 := (Below.refl _ _).grown hg3 (Nat.le_refl _) (fun _ h => by cases h)
  have HF3 := Lib.hid (HF0.out.below hb3)
  have HB3 := Lib.hid (HB0.out.trans (hb3.mono HB0.out.size))
  have HK3 : Hid (Mk w3 Y0 w.heap.size w2.heap.size (List.replicate 0 true ++ List.replicate (8 - 0) false)) := Lib.hid ⟨own_zero ho3, hY0u, HB0.out.size⟩
  generalize w2.heap.size = ug at *
  clear ho3 hg3 hrep hb3 hY0u HF0 HB0
  go_loopw [8, 9, 10] (fun s8 _ _ wr => ∃ (j : Nat) (Y : Nat → Prop), j ≤ 8 ∧ s8 = .int .i64 j ∧ Hid (Sf Y sb wr (alN j mv0) (2000 * j)) ∧ Hid (Mk wr Y w.heap.size ug (List.replicate j true ++ List.replicate (8 - j) false)) ∧ Hid (∀ b, Y b → w.heap.size ≤ b) ∧ Hid (Below w.heap.size w wr)) (fun s8 _ _ _ => 8 - (intOf s8).toNat)
  case atStart => exact ⟨0, Y0, by omega, rfl, HF3, HK3, HY0, HB3⟩
  case round =>
    clear HF3 HK3 HY0 HB3 Y0
    obtain ⟨j, Y, hj, rfl, HF, HK, HY, HB⟩ := hrel
    by_cases hlt : j < 8
    · have HA := Lib.hid (alloc_f HF.out 0 (by omega) (mvI j hlt))
      go_wp2_with (fail)
      refine HA.out.mono ?_
      rintro e w4 ⟨rfl, hN⟩
      obtain ⟨Y', g1, g2, g3, g4, g5⟩ := hN.below HB.out HB.out.size HY.out
      have hK4 := HK.out.nx g2 g3
      have hc4 := own_bool hK4.own j hlt
      have hf4 := hK4.own.frozenAt j
      have GF := Lib.hid (g1.set hK4.far j (.bool true))
      have hk5 := hK4.set j true
      have hus : (List.replicate j true ++ List.replicate (8 - j) false).set j true = List.replicate (j + 1) true ++ List.replicate (8 - (j + 1)) false := by
        rw [List.set_append_right _ _ (by simp), List.length_replicate, Nat.sub_self, show 8 - j = (8 - (j + 1)) + 1 by omega, List.replicate_succ, List.set_cons_zero, List.replicate_succ']
        simp
      rw [hus] at hk5
      have GK := Lib.hid hk5
      have GY := Lib.hid g4
      have GB := Lib.hid (below_set g5 g5.size hK4.lo j (.bool true))
      generalize (List.replicate j true ++ List.replicate (8 - j) false)[j]?.getD false = old at hc4
      clear hN g1 g2 g3 g4 g5 hK4 hk5 hus HF HK HY HB HA
      go_wp2_with (fail)
      go_roundw
      case rel => exact ⟨j + 1, Y', by omega, by go_num, Lib.hid (by rw [show 2000 * (j + 1) = 2000 * j + 2000 by omega]; exact GF.out), GK, GY, GB⟩
      case measure => simp [intOf]; omega
    · have hj8 : j = 8 := by omega
      rw [hj8, mv8, show 2000 * 8 = 16000 from rfl] at HF
      have HK2 : Hid (Mk wr Y w.heap.size ug (usL [])) := Lib.hid (by have := HK.out; rw [hj8] at this; exact this)
      clear hj8 HK
      go_upto_block 2 with (fail)
      clear hlt hj
      go_cut [11] from 56 to 88 (fun s11 wx => ∃ (Y : Nat → Prop) (fs : List Nat) (lf : Int), s11 = .int .i64 lf ∧ 0 ≤ lf ∧ lf ≤ 8 ∧ Hid (lf = 8 - (fs.length : Int)) ∧ Hid (fs.Nodup ∧ ∀ k ∈ fs, k < 8) ∧ Hid (Sf Y sb wx (oP fs) 60000) ∧ Hid (Mk wx Y w.heap.size ug (usL fs)) ∧ Hid (∀ b, Y b → w.heap.size ≤ b) ∧ Hid (Below w.heap.size w wx))
      case first =>
        go_wp2_with (fail)
        go_loopw [11, 12, 13] (fun s11 si _ wr => ∃ (j : Nat) (Y : Nat → Prop) (fs : List Nat) (lf : Int), j ≤ n1 ∧ j ≤ 20 ∧ si = .int .i64 j ∧ s11 = .int .i64 lf ∧ 0 ≤ lf ∧ lf ≤ 8 ∧ Hid (lf = 8 - (fs.length : Int)) ∧ Hid (fs.Nodup ∧ ∀ k ∈ fs, k < 8) ∧
          Hid (Sf Y sb wr (oP fs) (16000 + 2000 * j)) ∧ Hid (Mk wr Y w.heap.size ug (usL fs)) ∧ Hid (∀ b, Y b → w.heap.size ≤ b) ∧ Hid (Below w.heap.size w wr)) (fun _ si _ _ => n1 - (intOf si).toNat)
        case atStart => exact ⟨0, Y, [], 8, by omega, by omega, rfl, rfl, by omega, by omega, Lib.hid (by simp), Lib.hid ⟨by simp, by simp⟩, HF, HK2, HY, HB⟩
        case round =>
          clear HF HK2 HY HB Y
          obtain ⟨j, Y, fs, lf, hjn, hj2, rfl, rfl, hlf0, hlf8, HL, Hfs, HF, HK, HY, HB⟩ := hrel
          by_cases hlt : j < n1
          · by_cases hlt2 : j < 20
            · obtain ⟨b, o, rfl, hc⟩ := Hr1.out.atW HB.out hlt
              obtain ⟨kN, hkN⟩ : ∃ kN : Nat, l1[j]?.getD 0 % 8 = (kN : Int) := ⟨(l1[j]?.getD 0 % 8).toNat, by omega⟩
              have hk8 : kN < 8 := by omega
              have hand : bits .and .i64 (l1[j]?.getD 0) 7 = (kN : Int) := (i64_and7 _).trans hkN
              generalize l1[j]?.getD 0 = x at *
              clear hkN
              have hj20 : (j : Int) < 20 := by omega
              have hkI : (kN : Int) < 8 := by omega
              have hcd := own_bool (HK.out.below (Below.refl _ wr).drew).own kN hk8
              rw [usL_at fs hk8] at hcd
              by_cases hin : kN ∈ fs
              · rw [show fs.contains kN = true by simpa using hin, Bool.not_true] at hcd
                have hfr := oP_not fs hk8 hin
                have HFr := Lib.hid (free_f (HF.out.below (Below.refl _ wr).drew) (kN : Int) (by omega) (by omega) hfr.1)
                rw [hfr.2] at HFr
                have HNX : Hid (∀ w4, Nx Y sb wr.drew (oP fs) (16000 + 2000 * j + 2000) w4 → ∃ Y', Hid (Sf Y' sb w4 (oP fs) (16000 + 2000 * j + 2000)) ∧ Hid (Mk w4 Y' w.heap.size ug (usL fs)) ∧ Hid (∀ b, Y' b → w.heap.size ≤ b) ∧ Hid (Below w.heap.size w w4) ∧ w4.cell? ⟨ug, kN, none⟩ = some (.bool false) ∧ w4.frozen? ⟨ug, kN, none⟩ = false) := Lib.hid (fun w4 hN => by
                  obtain ⟨Y', g1, g2, g3, g4, g5⟩ := hN.below HB.out.drew HB.out.size HY.out
                  have hK4 := (HK.out.below (Below.refl _ wr).drew).nx g2 g3
                  have h9 := own_bool hK4.own kN hk8
                  rw [usL_at fs hk8, show fs.contains kN = true by simpa using hin, Bool.not_true] at h9
                  exact ⟨Y', Lib.hid g1, Lib.hid hK4, Lib.hid g4, Lib.hid g5, h9, hK4.own.frozenAt kN⟩)
                have HS : Hid ((usL fs).set kN false = usL fs) := Lib.hid (usL_same fs hin)
                clear hin hfr
                go_upto_region 18 with (fail)
                go_region_held3 (fun w' => w'.cell? ⟨ug, kN, none⟩ = some (.bool false)) (first | exact hcd | exact hc4) (first | (go_at_call 12; refine HFr.out.mono ?_; rintro e w4 ⟨rfl, hN⟩; obtain ⟨Y', G1, GK, GY, GB, hc4, hf4⟩ := HNX.out w4 hN; clear hN))
                all_goals go_wp2
                all_goals go_roundw
                case rel => exact ⟨j + 1, Y', fs, lf, by omega, by omega, by go_num, by go_num, by omega, by omega, HL, Hfs, Lib.hid (by rw [show 16000 + 2000 * (j + 1) = 16000 + 2000 * j + 2000 by omega]; exact G1.out.set GK.out.far kN _), Lib.hid (by rw [← HS.out]; exact GK.out.set kN false), GY, Lib.hid (below_set GB.out GB.out.size GK.out.lo kN _)⟩
                case measure => simp [intOf]; omega
              · rw [show fs.contains kN = false by simpa using hin, Bool.not_false] at hcd
                have hfr := oP_free fs hk8 hin
                have HFr := Lib.hid (free_f (HF.out.below (Below.refl _ wr).drew) (kN : Int) (by omega) (by omega) hfr.1)
                rw [hfr.2] at HFr
                have HNX : Hid (∀ w4, Nx Y sb wr.drew (oP (fs ++ [kN])) (16000 + 2000 * j + 2000) w4 → ∃ Y', Hid (Sf Y' sb w4 (oP (fs ++ [kN])) (16000 + 2000 * j + 2000)) ∧ Hid (Mk w4 Y' w.heap.size ug (usL fs)) ∧ Hid (∀ b, Y' b → w.heap.size ≤ b) ∧ Hid (Below w.heap.size w w4) ∧ w4.cell? ⟨ug, kN, none⟩ = some (.bool true) ∧ w4.frozen? ⟨ug, kN, none⟩ = false) := Lib.hid (fun w4 hN => by
                  obtain ⟨Y', g1, g2, g3, g4, g5⟩ := hN.below HB.out.drew HB.out.size HY.out
                  have hK4 := (HK.out.below (Below.refl _ wr).drew).nx g2 g3
                  have h9 := own_bool hK4.own kN hk8
                  rw [usL_at fs hk8, show fs.contains kN = false by simpa using hin, Bool.not_false] at h9
                  exact ⟨Y', Lib.hid g1, Lib.hid hK4, Lib.hid g4, Lib.hid g5, h9, hK4.own.frozenAt kN⟩)
                have HS : Hid ((usL fs).set kN false = usL (fs ++ [kN])) := Lib.hid (usL_set fs kN)
                have Hfs' : Hid ((fs ++ [kN]).Nodup ∧ ∀ k ∈ fs ++ [kN], k < 8) := Lib.hid ⟨by
                  rw [List.nodup_append]
                  exact ⟨Hfs.out.1, by simp, fun x hx y hy e => hin (by rw [← (show y = kN by simpa using hy), ← e]; exact hx)⟩, fun k hk => by
                  rcases List.mem_append.1 hk with h1 | h1
                  · exact Hfs.out.2 k h1
                  · rw [show k = kN by simpa using h1]; exact hk8⟩
                have hlf1 : 1 ≤ lf := by
                  have h1 := cnt _ Hfs'.out.1 Hfs'.out.2
                  have h2 := HL.out
                  simp only [List.length_append, List.length_cons, List.length_nil] at h1
                  omega
                have HL' : Hid (lf - 1 = 8 - ((fs ++ [kN]).length : Int)) := Lib.hid (by have := HL.out; simp; omega)
                clear hin hfr
                go_upto_region 18 with (fail)
                go_region_held3 (fun w' => w'.cell? ⟨ug, kN, none⟩ = some (.bool true)) (first | exact hcd | exact hc4) (first | (go_at_call 12; refine HFr.out.mono ?_; rintro e w4 ⟨rfl, hN⟩; obtain ⟨Y', G1, GK, GY, GB, hc4, hf4⟩ := HNX.out w4 hN; clear hN))
                all_goals go_wp2
                all_goals go_roundw
                case rel => exact ⟨j + 1, Y', (fs ++ [kN]), (lf - 1), by omega, by omega, by go_num, by go_num, by omega, by omega, HL', Hfs', Lib.hid (by rw [show 16000 + 2000 * (j + 1) = 16000 + 2000 * j + 2000 by omega]; exact G1.out.set GK.out.far kN _), Lib.hid (by rw [← HS.out]; exact GK.out.set kN false), GY, Lib.hid (below_set GB.out GB.out.size GK.out.lo kN _)⟩
                case measure => simp [intOf]; omega
            · have hj20 : ¬ ((j : Int) < 20) := by omega
              go_wp2_with (fail)
              go_meet
              case rel => exact ⟨Y, fs, lf, rfl, hlf0, hlf8, HL, Hfs, Lib.hid (HF.out.more (by omega) (by omega)), HK, HY, HB⟩
          · go_wp2_with (fail)
            go_meet
            case rel => exact ⟨Y, fs, lf, rfl, hlf0, hlf8, HL, Hfs, Lib.hid (HF.out.more (by omega) (by omega)), HK, HY, HB⟩
      case rest =>
        clear HF HK2 HY HB Y
        obtain ⟨Y, fs, lf, rfl, hlf0, hlf8, HL, Hfs, HF, HK, HY, HB⟩ := hcut
        have hcl := oP_close fs Hfs.out.2
        have HC1 := Lib.hid (close_f HF.out 0 (by omega) (by omega) hcl.1)
        rw [hcl.2] at HC1
        clear hcl
        go_wp2_with (fail)
        refine HC1.out.mono ?_
        rintro e w5 ⟨rfl, hN⟩
        obtain ⟨Z1, g1, g2, g3, g4, g5⟩ := hN.below HB.out HB.out.size HY.out
        have Q2 := Lib.hid (HK.out.nx g2 g3)
        have Q3 := Lib.hid g4
        have Q4 := Lib.hid g5
        have HC2 := Lib.hid (close_f g1 0 (by omega) (by omega) (cP_close fs).1)
        rw [(cP_close fs).2] at HC2
        clear hN g1 g2 g3 g4 g5 HC1 HF HK HY HB
        go_wp2_with (fail)
        refine HC2.out.mono ?_
        rintro e w6 ⟨rfl, hN⟩
        obtain ⟨Z2, g1, g2, g3, g4, g5⟩ := hN.below Q4.out Q4.out.size Q3.out
        have R1 : Hid (Sf Z2 sb w6 (cP fs) (64000 + 4000 * 0)) := Lib.hid g1
        have R2 := Lib.hid (Q2.out.nx g2 g3)
        have R3 := Lib.hid g4
        have R4 := Lib.hid g5
        clear hN g1 g2 g3 g4 g5 HC2 Q2 Q3 Q4
        go_upto_block 4 with (fail)
        go_cut [11] from 97 to 136 (fun s11 wx => ∃ (Y : Nat → Prop) (fs : List Nat) (lf : Int), s11 = .int .i64 lf ∧ 0 ≤ lf ∧ lf ≤ 8 ∧ Hid (lf = 8 - (fs.length : Int)) ∧ Hid (fs.Nodup ∧ ∀ k ∈ fs, k < 8) ∧ Hid (Sf Y sb wx (cP fs) 200000) ∧ Hid (Mk wx Y w.heap.size ug (usL fs)) ∧ Hid (∀ b, Y b → w.heap.size ≤ b) ∧ Hid (Below w.heap.size w wx))
        case first =>
          go_wp2_with (fail)
          go_loopw [11, 14, 15, 16, 17] (fun s11 si _ _ _ wr => ∃ (j : Nat) (Y : Nat → Prop) (fs : List Nat) (lf : Int), j ≤ n2 ∧ j ≤ 20 ∧ si = .int .i64 j ∧ s11 = .int .i64 lf ∧ 0 ≤ lf ∧ lf ≤ 8 ∧ Hid (lf = 8 - (fs.length : Int)) ∧ Hid (fs.Nodup ∧ ∀ k ∈ fs, k < 8) ∧
            Hid (Sf Y sb wr (cP fs) (64000 + 4000 * j)) ∧ Hid (Mk wr Y w.heap.size ug (usL fs)) ∧ Hid (∀ b, Y b → w.heap.size ≤ b) ∧ Hid (Below w.heap.size w wr)) (fun _ si _ _ _ _ => n2 - (intOf si).toNat)
          case atStart => exact ⟨0, Z2, fs, lf, by omega, by omega, rfl, rfl, hlf0, hlf8, HL, Hfs, R1, R2, R3, R4⟩
          case round =>
            clear R1 R2 R3 R4 Z2 HL Hfs fs hlf0 hlf8
            obtain ⟨j, Y, fs, lf, hjn, hj2, rfl, rfl, hlf0, hlf8, HL, Hfs, HF, HK, HY, HB⟩ := hrel
            by_cases hlt : j < n2
            · by_cases hlt2 : j < 20
              · obtain ⟨b, o, rfl, hc⟩ := Hr2.out.atW HB.out hlt
                obtain ⟨kN, hkN⟩ : ∃ kN : Nat, l2[j]?.getD 0 % 8 = (kN : Int) := ⟨(l2[j]?.getD 0 % 8).toNat, by omega⟩
                have hk8 : kN < 8 := by omega
                have hand : bits .and .i64 (l2[j]?.getD 0) 7 = (kN : Int) := (i64_and7 _).trans hkN
                generalize l2[j]?.getD 0 = x at *
                clear hkN
                have hj20 : (j : Int) < 20 := by omega
                have hkI : (kN : Int) < 8 := by omega
                have hcd := own_bool (HK.out.below (Below.refl _ wr).drew).own kN hk8
                rw [usL_at fs hk8] at hcd
                by_cases hin : kN ∈ fs
                · rw [show fs.contains kN = true by simpa using hin, Bool.not_true] at hcd
                  have hfr := cP_not fs hk8 hin
                  have HFr := Lib.hid (free_f (HF.out.below (Below.refl _ wr).drew) (kN : Int) (by omega) (by omega) hfr.1)
                  rw [hfr.2] at HFr
                  have HNX : Hid (∀ w4, Nx Y sb wr.drew (cP fs) (64000 + 4000 * j + 2000) w4 → ∃ Y', Hid (Sf Y' sb w4 (cP fs) (64000 + 4000 * j + 2000)) ∧ Hid (Mk w4 Y' w.heap.size ug (usL fs)) ∧ Hid (∀ b, Y' b → w.heap.size ≤ b) ∧ Hid (Below w.heap.size w w4) ∧ w4.cell? ⟨ug, kN, none⟩ = some (.bool false) ∧ w4.frozen? ⟨ug, kN, none⟩ = false) := Lib.hid (fun w4 hN => by
                    obtain ⟨Y', g1, g2, g3, g4, g5⟩ := hN.below HB.out.drew HB.out.size HY.out
                    have hK4 := (HK.out.below (Below.refl _ wr).drew).nx g2 g3
                    have h9 := own_bool hK4.own kN hk8
                    rw [usL_at fs hk8, show fs.contains kN = true by simpa using hin, Bool.not_true] at h9
                    exact ⟨Y', Lib.hid g1, Lib.hid hK4, Lib.hid g4, Lib.hid g5, h9, hK4.own.frozenAt kN⟩)
                  have HS : Hid ((usL fs).set kN false = usL fs) := Lib.hid (usL_same fs hin)
                  clear hin hfr
                  go_upto_region 29 with (fail)
                  go_region_held3 (fun w' => w'.cell? ⟨ug, kN, none⟩ = some (.bool false)) (first | exact hcd | exact hc4) (first | (go_at_call 12; refine HFr.out.mono ?_; rintro e w4 ⟨rfl, hN⟩; obtain ⟨Y', G1, GK, GY, GB, hc4, hf4⟩ := HNX.out w4 hN; clear hN))
                  go_upto_region 34 with (fail)
                  have GF5 := Lib.hid (G1.out.set GK.out.far kN (.bool false))
                  have GK5 : Hid (Mk (w4.setCell ⟨ug, kN, none⟩ (.bool false)) Y' w.heap.size ug (usL fs)) := Lib.hid (by rw [← HS.out]; exact GK.out.set kN false)
                  have GB5 := Lib.hid (below_set GB.out GB.out.size GK.out.lo kN (.bool false))
                  have HA := Lib.hid (alloc_f GF5.out 0 (by omega) (cP_alloc fs).1)
                  rw [(cP_alloc fs).2] at HA
                  generalize w4.setCell ⟨ug, kN, none⟩ (.bool false) = w5 at *
                  go_wp2_with (fail)
                  refine HA.out.mono ?_
                  rintro e w6 ⟨rfl, hN⟩
                  obtain ⟨Z, g1, g2, g3, g4, g5⟩ := hN.below GB5.out GB5.out.size GY.out
                  have Q1 := Lib.hid g1
                  have Q2 := Lib.hid (GK5.out.nx g2 g3)
                  have Q3 := Lib.hid g4
                  have Q4 := Lib.hid g5
                  clear hN g1 g2 g3 g4 g5 HA GF5 GK5 GB5 G1 GK GB GY
                  go_wp2_with (fail)
                  go_roundw
                  case rel => exact ⟨j + 1, Z, fs, lf, by omega, by omega, by go_num, by go_num, by omega, by omega, HL, Hfs, Lib.hid (by rw [show 64000 + 4000 * (j + 1) = 64000 + 4000 * j + 2000 + 2000 by omega]; exact Q1.out), Q2, Q3, Q4⟩
                  case measure => simp [intOf]; omega
                · rw [show fs.contains kN = false by simpa using hin, Bool.not_false] at hcd
                  have hfr := cP_free fs hk8 hin
                  have HFr := Lib.hid (free_f (HF.out.below (Below.refl _ wr).drew) (kN : Int) (by omega) (by omega) hfr.1)
                  rw [hfr.2] at HFr
                  have HNX : Hid (∀ w4, Nx Y sb wr.drew (cP (fs ++ [kN])) (64000 + 4000 * j + 2000) w4 → ∃ Y', Hid (Sf Y' sb w4 (cP (fs ++ [kN])) (64000 + 4000 * j + 2000)) ∧ Hid (Mk w4 Y' w.heap.size ug (usL fs)) ∧ Hid (∀ b, Y' b → w.heap.size ≤ b) ∧ Hid (Below w.heap.size w w4) ∧ w4.cell? ⟨ug, kN, none⟩ = some (.bool true) ∧ w4.frozen? ⟨ug, kN, none⟩ = false) := Lib.hid (fun w4 hN => by
                    obtain ⟨Y', g1, g2, g3, g4, g5⟩ := hN.below HB.out.drew HB.out.size HY.out
                    have hK4 := (HK.out.below (Below.refl _ wr).drew).nx g2 g3
                    have h9 := own_bool hK4.own kN hk8
                    rw [usL_at fs hk8, show fs.contains kN = false by simpa using hin, Bool.not_false] at h9
                    exact ⟨Y', Lib.hid g1, Lib.hid hK4, Lib.hid g4, Lib.hid g5, h9, hK4.own.frozenAt kN⟩)
                  have HS : Hid ((usL fs).set kN false = usL (fs ++ [kN])) := Lib.hid (usL_set fs kN)
                  have Hfs' : Hid ((fs ++ [kN]).Nodup ∧ ∀ k ∈ fs ++ [kN], k < 8) := Lib.hid ⟨by
                    rw [List.nodup_append]
                    exact ⟨Hfs.out.1, by simp, fun x hx y hy e => hin (by rw [← (show y = kN by simpa using hy), ← e]; exact hx)⟩, fun k hk => by
                    rcases List.mem_append.1 hk with h1 | h1
                    · exact Hfs.out.2 k h1
                    · rw [show k = kN by simpa using h1]; exact hk8⟩
                  have hlf1 : 1 ≤ lf := by
                    have h1 := cnt _ Hfs'.out.1 Hfs'.out.2
                    have h2 := HL.out
                    simp only [List.length_append, List.length_cons, List.length_nil] at h1
                    omega
                  have HL' : Hid (lf - 1 = 8 - ((fs ++ [kN]).length : Int)) := Lib.hid (by have := HL.out; simp; omega)
                  clear hin hfr
                  go_upto_region 29 with (fail)
                  go_region_held3 (fun w' => w'.cell? ⟨ug, kN, none⟩ = some (.bool true)) (first | exact hcd | exact hc4) (first | (go_at_call 12; refine HFr.out.mono ?_; rintro e w4 ⟨rfl, hN⟩; obtain ⟨Y', G1, GK, GY, GB, hc4, hf4⟩ := HNX.out w4 hN; clear hN))
                  go_upto_region 34 with (fail)
                  have GF5 := Lib.hid (G1.out.set GK.out.far kN (.bool false))
                  have GK5 : Hid (Mk (w4.setCell ⟨ug, kN, none⟩ (.bool false)) Y' w.heap.size ug (usL (fs ++ [kN]))) := Lib.hid (by rw [← HS.out]; exact GK.out.set kN false)
                  have GB5 := Lib.hid (below_set GB.out GB.out.size GK.out.lo kN (.bool false))
                  have HA := Lib.hid (alloc_f GF5.out 0 (by omega) (cP_alloc (fs ++ [kN])).1)
                  rw [(cP_alloc (fs ++ [kN])).2] at HA
                  generalize w4.setCell ⟨ug, kN, none⟩ (.bool false) = w5 at *
                  go_wp2_with (fail)
                  refine HA.out.mono ?_
                  rintro e w6 ⟨rfl, hN⟩
                  obtain ⟨Z, g1, g2, g3, g4, g5⟩ := hN.below GB5.out GB5.out.size GY.out
                  have Q1 := Lib.hid g1
                  have Q2 := Lib.hid (GK5.out.nx g2 g3)
                  have Q3 := Lib.hid g4
                  have Q4 := Lib.hid g5
                  clear hN g1 g2 g3 g4 g5 HA GF5 GK5 GB5 G1 GK GB GY
                  go_wp2_with (fail)
                  go_roundw
                  case rel => exact ⟨j + 1, Z, (fs ++ [kN]), (lf - 1), by omega, by omega, by go_num, by go_num, by omega, by omega, HL', Hfs', Lib.hid (by rw [show 64000 + 4000 * (j + 1) = 64000 + 4000 * j + 2000 + 2000 by omega]; exact Q1.out), Q2, Q3, Q4⟩
                  case measure => simp [intOf]; omega
              · have hj20 : ¬ ((j : Int) < 20) := by omega
                go_wp2_with (fail)
                go_meet
                case rel => exact ⟨Y, fs, lf, rfl, hlf0, hlf8, HL, Hfs, Lib.hid (HF.out.more (by omega) (by omega)), HK, HY, HB⟩
            · go_wp2_with (fail)
              go_meet
              case rel => exact ⟨Y, fs, lf, rfl, hlf0, hlf8, HL, Hfs, Lib.hid (HF.out.more (by omega) (by omega)), HK, HY, HB⟩
        case rest =>
          clear R1 R2 R3 R4 Z2 HL Hfs fs hlf0 hlf8
          obtain ⟨Y, fs, lf, rfl, hlf0, hlf8, HL, Hfs, HF, HK, HY, HB⟩ := hcut
          by_cases hlf : 0 < lf
          · have hfl : fs.length < 8 := by have := HL.out; omega
            have hmv := cP_busy fs hfl
            have HV := Lib.hid (move_f HF.out 0 1 (by omega) (by omega) hmv.1)
            rw [hmv.2] at HV
            obtain ⟨cl, hcl⟩ : ∃ cl, chL (cP fs) 0 = cl := ⟨_, rfl⟩
            have hcn := cP_chunks fs Hfs.out.1 Hfs.out.2
            rw [hcl] at hcn
            obtain ⟨cn, hcnl⟩ : ∃ cn, cl.length = cn := ⟨_, rfl⟩
            have hcnI : (cn : Int) = lf := by have := HL.out; omega
            have HCl := Lib.hid hcl
            have HCn := Lib.hid hcnl
            have Hlf := Lib.hid hlf
            clear hmv hfl hcn hcl hcnl
            go_wp2_with (fail)
            refine HV.out.mono ?_
            rintro e w7 ⟨rfl, hN⟩
            obtain ⟨Z, g1, g2, g3, g4, g5⟩ := hN.below HB.out HB.out.size HY.out
            have HCh := Lib.hid (chunks_f g1 0 (by omega) HCl.out)
            have G5 := Lib.hid g5
            clear hN g1 g2 g3 g4 g5 HV HF HK HY HB
            go_wp2_with (fail)
            refine HCh.out.mono ?_
            rintro e w8 ⟨v, rfl, ho, hb⟩
            obtain ⟨a, cap, rfl, _⟩ := own_sl ho
            rw [HCn.out]
            have G6 := Lib.hid (G5.out.trans (hb.mono G5.out.size))
            clear ho hb HCh
            go_wp2
            go_ret
            exact ⟨rfl, G6.out⟩
          · have hfl : fs.length = 8 := by have := HL.out; omega
            have hall := cP_all fs Hfs.out.1 Hfs.out.2 hfl
            rw [hall] at HF
            have HV := Lib.hid (move_f HF.out 0 1 (by omega) (by omega) mE_1)
            clear hall hfl
            go_wp2_with (fail)
            refine HV.out.mono ?_
            rintro e w7 ⟨rfl, hN⟩
            obtain ⟨Z, g1, g2, g3, g4, g5⟩ := hN.below HB.out HB.out.size HY.out
            have HCo := Lib.hid (counts_f (show Sf Z sb w7 mE _ from g1) 1 mE_2)
            have GF := Lib.hid g1
            have GY := Lib.hid g4
            have G5 := Lib.hid g5
            clear hN g1 g2 g3 g4 g5 HV HF HK HY HB
            go_wp2_with (fail)
            refine HCo.out.mono ?_
            rintro e w8 ⟨rfl, hb8⟩
            have HA := Lib.hid (alloc_f (show Sf Z sb w8 mE _ from GF.out.below hb8) 1 (by omega) mE_3)
            have G6 := Lib.hid (G5.out.trans (hb8.mono G5.out.size))
            clear hb8 HCo GF G5
            go_wp2_with (fail)
            refine HA.out.mono ?_
            rintro e w9 ⟨rfl, hN⟩
            obtain ⟨Z2, g1, g2, g3, g4, g5⟩ := hN.below G6.out G6.out.size GY.out
            have HW := Lib.hid (where_f g1 0 (by omega) mE_4)
            have GF := Lib.hid g1
            have GY2 := Lib.hid g4
            have G7 := Lib.hid g5
            clear hN g1 g2 g3 g4 g5 HA G6 GY
            go_wp2_with (fail)
            refine HW.out.mono ?_
            rintro e w10 ⟨rfl, q, rfl⟩
            have HO := Lib.hid (open_f (GF.out.below (below_drewN (Below.refl _ _) q)) 0 (by omega) (by omega) mE_5)
            have G8 := Lib.hid (below_drewN G7.out q)
            have hsz := (rfl : (w9.drewN q).heap.size = w9.heap.size)
            clear HW
            go_wp2_with (fail)
            refine HO.out.mono ?_
            rintro e w11 ⟨rfl, hN⟩
            obtain ⟨_, _, _, _, _, g5⟩ := hN.below G8.out G8.out.size GY2.out
            have G9 := Lib.hid g5
            clear hN g5
            go_wp2
            go_ret
            exact ⟨rfl, G9.out⟩
end Go.Proofs.Ytfmgncajhjkdlaa
