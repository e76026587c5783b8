/- item.Decode: contract. -/
import Derived.Test.YtiammgeahogdoaaU
namespace Go.Proofs.Ytiammgeahogdoaa
open Go.RowKit Go.PlainAid
set_option linter.unusedVariables false
set_option linter.unusedSimpArgs false

theorem get_q (l : List Int) (v : Value) (w : World) (hr : RB w v l) (hb : P.Bytes l) (hl : l.length ≤ 8) :
    Calls Try.prog 21 #[v] w fun e w' => e = .returned (.int .u64 (P.num l)) ∧ w' = w := (get_any l v w hr hb hl).mono fun _ _ ⟨h1, h2⟩ => ⟨h1, h2.symm⟩

theorem get_v {l : List Int} {v : Value} {w : World} {z : Int} (hz : P.num l = z) (hr : RB w v l) (hb : P.Bytes l) (hl : l.length ≤ 8) :
    Calls Try.prog 21 #[v] w fun e w' => e = .returned (.int .u64 z) ∧ w' = w := by
  subst hz; exact get_q l v w hr hb hl

def noItem : Value := .agg #[.string ByteArray.empty, .int .u32 0, .string ByteArray.empty, .int .i64 0, .int .u64 0, .int .i64 0, .bool false, .bool false]

set_option maxHeartbeats 500000 in
theorem decode_short (a : Option Addr) (n cap : Nat) (w : World) (hn : n < 40) :
    Calls Try.prog 14 #[.slice a n cap] w fun e w' => e = .returned (.tuple #[noItem, .int .i64 9]) ∧ Below w.heap.size w w' := by
  go_enter Try.func14, Try.ntmps14
  go_wp2_with (fail)
  go_returns
  exact ⟨rfl, by go_grown⟩

/-- a part of what a slice reads -/
theorem rb_sub {w : World} {bk o : Nat} {l : List Int} (hc : ∀ i, i < l.length → w.cell? ⟨bk, o + i, none⟩ = some (.int .u8 (l[i]?.getD 0))) (i m c : Nat) (h : i + m ≤ l.length) :
    RB w (.slice (some ⟨bk, o + i, none⟩) m c) ((l.drop i).take m) := by
  have hl : ((l.drop i).take m).length = m := by simp; omega
  refine ⟨_, c, by rw [hl], fun _ => ⟨bk, o + i, rfl, fun j hj => ?_⟩⟩
  have := hc (i + j) (by omega)
  rw [Nat.add_assoc, this]
  simp [List.getElem?_take, show j < m by omega]

/-- a box that holds no item, to be written -/
def ZBox (w : World) (g : Nat) : Prop := Box w g ⟨#[]⟩ ⟨#[]⟩ 0 0 0 0 false false ∧ ∀ j, w.frozen? ⟨g, j, none⟩ = false
theorem zbox_new (w : World) : ZBox (w.alloc (.cells #[.string ⟨#[]⟩, .int .u32 0, .string ⟨#[]⟩, .int .i64 0, .int .u64 0, .int .i64 0, .bool false, .bool false] 25)) w.heap.size :=
  ⟨box_new w ⟨#[]⟩ ⟨#[]⟩ 0 0 0 0 false false, fun j => by simp [go_sem]⟩

/-- the same where the part may be empty, wherever it is said to lie -/
theorem rb_zero {w : World} {a : Option Addr} {c m : Nat} {l : List Int} (h : m = 0) : RB w (.slice a m c) (l.take m) := by
  subst h
  exact ⟨a, c, by simp, fun hne => absurd (by simp) hne⟩

set_option maxRecDepth 100000 in
set_option maxHeartbeats 0 in
theorem decode_head (bk o n cap kz vz x y : Nat) (l : List Int) (w : World) (hln : l.length = n) (hn : 40 ≤ n) (hcap : n ≤ cap) (hcm : cap ≤ maxLen) (hb : P.Bytes l)
    (hc : ∀ i, i < n → w.cell? ⟨bk, o + i, none⟩ = some (.int .u8 (l[i]?.getD 0)))
    (h1 : l[1]?.getD 0 ≤ 3) (h2 : l[2]?.getD 0 = 0) (h3 : l[3]?.getD 0 = 0) (hx : (if cap = 40 then (some ⟨bk, o, none⟩ : Option Addr) else some ⟨bk, o + 40, none⟩) = some ⟨bk, x, none⟩) (hy : (if cap - 40 = kz then (some ⟨bk, x, none⟩ : Option Addr) else some ⟨bk, x + kz, none⟩) = some ⟨bk, y, none⟩) (hxk : kz = 0 ∨ x = o + 40) (hyk : vz = 0 ∨ y = o + (40 + kz)) (hkz : l[0]?.getD 0 = (kz : Int)) (hvz : P.num ((l.drop 8).take 8) = (vz : Int)) (hv : vz ≤ 65536) (hfit : kz + vz ≤ n - 40) :
    Calls Try.prog 14 #[.slice (some ⟨bk, o, none⟩) n cap] w (DecPost l w) := by
  have hobk : bk < w.heap.size := World.block_lt_of_cell? _ _ (hc 0 (by omega))
  have c0 := hc 0 (by omega)
  rw [hkz] at c0
  have c1 := hc 1 (by omega)
  have c2 := hc 2 (by omega)
  have c3 := hc 3 (by omega)
  have a0 := (hb.at 0).2
  rw [hkz] at a0
  obtain ⟨a1, a1'⟩ := hb.at 1
  have h2' : (l[2]?.getD 0 != 0) = false := by simp [h2]
  have h3' : (l[3]?.getD 0 != 0) = false := by simp [h3]
  have Hc := Lib.hid hc
  have H2 := Lib.hid h2
  have H3 := Lib.hid h3
  have Hln := Lib.hid hln
  have Hvz := Lib.hid hvz
  have Hkz := Lib.hid hkz
  have hnm : n ≤ 9223372036854775807 := by unfold maxLen at hcm; omega
  have i16 : (16 : Int) ≤ (n : Int) := by omega
  have i8 : (8 : Int) ≤ (n : Int) := by omega
  have i40 : (40 : Int) ≤ (n : Int) := by omega
  have m40 : 40 ≤ n := hn
  have m16c : 16 ≤ cap := by omega
  have r8 : ¬ cap = 8 := by omega
  have hlow : ∀ (W : World), Below w.heap.size w W → ∀ (i m c : Nat), i + m ≤ n → RB W (.slice (some ⟨bk, o + i, none⟩) m c) ((l.drop i).take m) :=
    fun W hW i m c him => (rb_sub (by rw [hln]; exact hc) i m c (by rw [hln]; exact him)).below hW
  have Hlow := Lib.hid hlow
  clear hlow
  have hl8 : ((l.drop 8).take 8).length ≤ 8 := by simp; omega
  have hb8 := (hb.drop 8).take 8
  have Hl8 := Lib.hid hl8
  have Hb8 := Lib.hid hb8
  have Hb := Lib.hid hb
  clear hl8 hb8 hb
  clear hc hln h2 h3 hkz hvz
  simp only [Nat.add_zero] at c0
  go_enter Try.func14, Try.ntmps14
  go_wp2_with (fail)
  have hW0 : Below w.heap.size w (w.alloc (.cells #[.string ⟨#[]⟩, .int .u32 0, .string ⟨#[]⟩, .int .i64 0, .int .u64 0, .int .i64 0, .bool false, .bool false] 25)) := (Below.refl _ _).alloc (Nat.le_refl _) _
  have HW0 := Lib.hid hW0
  clear hW0
  go_quiet ((go_at_call 21; exact Calls.quiet_of_same (get_v Hvz.out (Hlow.out _ (below_drewN HW0.out _) 8 8 _ (by omega)) Hb8.out Hl8.out)))
  have HW1 := Lib.hid (below_drewN HW0.out nq)
  have hzb := zbox_new w
  have hzb1 : ZBox ((w.alloc (.cells #[.string ⟨#[]⟩, .int .u32 0, .string ⟨#[]⟩, .int .i64 0, .int .u64 0, .int .i64 0, .bool false, .bool false] 25)).drewN nq) w.heap.size := hzb
  generalize (w.alloc (.cells #[.string ⟨#[]⟩, .int .u32 0, .string ⟨#[]⟩, .int .i64 0, .int .u64 0, .int .i64 0, .bool false, .bool false] 25)).drewN nq = W1 at *
  clear hzb
  have Hzb := Lib.hid hzb1
  clear hzb1
  have c0w := (HW1.out.cell (p := ⟨bk, o, none⟩) hobk).trans c0
  go_wp2_with (fail)
  go_quiet (fail)
  go_wp2_with (fail)
  have HW2 := Lib.hid (below_drewN HW1.out nq)
  have Hzb2 : Hid (ZBox (W1.drewN nq) w.heap.size) := Hzb
  generalize W1.drewN nq = W2 at *
  clear HW1 Hzb
  have r4 : ¬ cap = 4 := by omega
  have r16 : ¬ cap = 16 := by omega
  have r24 : ¬ cap = 24 := by omega
  have r32 : ¬ cap = 32 := by omega
  have j4 : (4 : Int) ≤ (n : Int) := by omega
  have j24 : (24 : Int) ≤ (n : Int) := by omega
  have j32 : (32 : Int) ≤ (n : Int) := by omega
  have d1 := (Hlow.out W2 HW2.out 4 4 (cap - 4) (by omega))
  have d2 := (Hlow.out W2 HW2.out 16 8 (cap - 16) (by omega))
  have d3 := (Hlow.out W2 HW2.out 24 8 (cap - 24) (by omega))
  have d4 := (Hlow.out W2 HW2.out 32 8 (cap - 32) (by omega))
  have e1 : W2.cell? ⟨bk, o + 1, none⟩ = some (.int .u8 (l[1]?.getD 0)) := (HW2.out.cell (p := ⟨bk, o + 1, none⟩) hobk).trans c1
  have n4 : 8 ≤ cap := by omega
  have n24 : 24 ≤ cap := by omega
  have n32 : 32 ≤ cap := by omega
  have n40 : 40 ≤ cap := by omega
  have n4i : (8 : Int) ≤ (cap : Int) := by omega
  have n24i : (24 : Int) ≤ (cap : Int) := by omega
  have n32i : (32 : Int) ≤ (cap : Int) := by omega
  have n40i : (40 : Int) ≤ (cap : Int) := by omega
  have hS : ∀ W, Below w.heap.size w W → (convert 27 9 (.slice (some ⟨bk, x, none⟩) kz (cap - 40))).run Try.prog W = .ok (.string (strOfNums ((l.drop 40).take kz))) W ∧
      (convert 27 9 (.slice (some ⟨bk, y, none⟩) vz (cap - 40 - kz))).run Try.prog W = .ok (.string (strOfNums ((l.drop (40 + kz)).take vz))) W ∧ W.cell? ⟨bk, o + 1, none⟩ = some (.int .u8 (l[1]?.getD 0)) := fun W hW =>
    ⟨conv_rb (by rcases hxk with h | h
                 · exact rb_zero h
                 · rw [h]; exact Hlow.out W hW 40 kz _ (by omega)),
     conv_rb (by rcases hyk with h | h
                 · exact rb_zero h
                 · rw [h]; exact Hlow.out W hW (40 + kz) vz (cap - 40 - kz) (by omega)), (hW.cell (p := ⟨bk, o + 1, none⟩) hobk).trans c1⟩
  have HS := Lib.hid hS
  clear hS d1 d2 d3 d4
  have hbsz := HW2.out.size
  obtain ⟨sK, hsK⟩ : ∃ sK, sK = strOfNums ((l.drop 40).take kz) := ⟨_, rfl⟩
  obtain ⟨sV, hsV⟩ : ∃ sV, sV = strOfNums ((l.drop (40 + kz)).take vz) := ⟨_, rfl⟩
  rw [← hsK, ← hsV] at HS
  have HsK := Lib.hid hsK
  have HsV := Lib.hid hsV
  clear hsK hsV
  go_region_held3 (fun w' => (convert 27 9 (.slice (some ⟨bk, x, none⟩) kz (cap - 40))).run Try.prog w' = .ok (.string sK) w' ∧ (convert 27 9 (.slice (some ⟨bk, y, none⟩) vz (cap - 40 - kz))).run Try.prog w' = .ok (.string sV) w' ∧ w'.cell? ⟨bk, o + 1, none⟩ = some (.int .u8 (l[1]?.getD 0))) (first | exact HS.out _ HW2.out | exact HS.out _ HW2.out.drew | exact HS.out _ (HW2.out.alloc hbsz _) | exact HS.out _ (HW2.out.alloc hbsz _).drew) (first | (go_at_call 21; (with_reducible refine (get_any ((l.drop 4).take 4) (.slice (some ⟨bk, o + 4, none⟩) 4 (cap - 4)) _ (Hlow.out _ (by first | exact HW2.out | exact HW2.out.drew | exact HW2.out.alloc hbsz _ | exact (HW2.out.alloc hbsz _).drew) 4 4 _ (by omega)) ((Hb.out.drop 4).take 4) (by simp; omega)).mono ?_); rintro e w' ⟨rfl, rfl⟩) | (go_at_call 21; (with_reducible refine (get_any ((l.drop 16).take 8) (.slice (some ⟨bk, o + 16, none⟩) 8 (cap - 16)) _ (Hlow.out _ (by first | exact HW2.out | exact HW2.out.drew | exact HW2.out.alloc hbsz _ | exact (HW2.out.alloc hbsz _).drew) 16 8 _ (by omega)) ((Hb.out.drop 16).take 8) (by simp; omega)).mono ?_); rintro e w' ⟨rfl, rfl⟩) | (go_at_call 21; (with_reducible refine (get_any ((l.drop 24).take 8) (.slice (some ⟨bk, o + 24, none⟩) 8 (cap - 24)) _ (Hlow.out _ (by first | exact HW2.out | exact HW2.out.drew | exact HW2.out.alloc hbsz _ | exact (HW2.out.alloc hbsz _).drew) 24 8 _ (by omega)) ((Hb.out.drop 24).take 8) (by simp; omega)).mono ?_); rintro e w' ⟨rfl, rfl⟩) | (go_at_call 21; (with_reducible refine (get_any ((l.drop 32).take 8) (.slice (some ⟨bk, o + 32, none⟩) 8 (cap - 32)) _ (Hlow.out _ (by first | exact HW2.out | exact HW2.out.drew | exact HW2.out.alloc hbsz _ | exact (HW2.out.alloc hbsz _).drew) 32 8 _ (by omega)) ((Hb.out.drop 32).take 8) (by simp; omega)).mono ?_); rintro e w' ⟨rfl, rfl⟩))
  all_goals (go_wp2_with (fail))
  all_goals
    refine (right_any sK sV _ _ _ _ _ _ _ (by have := HsK.out; rw [this, strOfNums_size]; unfold maxLen; simp; omega) (by have := HsV.out; rw [this, strOfNums_size]; unfold maxLen; simp; omega)).mono ?_
    rintro e w3 ⟨rfl, hb3⟩
    have hz0 := Hzb2.out.1.2.2.2.2.2.2.2.2
    have hb23 := (((Below.refl W2.heap.size W2).alloc (Nat.le_refl _) _).drew).trans (hb3.mono (B' := W2.heap.size) (by simp))
    have hz3 := Hzb2.out.1.below hb23 hz0
    have hx3 := (show Box (W2.alloc _).drew W2.heap.size _ _ _ _ _ _ _ _ from box_new W2 _ _ _ _ _ _ _ _).below hb3 (by simp)
    have Hz3 := Lib.hid hz3
    obtain ⟨z0, z1, z2, z3, z4, z5, z6, z7, zl⟩ := hz3
    obtain ⟨x0, x1, x2, x3, x4, x5, x6, x7, xl⟩ := hx3
    have hfz : ∀ j, w3.frozen? ⟨w.heap.size, j, none⟩ = false := fun j => (hb23.frozen (p := ⟨w.heap.size, j, none⟩) hz0).trans (Hzb2.out.2 j)
    have f0 := hfz 0
    have f1 := hfz 1
    have f2 := hfz 2
    have f3 := hfz 3
    have f4 := hfz 4
    have f5 := hfz 5
    have f6 := hfz 6
    have f7 := hfz 7
    have hbw3 : Below w.heap.size w w3 := HW2.out.trans (hb23.mono (Nat.le_of_lt hz0))
    clear hfz hb3 hb23
    cases hrb : rightB sK sV (wrap64 (P.num ((l.drop 16).take 8))) (wrap64 (P.num ((l.drop 32).take 8)))
    · have Hfin := Lib.hid (dec_done Hln.out hn Hb.out h1 H2.out H3.out Hkz.out Hvz.out hv hfit HsK.out HsV.out hrb)
      clear hrb
      go_wp2_with (fail)
      exact ret_item rfl rfl rfl (box_set Hz3.out) (decPost_no Hfin.out (below_set8 hbw3 (Nat.le_refl _)))
    · have Hfin := Lib.hid (dec_done Hln.out hn Hb.out h1 H2.out H3.out Hkz.out Hvz.out hv hfit HsK.out HsV.out hrb)
      clear hrb
      go_wp2_with (fail)
      exact ret_item rfl rfl rfl (box_set Hz3.out) (decPost_yes Hfin.out (below_set8 hbw3 (Nat.le_refl _)))
end Go.Proofs.Ytiammgeahogdoaa
