/- ambryref08.Decode where bytes begin with an item: contract. -/
import Derived.Test.YtiammgeahogdoaaT
import Derived.Test.YtiammgeahogdoaaZ
namespace Go.Proofs.Ytiammgeahogdoaa
open Go.RowKit Go.PlainAid
set_option linter.unusedVariables false
set_option linter.unusedSimpArgs false

theorem dec_done2 {l : List Int} {n kz vz : Nat} {sK sV : ByteArray} {b : Bool} (hln : l.length = n) (hn : 40 ≤ n) (hb : P.Bytes l) (h1 : l[1]?.getD 0 ≤ 3) (h2 : l[2]?.getD 0 = 0) (h3 : l[3]?.getD 0 = 0) (hkz : l[0]?.getD 0 = (kz : Int)) (hvz : P.num ((l.drop 8).take 8) = (vz : Int)) (hv : vz ≤ 65536) (hfit : kz + vz ≤ n - 40)
    (hsK : sK = strOfNums ((l.drop 40).take kz)) (hsV : sV = strOfNums ((l.drop (40 + kz)).take vz))
    (hr : rightB sK sV (wrap64 (P.num ((l.drop 16).take 8))) (wrap64 (P.num ((l.drop 32).take 8))) = b) :
    if b = true then decR l = ⟨sK, sV, P.num ((l.drop 4).take 4) % 4294967296, wrap64 (P.num ((l.drop 16).take 8)), P.num ((l.drop 24).take 8), wrap64 (P.num ((l.drop 32).take 8)), l[1]?.getD 0 % 2 == 1, l[1]?.getD 0 / 2 == 1⟩ ∧ decE l = 0
    else decR l = noIt ∧ decE l = 9 := by
  have h := dec_done hln hn hb h1 h2 h3 hkz hvz hv hfit hsK hsV hr
  have hbb := bits_of (hb.at 1).1 h1
  rw [hbb.1, hbb.2] at h
  have e : ∀ a b : Int, (a == b) = decide (a = b) := fun a b => by rw [Bool.eq_iff_iff]; simp
  rw [e, e]
  exact h

set_option maxRecDepth 100000 in
set_option maxHeartbeats 4000000 in
theorem refDecode_yes (bk o n cap kz vz x y : Nat) (l : List Int) (w : World) (hln : l.length = n) (hn : 40 ≤ n) (hcap : n ≤ cap) (hcm : cap ≤ maxLen) (hb : P.Bytes l)
    (hc : ∀ i, i < n → w.cell? ⟨bk, o + i, none⟩ = some (.int .u8 (l[i]?.getD 0)))
    (h1 : l[1]?.getD 0 ≤ 3) (h2 : l[2]?.getD 0 = 0) (h3 : l[3]?.getD 0 = 0) (hx : (if cap = 40 then (some ⟨bk, o, none⟩ : Option Addr) else some ⟨bk, o + 40, none⟩) = some ⟨bk, x, none⟩) (hy : (if cap = 40 + kz then (some ⟨bk, o, none⟩ : Option Addr) else some ⟨bk, o + (40 + kz), none⟩) = some ⟨bk, y, none⟩) (hxk : kz = 0 ∨ x = o + 40) (hyk : vz = 0 ∨ y = o + (40 + kz)) (hkz : l[0]?.getD 0 = (kz : Int)) (hvz : P.num ((l.drop 8).take 8) = (vz : Int)) (hv : vz ≤ 65536) (hfit : kz + vz ≤ n - 40) :
    Calls Try.prog 15 #[.slice (some ⟨bk, o, none⟩) n cap] w (DecPost l w) := by
  have hobk : bk < w.heap.size := World.block_lt_of_cell? _ _ (hc 0 (by omega))
  have c0 := hc 0 (by omega)
  rw [hkz] at c0
  have a0 := (hb.at 0).2
  rw [hkz] at a0
  obtain ⟨a1, a1'⟩ := hb.at 1
  have ht : P.num (sub l 1 3) = l[1]?.getD 0 := by rw [num3 (by omega), h2, h3]; omega
  have Ht := Lib.hid ht
  have Hc := Lib.hid hc
  have H2 := Lib.hid h2
  have H3 := Lib.hid h3
  have Hln := Lib.hid hln
  have Hvz := Lib.hid hvz
  have Hkz := Lib.hid hkz
  have hnm : n ≤ 9223372036854775807 := by unfold maxLen at hcm; omega
  have i40 : (40 : Int) ≤ (n : Int) := by omega
  have m40 : 40 ≤ n := hn
  have hlow : ∀ (W : World), Below w.heap.size w W → ∀ (i m c : Nat), i + m ≤ n → RB W (.slice (some ⟨bk, o + i, none⟩) m c) ((l.drop i).take m) :=
    fun W hW i m c him => (rb_part (by rw [hln]; exact hc) i m c (by rw [hln]; exact him)).below hW
  have Hlow := Lib.hid hlow
  have Hl8 : Hid (((l.drop 8).take 8).length ≤ 8) := Lib.hid (by simp; omega)
  have Hb8 : Hid (P.Bytes ((l.drop 8).take 8)) := Lib.hid ((hb.drop 8).take 8)
  have Hl3 : Hid (((l.drop 1).take 3).length ≤ 8) := Lib.hid (by simp; omega)
  have Hb3 : Hid (P.Bytes ((l.drop 1).take 3)) := Lib.hid ((hb.drop 1).take 3)
  have Hb := Lib.hid hb
  have r8 : ¬ cap = 8 := by omega
  have r1 : ¬ cap = 1 := by omega
  have r4 : ¬ cap = 4 := by omega
  have r16 : ¬ cap = 16 := by omega
  have r24 : ¬ cap = 24 := by omega
  have r32 : ¬ cap = 32 := by omega
  have j4 : (4 : Int) ≤ (n : Int) := by omega
  have j8 : (8 : Int) ≤ (n : Int) := by omega
  have j16 : (16 : Int) ≤ (n : Int) := by omega
  have j24 : (24 : Int) ≤ (n : Int) := by omega
  have j32 : (32 : Int) ≤ (n : Int) := by omega
  have n4 : 8 ≤ cap := by omega
  have n24 : 24 ≤ cap := by omega
  have n32 : 32 ≤ cap := by omega
  have n40 : 40 ≤ cap := by omega
  have n4i : (8 : Int) ≤ (cap : Int) := by omega
  have n24i : (24 : Int) ≤ (cap : Int) := by omega
  have n32i : (32 : Int) ≤ (cap : Int) := by omega
  have n40i : (40 : Int) ≤ (cap : Int) := by omega
  clear hlow hc hln h2 h3 hkz hvz hb ht
  simp only [Nat.add_zero] at c0
  have HW0 := Lib.hid (below_new w (.cells #[.string ⟨#[]⟩, .int .u32 0, .string ⟨#[]⟩, .int .i64 0, .int .u64 0, .int .i64 0, .bool false, .bool false] 25))
  have Hzb := Lib.hid (zbox_new w)
  go_enter Try.func15, Try.ntmps15
  go_wp2_with (fail)
  refine (number_w Ht.out (Hlow.out _ HW0.out 1 3 _ (by omega)) Hb3.out Hl3.out).mono ?_
  rintro e w' ⟨rfl, rfl⟩
  go_wp2_with (fail)
  refine (number_w Hvz.out (Hlow.out _ HW0.out 8 8 _ (by omega)) Hb8.out Hl8.out).mono ?_
  rintro e w' ⟨rfl, rfl⟩
  go_wp2_with (fail)
  generalize w.alloc (.cells #[.string ⟨#[]⟩, .int .u32 0, .string ⟨#[]⟩, .int .i64 0, .int .u64 0, .int .i64 0, .bool false, .bool false] 25) = W2 at *
  have hS : ∀ W, Below w.heap.size w W → (convert 27 9 (.slice (some ⟨bk, x, none⟩) kz (cap - 40))).run Try.prog W = .ok (.string (strOfNums ((l.drop 40).take kz))) W ∧
      (convert 27 9 (.slice (some ⟨bk, y, none⟩) vz (cap - (40 + kz)))).run Try.prog W = .ok (.string (strOfNums ((l.drop (40 + kz)).take vz))) W := fun W hW =>
    ⟨conv_rb (by rcases hxk with h | h
                 · exact rb_zero h
                 · rw [h]; exact Hlow.out W hW 40 kz _ (by omega)),
     conv_rb (by rcases hyk with h | h
                 · exact rb_zero h
                 · rw [h]; exact Hlow.out W hW (40 + kz) vz (cap - (40 + kz)) (by omega))⟩
  have hbsz := HW0.out.size
  obtain ⟨sK, hsK⟩ : ∃ sK, sK = strOfNums ((l.drop 40).take kz) := ⟨_, rfl⟩
  obtain ⟨sV, hsV⟩ : ∃ sV, sV = strOfNums ((l.drop (40 + kz)).take vz) := ⟨_, rfl⟩
  rw [← hsK, ← hsV] at hS
  have HS := Lib.hid hS
  have HsK := Lib.hid hsK
  have HsV := Lib.hid hsV
  clear hS hsK hsV
  have hk1 : (40 : Int) ≤ 40 + (kz : Int) := by omega
  have hk2 : 40 + (kz : Int) ≤ (cap : Int) := by omega
  have hk3 : (0 : Int) ≤ 40 + (kz : Int) := by omega
  have hk4 : 40 + (kz : Int) ≤ 40 + (kz : Int) + (vz : Int) := by omega
  have hk5 : 40 + (kz : Int) + (vz : Int) ≤ (cap : Int) := by omega
  have hk6 : (0 : Int) ≤ 40 + (kz : Int) + (vz : Int) := by omega
  have hk7 : 40 + kz ≤ cap := by omega
  have hk8 : 40 + kz + vz ≤ cap := by omega
  have e1 : IntKind.i64.wrap (40 + (kz : Int)) = 40 + (kz : Int) := IntWalk.i64_in _ ⟨by omega, by omega⟩
  have e2 : IntKind.i64.wrap (40 + (kz : Int) + (vz : Int)) = 40 + (kz : Int) + (vz : Int) := IntWalk.i64_in _ ⟨by omega, by omega⟩
  have e3 : IntKind.i64.wrap (vz : Int) = (vz : Int) := IntWalk.i64_in _ ⟨by omega, by omega⟩
  have e4 : (40 + (kz : Int)).toNat = 40 + kz := by omega
  have e5 : (40 + (kz : Int) + (vz : Int)).toNat = 40 + kz + vz := by omega
  go_region_held3 (fun w' => (convert 27 9 (.slice (some ⟨bk, x, none⟩) kz (cap - 40))).run Try.prog w' = .ok (.string sK) w' ∧ (convert 27 9 (.slice (some ⟨bk, y, none⟩) vz (cap - (40 + kz)))).run Try.prog w' = .ok (.string sV) w') (first | exact HS.out _ HW0.out | exact HS.out _ HW0.out.drew | exact HS.out _ (HW0.out.alloc hbsz _) | exact HS.out _ (HW0.out.alloc hbsz _).drew) (first | (go_at_call 22; (with_reducible refine (number_any ((l.drop 4).take 4) (.slice (some ⟨bk, o + 4, none⟩) 4 (cap - 4)) _ (Hlow.out _ (by first | exact HW0.out | exact HW0.out.drew | exact HW0.out.alloc hbsz _ | exact (HW0.out.alloc hbsz _).drew) 4 4 _ (by omega)) ((Hb.out.drop 4).take 4) (by simp; omega)).mono ?_); rintro e w' ⟨rfl, rfl⟩) | (go_at_call 22; (with_reducible refine (number_any ((l.drop 16).take 8) (.slice (some ⟨bk, o + 16, none⟩) 8 (cap - 16)) _ (Hlow.out _ (by first | exact HW0.out | exact HW0.out.drew | exact HW0.out.alloc hbsz _ | exact (HW0.out.alloc hbsz _).drew) 16 8 _ (by omega)) ((Hb.out.drop 16).take 8) (by simp; omega)).mono ?_); rintro e w' ⟨rfl, rfl⟩) | (go_at_call 22; (with_reducible refine (number_any ((l.drop 24).take 8) (.slice (some ⟨bk, o + 24, none⟩) 8 (cap - 24)) _ (Hlow.out _ (by first | exact HW0.out | exact HW0.out.drew | exact HW0.out.alloc hbsz _ | exact (HW0.out.alloc hbsz _).drew) 24 8 _ (by omega)) ((Hb.out.drop 24).take 8) (by simp; omega)).mono ?_); rintro e w' ⟨rfl, rfl⟩) | (go_at_call 22; (with_reducible refine (number_any ((l.drop 32).take 8) (.slice (some ⟨bk, o + 32, none⟩) 8 (cap - 32)) _ (Hlow.out _ (by first | exact HW0.out | exact HW0.out.drew | exact HW0.out.alloc hbsz _ | exact (HW0.out.alloc hbsz _).drew) 32 8 _ (by omega)) ((Hb.out.drop 32).take 8) (by simp; omega)).mono ?_); rintro e w' ⟨rfl, rfl⟩))
  all_goals (go_wp2_with (fail))
  all_goals
    refine (refRight_any sK sV _ _ _ _ _ _ _ (by have := HsK.out; rw [this, strOfNums_size]; unfold maxLen; simp; omega) (by have := HsV.out; rw [this, strOfNums_size]; unfold maxLen; simp; omega)).mono ?_
    rintro e w3 ⟨rfl, hb3⟩
    have hz0 := Hzb.out.1.2.2.2.2.2.2.2.2
    have hb23 := (((Below.refl W2.heap.size W2).alloc (Nat.le_refl _) _).drew).trans (hb3.mono (B' := W2.heap.size) (by simp))
    have hz3 := Hzb.out.1.below hb23 hz0
    have hx3 := (show Box (W2.alloc _).drew W2.heap.size _ _ _ _ _ _ _ _ from box_new W2 _ _ _ _ _ _ _ _).below hb3 (by simp)
    have Hz3 := Lib.hid hz3
    obtain ⟨z0, z1, z2, z3, z4, z5, z6, z7, zl⟩ := hz3
    obtain ⟨x0, x1, x2, x3, x4, x5, x6, x7, xl⟩ := hx3
    have hfz : ∀ j, w3.frozen? ⟨w.heap.size, j, none⟩ = false := fun j => (hb23.frozen (p := ⟨w.heap.size, j, none⟩) hz0).trans (Hzb.out.2 j)
    have f0 := hfz 0
    have f1 := hfz 1
    have f2 := hfz 2
    have f3 := hfz 3
    have f4 := hfz 4
    have f5 := hfz 5
    have f6 := hfz 6
    have f7 := hfz 7
    have hbw3 : Below w.heap.size w w3 := HW0.out.trans (hb23.mono (Nat.le_of_lt hz0))
    clear hfz hb3 hb23
    cases hrb : rightB sK sV (wrap64 (P.num ((l.drop 16).take 8))) (wrap64 (P.num ((l.drop 32).take 8)))
    · have Hfin := Lib.hid (dec_done2 Hln.out hn Hb.out h1 H2.out H3.out Hkz.out Hvz.out hv hfit HsK.out HsV.out hrb)
      clear hrb
      go_wp2_with (fail)
      exact ret_item rfl rfl rfl (box_set Hz3.out) (decPost_no Hfin.out (below_set8 hbw3 (Nat.le_refl _)))
    · have Hfin := Lib.hid (dec_done2 Hln.out hn Hb.out h1 H2.out H3.out Hkz.out Hvz.out hv hfit HsK.out HsV.out hrb)
      clear hrb
      go_wp2_with (fail)
      exact ret_item rfl rfl rfl (box_set Hz3.out) (decPost_yes Hfin.out (below_set8 hbw3 (Nat.le_refl _)))
end Go.Proofs.Ytiammgeahogdoaa
