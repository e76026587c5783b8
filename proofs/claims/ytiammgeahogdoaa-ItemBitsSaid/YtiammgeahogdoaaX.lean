/- item.Decode where bytes begin with no item: contracts. -/
import Derived.Test.YtiammgeahogdoaaU
namespace Go.Proofs.Ytiammgeahogdoaa
open Go.RowKit Go.PlainAid
set_option linter.unusedVariables false
set_option linter.unusedSimpArgs false

theorem get_w {l : List Int} {v : Value} {w : World} {z : Int} (hz : P.num l = z) (hr : RB w v l) (hb : P.Bytes l) (hl : l.length ≤ 8) :
    Calls Try.prog 21 #[v] w fun e w' => e = .returned (.int .u64 z) ∧ w' = w := by
  subst hz; exact (get_any l v w hr hb hl).mono fun _ _ ⟨h1, h2⟩ => ⟨h1, h2.symm⟩
theorem number_w {l : List Int} {v : Value} {w : World} {z : Int} (hz : P.num l = z) (hr : RB w v l) (hb : P.Bytes l) (hl : l.length ≤ 8) :
    Calls Try.prog 22 #[v] w fun e w' => e = .returned (.int .u64 z) ∧ w = w' := by
  subst hz; exact (number_any l v w hr hb hl)

/-- a part of what a slice reads -/
theorem rb_part {w : World} {bk o : Nat} {l : List Int} (hc : ∀ i, i < l.length → w.cell? ⟨bk, o + i, none⟩ = some (.int .u8 (l[i]?.getD 0))) (i m c : Nat) (h : i + m ≤ l.length) :
    RB w (.slice (some ⟨bk, o + i, none⟩) m c) (sub l i m) := by
  have hl : (sub l i m).length = m := sub_len h
  refine ⟨_, c, by rw [hl], fun _ => ⟨bk, o + i, rfl, fun j hj => ?_⟩⟩
  have := hc (i + j) (by omega)
  rw [Nat.add_assoc, this]
  unfold sub
  simp [List.getElem?_take, show j < m by omega]

theorem zero_box (w : World) : Box (w.alloc (.cells #[.string ⟨#[]⟩, .int .u32 0, .string ⟨#[]⟩, .int .i64 0, .int .u64 0, .int .i64 0, .bool false, .bool false] 25)) w.heap.size ⟨#[]⟩ ⟨#[]⟩ 0 0 0 0 false false :=
  box_new w ⟨#[]⟩ ⟨#[]⟩ 0 0 0 0 false false
theorem below_new (w : World) (o : Obj) : Below w.heap.size w (w.alloc o) := (Below.refl _ _).alloc (Nat.le_refl _) _

theorem refused_len {l : List Int} (h : l.length < 40) : decR l = noIt ∧ decE l = 9 :=
  dec_refused (by unfold headOk; exact decide_eq_false (fun hh => by omega))
theorem refused_bits {l : List Int} (h : (3 : Int) < l[1]?.getD 0 ∨ l[2]?.getD 0 ≠ 0 ∨ l[3]?.getD 0 ≠ 0) : decR l = noIt ∧ decE l = 9 :=
  dec_refused (by unfold headOk; exact decide_eq_false (fun ⟨_, h1, h2, h3, _⟩ => by rcases h with h | h | h <;> omega))
theorem refused_val {l : List Int} (h : 65536 < P.num (sub l 8 8)) : decR l = noIt ∧ decE l = 9 :=
  dec_refused (by unfold headOk; exact decide_eq_false (fun ⟨_, h1, h2, h3, h4, _⟩ => by omega))
theorem refused_fit {l : List Int} {n kz vz : Nat} (hln : l.length = n) (hkz : l[0]?.getD 0 = (kz : Int)) (hvz : P.num (sub l 8 8) = (vz : Int)) (h : n < 40 + kz + vz) : decR l = noIt ∧ decE l = 9 := by
  refine dec_refused ?_
  unfold headOk
  refine decide_eq_false (fun ⟨_, h1, h2, h3, h4, h5⟩ => ?_)
  have e1 : decKz l = kz := by unfold decKz; rw [hkz]; rfl
  have e2 : decVz l = vz := by unfold decVz; rw [hvz]; rfl
  omega

set_option maxRecDepth 100000 in
set_option maxHeartbeats 1000000 in
theorem decode_len (a : Option Addr) (n cap : Nat) (l : List Int) (w : World) (hln : l.length = n) (hn : n < 40) :
    Calls Try.prog 14 #[.slice a n cap] w (DecPost l w) := by
  have Hr := Lib.hid (refused_len (l := l) (by omega))
  clear hln
  go_enter Try.func14, Try.ntmps14
  go_wp2_with (fail)
  go_returns
  exact decPost_no Hr.out (by go_grown)

set_option maxRecDepth 100000 in
set_option maxHeartbeats 1000000 in
theorem decode_bits (bk o n cap : Nat) (l : List Int) (w : World) (hln : l.length = n) (hn : 40 ≤ n) (hcap : n ≤ cap) (hcm : cap ≤ maxLen) (hb : P.Bytes l)
    (hc : ∀ i, i < n → w.cell? ⟨bk, o + i, none⟩ = some (.int .u8 (l[i]?.getD 0))) (h : (3 : Int) < l[1]?.getD 0 ∨ l[2]?.getD 0 ≠ 0 ∨ l[3]?.getD 0 ≠ 0) :
    Calls Try.prog 14 #[.slice (some ⟨bk, o, none⟩) n cap] w (DecPost l w) := by
  have Hr := Lib.hid (refused_bits h)
  have hobk : bk < w.heap.size := World.block_lt_of_cell? _ _ (hc 0 (by omega))
  have c1 := hc 1 (by omega)
  have c2 := hc 2 (by omega)
  have c3 := hc 3 (by omega)
  have hnm : n ≤ 9223372036854775807 := by unfold maxLen at hcm; omega
  have i40 : (40 : Int) ≤ (n : Int) := by omega
  obtain ⟨a1, a1'⟩ := hb.at 1
  clear hc hln
  by_cases h1 : l[1]?.getD 0 ≤ 3
  · by_cases h2 : l[2]?.getD 0 = 0
    · have h3 : ¬ l[3]?.getD 0 = 0 := by omega
      have h2' : (l[2]?.getD 0 != 0) = false := by simp [h2]
      have h3' : (l[3]?.getD 0 != 0) = true := by simp [h3]
      clear h2 h3 h
      go_enter Try.func14, Try.ntmps14
      go_wp2_with (fail)
      go_returns
      exact decPost_no Hr.out (by go_grown)
    · have h2' : (l[2]?.getD 0 != 0) = true := by simp [h2]
      clear h2 h
      go_enter Try.func14, Try.ntmps14
      go_wp2_with (fail)
      go_returns
      exact decPost_no Hr.out (by go_grown)
  · clear h
    go_enter Try.func14, Try.ntmps14
    go_wp2_with (fail)
    go_returns
    exact decPost_no Hr.out (by go_grown)

set_option maxRecDepth 100000 in
set_option maxHeartbeats 1000000 in
theorem decode_fit (bk o n cap kz x : Nat) (z : Int) (l : List Int) (w : World) (hln : l.length = n) (hn : 40 ≤ n) (hcap : n ≤ cap) (hcm : cap ≤ maxLen) (hb : P.Bytes l)
    (hc : ∀ i, i < n → w.cell? ⟨bk, o + i, none⟩ = some (.int .u8 (l[i]?.getD 0)))
    (h1 : l[1]?.getD 0 ≤ 3) (h2 : l[2]?.getD 0 = 0) (h3 : l[3]?.getD 0 = 0) (hx : (if cap = 40 then (some ⟨bk, o, none⟩ : Option Addr) else some ⟨bk, o + 40, none⟩) = some ⟨bk, x, none⟩) (hkz : l[0]?.getD 0 = (kz : Int)) (hz : P.num (sub l 8 8) = z) (hfit : 65536 < z ∨ (n : Int) - 40 < (kz : Int) + z) :
    Calls Try.prog 14 #[.slice (some ⟨bk, o, none⟩) n cap] w (DecPost l w) := by
  have hz0 : 0 ≤ z := by rw [← hz]; exact (P.num_bound _ ((hb.drop 8).take 8)).1
  have Hr : Hid (decR l = noIt ∧ decE l = 9) := by
    rcases hfit with h | h
    · exact Lib.hid (refused_val (by omega))
    · obtain ⟨vz, rfl⟩ := Int.eq_ofNat_of_zero_le hz0
      exact Lib.hid (refused_fit hln hkz hz (by omega))
  have hobk : bk < w.heap.size := World.block_lt_of_cell? _ _ (hc 0 (by omega))
  have c0 := hc 0 (by omega)
  rw [hkz] at c0
  have c1 := hc 1 (by omega)
  have c2 := hc 2 (by omega)
  have c3 := hc 3 (by omega)
  have a0 := (hb.at 0).2
  rw [hkz] at a0
  obtain ⟨a1, a1'⟩ := hb.at 1
  have h2' : (l[2]?.getD 0 != 0) = false := by simp [h2]
  have h3' : (l[3]?.getD 0 != 0) = false := by simp [h3]
  have hnm : n ≤ 9223372036854775807 := by unfold maxLen at hcm; omega
  have i16 : (16 : Int) ≤ (n : Int) := by omega
  have i8 : (8 : Int) ≤ (n : Int) := by omega
  have i40 : (40 : Int) ≤ (n : Int) := by omega
  have m40 : 40 ≤ n := hn
  have m16c : 16 ≤ cap := by omega
  have r8 : ¬ cap = 8 := by omega
  have hrb := rb_part (by rw [hln]; exact hc) 8 8 (cap - 8) (by rw [hln]; omega)
  have hl8 : (sub l 8 8).length ≤ 8 := by rw [sub_len (by omega)]; omega
  have Hl8 := Lib.hid hl8
  have Hb8 : Hid (P.Bytes (sub l 8 8)) := Lib.hid ((hb.drop 8).take 8)
  have Hrb := Lib.hid hrb
  have Hz := Lib.hid hz
  clear hl8 hrb hc hln h2 h3 hkz hz hb
  simp only [Nat.add_zero] at c0
  by_cases hbig : 65536 < z
  · clear hfit
    go_enter Try.func14, Try.ntmps14
    go_wp2_with (fail)
    go_quiet ((go_at_call 21; exact Calls.quiet_of_same (get_w Hz.out (Hrb.out.below (below_drewN (below_new w _) _)) Hb8.out Hl8.out)))
    have HW1 := Lib.hid (below_drewN (below_new w (.cells #[.string ⟨#[]⟩, .int .u32 0, .string ⟨#[]⟩, .int .i64 0, .int .u64 0, .int .i64 0, .bool false, .bool false] 25)) nq)
    have Hz1 : Hid (Box ((w.alloc (.cells #[.string ⟨#[]⟩, .int .u32 0, .string ⟨#[]⟩, .int .i64 0, .int .u64 0, .int .i64 0, .bool false, .bool false] 25)).drewN nq) w.heap.size ⟨#[]⟩ ⟨#[]⟩ 0 0 0 0 false false) := Lib.hid (zero_box w)
    have Hf1 : Hid (∀ j, ((w.alloc (.cells #[.string ⟨#[]⟩, .int .u32 0, .string ⟨#[]⟩, .int .i64 0, .int .u64 0, .int .i64 0, .bool false, .bool false] 25)).drewN nq).frozen? ⟨w.heap.size, j, none⟩ = false) := Lib.hid (fun j => by simp [go_sem])
    generalize (w.alloc (.cells #[.string ⟨#[]⟩, .int .u32 0, .string ⟨#[]⟩, .int .i64 0, .int .u64 0, .int .i64 0, .bool false, .bool false] 25)).drewN nq = W1 at *
    have c0w := (HW1.out.cell (p := ⟨bk, o, none⟩) hobk).trans c0
    obtain ⟨z0, z1, z2, z3, z4, z5, z6, z7, zl⟩ := Hz1.out
    have f0 := Hf1.out 0
    have f1 := Hf1.out 1
    have f2 := Hf1.out 2
    have f3 := Hf1.out 3
    have f4 := Hf1.out 4
    have f5 := Hf1.out 5
    have f6 := Hf1.out 6
    have f7 := Hf1.out 7
    go_wp2_with (fail)
    exact ret_item rfl rfl rfl (box_set Hz1.out) (decPost_no Hr.out (below_set8 HW1.out (Nat.le_refl _)))
  · have hf : (n : Int) - 40 < (kz : Int) + z := by omega
    clear hfit
    go_enter Try.func14, Try.ntmps14
    go_wp2_with (fail)
    go_quiet ((go_at_call 21; exact Calls.quiet_of_same (get_w Hz.out (Hrb.out.below (below_drewN (below_new w _) _)) Hb8.out Hl8.out)))
    have HW1 := Lib.hid (below_drewN (below_new w (.cells #[.string ⟨#[]⟩, .int .u32 0, .string ⟨#[]⟩, .int .i64 0, .int .u64 0, .int .i64 0, .bool false, .bool false] 25)) nq)
    have Hz1 : Hid (Box ((w.alloc (.cells #[.string ⟨#[]⟩, .int .u32 0, .string ⟨#[]⟩, .int .i64 0, .int .u64 0, .int .i64 0, .bool false, .bool false] 25)).drewN nq) w.heap.size ⟨#[]⟩ ⟨#[]⟩ 0 0 0 0 false false) := Lib.hid (zero_box w)
    have Hf1 : Hid (∀ j, ((w.alloc (.cells #[.string ⟨#[]⟩, .int .u32 0, .string ⟨#[]⟩, .int .i64 0, .int .u64 0, .int .i64 0, .bool false, .bool false] 25)).drewN nq).frozen? ⟨w.heap.size, j, none⟩ = false) := Lib.hid (fun j => by simp [go_sem])
    generalize (w.alloc (.cells #[.string ⟨#[]⟩, .int .u32 0, .string ⟨#[]⟩, .int .i64 0, .int .u64 0, .int .i64 0, .bool false, .bool false] 25)).drewN nq = W1 at *
    have c0w := (HW1.out.cell (p := ⟨bk, o, none⟩) hobk).trans c0
    obtain ⟨z0, z1, z2, z3, z4, z5, z6, z7, zl⟩ := Hz1.out
    have f0 := Hf1.out 0
    have f1 := Hf1.out 1
    have f2 := Hf1.out 2
    have f3 := Hf1.out 3
    have f4 := Hf1.out 4
    have f5 := Hf1.out 5
    have f6 := Hf1.out 6
    have f7 := Hf1.out 7
    go_wp2_with (fail)
    exact ret_item rfl rfl rfl (box_set Hz1.out) (decPost_no Hr.out (below_set8 HW1.out (Nat.le_refl _)))
end Go.Proofs.Ytiammgeahogdoaa
