/- ItemBits' walk. -/
import Derived.Test.YtiammgeahogdoaaBk
namespace Go.Proofs.Ytiammgeahogdoaa
open Go.RowKit Go.PlainAid
set_option linter.unusedVariables false
set_option linter.unusedSimpArgs false

theorem i64_and16 (n : Int) : bits .and .i64 n 65535 = n % 65536 := by
  have h127 : (BitVec.ofInt 64 65535).toNat = 2 ^ 16 - 1 := by decide
  have key : (BitVec.ofInt 64 n &&& BitVec.ofInt 64 65535).toNat = (n % ((2 ^ 64 : Nat) : Int)).toNat % 2 ^ 16 := by
    rw [BitVec.toNat_and, BitVec.toNat_ofInt, h127, Nat.and_two_pow_sub_one_eq_mod]
  show IntKind.i64.wrap ((BitVec.ofInt 64 n &&& BitVec.ofInt 64 65535).toNat : Nat) = n % 65536
  rw [key, IntKind.wrap_i64]
  omega

def tab : Nat → Nat
  | 0 => 1 | 1 => 2 | 2 => 3 | 3 => 12 | 4 => 13 | 5 => 14 | _ => 15

theorem bits_facts (k v : ByteArray) (fl ex ca la : Int) (st wo : Bool) (j : Nat) (c : Int) (hr : rightB k v ex la = true) (hf0 : 0 ≤ fl) (hf1 : fl < 4294967296) (hx1 : ex ≤ 9223372036854775807) (hc0 : 0 ≤ ca) (hc1 : ca ≤ 18446744073709551615) (hl1 : la ≤ 9223372036854775807)
    (h0 : 0 ≤ c) (hj : j = 1 ∨ j = 2 ∨ j = 3 ∨ 12 ≤ j ∧ j < 16) (hne : ¬ (encL k v fl ex ca la st wo)[j]?.getD 0 = c) (hn : ¬ (j = 1 ∧ c ≤ 3)) :
    decR ((encL k v fl ex ca la st wo).set j c) = ⟨⟨#[]⟩, ⟨#[]⟩, 0, 0, 0, 0, false, false⟩ ∧ decE ((encL k v fl ex ca la st wo).set j c) = 9 := by
  obtain ⟨q1, q2, q3, q4, q5⟩ := right_facts hr
  have hp := enc_parts k v fl ex ca la st wo [] (by omega) (by omega) hf0 hf1 q4 hx1 hc0 hc1 q5 hl1
  rw [List.append_nil] at hp
  obtain ⟨_, _, p2, p3, _⟩ := hp
  refine dec_none (dec_bad k v fl ex ca la st wo j c (by omega) (by omega) hf0 hf1 q4 hx1 hc0 hc1 q5 hl1 ?_)
  rcases hj with rfl | rfl | rfl | ⟨hj1, hj2⟩
  · exact .inl ⟨rfl, by omega⟩
  · rw [p2] at hne; exact .inr (.inl ⟨rfl, by omega⟩)
  · rw [p3] at hne; exact .inr (.inr (.inl ⟨rfl, by omega⟩))
  · rw [enc_high k v fl ex ca la st wo (by omega) j hj1 hj2] at hne; exact .inr (.inr (.inr ⟨hj1, hj2, by omega⟩))

set_option maxRecDepth 100000 in
set_option maxHeartbeats 2000000 in
theorem bits_no (k v : ByteArray) (fl ex ca la : Int) (st wo : Bool) (at_ c : Int) (w : World) (hk : k.size ≤ maxLen) (hv : v.size ≤ maxLen) (hf0 : 0 ≤ fl) (hf1 : fl < 4294967296) (hx1 : ex ≤ 9223372036854775807) (hc0 : 0 ≤ ca) (hc1 : ca ≤ 18446744073709551615) (hl1 : la ≤ 9223372036854775807)
    (hr : rightB k v ex la = false) :
    Calls Try.prog 8 #[.agg #[.string k, .int .u32 fl, .string v, .int .i64 ex, .int .u64 ca, .int .i64 la, .bool st, .bool wo], .int .i64 at_, .int .u8 c] w fun e w' => e = .returned (.bool true) ∧ Below w.heap.size w w' := by
  have Henc := Lib.hid (fun W => encode_any2 k v fl ex ca la st wo W hk hv hf0 hf1 hx1 hc0 hc1 hl1)
  have Hr := Lib.hid hr
  have Hbox0 := Lib.hid (box_new w k v fl ex ca la st wo)
  clear hr
  go_enter Try.func8, Try.ntmps8
  go_wp2_with (fail)
  refine (shown_any _).mono ?_
  rintro e w1 ⟨rfl, hb1⟩
  have hbox1 := Hbox0.out.below hb1 (by simp)
  have hbw1 : Below w.heap.size w w1 := ((Below.refl _ _).alloc (Nat.le_refl _) _).trans (hb1.mono (by simp))
  clear hb1
  obtain ⟨x0, x1, x2, x3, x4, x5, x6, x7, hgl⟩ := id hbox1
  go_wp2_with (fail)
  refine (Henc.out _).mono ?_
  rintro e w2 ⟨u, rfl, ho2, hb2⟩
  rw [Hr.out]
  have hbw2 := hbw1.trans (hb2.mono (Nat.le_of_lt hgl))
  clear ho2
  go_wp2_with (fail)
  go_ret
  exact ⟨rfl, hbw2⟩

theorem bits_of2 {c : Int} (h0 : 0 ≤ c) (h3 : c ≤ 3) : (bits .and .u8 c 1 == 1) = decide (c % 2 = 1) ∧ (bits .and .u8 c 2 == 2) = decide (c / 2 = 1) := by
  have : c = 0 ∨ c = 1 ∨ c = 2 ∨ c = 3 := by omega
  rcases this with rfl | rfl | rfl | rfl <;> decide

set_option maxRecDepth 100000 in
set_option maxHeartbeats 8000000 in
theorem bits_yes (k v : ByteArray) (fl ex ca la : Int) (st wo : Bool) (at_ c : Int) (w : World) (hk : k.size ≤ maxLen) (hv : v.size ≤ maxLen) (hf0 : 0 ≤ fl) (hf1 : fl < 4294967296) (hx1 : ex ≤ 9223372036854775807) (hc0 : 0 ≤ ca) (hc1 : ca ≤ 18446744073709551615) (hl1 : la ≤ 9223372036854775807)
    (hr : rightB k v ex la = true) (h0 : 0 ≤ c) (h256 : c < 256) :
    Calls Try.prog 8 #[.agg #[.string k, .int .u32 fl, .string v, .int .i64 ex, .int .u64 ca, .int .i64 la, .bool st, .bool wo], .int .i64 at_, .int .u8 c] w fun e w' => e = .returned (.bool true) ∧ Below w.heap.size w w' := by
  obtain ⟨q1, q2, q3, q4, q5⟩ := right_facts hr
  have Henc := Lib.hid (fun W => encode_any2 k v fl ex ca la st wo W hk hv hf0 hf1 hx1 hc0 hc1 hl1)
  have Hr := Lib.hid hr
  have Hbox0 := Lib.hid (box_new w k v fl ex ca la st wo)
  have Hbad := Lib.hid (fun j => bits_facts k v fl ex ca la st wo j c hr hf0 hf1 hx1 hc0 hc1 hl1 h0)
  have Hgood := Lib.hid (fun h3 => dec_bits k v fl ex ca la st wo c hr (by omega) (by omega) hf0 hf1 q4 hx1 hc0 hc1 q5 hl1 h0 h3)
  obtain ⟨L, hLL⟩ : ∃ L, L = encL k v fl ex ca la st wo := ⟨_, rfl⟩
  obtain ⟨N, hN⟩ : ∃ N, N = 40 + k.size + v.size := ⟨_, rfl⟩
  have HLn : Hid (L.length = N) := Lib.hid (by rw [hLL, encL_len, hN])
  have HLb : Hid (P.Bytes L) := Lib.hid (by rw [hLL]; exact encL_bytes _ _ _ _ _ _ _ _)
  rw [← hLL] at Hbad Hgood
  have HL : Hid (encR k v fl ex ca la st wo = L) := Lib.hid (by unfold encR; rw [if_pos hr, hLL])
  have hN1 : 41 ≤ N := by omega
  have hN2 : N ≤ 65826 := by omega
  obtain ⟨m, hm⟩ := Int.eq_ofNat_of_zero_le (show 0 ≤ at_ % 65536 by omega)
  have hand : bits .and .i64 at_ 65535 = (m : Int) := by rw [i64_and16, hm]
  have hm2 : m < 65536 := by omega
  obtain ⟨r, hrr⟩ : ∃ r : Nat, r = m % 7 := ⟨_, rfl⟩
  have hmr : (m : Int) % 7 = (r : Int) := by omega
  have hr7 : r < 7 := by omega
  obtain ⟨j, hj⟩ : ∃ j, j = tab r := ⟨_, rfl⟩
  have hjt : (r = 0 ∧ j = 1) ∨ (r = 1 ∧ j = 2) ∨ (r = 2 ∧ j = 3) ∨ (r = 3 ∧ j = 12) ∨ (r = 4 ∧ j = 13) ∨ (r = 5 ∧ j = 14) ∨ (r = 6 ∧ j = 15) := by
    have : r = 0 ∨ r = 1 ∨ r = 2 ∨ r = 3 ∨ r = 4 ∨ r = 5 ∨ r = 6 := by omega
    rcases this with h | h | h | h | h | h | h <;> subst h <;> simp [tab] at hj <;> omega
  clear hr hLL hN hm hrr hj
  have Hjt := Lib.hid hjt
  have hjN : j < N := by omega
  clear hjt
  have Hmr := Lib.hid hmr
  clear hmr
  go_enter Try.func8, Try.ntmps8
  go_wp2_with (fail)
  refine (shown_any _).mono ?_
  rintro e w1 ⟨rfl, hb1⟩
  have hbox1 := Hbox0.out.below hb1 (by simp)
  have hbw1 : Below w.heap.size w w1 := ((Below.refl _ _).alloc (Nat.le_refl _) _).trans (hb1.mono (by simp))
  have hfz1 : ∀ i, w1.frozen? ⟨w.heap.size, i, none⟩ = false := fun i => by
    rw [hb1.frozen (p := ⟨w.heap.size, i, none⟩) (by simp)]; simp [go_sem]
  clear hb1
  obtain ⟨x0, x1, x2, x3, x4, x5, x6, x7, hgl⟩ := id hbox1
  go_wp2_with (fail)
  refine (Henc.out _).mono ?_
  rintro e w2 ⟨u, rfl, ho2, hb2⟩
  rw [Hr.out]
  have hbox2 := hbox1.below hb2 hgl
  have hbw2 := hbw1.trans (hb2.mono (Nat.le_of_lt hgl))
  have hfz2 : ∀ i, w2.frozen? ⟨w.heap.size, i, none⟩ = false := fun i => (hb2.frozen (p := ⟨w.heap.size, i, none⟩) hgl).trans (hfz1 i)
  have Hfz2 := Lib.hid hfz2
  rw [HL.out, HLn.out] at ho2
  clear x0 x1 x2 x3 x4 x5 x6 x7 hbox1 hbw1 hfz1 hfz2
  rcases ho2.2 with ⟨rfl, h00⟩ | ⟨g, cap2, cur, rfl, hgb, hgc, hnc, hcm2, _⟩
  · omega
  have hg2 : g < w2.heap.size := (ho2.lt g rfl).2
  have hgG : w.heap.size < g := Nat.lt_of_lt_of_le hgl hgb
  have Ho2 := Lib.hid ho2
  have hc := own_at ho2 j hjN
  have hf := ho2.frozenAt j
  clear hgc ho2 hb2 hgl
  by_cases heq : L[j]?.getD 0 = c
  · have hbe : (L[j]?.getD 0 == c) = true := by simp [heq]
    clear heq Hbad
    rcases Hjt.out with ⟨rfl, rfl⟩ | ⟨rfl, rfl⟩ | ⟨rfl, rfl⟩ | ⟨rfl, rfl⟩ | ⟨rfl, rfl⟩ | ⟨rfl, rfl⟩ | ⟨rfl, rfl⟩
    all_goals
      have hmr := Hmr.out
      clear Hjt
      go_wp2_with (fail)
      go_ret
      exact ⟨rfl, hbw2.alloc hbw2.size _⟩
  · have hbe : (L[j]?.getD 0 == c) = false := by simp [heq]
    by_cases h13 : j = 1 ∧ c ≤ 3
    · obtain ⟨rfl, hc3⟩ := h13
      have hr0 : r = 0 := by have := Hjt.out; omega
      subst hr0
      obtain ⟨s1, hs1⟩ : ∃ b, decide (c % 2 = 1) = b := ⟨_, rfl⟩
      obtain ⟨s2, hs2⟩ : ∃ b, decide (c / 2 = 1) = b := ⟨_, rfl⟩
      have hb12 := bits_of2 h0 hc3
      rw [hs1, hs2] at hb12
      obtain ⟨hbt1, hbt2⟩ := hb12
      have Hd : Hid (decR (L.set 1 c) = ⟨k, v, fl, ex, ca, la, s1, s2⟩ ∧ decE (L.set 1 c) = 0) := by
        have := Hgood.out hc3
        rw [hs1, hs2] at this
        unfold decR decE
        rw [if_pos this.1, if_pos this.1]
        exact Lib.hid ⟨this.2, rfl⟩
      have hbst : Hid (((w2.setCell ⟨g, 1, none⟩ (.int .u8 c)).alloc (.cells #[.int .i64 1, .int .i64 2, .int .i64 3, .int .i64 12, .int .i64 13, .int .i64 14, .int .i64 15] 3)).ownsRow w1.heap.size 5 1 (.slice (some ⟨g, 0, none⟩) N cap2) N ((L.set 1 c).map (.int .u8))) := by
        have := ((Ho2.out.stored 1 (.int .u8 c)).1).alloc (.cells #[.int .i64 1, .int .i64 2, .int .i64 3, .int .i64 12, .int .i64 13, .int .i64 14, .int .i64 15] 3)
        rw [← List.map_set] at this
        exact Lib.hid this
      have hbl : Hid (Below g w2 ((w2.setCell ⟨g, 1, none⟩ (.int .u8 c)).alloc (.cells #[.int .i64 1, .int .i64 2, .int .i64 3, .int .i64 12, .int .i64 13, .int .i64 14, .int .i64 15] 3))) := Lib.hid (((Below.refl g w2).setCell (p := ⟨g, 1, none⟩) (Nat.le_refl _) (.int .u8 c)).alloc (by simpa [World.setCell] using Nat.le_of_lt hg2) _)
      have hbw3 : Hid (Below w.heap.size w ((w2.setCell ⟨g, 1, none⟩ (.int .u8 c)).alloc (.cells #[.int .i64 1, .int .i64 2, .int .i64 3, .int .i64 12, .int .i64 13, .int .i64 14, .int .i64 15] 3))) := Lib.hid (hbw2.trans (hbl.out.mono (Nat.le_of_lt hgG)))
      have hby : Hid (P.Bytes (L.set 1 c)) := by
        refine Lib.hid (fun x hx => ?_)
        rcases List.mem_or_eq_of_mem_set hx with h | h
        · exact HLb.out x h
        · omega
      have hmr := Hmr.out
      clear hs1 hs2 heq Hbad Hgood Hjt
      go_wp2_with (fail)
      refine (decode_at (rb_own hbst.out) hnc hcm2 hby.out Hd.out.1 Hd.out.2).mono ?_
      rintro e w4 ⟨rfl, hb4⟩
      have hbw4 := hbw3.out.trans (hb4.mono hbw3.out.size)
      have hbl4 := hbl.out.trans (hb4.mono (B' := g) (by simp [World.setCell]; omega))
      have hbox4 := hbox2.below hbl4 hgG
      have hfz4 : ∀ i, w4.frozen? ⟨w.heap.size, i, none⟩ = false := fun i => (hbl4.frozen (p := ⟨w.heap.size, i, none⟩) hgG).trans (Hfz2.out i)
      have f6 := hfz4 6
      have f7 := hfz4 7
      obtain ⟨x0, x1, x2, x3, x4, x5, x6, x7, hgl⟩ := hbox4
      clear hfz4 hb4 hbl4 hbox2
      go_wp2_with (fail)
      go_ret
      exact ⟨rfl, by go_grown⟩
    · have hd := Hbad.out j (by have := Hjt.out; omega) heq h13
      have Hd := Lib.hid hd
      have H13 : j = 1 → 3 < c := by omega
      have hbst : Hid (((w2.setCell ⟨g, j, none⟩ (.int .u8 c)).alloc (.cells #[.int .i64 1, .int .i64 2, .int .i64 3, .int .i64 12, .int .i64 13, .int .i64 14, .int .i64 15] 3)).ownsRow w1.heap.size 5 1 (.slice (some ⟨g, 0, none⟩) N cap2) N ((L.set j c).map (.int .u8))) := by
        have := ((Ho2.out.stored j (.int .u8 c)).1).alloc (.cells #[.int .i64 1, .int .i64 2, .int .i64 3, .int .i64 12, .int .i64 13, .int .i64 14, .int .i64 15] 3)
        rw [← List.map_set] at this
        exact Lib.hid this
      have hbw3 : Hid (Below w.heap.size w ((w2.setCell ⟨g, j, none⟩ (.int .u8 c)).alloc (.cells #[.int .i64 1, .int .i64 2, .int .i64 3, .int .i64 12, .int .i64 13, .int .i64 14, .int .i64 15] 3))) := Lib.hid ((hbw2.setCell (Nat.le_of_lt hgG) _).alloc (by simpa [World.setCell] using hbw2.size) _)
      have hby : Hid (P.Bytes (L.set j c)) := by
        refine Lib.hid (fun x hx => ?_)
        rcases List.mem_or_eq_of_mem_set hx with h | h
        · exact HLb.out x h
        · omega
      clear heq hd h13 Hbad Hgood
      rcases Hjt.out with ⟨rfl, rfl⟩ | ⟨rfl, rfl⟩ | ⟨rfl, rfl⟩ | ⟨rfl, rfl⟩ | ⟨rfl, rfl⟩ | ⟨rfl, rfl⟩ | ⟨rfl, rfl⟩
      all_goals
        have hmr := Hmr.out
        have h13 : 0 ≤ c ∧ (_ = 1 → 3 < c) := ⟨h0, H13⟩
        clear Hjt H13
        obtain ⟨_, h13⟩ := h13
        go_wp2_with (fail)
        refine (decode_at (rb_own hbst.out) hnc hcm2 hby.out Hd.out.1 Hd.out.2).mono ?_
        rintro e w4 ⟨rfl, hb4⟩
        have hbw4 := hbw3.out.trans (hb4.mono hbw3.out.size)
        go_wp2_with (fail)
        go_ret
        exact ⟨rfl, hbw4.alloc hbw4.size _⟩
theorem bits_walk (k v : ByteArray) (fl ex ca la : Int) (st wo : Bool) (at_ c : Int) (w : World) (hk : k.size ≤ maxLen) (hv : v.size ≤ maxLen) (hf0 : 0 ≤ fl) (hf1 : fl < 4294967296) (hx1 : ex ≤ 9223372036854775807) (hc0 : 0 ≤ ca) (hc1 : ca ≤ 18446744073709551615) (hl1 : la ≤ 9223372036854775807)
    (hc : (Lit.int .u8 c).wf = true) :
    Calls Try.prog 8 #[.agg #[.string k, .int .u32 fl, .string v, .int .i64 ex, .int .u64 ca, .int .i64 la, .bool st, .bool wo], .int .i64 at_, .int .u8 c] w fun e w' => e = .returned (.bool true) ∧ Below w.heap.size w w' := by
  have h : 0 ≤ c ∧ c ≤ 255 := by simpa [Lit.wf, IntKind.min, IntKind.max, IntKind.signed, IntKind.bits] using hc
  cases hr : rightB k v ex la
  · exact bits_no k v fl ex ca la st wo at_ c w hk hv hf0 hf1 hx1 hc0 hc1 hl1 hr
  · exact bits_yes k v fl ex ca la st wo at_ c w hk hv hf0 hf1 hx1 hc0 hc1 hl1 hr h.1 (by omega)
end Go.Proofs.Ytiammgeahogdoaa
