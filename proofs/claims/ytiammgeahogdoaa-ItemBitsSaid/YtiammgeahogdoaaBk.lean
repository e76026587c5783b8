/- ItemBack's walk. -/
import Derived.Test.YtiammgeahogdoaaRd
namespace Go.Proofs.Ytiammgeahogdoaa
open Go.RowKit Go.PlainAid
set_option linter.unusedVariables false
set_option linter.unusedSimpArgs false

/-- a raw number brought to be 0 or more, and below m: as the walk spells it -/
theorem modpos (b m : Int) (hm : 0 < m) : ∃ u, 0 ≤ u ∧ u < m ∧ (b < 0 → -(b + 1).tmod m = u) ∧ (¬ b < 0 → b % m = u) := by
  by_cases h : b < 0
  · have e : (b + 1).tmod m = -((-(b + 1)) % m) := by
      have h1 := Int.neg_tmod (a := -(b + 1)) (b := m)
      rw [Int.neg_neg] at h1
      rw [h1, Int.tmod_eq_emod_of_nonneg (by omega)]
    exact ⟨_, Int.emod_nonneg (-(b + 1)) (by omega), Int.emod_lt_of_pos _ hm, fun _ => by rw [e]; omega, fun hn => absurd h hn⟩
  · exact ⟨_, Int.emod_nonneg b (by omega), Int.emod_lt_of_pos _ hm, fun hn => absurd hn h, fun _ => rfl⟩

theorem rb_take {w : World} {a : Option Addr} {n cap : Nat} {l : List Int} (h : RB w (.slice a n cap) l) (c : Nat) (hc : c ≤ n) : RB w (.slice a c cap) (l.take c) := by
  obtain ⟨a', cap', e, hcc⟩ := h
  simp only [Value.slice.injEq] at e
  obtain ⟨rfl, hl, rfl⟩ := e
  have hlen : (l.take c).length = c := by simp; omega
  refine ⟨a, cap, by rw [hlen], fun hne => ?_⟩
  obtain ⟨b, o, rfl, hx⟩ := hcc (by rintro rfl; simp at hne)
  refine ⟨b, o, rfl, fun i hi => ?_⟩
  rw [hx i (by omega), List.getElem?_take, if_pos (by omega)]

theorem dec_back {k v : ByteArray} {fl ex ca la : Int} {st wo : Bool} {b : List Int} (h : decOk (encL k v fl ex ca la st wo ++ b) = true ∧ decI (encL k v fl ex ca la st wo ++ b) = ⟨k, v, fl, ex, ca, la, st, wo⟩) :
    decR (encL k v fl ex ca la st wo ++ b) = ⟨k, v, fl, ex, ca, la, st, wo⟩ ∧ decE (encL k v fl ex ca la st wo ++ b) = 0 := by
  unfold decR decE; rw [if_pos h.1, if_pos h.1]; exact ⟨h.2, rfl⟩
theorem dec_none {l : List Int} (h : decOk l = false) : decR l = ⟨⟨#[]⟩, ⟨#[]⟩, 0, 0, 0, 0, false, false⟩ ∧ decE l = 9 := by
  unfold decR decE; rw [if_neg (by rw [h]; decide), if_neg (by rw [h]; decide)]; exact ⟨rfl, rfl⟩

set_option maxRecDepth 100000 in
set_option maxHeartbeats 2000000 in
theorem back_no (k v : ByteArray) (fl ex ca la : Int) (st wo : Bool) (lb : List Int) (a : Option Addr) (n cap : Nat) (cut : Int) (w : World) (hk : k.size ≤ maxLen) (hv : v.size ≤ maxLen) (hf0 : 0 ≤ fl) (hf1 : fl < 4294967296) (hx1 : ex ≤ 9223372036854775807) (hc0 : 0 ≤ ca) (hc1 : ca ≤ 18446744073709551615) (hl1 : la ≤ 9223372036854775807)
    (hr : rightB k v ex la = false) :
    Calls Try.prog 7 #[.agg #[.string k, .int .u32 fl, .string v, .int .i64 ex, .int .u64 ca, .int .i64 la, .bool st, .bool wo], .slice a n cap, .int .i64 cut] w fun e w' => e = .returned (.bool true) ∧ Below w.heap.size w w' := by
  have Henc := Lib.hid (fun W => encode_any2 k v fl ex ca la st wo W hk hv hf0 hf1 hx1 hc0 hc1 hl1)
  have Href := Lib.hid (fun W => refRight_any k v fl ex ca la st wo W hk hv)
  have Hr := Lib.hid hr
  have Hbox0 := Lib.hid (box_new w k v fl ex ca la st wo)
  clear hr
  go_enter Try.func7, Try.ntmps7
  go_wp2_with (fail)
  refine (shown_any _).mono ?_
  rintro e w1 ⟨rfl, hb1⟩
  have hbox1 := Hbox0.out.below hb1 (by simp)
  have hbw1 : Below w.heap.size w w1 := ((Below.refl _ _).alloc (Nat.le_refl _) _).trans (hb1.mono (by simp))
  clear hb1
  obtain ⟨x0, x1, x2, x3, x4, x5, x6, x7, hgl⟩ := id hbox1
  go_wp2_with (fail)
  refine (Henc.out _).mono ?_
  rintro e w2 ⟨u, rfl, ho2, hb2⟩
  rw [Hr.out]
  have hbox2 := hbox1.below hb2 hgl
  have hbw2 := hbw1.trans (hb2.mono (Nat.le_of_lt hgl))
  have hE : encR k v fl ex ca la st wo = [] := by unfold encR; rw [Hr.out]; rfl
  rw [hE] at ho2
  clear x0 x1 x2 x3 x4 x5 x6 x7 hb2 hbox1 hbw1 hgl hE
  obtain ⟨x0, x1, x2, x3, x4, x5, x6, x7, hgl⟩ := id hbox2
  have hrow := ho2.2
  rcases hrow with ⟨rfl, h0⟩ | ⟨g, cap2, cur, rfl, hgb, hgc, hnc, hcm2, _⟩
  all_goals
    clear ho2
    go_wp2_with (go_at_call 16; refine (Href.out _).mono ?_; rintro e w3 ⟨rfl, hb3⟩; rw [Hr.out])
    go_ret
    exact ⟨rfl, hbw2.trans (hb3.mono hbw2.size)⟩

set_option maxRecDepth 100000 in
set_option maxHeartbeats 4000000 in
theorem back_yes (k v : ByteArray) (fl ex ca la : Int) (st wo : Bool) (lb : List Int) (a : Option Addr) (n cap : Nat) (cut : Int) (w : World) (hk : k.size ≤ maxLen) (hv : v.size ≤ maxLen) (hf0 : 0 ≤ fl) (hf1 : fl < 4294967296) (hx1 : ex ≤ 9223372036854775807) (hc0 : 0 ≤ ca) (hc1 : ca ≤ 18446744073709551615) (hl1 : la ≤ 9223372036854775807)
    (hr : rightB k v ex la = true) (hrb : RB w (.slice a n cap) lb) (hln : lb.length = n) (hbb : P.Bytes lb) (hL : n ≤ 140737488351232) (hcut1 : -9223372036854775808 ≤ cut) (hcut2 : cut ≤ 9223372036854775807) :
    Calls Try.prog 7 #[.agg #[.string k, .int .u32 fl, .string v, .int .i64 ex, .int .u64 ca, .int .i64 la, .bool st, .bool wo], .slice a n cap, .int .i64 cut] w fun e w' => e = .returned (.bool true) ∧ Below w.heap.size w w' := by
  obtain ⟨q1, q2, q3, q4, q5⟩ := right_facts hr
  have Henc := Lib.hid (fun W => encode_any2 k v fl ex ca la st wo W hk hv hf0 hf1 hx1 hc0 hc1 hl1)
  have Hr := Lib.hid hr
  have Hbox0 := Lib.hid (box_new w k v fl ex ca la st wo)
  obtain ⟨L, hLL⟩ : ∃ L, L = encL k v fl ex ca la st wo := ⟨_, rfl⟩
  obtain ⟨N, hN⟩ : ∃ N, N = 40 + k.size + v.size := ⟨_, rfl⟩
  have HLn : Hid (L.length = N) := Lib.hid (by rw [hLL, encL_len, hN])
  have HLb : Hid (P.Bytes L) := Lib.hid (by rw [hLL]; exact encL_bytes _ _ _ _ _ _ _ _)
  have Hd1 : Hid (decR (L ++ lb) = ⟨k, v, fl, ex, ca, la, st, wo⟩ ∧ decE (L ++ lb) = 0) :=
    Lib.hid (by rw [hLL]; exact dec_back (dec_enc k v fl ex ca la st wo lb hr (by omega) (by omega) hf0 hf1 q4 hx1 hc0 hc1 q5 hl1))
  obtain ⟨c, hcz0, hcz1, hcn, hcp⟩ := modpos cut (N : Int) (by omega)
  obtain ⟨c, rfl⟩ := Int.eq_ofNat_of_zero_le hcz0
  have Hd2 : Hid (decR (L.take c) = ⟨⟨#[]⟩, ⟨#[]⟩, 0, 0, 0, 0, false, false⟩ ∧ decE (L.take c) = 9) :=
    Lib.hid (by rw [hLL]; exact dec_none (dec_cut k v fl ex ca la st wo c (by omega) (by omega) hf0 hf1 q4 hx1 hc0 hc1 q5 hl1 (by omega)))
  have Hsz : Hid (szI k.size v.size = (N : Int)) := Lib.hid (by unfold szI; rw [if_neg (by omega)]; omega)
  have HL : Hid (encR k v fl ex ca la st wo = L) := Lib.hid (by unfold encR; rw [if_pos hr, hLL])
  have hN1 : 41 ≤ N := by omega
  have hN2 : N ≤ 65826 := by omega
  have Hln := Lib.hid hln
  have Hrb := Lib.hid hrb
  have Hbb := Lib.hid hbb
  have Hcn := Lib.hid hcn
  have Hcp := Lib.hid hcp
  clear hr hLL hN hln hrb hbb hcn hcp
  go_enter Try.func7, Try.ntmps7
  go_wp2_with (fail)
  refine (shown_any _).mono ?_
  rintro e w1 ⟨rfl, hb1⟩
  have hbox1 := Hbox0.out.below hb1 (by simp)
  have hbw1 : Below w.heap.size w w1 := ((Below.refl _ _).alloc (Nat.le_refl _) _).trans (hb1.mono (by simp))
  clear hb1
  obtain ⟨x0, x1, x2, x3, x4, x5, x6, x7, hgl⟩ := id hbox1
  go_wp2_with (fail)
  refine (Henc.out _).mono ?_
  rintro e w2 ⟨u, rfl, ho2, hb2⟩
  rw [Hr.out]
  have hbox2 := hbox1.below hb2 hgl
  have hbw2 := hbw1.trans (hb2.mono (Nat.le_of_lt hgl))
  rw [HL.out, HLn.out] at ho2
  clear x0 x1 x2 x3 x4 x5 x6 x7 hb2 hbox1 hbw1 hgl
  rcases ho2.2 with ⟨rfl, h0⟩ | ⟨g, cap2, cur, rfl, hgb, hgc, hnc, hcm2, _⟩
  · omega
  have hg2 : g < w2.heap.size := (ho2.lt g rfl).2
  clear hgc
  have hu2 := Lib.hid (rb_own ho2)
  have hs2 := hbw2.size
  have ho2' := Lib.hid ho2
  have hu2a : Hid (RB (w2.alloc (.cells #[] 5)) (.slice (some ⟨g, 0, none⟩) N cap2) L) := Lib.hid (hu2.out.below ((Below.refl _ _).alloc (Nat.le_refl _) _))
  clear ho2
  go_wp2_with (first
    | (at_builtin; refine wp_appR w2 _ rfl _ _ rfl w2.heap.size (.slice (some ⟨w2.heap.size, 0, none⟩) 0 0) (.slice (some ⟨g, 0, none⟩) N cap2) 0 [] L rfl (own_new w2) rfl hu2a.out ((Below.refl _ _).alloc (Nat.le_refl _) _) (by have := HLn.out; omega) (by simp) ?_; intro v3 w3 ho3 hb3 hnil3; simp only [Nat.zero_add, List.nil_append] at ho3; rw [HLn.out] at ho3; have hrb3 := Lib.hid (Hrb.out.below (hbw2.trans (hb3.mono hs2))); have ho3' := Lib.hid ho3; clear ho3)
    | (at_builtin; refine wp_appR w2 w3 rfl _ _ rfl w2.heap.size v3 (.slice a n cap) N L lb rfl ho3'.out rfl hrb3.out hb3 (by have := Hln.out; omega) hb3.size ?_; intro v4 w4 ho4 hb4 hnil4; have ho4' := Lib.hid ho4; clear ho4))
  rcases ho4'.out.2 with ⟨rfl, h0⟩ | ⟨g4, cap4, cur4, rfl, hgb4, hgc4, hnc4, hcm4, _⟩
  · exfalso; omega
  clear hgc4 hnil4 hnil3
  have hbw4 := hbw2.trans (hb4.mono hs2)
  have hbox4 := hbox2.below hb4 hbox2.2.2.2.2.2.2.2.2
  have hu4 := Lib.hid (hu2.out.below hb4)
  have hlb4 : Hid (RB w4 (.slice (some ⟨g4, 0, none⟩) (N + lb.length) cap4) (L ++ lb)) := Lib.hid (rb_own ho4'.out)
  clear hb4 hb3 hrb3 ho3' ho4' hu2a hu2
  refine (decode_at hlb4.out hnc4 hcm4 (HLb.out.append Hbb.out) Hd1.out.1 Hd1.out.2).mono ?_
  rintro e w5 ⟨rfl, hb5⟩
  have hbw5 := hbw4.trans (hb5.mono hbw4.size)
  have hbox5 := hbox4.below hb5 hbox4.2.2.2.2.2.2.2.2
  have hu5 := Lib.hid (hu4.out.below hb5)
  clear hbw4 hbox4 hu4 hb5 hlb4 hbox2
  have hbox5a := hbox5.below ((Below.refl w5.heap.size w5).alloc (Nat.le_refl _) (.cells #[.string k, .int .u32 fl, .string v, .int .i64 ex, .int .u64 ca, .int .i64 la, .bool st, .bool wo] 25)) hbox5.2.2.2.2.2.2.2.2
  obtain ⟨x0, x1, x2, x3, x4, x5, x6, x7, hgl⟩ := id hbox5a
  have hhf : w.heap.size < w5.heap.size := hbox5.2.2.2.2.2.2.2.2
  have hcN : c < N := by omega
  have hub : RB (w5.alloc (.cells #[.string k, .int .u32 fl, .string v, .int .i64 ex, .int .u64 ca, .int .i64 la, .bool st, .bool wo] 25)) (.slice (some ⟨g, 0, none⟩) c cap2) (L.take c) := rb_take (hu5.out.below ((Below.refl w5.heap.size w5).alloc (Nat.le_refl _) _)) c (by omega)
  have Hub := Lib.hid hub
  have hbw5a : Below w.heap.size w (w5.alloc (.cells #[.string k, .int .u32 fl, .string v, .int .i64 ex, .int .u64 ca, .int .i64 la, .bool st, .bool wo] 25)) := hbw5.alloc hbw5.size _
  clear hub
  by_cases hneg : cut < 0
  all_goals
    first | have ek := Hcn.out hneg | have ek := Hcp.out (by omega)
    go_wp2_with (go_at_call 12; refine (size_any _ _ _).mono ?_; rintro e w' ⟨rfl, rfl⟩; rw [Hsz.out])
    refine (decode_at Hub.out (by omega) hcm2 (HLb.out.take c) Hd2.out.1 Hd2.out.2).mono ?_
    rintro e w6 ⟨rfl, hb6⟩
    have hbw6 := hbw5a.trans (hb6.mono hbw5a.size)
    go_wp2_with (fail)
    go_ret
    exact ⟨rfl, hbw6.alloc hbw6.size _⟩

theorem back_walk (k v : ByteArray) (fl ex ca la : Int) (st wo : Bool) (lb : List Int) (a : Option Addr) (n cap : Nat) (cut : Int) (w : World) (hk : k.size ≤ maxLen) (hv : v.size ≤ maxLen) (hf0 : 0 ≤ fl) (hf1 : fl < 4294967296) (hx1 : ex ≤ 9223372036854775807) (hc0 : 0 ≤ ca) (hc1 : ca ≤ 18446744073709551615) (hl1 : la ≤ 9223372036854775807)
    (hrb : RB w (.slice a n cap) lb) (hln : lb.length = n) (hbb : P.Bytes lb) (hL : n ≤ 140737488351232) (hcut : (Lit.int .i64 cut).wf = true) :
    Calls Try.prog 7 #[.agg #[.string k, .int .u32 fl, .string v, .int .i64 ex, .int .u64 ca, .int .i64 la, .bool st, .bool wo], .slice a n cap, .int .i64 cut] w fun e w' => e = .returned (.bool true) ∧ Below w.heap.size w w' := by
  obtain ⟨c1, c2⟩ : -9223372036854775808 ≤ cut ∧ cut ≤ 9223372036854775807 := by simpa [Lit.wf, IntKind.min, IntKind.max, IntKind.signed, IntKind.bits] using hcut
  cases hr : rightB k v ex la
  · exact back_no k v fl ex ca la st wo lb a n cap cut w hk hv hf0 hf1 hx1 hc0 hc1 hl1 hr
  · exact back_yes k v fl ex ca la st wo lb a n cap cut w hk hv hf0 hf1 hx1 hc0 hc1 hl1 hr hrb hln hbb hL c1 c2
end Go.Proofs.Ytiammgeahogdoaa
