/- ItemWrites' walk. -/
import Derived.Test.YtiammgeahogdoaaG
namespace Go.Proofs.Ytiammgeahogdoaa
open Go.RowKit Go.PlainAid
set_option linter.unusedVariables false
set_option linter.unusedSimpArgs false

def errI (k v : ByteArray) (ex la : Int) : Int := if rightB k v ex la = true then 0 else 1

/-- where a reading's cells lie: below a block number -/
def LowV (B : Nat) : Value → Prop
  | .slice (some a) n _ => n = 0 ∨ a.block < B
  | _ => True

theorem rb_low {w w' : World} {v : Value} {l : List Int} {B : Nat} (h : RB w v l) (hb : Below B w w') (hl : LowV B v) : RB w' v l := by
  obtain ⟨a, cap, rfl, hc⟩ := h
  refine ⟨a, cap, rfl, fun hne => ?_⟩
  obtain ⟨b, o, rfl, hcc⟩ := hc hne
  refine ⟨b, o, rfl, fun i hi => ?_⟩
  rcases hl with h0 | h0
  · exact absurd (List.eq_nil_of_length_eq_zero h0) hne
  · exact (hb.cell (by exact h0)).trans (hcc i hi)
theorem rb_lowV {w : World} {v : Value} {l : List Int} (h : RB w v l) : LowV w.heap.size v := by
  obtain ⟨a, cap, rfl, hc⟩ := h
  cases a with
  | none => trivial
  | some a =>
    by_cases hl : l = []
    · exact .inl (by rw [hl]; rfl)
    · obtain ⟨b, o, e, hcc⟩ := hc hl
      obtain rfl := Option.some.inj e
      have hpos : 0 < l.length := List.length_pos_iff.2 hl
      exact .inr (World.block_lt_of_cell? _ _ (hcc 0 hpos))
theorem LowV.mono {B B' : Nat} {v : Value} (h : LowV B v) (hb : B ≤ B') : LowV B' v := by
  unfold LowV at *
  split <;> simp_all
  rcases h with h | h
  · exact .inl h
  · exact .inr (by omega)

set_option maxHeartbeats 1000000 in
theorem writes_walk (k v : ByteArray) (fl ex ca la : Int) (st wo : Bool) (a b : Int) (w : World) (hk : k.size ≤ maxLen) (hv : v.size ≤ maxLen) (hf0 : 0 ≤ fl) (hf1 : fl < 4294967296) (hx1 : ex ≤ 9223372036854775807) (hc0 : 0 ≤ ca) (hc1 : ca ≤ 18446744073709551615) (hl1 : la ≤ 9223372036854775807) :
    Calls Try.prog 3 #[.agg #[.string k, .int .u32 fl, .string v, .int .i64 ex, .int .u64 ca, .int .i64 la, .bool st, .bool wo], .int .i64 a, .int .i64 b] w fun e w' => e = .returned (.bool true) ∧ Below w.heap.size w w' := by
  have Henc := Lib.hid (fun W => encode_any2 k v fl ex ca la st wo W hk hv hf0 hf1 hx1 hc0 hc1 hl1)
  have Href := Lib.hid (fun W => refEncode_any k v fl ex ca la st wo W hk hv hf0 hf1 hx1 hc0 hc1 hl1)
  have hbox0 := box_new w k v fl ex ca la st wo
  have Hbox0 := Lib.hid hbox0
  clear hbox0
  go_enter Try.func3, Try.ntmps3
  go_wp2_with (fail)
  refine (shown_any _).mono ?_
  rintro e w1 ⟨rfl, hb1⟩
  have hbox1 := Hbox0.out.below hb1 (by simp)
  have hbw1 : Below w.heap.size w w1 := ((Below.refl _ _).alloc (Nat.le_refl _) _).trans (hb1.mono (by simp))
  clear hb1
  obtain ⟨x0, x1, x2, x3, x4, x5, x6, x7, hgl⟩ := id hbox1
  go_wp2_with (fail)
  refine (Href.out _).mono ?_
  rintro e w2 ⟨u, rfl, ho2, hb2⟩
  rw [show (if rightB k v ex la = true then (0 : Int) else 1) = errI k v ex la from rfl]
  have hbox2 := hbox1.below hb2 hgl
  have hbw2 := hbw1.trans (hb2.mono (Nat.le_of_lt hgl))
  have hru := rb_own ho2
  clear x0 x1 x2 x3 x4 x5 x6 x7 ho2 hb2 hbox1 hbw1
  obtain ⟨L, hL⟩ : ∃ L, L = encR k v fl ex ca la st wo := ⟨_, rfl⟩
  rw [← hL] at hru
  have HL := Lib.hid hL
  clear hL
  have Hru := Lib.hid hru
  clear hru
  go_wp2_with (fail)
  go_loopw [10] (fun t wr => ∃ j : Nat, j ≤ 2 ∧ t = .int .i64 j ∧ Box wr w.heap.size k v fl ex ca la st wo ∧ RB wr u L ∧ Below w.heap.size w wr) (fun t _ => 2 - (intOf t).toNat)
  case atStart => exact ⟨0, by omega, rfl, hbox2, Hru.out, hbw2⟩
  case round =>
    obtain ⟨j, hj, rfl, hbx, hrw, hbr⟩ := hrel
    have Hbx := Lib.hid hbx
    have Hrw := Lib.hid hrw
    clear hbox2 hbw2 hrw
    obtain ⟨x0, x1, x2, x3, x4, x5, x6, x7, hgl2⟩ := hbx
    by_cases hj2 : j < 2
    · go_wp2_with (fail)
      refine (Henc.out _).mono ?_
      rintro e w3 ⟨r, rfl, ho3, hb3⟩
      rw [show (if rightB k v ex la = true then (0 : Int) else 1) = errI k v ex la from rfl]
      rw [← HL.out] at ho3
      have hcv1 := conv_rb (rb_own ho3)
      have hcv2 := conv_rb (Hrw.out.below hb3)
      have hru3 := Lib.hid (Hrw.out.below hb3)
      have hbx3 := Lib.hid (Hbx.out.below hb3 hgl2)
      have hb3' := hbr.trans (hb3.mono hbr.size)
      clear x0 x1 x2 x3 x4 x5 x6 x7 hb3
      go_wp2_with (fail)
      clear hcv1 hcv2
      obtain ⟨wo', rfl⟩ : ∃ wo' : World, wo' = wr := ⟨_, rfl⟩
      have hbs := hbr.size
      obtain ⟨zs, hzs⟩ : ∃ zs, zs = L.map (Value.int .u8) := ⟨_, rfl⟩
      rw [← hzs] at ho3
      obtain ⟨N, hN⟩ : ∃ N, N = L.length := ⟨_, rfl⟩
      rw [← hN] at ho3
      clear hN hzs
      have hgb0 := ho3.lt
      rcases ho3.2 with ⟨rfl, h0⟩ | ⟨g, cap, cur, rfl, _, _, hnc, hcm, _⟩
      · clear ho3
        subst h0
        go_loopw [13] (fun i wi => i = .int .i64 0 ∧ wi = w3) (fun _ _ => 0)
        case atStart => exact ⟨rfl, rfl⟩
        case round =>
          obtain ⟨rfl, rfl⟩ := hrel
          go_wp2_with (fail)
          go_roundw
          case rel => exact ⟨j + 1, by omega, by go_num, hbx3.out, hru3.out, hb3'⟩
          case measure => simp [intOf]; omega
      · obtain ⟨hgb, _⟩ := hgb0 g rfl
        have hNb : N ≤ 9223372036854775807 := by unfold maxLen at hcm; omega
        go_loopw [13] (fun i wi => ∃ (q : Nat) (ys : List Value), q ≤ N ∧ i = .int .i64 q ∧ wi.ownsRow wo'.heap.size 5 1 (.slice (some ⟨g, 0, none⟩) N cap) N ys ∧ Below g w3 wi) (fun i _ => N - (intOf i).toNat)
        case atStart => exact ⟨0, zs, by omega, rfl, ho3, Below.refl _ _⟩
        case round =>
          obtain ⟨q, ys, hq, rfl, ho, hbi⟩ := hrel
          by_cases hlt : q < N
          · have hyl : ys.length = N := by have := ho.1; omega
            obtain ⟨y, hc⟩ : ∃ y, wr.cell? ⟨g, q, none⟩ = some y := ⟨ys[q]'(by omega), by rw [ho.cellAt q (by omega)]; simp⟩
            have hf := ho.frozenAt q
            have hst := (ho.stored q (.int .u8 7)).1
            clear hyl
            go_wp2_with (fail)
            go_roundw
            case rel => exact ⟨q + 1, _, by omega, by go_num, hst, hbi.setCell (by simp) _⟩
            case measure => simp [intOf]; omega
          · have hk1 := hbx3.out.below hbi (by omega)
            have hk2 : RB wr u L := rb_low hru3.out hbi ((rb_lowV Hrw.out).mono hgb)
            have hk3 := hb3'.trans (hbi.mono (by omega))
            have Hk1 := Lib.hid hk1
            have Hk2 := Lib.hid hk2
            clear hk1 hk2
            go_wp2_with (fail)
            go_roundw
            case rel => exact ⟨j + 1, by omega, by go_num, Hk1.out, Hk2.out, hk3⟩
            case measure => simp [intOf]; omega
    · go_wp2_with (fail)
      refine (size_any _ _ _).mono ?_
      rintro e w' ⟨rfl, rfl⟩
      go_wp2_with (fail)
      refine (refSize_any _ _ _).mono ?_
      rintro e w' ⟨rfl, rfl⟩
      go_wp2_with (fail)
      go_ret
      exact ⟨rfl, hbr⟩
end Go.Proofs.Ytiammgeahogdoaa
