/- b64.Encode: contract. -/
import Derived.Test.YtkajdnaanipngaaDoorB
import Derived.Test.YtkajdnaanipngaaDoorP
import Derived.Deep.LoopGhost
namespace Go.Proofs.YtkajdnaanipngaaDoor
open Go.RowKit Go.PlainAid
set_option linter.unusedVariables false
set_option linter.unusedSimpArgs false

/-- a builder of the call's own, laid in the first block: what it holds -/
def Bd (w0 : World) (l : List Int) (wr : World) : Prop := Lib.IsBuilderF 33 5 w0.heap.size w0.heap.size (l.map (Value.int .u8)) wr ∧ Below w0.heap.size w0 wr
theorem bd_new (w0 : World) : Bd w0 [] (w0.alloc (.cells #[.pointer none, .slice none 0 0] 33)) := ⟨Lib.IsBuilderF.of (Lib.fresh_isBuilder 33 5 w0), (Below.refl _ w0).alloc (Nat.le_refl _) _⟩
theorem bd_write {w0 wr : World} {l : List Int} (h : Bd w0 l wr) (c : Int) {l' : List Int} (he : l' = l ++ [c]) (hl : l.length ≤ 1000000000) :
    Calls Tryd.prog 14 #[.pointer (some ⟨w0.heap.size, 0, none⟩), .int .u8 c] wr fun e w' => e = .returned .nilIface ∧ Bd w0 l' w' := by
  subst he
  refine (writeByte_any w0.heap.size w0.heap.size _ c wr h.1 (by simp; omega) h.2.size).mono ?_
  rintro e w' ⟨rfl, h1, h2, _⟩
  exact ⟨rfl, Or.inr (by simpa using h1), h.2.trans h2⟩
theorem bd_len {w0 wr : World} {l : List Int} (h : Bd w0 l wr) {n : Int} (hn : (l.length : Int) = n) :
    Calls Tryd.prog 15 #[.pointer (some ⟨w0.heap.size, 0, none⟩)] wr fun e w' => e = .returned (.int .i64 n) ∧ wr = w' := by
  subst hn
  refine (Tryd.Builder_Len_f w0.heap.size w0.heap.size _ wr h.1).mono ?_
  rintro e w' ⟨rfl, rfl⟩
  exact ⟨by simp, rfl⟩
theorem nums_cells {l : List Int} (hb : ∀ x ∈ l, 0 ≤ x ∧ x ≤ 255) : l.map (Value.int .u8) = Lib.byteCells (l.map (fun n => UInt8.ofNat n.toNat)) := by
  unfold Lib.byteCells
  rw [List.map_map]
  refine List.map_congr_left fun x hx => ?_
  obtain ⟨h0, h1⟩ := hb x hx
  simp only [Function.comp]
  congr 1
  have : (UInt8.ofNat x.toNat).toNat = x.toNat := by simp; omega
  omega
theorem bd_string {w0 wr : World} {l : List Int} (h : Bd w0 l wr) (hb : ∀ x ∈ l, 0 ≤ x ∧ x ≤ 255) {s : ByteArray} (he : strOfNums l = s) :
    Calls Tryd.prog 16 #[.pointer (some ⟨w0.heap.size, 0, none⟩)] wr fun e w' => e = .returned (.string s) ∧ Below w0.heap.size w0 w' := by
  subst he
  have h1 := h.1
  rw [nums_cells hb] at h1
  refine (Tryd.Builder_String_any_f w0.heap.size w0.heap.size _ wr h1 h.2.size).mono ?_
  rintro e w' ⟨rfl, _, h2⟩
  exact ⟨rfl, h.2.trans h2⟩

theorem letters_get : ∀ (n : Nat) (h : n < (ByteArray.mk #[65, 66, 67, 68, 69, 70, 71, 72, 73, 74, 75, 76, 77, 78, 79, 80, 81, 82, 83, 84, 85, 86, 87, 88, 89, 90, 97, 98, 99, 100, 101, 102, 103, 104, 105, 106, 107, 108, 109, 110, 111, 112, 113, 114, 115, 116, 117, 118, 119, 120, 121, 122, 48, 49, 50, 51, 52, 53, 54, 55, 56, 57, 43, 47]).size), (((ByteArray.mk #[65, 66, 67, 68, 69, 70, 71, 72, 73, 74, 75, 76, 77, 78, 79, 80, 81, 82, 83, 84, 85, 86, 87, 88, 89, 90, 97, 98, 99, 100, 101, 102, 103, 104, 105, 106, 107, 108, 109, 110, 111, 112, 113, 114, 115, 116, 117, 118, 119, 120, 121, 122, 48, 49, 50, 51, 52, 53, 54, 55, 56, 57, 43, 47])[n]'h).toNat : Int) = P.letter n := by decide

set_option maxRecDepth 100000 in
set_option maxHeartbeats 1000000 in
theorem encode_any (s : ByteArray) (w : World) (hs : s.size ≤ 100000000) : Calls Tryd.prog 10 #[.string s] w fun e w' => e = .returned (.string (strOfNums (P.encS s))) ∧ Below w.heap.size w w' := by
  have hb := get_bt s
  go_enter Tryd.func10, Tryd.ntmps10
  go_wp2
  go_loopw [4, 5, 9] (fun v4 v5 v9 wr => ∃ (k : Nat) (x : Int), k ≤ s.size ∧ v9 = .int .i64 k ∧ v4 = .int .u32 x ∧ v5 = .int .i64 ((8 * k % 6 : Nat) : Int) ∧ 0 ≤ x ∧ x < 4294967296 ∧ (0 < k → x % 256 = bt s (k - 1)) ∧ Bd w (P.lets (bt s) (8 * k / 6)) wr) (fun _ _ i _ => s.size - (intOf i).toNat)
  case atStart => exact ⟨0, 0, Nat.zero_le _, rfl, rfl, rfl, by omega, by omega, fun h => absurd h (by omega), bd_new w⟩
  case round =>
    obtain ⟨k, x, hk, rfl, rfl, rfl, hx0, hx1, hxk, hB⟩ := hrel
    by_cases hlt : k < s.size
    · have hn := bt_nonneg s k
      have hl := bt_le s k
      have e8 := P.or8 x (bt s k) hx0 hx1 hn hl
      have hltI : (k : Int) < (s.size : Int) := by omega
      obtain ⟨q, hq⟩ : ∃ q, k = 3 * q ∨ k = 3 * q + 1 ∨ k = 3 * q + 2 := ⟨k / 3, by omega⟩
      rcases hq with hq | hq | hq
      · have ep : ((8 * k % 6 : Nat) : Int) = 0 := by omega
        rw [ep]
        have Hq := Lib.hid hq
        have hB' : Bd w (P.lets (bt s) (4 * q)) wr := by rw [show 8 * k / 6 = 4 * q by omega] at hB; exact hB
        have ey : (x * 256 % 4294967296 + bt s k) % 256 = bt s k := by omega
        have ey0 : 0 ≤ x * 256 % 4294967296 + bt s k := by omega
        have ey1 : x * 256 % 4294967296 + bt s k < 4294967296 := by omega
        have Hey := Lib.hid ey
        clear hq hB hxk ep ey
        go_wp2
        generalize x * 256 % 4294967296 + bt s k = y at *
        go_loopw [5] (fun v5 wz => (v5 = .int .i64 8 ∧ Bd w (P.lets (bt s) (4 * q)) wz) ∨ (v5 = .int .i64 2 ∧ Bd w (P.lets (bt s) (4 * q + 1)) wz)) (fun v _ => (intOf v).toNat)
        case atStart => exact (.inl ⟨rfl, hB'⟩)
        case round =>
          rcases hrel with ⟨rfl, hz⟩ | ⟨rfl, hz⟩
          · obtain ⟨m, hm⟩ : ∃ m : Nat, P.sx (bt s) (4 * q) = m := ⟨(P.sx (bt s) (4 * q)).toNat, by have := (P.sx_bound (P.by_bt s) (4 * q)).1; omega⟩
            have hm1 : m < 64 := by have := (P.sx_bound (P.by_bt s) (4 * q)).2; omega
            have ea : bits .and .u32 (y / 4) 63 = (m : Int) := by
              have h1 := Hey.out
              rw [P.and63 _ (by omega) (by omega), ← hm, P.sx0]
              rw [← Hq.out]; omega
            have Hm := Lib.hid hm
            clear hm
            have hL := letters_get
            go_wp2_with (fail)
            refine (bd_write hz (P.letter m) (l' := P.lets (bt s) (4 * q + 1)) (by rw [P.lets_succ, Hm.out]) (by rw [P.lets_len]; have := Hq.out; omega)).mono ?_
            rintro e w2 ⟨rfl, hz2⟩
            go_wp2_with (fail)
            go_roundw
            case rel => exact (.inr ⟨rfl, hz2⟩)
            case measure => simp [intOf]
          · go_wp2_with (fail)
            go_roundw
            case rel => exact ⟨k + 1, y, by omega, by go_num, rfl, by rw [show ((8 * (k + 1) % 6 : Nat) : Int) = 2 by have := Hq.out; omega], ey0, ey1, fun _ => Hey.out, by rw [show 8 * (k + 1) / 6 = 4 * q + 1 by have := Hq.out; omega]; exact hz⟩
            case measure => simp [intOf]; omega
      · have ep : ((8 * k % 6 : Nat) : Int) = 2 := by omega
        rw [ep]
        have Hq := Lib.hid hq
        have hB' : Bd w (P.lets (bt s) (4 * q + 1)) wr := by rw [show 8 * k / 6 = 4 * q + 1 by omega] at hB; exact hB
        have ey : (x * 256 % 4294967296 + bt s k) % 256 = bt s k := by omega
        have hxk' := hxk (by omega)
        have eyp : (x * 256 % 4294967296 + bt s k) % 65536 = bt s (k - 1) * 256 + bt s k := by omega
        have Hyp := Lib.hid eyp
        have ey0 : 0 ≤ x * 256 % 4294967296 + bt s k := by omega
        have ey1 : x * 256 % 4294967296 + bt s k < 4294967296 := by omega
        have Hey := Lib.hid ey
        clear hq hB hxk ep ey hxk' eyp
        go_wp2
        generalize x * 256 % 4294967296 + bt s k = y at *
        go_loopw [5] (fun v5 wz => (v5 = .int .i64 10 ∧ Bd w (P.lets (bt s) (4 * q + 1)) wz) ∨ (v5 = .int .i64 4 ∧ Bd w (P.lets (bt s) (4 * q + 2)) wz)) (fun v _ => (intOf v).toNat)
        case atStart => exact (.inl ⟨rfl, hB'⟩)
        case round =>
          rcases hrel with ⟨rfl, hz⟩ | ⟨rfl, hz⟩
          · obtain ⟨m, hm⟩ : ∃ m : Nat, P.sx (bt s) (4 * q + 1) = m := ⟨(P.sx (bt s) (4 * q + 1)).toNat, by have := (P.sx_bound (P.by_bt s) (4 * q + 1)).1; omega⟩
            have hm1 : m < 64 := by have := (P.sx_bound (P.by_bt s) (4 * q + 1)).2; omega
            have ea : bits .and .u32 (y / 16) 63 = (m : Int) := by
              have h1 := Hey.out
              have h2 := Hyp.out
              rw [P.and63 _ (by omega) (by omega), ← hm, P.sx1]
              rw [show 3 * q = k - 1 by have := Hq.out; omega, show k - 1 + 1 = k by have := Hq.out; omega]; omega
            have Hm := Lib.hid hm
            clear hm
            have hL := letters_get
            go_wp2_with (fail)
            refine (bd_write hz (P.letter m) (l' := P.lets (bt s) (4 * q + 2)) (by rw [P.lets_succ, Hm.out]) (by rw [P.lets_len]; have := Hq.out; omega)).mono ?_
            rintro e w2 ⟨rfl, hz2⟩
            go_wp2_with (fail)
            go_roundw
            case rel => exact (.inr ⟨rfl, hz2⟩)
            case measure => simp [intOf]
          · go_wp2_with (fail)
            go_roundw
            case rel => exact ⟨k + 1, y, by omega, by go_num, rfl, by rw [show ((8 * (k + 1) % 6 : Nat) : Int) = 4 by have := Hq.out; omega], ey0, ey1, fun _ => Hey.out, by rw [show 8 * (k + 1) / 6 = 4 * q + 2 by have := Hq.out; omega]; exact hz⟩
            case measure => simp [intOf]; omega
      · have ep : ((8 * k % 6 : Nat) : Int) = 4 := by omega
        rw [ep]
        have Hq := Lib.hid hq
        have hB' : Bd w (P.lets (bt s) (4 * q + 2)) wr := by rw [show 8 * k / 6 = 4 * q + 2 by omega] at hB; exact hB
        have ey : (x * 256 % 4294967296 + bt s k) % 256 = bt s k := by omega
        have hxk' := hxk (by omega)
        have eyp : (x * 256 % 4294967296 + bt s k) % 65536 = bt s (k - 1) * 256 + bt s k := by omega
        have Hyp := Lib.hid eyp
        have ey0 : 0 ≤ x * 256 % 4294967296 + bt s k := by omega
        have ey1 : x * 256 % 4294967296 + bt s k < 4294967296 := by omega
        have Hey := Lib.hid ey
        clear hq hB hxk ep ey hxk' eyp
        go_wp2
        generalize x * 256 % 4294967296 + bt s k = y at *
        go_loopw [5] (fun v5 wz => (v5 = .int .i64 12 ∧ Bd w (P.lets (bt s) (4 * q + 2)) wz) ∨ (v5 = .int .i64 6 ∧ Bd w (P.lets (bt s) (4 * q + 3)) wz) ∨ (v5 = .int .i64 0 ∧ Bd w (P.lets (bt s) (4 * q + 4)) wz)) (fun v _ => (intOf v).toNat)
        case atStart => exact (.inl ⟨rfl, hB'⟩)
        case round =>
          rcases hrel with ⟨rfl, hz⟩ | ⟨rfl, hz⟩ | ⟨rfl, hz⟩
          · obtain ⟨m, hm⟩ : ∃ m : Nat, P.sx (bt s) (4 * q + 2) = m := ⟨(P.sx (bt s) (4 * q + 2)).toNat, by have := (P.sx_bound (P.by_bt s) (4 * q + 2)).1; omega⟩
            have hm1 : m < 64 := by have := (P.sx_bound (P.by_bt s) (4 * q + 2)).2; omega
            have ea : bits .and .u32 (y / 64) 63 = (m : Int) := by
              have h1 := Hey.out
              have h2 := Hyp.out
              rw [P.and63 _ (by omega) (by omega), ← hm, P.sx2]
              rw [show 3 * q + 1 = k - 1 by have := Hq.out; omega, show 3 * q + 2 = k by have := Hq.out; omega]; omega
            have Hm := Lib.hid hm
            clear hm
            have hL := letters_get
            go_wp2_with (fail)
            refine (bd_write hz (P.letter m) (l' := P.lets (bt s) (4 * q + 3)) (by rw [P.lets_succ, Hm.out]) (by rw [P.lets_len]; have := Hq.out; omega)).mono ?_
            rintro e w2 ⟨rfl, hz2⟩
            go_wp2_with (fail)
            go_roundw
            case rel => exact (.inr (.inl ⟨rfl, hz2⟩))
            case measure => simp [intOf]
          · obtain ⟨m, hm⟩ : ∃ m : Nat, P.sx (bt s) (4 * q + 3) = m := ⟨(P.sx (bt s) (4 * q + 3)).toNat, by have := (P.sx_bound (P.by_bt s) (4 * q + 3)).1; omega⟩
            have hm1 : m < 64 := by have := (P.sx_bound (P.by_bt s) (4 * q + 3)).2; omega
            have ea : bits .and .u32 y 63 = (m : Int) := by
              have h1 := Hey.out
              have h2 := Hyp.out
              rw [P.and63 _ (by omega) (by omega), ← hm, P.sx3]
              rw [show 3 * q + 2 = k by have := Hq.out; omega]; omega
            have Hm := Lib.hid hm
            clear hm
            have hL := letters_get
            go_wp2_with (fail)
            refine (bd_write hz (P.letter m) (l' := P.lets (bt s) (4 * q + 4)) (by rw [P.lets_succ, Hm.out]) (by rw [P.lets_len]; have := Hq.out; omega)).mono ?_
            rintro e w2 ⟨rfl, hz2⟩
            go_wp2_with (fail)
            go_roundw
            case rel => exact (.inr (.inr ⟨rfl, hz2⟩))
            case measure => simp [intOf]
          · go_wp2_with (fail)
            go_roundw
            case rel => exact ⟨k + 1, y, by omega, by go_num, rfl, by rw [show ((8 * (k + 1) % 6 : Nat) : Int) = 0 by have := Hq.out; omega], ey0, ey1, fun _ => Hey.out, by rw [show 8 * (k + 1) / 6 = 4 * q + 4 by have := Hq.out; omega]; exact hz⟩
            case measure => simp [intOf]; omega
    · obtain rfl : k = s.size := by omega
      obtain ⟨q, hq⟩ : ∃ q, s.size = 3 * q ∨ s.size = 3 * q + 1 ∨ s.size = 3 * q + 2 := ⟨s.size / 3, by omega⟩
      rcases hq with hq | hq | hq
      · have ep : ((8 * s.size % 6 : Nat) : Int) = 0 := by omega
        rw [ep]
        have hB' : Bd w (P.lets (bt s) (4 * q)) wr := by rw [show 8 * s.size / 6 = 4 * q by omega] at hB; exact hB
        have Hnl := Lib.hid (show P.nl s.size = 4 * q by unfold P.nl; omega)
        have Hnp := Lib.hid (show P.np s.size = 4 * q + 0 by unfold P.np; omega)
        have hq1 : q ≤ 100000000 := by omega
        clear hq hB hxk ep hk
        go_wp2_with (fail)
        go_loopg [] 0 (fun gk wz => ∃ p : Nat, p + gk = 0 ∧ Bd w (P.lets (bt s) (4 * q) ++ List.replicate p 61) wz)
        case atStart => exact ⟨0, by omega, by simpa using hB'⟩
        case round =>
          obtain ⟨p, hp, hz3⟩ := hrel
          obtain ⟨L, hL⟩ : ∃ L : Nat, L = 4 * q + p := ⟨_, rfl⟩
          have hlen : (((P.lets (bt s) (4 * q) ++ List.replicate p 61).length : Nat) : Int) = (L : Int) := by rw [hL, List.length_append, P.lets_len, List.length_replicate]
          have Hlen := Lib.hid hlen
          have HL := Lib.hid hL
          clear hlen
          by_cases h0 : gk = 0
          · have hm0 : (L : Int) % 4 = 0 := by omega
            have Hp := Lib.hid (show p = 0 by omega)
            clear hL hp h0
            go_wp2_with (go_at_call 15; refine (bd_len hz3 Hlen.out).mono ?_; rintro e w' ⟨rfl, rfl⟩)
            refine (bd_string hz3 ?_ (s := strOfNums (P.encS s)) ?_).mono ?_
            · intro y hy
              rcases List.mem_append.1 hy with hy | hy
              · obtain ⟨i, _, rfl⟩ := List.mem_map.1 hy
                have hb1 := P.sx_bound (P.by_bt s) i
                have := P.letter_byte hb1.1 hb1.2
                omega
              · have := (List.mem_replicate.1 hy).2; omega
            · unfold P.encS P.enc; rw [Hnl.out, Hnp.out, Hp.out, Nat.add_sub_cancel_left]
            · rintro e w4 ⟨rfl, hb4⟩
              go_wp2_with (fail)
              go_ret
              exact ⟨rfl, hb4⟩
          · exact absurd hp (by omega)
      · have ep : ((8 * s.size % 6 : Nat) : Int) = 2 := by omega
        rw [ep]
        have hB' : Bd w (P.lets (bt s) (4 * q + 1)) wr := by rw [show 8 * s.size / 6 = 4 * q + 1 by omega] at hB; exact hB
        have Hnl := Lib.hid (show P.nl s.size = 4 * q + 2 by unfold P.nl; omega)
        have Hnp := Lib.hid (show P.np s.size = 4 * q + 2 + 2 by unfold P.np; omega)
        have hq1 : q ≤ 100000000 := by omega
        have hxk' := hxk (by omega)
        obtain ⟨m, hm⟩ : ∃ m : Nat, P.sx (bt s) (4 * q + 1) = m := ⟨(P.sx (bt s) (4 * q + 1)).toNat, by have := (P.sx_bound (P.by_bt s) (4 * q + 1)).1; omega⟩
        have hm1 : m < 64 := by have := (P.sx_bound (P.by_bt s) (4 * q + 1)).2; omega
        have ea : bits .and .u32 (x * 16 % 4294967296) 63 = (m : Int) := by
          have h0 := bt_end s (k := s.size) (Nat.le_refl _)
          rw [P.and63 _ (by omega) (by omega), ← hm, P.sx1]
          rw [show 3 * q + 1 = s.size by omega, show 3 * q = s.size - 1 by omega]; omega
        have Hm := Lib.hid hm
        have hL := letters_get
        clear hm hxk'
        clear hq hB hxk ep hk
        go_wp2_with (fail)
        refine (bd_write hB' (P.letter m) (l' := P.lets (bt s) (4 * q + 2)) (by rw [P.lets_succ, Hm.out]) (by rw [P.lets_len]; omega)).mono ?_
        rintro e w2 ⟨rfl, hz⟩
        clear hL ea
        go_wp2_with (fail)
        go_loopg [] 2 (fun gk wz => ∃ p : Nat, p + gk = 2 ∧ Bd w (P.lets (bt s) (4 * q + 2) ++ List.replicate p 61) wz)
        case atStart => exact ⟨0, by omega, by simpa using hz⟩
        case round =>
          obtain ⟨p, hp, hz3⟩ := hrel
          obtain ⟨L, hL⟩ : ∃ L : Nat, L = 4 * q + 2 + p := ⟨_, rfl⟩
          have hlen : (((P.lets (bt s) (4 * q + 2) ++ List.replicate p 61).length : Nat) : Int) = (L : Int) := by rw [hL, List.length_append, P.lets_len, List.length_replicate]
          have Hlen := Lib.hid hlen
          have HL := Lib.hid hL
          clear hlen
          by_cases h0 : gk = 0
          · have hm0 : (L : Int) % 4 = 0 := by omega
            have Hp := Lib.hid (show p = 2 by omega)
            clear hL hp h0
            go_wp2_with (go_at_call 15; refine (bd_len hz3 Hlen.out).mono ?_; rintro e w' ⟨rfl, rfl⟩)
            refine (bd_string hz3 ?_ (s := strOfNums (P.encS s)) ?_).mono ?_
            · intro y hy
              rcases List.mem_append.1 hy with hy | hy
              · obtain ⟨i, _, rfl⟩ := List.mem_map.1 hy
                have hb1 := P.sx_bound (P.by_bt s) i
                have := P.letter_byte hb1.1 hb1.2
                omega
              · have := (List.mem_replicate.1 hy).2; omega
            · unfold P.encS P.enc; rw [Hnl.out, Hnp.out, Hp.out, Nat.add_sub_cancel_left]
            · rintro e w4 ⟨rfl, hb4⟩
              go_wp2_with (fail)
              go_ret
              exact ⟨rfl, hb4⟩
          · have hm0 : ((L : Int) % 4 == 0) = false := by simp; omega
            have hm1 : ¬ (L : Int) % 4 = 0 := by omega
            have Hp := Lib.hid (show p + (gk - 1 + 1) = 2 by omega)
            have hg : 0 < gk := by omega
            clear hL hp h0
            go_wp2_with (go_at_call 15; refine (bd_len hz3 Hlen.out).mono ?_; rintro e w' ⟨rfl, rfl⟩)
            refine (bd_write hz3 61 (l' := P.lets (bt s) (4 * q + 2) ++ List.replicate (p + 1) 61) (by rw [List.replicate_succ', List.append_assoc]) (by rw [List.length_append, P.lets_len, List.length_replicate]; have := Hp.out; omega)).mono ?_
            rintro e w4 ⟨rfl, hz4⟩
            go_wp2_with (fail)
            go_roundg (gk - 1)
            case measure => omega
            case rel => exact ⟨p + 1, by have := Hp.out; omega, hz4⟩
      · have ep : ((8 * s.size % 6 : Nat) : Int) = 4 := by omega
        rw [ep]
        have hB' : Bd w (P.lets (bt s) (4 * q + 2)) wr := by rw [show 8 * s.size / 6 = 4 * q + 2 by omega] at hB; exact hB
        have Hnl := Lib.hid (show P.nl s.size = 4 * q + 3 by unfold P.nl; omega)
        have Hnp := Lib.hid (show P.np s.size = 4 * q + 3 + 1 by unfold P.np; omega)
        have hq1 : q ≤ 100000000 := by omega
        have hxk' := hxk (by omega)
        obtain ⟨m, hm⟩ : ∃ m : Nat, P.sx (bt s) (4 * q + 2) = m := ⟨(P.sx (bt s) (4 * q + 2)).toNat, by have := (P.sx_bound (P.by_bt s) (4 * q + 2)).1; omega⟩
        have hm1 : m < 64 := by have := (P.sx_bound (P.by_bt s) (4 * q + 2)).2; omega
        have ea : bits .and .u32 (x * 4 % 4294967296) 63 = (m : Int) := by
          have h0 := bt_end s (k := s.size) (Nat.le_refl _)
          rw [P.and63 _ (by omega) (by omega), ← hm, P.sx2]
          rw [show 3 * q + 2 = s.size by omega, show 3 * q + 1 = s.size - 1 by omega]; omega
        have Hm := Lib.hid hm
        have hL := letters_get
        clear hm hxk'
        clear hq hB hxk ep hk
        go_wp2_with (fail)
        refine (bd_write hB' (P.letter m) (l' := P.lets (bt s) (4 * q + 3)) (by rw [P.lets_succ, Hm.out]) (by rw [P.lets_len]; omega)).mono ?_
        rintro e w2 ⟨rfl, hz⟩
        clear hL ea
        go_wp2_with (fail)
        go_loopg [] 1 (fun gk wz => ∃ p : Nat, p + gk = 1 ∧ Bd w (P.lets (bt s) (4 * q + 3) ++ List.replicate p 61) wz)
        case atStart => exact ⟨0, by omega, by simpa using hz⟩
        case round =>
          obtain ⟨p, hp, hz3⟩ := hrel
          obtain ⟨L, hL⟩ : ∃ L : Nat, L = 4 * q + 3 + p := ⟨_, rfl⟩
          have hlen : (((P.lets (bt s) (4 * q + 3) ++ List.replicate p 61).length : Nat) : Int) = (L : Int) := by rw [hL, List.length_append, P.lets_len, List.length_replicate]
          have Hlen := Lib.hid hlen
          have HL := Lib.hid hL
          clear hlen
          by_cases h0 : gk = 0
          · have hm0 : (L : Int) % 4 = 0 := by omega
            have Hp := Lib.hid (show p = 1 by omega)
            clear hL hp h0
            go_wp2_with (go_at_call 15; refine (bd_len hz3 Hlen.out).mono ?_; rintro e w' ⟨rfl, rfl⟩)
            refine (bd_string hz3 ?_ (s := strOfNums (P.encS s)) ?_).mono ?_
            · intro y hy
              rcases List.mem_append.1 hy with hy | hy
              · obtain ⟨i, _, rfl⟩ := List.mem_map.1 hy
                have hb1 := P.sx_bound (P.by_bt s) i
                have := P.letter_byte hb1.1 hb1.2
                omega
              · have := (List.mem_replicate.1 hy).2; omega
            · unfold P.encS P.enc; rw [Hnl.out, Hnp.out, Hp.out, Nat.add_sub_cancel_left]
            · rintro e w4 ⟨rfl, hb4⟩
              go_wp2_with (fail)
              go_ret
              exact ⟨rfl, hb4⟩
          · have hm0 : ((L : Int) % 4 == 0) = false := by simp; omega
            have hm1 : ¬ (L : Int) % 4 = 0 := by omega
            have Hp := Lib.hid (show p + (gk - 1 + 1) = 1 by omega)
            have hg : 0 < gk := by omega
            clear hL hp h0
            go_wp2_with (go_at_call 15; refine (bd_len hz3 Hlen.out).mono ?_; rintro e w' ⟨rfl, rfl⟩)
            refine (bd_write hz3 61 (l' := P.lets (bt s) (4 * q + 3) ++ List.replicate (p + 1) 61) (by rw [List.replicate_succ', List.append_assoc]) (by rw [List.length_append, P.lets_len, List.length_replicate]; have := Hp.out; omega)).mono ?_
            rintro e w4 ⟨rfl, hz4⟩
            go_wp2_with (fail)
            go_roundg (gk - 1)
            case measure => omega
            case rel => exact ⟨p + 1, by have := Hp.out; omega, hz4⟩
end Go.Proofs.YtkajdnaanipngaaDoor
