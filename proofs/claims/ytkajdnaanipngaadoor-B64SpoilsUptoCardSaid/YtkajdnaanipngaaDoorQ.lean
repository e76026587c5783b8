/- ambryref03.number and Decode: contracts. -/
import Derived.Test.YtkajdnaanipngaaDoorR
namespace Go.Proofs.YtkajdnaanipngaaDoor
open Go.RowKit Go.PlainAid
set_option linter.unusedVariables false
set_option linter.unusedSimpArgs false

namespace P
/-- a letter's number, or 0 -/
def vz (c : Int) : Int := if val c < 0 then 0 else val c
def dz (s : ByteArray) (i : Nat) : Int := vz (bt s i)
theorem vz_bound (c : Int) : 0 ≤ vz c ∧ vz c < 64 := by have := val_lt c; unfold vz; split <;> omega
theorem vz_of {c x : Int} (h : val c = x) (h0 : 0 ≤ x) : vz c = x ∧ decide (0 ≤ val c) = true := by
  unfold vz; rw [h, if_neg (by omega)]; exact ⟨rfl, decide_eq_true h0⟩
theorem vz_no {c : Int} (h : val c = -1) : vz c = 0 ∧ decide (0 ≤ val c) = false := by
  unfold vz; rw [h]; exact ⟨rfl, rfl⟩
theorem ok_facts {s : ByteArray} (h : okD s = true) : bl s ≤ s.size ∧ s.size ≤ bl s + 2 ∧ s.size % 4 = 0 ∧ (∀ i, i < bl s → 0 ≤ dv s i) ∧ (∀ i, bl s ≤ i → i < s.size → bt s i = 61) := by
  obtain ⟨h1, h2, h3, _⟩ := (okD_iff s).1 h
  obtain ⟨c1, c2, c3, c4⟩ := body_facts s
  exact ⟨c1, by omega, h1, h3, c3⟩
def acc (s : ByteArray) (i : Nat) : Nat → Int
  | 0 => 0
  | k + 1 => acc s i k * 64 + dz s (i + k)
theorem acc_bound (s : ByteArray) (i : Nat) : ∀ k, 0 ≤ acc s i k ∧ (k ≤ 3 → acc s i k < 16777216 / 64) ∧ (k ≤ 4 → acc s i k < 16777216)
  | 0 => by simp [acc]
  | 1 => by have := vz_bound (bt s (i + 0)); simp only [acc, dz]; omega
  | 2 => by have := vz_bound (bt s (i + 0)); have := vz_bound (bt s (i + 1)); simp only [acc, dz]; omega
  | 3 => by have := vz_bound (bt s (i + 0)); have := vz_bound (bt s (i + 1)); have := vz_bound (bt s (i + 2)); simp only [acc, dz]; omega
  | k + 4 => by
    have h0 := (acc_bound s i (k + 3)).1
    have h1 := vz_bound (bt s (i + (k + 3)))
    refine ⟨by simp only [acc, dz] at *; omega, fun h => by omega, fun h => ?_⟩
    have h2 := (acc_bound s i (k + 3)).2.1 (by omega)
    simp only [acc, dz] at *; omega
theorem acc4 (s : ByteArray) (q : Nat) : acc s (4 * q) 4 / 65536 = dx (dz s) (3 * q) ∧ acc s (4 * q) 4 / 256 % 256 = dx (dz s) (3 * q + 1) ∧ acc s (4 * q) 4 % 256 = dx (dz s) (3 * q + 2) ∧
    0 ≤ dx (dz s) (3 * q) ∧ dx (dz s) (3 * q) ≤ 255 ∧ 0 ≤ dx (dz s) (3 * q + 1) ∧ dx (dz s) (3 * q + 1) ≤ 255 ∧ 0 ≤ dx (dz s) (3 * q + 2) ∧ dx (dz s) (3 * q + 2) ≤ 255 := by
  have h0 : 0 ≤ dz s (4 * q) ∧ dz s (4 * q) < 64 := vz_bound (bt s (4 * q))
  have h1 : 0 ≤ dz s (4 * q + 1) ∧ dz s (4 * q + 1) < 64 := vz_bound (bt s (4 * q + 1))
  have h2 : 0 ≤ dz s (4 * q + 2) ∧ dz s (4 * q + 2) < 64 := vz_bound (bt s (4 * q + 2))
  have h3 : 0 ≤ dz s (4 * q + 3) ∧ dz s (4 * q + 3) < 64 := vz_bound (bt s (4 * q + 3))
  rw [dx0, dx1, dx2]
  simp only [acc, Nat.add_zero]
  generalize dz s (4 * q) = a at *
  generalize dz s (4 * q + 1) = b at *
  generalize dz s (4 * q + 2) = c at *
  generalize dz s (4 * q + 3) = d at *
  omega
/-- what a group gives -/
def three (s : ByteArray) (q p : Nat) : List Int := [dx (dz s) (3 * q), dx (dz s) (3 * q + 1), dx (dz s) (3 * q + 2)].take (3 - p)
theorem three_bytes (s : ByteArray) (q p : Nat) : Bytes (three s q p) := fun x hx => by
  have h := acc4 s q
  have := List.mem_of_mem_take hx
  simp at this
  rcases this with rfl | rfl | rfl <;> omega
theorem dz_dv {s : ByteArray} (h : okD s = true) {i : Nat} (hi : i < bl s) : dz s i = dv s i := by
  have := (ok_facts h).2.2.2.1 i hi
  unfold dz vz; unfold dv at this ⊢; rw [if_neg (by omega)]
/-- what has come behind q groups -/
def part (s : ByteArray) (q : Nat) : List Int := byts (dv s) (min (3 * q) (6 * bl s / 8))
theorem part_succ {s : ByteArray} (h : okD s = true) {q p : Nat} (hq : 4 * q < s.size) (hp : p = 4 * q + 4 - bl s) : part s (q + 1) = part s q ++ three s q p := by
  obtain ⟨f1, f2, f3, f4, f5⟩ := ok_facts h
  unfold part three
  have e0 : 3 * q < 6 * bl s / 8 → dx (dz s) (3 * q) = dx (dv s) (3 * q) := fun hlt => by rw [dx0, dx0, dz_dv h (by omega), dz_dv h (by omega)]
  have e1 : 3 * q + 1 < 6 * bl s / 8 → dx (dz s) (3 * q + 1) = dx (dv s) (3 * q + 1) := fun hlt => by rw [dx1, dx1, dz_dv h (by omega), dz_dv h (by omega)]
  have e2 : 3 * q + 2 < 6 * bl s / 8 → dx (dz s) (3 * q + 2) = dx (dv s) (3 * q + 2) := fun hlt => by rw [dx2, dx2, dz_dv h (by omega), dz_dv h (by omega)]
  have hm : p = 0 ∨ p = 1 ∨ p = 2 := by omega
  rcases hm with h0 | h0 | h0
  · subst h0
    have hl : 4 * q + 4 ≤ bl s := by omega
    rw [e0 (by omega), e1 (by omega), e2 (by omega), show min (3 * (q + 1)) (6 * bl s / 8) = 3 * q + 2 + 1 by omega, show min (3 * q) (6 * bl s / 8) = 3 * q by omega, byts_succ, byts_succ, byts_succ]
    simp
  · subst h0
    have hl : bl s = 4 * q + 3 := by omega
    rw [e0 (by omega), e1 (by omega), show min (3 * (q + 1)) (6 * bl s / 8) = 3 * q + 1 + 1 by omega, show min (3 * q) (6 * bl s / 8) = 3 * q by omega, byts_succ, byts_succ]
    simp
  · subst h0
    have hl : bl s = 4 * q + 2 := by omega
    rw [e0 (by omega), show min (3 * (q + 1)) (6 * bl s / 8) = 3 * q + 1 by omega, show min (3 * q) (6 * bl s / 8) = 3 * q by omega, byts_succ]
    simp
theorem part_end {s : ByteArray} (h : okD s = true) {q : Nat} (hq : s.size ≤ 4 * q) : strOfNums (part s q) = decS s := by
  obtain ⟨f1, _⟩ := ok_facts h
  rw [dec_yes h]; unfold part; rw [show min (3 * q) (6 * bl s / 8) = 6 * bl s / 8 by omega]
end P

theorem number_any (c : Int) (w : World) (h0 : 0 ≤ c) (h1 : c ≤ 255) : Calls Tryd.prog 20 #[.int .u8 c] w fun e w' => e = .returned (.tuple #[.int .u32 (P.vz c), .bool (decide (0 ≤ P.val c))]) ∧ w = w' := by
  by_cases c1 : 65 ≤ c ∧ c ≤ 90
  · have He := Lib.hid (P.vz_of (c := c) (x := c - 65) (by unfold P.val; rw [if_pos c1]) (by omega))
    obtain ⟨d1, d2⟩ := c1
    go_enter Tryd.func20, Tryd.ntmps20
    go_wp2
    go_ret2
    exact ⟨by rw [He.out.1, He.out.2]; go_num, rfl⟩
  · by_cases c2 : 97 ≤ c ∧ c ≤ 122
    · have He := Lib.hid (P.vz_of (c := c) (x := c - 71) (by unfold P.val; rw [if_neg c1, if_pos c2]) (by omega))
      obtain ⟨d1, d2⟩ := c2
      clear c1
      go_enter Tryd.func20, Tryd.ntmps20
      go_wp2
      go_ret2
      exact ⟨by rw [He.out.1, He.out.2]; go_num, rfl⟩
    · by_cases c3 : 48 ≤ c ∧ c ≤ 57
      · have He := Lib.hid (P.vz_of (c := c) (x := c + 4) (by unfold P.val; rw [if_neg c1, if_neg c2, if_pos c3]) (by omega))
        obtain ⟨d1, d2⟩ := c3
        clear c1 c2
        go_enter Tryd.func20, Tryd.ntmps20
        go_wp2
        go_ret2
        exact ⟨by rw [He.out.1, He.out.2]; go_num, rfl⟩
      · by_cases c4 : c = 43
        · subst c4
          go_enter Tryd.func20, Tryd.ntmps20
          go_wp2
          go_ret2
          exact ⟨rfl, rfl⟩
        · by_cases c5 : c = 47
          · subst c5
            go_enter Tryd.func20, Tryd.ntmps20
            go_wp2
            go_ret2
            exact ⟨rfl, rfl⟩
          · have He := Lib.hid (P.vz_no (c := c) (by unfold P.val; rw [if_neg c1, if_neg c2, if_neg c3, if_neg c4, if_neg c5]))
            have c4' : (c == 43) = false := by simp [c4]
            have c5' : (c == 47) = false := by simp [c5]
            go_enter Tryd.func20, Tryd.ntmps20
            go_wp2
            all_goals (go_ret2)
            all_goals (exact ⟨by rw [He.out.1, He.out.2]; rfl, rfl⟩)

theorem str_beq {a b : ByteArray} (h : a = b) : (a.toList == b.toList) = true := by rw [h]; simp
theorem str_bne {a b : ByteArray} (h : a ≠ b) : (a.toList == b.toList) = false := by
  rw [beq_eq_false_iff_ne, ByteArray.toList_eq, ByteArray.toList_eq]
  intro e
  apply h
  cases a; cases b
  simp only at e
  rw [Array.toList_inj.1 e]

theorem own_below {w w' : World} {base n : Nat} {e : TypeId} {size : Nat} {v : Value} {xs : List Value} (h : w.ownsRow base e size v n xs) (hb : Below w.heap.size w w') : w'.ownsRow base e size v n xs :=
  h.kept (row := none) ⟨hb.os, hb.tape, hb.output, hb.size, fun i hi _ => hb.block i hi⟩ (by cases hv : v.ownBlock <;> simp)

set_option maxRecDepth 100000 in
set_option maxHeartbeats 2000000 in
theorem refDecode_any (s : ByteArray) (w : World) (hs : s.size ≤ 100000000) : Calls Tryd.prog 13 #[.string s] w (DecPost s w) := by
  have hb := get_bt s
  by_cases c1 : s.size % 4 = 0
  · have c1' : (s.size : Int) % 4 = 0 := by omega
    go_enter Tryd.func13, Tryd.ntmps13
    go_wp2
    have Hc1 := Lib.hid c1
    clear c1' c1
    go_loopw [4, 5] (fun v i wr => ∃ (q n : Nat) (ad : Option Addr) (cap : Nat) (l : List Int), v = .slice ad n cap ∧ i = .int .i64 ((4 * q : Nat) : Int) ∧ 4 * q ≤ s.size ∧ n ≤ 3 * q ∧ P.Bytes l ∧ (P.okD s = true → l = P.part s q) ∧ wr.ownsRow w.heap.size 5 1 (.slice ad n cap) n (l.map (.int .u8)) ∧ Below w.heap.size w wr) (fun _ i _ => s.size + 3 - (intOf i).toNat)
    case atStart => exact ⟨0, 0, none, 0, [], rfl, rfl, by omega, by omega, fun x hx => by simp at hx, fun _ => by simp [P.part, P.byts], World.ownsRow_nil _ _ _ _, Below.refl _ _⟩
    case round =>
      obtain ⟨q, n, ad, cap, l, rfl, rfl, hq, hn, hby, hpt, ho, hbl⟩ := hrel
      have Hby := Lib.hid hby
      have Hpt := Lib.hid hpt
      clear hby hpt
      obtain ⟨K, hK⟩ : ∃ K, 4 * q = K := ⟨_, rfl⟩
      rw [hK] at hq ⊢
      have HK := Lib.hid hK
      have hn9 : n ≤ 100000000 := by omega
      by_cases hlt : K < s.size
      · have hle : K + 4 ≤ s.size := by have := Hc1.out; omega
        have hltI : (K : Int) < (s.size : Int) := by omega
        clear hK
        go_wp2_with (fail)
        go_loop [6, 7, 8] (fun v6 v7 v8 => ∃ (k p : Nat), k ≤ 4 ∧ v8 = .int .i64 k ∧ v7 = .int .i64 p ∧ v6 = .int .u32 (P.acc s K k) ∧ (p = 0 ∨ p + 2 ≤ k) ∧ (P.okD s = true → p = K + k - P.bl s)) (fun _ _ v => 4 - (intOf v).toNat)
        case atStart => exact ⟨0, 0, by omega, rfl, rfl, rfl, .inl rfl, fun h => by have := (P.ok_facts h).1; have := (P.ok_facts h).2.1; have := Hc1.out; have := HK.out; omega⟩
        case round =>
          obtain ⟨k, p, hk, rfl, rfl, rfl, hp, hpb⟩ := hrel
          have Hpb := Lib.hid hpb
          have Hp := Lib.hid hp
          have hp4 : p ≤ 4 := by omega
          clear hpb
          by_cases hk4 : k < 4
          · have i1 : (K : Int) + (k : Int) < (s.size : Int) := by omega
            have i2 : ((K : Int) + (k : Int)).toNat = K + k := by omega
            have i3 : K + k < s.size := by omega
            have n0 := bt_nonneg s (K + k)
            have n1 := bt_le s (K + k)
            have v0 := P.vz_bound (bt s (K + k))
            have a0 := P.acc_bound s K k
            obtain ⟨c, hc⟩ : ∃ c, bt s (K + k) = c := ⟨_, rfl⟩
            have ea : P.acc s K (k + 1) = P.acc s K k * 64 + P.vz c := by rw [← hc]; rfl
            rw [hc] at n0 n1 v0
            obtain ⟨x, hx⟩ : ∃ x, P.acc s K k = x := ⟨_, rfl⟩
            obtain ⟨d, hd⟩ : ∃ d, P.vz c = d := ⟨_, rfl⟩
            rw [hx] at a0 ea ⊢
            rw [hd] at v0 ea
            obtain ⟨v0, v1⟩ := v0
            obtain ⟨x0, x1, _⟩ := a0
            have x1' := x1 (by omega)
            have eo : bits .or .u32 (x * 64) d = x * 64 + d := P.or_add _ _ 6 (by omega) (by omega) (by omega) v0 (by omega) (by omega)
            have Hea := Lib.hid ea
            have Hnum : Hid (∀ w', Calls Tryd.prog 20 #[.int .u8 c] w' fun e w'' => e = .returned (.tuple #[.int .u32 d, .bool (decide (0 ≤ P.val c))]) ∧ w' = w'') := Lib.hid (fun w' => by rw [← hd]; exact number_any c w' n0 n1)
            have Hvc := Lib.hid hd
            have Hc := Lib.hid hc
            clear ea hd hx x1 hp
            by_cases h61 : c = 61
            · have hv61 : P.val c = -1 := by rw [h61]; rfl
              have hd0 : d = 0 := by rw [← Hvc.out]; exact (P.vz_no hv61).1
              have hdec : decide (0 ≤ P.val c) = false := (P.vz_no hv61).2
              by_cases h4 : K + 4 = s.size
              · by_cases hk2 : (2 ≤ k)
                · rw [hdec] at Hnum
                  have h4I : (K : Int) + 4 = (s.size : Int) := by omega
                  have Hpb2 : Hid (P.okD s = true → p + 1 = K + (k + 1) - P.bl s) := Lib.hid (fun hok => by
                    obtain ⟨f1, f2, f3, f4, f5⟩ := P.ok_facts hok
                    have hge : P.bl s ≤ K + k := by
                      rcases Nat.lt_or_ge (K + k) (P.bl s) with h | h
                      · have := f4 _ h; unfold P.dv at this; rw [Hc.out] at this; omega
                      · exact h
                    have := Hpb.out hok
                    omega)
                  have Hp2 : Hid (p + 1 + 2 ≤ k + 1) := Lib.hid (by have := Hp.out; omega)
                  have Hx2 : Hid (x * 64 = P.acc s K (k + 1)) := Lib.hid (by rw [Hea.out, hd0]; omega)
                  have eo' : bits .or .u32 (x * 64) 0 = x * 64 := by rw [hd0] at eo; rw [eo]; omega
                  rw [hd0] at Hnum
                  subst h61
                  clear hv61 hdec hd0 eo h4 Hea Hvc v0 v1
                  go_wp2_with (go_at_call 20; refine (Hnum.out _).mono ?_; rintro e w' ⟨rfl, rfl⟩)
                  go_round
                  case rel => exact ⟨k + 1, p + 1, by omega, by go_num, by go_num, by rw [Hx2.out], .inr Hp2.out, Hpb2.out⟩
                  case measure => simp [intOf]; omega
                · have hneg : P.val c < 0 := by omega
                  have Hno : Hid (P.okD s = false) := Lib.hid (by
                    rcases hok : P.okD s with _ | _
                    · rfl
                    · exfalso
                      obtain ⟨f1, f2, f3, f4, f5⟩ := P.ok_facts hok
                      have hge : P.bl s ≤ K + k := by
                        rcases Nat.lt_or_ge (K + k) (P.bl s) with h | h
                        · have := f4 _ h; unfold P.dv at this; rw [Hc.out] at this; omega
                        · exact h
                      have := f5 _ hge i3; rw [Hc.out] at this
                      have := HK.out
                      have := Hc1.out
                      omega)
                  subst h61
                  have h4I : (K : Int) + 4 = (s.size : Int) := by omega
                  clear hv61 hd0 hneg
                  rw [hdec] at Hnum
                  go_wp2_with (go_at_call 20; refine (Hnum.out _).mono ?_; rintro e w' ⟨rfl, rfl⟩)
                  go_ret2
                  exact ⟨dec_ret_no Hno.out rfl, hbl⟩
              · have hneg : P.val c < 0 := by omega
                have Hno : Hid (P.okD s = false) := Lib.hid (by
                  rcases hok : P.okD s with _ | _
                  · rfl
                  · exfalso
                    obtain ⟨f1, f2, f3, f4, f5⟩ := P.ok_facts hok
                    have hge : P.bl s ≤ K + k := by
                      rcases Nat.lt_or_ge (K + k) (P.bl s) with h | h
                      · have := f4 _ h; unfold P.dv at this; rw [Hc.out] at this; omega
                      · exact h
                    have := f5 _ hge i3; rw [Hc.out] at this
                    have := HK.out
                    have := Hc1.out
                    omega)
                subst h61
                have h4I : ¬ (K : Int) + 4 = (s.size : Int) := by omega
                have h4b : ((K : Int) + 4 == (s.size : Int)) = false := by simp; omega
                clear hv61 hd0 hneg
                rw [hdec] at Hnum
                go_wp2_with (go_at_call 20; refine (Hnum.out _).mono ?_; rintro e w' ⟨rfl, rfl⟩)
                go_ret2
                exact ⟨dec_ret_no Hno.out rfl, hbl⟩
            · have h61b : (c == 61) = false := by simp [h61]
              by_cases hneg : P.val c < 0
              · have hdec : decide (0 ≤ P.val c) = false := decide_eq_false (by omega)
                have Hno : Hid (P.okD s = false) := Lib.hid (by
                  rcases hok : P.okD s with _ | _
                  · rfl
                  · exfalso
                    obtain ⟨f1, f2, f3, f4, f5⟩ := P.ok_facts hok
                    have hge : P.bl s ≤ K + k := by
                      rcases Nat.lt_or_ge (K + k) (P.bl s) with h | h
                      · have := f4 _ h; unfold P.dv at this; rw [Hc.out] at this; omega
                      · exact h
                    have := f5 _ hge i3; rw [Hc.out] at this
                    have := HK.out
                    have := Hc1.out
                    omega)
                clear hneg
                rw [hdec] at Hnum
                go_wp2_with (go_at_call 20; refine (Hnum.out _).mono ?_; rintro e w' ⟨rfl, rfl⟩)
                go_ret2
                exact ⟨dec_ret_no Hno.out rfl, hbl⟩
              · have hdec : decide (0 ≤ P.val c) = true := decide_eq_true (by omega)
                rw [hdec] at Hnum
                by_cases hp0 : 0 < p
                · have hp0I : 0 < (p : Int) := by omega
                  have Hno : Hid (P.okD s = false) := Lib.hid (by
                    rcases hok : P.okD s with _ | _
                    · rfl
                    · exfalso
                      obtain ⟨f1, f2, f3, f4, f5⟩ := P.ok_facts hok
                      have hge := Hpb.out hok
                      have := f5 _ (by omega) i3; rw [Hc.out] at this
                      omega)
                  clear hneg hdec
                  go_wp2_with (go_at_call 20; refine (Hnum.out _).mono ?_; rintro e w' ⟨rfl, rfl⟩)
                  go_ret2
                  exact ⟨dec_ret_no Hno.out rfl, hbl⟩
                · obtain rfl : p = 0 := by omega
                  have Hpb2 : Hid (P.okD s = true → 0 = K + (k + 1) - P.bl s) := Lib.hid (fun hok => by
                    obtain ⟨f1, f2, f3, f4, f5⟩ := P.ok_facts hok
                    rcases Nat.lt_or_ge (K + k) (P.bl s) with h | h
                    · omega
                    · have := f5 _ h i3; rw [Hc.out] at this; omega)
                  clear hneg hdec hp0
                  go_wp2_with (go_at_call 20; refine (Hnum.out _).mono ?_; rintro e w' ⟨rfl, rfl⟩)
                  go_round
                  case rel => exact ⟨k + 1, 0, by omega, by go_num, rfl, by rw [Hea.out], .inl rfl, Hpb2.out⟩
                  case measure => simp [intOf]; omega
          · obtain rfl : k = 4 := by omega
            have h3 : p = 0 ∨ p = 1 ∨ p = 2 := by have := Hp.out; omega
            obtain ⟨g0, g1, g2, g3, g4, g5, g6, g7, g8⟩ := P.acc4 s q
            rw [HK.out] at g0 g1 g2
            have hb3 := P.acc_bound s K 4
            obtain ⟨x0, _, x1⟩ := hb3
            have x1' := x1 (by omega)
            obtain ⟨x, hx⟩ : ∃ x, P.acc s K 4 = x := ⟨_, rfl⟩
            rw [hx] at g0 g1 g2 x0 x1' ⊢
            obtain ⟨d0, hd0⟩ : ∃ d, P.dx (P.dz s) (3 * q) = d := ⟨_, rfl⟩
            obtain ⟨d1, hd1⟩ : ∃ d, P.dx (P.dz s) (3 * q + 1) = d := ⟨_, rfl⟩
            obtain ⟨d2, hd2⟩ : ∃ d, P.dx (P.dz s) (3 * q + 2) = d := ⟨_, rfl⟩
            rw [hd0] at g0 g3 g4
            rw [hd1] at g1 g5 g6
            rw [hd2] at g2 g7 g8
            have w0 : IntKind.u8.wrap (x / 65536) = d0 := by rw [IntKind.wrap_u8]; omega
            have w1 : IntKind.u8.wrap (x / 256) = d1 := by rw [IntKind.wrap_u8]; omega
            have w2 : IntKind.u8.wrap x = d2 := by rw [IntKind.wrap_u8]; omega
            have Hth : ∀ p, Hid (P.three s q p = [d0, d1, d2].take (3 - p)) := fun p => Lib.hid (by unfold P.three; rw [hd0, hd1, hd2])
            have Hps : Hid (P.okD s = true → P.part s (q + 1) = P.part s q ++ P.three s q p) := Lib.hid (fun hok => P.part_succ hok (by have := HK.out; omega) (by have := Hpb.out hok; have := HK.out; omega))
            clear g0 g1 g2 hd0 hd1 hd2 hx x1 hp
            rcases h3 with rfl | rfl | rfl
            · go_wp2_with (at_builtin; go_must (refine wp_app w _ rfl _ _ rfl w.heap.size (.slice ad n cap) n l [d0, d1, d2] ⟨wr.heap.size, 0, none⟩ 3 rfl (by first | exact ho | exact ho.alloc _ | exact (ho.alloc _).drew) rfl ?_ (by first | exact hbl | exact hbl.alloc hbl.size _) (by simp; omega) (by simp) (by simp; have := hbl.size; omega) ?_))
              · intro j hj
                try simp only [List.length_cons, List.length_nil] at hj
                obtain rfl | rfl | rfl : j = 0 ∨ j = 1 ∨ j = 2 := by omega
                all_goals (try simp [Addr.add])
              · intro g9 cap2 w2' hown2 hbel2
                have Hby2 : Hid (P.Bytes (l ++ [d0, d1, d2])) := Lib.hid (fun y hy => by
                  rcases List.mem_append.1 hy with h | h
                  · exact Hby.out y h
                  · simp at h
                    rcases h with rfl | rfl | rfl <;> omega)
                have Hpt2 : Hid (P.okD s = true → l ++ [d0, d1, d2] = P.part s (q + 1)) := Lib.hid (fun hok => by
                  rw [Hps.out hok, (Hth 0).out, Hpt.out hok]; rfl)
                clear ho hbl Hps Hth w0 w1 w2 g3 g4 g5 g6 g7 g8
                go_wp2_with (fail)
                go_roundw
                case rel => exact ⟨q + 1, n + 3, some ⟨g9, 0, none⟩, cap2, l ++ [d0, d1, d2], rfl, by rw [show ((K : Int) + 4) = ((4 * (q + 1) : Nat) : Int) by have := HK.out; omega], by have := HK.out; omega, by omega, Hby2.out, Hpt2.out, by simpa using hown2, hbel2⟩
                case measure => simp [intOf]; omega
            · go_wp2_with (at_builtin; go_must (refine wp_app w _ rfl _ _ rfl w.heap.size (.slice ad n cap) n l [d0, d1] ⟨wr.heap.size, 0, none⟩ 3 rfl (by first | exact ho | exact ho.alloc _ | exact (ho.alloc _).drew) rfl ?_ (by first | exact hbl | exact hbl.alloc hbl.size _) (by simp; omega) (by simp) (by simp; have := hbl.size; omega) ?_))
              · intro j hj
                try simp only [List.length_cons, List.length_nil] at hj
                obtain rfl | rfl : j = 0 ∨ j = 1 := by omega
                all_goals (try simp [Addr.add])
              · intro g9 cap2 w2' hown2 hbel2
                have Hby2 : Hid (P.Bytes (l ++ [d0, d1])) := Lib.hid (fun y hy => by
                  rcases List.mem_append.1 hy with h | h
                  · exact Hby.out y h
                  · simp at h
                    rcases h with rfl | rfl <;> omega)
                have Hpt2 : Hid (P.okD s = true → l ++ [d0, d1] = P.part s (q + 1)) := Lib.hid (fun hok => by
                  rw [Hps.out hok, (Hth 1).out, Hpt.out hok]; rfl)
                clear ho hbl Hps Hth w0 w1 w2 g3 g4 g5 g6 g7 g8
                go_wp2_with (fail)
                go_roundw
                case rel => exact ⟨q + 1, n + 2, some ⟨g9, 0, none⟩, cap2, l ++ [d0, d1], rfl, by rw [show ((K : Int) + 4) = ((4 * (q + 1) : Nat) : Int) by have := HK.out; omega], by have := HK.out; omega, by omega, Hby2.out, Hpt2.out, by simpa using hown2, hbel2⟩
                case measure => simp [intOf]; omega
            · go_wp2_with (at_builtin; go_must (refine wp_app w _ rfl _ _ rfl w.heap.size (.slice ad n cap) n l [d0] ⟨wr.heap.size, 0, none⟩ 3 rfl (by first | exact ho | exact ho.alloc _ | exact (ho.alloc _).drew) rfl ?_ (by first | exact hbl | exact hbl.alloc hbl.size _) (by simp; omega) (by simp) (by simp; have := hbl.size; omega) ?_))
              · intro g9 cap2 w2' hown2 hbel2
                have Hby2 : Hid (P.Bytes (l ++ [d0])) := Lib.hid (fun y hy => by
                  rcases List.mem_append.1 hy with h | h
                  · exact Hby.out y h
                  · simp at h
                    subst h; omega)
                have Hpt2 : Hid (P.okD s = true → l ++ [d0] = P.part s (q + 1)) := Lib.hid (fun hok => by
                  rw [Hps.out hok, (Hth 2).out, Hpt.out hok]; rfl)
                clear ho hbl Hps Hth w0 w1 w2 g3 g4 g5 g6 g7 g8
                go_wp2_with (fail)
                go_roundw
                case rel => exact ⟨q + 1, n + 1, some ⟨g9, 0, none⟩, cap2, l ++ [d0], rfl, by rw [show ((K : Int) + 4) = ((4 * (q + 1) : Nat) : Int) by have := HK.out; omega], by have := HK.out; omega, by omega, Hby2.out, Hpt2.out, by simpa using hown2, hbel2⟩
                case measure => simp [intOf]; omega
      · obtain rfl : K = s.size := by omega
        have hcv := conv_own ho Hby.out
        have hsl : l.length = n := by have := ho.1; simpa using this
        have Hls : Hid ((strOfNums l).size = n) := Lib.hid (by rw [P.str_size, hsl])
        have hbl2 := hbl.size
        have Hend : Hid (P.okD s = true → strOfNums l = P.decS s) := Lib.hid (fun hok => by rw [Hpt.out hok]; exact P.part_end hok (by omega))
        clear hsl hK
        rcases hok : P.okD s with _ | _
        · have hcmp := str_bne (a := strOfNums (P.encS (strOfNums l))) (b := s) (fun e => by have := (P.back1 (strOfNums l)).1; rw [e, hok] at this; cases this)
          have Hno := Lib.hid hok
          clear hok
          go_wp2_with (go_at_call 11; refine (refEncode_any (strOfNums l) wr (by rw [Hls.out]; omega)).mono ?_; rintro e w2 ⟨rfl, hb2⟩)
          go_ret2
          exact ⟨dec_ret_no Hno.out rfl, hbl.trans (hb2.mono hbl2)⟩
        · have hcmp := str_beq (a := strOfNums (P.encS (strOfNums l))) (b := s) (by rw [Hend.out hok]; exact P.back2 hok)
          have Hyes := Lib.hid hok
          have Hend2 := Lib.hid (Hend.out hok)
          clear hok
          go_wp2_with (go_at_call 11; refine (refEncode_any (strOfNums l) wr (by rw [Hls.out]; omega)).mono ?_; rintro e w2 ⟨rfl, hb2⟩; have hcv2 := conv_own (own_below ho hb2) Hby.out)
          go_ret2
          exact ⟨by rw [Hend2.out, Hyes.out]; rfl, hbl.trans (hb2.mono hbl2)⟩
  · have Hno := Lib.hid (P.not_ok (s := s) (fun h => c1 h.1))
    have c1' : ¬ (s.size : Int) % 4 = 0 := by omega
    have c1b : ((s.size : Int) % 4 == 0) = false := by simp; omega
    clear c1
    go_enter Tryd.func13, Tryd.ntmps13
    go_wp2
    go_ret2
    exact ⟨dec_ret_no Hno.out rfl, Below.refl _ _⟩
end Go.Proofs.YtkajdnaanipngaaDoor
