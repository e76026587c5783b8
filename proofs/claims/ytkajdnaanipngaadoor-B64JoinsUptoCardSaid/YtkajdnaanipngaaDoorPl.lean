/- base64: the laws in plain words; no program in sight. -/
import Derived.Test.YtkajdnaanipngaaDoorPd
namespace Go.Proofs.YtkajdnaanipngaaDoor.P
open Go.PlainAid
set_option linter.unusedVariables false

def Bytes (l : List Int) : Prop := ∀ x ∈ l, 0 ≤ x ∧ x ≤ 255
theorem str_size (l : List Int) : (strOfNums l).size = l.length := by simp [strOfNums, ByteArray.size]
theorem bt_str {l : List Int} (h : Bytes l) (i : Nat) : bt (strOfNums l) i = l[i]?.getD 0 := by
  rw [bt_list]
  unfold strOfNums
  simp only [List.getElem?_map]
  rcases hx : l[i]? with _ | x
  · rfl
  · have hb := h x (List.mem_of_getElem? hx)
    simp only [Option.map_some, Option.getD_some]
    have : (UInt8.ofNat x.toNat).toNat = x.toNat := by simp; omega
    omega
theorem str_ext {s t : ByteArray} (h : s.size = t.size) (hb : ∀ i, i < s.size → bt s i = bt t i) : s = t := by
  have h1 : s.data = t.data := by
    apply Array.ext
    · exact h
    · intro i h1 h2
      have := hb i h1
      unfold bt at this
      rw [dif_pos (show i < s.size from h1), dif_pos (show i < t.size from h2)] at this
      exact UInt8.toNat_inj.1 (by exact_mod_cast this)
  cases s; cases t; simpa using h1
theorem bt_extract (s : ByteArray) (a b i : Nat) (hb : b ≤ s.size) : bt (s.extract a b) i = if a + i < b then bt s (a + i) else 0 := by
  rw [bt_list, bt_list]
  have e : (s.extract a b).data.toList = (s.data.toList.take b).drop a := by simp [ByteArray.data_extract, List.extract_eq_take_drop, List.drop_take]
  rw [e, List.getElem?_drop, List.getElem?_take]
  split <;> rfl
theorem nl_np (n : Nat) : nl n ≤ np n := by unfold nl np; omega
theorem enc_len (f : Nat → Int) (n : Nat) : (enc f n).length = np n := by
  have := nl_np n
  unfold enc; rw [List.length_append, lets_len, List.length_replicate]; omega
theorem enc_at (f : Nat → Int) (n i : Nat) : (enc f n)[i]?.getD 0 = if i < nl n then letter (sx f i) else if i < np n then 61 else 0 := by
  have hnn := nl_np n
  unfold enc
  by_cases h : i < nl n
  · rw [if_pos h, List.getElem?_append_left (by rw [lets_len]; exact h)]
    simp [lets, h]
  · rw [if_neg h, List.getElem?_append_right (by rw [lets_len]; omega), lets_len]
    by_cases h2 : i < np n
    · rw [if_pos h2, List.getElem?_replicate, if_pos (by omega)]; rfl
    · rw [if_neg h2, List.getElem?_replicate, if_neg (by omega)]; rfl
theorem enc_bytes (s : ByteArray) : Bytes (encS s) := by
  intro x hx
  unfold encS enc at hx
  rcases List.mem_append.1 hx with hx | hx
  · obtain ⟨i, _, rfl⟩ := List.mem_map.1 hx
    have hb1 := sx_bound (by_bt s) i
    have := letter_byte hb1.1 hb1.2
    omega
  · have := (List.mem_replicate.1 hx).2; omega
/-- a text's letters -/
theorem enc_facts (s : ByteArray) : (strOfNums (encS s)).size = np s.size ∧ (∀ i, i < nl s.size → bt (strOfNums (encS s)) i = letter (sx (bt s) i)) ∧ (∀ i, nl s.size ≤ i → i < np s.size → bt (strOfNums (encS s)) i = 61) := by
  refine ⟨by rw [str_size]; exact enc_len _ _, fun i hi => ?_, fun i h1 h2 => ?_⟩
  · rw [bt_str (enc_bytes s)]; unfold encS; rw [enc_at, if_pos hi]
  · rw [bt_str (enc_bytes s)]; unfold encS; rw [enc_at, if_neg (by omega), if_pos h2]

theorem sx_shift (f : Nat → Int) (a i : Nat) : sx f (4 * a + i) = sx (fun j => f (3 * a + j)) i := by
  unfold sx
  rw [show (4 * a + i) % 4 = i % 4 by omega, show (4 * a + i) / 4 * 3 = 3 * a + i / 4 * 3 by omega]
  simp only [Nat.add_assoc]
theorem sx_same {f g : Nat → Int} {n : Nat} (h : ∀ i, i < 3 * n → f i = g i) {j : Nat} (hj : j < 4 * n) : sx f j = sx g j := by
  unfold sx
  rw [h (j / 4 * 3) (by omega), h (j / 4 * 3 + 1) (by omega), h (j / 4 * 3 + 2) (by omega)]
theorem sx_congr {f g : Nat → Int} (h : ∀ i, f i = g i) (j : Nat) : sx f j = sx g j := by
  unfold sx; rw [h, h, h]
theorem str_app (a b : List Int) : strOfNums a ++ strOfNums b = strOfNums (a ++ b) := by
  unfold strOfNums
  apply ByteArray.ext
  simp [ByteArray.data_append]
theorem joins (s : ByteArray) (a : Nat) (h : 3 * a ≤ s.size) : strOfNums (encS (s.extract 0 (3 * a))) ++ strOfNums (encS (s.extract (3 * a) s.size)) = strOfNums (encS s) := by
  obtain ⟨b1, b2, b3⟩ := enc_facts s
  have s1 : (s.extract 0 (3 * a)).size = 3 * a := by simp; omega
  have s2 : (s.extract (3 * a) s.size).size = s.size - 3 * a := by simp
  rw [str_app]
  have hl1 : (encS (s.extract 0 (3 * a))).length = 4 * a := by unfold encS; rw [enc_len, s1]; unfold np; omega
  have hl2 : (encS (s.extract (3 * a) s.size)).length = np s.size - 4 * a := by unfold encS; rw [enc_len, s2]; unfold np; omega
  have hnp : 4 * a ≤ np s.size := by unfold np; omega
  have hby : Bytes (encS (s.extract 0 (3 * a)) ++ encS (s.extract (3 * a) s.size)) := fun x hx => by
    rcases List.mem_append.1 hx with hx | hx
    · exact enc_bytes _ x hx
    · exact enc_bytes _ x hx
  apply str_ext
  · rw [str_size, List.length_append, hl1, hl2, b1]; omega
  · intro i hi
    rw [str_size, List.length_append, hl1, hl2] at hi
    rw [bt_str hby, bt_str (enc_bytes s)]
    by_cases h1 : i < 4 * a
    · rw [List.getElem?_append_left (by omega)]
      unfold encS
      have p1 : i < nl (3 * a) := by unfold nl; omega
      have p2 : i < nl s.size := by unfold nl; omega
      have q1 := enc_at (bt (s.extract 0 (3 * a))) (3 * a) i
      have q2 := enc_at (bt s) s.size i
      simp only [p1, if_true] at q1
      simp only [p2, if_true] at q2
      rw [s1, q1, q2]
      refine congrArg letter ?_
      exact sx_same (n := a) (fun j hj => by rw [bt_extract _ _ _ _ h, if_pos (by omega), Nat.zero_add]) h1
    · rw [List.getElem?_append_right (by omega), hl1]
      unfold encS
      have q1 := enc_at (bt (s.extract (3 * a) s.size)) (s.size - 3 * a) (i - 4 * a)
      have q2 := enc_at (bt s) s.size i
      rw [s2, q1, q2]
      have e1 : (i - 4 * a < nl (s.size - 3 * a)) = (i < nl s.size) := propext ⟨fun h => by unfold nl at *; omega, fun h => by unfold nl at *; omega⟩
      have e2 : (i - 4 * a < np (s.size - 3 * a)) = (i < np s.size) := propext ⟨fun h => by unfold np at *; omega, fun h => by unfold np at *; omega⟩
      have e3 : sx (bt (s.extract (3 * a) s.size)) (i - 4 * a) = sx (bt s) i := by
        obtain ⟨c, rfl⟩ : ∃ c, i = 4 * a + c := ⟨i - 4 * a, by omega⟩
        rw [sx_shift, Nat.add_sub_cancel_left]
        apply sx_congr
        intro j
        rw [bt_extract _ _ _ _ (Nat.le_refl _)]
        split
        · rfl
        · rw [bt_end]; omega
      simp only [e1, e2, e3]

theorem bl_enc (s : ByteArray) : bl (strOfNums (encS s)) = nl s.size := by
  obtain ⟨b1, b2, b3⟩ := enc_facts s
  obtain ⟨c1, c2, c3, c4⟩ := body_facts (strOfNums (encS s))
  have hnn := nl_np s.size
  rw [b1] at c1 c3
  rcases Nat.lt_trichotomy (bl (strOfNums (encS s))) (nl s.size) with h | h | h
  · have h1 := c3 _ (Nat.le_refl _) (by omega)
    rw [b2 _ h] at h1
    have hb1 := sx_bound (by_bt s) (bl (strOfNums (encS s)))
    exact absurd h1 (letter_byte hb1.1 hb1.2).2.2
  · exact h
  · exact absurd (b3 _ (by omega) (by omega)) (c4 (by omega))
theorem dv_enc (s : ByteArray) {i : Nat} (h : i < nl s.size) : dv (strOfNums (encS s)) i = sx (bt s) i := by
  unfold dv
  rw [(enc_facts s).2.1 i h]
  have hb1 := sx_bound (by_bt s) i
  exact val_letter hb1.1 hb1.2
theorem dx_enc (s : ByteArray) {j : Nat} (h : j < s.size) : dx (dv (strOfNums (encS s))) j = bt s j := by
  have hb := by_bt s
  obtain ⟨q, hq⟩ : ∃ q, j = 3 * q ∨ j = 3 * q + 1 ∨ j = 3 * q + 2 := ⟨j / 3, by omega⟩
  have h0 := hb (3 * q); have h1 := hb (3 * q + 1); have h2 := hb (3 * q + 2)
  rcases hq with rfl | rfl | rfl
  · rw [dx0, dv_enc s (by unfold nl; omega), dv_enc s (by unfold nl; omega), sx0, sx1]; omega
  · rw [dx1, dv_enc s (by unfold nl; omega), dv_enc s (by unfold nl; omega), sx1, sx2]; omega
  · rw [dx2, dv_enc s (by unfold nl; omega), dv_enc s (by unfold nl; omega), sx2, sx3]; omega
/-- what is written is read as it was -/
theorem back1 (s : ByteArray) : okD (strOfNums (encS s)) = true ∧ decS (strOfNums (encS s)) = s := by
  obtain ⟨b1, b2, b3⟩ := enc_facts s
  have hok : okD (strOfNums (encS s)) = true := by
    rw [okD_iff, bl_enc, b1]
    refine ⟨by unfold np; omega, by unfold np nl; omega, fun i hi => by rw [dv_enc s hi]; exact (sx_bound (by_bt s) i).1, fun h => ?_, fun h => ?_⟩
    · obtain ⟨q, hq⟩ : ∃ q, s.size = 3 * q + 1 := ⟨s.size / 3, by unfold nl at h; omega⟩
      rw [dv_enc s (by unfold nl; omega), show nl s.size - 1 = 4 * q + 1 by unfold nl; omega, sx1, bt_end s (k := 3 * q + 1) (by omega)]
      omega
    · obtain ⟨q, hq⟩ : ∃ q, s.size = 3 * q + 2 := ⟨s.size / 3, by unfold nl at h; omega⟩
      rw [dv_enc s (by unfold nl; omega), show nl s.size - 1 = 4 * q + 2 by unfold nl; omega, sx2, bt_end s (k := 3 * q + 2) (by omega)]
      omega
  refine ⟨hok, ?_⟩
  rw [dec_yes hok, bl_enc]
  have hn : 6 * nl s.size / 8 = s.size := by unfold nl; omega
  rw [hn]
  apply str_ext
  · rw [str_size, byts_len]
  · intro i hi
    rw [str_size, byts_len] at hi
    rw [bt_str (fun x hx => by
      obtain ⟨j, hj, rfl⟩ := List.mem_map.1 hx
      rw [dx_enc s (List.mem_range.1 hj)]; exact by_bt s j)]
    unfold byts
    rw [List.getElem?_map, List.getElem?_range hi]
    simp only [Option.map_some, Option.getD_some]
    exact dx_enc s hi

/-- what is read is written as it was -/
theorem back2 {t : ByteArray} (h : okD t = true) : strOfNums (encS (decS t)) = t := by
  obtain ⟨h1, h2, h3, h4, h5⟩ := (okD_iff t).1 h
  obtain ⟨c1, c2, c3, c4⟩ := body_facts t
  rw [dec_yes h]
  generalize hm : bl t = m at *
  have hd : ∀ i, i < m → 0 ≤ dv t i ∧ dv t i < 64 := fun i hi => ⟨h3 i hi, (dv_bound t i).2⟩
  have hby : Bytes (byts (dv t) (6 * m / 8)) := fun x hx => by
    obtain ⟨j, hj, rfl⟩ := List.mem_map.1 hx
    have := List.mem_range.1 hj
    exact dx_bound (n := m) hd (by omega)
  have hsz : (strOfNums (byts (dv t) (6 * m / 8))).size = 6 * m / 8 := by rw [str_size, byts_len]
  have hv : ∀ j, bt (strOfNums (byts (dv t) (6 * m / 8))) j = if j < 6 * m / 8 then dx (dv t) j else 0 := fun j => by
    rw [bt_str hby]
    unfold byts
    by_cases hj : j < 6 * m / 8
    · rw [if_pos hj, List.getElem?_map, List.getElem?_range hj]; rfl
    · rw [if_neg hj, List.getElem?_eq_none (by simp; omega)]; rfl
  generalize strOfNums (byts (dv t) (6 * m / 8)) = v at *
  obtain ⟨b1, b2, b3⟩ := enc_facts v
  rw [hsz] at b1 b2 b3
  obtain ⟨u, n, hn6, hu⟩ : ∃ u n, 6 * m / 8 = n ∧ ((m = 4 * u ∧ n = 3 * u ∧ t.size = 4 * u) ∨ (m = 4 * u + 2 ∧ n = 3 * u + 1 ∧ t.size = 4 * u + 4) ∨ (m = 4 * u + 3 ∧ n = 3 * u + 2 ∧ t.size = 4 * u + 4)) := by
    obtain ⟨a, ha⟩ : ∃ a, t.size = 4 * a := ⟨t.size / 4, by omega⟩
    have h3 : m = t.size ∨ (m + 1 = t.size ∨ m + 2 = t.size) := by omega
    rcases h3 with h3 | h3 | h3
    · exact ⟨a, 3 * a, by omega, .inl (by omega)⟩
    · exact ⟨a - 1, 3 * (a - 1) + 2, by omega, .inr (.inr (by omega))⟩
    · exact ⟨a - 1, 3 * (a - 1) + 1, by omega, .inr (.inl (by omega))⟩
  rw [hn6] at hsz hv b1 b2 b3
  have hnl : nl n = m := by rcases hu with h | h | h <;> (unfold nl; omega)
  have hnp : np n = t.size := by rcases hu with h | h | h <;> (unfold np; omega)
  clear hn6
  rw [hnl] at b2 b3
  rw [hnp] at b1 b3
  apply str_ext
  · exact b1
  · intro i hi
    rw [b1] at hi
    by_cases him : i < m
    · rw [b2 i him]
      have hsx : sx (bt v) i = dv t i := by
        obtain ⟨q, hq⟩ : ∃ q, i = 4 * q ∨ i = 4 * q + 1 ∨ i = 4 * q + 2 ∨ i = 4 * q + 3 := ⟨i / 4, by omega⟩
        have d0 := dv_bound t (4 * q); have d1 := dv_bound t (4 * q + 1); have d2 := dv_bound t (4 * q + 2); have d3 := dv_bound t (4 * q + 3)
        rcases hq with rfl | rfl | rfl | rfl
        · have e0 := h3 _ him
          have e1 := h3 (4 * q + 1) (by omega)
          rw [sx0, hv, if_pos (by omega), dx0]; omega
        · have e0 := h3 (4 * q) (by omega)
          have e1 := h3 _ him
          rw [sx1, hv, hv, if_pos (by omega), dx0]
          by_cases hl : 3 * q + 1 < n
          · have e2 := h3 (4 * q + 2) (by omega)
            rw [if_pos hl, dx1]; omega
          · have := h4 (by omega)
            rw [show m - 1 = 4 * q + 1 by omega] at this
            rw [if_neg hl]; omega
        · have e1 := h3 (4 * q + 1) (by omega)
          have e2 := h3 _ him
          rw [sx2, hv, hv, if_pos (by omega), dx1]
          by_cases hl : 3 * q + 2 < n
          · have e3 := h3 (4 * q + 3) (by omega)
            rw [if_pos hl, dx2]; omega
          · have := h5 (by omega)
            rw [show m - 1 = 4 * q + 2 by omega] at this
            rw [if_neg hl]; omega
        · have e2 := h3 (4 * q + 2) (by omega)
          have e3 := h3 _ him
          rw [sx3, hv, if_pos (by omega), dx2]; omega
      rw [hsx]
      unfold dv
      exact letter_val (h3 i him)
    · rw [b3 i (by omega) hi, c3 i (by omega) hi]

/-- a text with another byte in it is refused -/
theorem spoiled {t : ByteArray} {p : Nat} (hp : p < t.size) (hc : val (bt t p) = -1) (h61 : bt t p ≠ 61) : okD t = false := by
  apply not_ok
  rintro ⟨_, _, h, _⟩
  obtain ⟨c1, c2, c3, c4⟩ := body_facts t
  by_cases hl : p < bl t
  · have := h p hl
    unfold dv at this; omega
  · exact h61 (c3 p (by omega) hp)
theorem take_four {l : List Int} {n : Nat} {a b c d : Int} (h : 4 * (n + 1) ≤ l.length) (h0 : l[4 * n + 0]?.getD 0 = a) (h1 : l[4 * n + 1]?.getD 0 = b) (h2 : l[4 * n + 2]?.getD 0 = c) (h3 : l[4 * n + 3]?.getD 0 = d) : l.take (4 * (n + 1)) = l.take (4 * n) ++ [a, b, c, d] := by
  have g : ∀ i, i < l.length → l[i]? = some (l[i]?.getD 0) := fun i hi => by rw [List.getElem?_eq_getElem hi]; rfl
  have e : ∀ i, i < l.length → l.take (i + 1) = l.take i ++ [l[i]?.getD 0] := fun i hi => by
    rw [List.take_add_one, g i hi]; rfl
  rw [show 4 * (n + 1) = 4 * n + 3 + 1 by omega, e _ (by omega), e _ (by omega), e _ (by omega), e _ (by omega)]
  rw [Nat.add_zero] at h0
  rw [h0, h1, h2, h3]; simp
end Go.Proofs.YtkajdnaanipngaaDoor.P
