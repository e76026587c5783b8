/- WordsLong's and WordsFirst's walks. -/
import Derived.Test.YtfiicnajiefiaaaDoorS
import Derived.Laws.BytesArg
namespace Go.Proofs.YtfiicnajiefiaaaDoor
open Go.RowKit Go.PlainAid
set_option linter.unusedVariables false
set_option linter.unusedSimpArgs false

/-- string(b) of a row of the call's own -/
theorem conv_own {w : World} {base n : Nat} {ad : Option Addr} {cap : Nat} {l : List Int} (h : w.ownsRow base 5 1 (.slice ad n cap) n (l.map (.int .u8))) (hb : (∀ x ∈ l, 0 ≤ x ∧ x ≤ 255)) :
    (convert 29 9 (.slice ad n cap)).run Tryd.prog w = .ok (.string (strOfNums l)) w := by
  have hl : l.length = n := by simpa using h.1
  subst hl
  rcases h.2 with ⟨hv, h0⟩ | ⟨g, cap', cur, hv, _⟩
  · obtain rfl : l = [] := List.eq_nil_of_length_eq_zero h0
    cases hv
    exact run_convert_bytes_nil w 29 5 Tryd.underlying29 Tryd.underlying5 0 0 9 Tryd.underlying9
  · cases hv
    by_cases h0 : l = []
    · subst h0
      rw [run_convert_bytes_string w 29 9 5 _ _ _ Tryd.underlying29 Tryd.underlying5 Tryd.underlying9]
      exact run_bytesToString (P := Tryd.prog) w ⟨g, 0, none⟩ 0 cap [] (by simp [loadCells, loadCellsFrom])
    · refine run_convert_bytes_arg w 29 5 Tryd.underlying29 Tryd.underlying5 g 0 _ cap l rfl (fun i hi => ?_) 9 Tryd.underlying9
      have := h.cellAt i (by omega)
      rw [Nat.zero_add, this]
      simp [hi]

theorem modpos (b m : Int) (hm : 0 < m) : ∃ u, 0 ≤ u ∧ u < m ∧ (b < 0 → (b + 1).tmod m = -u) ∧ (¬ b < 0 → b % m = u) := by
  by_cases h : b < 0
  · have e : (b + 1).tmod m = -((-(b + 1)) % m) := by
      have h1 := Int.neg_tmod (a := -(b + 1)) (b := m)
      rw [Int.neg_neg] at h1
      rw [h1, Int.tmod_eq_emod_of_nonneg (by omega)]
    exact ⟨_, Int.emod_nonneg _ (by omega), Int.emod_lt_of_pos _ hm, fun _ => e, fun hn => absurd h hn⟩
  · exact ⟨_, Int.emod_nonneg _ (by omega), Int.emod_lt_of_pos _ hm, fun hn => absurd hn h, fun _ => rfl⟩
theorem bd_i64 {n : Int} (h : (Lit.int .i64 n).wf = true) : -9223372036854775808 ≤ n ∧ n ≤ 9223372036854775807 := by
  simpa [Lit.wf, IntKind.min, IntKind.max, IntKind.signed, IntKind.bits] using h


theorem info5 : (Tryd.prog.info? 5).map (fun i => (i.zero, i.size, i.bytes)) = some (some (.int .u8 0), 1, 1) := by kernel_rfl
namespace P
theorem nums_size (l : List Int) : (strOfNums l).size = l.length := by simp [strOfNums, ByteArray.size]
theorem bt_nums {l : List Int} (h : ∀ x ∈ l, 0 ≤ x ∧ x ≤ 255) (i : Nat) : bt (strOfNums l) i = l[i]?.getD 0 := by
  rw [bt_sl]
  unfold strOfNums sl
  simp only [List.getElem?_map]
  rcases hx : l[i]? with _ | x
  · rfl
  · have hb := h x (List.mem_of_getElem? hx)
    simp only [Option.map_some, Option.getD_some]
    have : (UInt8.ofNat x.toNat).toNat = x.toNat := by simp; omega
    omega
/-- i letters k, zeros behind -/
def kk (N i : Nat) : List Int := (List.range N).map (fun j => if j < i then 107 else 0)
theorem kk_len (N i : Nat) : (kk N i).length = N := by simp [kk]
theorem kk_zero (N : Nat) : kk N 0 = List.replicate N 0 := by
  unfold kk
  refine List.ext_getElem (by simp) (fun i h1 h2 => by simp)
theorem kk_set {N i : Nat} (h : i < N) : (kk N i).set i 107 = kk N (i + 1) := by
  refine List.ext_getElem (by simp [kk]) (fun j h1 h2 => ?_)
  simp only [kk, List.getElem_set, List.getElem_map, List.getElem_range]
  by_cases h3 : i = j
  · rw [if_pos h3, if_pos (by omega)]
  · rw [if_neg h3]
    by_cases h4 : j < i
    · rw [if_pos h4, if_pos (by omega)]
    · rw [if_neg h4, if_neg (by omega)]
theorem kk_bytes (N i : Nat) : ∀ x ∈ kk N i, 0 ≤ x ∧ x ≤ 255 := fun x hx => by
  obtain ⟨j, _, rfl⟩ := List.mem_map.1 hx
  split <;> omega
theorem kk_full {N j : Nat} (h : j < N) : (kk N N)[j]?.getD 0 = 107 := by simp [kk, h]
end P
theorem zeros_list (N : Nat) : (madeCells (Value.int .u8 0).cells (N * 1)).toList = (List.replicate N (0 : Int)).map (.int .u8) := by
  rw [Nat.mul_one]; exact (toList_madeCells_one _ N).trans (by simp)
theorem key_kk (N : Nat) : keyB (strOfNums (P.kk N N)) = decide (1 ≤ N ∧ N ≤ 250) := by
  unfold keyB
  rw [P.nums_size, P.kk_len]
  apply decide_eq_decide.2
  constructor
  · rintro ⟨h1, h2, _⟩; exact ⟨h1, h2⟩
  · rintro ⟨h1, h2⟩
    refine ⟨h1, h2, fun i hi => ?_⟩
    rw [P.bt_nums (P.kk_bytes N N), P.kk_full hi]; omega
theorem key_bad {N p : Nat} {c : Int} (hp : p < N) (hc : (0 ≤ c ∧ c ≤ 32) ∨ c = 127) : keyB (strOfNums ((P.kk N N).set p c)) = false := by
  unfold keyB
  apply decide_eq_false
  rintro ⟨_, _, h⟩
  have hb : ∀ x ∈ (P.kk N N).set p c, 0 ≤ x ∧ x ≤ 255 := fun x hx => by
    rcases List.mem_or_eq_of_mem_set hx with hx | rfl
    · exact P.kk_bytes N N x hx
    · omega
  have := h p (by rw [P.nums_size, List.length_set, P.kk_len]; exact hp)
  rw [P.bt_nums hb, List.getElem?_set, if_pos rfl, if_pos (by rw [P.kk_len]; exact hp)] at this
  simp at this
  omega

set_option maxRecDepth 100000 in
set_option maxHeartbeats 2000000 in
theorem long_walk (a bad b : Int) (w : World) (ha : (Lit.int .i64 a).wf = true) (hbad : (Lit.int .u8 bad).wf = true) (hb : (Lit.int .i64 b).wf = true) : Calls Tryd.prog 6 #[.int .i64 a, .int .u8 bad, .int .i64 b] w (BoolPost w) := by
  obtain ⟨a1, a2⟩ := bd_i64 ha
  obtain ⟨b1, b2⟩ := bd_i64 hb
  have hbd : 0 ≤ bad ∧ bad ≤ 255 := by
    have : 0 ≤ bad ∧ bad ≤ 255 := by simpa [Lit.wf, IntKind.min, IntKind.max, IntKind.signed, IntKind.bits] using hbad
    omega
  obtain ⟨d0, d1⟩ := hbd
  clear ha hb hbad
  obtain ⟨u, hu0, hu1, hun, hup⟩ := modpos a 300 (by omega)
  obtain ⟨N, rfl⟩ := Int.eq_ofNat_of_zero_le hu0
  have hN : N < 300 := by omega
  obtain ⟨i0, hi, hz0, hz1, hz2⟩ := info_parts info5
  by_cases ha0 : a < 0
  all_goals
    first | have ea := hun ha0 | have ea := hup ha0
    clear hun hup
    go_enter Tryd.func6, Tryd.ntmps6
    go_wp2_with (fail)
    refine (shown_any _).mono ?_
    rintro e w1 ⟨rfl, hb1⟩
    go_wp2_with (at_make; (try simp only [ea, Int.neg_neg]); go_must (refine wpList_make_full w1 rfl _ _ 29 rfl w1.heap.size 5 i0 (.int .u8 0) 1 Tryd.underlying29 hi hz0 hz1 _ _ _ _ N rfl rfl rfl rfl (by rw [hz2]; omega) (by unfold maxLen; omega) (Nat.le_refl _) ?_); intro w2 ho2 hg2)
    rw [zeros_list, ← P.kk_zero] at ho2
    obtain ⟨g, hg⟩ : ∃ g, w1.heap.size = g := ⟨_, rfl⟩
    have hbw2 : Below w.heap.size w w2 := hb1.grown hg2 hb1.size (fun k h => by cases h)
    have hgw : w.heap.size ≤ g := by rw [← hg]; exact hb1.size
    rw [hg] at ho2 ⊢
    clear hg hg2 hb1 ea hi hz0 hz1 hz2
    go_loopw [9] (fun i wr => ∃ k : Nat, k ≤ N ∧ i = .int .i64 k ∧ wr.ownsRow g 5 1 (.slice (some ⟨g, 0, none⟩) N N) N ((P.kk N k).map (.int .u8)) ∧ Below w.heap.size w wr) (fun i _ => N - (intOf i).toNat)
    case atStart => exact ⟨0, by omega, rfl, ho2, hbw2⟩
    case round =>
      obtain ⟨k, hk, rfl, ho, hbr⟩ := hrel
      clear ho2 hbw2
      by_cases hlt : k < N
      · have hltI : (k : Int) < (N : Int) := by omega
        have hc : wr.cell? ⟨g, k, none⟩ = some (.int .u8 ((P.kk N k)[k]?.getD 0)) := by rw [ho.cellAt k (by omega)]; simp [P.kk_len, hlt]
        have hf := ho.frozenAt k
        have hst := (ho.stored k (.int .u8 107)).1
        rw [← List.map_set, P.kk_set hlt] at hst
        go_wp2_with (fail)
        go_roundw
        case rel => exact ⟨k + 1, by omega, by go_num, hst, hbr.setCell (by simpa using hgw) _⟩
        case measure => simp [intOf]; omega
      · obtain rfl : k = N := by omega
        have hcv := conv_own ho (P.kk_bytes k k)
        have hk1 := key_kk k
        obtain ⟨t, ht⟩ : ∃ t, strOfNums (P.kk k k) = t := ⟨_, rfl⟩
        have hts : t.size = k := by rw [← ht, P.nums_size, P.kk_len]
        rw [ht] at hcv hk1
        have hkey : Hid (∀ w', Calls Tryd.prog 17 #[.string t] w' fun e w'' => e = .returned (.bool (decide (1 ≤ k ∧ k ≤ 250))) ∧ w' = w'') := Lib.hid (fun w' => key_at (by rw [hts]; unfold maxLen; omega) hk1 w')
        clear hk1 ht hts
        by_cases h0 : k = 0
        · subst h0
          rw [show decide (1 ≤ 0 ∧ 0 ≤ 250) = false from rfl] at hkey
          go_wp2_with (go_at_call 17; refine (hkey.out _).mono ?_; rintro e w' ⟨rfl, rfl⟩)
          go_ret
          exact ⟨rfl, hbr⟩
        · obtain ⟨u2, v0, v1, vn, vp⟩ := modpos b (k : Int) (by omega)
          obtain ⟨p, rfl⟩ := Int.eq_ofNat_of_zero_le v0
          have hp : p < k := by omega
          have hpI : (p : Int) < (k : Int) := by omega
          have k0 : ((k : Int) == 0) = false := beq_eq_false_iff_ne.2 (by omega)
          have k1 : (1 : Int) ≤ (k : Int) := by omega
          have k2 : ¬ (k : Int) = 0 := by omega
          obtain ⟨c, hc⟩ : ∃ c, bad % 34 = c := ⟨_, rfl⟩
          have c0 : 0 ≤ c := by omega
          have c1 : c < 34 := by omega
          have hcp : wr.cell? ⟨g, p, none⟩ = some (.int .u8 107) := by rw [ho.cellAt p (by omega)]; simp [P.kk, hp]
          have hf := ho.frozenAt p
          clear hlt hk h0 v0 v1
          have fin : ∀ x : Int, ((0 ≤ x ∧ x ≤ 32) ∨ x = 127) → ∃ t2, Hid ((convert 29 9 (.slice (some ⟨g, 0, none⟩) k k)).run Tryd.prog (wr.setCell ⟨g, p, none⟩ (.int .u8 x)) = .ok (.string t2) (wr.setCell ⟨g, p, none⟩ (.int .u8 x))) ∧
              Hid (∀ w', Calls Tryd.prog 17 #[.string t2] w' fun e w'' => e = .returned (.bool false) ∧ w' = w'') ∧ Hid (Below w.heap.size w (wr.setCell ⟨g, p, none⟩ (.int .u8 x))) := fun x hx => by
            have hst := (ho.stored p (.int .u8 x)).1
            rw [← List.map_set] at hst
            refine ⟨_, Lib.hid (conv_own hst (fun y hy => ?_)), Lib.hid (fun w' => key_at (by rw [P.nums_size, List.length_set, P.kk_len]; unfold maxLen; omega) (key_bad hp hx) w'), Lib.hid (hbr.setCell (by simpa using hgw) _)⟩
            rcases List.mem_or_eq_of_mem_set hy with hy | rfl
            · exact P.kk_bytes k k y hy
            · omega
          by_cases h250 : k ≤ 250
          · have k3 : (k : Int) ≤ 250 := by omega
            rw [decide_eq_true (show 1 ≤ k ∧ k ≤ 250 by omega)] at hkey
            clear h250
            by_cases hb0 : b < 0 <;> by_cases h33 : c = 33
            all_goals
              first | have eb := vn hb0 | have eb := vp hb0
              clear vn vp
              first
                | (obtain ⟨t2, q1, q2, q3⟩ := fin 127 (.inr rfl); subst h33)
                | (obtain ⟨t2, q1, q2, q3⟩ := fin c (.inl ⟨c0, by omega⟩); have h33b : (c == 33) = false := by simp [h33])
              clear fin
              have Q1 := q1.out
              clear q1
              go_wp2_with (fail)
              refine (hkey.out _).mono ?_
              rintro e w' ⟨rfl, rfl⟩
              go_wp2_with (fail)
              refine (q2.out _).mono ?_
              rintro e w' ⟨rfl, rfl⟩
              go_wp2_with (fail)
              go_ret
              exact ⟨rfl, q3.out⟩
          · have k3 : ¬ (k : Int) ≤ 250 := by omega
            rw [decide_eq_false (show ¬ (1 ≤ k ∧ k ≤ 250) by omega)] at hkey
            clear h250
            by_cases hb0 : b < 0 <;> by_cases h33 : c = 33
            all_goals
              first | have eb := vn hb0 | have eb := vp hb0
              clear vn vp
              first
                | (obtain ⟨t2, q1, q2, q3⟩ := fin 127 (.inr rfl); subst h33)
                | (obtain ⟨t2, q1, q2, q3⟩ := fin c (.inl ⟨c0, by omega⟩); have h33b : (c == 33) = false := by simp [h33])
              clear fin
              have Q1 := q1.out
              clear q1
              go_wp2_with (fail)
              refine (hkey.out _).mono ?_
              rintro e w' ⟨rfl, rfl⟩
              go_wp2_with (fail)
              refine (q2.out _).mono ?_
              rintro e w' ⟨rfl, rfl⟩
              go_wp2_with (fail)
              go_ret
              exact ⟨rfl, q3.out⟩

namespace P
theorem sl_app (a b : ByteArray) : sl (a ++ b) = sl a ++ sl b := by simp [sl, ByteArray.data_append]
theorem bt_app {a b : ByteArray} {i : Nat} (h : i < a.size) : bt (a ++ b) i = bt a i := by
  rw [bt_sl, bt_sl, sl_app, List.getElem?_append_left (by rw [sl_len]; exact h)]
theorem take_app {a b : ByteArray} {n : Nat} (h : n ≤ a.size) : (a ++ b).extract 0 n = a.extract 0 n := by
  rw [extract_mk, extract_mk, sl_app, List.take_append_of_le_length (by rw [sl_len]; exact h)]
theorem extract_all (a : ByteArray) : a.extract 0 a.size = a := by
  rw [extract_mk, show a.size = (sl a).length from (sl_len a).symm, List.take_length]; exact mk_sl a
end P
/-- a text, a line's end, and more -/
theorem line_more {t b : ByteArray} (h : ∀ k, k < t.size → bt t k ≠ 10) : lineN ((t ++ ⟨#[10]⟩) ++ b) = (t.size : Int) + 1 ∧ lineT ((t ++ ⟨#[10]⟩) ++ b) = if 0 < t.size ∧ bt t (t.size - 1) = 13 then t.extract 0 (t.size - 1) else t := by
  have hs : (t ++ ⟨#[10]⟩ : ByteArray).size = t.size + 1 := by simp [ByteArray.size_append]; rfl
  have hs2 : ((t ++ ⟨#[10]⟩) ++ b : ByteArray).size = t.size + 1 + b.size := by rw [ByteArray.size_append, hs]
  have hb : ∀ k, k < t.size → bt ((t ++ ⟨#[10]⟩) ++ b) k = bt t k := fun k hk => by rw [P.bt_app (by omega), P.bt_app hk]
  have h10 : bt ((t ++ ⟨#[10]⟩) ++ b) t.size = 10 := by
    rw [P.bt_app (by omega), P.bt_sl, P.sl_app, List.getElem?_append_right (by rw [P.sl_len]; exact Nat.le_refl _), P.sl_len, Nat.sub_self]
    rfl
  obtain ⟨e1, e2⟩ := line_at (s := (t ++ ⟨#[10]⟩) ++ b) (i := t.size) (by omega) h10 (fun k hk => by rw [hb k hk]; exact h k hk)
  refine ⟨e1, ?_⟩
  rw [e2]
  by_cases h0 : 0 < t.size
  · rw [hb (t.size - 1) (by omega), P.take_app (by omega), P.take_app (by omega), P.take_app (by omega), P.take_app (by omega), P.extract_all]
  · rw [if_neg (fun h => h0 h.1), if_neg (fun h => h0 h.1), P.take_app (by omega), P.take_app (by omega), P.extract_all]

set_option maxRecDepth 100000 in
set_option maxHeartbeats 1000000 in
theorem first_walk (s b : ByteArray) (w : World) (hs : s.size ≤ 2000000) (hbs : b.size ≤ 2000000) : Calls Tryd.prog 8 #[.string s, .string b] w (BoolPost w) := by
  go_enter Tryd.func8, Tryd.ntmps8
  go_wp2_with (fail)
  refine (shown_any _).mono ?_
  rintro e w1 ⟨rfl, hb1⟩
  go_wp2_with (fail)
  go_loop [0, 7] (fun v i => ∃ (t : ByteArray) (k : Nat), v = .string t ∧ i = .int .i64 k ∧ t.size ≤ 2000000 ∧ (k ≤ t.size ∨ k = t.size + 1) ∧ (∀ j, j < k → j < t.size → bt t j ≠ 10)) (fun v i => match v with | .string t => t.size + 1 - (intOf i).toNat | _ => 0)
  case atStart => exact ⟨s, 0, rfl, rfl, hs, .inl (Nat.zero_le _), fun j hj => by omega⟩
  case round =>
    obtain ⟨t, k, rfl, rfl, hts, hk, hall⟩ := hrel
    have hb := get_bt t
    have Hall := Lib.hid hall
    clear hall
    by_cases hlt : k < t.size
    · have hltI : (k : Int) < (t.size : Int) := by omega
      have hle : k ≤ t.size := by omega
      have hleI : (k : Int) ≤ (t.size : Int) := by omega
      by_cases h10 : bt t k = 10
      · have hx : (t.extract 0 k).size = k := by simp; omega
        obtain ⟨t2, ht2⟩ : ∃ t2, t.extract 0 k = t2 := ⟨_, rfl⟩
        rw [ht2] at hx
        have Hn : Hid (∀ j, j < k → bt t2 j ≠ 10) := Lib.hid (fun j hj => by
          have := Hall.out j hj (by omega)
          rw [← ht2, P.bt_sl, P.extract_mk, P.sl_mk]
          rw [P.bt_sl] at this
          simpa [List.getElem?_take, hj] using this)
        clear hk
        go_wp2_with (fail)
        go_round
        case rel => exact ⟨t2, k + 1, rfl, by go_num, by omega, .inr (by omega), fun j hj hj2 => Hn.out j (by omega)⟩
        case measure => simp [intOf]; omega
      · have h10b : (bt t k == 10) = false := by simp [h10]
        have H10 := Lib.hid h10
        clear h10 hk
        go_wp2_with (fail)
        go_round
        case rel =>
          refine ⟨t, k + 1, rfl, by go_num, hts, .inl (by omega), fun j hj hj2 => ?_⟩
          rcases Nat.lt_succ_iff_lt_or_eq.1 hj with h | rfl
          · exact Hall.out j h hj2
          · exact H10.out
        case measure => simp [intOf]; omega
    · have hno : ∀ j, j < t.size → bt t j ≠ 10 := fun j hj => Hall.out j (by omega) hj
      obtain ⟨e1, e2⟩ := line_more (b := b) hno
      obtain ⟨e3, e4⟩ := line_none hno
      have hge : ¬ (k : Int) < (t.size : Int) := by omega
      have hsum : (t ++ ⟨#[10]⟩ : ByteArray).size = t.size + 1 := by simp [ByteArray.size_append]; rfl
      have hS : ((t ++ ⟨#[10]⟩) ++ b : ByteArray).size ≤ 5000000 := by rw [ByteArray.size_append, hsum]; omega
      obtain ⟨S, hSe⟩ : ∃ S, (t ++ ⟨#[10]⟩ : ByteArray) ++ b = S := ⟨_, rfl⟩
      rw [hSe] at e1 e2 hS
      have Hno := Lib.hid (And.intro e3 e4)
      have x1 : ¬ 9223372036854775807 < t.size + 1 := by omega
      have x2 : ¬ 9223372036854775807 < t.size + 1 + b.size := by omega
      clear e3 e4 hno hk hlt
      rcases Nat.eq_zero_or_pos t.size with h0 | h0
      · rw [if_neg (fun h => by omega)] at e2
        have H := Lib.hid (And.intro e1 e2)
        have h0I : ¬ (0 : Int) < (t.size : Int) := by omega
        have htt := str_beq t
        clear e1 e2
        go_wp2_with (fail)
        refine (line_at' (w0 := w) (by unfold maxLen; omega) H.out.2 H.out.1 hb1).mono ?_
        rintro e w2 ⟨rfl, hb2⟩
        go_wp2_with (fail)
        refine (line_at' (w0 := w) (by unfold maxLen; omega) Hno.out.2 Hno.out.1 hb2).mono ?_
        rintro e w3 ⟨rfl, hb3⟩
        go_wp2_with (fail)
        go_ret
        exact ⟨rfl, hb3⟩
      · obtain ⟨m, hm⟩ : ∃ m, t.size = m + 1 := ⟨t.size - 1, by omega⟩
        have h0I : (0 : Int) < (t.size : Int) := by omega
        have i1 : ((t.size : Int) - 1).toNat = t.size - 1 := by omega
        have i2 : (t.size : Int) - 1 < (t.size : Int) := by omega
        have i3 : (0 : Int) ≤ (t.size : Int) - 1 := by omega
        have i4 : t.size - 1 < t.size := by omega
        have i5 : (t.size : Int) - 1 ≤ (t.size : Int) := by omega
        clear hm
        by_cases h13 : bt t (t.size - 1) = 13
        · rw [if_pos ⟨h0, h13⟩] at e2
          obtain ⟨u, hu⟩ : ∃ u, t.extract 0 (t.size - 1) = u := ⟨_, rfl⟩
          rw [hu] at e2
          have H := Lib.hid (And.intro e1 e2)
          have htt := str_beq u
          clear e1 e2
          go_wp2_with (fail)
          refine (line_at' (w0 := w) (by unfold maxLen; omega) H.out.2 H.out.1 hb1).mono ?_
          rintro e w2 ⟨rfl, hb2⟩
          go_wp2_with (fail)
          refine (line_at' (w0 := w) (by unfold maxLen; omega) Hno.out.2 Hno.out.1 hb2).mono ?_
          rintro e w3 ⟨rfl, hb3⟩
          go_wp2_with (fail)
          go_ret
          exact ⟨rfl, hb3⟩
        · rw [if_neg (fun h => h13 h.2)] at e2
          have H := Lib.hid (And.intro e1 e2)
          have h13b : (bt t (t.size - 1) == 13) = false := by simp [h13]
          have htt := str_beq t
          clear e1 e2 h13
          go_wp2_with (fail)
          refine (line_at' (w0 := w) (by unfold maxLen; omega) H.out.2 H.out.1 hb1).mono ?_
          rintro e w2 ⟨rfl, hb2⟩
          go_wp2_with (fail)
          refine (line_at' (w0 := w) (by unfold maxLen; omega) Hno.out.2 Hno.out.1 hb2).mono ?_
          rintro e w3 ⟨rfl, hb3⟩
          go_wp2_with (fail)
          go_ret
          exact ⟨rfl, hb3⟩
end Go.Proofs.YtfiicnajiefiaaaDoor
