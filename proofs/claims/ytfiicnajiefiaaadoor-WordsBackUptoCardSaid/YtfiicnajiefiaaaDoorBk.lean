/- WordsBack's walk. -/
import Derived.Test.YtfiicnajiefiaaaDoorJ
import Derived.Test.YtfiicnajiefiaaaDoorG
namespace Go.Proofs.YtfiicnajiefiaaaDoor
open Go.RowKit Go.PlainAid
set_option linter.unusedVariables false
set_option linter.unusedSimpArgs false

def Keys (ks : List ByteArray) : Prop := ∀ x ∈ ks, keyB x = true
theorem Keys.snoc {ks : List ByteArray} {x : ByteArray} (h : Keys ks) (hx : keyB x = true) : Keys (ks ++ [x]) := fun y hy => by
  rcases List.mem_append.1 hy with hy | hy
  · exact h y hy
  · simp at hy; subst hy; exact hx
theorem sumS_snoc (ks : List ByteArray) (x : ByteArray) : sumS (ks ++ [x]) = sumS ks + x.size + 1 := by
  induction ks with
  | nil => simp [sumS]
  | cons y ks ih => simp only [List.cons_append, sumS, ih]; omega
namespace P
theorem key_low {x : ByteArray} (h : keyB x = true) : ∀ b ∈ sl x, 32 ≤ b.toNat := fun b hb => by
  obtain ⟨_, _, h3⟩ := of_decide_eq_true h
  obtain ⟨i, hi, rfl⟩ := List.mem_iff_getElem.1 hb
  have hi' : i < x.size := by rw [← sl_len x]; exact hi
  have := (h3 i hi').1
  rw [bt_get (List.getElem?_eq_some_iff.2 ⟨hi, rfl⟩)] at this
  omega
theorem join_low {ks : List ByteArray} (h : Keys ks) : ∀ b ∈ Lib.join (ks.map sl) [32], 32 ≤ b.toNat := by
  have tail : ∀ ks : List ByteArray, Keys ks → ∀ b ∈ Lib.joinTail [32] (ks.map sl), 32 ≤ b.toNat := by
    intro ks
    induction ks with
    | nil => intro _ b hb; simp [Lib.joinTail] at hb
    | cons x ks ih =>
      intro hk b hb
      rw [List.map_cons, show sl x :: ks.map sl = [sl x] ++ ks.map sl from rfl, joinTail_app, joinTail_one] at hb
      rcases List.mem_append.1 hb with hb | hb
      · rcases List.mem_cons.1 hb with rfl | hb
        · decide
        · exact key_low (hk x (by simp)) b hb
      · exact ih (fun y hy => hk y (by simp [hy])) b hb
  cases ks with
  | nil => intro b hb; simp [Lib.join_nil] at hb
  | cons x ks =>
    intro b hb
    rw [List.map_cons, Lib.join_cons] at hb
    rcases List.mem_append.1 hb with hb | hb
    · exact key_low (h x (by simp)) b hb
    · exact tail ks (fun y hy => h y (by simp [hy])) b hb
theorem join_words {ks : List ByteArray} (h : Keys ks) : words (joinB ks) = ks.map sl := by
  unfold words joinB
  rw [sl_mk]
  have tail : ∀ (ks : List ByteArray), Keys ks → ∀ t : L, go [] (t ++ Lib.joinTail [32] (ks.map sl)) = go [] t ++ ks.map sl := by
    intro ks
    induction ks with
    | nil => intro _ t; simp [Lib.joinTail]
    | cons x ks ih =>
      intro hk t
      obtain ⟨h1, h2, _⟩ := key_word (hk x (by simp))
      rw [List.map_cons, show sl x :: ks.map sl = [sl x] ++ ks.map sl from rfl, joinTail_app, joinTail_one, ← List.append_assoc, ih (fun y hy => hk y (by simp [hy])), go_blank, go_one h1 h2]
      simp
  cases ks with
  | nil => rfl
  | cons x ks =>
    obtain ⟨h1, h2, _⟩ := key_word (h x (by simp))
    rw [List.map_cons, Lib.join_cons, tail ks (fun y hy => h y (by simp [hy])), go_one h1 h2]
    rfl
theorem bt_low {s : ByteArray} (h : ∀ b ∈ sl s, 32 ≤ b.toNat) {i : Nat} (hi : i < s.size) : 32 ≤ bt s i := by
  obtain ⟨b, hb, e⟩ := sl_get hi
  have := h b (List.mem_of_getElem? hb)
  omega
end P
theorem back_line {s b : ByteArray} (h : ∀ x ∈ P.sl s, 32 ≤ x.toNat) : lineN ((s ++ ⟨#[10]⟩) ++ b) = (s.size : Int) + 1 ∧ lineT ((s ++ ⟨#[10]⟩) ++ b) = s := by
  obtain ⟨e1, e2⟩ := line_more (t := s) (b := b) (fun k hk => by have := P.bt_low h hk; omega)
  refine ⟨e1, ?_⟩
  rw [e2]
  by_cases h0 : 0 < s.size
  · rw [if_neg (fun hh => by have := P.bt_low h (i := s.size - 1) (by omega); omega)]
  · rw [if_neg (fun hh => h0 hh.1)]
theorem back_cr {s b : ByteArray} (h : ∀ x ∈ P.sl s, 32 ≤ x.toNat) : lineN ((s ++ ⟨#[13, 10]⟩) ++ b) = (s.size : Int) + 2 ∧ lineT ((s ++ ⟨#[13, 10]⟩) ++ b) = s := by
  have hs : (s ++ ⟨#[13]⟩ : ByteArray).size = s.size + 1 := by simp [ByteArray.size_append]; rfl
  have e0 : (s ++ ⟨#[13, 10]⟩ : ByteArray) = (s ++ ⟨#[13]⟩) ++ ⟨#[10]⟩ := by
    apply P.sl_inj
    simp only [P.sl_app, List.append_assoc]
    rfl
  have h13 : bt (s ++ ⟨#[13]⟩) s.size = 13 := by
    rw [P.bt_sl, P.sl_app, List.getElem?_append_right (by rw [P.sl_len]; exact Nat.le_refl _), P.sl_len, Nat.sub_self]
    rfl
  obtain ⟨e1, e2⟩ := line_more (t := s ++ ⟨#[13]⟩) (b := b) (fun k hk => by
    rw [hs] at hk
    by_cases hlt : k < s.size
    · rw [P.bt_app hlt]; have := P.bt_low h hlt; omega
    · rw [show k = s.size by omega, h13]; decide)
  rw [e0]
  refine ⟨by rw [e1, hs]; omega, ?_⟩
  rw [e2, hs, Nat.add_sub_cancel, if_pos ⟨by omega, h13⟩, P.take_app (Nat.le_refl _), P.extract_all]
theorem own_cap {w : World} {base n : Nat} {a : Option Addr} {cap : Nat} {e : TypeId} {xs : List Value} (h : w.ownsRow base e 1 (.slice a n cap) n xs) : n ≤ cap := by
  rcases h.2 with ⟨h1, h2⟩ | ⟨g, cap', cur, h1, _, _, h4, _⟩
  · omega
  · simp only [Value.slice.injEq] at h1
    omega

theorem line_d {s t : ByteArray} {n : Int} {w : World} (hs : s.size ≤ maxLen) (ht : lineT s = t) (hn : lineN s = n) :
    Calls Tryd.prog 12 #[.string s] w fun e w' => e = .returned (.tuple #[.string t, .int .i64 n]) ∧ ∃ k, w' = w.drewN k := by
  subst ht hn
  exact line_any s w hs
theorem own_drewN {w : World} {base n : Nat} {e : TypeId} {size : Nat} {v : Value} {xs : List Value} (h : w.ownsRow base e size v n xs) (k : Nat) : (w.drewN k).ownsRow base e size v n xs :=
  h.kept (row := none) ⟨rfl, rfl, rfl, Nat.le_refl _, fun _ _ _ => rfl⟩ (by cases hv : v.ownBlock <;> simp)

set_option maxRecDepth 100000 in
set_option maxHeartbeats 2000000 in
theorem back_walk (l : List ByteArray) (ad : Option Addr) (n cap : Nat) (bh : ByteArray) (cr : Bool) (w : World) (hr : RS w (.slice ad n cap) l) (hln : l.length = n) (hcap : n ≤ cap) (hcm : cap ≤ maxLen) (hsum : sumS l ≤ 1048576) (hbh : bh.size ≤ 2000000) :
    Calls Tryd.prog 10 #[.slice ad n cap, .string bh, .bool cr] w (BoolPost w) := by
  unfold maxLen at hcm
  have Hr := Lib.hid hr
  have Hln := Lib.hid hln
  have Hsum := Lib.hid hsum
  clear hr hln hsum
  go_enter Tryd.func10, Tryd.ntmps10
  go_wp2_with (fail)
  refine (shown_any _).mono ?_
  rintro e w1 ⟨rfl, hb1⟩
  go_wp2_with (fail)
  go_loopw [8, 9] (fun v i wr => ∃ (k m : Nat) (ks : List ByteArray) (a9 : Option Addr) (c9 : Nat), v = .slice a9 m c9 ∧ i = .int .i64 k ∧ k ≤ 50 ∧ k ≤ n ∧ m ≤ k ∧ Keys ks ∧ sumS ks ≤ 251 * k ∧
    wr.ownsRow w.heap.size 9 1 (.slice a9 m c9) m (ks.map .string) ∧ Below w.heap.size w wr) (fun _ i _ => 50 - (intOf i).toNat)
  case atStart => exact ⟨0, 0, [], none, 0, rfl, rfl, by omega, by omega, by omega, fun x hx => by simp at hx, by simp [sumS], World.ownsRow_nil _ _ _ _, hb1⟩
  case round =>
    obtain ⟨k, m, ks, a9, c9, rfl, rfl, hk, hkn, hmk, hks, hss, ho, hbl⟩ := hrel
    have Hks := Lib.hid hks
    have Hss := Lib.hid hss
    clear hks hss
    by_cases hlt : k < n ∧ k < 50
    · obtain ⟨hlt1, hlt2⟩ := hlt
      have i1 : (k : Int) < (n : Int) := by omega
      have i2 : (k : Int) < 50 := by omega
      obtain ⟨x, hx⟩ : ∃ x, l[k]?.getD ⟨#[]⟩ = x := ⟨_, rfl⟩
      have hxs : x.size ≤ 1048576 := by
        have hm : x ∈ l := by
          rw [← hx, List.getElem?_eq_getElem (by rw [Hln.out]; exact hlt1)]
          exact List.getElem_mem _
        have h1 := sumS_le hm
        have h2 := Hsum.out
        omega
      obtain ⟨b, o, hab, hbw, hc⟩ := (Hr.out.below hbl).at hlt1
      subst hab
      rw [hx] at hc
      clear hx
      rcases hkey : keyB x with _ | _
      · have Hkey := Lib.hid hkey
        clear hkey
        go_wp2_with (fail)
        refine (key_at (by unfold maxLen; omega) Hkey.out _).mono ?_
        rintro e w' ⟨rfl, rfl⟩
        go_wp2_with (fail)
        go_roundw
        case rel => exact ⟨k + 1, m, ks, a9, c9, rfl, by go_num, by omega, by omega, by omega, Hks.out, by have := Hss.out; omega, ho, hbl⟩
        case measure => simp [intOf]; omega
      · have Hkey := Lib.hid hkey
        have hx250 := (P.key_word hkey).2.2
        clear hkey
        go_wp2_with (fail)
        refine (key_at (by unfold maxLen; omega) Hkey.out _).mono ?_
        rintro e w' ⟨rfl, rfl⟩
        go_wp2_with (at_builtin; go_must (refine wp_appS w wr rfl _ _ rfl w.heap.size (.slice a9 m c9) m ks x rfl ho rfl hbl (by omega) hbl.size ?_); intro g9 cap9 w2 hown2 hbel2)
        go_roundw
        case rel => exact ⟨k + 1, m + 1, ks ++ [x], some ⟨g9, 0, none⟩, cap9, rfl, by go_num, by omega, by omega, by omega, Hks.out.snoc Hkey.out, by rw [sumS_snoc]; have := Hss.out; omega, hown2, hbel2⟩
        case measure => simp [intOf]; omega
    · have hsk : sumS ks ≤ 100000000 := by have := Hss.out; omega
      have hnl : ks.length ≤ 100000000 := by have := sumS_len ks; omega
      obtain ⟨t, ht⟩ : ∃ t, joinB ks = t := ⟨_, rfl⟩
      have hts : t.size ≤ 3000000 := by rw [← ht]; have := joinB_size ks; have := Hss.out; omega
      have hlow : ∀ x ∈ P.sl t, 32 ≤ x.toNat := by rw [← ht]; unfold joinB; rw [P.sl_mk]; exact P.join_low Hks.out
      have hw : P.words t = ks.map P.sl := by rw [← ht]; exact P.join_words Hks.out
      have hmk : (ks.map P.sl).map P.mk = ks := by rw [List.map_map]; exact (List.map_congr_left (fun x _ => P.mk_sl x)).trans (List.map_id _)
      have HW := Lib.hid (And.intro hw hmk)
      have HL := Lib.hid (And.intro (back_line (b := bh) hlow) (back_cr (b := bh) hlow))
      have HJ : Hid (∀ w', Below wr.heap.size wr w' → Calls Tryd.prog 19 #[.slice a9 m c9] w' fun e w'' => e = .returned (.string t) ∧ Below w'.heap.size w' w'') := Lib.hid (fun w' hw' => by rw [← ht]; exact join_any ((rs_own ho).below hw') (own_cap ho) hsk)
      have htt := str_beq t
      have hs1 : (t ++ ⟨#[10]⟩ : ByteArray).size = t.size + 1 := by simp [ByteArray.size_append]; rfl
      have hs2 : (t ++ ⟨#[13, 10]⟩ : ByteArray).size = t.size + 2 := by simp [ByteArray.size_append]; rfl
      have hS1 : ((t ++ ⟨#[10]⟩) ++ bh : ByteArray).size ≤ maxLen := by rw [ByteArray.size_append, hs1]; unfold maxLen; omega
      have hS2 : ((t ++ ⟨#[13, 10]⟩) ++ bh : ByteArray).size ≤ maxLen := by rw [ByteArray.size_append, hs2]; unfold maxLen; omega
      have HS := Lib.hid (And.intro hS1 hS2)
      have x1 : ¬ 9223372036854775807 < t.size + 1 := by omega
      have x2 : ¬ 9223372036854775807 < t.size + 1 + bh.size := by omega
      have x3 : ¬ 9223372036854775807 < t.size + 2 := by omega
      have x4 : ¬ 9223372036854775807 < t.size + 2 + bh.size := by omega
      have hcond : (k < n ∧ ¬ k < 50) ∨ ¬ k < n := by omega
      clear hlow hw hmk hS1 hS2 ht hlt
      rcases hcond with ⟨h1, h2⟩ | h1
      all_goals
        first
          | have i1 : (k : Int) < (n : Int) := Int.ofNat_lt.2 h1
          | have i1 : ¬ (k : Int) < (n : Int) := fun h => h1 (Int.ofNat_lt.1 h)
        try have i2 : ¬ (k : Int) < 50 := fun h => h2 (by omega)
        cases cr
        · have HX := Lib.hid (And.intro HS.out.1 HL.out.1)
          clear HS HL
          go_wp2_with (fail)
          refine (HJ.out _ (Below.refl _ _)).mono ?_
          rintro e w2 ⟨rfl, hb2⟩
          have hbw2 := hbl.trans (hb2.mono hbl.size)
          have ho2 := own_below ho hb2
          clear HJ
          go_wp2_with (fail)
          refine (line_d HX.out.1 HX.out.2.2 HX.out.2.1).mono ?_
          rintro e w3 ⟨rfl, n3, rfl⟩
          have ho3 := own_drewN ho2 n3
          have hbw3 := below_drewN hbw2 n3
          generalize w2.drewN n3 = w3 at *
          clear ho2 hbw2
          go_wp2_with (fail)
          refine (split_at' (w0 := w) (by omega) HW.out.1 hbw3).mono ?_
          rintro e w4 ⟨v, rfl, ho4, hb4, hb4'⟩
          rw [HW.out.2] at ho4
          have r1 := rs_own ho4
          have r2 := (rs_own ho3).below hb4'
          clear ho3 ho4 hb4'
          go_wp2_with (fail)
          refine (same_true r1 r2 hnl).mono ?_
          rintro e w5 ⟨rfl, n5, rfl⟩
          go_wp2_with (fail)
          go_ret
          exact ⟨rfl, below_drewN hb4 n5⟩
        · have HX := Lib.hid (And.intro HS.out.2 HL.out.2)
          clear HS HL
          go_wp2_with (fail)
          refine (HJ.out _ (Below.refl _ _)).mono ?_
          rintro e w2 ⟨rfl, hb2⟩
          have hbw2 := hbl.trans (hb2.mono hbl.size)
          have ho2 := own_below ho hb2
          clear HJ
          go_wp2_with (fail)
          refine (line_d HX.out.1 HX.out.2.2 HX.out.2.1).mono ?_
          rintro e w3 ⟨rfl, n3, rfl⟩
          have ho3 := own_drewN ho2 n3
          have hbw3 := below_drewN hbw2 n3
          generalize w2.drewN n3 = w3 at *
          clear ho2 hbw2
          go_wp2_with (fail)
          refine (split_at' (w0 := w) (by omega) HW.out.1 hbw3).mono ?_
          rintro e w4 ⟨v, rfl, ho4, hb4, hb4'⟩
          rw [HW.out.2] at ho4
          have r1 := rs_own ho4
          have r2 := (rs_own ho3).below hb4'
          clear ho3 ho4 hb4'
          go_wp2_with (fail)
          refine (same_true r1 r2 hnl).mono ?_
          rintro e w5 ⟨rfl, n5, rfl⟩
          go_wp2_with (fail)
          go_ret
          exact ⟨rfl, below_drewN hb4 n5⟩
end Go.Proofs.YtfiicnajiefiaaaDoor
