/- ArenaPasses' walk. -/
import Derived.Test.YtmkfnnhhioeioaaArs
import Derived.Test.YtmkfnnhhioeioaaAry
import Derived.Laws.BytesArg
namespace Go.Proofs.Ytmkfnnhhioeioaa
open Go.RowKit Go.PlainAid
set_option linter.unusedVariables false
set_option linter.unusedSimpArgs false

/-- string(b) -/
theorem conv_rb {w : World} {v : Value} {l : List Int} (h : RB w v l) : (convert 36 9 v).run Try.prog w = .ok (.string (strOfNums l)) w := by
  obtain ⟨a, cap, rfl, hc⟩ := h
  by_cases hl : l = []
  · subst hl
    cases a with
    | none => exact run_convert_bytes_nil w 36 5 Try.underlying36 Try.underlying5 0 cap 9 Try.underlying9
    | some a =>
      rw [run_convert_bytes_string w 36 9 5 _ _ _ Try.underlying36 Try.underlying5 Try.underlying9]
      exact run_bytesToString (P := Try.prog) w a 0 cap [] (by simp [loadCells, loadCellsFrom])
  · obtain ⟨b, o, rfl, hcc⟩ := hc hl
    exact run_convert_bytes_arg w 36 5 Try.underlying36 Try.underlying5 b o _ cap l rfl (fun i hi => by rw [hcc i hi]; simp) 9 Try.underlying9

theorem write_at {w : World} {g k np S : Nat} {bv : Value} {ow bs : List Int} (h : Ar w g k np S bv ow bs) (p a : Int) (v : Value) (l : List Int) (hbl : bs.length ≤ 67108864) (hl : l.length ≤ maxLen)
    (hv : ∀ w', Tch (fun i => i = g ∨ bv.ownBlock = some i) w w' → RB w' v l) {e : Int} {bs' : List Int} (he : AP.byE ow S p a l.length = e) (hb : AP.wrB ow bs S p a l = bs') :
    Calls Try.prog 14 #[.pointer (some ⟨g, 0, none⟩), .int .i64 p, .int .i64 a, v] w fun E w' =>
      E = .returned (.int .i64 e) ∧ ∃ bv', Ar w' g k np S bv' ow bs' ∧ Tch (fun i => i = g ∨ bv.ownBlock = some i) w w' ∧ Fresh bv bv' w := by
  subst he hb; exact write_any h p a v l hbl hl hv
theorem read_at {w : World} {g k np S : Nat} {bv : Value} {ow bs : List Int} (h : Ar w g k np S bv ow bs) (p a n : Int) (hbl : bs.length ≤ 67108864) (hn2 : -9223372036854775808 ≤ n) (hn3 : n ≤ 9223372036854775807) {e : Int} {bs' l : List Int} (he : AP.byE ow S p a n = e) (hb : AP.rdB ow bs S p a n = bs') (hl : AP.rdL ow bs S p a n = l) :
    Calls Try.prog 16 #[.pointer (some ⟨g, 0, none⟩), .int .i64 p, .int .i64 a, .int .i64 n] w fun E w' =>
      ∃ v bv' B, E = .returned (.tuple #[v, .int .i64 e]) ∧ w.heap.size ≤ B ∧ w'.ownsRow B 5 1 v l.length (l.map (.int .u8)) ∧
        Ar w' g k np S bv' ow bs' ∧ Tch (fun i => i = g ∨ bv.ownBlock = some i) w w' ∧ Fresh bv bv' w ∧ (∀ j, bv'.ownBlock = some j → j < B) := by
  subst he hb hl; exact read_any h p a n hbl hn2 hn3
theorem pass_at {w : World} {g k np : Nat} {size : Int} {bv : Value} {ow bs : List Int} (h : Ar w g k np size bv ow bs) (p o : Int) {e : Int} {ow' : List Int} (hx : AP.paE ow p o = e ∧ AP.paO ow p o = ow') :
    Calls Try.prog 15 #[.pointer (some ⟨g, 0, none⟩), .int .i64 p, .int .i64 o] w fun E w' => E = .returned (.int .i64 e) ∧ Ar w' g k np size bv ow' bs ∧ w.grownBy w' (some k) := by
  obtain ⟨rfl, rfl⟩ := hx
  exact pass_any h p o

namespace AP
theorem one_byE {S n : Nat} (h : n ≤ S) (c : Int) (hc : 0 ≤ c) : byE [c + 1] S 0 0 n = 0 := by
  have ho : owner [c + 1] 0 = c := by unfold owner; simp
  unfold byE; rw [ho, if_neg (by omega), if_neg (by omega)]
theorem one_byB (S : Nat) : byB [] S 0 = List.replicate S 0 := by unfold byB ext; simp
theorem one_wr {S : Nat} {l : List Int} (h : l.length ≤ S) (c : Int) (hc : 0 ≤ c) : wrB [c + 1] [] S 0 0 l = l ++ List.replicate (S - l.length) 0 := by
  unfold wrB
  rw [if_pos (one_byE h c hc), one_byB]
  unfold splice
  simp
theorem one_rd {S : Nat} {l : List Int} (h : l.length ≤ S) (c : Int) (hc : 0 ≤ c) : rdB [c + 1] (l ++ List.replicate (S - l.length) 0) S 0 0 l.length = l ++ List.replicate (S - l.length) 0 ∧ rdL [c + 1] (l ++ List.replicate (S - l.length) 0) S 0 0 l.length = l := by
  have e : byB (l ++ List.replicate (S - l.length) 0) S 0 = l ++ List.replicate (S - l.length) 0 := by
    unfold byB; exact ext_none (by simp; omega)
  unfold rdB rdL
  rw [if_pos (one_byE h c hc), if_pos (one_byE h c hc), e]
  exact ⟨rfl, by simp⟩
theorem one_facts (lb : List Int) (to : Int) (h : lb.length ≤ 512) : ∃ bs2, wrB [4] [] 512 0 0 lb = bs2 ∧ bs2.length ≤ 512 ∧ byE [4] 512 0 0 lb.length = 0 ∧
    (0 ≤ to ∧ to < 63 → paE [4] 0 to = 0 ∧ paO [4] 0 to = [to + 1] ∧ byE [to + 1] 512 0 0 lb.length = 0 ∧ rdB [to + 1] bs2 512 0 0 lb.length = bs2 ∧ rdL [to + 1] bs2 512 0 0 lb.length = lb ∧ owner [to + 1] 0 = to ∧ paE [to + 1] 1 0 = 7) ∧
    (¬ (0 ≤ to ∧ to < 63) → paE [4] 0 to = 1 ∧ paO [4] 0 to = [4] ∧ byE [4] 512 0 0 lb.length = 0 ∧ rdB [4] bs2 512 0 0 lb.length = bs2 ∧ rdL [4] bs2 512 0 0 lb.length = lb ∧ owner [4] 0 = 3 ∧ paE [4] 1 0 = 7) := by
  have o4 : owner [4] 0 = 3 := by decide
  refine ⟨_, one_wr h 3 (by decide), ?_, one_byE h 3 (by decide), fun ht => ?_, fun ht => ?_⟩
  · rw [List.length_append, List.length_replicate]; omega
  · have hok : okO to = true := by unfold okO; exact decide_eq_true ht
    refine ⟨?_, ?_, one_byE h to ht.1, (one_rd h to ht.1).1, (one_rd h to ht.1).2, ?_, ?_⟩
    · unfold paE; rw [o4, if_neg (by decide), if_pos hok]
    · unfold paO; rw [o4, if_neg (by decide), if_pos hok]; rfl
    · unfold owner; simp
    · unfold paE owner; simp
  · have hok : ¬ okO to = true := by unfold okO; simpa using ht
    refine ⟨?_, ?_, one_byE h 3 (by decide), (one_rd h 3 (by decide)).1, (one_rd h 3 (by decide)).2, o4, by decide⟩
    · unfold paE; rw [o4, if_neg (by decide), if_neg hok]
    · unfold paO; rw [o4, if_neg (by decide), if_neg hok]
end AP

theorem rb_takeN {w : World} {a : Option Addr} {n cap : Nat} {l : List Int} (h : RB w (.slice a n cap) l) (c : Nat) (hc : c ≤ n) : RB w (.slice a c cap) (l.take c) := by
  obtain ⟨a', cap', e, hcc⟩ := h
  simp only [Value.slice.injEq] at e
  obtain ⟨rfl, hl, rfl⟩ := e
  have hlen : (l.take c).length = c := by simp; omega
  refine ⟨a, cap, by rw [hlen], fun hne => ?_⟩
  obtain ⟨b, o, rfl, hx⟩ := hcc (by rintro rfl; simp at hne)
  refine ⟨b, o, rfl, fun i hi => ?_⟩
  rw [hx i (by omega), List.getElem?_take, if_pos (by omega)]

set_option maxRecDepth 100000 in
set_option maxHeartbeats 8000000 in
theorem passes_walk (l : List Int) (a : Option Addr) (n cap : Nat) (to : Int) (w : World) (hrb : RB w (.slice a n cap) l) (hln : l.length = n) (hcap : n ≤ cap) (hcm : cap ≤ maxLen) :
    Calls Try.prog 5 #[.slice a n cap, .int .i64 to] w (BoolPost w) := by
  unfold maxLen at hcm
  obtain ⟨m, hm⟩ : ∃ m, m = min n 512 := ⟨_, rfl⟩
  obtain ⟨lb, hlb⟩ : ∃ lb, lb = l.take m := ⟨_, rfl⟩
  have Hrb : Hid (RB w (.slice a m cap) lb) := Lib.hid (by rw [hlb]; exact rb_takeN hrb m (by omega))
  have hlm : lb.length = m := by rw [hlb, List.length_take]; omega
  have hm512 : m ≤ 512 := by omega
  have hmi : (m : Int) ≤ 512 := by omega
  obtain ⟨bs2, f1, f2, f3, f4, f5⟩ := AP.one_facts lb to (by omega)
  rw [hlm] at f3 f4 f5
  have Hlm := Lib.hid hlm
  have hmn : m ≤ n := by omega
  clear hrb hln hlb hlm
  by_cases hbig : 512 < n
  · obtain rfl : m = 512 := by omega
    by_cases hto : 0 ≤ to ∧ to < 63
    · as_aux_lemma =>
      have H4 := Lib.hid (f4 hto)
      obtain ⟨t1, t2⟩ := hto
      have F1 := Lib.hid f1
      have F2 := Lib.hid f2
      have F3 := Lib.hid f3
      clear f1 f2 f3 f4 f5 hm
      go_enter Try.func5, Try.ntmps5
      go_wp2_with (fail)
      refine (shown_any _).mono ?_
      rintro e w1 ⟨rfl, hb1⟩
      go_wp2_with (fail)
      refine (new_yes 1 512 _ (by decide)).mono ?_
      rintro e w2 (⟨h, _⟩ | ⟨_, g, k, rfl, hA, hg, hk, hb2⟩)
      · exact absurd h (by decide)
      have hA2 : Ar w2 g k 1 ((512 : Nat) : Int) (.slice none 0 0) [0] [] := hA
      have hgw : w.heap.size ≤ g := Nat.le_trans hb1.size hg
      have hkw : w.heap.size ≤ k := Nat.le_trans hb1.size hk
      have hbw2 := hb1.trans (hb2.mono hb1.size)
      clear hA hg hk hb1 hb2
      go_wp2_with (fail)
      refine (grant_at hA2 3 (p := 0) (e := 0) (ow' := [4]) (by decide)).mono ?_
      rintro e w3 ⟨rfl, hA3, hg3⟩
      have hbw3 := below_row hbw2 hg3 (Nat.le_refl _) hkw
      clear hA2 hg3 hbw2
      go_wp2_with (fail)
      refine (write_at (S := 512) hA3 0 0 (.slice a 512 cap) lb (by simp) (by rw [Hlm.out]; unfold maxLen; omega) (fun w' ht => Hrb.out.below (ht.below hbw3 hbw3.size (fun i hi => by rcases hi with rfl | hi; exact hgw; simp [Value.ownBlock] at hi))) (e := 0) (by rw [Hlm.out]; exact F3.out) F1.out).mono ?_
      rintro e w4 ⟨rfl, bv4, hA4, ht4, hfr4⟩
      have hbw4 := ht4.below hbw3 hbw3.size (fun i hi => by rcases hi with rfl | hi; exact hgw; simp [Value.ownBlock] at hi)
      have hbk4 : ∀ j, bv4.ownBlock = some j → w.heap.size ≤ j := fun j hj => by
        rcases hfr4 j hj with h | h
        · simp [Value.ownBlock] at h
        · exact Nat.le_trans hbw3.size h
      clear hA3 ht4 hfr4 hbw3
      go_wp2_with (fail)
      refine (pass_at hA4 0 to ⟨H4.out.1, H4.out.2.1⟩).mono ?_
      rintro e w5 ⟨rfl, hA5, hg5⟩
      have hbw5 := below_row hbw4 hg5 (Nat.le_refl _) hkw
      clear hA4 hg5 hbw4
      go_wp2_with (fail)
      refine (read_at (S := 512) hA5 0 0 (512 : Int) (by have := F2.out; omega) (by omega) (by omega) H4.out.2.2.1 H4.out.2.2.2.1 H4.out.2.2.2.2.1).mono ?_
      rintro e w6 ⟨v, bv6, B, rfl, hB, hv, hA6, ht6, _, _⟩
      have hbw6 := ht6.below hbw5 hbw5.size (fun i hi => by rcases hi with rfl | hi; exact hgw; exact hbk4 i hi)
      have hcv1 := conv_rb (rb_own hv)
      have hcv2 := conv_rb (Hrb.out.below hbw6)
      have Ho6 := Lib.hid (owner_any hA6 0)
      have Hp6 := Lib.hid (pass_at hA6 1 0 ⟨H4.out.2.2.2.2.2.2, rfl⟩)
      clear hA5 ht6 hbw5 hA6 hv
      go_wp2_with (first
        | (go_at_call 12; refine Ho6.out.mono ?_; rintro e w' ⟨rfl, rfl⟩; rw [H4.out.2.2.2.2.2.1])
        | (go_at_call 15; refine Hp6.out.mono ?_; rintro e w7 ⟨rfl, hA7, hg7⟩; have hbw7 := below_row hbw6 hg7 (Nat.le_refl _) hkw))
      go_ret
      exact ⟨rfl, hbw7⟩
    · as_aux_lemma =>
      have H4 := Lib.hid (f5 hto)
      by_cases t1 : to < 0
      · clear hto
        have F1 := Lib.hid f1
        have F2 := Lib.hid f2
        have F3 := Lib.hid f3
        clear f1 f2 f3 f4 f5 hm
        go_enter Try.func5, Try.ntmps5
        go_wp2_with (fail)
        refine (shown_any _).mono ?_
        rintro e w1 ⟨rfl, hb1⟩
        go_wp2_with (fail)
        refine (new_yes 1 512 _ (by decide)).mono ?_
        rintro e w2 (⟨h, _⟩ | ⟨_, g, k, rfl, hA, hg, hk, hb2⟩)
        · exact absurd h (by decide)
        have hA2 : Ar w2 g k 1 ((512 : Nat) : Int) (.slice none 0 0) [0] [] := hA
        have hgw : w.heap.size ≤ g := Nat.le_trans hb1.size hg
        have hkw : w.heap.size ≤ k := Nat.le_trans hb1.size hk
        have hbw2 := hb1.trans (hb2.mono hb1.size)
        clear hA hg hk hb1 hb2
        go_wp2_with (fail)
        refine (grant_at hA2 3 (p := 0) (e := 0) (ow' := [4]) (by decide)).mono ?_
        rintro e w3 ⟨rfl, hA3, hg3⟩
        have hbw3 := below_row hbw2 hg3 (Nat.le_refl _) hkw
        clear hA2 hg3 hbw2
        go_wp2_with (fail)
        refine (write_at (S := 512) hA3 0 0 (.slice a 512 cap) lb (by simp) (by rw [Hlm.out]; unfold maxLen; omega) (fun w' ht => Hrb.out.below (ht.below hbw3 hbw3.size (fun i hi => by rcases hi with rfl | hi; exact hgw; simp [Value.ownBlock] at hi))) (e := 0) (by rw [Hlm.out]; exact F3.out) F1.out).mono ?_
        rintro e w4 ⟨rfl, bv4, hA4, ht4, hfr4⟩
        have hbw4 := ht4.below hbw3 hbw3.size (fun i hi => by rcases hi with rfl | hi; exact hgw; simp [Value.ownBlock] at hi)
        have hbk4 : ∀ j, bv4.ownBlock = some j → w.heap.size ≤ j := fun j hj => by
          rcases hfr4 j hj with h | h
          · simp [Value.ownBlock] at h
          · exact Nat.le_trans hbw3.size h
        clear hA3 ht4 hfr4 hbw3
        go_wp2_with (fail)
        refine (pass_at hA4 0 to ⟨H4.out.1, H4.out.2.1⟩).mono ?_
        rintro e w5 ⟨rfl, hA5, hg5⟩
        have hbw5 := below_row hbw4 hg5 (Nat.le_refl _) hkw
        clear hA4 hg5 hbw4
        go_wp2_with (fail)
        refine (read_at (S := 512) hA5 0 0 (512 : Int) (by have := F2.out; omega) (by omega) (by omega) H4.out.2.2.1 H4.out.2.2.2.1 H4.out.2.2.2.2.1).mono ?_
        rintro e w6 ⟨v, bv6, B, rfl, hB, hv, hA6, ht6, _, _⟩
        have hbw6 := ht6.below hbw5 hbw5.size (fun i hi => by rcases hi with rfl | hi; exact hgw; exact hbk4 i hi)
        have hcv1 := conv_rb (rb_own hv)
        have hcv2 := conv_rb (Hrb.out.below hbw6)
        have Ho6 := Lib.hid (owner_any hA6 0)
        have Hp6 := Lib.hid (pass_at hA6 1 0 ⟨H4.out.2.2.2.2.2.2, rfl⟩)
        clear hA5 ht6 hbw5 hA6 hv
        go_wp2_with (first
          | (go_at_call 12; refine Ho6.out.mono ?_; rintro e w' ⟨rfl, rfl⟩; rw [H4.out.2.2.2.2.2.1])
          | (go_at_call 15; refine Hp6.out.mono ?_; rintro e w7 ⟨rfl, hA7, hg7⟩; have hbw7 := below_row hbw6 hg7 (Nat.le_refl _) hkw))
        go_ret
        exact ⟨rfl, hbw7⟩
      · have t2 : 63 ≤ to := by omega
        have hd63 : decide (to < 63) = false := decide_eq_false (by omega)
        clear hto
        have F1 := Lib.hid f1
        have F2 := Lib.hid f2
        have F3 := Lib.hid f3
        clear f1 f2 f3 f4 f5 hm
        go_enter Try.func5, Try.ntmps5
        go_wp2_with (fail)
        refine (shown_any _).mono ?_
        rintro e w1 ⟨rfl, hb1⟩
        go_wp2_with (fail)
        refine (new_yes 1 512 _ (by decide)).mono ?_
        rintro e w2 (⟨h, _⟩ | ⟨_, g, k, rfl, hA, hg, hk, hb2⟩)
        · exact absurd h (by decide)
        have hA2 : Ar w2 g k 1 ((512 : Nat) : Int) (.slice none 0 0) [0] [] := hA
        have hgw : w.heap.size ≤ g := Nat.le_trans hb1.size hg
        have hkw : w.heap.size ≤ k := Nat.le_trans hb1.size hk
        have hbw2 := hb1.trans (hb2.mono hb1.size)
        clear hA hg hk hb1 hb2
        go_wp2_with (fail)
        refine (grant_at hA2 3 (p := 0) (e := 0) (ow' := [4]) (by decide)).mono ?_
        rintro e w3 ⟨rfl, hA3, hg3⟩
        have hbw3 := below_row hbw2 hg3 (Nat.le_refl _) hkw
        clear hA2 hg3 hbw2
        go_wp2_with (fail)
        refine (write_at (S := 512) hA3 0 0 (.slice a 512 cap) lb (by simp) (by rw [Hlm.out]; unfold maxLen; omega) (fun w' ht => Hrb.out.below (ht.below hbw3 hbw3.size (fun i hi => by rcases hi with rfl | hi; exact hgw; simp [Value.ownBlock] at hi))) (e := 0) (by rw [Hlm.out]; exact F3.out) F1.out).mono ?_
        rintro e w4 ⟨rfl, bv4, hA4, ht4, hfr4⟩
        have hbw4 := ht4.below hbw3 hbw3.size (fun i hi => by rcases hi with rfl | hi; exact hgw; simp [Value.ownBlock] at hi)
        have hbk4 : ∀ j, bv4.ownBlock = some j → w.heap.size ≤ j := fun j hj => by
          rcases hfr4 j hj with h | h
          · simp [Value.ownBlock] at h
          · exact Nat.le_trans hbw3.size h
        clear hA3 ht4 hfr4 hbw3
        go_wp2_with (fail)
        refine (pass_at hA4 0 to ⟨H4.out.1, H4.out.2.1⟩).mono ?_
        rintro e w5 ⟨rfl, hA5, hg5⟩
        have hbw5 := below_row hbw4 hg5 (Nat.le_refl _) hkw
        clear hA4 hg5 hbw4
        go_wp2_with (fail)
        refine (read_at (S := 512) hA5 0 0 (512 : Int) (by have := F2.out; omega) (by omega) (by omega) H4.out.2.2.1 H4.out.2.2.2.1 H4.out.2.2.2.2.1).mono ?_
        rintro e w6 ⟨v, bv6, B, rfl, hB, hv, hA6, ht6, _, _⟩
        have hbw6 := ht6.below hbw5 hbw5.size (fun i hi => by rcases hi with rfl | hi; exact hgw; exact hbk4 i hi)
        have hcv1 := conv_rb (rb_own hv)
        have hcv2 := conv_rb (Hrb.out.below hbw6)
        have Ho6 := Lib.hid (owner_any hA6 0)
        have Hp6 := Lib.hid (pass_at hA6 1 0 ⟨H4.out.2.2.2.2.2.2, rfl⟩)
        clear hA5 ht6 hbw5 hA6 hv
        go_wp2_with (first
          | (go_at_call 12; refine Ho6.out.mono ?_; rintro e w' ⟨rfl, rfl⟩; rw [H4.out.2.2.2.2.2.1])
          | (go_at_call 15; refine Hp6.out.mono ?_; rintro e w7 ⟨rfl, hA7, hg7⟩; have hbw7 := below_row hbw6 hg7 (Nat.le_refl _) hkw))
        go_ret
        exact ⟨rfl, hbw7⟩
  · obtain rfl : n = m := by omega
    by_cases hto : 0 ≤ to ∧ to < 63
    · as_aux_lemma =>
      have H4 := Lib.hid (f4 hto)
      obtain ⟨t1, t2⟩ := hto
      have F1 := Lib.hid f1
      have F2 := Lib.hid f2
      have F3 := Lib.hid f3
      clear f1 f2 f3 f4 f5 hm
      go_enter Try.func5, Try.ntmps5
      go_wp2_with (fail)
      refine (shown_any _).mono ?_
      rintro e w1 ⟨rfl, hb1⟩
      go_wp2_with (fail)
      refine (new_yes 1 512 _ (by decide)).mono ?_
      rintro e w2 (⟨h, _⟩ | ⟨_, g, k, rfl, hA, hg, hk, hb2⟩)
      · exact absurd h (by decide)
      have hA2 : Ar w2 g k 1 ((512 : Nat) : Int) (.slice none 0 0) [0] [] := hA
      have hgw : w.heap.size ≤ g := Nat.le_trans hb1.size hg
      have hkw : w.heap.size ≤ k := Nat.le_trans hb1.size hk
      have hbw2 := hb1.trans (hb2.mono hb1.size)
      clear hA hg hk hb1 hb2
      go_wp2_with (fail)
      refine (grant_at hA2 3 (p := 0) (e := 0) (ow' := [4]) (by decide)).mono ?_
      rintro e w3 ⟨rfl, hA3, hg3⟩
      have hbw3 := below_row hbw2 hg3 (Nat.le_refl _) hkw
      clear hA2 hg3 hbw2
      go_wp2_with (fail)
      refine (write_at (S := 512) hA3 0 0 (.slice a n cap) lb (by simp) (by rw [Hlm.out]; unfold maxLen; omega) (fun w' ht => Hrb.out.below (ht.below hbw3 hbw3.size (fun i hi => by rcases hi with rfl | hi; exact hgw; simp [Value.ownBlock] at hi))) (e := 0) (by rw [Hlm.out]; exact F3.out) F1.out).mono ?_
      rintro e w4 ⟨rfl, bv4, hA4, ht4, hfr4⟩
      have hbw4 := ht4.below hbw3 hbw3.size (fun i hi => by rcases hi with rfl | hi; exact hgw; simp [Value.ownBlock] at hi)
      have hbk4 : ∀ j, bv4.ownBlock = some j → w.heap.size ≤ j := fun j hj => by
        rcases hfr4 j hj with h | h
        · simp [Value.ownBlock] at h
        · exact Nat.le_trans hbw3.size h
      clear hA3 ht4 hfr4 hbw3
      go_wp2_with (fail)
      refine (pass_at hA4 0 to ⟨H4.out.1, H4.out.2.1⟩).mono ?_
      rintro e w5 ⟨rfl, hA5, hg5⟩
      have hbw5 := below_row hbw4 hg5 (Nat.le_refl _) hkw
      clear hA4 hg5 hbw4
      go_wp2_with (fail)
      refine (read_at (S := 512) hA5 0 0 (n : Int) (by have := F2.out; omega) (by omega) (by omega) H4.out.2.2.1 H4.out.2.2.2.1 H4.out.2.2.2.2.1).mono ?_
      rintro e w6 ⟨v, bv6, B, rfl, hB, hv, hA6, ht6, _, _⟩
      have hbw6 := ht6.below hbw5 hbw5.size (fun i hi => by rcases hi with rfl | hi; exact hgw; exact hbk4 i hi)
      have hcv1 := conv_rb (rb_own hv)
      have hcv2 := conv_rb (Hrb.out.below hbw6)
      have Ho6 := Lib.hid (owner_any hA6 0)
      have Hp6 := Lib.hid (pass_at hA6 1 0 ⟨H4.out.2.2.2.2.2.2, rfl⟩)
      clear hA5 ht6 hbw5 hA6 hv
      go_wp2_with (first
        | (go_at_call 12; refine Ho6.out.mono ?_; rintro e w' ⟨rfl, rfl⟩; rw [H4.out.2.2.2.2.2.1])
        | (go_at_call 15; refine Hp6.out.mono ?_; rintro e w7 ⟨rfl, hA7, hg7⟩; have hbw7 := below_row hbw6 hg7 (Nat.le_refl _) hkw))
      go_ret
      exact ⟨rfl, hbw7⟩
    · as_aux_lemma =>
      have H4 := Lib.hid (f5 hto)
      by_cases t1 : to < 0
      · clear hto
        have F1 := Lib.hid f1
        have F2 := Lib.hid f2
        have F3 := Lib.hid f3
        clear f1 f2 f3 f4 f5 hm
        go_enter Try.func5, Try.ntmps5
        go_wp2_with (fail)
        refine (shown_any _).mono ?_
        rintro e w1 ⟨rfl, hb1⟩
        go_wp2_with (fail)
        refine (new_yes 1 512 _ (by decide)).mono ?_
        rintro e w2 (⟨h, _⟩ | ⟨_, g, k, rfl, hA, hg, hk, hb2⟩)
        · exact absurd h (by decide)
        have hA2 : Ar w2 g k 1 ((512 : Nat) : Int) (.slice none 0 0) [0] [] := hA
        have hgw : w.heap.size ≤ g := Nat.le_trans hb1.size hg
        have hkw : w.heap.size ≤ k := Nat.le_trans hb1.size hk
        have hbw2 := hb1.trans (hb2.mono hb1.size)
        clear hA hg hk hb1 hb2
        go_wp2_with (fail)
        refine (grant_at hA2 3 (p := 0) (e := 0) (ow' := [4]) (by decide)).mono ?_
        rintro e w3 ⟨rfl, hA3, hg3⟩
        have hbw3 := below_row hbw2 hg3 (Nat.le_refl _) hkw
        clear hA2 hg3 hbw2
        go_wp2_with (fail)
        refine (write_at (S := 512) hA3 0 0 (.slice a n cap) lb (by simp) (by rw [Hlm.out]; unfold maxLen; omega) (fun w' ht => Hrb.out.below (ht.below hbw3 hbw3.size (fun i hi => by rcases hi with rfl | hi; exact hgw; simp [Value.ownBlock] at hi))) (e := 0) (by rw [Hlm.out]; exact F3.out) F1.out).mono ?_
        rintro e w4 ⟨rfl, bv4, hA4, ht4, hfr4⟩
        have hbw4 := ht4.below hbw3 hbw3.size (fun i hi => by rcases hi with rfl | hi; exact hgw; simp [Value.ownBlock] at hi)
        have hbk4 : ∀ j, bv4.ownBlock = some j → w.heap.size ≤ j := fun j hj => by
          rcases hfr4 j hj with h | h
          · simp [Value.ownBlock] at h
          · exact Nat.le_trans hbw3.size h
        clear hA3 ht4 hfr4 hbw3
        go_wp2_with (fail)
        refine (pass_at hA4 0 to ⟨H4.out.1, H4.out.2.1⟩).mono ?_
        rintro e w5 ⟨rfl, hA5, hg5⟩
        have hbw5 := below_row hbw4 hg5 (Nat.le_refl _) hkw
        clear hA4 hg5 hbw4
        go_wp2_with (fail)
        refine (read_at (S := 512) hA5 0 0 (n : Int) (by have := F2.out; omega) (by omega) (by omega) H4.out.2.2.1 H4.out.2.2.2.1 H4.out.2.2.2.2.1).mono ?_
        rintro e w6 ⟨v, bv6, B, rfl, hB, hv, hA6, ht6, _, _⟩
        have hbw6 := ht6.below hbw5 hbw5.size (fun i hi => by rcases hi with rfl | hi; exact hgw; exact hbk4 i hi)
        have hcv1 := conv_rb (rb_own hv)
        have hcv2 := conv_rb (Hrb.out.below hbw6)
        have Ho6 := Lib.hid (owner_any hA6 0)
        have Hp6 := Lib.hid (pass_at hA6 1 0 ⟨H4.out.2.2.2.2.2.2, rfl⟩)
        clear hA5 ht6 hbw5 hA6 hv
        go_wp2_with (first
          | (go_at_call 12; refine Ho6.out.mono ?_; rintro e w' ⟨rfl, rfl⟩; rw [H4.out.2.2.2.2.2.1])
          | (go_at_call 15; refine Hp6.out.mono ?_; rintro e w7 ⟨rfl, hA7, hg7⟩; have hbw7 := below_row hbw6 hg7 (Nat.le_refl _) hkw))
        go_ret
        exact ⟨rfl, hbw7⟩
      · have t2 : 63 ≤ to := by omega
        have hd63 : decide (to < 63) = false := decide_eq_false (by omega)
        clear hto
        have F1 := Lib.hid f1
        have F2 := Lib.hid f2
        have F3 := Lib.hid f3
        clear f1 f2 f3 f4 f5 hm
        go_enter Try.func5, Try.ntmps5
        go_wp2_with (fail)
        refine (shown_any _).mono ?_
        rintro e w1 ⟨rfl, hb1⟩
        go_wp2_with (fail)
        refine (new_yes 1 512 _ (by decide)).mono ?_
        rintro e w2 (⟨h, _⟩ | ⟨_, g, k, rfl, hA, hg, hk, hb2⟩)
        · exact absurd h (by decide)
        have hA2 : Ar w2 g k 1 ((512 : Nat) : Int) (.slice none 0 0) [0] [] := hA
        have hgw : w.heap.size ≤ g := Nat.le_trans hb1.size hg
        have hkw : w.heap.size ≤ k := Nat.le_trans hb1.size hk
        have hbw2 := hb1.trans (hb2.mono hb1.size)
        clear hA hg hk hb1 hb2
        go_wp2_with (fail)
        refine (grant_at hA2 3 (p := 0) (e := 0) (ow' := [4]) (by decide)).mono ?_
        rintro e w3 ⟨rfl, hA3, hg3⟩
        have hbw3 := below_row hbw2 hg3 (Nat.le_refl _) hkw
        clear hA2 hg3 hbw2
        go_wp2_with (fail)
        refine (write_at (S := 512) hA3 0 0 (.slice a n cap) lb (by simp) (by rw [Hlm.out]; unfold maxLen; omega) (fun w' ht => Hrb.out.below (ht.below hbw3 hbw3.size (fun i hi => by rcases hi with rfl | hi; exact hgw; simp [Value.ownBlock] at hi))) (e := 0) (by rw [Hlm.out]; exact F3.out) F1.out).mono ?_
        rintro e w4 ⟨rfl, bv4, hA4, ht4, hfr4⟩
        have hbw4 := ht4.below hbw3 hbw3.size (fun i hi => by rcases hi with rfl | hi; exact hgw; simp [Value.ownBlock] at hi)
        have hbk4 : ∀ j, bv4.ownBlock = some j → w.heap.size ≤ j := fun j hj => by
          rcases hfr4 j hj with h | h
          · simp [Value.ownBlock] at h
          · exact Nat.le_trans hbw3.size h
        clear hA3 ht4 hfr4 hbw3
        go_wp2_with (fail)
        refine (pass_at hA4 0 to ⟨H4.out.1, H4.out.2.1⟩).mono ?_
        rintro e w5 ⟨rfl, hA5, hg5⟩
        have hbw5 := below_row hbw4 hg5 (Nat.le_refl _) hkw
        clear hA4 hg5 hbw4
        go_wp2_with (fail)
        refine (read_at (S := 512) hA5 0 0 (n : Int) (by have := F2.out; omega) (by omega) (by omega) H4.out.2.2.1 H4.out.2.2.2.1 H4.out.2.2.2.2.1).mono ?_
        rintro e w6 ⟨v, bv6, B, rfl, hB, hv, hA6, ht6, _, _⟩
        have hbw6 := ht6.below hbw5 hbw5.size (fun i hi => by rcases hi with rfl | hi; exact hgw; exact hbk4 i hi)
        have hcv1 := conv_rb (rb_own hv)
        have hcv2 := conv_rb (Hrb.out.below hbw6)
        have Ho6 := Lib.hid (owner_any hA6 0)
        have Hp6 := Lib.hid (pass_at hA6 1 0 ⟨H4.out.2.2.2.2.2.2, rfl⟩)
        clear hA5 ht6 hbw5 hA6 hv
        go_wp2_with (first
          | (go_at_call 12; refine Ho6.out.mono ?_; rintro e w' ⟨rfl, rfl⟩; rw [H4.out.2.2.2.2.2.1])
          | (go_at_call 15; refine Hp6.out.mono ?_; rintro e w7 ⟨rfl, hA7, hg7⟩; have hbw7 := below_row hbw6 hg7 (Nat.le_refl _) hkw))
        go_ret
        exact ⟨rfl, hbw7⟩
end Go.Proofs.Ytmkfnnhhioeioaa
