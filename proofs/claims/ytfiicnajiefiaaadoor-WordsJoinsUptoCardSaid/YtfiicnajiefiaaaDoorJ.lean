/- words.Join and ambryref02.Join: contracts; WordsJoins' walk. -/
import Derived.Test.YtfiicnajiefiaaaDoorI
import Derived.Lib.Join
namespace Go.Proofs.YtfiicnajiefiaaaDoor
open Go.RowKit Go.PlainAid
set_option linter.unusedVariables false
set_option linter.unusedSimpArgs false

namespace P
theorem joinTail_app (a b : List L) : Lib.joinTail [32] (a ++ b) = Lib.joinTail [32] a ++ Lib.joinTail [32] b := by simp [Lib.joinTail]
theorem joinTail_one (x : L) : Lib.joinTail [32] [x] = 32 :: x := by simp [Lib.joinTail]
theorem join_snoc (xs : List L) (x : L) : Lib.join (xs ++ [x]) [32] = if xs = [] then x else Lib.join xs [32] ++ 32 :: x := by
  cases xs with
  | nil => rw [if_pos rfl, List.nil_append, Lib.join_one]
  | cons y ys => rw [if_neg (by simp), List.cons_append, Lib.join_cons, Lib.join_cons, joinTail_app, joinTail_one, List.append_assoc]
theorem joinTail_len (l : List ByteArray) : (Lib.joinTail [32] (l.map sl)).length = sumS l := by
  induction l with
  | nil => rfl
  | cons s l ih =>
    rw [List.map_cons, show sl s :: l.map sl = [sl s] ++ l.map sl from rfl, joinTail_app, joinTail_one, List.length_append, ih]
    simp only [List.length_cons, sl_len, sumS]
theorem join_len (l : List ByteArray) : (Lib.join (l.map sl) [32]).length ≤ sumS l := by
  cases l with
  | nil => simp [Lib.join_nil, sumS]
  | cons s l =>
    rw [List.map_cons, Lib.join_cons, List.length_append, joinTail_len, sl_len]
    simp only [sumS]; omega
end P
theorem sumS_take : ∀ (l : List ByteArray) (k : Nat), sumS (l.take k) ≤ sumS l
  | [], k => by simp [sumS]
  | y :: l, 0 => by simp [sumS]
  | y :: l, k + 1 => by have := sumS_take l k; simp only [List.take_succ_cons, sumS]; omega
def joinB (l : List ByteArray) : ByteArray := P.mk (Lib.join (l.map P.sl) [32])
theorem joinB_nil : joinB [] = ⟨#[]⟩ := rfl
theorem joinB_snoc (l : List ByteArray) (x : ByteArray) : joinB (l ++ [x]) = if l = [] then x else joinB l ++ ⟨#[32]⟩ ++ x := by
  unfold joinB
  rw [List.map_append, List.map_cons, List.map_nil, P.join_snoc]
  by_cases h : l = []
  · rw [if_pos h, if_pos (by rw [h]; rfl), P.mk_sl]
  · rw [if_neg h, if_neg (by simpa using h)]
    rw [← P.mk_sl (P.mk (Lib.join (l.map P.sl) [32]) ++ ⟨#[32]⟩ ++ x)]
    congr 1
    rw [P.sl_app, P.sl_app, P.sl_mk]
    simp [P.sl]
theorem joinB_size (l : List ByteArray) : (joinB l).size ≤ sumS l := by unfold joinB; rw [P.mk_size]; exact P.join_len l

theorem join24 {w : World} {a : Option Addr} {n cap : Nat} {l : List ByteArray} (h : RS w (.slice a n cap) l) (hcap : n ≤ cap) (hs : sumS l ≤ 100000000) :
    Calls Tryd.prog 24 #[.slice a n cap, .string ⟨#[32]⟩] w fun e w' => e = .returned (.string (joinB l)) ∧ Below w.heap.size w w' := by
  obtain ⟨a', cap', e, hc⟩ := h
  simp only [Value.slice.injEq] at e
  obtain ⟨rfl, rfl, rfl⟩ := e
  by_cases h0 : l = []
  · subst h0
    refine (Tryd.strings_Join_none a cap ⟨#[32]⟩ w).mono ?_
    rintro e w' ⟨rfl, rfl⟩
    exact ⟨rfl, Below.refl _ _⟩
  · obtain ⟨b, o, rfl, hcc⟩ := hc h0
    have hlt : b < w.heap.size := World.block_lt_of_cell? _ _ (hcc 0 (by cases l; exact absurd rfl h0; simp))
    have hl := sumS_len l
    refine (Tryd.strings_Join b o cap l ⟨#[32]⟩ w (fun j x hx => ?_) hlt (by omega) hcap ?_).mono ?_
    · have hj := (List.getElem?_eq_some_iff.1 hx).1
      have := hcc j hj
      rw [this, hx]; rfl
    · have := P.join_len l
      exact Nat.le_trans this (by omega)
    · rintro e w' ⟨rfl, hb⟩
      exact ⟨rfl, hb⟩
theorem join_any {w : World} {a : Option Addr} {n cap : Nat} {l : List ByteArray} (h : RS w (.slice a n cap) l) (hcap : n ≤ cap) (hs : sumS l ≤ 100000000) :
    Calls Tryd.prog 19 #[.slice a n cap] w fun e w' => e = .returned (.string (joinB l)) ∧ Below w.heap.size w w' := by
  have hc := Lib.hid (join24 h hcap hs)
  clear h
  go_enter Tryd.func19, Tryd.ntmps19
  go_wp2_with (fail)
  refine hc.out.mono ?_
  rintro e w' ⟨rfl, hb⟩
  go_wp2_with (fail)
  go_ret
  exact ⟨rfl, hb⟩

set_option maxHeartbeats 400000 in
theorem refJoin_any {w : World} {a : Option Addr} {n cap : Nat} {l : List ByteArray} (h : RS w (.slice a n cap) l) (hs : sumS l ≤ 100000000) :
    Calls Tryd.prog 20 #[.slice a n cap] w fun e w' => e = .returned (.string (joinB l)) ∧ w = w' := by
  have hln : l.length = n := by
    obtain ⟨a', cap', e, hc⟩ := h
    simp only [Value.slice.injEq] at e
    exact e.2.1.symm
  have Hln := Lib.hid hln
  have Hr := Lib.hid h
  have Hs := Lib.hid hs
  have hn : n ≤ 100000000 := by have := sumS_len l; omega
  clear hln h hs
  go_enter Tryd.func20, Tryd.ntmps20
  go_wp2_with (fail)
  go_loop [3, 4] (fun v i => ∃ k : Nat, k ≤ n ∧ i = .int .i64 k ∧ v = .string (joinB (l.take k))) (fun _ i => n - (intOf i).toNat)
  case atStart => exact ⟨0, by omega, rfl, rfl⟩
  case round =>
    obtain ⟨k, hk, rfl, rfl⟩ := hrel
    obtain ⟨t, ht⟩ : ∃ t, joinB (l.take k) = t := ⟨_, rfl⟩
    rw [ht]
    by_cases hlt : k < n
    · have i1 : (k : Int) < (n : Int) := by omega
      obtain ⟨b, o, rfl, hbw, hc⟩ := Hr.out.at hlt
      obtain ⟨x, hx⟩ : ∃ x, l[k]?.getD ⟨#[]⟩ = x := ⟨_, rfl⟩
      have hget : l[k]? = some x := by rw [← hx, List.getElem?_eq_getElem (by rw [Hln.out]; exact hlt)]; rfl
      have hsn : l.take (k + 1) = l.take k ++ [x] := by rw [List.take_add_one, hget]; rfl
      have hxs : x.size ≤ 100000000 := by have := sumS_le (List.mem_of_getElem? hget); have := Hs.out; omega
      have hts : t.size ≤ 100000000 := by
        rw [← ht]
        have h1 := joinB_size (l.take k)
        have h2 := sumS_take l k
        have := Hs.out
        omega
      have hj := joinB_snoc (l.take k) x
      rw [← hsn, ht] at hj
      rw [hx] at hc
      rcases Nat.eq_zero_or_pos k with h0 | h0
      · subst h0
        have ht0 : t = ⟨#[]⟩ := by rw [← ht]; rfl
        rw [if_pos (by simp)] at hj
        have Hj := Lib.hid hj
        have hxe : (⟨#[]⟩ : ByteArray) ++ x = x := by apply ByteArray.ext; simp [ByteArray.data_append]
        subst ht0
        have q0 : ¬ 9223372036854775807 < x.size := by omega
        simp only [Nat.add_zero] at hc
        clear hj ht hsn hget hx
        go_wp2_with (fail)
        go_round
        case rel => exact ⟨1, by omega, by go_num, by rw [Hj.out]⟩
        case measure => simp [intOf]; omega
      · have h0I : (0 : Int) < (k : Int) := by omega
        rw [if_neg (fun e => by have := congrArg List.length e; simp at this; rcases this with h | h; omega; rw [h] at Hln; have := Hln.out; simp at this; omega)] at hj
        have Hj := Lib.hid hj
        have q0 : ¬ 9223372036854775807 < t.size + 1 := by omega
        have q1 : ¬ 9223372036854775807 < t.size + 1 + x.size := by omega
        clear hj ht hsn hget hx
        go_wp2_with (fail)
        go_round
        case rel => exact ⟨k + 1, by omega, by go_num, by rw [Hj.out]⟩
        case measure => simp [intOf]; omega
    · have hfin : Hid (t = joinB l) := Lib.hid (by rw [← ht, List.take_of_length_le (by rw [Hln.out]; omega)])
      clear ht
      go_wp2_with (fail)
      go_ret
      exact ⟨by rw [hfin.out]; rfl, rfl⟩

theorem rs_take {w : World} {a : Option Addr} {n cap : Nat} {l : List ByteArray} (h : RS w (.slice a n cap) l) (c : Nat) (hc : c ≤ n) : RS w (.slice a c cap) (l.take c) := by
  obtain ⟨a', cap', e, hcc⟩ := h
  simp only [Value.slice.injEq] at e
  obtain ⟨rfl, hl, rfl⟩ := e
  have hlen : (l.take c).length = c := by simp; omega
  refine ⟨a, cap, by rw [hlen], fun hne => ?_⟩
  obtain ⟨b, o, rfl, hx⟩ := hcc (by rintro rfl; simp at hne)
  refine ⟨b, o, rfl, fun i hi => ?_⟩
  rw [hx i (by omega), List.getElem?_take, if_pos (by omega)]
theorem RS.len {w : World} {a : Option Addr} {n cap : Nat} {l : List ByteArray} (h : RS w (.slice a n cap) l) : l.length = n := by
  obtain ⟨a', cap', e, _⟩ := h
  simp only [Value.slice.injEq] at e
  exact e.2.1.symm

set_option maxRecDepth 100000 in
set_option maxHeartbeats 1000000 in
theorem joins_walk (l : List ByteArray) (ad : Option Addr) (n cap : Nat) (w : World) (hr : RS w (.slice ad n cap) l) (hcap : n ≤ cap) (hcm : cap ≤ maxLen) (hsum : sumS l ≤ 1048576) : Calls Tryd.prog 9 #[.slice ad n cap] w (BoolPost w) := by
  unfold maxLen at hcm
  obtain ⟨m, hm⟩ : ∃ m, m = min n 1000 := ⟨_, rfl⟩
  obtain ⟨l2, hl2⟩ : ∃ l2, l2 = l.take m := ⟨_, rfl⟩
  have Hr := Lib.hid (show RS w (.slice ad m cap) l2 by rw [hl2]; exact rs_take hr m (by omega))
  have Hs := Lib.hid (show sumS l2 ≤ 100000000 by rw [hl2]; have := sumS_take l m; omega)
  have hmn : m ≤ n := by omega
  have hmc : m ≤ cap := by omega
  have hm1 : m ≤ 1000 := by omega
  clear hr hl2 hsum
  have hjj := str_beq (joinB l2)
  by_cases hbig : 1000 < n
  · obtain rfl : m = 1000 := by omega
    have hbI : (1000 : Int) < (n : Int) := by omega
    clear hm
    go_enter Tryd.func9, Tryd.ntmps9
    go_wp2_with (fail)
    refine (shown_any _).mono ?_
    rintro e w1 ⟨rfl, hb1⟩
    have Hr1 := Lib.hid (Hr.out.below hb1)
    go_wp2_with (fail)
    go_loop [4] (fun i => ∃ k : Nat, k ≤ 1000 ∧ i = .int .i64 k) (fun i => 1000 - (intOf i).toNat)
    case atStart => exact ⟨0, by omega, rfl⟩
    case round =>
      obtain ⟨k, hk, rfl⟩ := hrel
      by_cases hlt : k < 1000
      · have i1 : (k : Int) < 1000 := by omega
        obtain ⟨b, o, rfl, hbw, hc⟩ := Hr1.out.at hlt
        obtain ⟨x, hx⟩ : ∃ x, l2[k]?.getD ⟨#[]⟩ = x := ⟨_, rfl⟩
        rw [hx] at hc
        clear hx
        by_cases h5 : 5000 < x.size
        · have h5I : (5000 : Int) < (x.size : Int) := by omega
          go_wp2_with (fail)
          go_ret
          exact ⟨rfl, hb1⟩
        · have h5I : ¬ (5000 : Int) < (x.size : Int) := by omega
          go_wp2_with (fail)
          go_round
          case rel => exact ⟨k + 1, by omega, by go_num⟩
          case measure => simp [intOf]; omega
      · obtain rfl : k = 1000 := by omega
        go_wp2_with (fail)
        refine (join_any Hr1.out hmc Hs.out).mono ?_
        rintro e w2 ⟨rfl, hb2⟩
        go_wp2_with (fail)
        refine (refJoin_any (Hr1.out.below hb2) Hs.out).mono ?_
        rintro e w' ⟨rfl, rfl⟩
        go_wp2_with (fail)
        go_ret
        exact ⟨rfl, hb1.trans (hb2.mono hb1.size)⟩
  · obtain rfl : n = m := by omega
    have hbI : ¬ (1000 : Int) < (n : Int) := by omega
    clear hm
    go_enter Tryd.func9, Tryd.ntmps9
    go_wp2_with (fail)
    refine (shown_any _).mono ?_
    rintro e w1 ⟨rfl, hb1⟩
    have Hr1 := Lib.hid (Hr.out.below hb1)
    go_wp2_with (fail)
    go_loop [4] (fun i => ∃ k : Nat, k ≤ n ∧ i = .int .i64 k) (fun i => n - (intOf i).toNat)
    case atStart => exact ⟨0, by omega, rfl⟩
    case round =>
      obtain ⟨k, hk, rfl⟩ := hrel
      by_cases hlt : k < n
      · have i1 : (k : Int) < (n : Int) := by omega
        obtain ⟨b, o, rfl, hbw, hc⟩ := Hr1.out.at hlt
        obtain ⟨x, hx⟩ : ∃ x, l2[k]?.getD ⟨#[]⟩ = x := ⟨_, rfl⟩
        rw [hx] at hc
        clear hx
        by_cases h5 : 5000 < x.size
        · have h5I : (5000 : Int) < (x.size : Int) := by omega
          go_wp2_with (fail)
          go_ret
          exact ⟨rfl, hb1⟩
        · have h5I : ¬ (5000 : Int) < (x.size : Int) := by omega
          go_wp2_with (fail)
          go_round
          case rel => exact ⟨k + 1, by omega, by go_num⟩
          case measure => simp [intOf]; omega
      · obtain rfl : k = n := by omega
        go_wp2_with (fail)
        refine (join_any Hr1.out hmc Hs.out).mono ?_
        rintro e w2 ⟨rfl, hb2⟩
        go_wp2_with (fail)
        refine (refJoin_any (Hr1.out.below hb2) Hs.out).mono ?_
        rintro e w' ⟨rfl, rfl⟩
        go_wp2_with (fail)
        go_ret
        exact ⟨rfl, hb1.trans (hb2.mono hb1.size)⟩
end Go.Proofs.YtfiicnajiefiaaaDoor
