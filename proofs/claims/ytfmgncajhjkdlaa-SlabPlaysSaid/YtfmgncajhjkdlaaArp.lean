/- an arena's pages, and a new arena. -/
import Derived.Test.YtfmgncajhjkdlaaArw
import Derived.Laws.MakeOwn
namespace Go.Proofs.Ytfmgncajhjkdlaa
open Go.RowKit Go.PlainAid
set_option linter.unusedVariables false
set_option linter.unusedSimpArgs false

theorem Try.infoI : (Try.prog.info? 3).map (fun i => (i.zero, i.size, i.bytes)) = some (some (.int .i64 0), 1, 8) := by kernel_rfl
theorem Try.infoB : (Try.prog.info? 5).map (fun i => (i.zero, i.size, i.bytes)) = some (some (.int .u8 0), 1, 1) := by kernel_rfl

/-- append of one int to a row of the call's own -/
theorem wp_appI {ops : Array Oper} {rest : List Oper} {o : Oper} {a : Act} {Q : Exit → Act → World → Prop} (w0 w : World) (hgd : o.guard = none) (s x : Operand)
    (ho : o.op = .call { callee := .builtin .append, args := #[s, x], argTypes := #[22, 22] }) (base : Nat) (v : Value) (n : Nat) (xs : List Int) (u : Int)
    (hs : a.eval s = v) (hown : w.ownsRow base 3 1 v n (xs.map (.int .i64))) (hx : a.eval x = .slice (some ⟨w.heap.size, 0, none⟩) 1 1)
    (hbel : Below base w0 w) (hn : n + 1 < 1000000000000) (hbase : base ≤ w.heap.size)
    (h : ∀ g cap w', w'.ownsRow base 3 1 (.slice (some ⟨g, 0, none⟩) (n + 1) cap) (n + 1) ((xs ++ [u]).map (.int .i64)) → Below base w0 w' → wpList Try.prog ops Q rest (a.put o.dst (.slice (some ⟨g, 0, none⟩) (n + 1) cap)) w') :
    wpList Try.prog ops Q (o :: rest) a (w.alloc (.cells #[.int .i64 u] 3)) := by
  obtain ⟨i0, hi, hz0, hz1, hz2⟩ := info_parts Try.infoI
  refine wpList_append_own _ hgd s x 22 ho base 3 i0 (.int .i64 0) 1 8 Try.underlying22 hi hz0 hz1 hz2 rfl (by decide) v n _ hs (hown.alloc _) ⟨w.heap.size, 0, none⟩ 1 1 [.int .i64 u] hx (by simp) ?_ ?_ ?_ ?_ (by simp; omega) ?_
  · intro j y hj
    have hj0 : j < 1 := by have := (List.getElem?_eq_some_iff.1 hj).1; simpa using this
    obtain rfl : j = 0 := by omega
    simp at hj
    subst hj
    simp [Addr.add]
  · intro y hy
    simp at hy
    subst hy
    rfl
  · unfold maxLen; omega
  · omega
  · intro v' w' hown' hgrow hiff
    have hb' : Below base w0 w' := (hbel.alloc hbase _).grown hgrow (by simp; omega) (fun k hk => (hown.lt k hk).1)
    rcases hown'.2 with ⟨rfl, h0⟩ | ⟨g, cap, cur, rfl, _⟩
    · omega
    · exact h g cap w' (by simpa using hown') hb'

def pgs (ow : List Int) (o : Int) (k : Nat) : List Int := ((List.range k).filter (fun i => decide (0 < ow[i]?.getD 0 ∧ ow[i]?.getD 0 - 1 = o))).map (fun i : Nat => (i : Int))
theorem pgs_len (ow : List Int) (o : Int) (k : Nat) : (pgs ow o k).length ≤ k := by
  unfold pgs; rw [List.length_map]
  exact Nat.le_trans (List.length_filter_le _ _) (by simp)
theorem pgs_yes {ow : List Int} {o : Int} {k : Nat} (h : 0 < ow[k]?.getD 0) (h2 : ow[k]?.getD 0 - 1 = o) : pgs ow o (k + 1) = pgs ow o k ++ [(k : Int)] := by
  unfold pgs; rw [AP.pages_upto_succ, if_pos ⟨h, h2⟩]
theorem pgs_no {ow : List Int} {o : Int} {k : Nat} (h : ¬ (0 < ow[k]?.getD 0 ∧ ow[k]?.getD 0 - 1 = o)) : pgs ow o (k + 1) = pgs ow o k := by
  unfold pgs; rw [AP.pages_upto_succ, if_neg h, List.append_nil]

def PgPost (ow : List Int) (o : Int) (w : World) (e : Ending) (w' : World) : Prop :=
  ∃ v, e = .returned v ∧ w'.ownsRow w.heap.size 3 1 v (AP.pages ow o).length ((AP.pages ow o).map (.int .i64)) ∧ Below w.heap.size w w'

set_option maxHeartbeats 400000 in
theorem pages_any {w : World} {g k np : Nat} {size : Int} {bv : Value} {ow bs : List Int} (h : Ar w g k np size bv ow bs) (o : Int) :
    Calls Try.prog 32 #[.pointer (some ⟨g, 0, none⟩), .int .i64 o] w (PgPost ow o w) := by
  have c2 := h.c2
  have hnp := h.np1
  have hkl : k < w.heap.size := (h.own.lt k rfl).2
  have hlen := Lib.hid h.len
  have hrng := Lib.hid h.rng
  have hco := Lib.hid h.co
  clear h
  go_enter Try.func32, Try.ntmps32
  go_wp2
  go_loopw [5, 13] (fun v i wr => ∃ (j n : Nat) (ad : Option Addr) (cap : Nat), j ≤ np ∧ i = .int .i64 j ∧ n = (pgs ow o j).length ∧ n ≤ j ∧ v = .slice ad n cap ∧ wr.ownsRow w.heap.size 3 1 (.slice ad n cap) n ((pgs ow o j).map (.int .i64)) ∧ Below w.heap.size w wr) (fun _ i _ => np - (intOf i).toNat)
  case atStart => exact ⟨0, 0, none, 0, Nat.zero_le _, rfl, rfl, by omega, rfl, World.ownsRow_nil _ _ _ _, Below.refl _ _⟩
  case round =>
    obtain ⟨j, n, ad, cap, hj, rfl, hn, hnj, rfl, hown, hbel⟩ := hrel
    have Hn := Lib.hid hn
    clear hn
    have hsz := hbel.size
    by_cases hlt : j < np
    · have hc := (hbel.cell (p := ⟨k, j, none⟩) hkl).trans (hco.out j hlt)
      have hb := hrng.out.at j
      by_cases h0 : 0 < ow[j]?.getD 0
      · by_cases h1 : ow[j]?.getD 0 - 1 = o
        · have Hs := Lib.hid (pgs_yes h0 h1)
          have h1' : (ow[j]?.getD 0 - 1 == o) = true := by simp [h1]
          clear h1
          go_wp2_with (at_builtin; go_must (refine wp_appI w wr rfl _ _ rfl w.heap.size (.slice ad n cap) n (pgs ow o j) (j : Int) rfl hown rfl hbel (by omega) hsz ?_); intro g2 cap2 w2 hown2 hbel2)
          go_roundw
          case rel => exact ⟨j + 1, n + 1, _, cap2, by omega, by go_num, by rw [Hs.out, List.length_append, ← Hn.out]; rfl, by omega, rfl, by rw [Hs.out]; exact hown2, hbel2⟩
          case measure => simp [intOf]; omega
        · have Hs := Lib.hid (pgs_no (ow := ow) (o := o) (k := j) (fun hh => h1 hh.2))
          have h1' : (ow[j]?.getD 0 - 1 == o) = false := by simp [h1]
          clear h1
          go_wp2
          go_roundw
          case rel => exact ⟨j + 1, n, ad, cap, by omega, by go_num, by rw [Hs.out]; exact Hn.out, by omega, rfl, by rw [Hs.out]; exact hown, hbel⟩
          case measure => simp [intOf]; omega
      · have Hs := Lib.hid (pgs_no (ow := ow) (o := o) (k := j) (fun hh => h0 hh.1))
        go_wp2
        go_roundw
        case rel => exact ⟨j + 1, n, ad, cap, by omega, by go_num, by rw [Hs.out]; exact Hn.out, by omega, rfl, by rw [Hs.out]; exact hown, hbel⟩
        case measure => simp [intOf]; omega
    · have hjn : j = np := by omega
      have He : Hid (AP.pages ow o = pgs ow o j) := Lib.hid (by unfold AP.pages pgs; rw [hlen.out, hjn])
      have Hjn := Lib.hid hjn
      clear hjn
      go_wp2
      go_ret
      exact ⟨_, rfl, by rw [He.out, ← Hn.out]; exact hown, hbel⟩

/-- may there be an arena? -/
def okNew (pages page : Int) : Bool := decide (1 ≤ pages ∧ pages ≤ 1024 ∧ 512 ≤ page ∧ page ≤ 65536 ∧ page % 8 = 0)
def NewPost (pages page : Int) (w : World) (e : Ending) (w' : World) : Prop :=
  (okNew pages page = false ∧ e = .returned (.tuple #[.pointer none, .int .i64 1]) ∧ w = w') ∨
  (okNew pages page = true ∧ ∃ g k, e = .returned (.tuple #[.pointer (some ⟨g, 0, none⟩), .int .i64 0]) ∧ Ar w' g k pages.toNat page (.slice none 0 0) (List.replicate pages.toNat 0) [] ∧ w.heap.size ≤ g ∧ w.heap.size ≤ k ∧ Below w.heap.size w w')

theorem i64_and7 (n : Int) : bits .and .i64 n 7 = n % 8 := by
  have h127 : (BitVec.ofInt 64 7).toNat = 2 ^ 3 - 1 := by decide
  have key : (BitVec.ofInt 64 n &&& BitVec.ofInt 64 7).toNat = (n % ((2 ^ 64 : Nat) : Int)).toNat % 2 ^ 3 := by
    rw [BitVec.toNat_and, BitVec.toNat_ofInt, h127, Nat.and_two_pow_sub_one_eq_mod]
  show IntKind.i64.wrap ((BitVec.ofInt 64 n &&& BitVec.ofInt 64 7).toNat : Nat) = n % 8
  rw [key, IntKind.wrap_i64]
  omega
theorem and7 (n : Int) (h0 : 0 ≤ n) (h1 : n ≤ 65536) : bits .and .i64 n 7 = n % 8 := i64_and7 n

set_option maxHeartbeats 400000 in
theorem new_no (pages page : Int) (w : World) (h : okNew pages page = false) : Calls Try.prog 20 #[.int .i64 pages, .int .i64 page] w (NewPost pages page w) := by
  have Hp : Hid (NewPost pages page w (.returned (.tuple #[.pointer none, .int .i64 1])) w) := Lib.hid (.inl ⟨h, rfl, rfl⟩)
  have h' : ¬ (1 ≤ pages ∧ pages ≤ 1024 ∧ 512 ≤ page ∧ page ≤ 65536 ∧ page % 8 = 0) := by simpa [okNew] using h
  clear h
  by_cases h1 : pages < 1
  · clear h'
    go_enter Try.func20, Try.ntmps20
    go_wp2
    go_ret2
    exact Hp.out
  by_cases h2 : 1024 < pages
  · clear h'
    go_enter Try.func20, Try.ntmps20
    go_wp2
    go_ret2
    exact Hp.out
  by_cases h3 : page < 512
  · clear h'
    go_enter Try.func20, Try.ntmps20
    go_wp2
    go_ret2
    exact Hp.out
  by_cases h4 : 65536 < page
  · clear h'
    go_enter Try.func20, Try.ntmps20
    go_wp2
    go_ret2
    exact Hp.out
  · have h5 : (bits .and .i64 page 7 != 0) = true := by rw [and7 page (by omega) (by omega)]; simp; omega
    clear h'
    go_enter Try.func20, Try.ntmps20
    go_wp2
    go_ret2
    exact Hp.out

theorem zeros_list (N : Nat) : (madeCells (Value.int .i64 0).cells (N * 1)).toList = (List.replicate N (0 : Int)).map (.int .i64) := by
  rw [Nat.mul_one]; exact (toList_madeCells_one _ N).trans (by simp)

set_option maxHeartbeats 400000 in
theorem new_yes (pages page : Int) (w : World) (h : okNew pages page = true) : Calls Try.prog 20 #[.int .i64 pages, .int .i64 page] w (NewPost pages page w) := by
  have h' : 1 ≤ pages ∧ pages ≤ 1024 ∧ 512 ≤ page ∧ page ≤ 65536 ∧ page % 8 = 0 := by simpa [okNew] using h
  have H := Lib.hid h
  clear h
  obtain ⟨h1, h2, h3, h4, h5⟩ := h'
  have h6 : (bits .and .i64 page 7 != 0) = false := by rw [and7 page (by omega) (by omega)]; simp; omega
  obtain ⟨N, rfl⟩ := Int.eq_ofNat_of_zero_le (show 0 ≤ pages by omega)
  clear h5
  obtain ⟨i0, hi, hz0, hz1, hz2⟩ := info_parts Try.infoI
  go_enter Try.func20, Try.ntmps20
  go_wp2_with (at_make; go_must (refine wpList_make_full w rfl _ _ 22 rfl w.heap.size 3 i0 (.int .i64 0) 1 Try.underlying22 hi hz0 hz1 _ _ _ _ N rfl rfl rfl rfl (by rw [hz2]; omega) (by unfold maxLen; omega) (Nat.le_refl _) ?_); intro w2 ho2 hg2)
  rw [zeros_list] at ho2
  have hb2 : Below w.heap.size w w2 := (Below.refl _ _).grown hg2 (Nat.le_refl _) (fun _ h => by cases h)
  have hk := ho2.lt _ rfl
  go_ret2
  refine .inr ⟨H.out, w2.heap.size, _, rfl, ⟨heap_alloc_new w2 _, ?_, World.ownsRow_nil _ _ _ _, by simp, by simp; omega, fun x hx => ?_, ⟨by omega, by omega⟩⟩, hb2.size, hk.1, hb2.alloc hb2.size _⟩
  · rw [Int.toNat_natCast]
    have := (ho2.alloc (.cells #[.int .i64 page, .slice none 0 0, .slice (some ⟨w.heap.size, 0, none⟩) N N] 75))
    refine ⟨this.1, ?_⟩
    rcases this.2 with h | ⟨g, cap, cur, a, b, c⟩
    · exact .inl h
    · exact .inr ⟨g, cap, cur, a, Nat.zero_le _, c⟩
  · have := List.eq_of_mem_replicate hx
    omega
end Go.Proofs.Ytfmgncajhjkdlaa
