/- ItemReads' walk. -/
import Derived.Test.YtiammgeahogdoaaN
import Derived.RegionTactic
import Derived.BigRegion
import Derived.ChangeAlike
namespace Go.Proofs.Ytiammgeahogdoaa
open Go.RowKit Go.PlainAid
set_option linter.unusedVariables false
set_option linter.unusedSimpArgs false

theorem decode_at {l : List Int} {a : Option Addr} {n cap : Nat} {w : World} {k v : ByteArray} {fl ex ca la er : Int} {st wo : Bool} (hr : RB w (.slice a n cap) l) (hcap : n ≤ cap) (hcm : cap ≤ maxLen) (hb : P.Bytes l)
    (hI : decR l = ⟨k, v, fl, ex, ca, la, st, wo⟩) (hE : decE l = er) :
    Calls Try.prog 14 #[.slice a n cap] w fun e w' => e = .returned (.tuple #[.agg #[.string k, .int .u32 fl, .string v, .int .i64 ex, .int .u64 ca, .int .i64 la, .bool st, .bool wo], .int .i64 er]) ∧ Below w.heap.size w w' := by
  have h := decode_all l a n cap w hr hcap hcm hb
  unfold DecPost at h
  rw [hI, hE] at h
  exact h
theorem refDecode_at {l : List Int} {a : Option Addr} {n cap : Nat} {w : World} {k v : ByteArray} {fl ex ca la er : Int} {st wo : Bool} (hr : RB w (.slice a n cap) l) (hcap : n ≤ cap) (hcm : cap ≤ maxLen) (hb : P.Bytes l)
    (hI : decR l = ⟨k, v, fl, ex, ca, la, st, wo⟩) (hE : decE l = er) :
    Calls Try.prog 15 #[.slice a n cap] w fun e w' => e = .returned (.tuple #[.agg #[.string k, .int .u32 fl, .string v, .int .i64 ex, .int .u64 ca, .int .i64 la, .bool st, .bool wo], .int .i64 er]) ∧ Below w.heap.size w w' := by
  have h := refDecode_all l a n cap w hr hcap hcm hb
  unfold DecPost at h
  rw [hI, hE] at h
  exact h

theorem xor_self_u8 (x : Int) (h0 : 0 ≤ x) (h1 : x < 256) : bits .xor .u8 x x = 0 := by
  show IntKind.u8.wrap ((BitVec.ofInt 8 x ^^^ BitVec.ofInt 8 x).toNat : Int) = 0
  rw [BitVec.xor_self]; rfl

theorem only_row {a w : World} {g : Nat} (h : a.grownBy w (some g)) (i : Nat) (u : Value) : a.grownBy (w.setCell ⟨g, i, none⟩ u) (some g) :=
  ⟨h.os, h.tape, h.output, by simpa [World.setCell] using h.size, fun j hj hne => (Below.heap_setCell w ⟨g, i, none⟩ u j (by rintro rfl; exact hne rfl)).trans (h.block j hj hne)⟩
theorem only_drew {a w : World} {row : Option Nat} (h : a.grownBy w row) : a.grownBy w.drew row := ⟨h.os, h.tape, h.output, h.size, h.block⟩
theorem only_cell {a w : World} {g b i : Nat} (h : a.grownBy w (some g)) (hb : b < a.heap.size) (hne : b ≠ g) : w.cell? ⟨b, i, none⟩ = a.cell? ⟨b, i, none⟩ :=
  World.cell?_of_block (h.block b hb (fun e => hne (by injection e)))

theorem app_rb {w w1 : World} {v : Value} {l : List Int} (h : RB w v l) (hb : Below w.heap.size w w1) : RB (w1.alloc (.cells #[] 5)) v l :=
  h.below (hb.trans ((Below.refl w.heap.size w1).alloc hb.size _))

theorem zero_set {l : List Int} {j : Nat} (h : j < l.length) : (List.replicate j (0 : Int) ++ l.drop j).set j 0 = List.replicate (j + 1) 0 ++ l.drop (j + 1) := by
  rw [List.set_append_right _ _ (by simp), List.length_replicate, Nat.sub_self]
  rw [List.drop_eq_getElem_cons h, List.set_cons_zero, List.replicate_succ', List.append_assoc]; rfl
theorem zero_at {l : List Int} {j : Nat} (h : j < l.length) : (List.replicate j (0 : Int) ++ l.drop j)[j]?.getD 0 = l[j]?.getD 0 := by
  rw [List.getElem?_append_right (by simp)]; simp

set_option maxRecDepth 100000 in
set_option maxHeartbeats 2000000 in
theorem reads_walk (l : List Int) (a : Option Addr) (n cap : Nat) (w : World) (hr : RB w (.slice a n cap) l) (hln : l.length = n) (hcap : n ≤ cap) (hcm : cap ≤ maxLen) (hb : P.Bytes l) (hL : n ≤ 140737488351232) :
    Calls Try.prog 6 #[.slice a n cap] w fun e w' => e = .returned (.bool true) ∧ Below w.heap.size w w' := by
  obtain ⟨k, v, fl, ex, ca, la, st, wo, hI⟩ : ∃ k v fl ex ca la st wo, decR l = ⟨k, v, fl, ex, ca, la, st, wo⟩ := ⟨_, _, _, _, _, _, _, _, rfl⟩
  obtain ⟨er, hE⟩ : ∃ er, decE l = er := ⟨_, rfl⟩
  have HI := Lib.hid hI
  have HE := Lib.hid hE
  have Hr := Lib.hid hr
  have Hb := Lib.hid hb
  have Hln := Lib.hid hln
  clear hI hE hr hb hln
  go_enter Try.func6, Try.ntmps6
  go_wp2_with (fail)
  refine (shown_any _).mono ?_
  rintro e w1 ⟨rfl, hb1⟩
  have hr1 := Lib.hid (app_rb Hr.out hb1)
  have hs1 := hb1.size
  go_wp2_with (at_builtin; go_must (refine wp_appR w1 _ rfl _ _ rfl w1.heap.size (.slice (some ⟨w1.heap.size, 0, none⟩) 0 0) (.slice a n cap) 0 [] l rfl (own_new w1) rfl hr1.out ((Below.refl _ _).alloc (Nat.le_refl _) _) (by have := Hln.out; omega) (by simp) ?_); intro v2 w2 ho2 hb2 hnil2)
  simp only [Nat.zero_add, List.nil_append] at ho2
  rw [Hln.out] at ho2
  have hb12 := hb1.trans (hb2.mono hs1)
  have hr2 := Lib.hid (Hr.out.below hb12)
  have hrow := ho2.2
  rcases hrow with ⟨rfl, h0⟩ | ⟨g, cap2, cur, rfl, hgb, hgc, hnc, hcm2, _⟩
  · exact absurd (hnil2 rfl) (by simp)
  · have hg2 : g < w2.heap.size := (ho2.lt g rfl).2
    clear hgc hb2 hnil2
    go_wp2_with (fail)
    refine (decode_at (rb_own ho2) hnc hcm2 Hb.out HI.out HE.out).mono ?_
    rintro e w3 ⟨rfl, hb3⟩
    have ho3 := own_below ho2 hb3
    have hb13 := hb12.trans (hb3.mono hb12.size)
    have hg3 : g < w3.heap.size := Nat.lt_of_lt_of_le hg2 hb3.size
    have Hbox3 := Lib.hid (box_new w3 k v fl ex ca la st wo)
    have hb13a : Below w.heap.size w (w3.alloc (.cells #[.string k, .int .u32 fl, .string v, .int .i64 ex, .int .u64 ca, .int .i64 la, .bool st, .bool wo] 25)) := hb13.alloc hb13.size _
    have ho3a := ho3.alloc (.cells #[.string k, .int .u32 fl, .string v, .int .i64 ex, .int .u64 ca, .int .i64 la, .bool st, .bool wo] 25)
    clear hb3 ho2 ho3
    go_wp2_with (fail)
    refine (refDecode_at (Hr.out.below hb13a) hcap hcm Hb.out HI.out HE.out).mono ?_
    rintro e w4 ⟨rfl, hb4⟩
    have ho4 := own_below ho3a hb4
    have hb14 := hb13a.trans (hb4.mono hb13a.size)
    have Hbox4 := Lib.hid (Hbox3.out.below hb4 (by simp))
    have hg4 : g < w4.heap.size := Nat.lt_of_lt_of_le hg3 (by have := hb4.size; simp at this; omega)
    have hs34 : w3.heap.size < w4.heap.size := by have := hb4.size; simp at this; omega
    clear hb4 ho3a hb13a hb13 Hbox3
    go_wp2_with (fail)
    have Hb1 := Lib.hid (Hbox4.out.below ((Below.refl w4.heap.size w4).alloc (Nat.le_refl _) (.cells #[.string k, .int .u32 fl, .string v, .int .i64 ex, .int .u64 ca, .int .i64 la, .bool st, .bool wo] 25)) hs34)
    have Hb2 := Lib.hid (box_new w4 k v fl ex ca la st wo)
    have ho5 := ho4.alloc (.cells #[.string k, .int .u32 fl, .string v, .int .i64 ex, .int .u64 ca, .int .i64 la, .bool st, .bool wo] 25)
    have hb15 : Below w.heap.size w (w4.alloc (.cells #[.string k, .int .u32 fl, .string v, .int .i64 ex, .int .u64 ca, .int .i64 la, .bool st, .bool wo] 25)) := hb14.alloc hb14.size _
    have hg45 : w4.heap.size < (w4.alloc (.cells #[.string k, .int .u32 fl, .string v, .int .i64 ex, .int .u64 ca, .int .i64 la, .bool st, .bool wo] 25)).heap.size := by simp
    generalize w4.alloc (.cells #[.string k, .int .u32 fl, .string v, .int .i64 ex, .int .u64 ca, .int .i64 la, .bool st, .bool wo] 25) = W at *
    have hnm : n ≤ 9223372036854775807 := by omega
    clear ho4 hb14 hr1 hr2 Hbox4 hb12
    go_loopw [9] (fun i wi => ∃ j : Nat, j ≤ n ∧ i = .int .i64 j ∧ wi.ownsRow w1.heap.size 5 1 (.slice (some ⟨g, 0, none⟩) n cap2) n ((List.replicate j 0 ++ l.drop j).map (.int .u8)) ∧ W.grownBy wi (some g)) (fun i _ => n - (intOf i).toNat)
    case atStart => exact ⟨0, by omega, rfl, ho5, World.grownBy.refl W _⟩
    case round =>
      obtain ⟨j, hj, rfl, hoj, hgj⟩ := hrel
      clear ho5
      by_cases hlt : j < n
      · obtain ⟨a', cap', ea, hcq⟩ := Hr.out
        obtain ⟨bk, o, ea2, hcc⟩ := hcq (by intro h; rw [h] at Hln; have := Hln.out; simp at this; omega)
        simp only [Value.slice.injEq] at ea
        obtain ⟨rfl, eq1, rfl⟩ := ea
        clear eq1
        subst ea2
        have hc0 := hcc j (by rw [Hln.out]; exact hlt)
        have hbk := World.block_lt_of_cell? _ _ hc0
        have hc1 : wr.cell? ⟨bk, o + j, none⟩ = some (.int .u8 (l[j]?.getD 0)) := (only_cell hgj (Nat.lt_of_lt_of_le hbk hb15.size) (by omega)).trans ((hb15.cell (p := ⟨bk, o + j, none⟩) hbk).trans hc0)
        have hc2 : wr.cell? ⟨g, j, none⟩ = some (.int .u8 (l[j]?.getD 0)) := by
          have := own_at hoj j hlt
          rw [zero_at (by rw [Hln.out]; exact hlt)] at this; exact this
        have hf := hoj.frozenAt j
        obtain ⟨x0, x1⟩ := Hb.out.at j
        have hxor := xor_self_u8 _ x0 x1
        have hst := (hoj.stored j (.int .u8 0)).1
        rw [← List.map_set, zero_set (by rw [Hln.out]; exact hlt)] at hst
        have Hst := Lib.hid hst
        have hgst := Lib.hid (only_row hgj j (.int .u8 0))
        clear hst hcc hc0 hoj hgj
        go_wp2_with (fail)
        go_region
        all_goals (go_wp2_with (fail))
        all_goals
          go_roundw
          case rel => exact ⟨j + 1, by omega, by go_num, Hst.out, only_drew hgst.out⟩
          case measure => simp [intOf]; omega
      · have hx1 := Hb1.out
        have hx2 := Hb2.out
        have hgW : ∀ b i, b < W.heap.size → b ≠ g → wr.cell? ⟨b, i, none⟩ = W.cell? ⟨b, i, none⟩ := fun b i h1 h2 => only_cell hgj h1 h2
        obtain ⟨x0, x1, x2, x3, x4, x5, x6, x7, xl⟩ := hx1
        obtain ⟨y0, y1, y2, y3, y4, y5, y6, y7, yl⟩ := hx2
        have n1 : w3.heap.size ≠ g := by omega
        have n2 : w4.heap.size ≠ g := by omega
        rw [← hgW _ _ xl n1] at x0 x1 x2 x3 x4 x5 x6 x7
        rw [← hgW _ _ yl n2] at y0 y1 y2 y3 y4 y5 y6 y7
        have hbw : Below w.heap.size w wr := hb15.grown hgj hb15.size (fun q e => by cases e; omega)
        clear hgW n1 n2 hoj hgj
        go_wp2_with (fail)
        go_ret
        exact ⟨rfl, hbw⟩
end Go.Proofs.Ytiammgeahogdoaa
