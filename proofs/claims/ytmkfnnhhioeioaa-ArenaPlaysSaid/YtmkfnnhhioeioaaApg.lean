/- the document's arena: its pages told, and one page's bytes. -/
import Derived.Test.YtmkfnnhhioeioaaAsr
import Derived.Deep.RegionHeld3
namespace Go.Proofs.Ytmkfnnhhioeioaa
open Go.RowKit Go.PlainAid
set_option linter.unusedVariables false
set_option linter.unusedSimpArgs false

theorem pages_neg {ow : List Int} {o : Int} (h : o < 0) : AP.pages ow o = [] := by
  unfold AP.pages
  rw [List.map_eq_nil_iff, List.filter_eq_nil_iff]
  intro i _
  simp
  omega

set_option maxHeartbeats 400000 in
theorem rPages_any {w : World} {g k ck r cr np S : Nat} {ow F : List Int} {vs : List Value} (h : Rf w g k ck r cr np S ow vs F) (o : Int) :
    Calls Try.prog 29 #[.pointer (some ⟨g, 0, none⟩), .int .i64 o] w (PgPost ow o w) := by
  have c1 := h.c1
  have hnp := h.np1
  have hgl : g < w.heap.size := (Array.getElem?_eq_some_iff.1 h.box).1
  have hkl : k < w.heap.size := (h.own.lt k rfl).2
  have hlen := Lib.hid h.len
  have hrng := Lib.hid h.rng
  have hco := Lib.hid h.co
  clear h
  by_cases hneg : o < 0
  · have He := Lib.hid (pages_neg (ow := ow) hneg)
    have h0 : ¬ (0 : Int) ≤ o := by omega
    clear hneg
    go_enter Try.func29, Try.ntmps29
    go_wp2
    go_loop [5, 6] (fun v i => v = .slice none 0 0 ∧ i = .int .i64 0) (fun _ i => 0)
    case atStart => exact ⟨rfl, rfl⟩
    case round =>
      obtain ⟨rfl, rfl⟩ := hrel
      have hd : decide ((0 : Int) ≤ o) = false := decide_eq_false (by omega)
      go_wp2
      go_ret
      exact ⟨_, rfl, by rw [He.out]; exact World.ownsRow_nil _ _ _ _, Below.refl _ _⟩
  have h0 : (0 : Int) ≤ o := by omega
  clear hneg
  go_enter Try.func29, Try.ntmps29
  go_wp2
  go_loopw [5, 6] (fun v i wr => ∃ (j n : Nat) (ad : Option Addr) (cap : Nat), j ≤ np ∧ i = .int .i64 j ∧ n = (pgs ow o j).length ∧ n ≤ j ∧ v = .slice ad n cap ∧ wr.ownsRow w.heap.size 3 1 (.slice ad n cap) n ((pgs ow o j).map (.int .i64)) ∧ Below w.heap.size w wr) (fun _ i _ => np - (intOf i).toNat)
  case atStart => exact ⟨0, 0, none, 0, Nat.zero_le _, rfl, rfl, by omega, rfl, World.ownsRow_nil _ _ _ _, Below.refl _ _⟩
  case round =>
    obtain ⟨j, n, ad, cap, hj, rfl, hn, hnj, rfl, hown, hbel⟩ := hrel
    have Hn := Lib.hid hn
    clear hn
    have hsz := hbel.size
    have c1' := (hbel.cell (p := ⟨g, 1, none⟩) hgl).trans c1
    by_cases hlt : j < np
    · have hc := (hbel.cell (p := ⟨k, j, none⟩) hkl).trans (hco.out j hlt)
      have hb := hrng.out.at j
      by_cases h1 : ow[j]?.getD 0 - 1 = o
      · have Hs := Lib.hid (pgs_yes (ow := ow) (o := o) (k := j) (by omega) h1)
        have h1' : (ow[j]?.getD 0 - 1 == o) = true := by simp [h1]
        clear h1
        go_wp2_with (at_builtin; go_must (refine wp_appI w wr rfl _ _ rfl w.heap.size (.slice ad n cap) n (pgs ow o j) (j : Int) rfl hown rfl hbel (by omega) hsz ?_); intro g2 cap2 w2 hown2 hbel2)
        go_roundw
        case rel => exact ⟨j + 1, n + 1, _, cap2, by omega, by go_num, by rw [Hs.out, List.length_append, ← Hn.out]; rfl, by omega, rfl, by rw [Hs.out]; exact hown2, hbel2⟩
        case measure => simp [intOf]; omega
      · have Hs := Lib.hid (pgs_no (ow := ow) (o := o) (k := j) (fun hh => h1 hh.2))
        have h1' : (ow[j]?.getD 0 - 1 == o) = false := by simp [h1]
        clear h1
        go_wp2
        go_roundw
        case rel => exact ⟨j + 1, n, ad, cap, by omega, by go_num, by rw [Hs.out]; exact Hn.out, by omega, rfl, by rw [Hs.out]; exact hown, hbel⟩
        case measure => simp [intOf]; omega
    · have hjn : j = np := by omega
      have He : Hid (AP.pages ow o = pgs ow o j) := Lib.hid (by unfold AP.pages pgs; rw [hlen.out, hjn])
      have Hjn := Lib.hid hjn
      clear hjn
      go_wp2
      go_ret
      exact ⟨_, rfl, by rw [He.out, ← Hn.out]; exact hown, hbel⟩

/-- the blocks of the document's arena -/
def rFoot (g k r S : Nat) (vs : List Value) (i : Nat) : Prop := i = g ∨ i = k ∨ i = r ∨ ∃ j : Nat, vs[j]? = some (Value.slice (some ⟨i, 0, none⟩) S S)

/-- the arena where no block of it has turned -/
theorem Rf.keep {w w' : World} {g k ck r cr np S : Nat} {ow F : List Int} {vs : List Value} {T : Nat → Prop} (h : Rf w g k ck r cr np S ow vs F) (ht : Tch T w w') (hd : ∀ i, T i → ¬ rFoot g k r S vs i) : Rf w' g k ck r cr np S ow vs F := by
  have hk : ∀ {base : Nat} {e : TypeId} {n cap b : Nat} {xs : List Value}, w.ownsRow base e 1 (.slice (some ⟨b, 0, none⟩) n cap) n xs → ¬ T b → w'.ownsRow base e 1 (.slice (some ⟨b, 0, none⟩) n cap) n xs := by
    intro base e n cap b xs ho hb
    rcases ho.2 with ⟨h1, _⟩ | ⟨g', cap', cur, h1, h2, h3, h4⟩
    · cases h1
    · have h1' := h1
      simp only [Value.slice.injEq, Option.some.injEq, Addr.mk.injEq, and_true, true_and] at h1
      obtain ⟨rfl, rfl⟩ := h1
      exact ⟨ho.1, .inr ⟨b, cap, cur, rfl, h2, (ht.block b (Array.getElem?_eq_some_iff.1 h3).1 hb).trans h3, h4⟩⟩
  refine ⟨(ht.block g (Array.getElem?_eq_some_iff.1 h.box).1 (fun hT => hd g hT (.inl rfl))).trans h.box, hk h.own (fun hT => hd k hT (.inr (.inl rfl))), hk h.row (fun hT => hd r hT (.inr (.inr (.inl rfl)))), fun i hi => ?_, h.dis, h.len, h.fln, h.np1, h.rng, h.siz, h.byt⟩
  rcases h.pgs i hi with h1 | ⟨b, h1, h2⟩
  · exact .inl h1
  · exact .inr ⟨b, h1, hk h2 (fun hT => hd b hT (.inr (.inr (.inr ⟨i, h1⟩))))⟩

theorem rFoot_lt {w : World} {g k ck r cr np S : Nat} {ow F : List Int} {vs : List Value} (h : Rf w g k ck r cr np S ow vs F) (i : Nat) (hi : rFoot g k r S vs i) : i < w.heap.size := by
  rcases hi with rfl | rfl | rfl | ⟨j, hj⟩
  · exact (Array.getElem?_eq_some_iff.1 h.box).1
  · obtain ⟨c, hc⟩ := own_cells h.own; exact (Array.getElem?_eq_some_iff.1 hc).1
  · obtain ⟨c, hc⟩ := own_cells h.row; exact (Array.getElem?_eq_some_iff.1 hc).1
  · have hl : vs.length = np := by have := h.row.1; omega
    have hjn : j < np := by have := (List.getElem?_eq_some_iff.1 hj).1; omega
    rcases h.pgs j hjn with ⟨h1, _⟩ | ⟨b, h1, h2⟩
    · rw [hj] at h1; simp at h1
    · rw [hj] at h1
      simp only [Option.some.injEq, Value.slice.injEq, Addr.mk.injEq, and_true] at h1
      subst h1
      obtain ⟨c, hc⟩ := own_cells h2; exact (Array.getElem?_eq_some_iff.1 hc).1
theorem Rf.cv {w : World} {g k ck r cr np S : Nat} {ow F : List Int} {vs : List Value} (h : Rf w g k ck r cr np S ow vs F) (i : Nat) (hi : i < np) : w.cell? ⟨r, i, none⟩ = some (vs[i]?.getD (.bool false)) := by
  have hl : vs.length = np := by have := h.row.1; omega
  rw [h.row.cellAt i (by omega)]
  rw [List.getElem?_eq_getElem (by omega)]
  rfl
end Go.Proofs.Ytmkfnnhhioeioaa
