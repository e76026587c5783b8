/- Tuf, Srn, Lw, Tcb. -/
import Derived.Test.YtboehbfagnocpaaGreatDoorVbm
import Derived.Test.YtboehbfagnocpaaGreatDoorVbp
import Derived.Test.YtboehbfagnocpaaGreatDoorVbs
import Derived.Test.YtboehbfagnocpaaGreatDoorVbt
import Derived.Test.YtboehbfagnocpaaGreatDoorVae
import Derived.Test.YtboehbfagnocpaaGreatDoorVbr
import Derived.Deep.WholeRow
import Derived.ProofKit
import Derived.OpenShut
import Derived.SizedLaws
import Derived.Test.YtboehbfagnocpaaGreatDoorRows
import Derived.Lay
import Derived.Deep.DeepHandedRow
set_option linter.unusedVariables false
set_option linter.unusedSimpArgs false
set_option maxRecDepth 100000
namespace Go.Proofs.YtboehbfagnocpaaGreatDoor
open Go.RowKit Go.PlainAid Go.Shelf
open PM (Cd An Sd Vl)
theorem hav_many {D : Nat → Prop} {w0 w : World} {L : List Res} (h : Hav D w0 L w) : (many L).R w := ⟨h.all, h.ap⟩
theorem hav_manyTurn {D : Nat → Prop} {w0 w w' : World} {L L2 : List Res} (h : Hav D w0 L w) (t : Turn (many L) (many L2) w w') : Hav D w0 L2 w' :=
  ⟨t.here.1, t.here.2, fun r hr b hb => by
    rcases t.nu b ⟨r, hr, hb⟩ with ⟨s, hs, hx⟩ | hx
    · exact h.lo s hs b hx
    · exact .inr (Nat.le_trans h.tch.size hx), h.tch.trans t.tch (fun b hb => by obtain ⟨s, hs, hx⟩ := hb; exact h.lo s hs b hx)⟩
theorem szE' : (Tryz.prog.info? 136).map (·.size) = some 35 := by kernel_rfl
abbrev k7 : ByteArray := ⟨#[107]⟩
abbrev v8 : ByteArray := ⟨#[118]⟩
def E1L : List Value := [.int .i64 1, .int .i64 1, .int .i64 0, .int .i64 1, .int .i64 0, .int .i64 2, .int .i64 0, .string k7, .string v8, .int .u32 3, .int .i64 0, .bool false, .int .u64 0, .bool false, .int .u64 0, .int .u64 0, .bool false, .bool false, .int .i64 0, .int .i64 (-1), .bool false, .int .i64 2, .string k7, .int .u32 3, .string v8, .int .i64 0, .int .u64 1, .int .i64 0, .bool false, .bool false, .int .u64 0, .bool false, .bool false, .bool false, .slice none 0 0]
def E2L : List Value := [.int .i64 1, .int .i64 1, .int .i64 0, .int .i64 2, .int .i64 0, .int .i64 1, .int .i64 0, .string k7, .string ⟨#[]⟩, .int .u32 0, .int .i64 0, .bool false, .int .u64 0, .bool false, .int .u64 0, .int .u64 0, .bool false, .bool false, .int .i64 0, .int .i64 (-1), .bool false, .int .i64 1, .string k7, .int .u32 3, .string v8, .int .i64 0, .int .u64 1, .int .i64 1, .bool false, .bool false, .int .u64 0, .bool false, .bool false, .bool false, .slice none 0 0]
def EZ : Array Value := #[.int .i64 0, .int .i64 0, .int .i64 0, .int .i64 0, .int .i64 0, .int .i64 0, .int .i64 0, .string ⟨#[]⟩, .string ⟨#[]⟩, .int .u32 0, .int .i64 0, .bool false, .int .u64 0, .bool false, .int .u64 0, .int .u64 0, .bool false, .bool false, .int .i64 0, .int .i64 0, .bool false, .int .i64 0, .string ⟨#[]⟩, .int .u32 0, .string ⟨#[]⟩, .int .i64 0, .int .u64 0, .int .i64 0, .bool false, .bool false, .int .u64 0, .bool false, .bool false, .bool false, .slice none 0 0]
theorem st_1 (w : World) : (storeCells ⟨w.heap.size, 0, none⟩ E1L).run Tryz.prog (w.alloc (.cells EZ 136)) = .ok () (w.alloc (.cells E1L.toArray 136)) := run_storeCells_new w _ EZ E1L.toArray szE' (by rfl) (by simp [E1L, E2L, Value.oneCell'])
theorem st_2 (w : World) : (storeCells ⟨w.heap.size, 0, none⟩ E2L).run Tryz.prog (w.alloc (.cells EZ 136)) = .ok () (w.alloc (.cells E2L.toArray 136)) := run_storeCells_new w _ EZ E2L.toArray szE' (by rfl) (by simp [E1L, E2L, Value.oneCell'])
theorem ev1_L : evC k7 ev1 = E1L := rfl
theorem ev2_L : evC k7 ev2 = E2L := rfl
theorem goes_1 {wb mb : Nat} {w : World} (hR : (many [wAR wb (.slice none 0 0) 0 mb, mapT mb 0 none, emp]).R w) :
    Calls Tryz.prog 149 #[.pointer (some ⟨wb, 0, none⟩), .agg E1L.toArray] w fun e w' => e = .returned (.bool true) ∧ ∃ g cap, Turn (many [wAR wb (.slice none 0 0) 0 mb, mapT mb 0 none, emp]) (many [wAR wb (.slice (some ⟨g, 0, none⟩) 1 cap) 1 mb, mapT mb 1 (some 1), rowI g cap k7 3 v8 1 0]) w w' :=
  goes_gen (cas := 0) (cas2 := 1) (sq := 1) (by decide) (by decide) (.inl ⟨rfl, rfl⟩) (by decide) hR (fun W h1 h2 => (live_none h1).mono (fun e w' hh => ⟨none, 0, 0, emp, hh.1, ⟨trivial, hh.2, fun b hb => hb.elim⟩, fun W2 _ =>
    apply_set_no (cas := 0) (key := k7) (value := v8) (flags := 3) (tok := 0) (delta := 0) (cm_ok key_k (.set 3 PM.vV) ⟨by decide, PM.vV_ok⟩) (by decide) (by decide) (by decide)⟩))
theorem goes_2 {wb mb g cap : Nat} {w : World} (hR : (many [wAR wb (.slice (some ⟨g, 0, none⟩) 1 cap) 1 mb, mapT mb 1 (some 1), rowI g cap k7 3 v8 1 0]).R w) :
    Calls Tryz.prog 149 #[.pointer (some ⟨wb, 0, none⟩), .agg E2L.toArray] w fun e w' => e = .returned (.bool true) ∧ ∃ g' cap', Turn (many [wAR wb (.slice (some ⟨g, 0, none⟩) 1 cap) 1 mb, mapT mb 1 (some 1), rowI g cap k7 3 v8 1 0]) (many [wAR wb (.slice (some ⟨g', 0, none⟩) 1 cap') 1 mb, mapT mb 2 (some 2), rowI g' cap' k7 3 v8 1 1]) w w' :=
  goes_gen (cas := 1) (cas2 := 1) (sq := 2) (by decide) (by decide) (.inr ⟨rfl, rfl⟩) (by decide) hR (fun W h1 h2 => (live_one h1 h2).mono (fun e w' hh => by
    obtain ⟨g', cap', e1, hm⟩ := hh
    refine ⟨some ⟨g', 0, none⟩, 1, cap', rowI g' cap' k7 3 v8 1 0, e1, hm, fun W2 hr => ?_⟩
    exact apply_get_is (cas := 1) (key := k7) (value := ⟨#[]⟩) (flags := 0) (tok := 0) (hasCas := false) (delta := 0) (cm_ok key_k .get trivial) (by decide) (by decide) (by decide) (fun j u hj => by rw [row_at hr j (List.getElem?_eq_some_iff.1 hj).1]; exact hj)))
set_option maxHeartbeats 1000000 in
theorem run_ok {g cap : Nat} {w : World} (hR : (rowAt (.slice (some ⟨g, 0, none⟩) 2 cap) 136 35 2 (evC k7 ev1 ++ evC k7 ev2)).R w) :
    Calls Tryz.prog 83 #[.slice (some ⟨g, 0, none⟩) 2 cap, .int .i64 472] w fun e w' => ∃ wb, e = .returned (.tuple #[.pointer (some ⟨wb, 0, none⟩), .int .i64 (-1)]) ∧ Below w.heap.size w w' := by
  have hmm : ∀ w : World, (Instr.makeMap 244 none).run Tryz.prog w = .ok (.map (some w.heap.size)) (w.alloc (.map #[] 0)) := fun w => by rfl
  have hlt : g < w.heap.size := (rowAt (.slice (some ⟨g, 0, none⟩) 2 cap) 136 35 2 (evC k7 ev1 ++ evC k7 ev2)).lt hR rfl
  have HRG : Hid (∀ w', Below w.heap.size w w' → w'.rangeAt g 0 E1L ∧ w'.rangeAt g 35 E2L) := Lib.hid (fun w' hb => by
    have h1 := (rowAt (.slice (some ⟨g, 0, none⟩) 2 cap) 136 35 2 (evC k7 ev1 ++ evC k7 ev2)).keep hR (Tch.of_below (fun _ => False) hb) (fun _ _ x => x)
    rw [ev1_L, ev2_L] at h1
    have hl : (E1L ++ E2L).length = 70 := rfl
    refine ⟨fun j v hv => ?_, fun j v hv => ?_⟩
    · have hj : j < 35 := (List.getElem?_eq_some_iff.1 hv).1
      rw [row_at h1 (0 + j) (by rw [hl]; omega), Nat.zero_add, List.getElem?_append_left hj]; exact hv
    · have hj : j < 35 := (List.getElem?_eq_some_iff.1 hv).1
      rw [row_at h1 (35 + j) (by rw [hl]; omega), List.getElem?_append_right (show 35 ≤ 35 + j by omega)]
      rw [show 35 + j - E1L.length = j from by show 35 + j - 35 = j; omega]; exact hv)
  have M0 : Made (mapT w.heap.size 0 none) w (w.alloc (.map #[] 0)) := ⟨mapT_new w, below_alloc' w _, fun b hb => by have e : b = w.heap.size := hb; omega⟩
  have J := ((Hav.none w).made M0).cells (wA (.slice none 0 0) 0 w.heap.size) 246
  have J2 := hav_add (r := emp) J trivial (fun b hb => hb)
  simp only [World.size_alloc] at J2
  have HJ : Hid (Hav (fun _ => False) w [wAR (w.heap.size + 1) (.slice none 0 0) 0 w.heap.size, mapT w.heap.size 0 none, emp] ((w.alloc (.map #[] 0)).alloc (.cells (wA (.slice none 0 0) 0 w.heap.size) 246))) := Lib.hid (J2.sel [1, 2, 0] (by decide) rfl)
  unfold wA at HJ
  clear M0 J J2 hR
  go_enter Tryz.func83, Tryz.ntmps83
  go_wp2_with (fail)
  obtain ⟨mb, hmb⟩ : ∃ mb, w.heap.size = mb := ⟨_, rfl⟩
  obtain ⟨W, hW⟩ : ∃ W, (w.alloc (.map #[] 0)).alloc (.cells #[.slice none 0 0, .int .u64 0, .int .i64 0, .int .i64 1, .map (some w.heap.size), .int .i64 472] 246) = W := ⟨_, rfl⟩
  have HJ0 := HJ.out
  rw [hW, hmb] at HJ0
  rw [hW]
  rw [hmb]
  have HJ1 : Hid (Hav (fun _ => False) w [wAR (mb + 1) (.slice none 0 0) 0 mb, mapT mb 0 none, emp] W) := Lib.hid HJ0
  clear HJ0 hW hmb HJ
  go_loopw [15] (fun i wr => (i = .int .i64 0 ∧ Hid (Hav (fun _ => False) w [wAR (mb + 1) (.slice none 0 0) 0 mb, mapT mb 0 none, emp] wr)) ∨ (∃ g1 c1, i = .int .i64 1 ∧ Hid (Hav (fun _ => False) w [wAR (mb + 1) (.slice (some ⟨g1, 0, none⟩) 1 c1) 1 mb, mapT mb 1 (some 1), rowI g1 c1 k7 3 v8 1 0] wr)) ∨ (i = .int .i64 2 ∧ Hid (Below w.heap.size w wr))) (fun i _ => 2 - (intOf i).toNat)
  case atStart => exact .inl ⟨rfl, HJ1⟩
  case round =>
    rcases hrel with ⟨rfl, hs⟩ | ⟨g1, c1, rfl, hs⟩ | ⟨rfl, hs⟩
    · have hbw := (hs.out.made0 0 rfl).bel
      have HL := Lib.hid (HRG.out wr hbw).1
      have HST := st_1 wr
      unfold EZ at HST
      have HT2 := Lib.hid (range_at 0 (Made.cells wr E1L.toArray 136).here E1L rfl)
      have HGo := Lib.hid (goes_1 (w := wr.alloc (.cells E1L.toArray 136)) (hav_many (hs.out.alloc (.cells E1L.toArray 136))))
      go_wp2_with (first
        | (refine wpList_load_mid rfl 136 _ rfl g 0 (by rfl) E1L _ HL.out Tryz.underlying136 rfl szE' ?_)
        | (refine wpList_load_mid rfl 136 _ rfl wr.heap.size 0 (by rfl) E1L _ HT2.out Tryz.underlying136 rfl szE' ?_)
        | (go_at_call 149; refine HGo.out.mono ?_; rintro e w2 ⟨rfl, hh⟩; have HH := Lib.hid hh; clear hh))
      go_roundw
      case rel =>
        obtain ⟨g1, c1, ht⟩ := HH.out
        exact .inr (.inl ⟨g1, c1, rfl, Lib.hid (hav_manyTurn (hs.out.alloc _) ht)⟩)
      case measure => simp [intOf]
    · have hbw := (hs.out.made0 0 rfl).bel
      have HL := Lib.hid (HRG.out wr hbw).2
      have HST := st_2 wr
      unfold EZ at HST
      have HT2 := Lib.hid (range_at 0 (Made.cells wr E2L.toArray 136).here E2L rfl)
      have HGo := Lib.hid (goes_2 (w := wr.alloc (.cells E2L.toArray 136)) (hav_many (hs.out.alloc (.cells E2L.toArray 136))))
      go_wp2_with (first
        | (refine wpList_load_mid rfl 136 _ rfl g 35 (by rfl) E2L _ HL.out Tryz.underlying136 rfl szE' ?_)
        | (refine wpList_load_mid rfl 136 _ rfl wr.heap.size 0 (by rfl) E2L _ HT2.out Tryz.underlying136 rfl szE' ?_)
        | (go_at_call 149; refine HGo.out.mono ?_; rintro e w2 ⟨rfl, hh⟩; have HH := Lib.hid hh; clear hh))
      go_roundw
      case rel =>
        obtain ⟨g2, c2, ht⟩ := HH.out
        exact .inr (.inr ⟨rfl, Lib.hid ((hav_manyTurn (hs.out.alloc _) ht).made0 0 rfl).bel⟩)
      case measure => simp [intOf]
    · go_wp2_with (fail)
      go_ret2
      exact ⟨_, rfl, hs.out⟩
theorem check_ok : ChkOk k7 := fun g cap w hR => by
  have HR := Lib.hid (run_ok hR)
  clear hR
  go_enter Tryz.func31, Tryz.ntmps31
  go_wp2_with (go_at_call 83; refine HR.out.mono ?_; rintro e w1 ⟨wb, rfl, h1⟩)
  go_ret
  exact ⟨rfl, h1⟩
end Go.Proofs.YtboehbfagnocpaaGreatDoor
namespace Go.Proofs.YtboehbfagnocpaaGreatDoor
open Go.RowKit Go.ChangeShapes Go.WideShapes Go.ChangeAt
theorem ri_of {H : Type} {enc : TypeId × Value → H} {W : World} {a0 : Option Addr} {len cap : Nat} {d : DataW H} {p : List MemPlace}
    (h : DataW.Trod enc Tryz.prog W 0 (fun _ => true) true 39 (.slice a0 len cap) d p) : ∃ l : List Int, RI W (.slice a0 len cap) l ∧ I64s l ∧ l.length = len ∧ len ≤ cap ∧ cap ≤ maxLen ∧ (len = 0 ∨ ∃ els sp, d = .slice els sp ∧ els.length = len) := by
  obtain ⟨fuel, hf⟩ := h
  rcases open_ints Tryz.underlying39 Tryz.underlying3 (by kernel_rfl) hf with ⟨hcs, _⟩ | ⟨y, l, c, zs, hcs, _, hl, hm, hz, hx, hcell, hwf⟩
  · simp [Value.cells] at hcs
    obtain ⟨rfl, rfl, rfl⟩ := hcs
    exact ⟨[], ⟨none, 0, rfl, fun h => absurd rfl h⟩, fun x hx => by simp at hx, rfl, Nat.le_refl _, Nat.zero_le _, .inl rfl⟩
  · simp [Value.cells] at hcs
    obtain ⟨rfl, rfl, rfl⟩ := hcs
    simp only [if_true] at hz
    have hlen : (zs.take len).length = len := by simp; omega
    refine ⟨zs.take len, ⟨some y, cap, by rw [hlen], fun hne => ?_⟩, fun x hx => bd_i64 (hwf x (List.mem_of_mem_take hx)), hlen, hl, hm, .inr ⟨_, _, (Prod.mk.inj hx).1, by simp [lits]; omega⟩⟩
    have hpos : 0 < len := by
      rcases Nat.eq_zero_or_pos len with h0 | h0
      · subst h0; simp at hne
      · exact h0
    obtain ⟨b, off, spot⟩ := y
    have hc := hcell 0 (by omega)
    have hspot : spot = none := by simpa [Addr.add] using World.cell?_spot hc
    subst hspot
    refine ⟨b, off, rfl, fun i hi => ?_⟩
    have := hcell i (by omega)
    rw [Addr.add_lit] at this
    rw [this]
    simp [show i < len by omega]
end Go.Proofs.YtboehbfagnocpaaGreatDoor
namespace Go.Proofs.YtboehbfagnocpaaGreatDoor
open Go.ChangeShapes Go.WideShapes Go.ChangeAt Go.RowKit
noncomputable def laidWorld (os : Os) : World := World.laidAll Tryz.prog os Rows.topCasRow.laid
set_option maxRecDepth 100000 in
theorem laid_met (os : Os) (args : Array Value) : laidMet Tryz.prog Rows.topCasRow.laid ((laidWorld os).forCall (fun _ _ => 0) ⟨#[], args, []⟩).memory :=
  laidMet_laidAll args (by kernel_rfl) (by kernel_rfl)
end Go.Proofs.YtboehbfagnocpaaGreatDoor
namespace Go.Proofs.YtboehbfagnocpaaGreatDoor
open Go.RowKit Go.PlainAid Go.Shelf
open SP
open PM (Cd An Sd Vl)
theorem do_all {key : ByteArray} {h : Int} {bk nw ns nc : Nat} (hk : KeyI key h bk) : DoAll key h bk nw ns nc := fun p s w wi k hR hw hkk hp ho hnn htok hi hx hd hni hev =>
  sdoit_ok hk hR hw hkk hp ho hnn htok hi hx hd hni hev
theorem new_ok4 {key : ByteArray} {h : Int} {bk : Nat} : NewOk key h bk 1 4 4 5 := fun w => new_44 true rfl w
theorem new_ok1 {key : ByteArray} {h : Int} {bk : Nat} : NewOk key h bk 0 1 1 9 := fun w => new_11 false rfl w
theorem ev_ok {key : ByteArray} {h : Int} {bk : Nat} : EvOk key h bk := fun p s w he hR => events_ok he hR
theorem topcas_walk {w : World} {a : Option Addr} {n cap : Nat} {l : List Int} (hp : RI w (.slice a n cap) l) (hl : l.length = n) :
    Calls Tryz.prog 7 #[.slice a n cap] w fun e w' => e = .returned (.bool true) ∧ Below w.heap.size w w' :=
  cas_walk key_k (.inl rfl) (do_all key_k) (fun w => works_ok key_k (do_all key_k) new_ok1 ev_ok check_ok w) (fun w => town_ok new_ok4 w) hp hl
end Go.Proofs.YtboehbfagnocpaaGreatDoor
