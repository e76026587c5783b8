/- the laws' small case. -/
import Derived.Test.YtkajdnaanipngaaDoorD
namespace Go.Proofs.YtkajdnaanipngaaDoor
open Go.RowKit Go.PlainAid
set_option linter.unusedVariables false
set_option linter.unusedSimpArgs false

def BoolPost (w : World) (e : Ending) (w' : World) : Prop := e = .returned (.bool true) ∧ Below w.heap.size w w'
theorem sh1 : P.decS ⟨#[90, 109, 57, 118, 89, 103, 61, 61]⟩ = ⟨#[102, 111, 111, 98]⟩ ∧ P.okD ⟨#[90, 109, 57, 118, 89, 103, 61, 61]⟩ = true := by decide +kernel
theorem sh2 : P.okD ⟨#[90, 104, 61, 61]⟩ = false := by decide +kernel
theorem sh3 : strOfNums (P.encS ⟨#[102, 111, 111, 98]⟩) = ⟨#[90, 109, 57, 118, 89, 103, 61, 61]⟩ := by decide +kernel

theorem encode_at {s : ByteArray} {t : ByteArray} {w : World} (hs : s.size ≤ 100000000) (ht : strOfNums (P.encS s) = t) {w0 : World} (hb : Below w0.heap.size w0 w) :
    Calls Tryd.prog 10 #[.string s] w fun e w' => e = .returned (.string t) ∧ Below w0.heap.size w0 w' := by
  subst ht
  refine (encode_any s w hs).mono ?_
  rintro e w' ⟨rfl, h⟩
  exact ⟨rfl, hb.trans (h.mono hb.size)⟩
theorem decode_at {s : ByteArray} {t : ByteArray} {b : Bool} {w : World} (hs : s.size ≤ 1000000000) (ht : P.decS s = t) (hb : P.okD s = b) {w0 : World} (hbl : Below w0.heap.size w0 w) :
    Calls Tryd.prog 12 #[.string s] w fun e w' => e = .returned (.tuple #[.string t, .bool b]) ∧ Below w0.heap.size w0 w' := by
  subst ht hb
  refine (decode_any s w hs).mono ?_
  rintro e w' ⟨rfl, h⟩
  exact ⟨rfl, hbl.trans (h.mono hbl.size)⟩

set_option maxRecDepth 100000 in
theorem shown_any (w : World) : Calls Tryd.prog 9 #[] w (BoolPost w) := by
  go_enter Tryd.func9, Tryd.ntmps9
  go_wp2_with (fail)
  refine (decode_at (w0 := w) (by decide) sh1.1 sh1.2 (Below.refl _ _)).mono ?_
  rintro e w1 ⟨rfl, hb1⟩
  go_wp2_with (fail)
  refine (decode_at (w0 := w) (by decide) (P.dec_no sh2) sh2 hb1).mono ?_
  rintro e w2 ⟨rfl, hb2⟩
  go_wp2_with (fail)
  refine (encode_at (w0 := w) (by decide) sh3 hb2).mono ?_
  rintro e w3 ⟨rfl, hb3⟩
  go_wp2_with (fail)
  go_ret
  exact ⟨rfl, hb3⟩
end Go.Proofs.YtkajdnaanipngaaDoor
