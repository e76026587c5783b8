/-
  ItemApart returns true at every input: the row's step round the walk 'apart_walk k0' val0 fl0 ex0 ca0 la0 st0 wo0 k1' val1 fl1 ex1 ca1 la1 st1 wo1 W hk0 hv0 (bd_u32 wf0).1 (bd_u32 wf0).2 (bd_i64 we0).2 (bd_u64 wc0).1 (bd_u64 wc0).2 (bd_i64 wl0).2 hk1 hv1 (bd_u32 wf1).1 (bd_u32 wf1).2 (bd_i64 we1).2 (bd_u64 wc1).1 (bd_u64 wc1).2 (bd_i64 wl1).2', written by a program of mine (wip/frame.py).
-/
import Derived.Test.YtiammgeahogdoaaI
import Derived.Test.YtiammgeahogdoaaO
import Derived.ProofKit
import Derived.OpenShut
import Derived.ShutString
import Derived.ChangeOld
import Derived.Below
namespace Go.Proofs.Ytiammgeahogdoaa.lawItemApart
open Go.ChangeShapes Go.WideShapes Go.ChangeAt Go.RowKit
open Go.ChangeMaps (open_string shut_string)
set_option linter.unusedVariables false

theorem own : ownKnob Try.prog.godebug = none := by kernel_rfl
theorem laidOut : laidOutB Try.prog = true := by kernel_rfl

set_option maxRecDepth 100000 in
theorem lifted (os : Os) (started : os.Started) (H : Type) (enc : TypeId × Value → H) :
    ReturnsInHanded {} Try.checked os 4 .any (Rows.itemApartSpec.pre6 enc Try.prog Try.f4 Rows.itemApartRow.domain false) (Rows.itemApartSpec.post enc Try.prog Try.f4 false true false false) := by
  refine returnsInHanded_of_change (C := Try.checked) own started (by kernel_rfl) Try.func4
    (ChangeSpec.witness6 (enc := enc) (C := Try.checked) false ⟨#[], #[.agg #[.string ByteArray.empty, .int .u32 0, .string ByteArray.empty, .int .i64 0, .int .u64 0, .int .i64 0, .bool false, .bool false], .agg #[.string ByteArray.empty, .int .u32 0, .string ByteArray.empty, .int .i64 0, .int .u64 0, .int .i64 0, .bool false, .bool false]], []⟩ 8 (by kernel_rfl) (by kernel_rfl) (by kernel_rfl) (by kernel_rfl)) ?_
  intro W base args ds gs before hval0 hW hcnd _
  have hval : ∀ (j : Nat) t v, Try.f4.params[j]? = some t → args[j]? = some v → Value.okWide Try.prog W .any base t v := hval0
  have hW' := hW
  obtain ⟨p, q, hA0, hV, rfl, hfz, hnd⟩ := hW
  have hA : DataW.TrodAll enc Try.prog W 0 (fun _ => true) true Try.f4.params.toList args.toList ds p := hA0
  rw [Try.params4] at hA hval
  obtain ⟨v0, vs0, d0, ds0, p0, q0, hargs, rfl, rfl, h0, r0⟩ := trodAll_cons hA
  obtain ⟨v1, vs1, d1, ds1, p1, q1, rfl, rfl, rfl, h1, r1⟩ := trodAll_cons r0
  obtain ⟨rfl, rfl, rfl⟩ := trodAll_nil r1
  obtain rfl : args = #[v0, v1] := by cases args; simp_all
  obtain ⟨rfl, rfl⟩ := trodVars_none hV
  have k0 := h0
  have lt0 : ∀ x ∈ p0, x.block < W.heap.size := by obtain ⟨m, hm⟩ := k0; exact DataW.trod_lt m _ _ _ hm
  obtain ⟨k0', val0, fl0, ex0, ca0, la0, st0, wo0, rfl, hk0, hv0, wf0, we0, wc0, wl0⟩ := open_item (hval 0 25 v0 rfl rfl) h0
  have k1 := h1
  have lt1 : ∀ x ∈ p1, x.block < W.heap.size := by obtain ⟨m, hm⟩ := k1; exact DataW.trod_lt m _ _ _ hm
  obtain ⟨k1', val1, fl1, ex1, ca1, la1, st1, wo1, rfl, hk1, hv1, wf1, we1, wc1, wl1⟩ := open_item (hval 1 25 v1 rfl rfl) h1
  clear hA0 hval0
  refine (apart_walk k0' val0 fl0 ex0 ca0 la0 st0 wo0 k1' val1 fl1 ex1 ca1 la1 st1 wo1 W hk0 hv0 (bd_u32 wf0).1 (bd_u32 wf0).2 (bd_i64 we0).2 (bd_u64 wc0).1 (bd_u64 wc0).2 (bd_i64 wl0).2 hk1 hv1 (bd_u32 wf1).1 (bd_u32 wf1).2 (bd_i64 we1).2 (bd_u64 wc1).1 (bd_u64 wc1).2 (bd_i64 wl1).2).mono fun e W' ⟨he, bel⟩ => ?_
  subst he
  exact ⟨_, rfl, _, _, _, [], _, [], hW', trodAll_mk1 (shut_bool Try.underlying4 _), (trodAll_cons_mk (Below.trod laidOut (by kernel_rfl) (of_decide_eq_true (by kernel_rfl)) k0 bel lt0) (trodAll_cons_mk (Below.trod laidOut (by kernel_rfl) (of_decide_eq_true (by kernel_rfl)) k1 bel lt1) trodAll_mk0)), rfl, bel.frame _, fun h => by cases h⟩

theorem over : Rows.itemApartRow.holds Try.pinned (OpenSpec.ofChange Rows.itemApartSpec) :=
  OpenClaim.holds_of_wide 4 Try.f4 rfl rfl rfl rfl rfl rfl rfl ⟨rfl, rfl, rfl, rfl, rfl⟩ rfl rfl rfl rfl rfl (by kernel_rfl) Try.func4 (by kernel_rfl)
    (of_decide_eq_true (by kernel_rfl)) (by unfold Func.isWrapper; first | (rw [if_pos (by decide +kernel)]; kernel_rfl) | (rw [if_neg (by decide +kernel)]; exact ⟨rfl, rfl⟩))
    (fun os started H enc _ => lifted os started H enc)

theorem proved : Rows.ItemApartSaid := over
#print axioms proved
end Go.Proofs.Ytiammgeahogdoaa.lawItemApart
