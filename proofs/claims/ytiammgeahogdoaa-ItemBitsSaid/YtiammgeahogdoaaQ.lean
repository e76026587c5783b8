/- two items compared. -/
import Derived.Test.YtiammgeahogdoaaH
namespace Go.Proofs.Ytiammgeahogdoaa
open Go.RowKit Go.PlainAid
set_option linter.unusedVariables false
set_option linter.unusedSimpArgs false

theorem toList_inj (a b : ByteArray) : a.toList = b.toList ↔ a = b := by
  rw [ByteArray.toList_eq, ByteArray.toList_eq]
  constructor
  · intro h; exact ByteArray.ext (Array.ext' h)
  · rintro rfl; rfl

/-- are two items the same? -/
def itemEq (k v : ByteArray) (fl ex ca la : Int) (st wo : Bool) (k' v' : ByteArray) (fl' ex' ca' la' : Int) (st' wo' : Bool) : Bool :=
  decide (k = k' ∧ fl = fl' ∧ v = v' ∧ ex = ex' ∧ ca = ca' ∧ la = la' ∧ st = st' ∧ wo = wo')

theorem run_eq_item (k v : ByteArray) (fl ex ca la : Int) (st wo : Bool) (k' v' : ByteArray) (fl' ex' ca' la' : Int) (st' wo' : Bool) (w : World) :
    (binOp .eql 25 (.agg #[.string k, .int .u32 fl, .string v, .int .i64 ex, .int .u64 ca, .int .i64 la, .bool st, .bool wo]) (.agg #[.string k', .int .u32 fl', .string v', .int .i64 ex', .int .u64 ca', .int .i64 la', .bool st', .bool wo'])).run Try.prog w =
      .ok (.bool (itemEq k v fl ex ca la st wo k' v' fl' ex' ca' la' st' wo')) w := by
  have hp : Try.prog.stoodInHeld 25 = false := by kernel_rfl
  unfold itemEq
  simp only [binOp]
  simp [Op.equal, Op.maxDepth, run_equalIn_struct w _ 25 _ _ Try.underlying25 hp, go_sem, toList_inj]
  by_cases h1 : k = k'
  · by_cases h2 : fl = fl'
    · by_cases h3 : v = v'
      · by_cases h4 : ex = ex'
        · by_cases h5 : ca = ca'
          · by_cases h6 : la = la'
            · by_cases h7 : st = st'
              · by_cases h8 : wo = wo' <;> simp [h1, h2, h3, h4, h5, h6, h7, h8]
              · simp [h1, h2, h3, h4, h5, h6, h7]
            · simp [h1, h2, h3, h4, h5, h6]
          · simp [h1, h2, h3, h4, h5]
        · simp [h1, h2, h3, h4]
      · simp [h1, h2, h3]
    · simp [h1, h2]
  · simp [h1]
end Go.Proofs.Ytiammgeahogdoaa
