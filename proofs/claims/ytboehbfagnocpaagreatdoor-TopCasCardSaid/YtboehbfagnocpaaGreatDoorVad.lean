/- Sfe. -/
import Derived.Test.YtboehbfagnocpaaGreatDoorVac
import Derived.Deep.RegionLaw
set_option linter.unusedVariables false
set_option linter.unusedSimpArgs false
set_option maxRecDepth 100000
namespace Go.Proofs.YtboehbfagnocpaaGreatDoor
open Go.RowKit Go.PlainAid
open SP
def ownC (π : Pi) (p : Nat) : Nat := (π.ow[p]?.getD 0 - 1).toNat
theorem usedP_inv {π : Pi} {ch : Int} (h : usedP π ch = true) : ∃ p i g, ch = ((p * 4096 + i : Nat) : Int) ∧ i < 4096 ∧ π.page p = some g ∧ i < g.used.length ∧ g.used[i]?.getD false = true := by
  unfold usedP at h
  split at h
  · cases h
  · split at h
    · cases h
    · rename_i h0 x hx
      rw [Bool.and_eq_true, decide_eq_true_eq] at h
      exact ⟨(ch / 4096).toNat, (ch % 4096).toNat, x, by omega, by omega, hx, h.1, h.2⟩
theorem count_on {l : List Bool} {i : Nat} (h : i < l.length) (hv : l[i]?.getD false = false) : (l.set i true).count true = l.count true + 1 := by
  have e : l[i] = false := by rw [List.getElem?_eq_getElem h] at hv; exact hv
  have h1 := List.count_set (a := true) (b := true) (l := l) h
  simp [e] at h1
  omega
theorem used_at {w : World} {β : Bk} {π : Pi} {L : Nat} (h : Mem w β π L) (hw : Wf π L) (ch : Int) (hch : ch ≤ 9223372036854775807) {b : Bool} (hb : usedP π ch = b) :
    Calls Tryz.prog 229 #[.pointer (some ⟨β.sb, 0, none⟩), .int .i64 ch] w fun e w' => e = .returned (.bool b) ∧ w = w' := by rw [← hb]; exact used_any h hw ch hch
end Go.Proofs.YtboehbfagnocpaaGreatDoor
