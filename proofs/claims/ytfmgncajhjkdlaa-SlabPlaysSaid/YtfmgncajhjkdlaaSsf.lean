/- a slab of one's own, with its marks. -/
import Derived.Test.YtfmgncajhjkdlaaSsh
import Derived.Test.YtfmgncajhjkdlaaScn
namespace Go.Proofs.Ytfmgncajhjkdlaa
open Go.RowKit Go.PlainAid
open SP
set_option linter.unusedVariables false
set_option linter.unusedSimpArgs false

/-- a slab at sb, all of whose blocks are among Y -/
def Sf (Y : Nat → Prop) (sb : Nat) (w : World) (π : Pi) (L : Nat) : Prop := ∃ β, β.sb = sb ∧ Mem w β π L ∧ Wf π L ∧ (∀ b, foot β π b → Y b) ∧ (∀ b, Y b → b < w.heap.size)
theorem Sl.sf {B sb : Nat} {w : World} {π : Pi} {L : Nat} (h : Sl B sb w π L) : ∃ Y, Sf Y sb w π L ∧ ∀ b, Y b → B ≤ b := by
  obtain ⟨β, h1, h2, h3, h4, h5⟩ := h
  exact ⟨foot β π, ⟨β, h1, h2, h3, fun _ h => h, fun b ⟨i, hi⟩ => h2.lt i b hi⟩, h4⟩
theorem Sf.keep {Y Z : Nat → Prop} {sb : Nat} {w w' : World} {π : Pi} {L : Nat} (h : Sf Y sb w π L) (ht : Tch Z w w') (hd : ∀ b, Y b → ¬ Z b) : Sf Y sb w' π L := by
  obtain ⟨β, h1, h2, h3, h4, h5⟩ := h
  exact ⟨β, h1, h2.keep ht (fun b hb => hd b (h4 b hb)), h3, h4, fun b hb => Nat.lt_of_lt_of_le (h5 b hb) ht.size⟩
theorem Sf.below {Y : Nat → Prop} {sb : Nat} {w w' : World} {π : Pi} {L : Nat} (h : Sf Y sb w π L) (hb : Below w.heap.size w w') : Sf Y sb w' π L := h.keep (Tch.of_below (fun _ => False) hb) (fun _ _ h => h)
theorem Sf.wf {Y : Nat → Prop} {sb : Nat} {w : World} {π : Pi} {L : Nat} (h : Sf Y sb w π L) : Wf π L := by obtain ⟨β, h1, h2, h3, _⟩ := h; exact h3
theorem Sf.more {Y : Nat → Prop} {sb : Nat} {w : World} {π : Pi} {L L' : Nat} (h : Sf Y sb w π L) (hl : L ≤ L') (hm : L' ≤ 100000000) : Sf Y sb w π L' := by obtain ⟨β, q1, q2, q3, q4, q5⟩ := h; exact ⟨β, q1, q2.more hl, q3.mono hl hm, q4, q5⟩
theorem Sf.ylt {Y : Nat → Prop} {sb : Nat} {w : World} {π : Pi} {L : Nat} (h : Sf Y sb w π L) : ∀ b, Y b → b < w.heap.size := by obtain ⟨β, h1, h2, h3, h4, h5⟩ := h; exact h5
def Nx (Y : Nat → Prop) (sb : Nat) (w : World) (π' : Pi) (L' : Nat) (w' : World) : Prop := ∃ Y', Sf Y' sb w' π' L' ∧ Tch Y w w' ∧ ∀ b, Y' b → Y b ∨ w.heap.size ≤ b
theorem Sf.nx {Y : Nat → Prop} {w w' : World} {β β' : Bk} {π π' : Pi} {L' : Nat} (hf : ∀ b, foot β π b → Y b) (hm : Mem w' β' π' L') (hw : Wf π' L') (hs : Step w β π w' β' π') : Nx Y β.sb w π' L' w' :=
  ⟨foot β' π', ⟨β', hs.sb, hm, hw, fun _ h => h, fun b ⟨i, hi⟩ => hm.lt i b hi⟩, hs.tch.mono hf, fun b hb => (hs.ft b hb).imp_left (hf b)⟩
theorem alloc_f {Y : Nat → Prop} {sb : Nat} {w : World} {π : Pi} {L : Nat} (h : Sf Y sb w π L) (c : Int) (hm : L + 2000 ≤ 100000000) {r : Int} {k : Nat} (hr : alC π c = r ∧ alOk π c = k) :
    Calls Try.prog 10 #[.pointer (some ⟨sb, 0, none⟩), .int .i64 c] w fun e w' => e = .returned (.tuple #[.int .i64 r, .int .i64 (k : Nat)]) ∧ Nx Y sb w (alS π c) (L + 2000) w' := by
  obtain ⟨β, rfl, h2, h3, h4, h5⟩ := h
  rw [← hr.1, ← hr.2]
  refine (alloc_any h2 h3 c hm).mono ?_
  rintro e w' ⟨he, β', hM, hS⟩
  exact ⟨he, Sf.nx h4 hM (h3.alS c hm) hS⟩
theorem free_f {Y : Nat → Prop} {sb : Nat} {w : World} {π : Pi} {L : Nat} (h : Sf Y sb w π L) (c : Int) (hc : c ≤ 9223372036854775807) (hm : L + 2000 ≤ 100000000) {k : Nat} (hk : frE π c = k) :
    Calls Try.prog 12 #[.pointer (some ⟨sb, 0, none⟩), .int .i64 c] w fun e w' => e = .returned (.int .i64 (k : Nat)) ∧ Nx Y sb w (frS π c) (L + 2000) w' := by
  obtain ⟨β, rfl, h2, h3, h4, h5⟩ := h
  rw [← hk]
  refine (free_any h2 h3 c hc hm).mono ?_
  rintro e w' ⟨he, β', hM, hS⟩
  exact ⟨he, Sf.nx h4 hM (h3.frS c hm) hS⟩
theorem close_f {Y : Nat → Prop} {sb : Nat} {w : World} {π : Pi} {L : Nat} (h : Sf Y sb w π L) (p : Int) (hp : -9223372036854775808 ≤ p ∧ p ≤ 9223372036854775807) (hm : L + 2000 ≤ 100000000) {k : Nat} (hk : clE π p = k) :
    Calls Try.prog 15 #[.pointer (some ⟨sb, 0, none⟩), .int .i64 p] w fun e w' => e = .returned (.int .i64 (k : Nat)) ∧ Nx Y sb w (clS π p) (L + 2000) w' := by
  obtain ⟨β, rfl, h2, h3, h4, h5⟩ := h
  rw [← hk]
  refine (close_any h2 h3 p hp hm).mono ?_
  rintro e w' ⟨he, β', hM, hS⟩
  exact ⟨he, Sf.nx h4 hM (h3.clS p hm) hS⟩
theorem move_f {Y : Nat → Prop} {sb : Nat} {w : World} {π : Pi} {L : Nat} (h : Sf Y sb w π L) (p c : Int) (hp : -9223372036854775808 ≤ p ∧ p ≤ 9223372036854775807) (hm : L + 2000 ≤ 100000000) {k : Nat} (hk : mvE π p c = k) :
    Calls Try.prog 16 #[.pointer (some ⟨sb, 0, none⟩), .int .i64 p, .int .i64 c] w fun e w' => e = .returned (.int .i64 (k : Nat)) ∧ Nx Y sb w (mvS π p c) (L + 2000) w' := by
  obtain ⟨β, rfl, h2, h3, h4, h5⟩ := h
  rw [← hk]
  refine (move_any h2 h3 p c hp hm).mono ?_
  rintro e w' ⟨he, β', hM, hS⟩
  exact ⟨he, Sf.nx h4 hM (h3.mvS p c hm) hS⟩
theorem used_f {Y : Nat → Prop} {sb : Nat} {w : World} {π : Pi} {L : Nat} (h : Sf Y sb w π L) (c : Int) (hc : c ≤ 9223372036854775807) {b : Bool} (hb : usedP π c = b) :
    Calls Try.prog 11 #[.pointer (some ⟨sb, 0, none⟩), .int .i64 c] w fun e w' => e = .returned (.bool b) ∧ w = w' := by
  obtain ⟨β, rfl, h2, h3, h4, h5⟩ := h
  rw [← hb]
  exact used_any h2 h3 c hc
theorem open_f {Y : Nat → Prop} {sb : Nat} {w : World} {π : Pi} {L : Nat} (h : Sf Y sb w π L) (p : Int) (hp : -9223372036854775808 ≤ p ∧ p ≤ 9223372036854775807) (hm : L + 2000 ≤ 100000000) {k : Nat} (hk : opE π p = k) :
    Calls Try.prog 18 #[.pointer (some ⟨sb, 0, none⟩), .int .i64 p] w fun e w' => e = .returned (.int .i64 (k : Nat)) ∧ Nx Y sb w (opS π p) (L + 2000) w' := by
  obtain ⟨β, rfl, h2, h3, h4, h5⟩ := h
  rw [← hk]
  refine (open_any h2 h3 p hp hm).mono ?_
  rintro e w' ⟨he, β', hM, hS⟩
  exact ⟨he, Sf.nx h4 hM (h3.opS p hm) hS⟩
theorem where_f {Y : Nat → Prop} {sb : Nat} {w : World} {π : Pi} {L : Nat} (h : Sf Y sb w π L) (ch : Int) (hc : ch ≤ 9223372036854775807) {p a s : Int} (hr : whP π ch = p ∧ whA π ch = a ∧ whS π ch = s) :
    Calls Try.prog 13 #[.pointer (some ⟨sb, 0, none⟩), .int .i64 ch] w fun e w' => e = .returned (.tuple #[.int .i64 p, .int .i64 a, .int .i64 s]) ∧ ∃ n, w' = w.drewN n := by
  obtain ⟨β, rfl, h2, h3, h4, h5⟩ := h
  rw [← hr.1, ← hr.2.1, ← hr.2.2]
  exact where_any h2 h3 ch hc
theorem counts_f {Y : Nat → Prop} {sb : Nat} {w : World} {π : Pi} {L : Nat} (h : Sf Y sb w π L) (c : Int) {p u f : Int} (hr : coP π c = p ∧ coU π c = u ∧ coF π c = f) :
    Calls Try.prog 14 #[.pointer (some ⟨sb, 0, none⟩), .int .i64 c] w fun e w' => e = .returned (.tuple #[.int .i64 p, .int .i64 u, .int .i64 f]) ∧ Below w.heap.size w w' := by
  obtain ⟨β, rfl, h2, h3, h4, h5⟩ := h
  rw [← hr.1, ← hr.2.1, ← hr.2.2]
  exact counts_any h2 h3 c
theorem chunks_f {Y : Nat → Prop} {sb : Nat} {w : World} {π : Pi} {L : Nat} (h : Sf Y sb w π L) (p : Int) (hp : -9223372036854775808 ≤ p ∧ p ≤ 9223372036854775807) {l : List Int} (hl : chL π p = l) :
    Calls Try.prog 17 #[.pointer (some ⟨sb, 0, none⟩), .int .i64 p] w fun e w' => ∃ v, e = .returned v ∧ w'.ownsRow w.heap.size 3 1 v l.length (l.map (.int .i64)) ∧ Below w.heap.size w w' := by
  obtain ⟨β, rfl, h2, h3, h4, h5⟩ := h
  rw [← hl]
  exact chunks_any h2 h3 p hp
/-- what lies apart from the slab lies on -/
theorem Nx.below {Y : Nat → Prop} {sb : Nat} {w0 w w' : World} {π' : Pi} {L' B : Nat} (h : Nx Y sb w π' L' w') (hb : Below B w0 w) (hB : B ≤ w.heap.size) (hY : ∀ b, Y b → B ≤ b) : ∃ Y', Sf Y' sb w' π' L' ∧ Tch Y w w' ∧ (∀ b, Y' b → Y b ∨ w.heap.size ≤ b) ∧ (∀ b, Y' b → B ≤ b) ∧ Below B w0 w' := by
  obtain ⟨Y', h1, h2, h3⟩ := h
  refine ⟨Y', h1, h2, h3, fun b hb => ?_, h2.below hb hB hY⟩
  rcases h3 b hb with h4 | h4
  · exact hY b h4
  · omega
end Go.Proofs.Ytfmgncajhjkdlaa
