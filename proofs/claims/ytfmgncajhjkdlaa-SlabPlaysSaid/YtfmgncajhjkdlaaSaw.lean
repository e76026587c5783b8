/- SlabApart: the walk's state. -/
import Derived.Test.YtfmgncajhjkdlaaSap
import Derived.Test.YtfmgncajhjkdlaaSsf
import Derived.Test.YtfmgncajhjkdlaaSzn
import Derived.Test.YtfmgncajhjkdlaaStw
namespace Go.Proofs.Ytfmgncajhjkdlaa
open Go.RowKit Go.PlainAid
open SP
set_option linter.unusedVariables false
set_option linter.unusedSimpArgs false

theorem put_f {Y : Nat → Prop} {sb : Nat} {w : World} {π : Pi} {L : Nat} (h : Sf Y sb w π L) (ch : Int) (hch : ch ≤ 9223372036854775807) (A : Option Addr) (n cap : Nat) (l : List Int) (hln : l.length = n) (hl : n ≤ 1000000) (hbl : π.bs.length ≤ 67108864)
    (hv : ∀ w', Tch Y w w' → RB w' (.slice A n cap) l) {k : Nat} (hk : ptOk π ch n = k) :
    Calls Try.prog 22 #[.pointer (some ⟨sb, 0, none⟩), .int .i64 ch, .slice A n cap] w fun e w' => e = .returned (.int .i64 (k : Nat)) ∧ Nx Y sb w (ptS π ch l) L w' := by
  obtain ⟨β, rfl, h2, h3, h4, h5⟩ := h
  rw [← hk]
  refine (put_any h2 h3 ch hch A n cap l hln hl hbl (fun w' ht => hv w' (ht.mono h4))).mono ?_
  rintro e w' ⟨he, β', hM, hS⟩
  exact ⟨he, Sf.nx h4 hM (h3.ptS ch l) hS⟩
theorem get_f {Y : Nat → Prop} {sb : Nat} {w : World} {π : Pi} {L : Nat} (h : Sf Y sb w π L) (ch n : Int) (hch : ch ≤ 9223372036854775807) (hn1 : -9223372036854775808 ≤ n) (hn2 : n ≤ 9223372036854775807) (hbl : π.bs.length ≤ 67108864) {k : Nat} (hk : gtOk π ch n = k) {l : List Int} (hl : gtL π ch n = l) :
    Calls Try.prog 23 #[.pointer (some ⟨sb, 0, none⟩), .int .i64 ch, .int .i64 n] w fun e w' => ∃ v B Y', e = .returned (.tuple #[v, .int .i64 (k : Nat)]) ∧ w.heap.size ≤ B ∧ w'.ownsRow B 5 1 v l.length (l.map (.int .u8)) ∧
      Sf Y' sb w' (gtS π ch n) L ∧ Tch Y w w' ∧ (∀ b, Y' b → Y b ∨ w.heap.size ≤ b) ∧ (∀ b, Y' b → b < B) := by
  obtain ⟨β, rfl, h2, h3, h4, h5⟩ := h
  rw [← hk, ← hl]
  refine (get_any h2 h3 ch n hch hn1 hn2 hbl).mono ?_
  rintro e w' ⟨v, B, β', he, hB, ho, hM, hS, hlt⟩
  exact ⟨v, B, foot β' (gtS π ch n), he, hB, ho, ⟨β', hS.sb, hM, h3.gtS ch n, fun _ h => h, fun b ⟨i, hi⟩ => hM.lt i b hi⟩, hS.tch.mono h4, fun b hb => (hS.ft b hb).imp_left (h4 b), hlt⟩

/-- a value's block lies apart from Y, from B on -/
def Far (Y : Nat → Prop) (B : Nat) (v : Value) : Prop := ∀ b, v.ownBlock = some b → ¬ Y b ∧ B ≤ b
def Two (v u : Value) : Prop := ∀ b, v.ownBlock = some b → u.ownBlock ≠ some b
/-- the slab, and the caller's three rows -/
structure AW (w0 : World) (Y : Nat → Prop) (sb : Nat) (zs : List Int) (vz : Value) (w : World) (π : Pi) (L : Nat) (hs : List Nat) (vh : Value) (ms : List Int) (vm : Value) : Prop where
  sf : Sf Y sb w π L
  z : w.ownsRow 0 3 1 vz zs.length (zs.map (.int .i64))
  h : w.ownsRow 0 3 1 vh hs.length ((asI hs).map (.int .i64))
  m : w.ownsRow 0 5 1 vm ms.length (ms.map (.int .u8))
  fz : Far Y w0.heap.size vz
  fh : Far Y w0.heap.size vh
  fm : Far Y w0.heap.size vm
  zh : Two vz vh
  zm : Two vz vm
  hm : Two vh vm
  yl : ∀ b, Y b → w0.heap.size ≤ b
  be : Below w0.heap.size w0 w
section
variable {w0 : World} {Y : Nat → Prop} {sb : Nat} {zs : List Int} {vz : Value} {w : World} {π : Pi} {L : Nat} {hs : List Nat} {vh : Value} {ms : List Int} {vm : Value}
theorem Far.nx {Y' : Nat → Prop} {w : World} {B base n : Nat} {e : TypeId} {v : Value} {xs : List Value} (h : Far Y B v) (ho : w.ownsRow base e 1 v n xs) (hy : ∀ b, Y' b → Y b ∨ w.heap.size ≤ b) : Far Y' B v := fun b hb => ⟨fun hx => by
  rcases hy b hx with h1 | h1
  · exact (h b hb).1 h1
  · obtain ⟨_, _, _, _, h2⟩ := own_cells ho hb
    omega, (h b hb).2⟩
theorem Far.own {w w' : World} {B base n : Nat} {e : TypeId} {v : Value} {xs : List Value} (h : Far Y B v) (ho : w.ownsRow base e 1 v n xs) (ht : Tch Y w w') : w'.ownsRow base e 1 v n xs := own_tchB ho ht (fun b hb => (h b hb).1)
theorem AW.step (h : AW w0 Y sb zs vz w π L hs vh ms vm) {Y' : Nat → Prop} {w' : World} {π' : Pi} {L' : Nat} (hf : Sf Y' sb w' π' L') (ht : Tch Y w w') (hy : ∀ b, Y' b → Y b ∨ w.heap.size ≤ b) : AW w0 Y' sb zs vz w' π' L' hs vh ms vm :=
  ⟨hf, h.fz.own h.z ht, h.fh.own h.h ht, h.fm.own h.m ht, h.fz.nx h.z hy, h.fh.nx h.h hy, h.fm.nx h.m hy, h.zh, h.zm, h.hm, fun b hb => by
    rcases hy b hb with h1 | h1
    · exact h.yl b h1
    · exact Nat.le_trans h.be.size h1, Tch.below h.be ht h.be.size h.yl⟩
theorem AW.nx (h : AW w0 Y sb zs vz w π L hs vh ms vm) {w' : World} {π' : Pi} {L' : Nat} (hn : Nx Y sb w π' L' w') : ∃ Y', AW w0 Y' sb zs vz w' π' L' hs vh ms vm := by
  obtain ⟨Y', h1, h2, h3⟩ := hn
  exact ⟨Y', h.step h1 h2 h3⟩
theorem AW.below (h : AW w0 Y sb zs vz w π L hs vh ms vm) {w' : World} (hb : Below w.heap.size w w') : AW w0 Y sb zs vz w' π L hs vh ms vm :=
  h.step (h.sf.below hb) (Tch.of_below _ hb) (fun _ h => .inl h)
theorem AW.more (h : AW w0 Y sb zs vz w π L hs vh ms vm) {L' : Nat} (hl : L ≤ L') (hm : L' ≤ 100000000) : AW w0 Y sb zs vz w π L' hs vh ms vm :=
  ⟨h.sf.more hl hm, h.z, h.h, h.m, h.fz, h.fh, h.fm, h.zh, h.zm, h.hm, h.yl, h.be⟩
/-- one row handed on: another row of one's own is touched, or a new one is made -/
theorem Far.fresh {Y : Nat → Prop} {w : World} {B g : Nat} (hy : ∀ b, Y b → b < w.heap.size) (hB : B ≤ w.heap.size) (hg : w.heap.size ≤ g) (n c : Nat) : Far Y B (.slice (some ⟨g, 0, none⟩) n c) := fun b hb => by
  have e : g = b := by simpa [Value.ownBlock] using hb
  subst e
  exact ⟨fun hx => by have := hy g hx; omega, by omega⟩
/-- the held row turned -/
theorem AW.held (h : AW w0 Y sb zs vz w π L hs vh ms vm) {w' : World} {hs' : List Nat} {vh' : Value} (hg : w.grownBy w' vh.ownBlock) (ho : w'.ownsRow 0 3 1 vh' hs'.length ((asI hs').map (.int .i64))) (hb : ∀ b, vh'.ownBlock = some b → vh.ownBlock = some b ∨ w.heap.size ≤ b) :
    AW w0 Y sb zs vz w' π L hs' vh' ms vm := by
  have ht := Tch.of_grown hg
  have hz : ∀ b, vz.ownBlock = some b → b < w.heap.size := fun b hb => (own_cells h.z hb).choose_spec.2.2.2
  have hm : ∀ b, vm.ownBlock = some b → b < w.heap.size := fun b hb => (own_cells h.m hb).choose_spec.2.2.2
  refine ⟨h.sf.keep ht (fun b hy hx => (h.fh b hx).1 hy), own_tchB h.z ht (fun b hb hx => h.zh b hb hx), ho, own_tchB h.m ht (fun b hb hx => h.hm b hx hb), h.fz, fun b hb' => ?_, h.fm, fun b hb' hx => ?_, h.zm, fun b hb' hx => ?_, h.yl, Tch.below h.be ht h.be.size (fun b hb => (h.fh b hb).2)⟩
  · rcases hb b hb' with h1 | h1
    · exact h.fh b h1
    · exact ⟨fun hy => by have := h.sf.ylt b hy; omega, Nat.le_trans h.be.size h1⟩
  · rcases hb b hx with h1 | h1
    · exact h.zh b hb' h1
    · have := hz b hb'; omega
  · rcases hb b hb' with h1 | h1
    · exact h.hm b h1 hx
    · have := hm b hx; omega
/-- the row of marks turned -/
theorem AW.marks (h : AW w0 Y sb zs vz w π L hs vh ms vm) {w' : World} {ms' : List Int} {vm' : Value} (hg : w.grownBy w' vm.ownBlock) (ho : w'.ownsRow 0 5 1 vm' ms'.length (ms'.map (.int .u8))) (hb : ∀ b, vm'.ownBlock = some b → vm.ownBlock = some b ∨ w.heap.size ≤ b) :
    AW w0 Y sb zs vz w' π L hs vh ms' vm' := by
  have ht := Tch.of_grown hg
  have hz : ∀ b, vz.ownBlock = some b → b < w.heap.size := fun b hb => (own_cells h.z hb).choose_spec.2.2.2
  have hh : ∀ b, vh.ownBlock = some b → b < w.heap.size := fun b hb => (own_cells h.h hb).choose_spec.2.2.2
  refine ⟨h.sf.keep ht (fun b hy hx => (h.fm b hx).1 hy), own_tchB h.z ht (fun b hb hx => h.zm b hb hx), own_tchB h.h ht (fun b hb hx => h.hm b hb hx), ho, h.fz, h.fh, fun b hb' => ?_, h.zh, fun b hb' hx => ?_, fun b hb' hx => ?_, h.yl, Tch.below h.be ht h.be.size (fun b hb => (h.fm b hb).2)⟩
  · rcases hb b hb' with h1 | h1
    · exact h.fm b h1
    · exact ⟨fun hy => by have := h.sf.ylt b hy; omega, Nat.le_trans h.be.size h1⟩
  · rcases hb b hx with h1 | h1
    · exact h.zm b hb' h1
    · have := hz b hb'; omega
  · rcases hb b hx with h1 | h1
    · exact h.hm b hb' h1
    · have := hh b hb'; omega
end
theorem szs_row {S : Nat} {f : Int} (hS : 512 ≤ S ∧ S ≤ 65536 ∧ S % 8 = 0) (hf : 105 ≤ f ∧ f ≤ 400) : Szs S (M.row S f) := by
  have h := M.row_ok S f (by omega) (by omega) (by omega) hf.1 hf.2
  refine ⟨⟨by have := h.two; omega, h.most⟩, by have := h.head; unfold M.at_ at this; omega, by have := h.last; unfold M.at_ at this; omega, fun i hi => h.rise i hi⟩
end Go.Proofs.Ytfmgncajhjkdlaa
