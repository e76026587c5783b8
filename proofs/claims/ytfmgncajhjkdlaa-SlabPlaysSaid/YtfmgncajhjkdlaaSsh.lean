/- a slab of one's own; made; shown. -/
import Derived.Test.YtfmgncajhjkdlaaSwf
namespace Go.Proofs.Ytfmgncajhjkdlaa
open Go.RowKit Go.PlainAid
open SP
set_option linter.unusedVariables false
set_option linter.unusedSimpArgs false

/-- a slab at sb, all of whose blocks lie from B on -/
def Sl (B sb : Nat) (w : World) (π : Pi) (L : Nat) : Prop := ∃ β, β.sb = sb ∧ Mem w β π L ∧ Wf π L ∧ (∀ b, foot β π b → B ≤ b) ∧ B ≤ w.heap.size
theorem Sl.below {B sb : Nat} {w w' : World} {π : Pi} {L : Nat} (h : Sl B sb w π L) (hb : Below w.heap.size w w') : Sl B sb w' π L := by
  obtain ⟨β, h1, h2, h3, h4, h5⟩ := h
  exact ⟨β, h1, h2.below hb, h3, h4, Nat.le_trans h5 hb.size⟩
theorem Sl.step {B : Nat} {w w' : World} {β β' : Bk} {π π' : Pi} {L' : Nat} (hf : ∀ b, foot β π b → B ≤ b) (hB : B ≤ w.heap.size) (hm : Mem w' β' π' L') (hw : Wf π' L') (hs : Step w β π w' β' π') : Sl B β.sb w' π' L' ∧ Below B w w' := by
  refine ⟨⟨β', hs.sb, hm, hw, fun b hb => ?_, Nat.le_trans hB hs.tch.size⟩, ⟨hs.tch.os, hs.tch.tape, hs.tch.output, hs.tch.size, fun i hi => hs.tch.block i (by omega) (fun hx => by have := hf i hx; omega)⟩⟩
  rcases hs.ft b hb with h1 | h1
  · exact hf b h1
  · omega
theorem alloc_s {B sb : Nat} {w : World} {π : Pi} {L : Nat} (h : Sl B sb w π L) (c : Int) (hm : L + 2000 ≤ 100000000) :
    Calls Try.prog 10 #[.pointer (some ⟨sb, 0, none⟩), .int .i64 c] w fun e w' => e = .returned (.tuple #[.int .i64 (alC π c), .int .i64 (alOk π c : Nat)]) ∧ Sl B sb w' (alS π c) (L + 2000) ∧ Below B w w' := by
  obtain ⟨β, rfl, h2, h3, h4, h5⟩ := h
  refine (alloc_any h2 h3 c hm).mono ?_
  rintro e w' ⟨he, β', hM, hS⟩
  exact ⟨he, Sl.step h4 h5 hM (h3.alS c hm) hS⟩
theorem free_s {B sb : Nat} {w : World} {π : Pi} {L : Nat} (h : Sl B sb w π L) (c : Int) (hc : c ≤ 9223372036854775807) (hm : L + 2000 ≤ 100000000) :
    Calls Try.prog 12 #[.pointer (some ⟨sb, 0, none⟩), .int .i64 c] w fun e w' => e = .returned (.int .i64 (frE π c : Nat)) ∧ Sl B sb w' (frS π c) (L + 2000) ∧ Below B w w' := by
  obtain ⟨β, rfl, h2, h3, h4, h5⟩ := h
  refine (free_any h2 h3 c hc hm).mono ?_
  rintro e w' ⟨he, β', hM, hS⟩
  exact ⟨he, Sl.step h4 h5 hM (h3.frS c hm) hS⟩
theorem close_s {B sb : Nat} {w : World} {π : Pi} {L : Nat} (h : Sl B sb w π L) (p : Int) (hp : -9223372036854775808 ≤ p ∧ p ≤ 9223372036854775807) (hm : L + 2000 ≤ 100000000) :
    Calls Try.prog 15 #[.pointer (some ⟨sb, 0, none⟩), .int .i64 p] w fun e w' => e = .returned (.int .i64 (clE π p : Nat)) ∧ Sl B sb w' (clS π p) (L + 2000) ∧ Below B w w' := by
  obtain ⟨β, rfl, h2, h3, h4, h5⟩ := h
  refine (close_any h2 h3 p hp hm).mono ?_
  rintro e w' ⟨he, β', hM, hS⟩
  exact ⟨he, Sl.step h4 h5 hM (h3.clS p hm) hS⟩
theorem move_s {B sb : Nat} {w : World} {π : Pi} {L : Nat} (h : Sl B sb w π L) (p c : Int) (hp : -9223372036854775808 ≤ p ∧ p ≤ 9223372036854775807) (hm : L + 2000 ≤ 100000000) :
    Calls Try.prog 16 #[.pointer (some ⟨sb, 0, none⟩), .int .i64 p, .int .i64 c] w fun e w' => e = .returned (.int .i64 (mvE π p c : Nat)) ∧ Sl B sb w' (mvS π p c) (L + 2000) ∧ Below B w w' := by
  obtain ⟨β, rfl, h2, h3, h4, h5⟩ := h
  refine (move_any h2 h3 p c hp hm).mono ?_
  rintro e w' ⟨he, β', hM, hS⟩
  exact ⟨he, Sl.step h4 h5 hM (h3.mvS p c hm) hS⟩
theorem used_s {B sb : Nat} {w : World} {π : Pi} {L : Nat} (h : Sl B sb w π L) (c : Int) (hc : c ≤ 9223372036854775807) :
    Calls Try.prog 11 #[.pointer (some ⟨sb, 0, none⟩), .int .i64 c] w fun e w' => e = .returned (.bool (usedP π c)) ∧ w = w' := by
  obtain ⟨β, rfl, h2, h3, h4, h5⟩ := h
  exact used_any h2 h3 c hc

/-- a new slab over a new arena -/
def madeP (pages S : Nat) (l : List Int) : Pi := newP S (List.replicate pages 0) [] l
theorem granted_rep (n : Nat) : AP.granted (List.replicate n 0) = 0 := by
  unfold AP.granted
  rw [List.countP_replicate]
  rfl

set_option maxHeartbeats 1000000 in
theorem made_ok (pages : Nat) (hp : 1 ≤ pages ∧ pages ≤ 1024) (A : Addr) (n c : Nat) (l : List Int) (w : World) (hr : RI w (.slice (some A) n c) l) (hcap : n ≤ c) (hs : Szs 512 l) :
    Calls Try.prog 9 #[.int .i64 pages, .slice (some A) n c] w fun e w' => ∃ sb, e = .returned (.pointer (some ⟨sb, 0, none⟩)) ∧ Sl w.heap.size sb w' (madeP pages 512 l) 0 ∧ Below w.heap.size w w' := by
  have Hr := Lib.hid hr
  have Hs := Lib.hid hs
  have HN := Lib.hid (new_yes pages 512 w (by unfold okNew; simp; omega))
  have Hp := Lib.hid hp
  clear hr hs
  go_enter Try.func9, Try.ntmps9
  go_wp2_with (fail)
  refine HN.out.mono ?_
  rintro e w1 (⟨h, _⟩ | ⟨_, g, k, rfl, hA, hg, hk, hb1⟩)
  · exfalso
    have := Hp.out
    simp [okNew] at h
    omega
  rw [Int.toNat_natCast] at hA
  have HW := Lib.hid (new_ok (S := 512) hA (granted_rep pages) A n c l (Hr.out.below hb1) hcap Hs.out)
  have HB := Lib.hid hb1
  have HA := Lib.hid hA
  clear hA hb1
  go_wp2_with (fail)
  refine HW.out.mono ?_
  rintro e w2 ⟨β, rfl, hM, hb2, hbg, hf⟩
  have hA := HA.out
  have hfin : Sl w.heap.size β.sb w2 (madeP pages 512 l) 0 ∧ Below w.heap.size w w2 := by
    have hpp := Hp.out
    refine ⟨⟨β, rfl, hM, newP_wf Hs.out hA.rng (granted_rep pages) (by simpa using hpp) (by omega), fun b hb => ?_, Nat.le_trans HB.out.size hb2.size⟩, HB.out.trans (hb2.mono HB.out.size)⟩
    rcases hf b hb with (h1 | h1 | h1) | h1
    · omega
    · omega
    · cases h1
    · exact Nat.le_trans HB.out.size h1
  have HF := Lib.hid hfin
  clear hfin hM hb2 hf hA
  go_wp2_with (fail)
  go_ret
  exact ⟨_, rfl, HF.out⟩

theorem alloc_at {B sb : Nat} {w : World} {π : Pi} {L : Nat} (h : Sl B sb w π L) (c : Int) (hm : L + 2000 ≤ 100000000) {r : Int} {k : Nat} (hr : alC π c = r ∧ alOk π c = k) :
    Calls Try.prog 10 #[.pointer (some ⟨sb, 0, none⟩), .int .i64 c] w fun e w' => e = .returned (.tuple #[.int .i64 r, .int .i64 (k : Nat)]) ∧ Sl B sb w' (alS π c) (L + 2000) ∧ Below B w w' := by
  rw [← hr.1, ← hr.2]; exact alloc_s h c hm
theorem free_at {B sb : Nat} {w : World} {π : Pi} {L : Nat} (h : Sl B sb w π L) (c : Int) (hc : c ≤ 9223372036854775807) (hm : L + 2000 ≤ 100000000) {k : Nat} (hk : frE π c = k) :
    Calls Try.prog 12 #[.pointer (some ⟨sb, 0, none⟩), .int .i64 c] w fun e w' => e = .returned (.int .i64 (k : Nat)) ∧ Sl B sb w' (frS π c) (L + 2000) ∧ Below B w w' := by
  rw [← hk]; exact free_s h c hc hm
theorem close_at {B sb : Nat} {w : World} {π : Pi} {L : Nat} (h : Sl B sb w π L) (p : Int) (hp : -9223372036854775808 ≤ p ∧ p ≤ 9223372036854775807) (hm : L + 2000 ≤ 100000000) {k : Nat} (hk : clE π p = k) :
    Calls Try.prog 15 #[.pointer (some ⟨sb, 0, none⟩), .int .i64 p] w fun e w' => e = .returned (.int .i64 (k : Nat)) ∧ Sl B sb w' (clS π p) (L + 2000) ∧ Below B w w' := by
  rw [← hk]; exact close_s h p hp hm
theorem move_at {B sb : Nat} {w : World} {π : Pi} {L : Nat} (h : Sl B sb w π L) (p c : Int) (hp : -9223372036854775808 ≤ p ∧ p ≤ 9223372036854775807) (hm : L + 2000 ≤ 100000000) {k : Nat} (hk : mvE π p c = k) :
    Calls Try.prog 16 #[.pointer (some ⟨sb, 0, none⟩), .int .i64 p, .int .i64 c] w fun e w' => e = .returned (.int .i64 (k : Nat)) ∧ Sl B sb w' (mvS π p c) (L + 2000) ∧ Below B w w' := by
  rw [← hk]; exact move_s h p c hp hm

def sh0 : Pi := madeP 2 512 [64, 512]
def sh1 : Pi := alS sh0 0
def sh2 : Pi := alS sh1 0
def sh3 : Pi := alS sh2 1
def sh4 : Pi := alS sh3 1
def sh5 : Pi := clS sh4 0
def sh6 : Pi := mvS sh5 0 1
def sh7 : Pi := frS sh6 0
def sh8 : Pi := frS sh7 1
def sh9 : Pi := mvS sh8 0 1
theorem sh_a : alC sh0 0 = 0 ∧ alOk sh0 0 = 0 := by decide
theorem sh_b : alC sh1 0 = 1 ∧ alOk sh1 0 = 0 := by decide
theorem sh_c : alC sh2 1 = 4096 ∧ alOk sh2 1 = 0 := by decide
theorem sh_d : alC sh3 1 = -1 ∧ alOk sh3 1 = 5 := by decide
theorem sh_e : clE sh4 0 = 0 := by decide
theorem sh_f : mvE sh5 0 1 = 10 := by decide
theorem sh_g : frE sh6 0 = 0 := by decide
theorem sh_h : frE sh7 1 = 0 := by decide
theorem sh_i : mvE sh8 0 1 = 0 := by decide
theorem sh_j : alC sh9 1 = 0 ∧ alOk sh9 1 = 0 := by decide
theorem szs_sh : Szs 512 [64, 512] := ⟨by decide, by decide, by decide, fun i hi => by
  have : i = 0 := by simp at hi; omega
  subst this
  decide⟩
theorem ri_lit {w : World} {k : Nat} {l : List Int} {t : TypeId} (h : w.heap[k]? = some (.cells (l.map (.int .i64)).toArray t (0, 0))) (c : Nat) : RI w (.slice (some ⟨k, 0, none⟩) l.length c) l :=
  ⟨_, _, rfl, fun _ => ⟨k, 0, rfl, fun i hi => by
    rw [cell_of h]
    simp [hi]⟩⟩

set_option maxRecDepth 100000 in
set_option maxHeartbeats 4000000 in
theorem shown_any (w : World) : Calls Try.prog 8 #[] w fun e w' => e = .returned (.bool true) ∧ Below w.heap.size w w' := by
  have hri := ri_lit (w := w.alloc (.cells #[.int .i64 64, .int .i64 512] 3)) (l := [64, 512]) (k := w.heap.size) (t := 3) (World.alloc_heap_new w _) 2
  have HM := Lib.hid (made_ok 2 (by omega) ⟨w.heap.size, 0, none⟩ 2 2 [64, 512] _ hri (by omega) szs_sh)
  clear hri
  go_enter Try.func8, Try.ntmps8
  go_wp2_with (fail)
  refine HM.out.mono ?_
  rintro e w1 ⟨sb, rfl, hS0, hb0⟩
  have hB : w.heap.size ≤ (w.alloc (.cells #[.int .i64 64, .int .i64 512] 3)).heap.size := by simp
  have hb : Below w.heap.size w w1 := ((Below.refl _ w).alloc (Nat.le_refl _) _).trans (hb0.mono hB)
  clear hb0 HM
  generalize (w.alloc (.cells #[.int .i64 64, .int .i64 512] 3)).heap.size = B at *
  go_wp2_with (fail)
  refine (alloc_at hS0 0 (by omega) sh_a).mono ?_
  rintro e w2 ⟨rfl, hS1, hb1⟩
  replace hb := hb.trans (hb1.mono hB)
  clear hb1 hS0
  go_wp2_with (fail)
  refine (alloc_at hS1 0 (by omega) sh_b).mono ?_
  rintro e w3 ⟨rfl, hS2, hb2⟩
  replace hb := hb.trans (hb2.mono hB)
  clear hb2 hS1
  go_wp2_with (fail)
  refine (alloc_at hS2 1 (by omega) sh_c).mono ?_
  rintro e w4 ⟨rfl, hS3, hb3⟩
  replace hb := hb.trans (hb3.mono hB)
  clear hb3 hS2
  go_wp2_with (fail)
  refine (alloc_at hS3 1 (by omega) sh_d).mono ?_
  rintro e w5 ⟨rfl, hS4, hb4⟩
  replace hb := hb.trans (hb4.mono hB)
  clear hb4 hS3
  go_wp2_with (fail)
  refine (close_at hS4 0 (by omega) (by omega) sh_e).mono ?_
  rintro e w6 ⟨rfl, hS5, hb5⟩
  replace hb := hb.trans (hb5.mono hB)
  clear hb5 hS4
  go_wp2_with (fail)
  refine (move_at hS5 0 1 (by omega) (by omega) sh_f).mono ?_
  rintro e w7 ⟨rfl, hS6, hb6⟩
  replace hb := hb.trans (hb6.mono hB)
  clear hb6 hS5
  go_wp2_with (fail)
  refine (free_at hS6 0 (by omega) (by omega) sh_g).mono ?_
  rintro e w8 ⟨rfl, hS7, hb7⟩
  replace hb := hb.trans (hb7.mono hB)
  clear hb7 hS6
  go_wp2_with (fail)
  refine (free_at hS7 1 (by omega) (by omega) sh_h).mono ?_
  rintro e w9 ⟨rfl, hS8, hb8⟩
  replace hb := hb.trans (hb8.mono hB)
  clear hb8 hS7
  go_wp2_with (fail)
  refine (move_at hS8 0 1 (by omega) (by omega) sh_i).mono ?_
  rintro e w10 ⟨rfl, hS9, hb9⟩
  replace hb := hb.trans (hb9.mono hB)
  clear hb9 hS8
  go_wp2_with (fail)
  refine (alloc_at hS9 1 (by omega) sh_j).mono ?_
  rintro e w11 ⟨rfl, hS10, hb10⟩
  replace hb := hb.trans (hb10.mono hB)
  clear hb10 hS9
  clear hS10
  go_wp2
  go_ret
  exact ⟨rfl, hb⟩
end Go.Proofs.Ytfmgncajhjkdlaa
