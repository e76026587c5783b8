/- an arena's bytes: contracts. -/
import Derived.Test.YtfmgncajhjkdlaaArb
namespace Go.Proofs.Ytfmgncajhjkdlaa
open Go.RowKit Go.PlainAid
set_option linter.unusedVariables false
set_option linter.unusedSimpArgs false

/-- from w to w' no block that was there has turned but those that S tells of -/
structure Tch (S : Nat → Prop) (w w' : World) : Prop where
  os : w'.os = w.os
  tape : w'.tape = w.tape
  output : w'.output = w.output
  size : w.heap.size ≤ w'.heap.size
  block : ∀ i, i < w.heap.size → ¬ S i → w'.heap[i]? = w.heap[i]?
theorem Tch.refl (S : Nat → Prop) (w : World) : Tch S w w := ⟨rfl, rfl, rfl, Nat.le_refl _, fun _ _ _ => rfl⟩
theorem Tch.trans {S T : Nat → Prop} {a b c : World} (h : Tch S a b) (k : Tch T b c) (hT : ∀ i, T i → S i ∨ a.heap.size ≤ i) : Tch S a c :=
  ⟨k.os.trans h.os, k.tape.trans h.tape, k.output.trans h.output, Nat.le_trans h.size k.size, fun i hi hs => (k.block i (Nat.lt_of_lt_of_le hi h.size) (fun ht => by
    rcases hT i ht with h1 | h1
    · exact hs h1
    · omega)).trans (h.block i hi hs)⟩
theorem Tch.mono {S T : Nat → Prop} {a b : World} (h : Tch S a b) (hT : ∀ i, S i → T i) : Tch T a b := ⟨h.os, h.tape, h.output, h.size, fun i hi ht => h.block i hi (fun hs => ht (hT i hs))⟩
theorem Tch.drewN {S : Nat → Prop} {a b : World} (h : Tch S a b) (n : Nat) : Tch S a (b.drewN n) := ⟨h.os, h.tape, h.output, h.size, h.block⟩
theorem Tch.below {S : Nat → Prop} {a w w' : World} {B : Nat} (hb : Below B a w) (h : Tch S w w') (hB : B ≤ w.heap.size) (hS : ∀ i, S i → B ≤ i) : Below B a w' :=
  hb.trans ⟨h.os, h.tape, h.output, h.size, fun i hi => h.block i (by omega) (fun hs => by have := hS i hs; omega)⟩
theorem Tch.of_grown {w w' : World} {row : Option Nat} (h : w.grownBy w' row) : Tch (fun i => row = some i) w w' := ⟨h.os, h.tape, h.output, h.size, fun i hi hs => h.block i hi (fun e => hs e.symm)⟩
theorem Tch.of_below {w w' : World} (S : Nat → Prop) (h : Below w.heap.size w w') : Tch S w w' := ⟨h.os, h.tape, h.output, h.size, fun i hi _ => h.block i hi⟩
theorem Tch.setCell (w : World) (g i : Nat) (u : Value) : Tch (fun j => j = g) w (w.setCell ⟨g, i, none⟩ u) :=
  ⟨rfl, rfl, rfl, by simp [World.setCell], fun j hj hne => Below.heap_setCell _ _ _ _ hne⟩

namespace AP
/-- what a Read or a Write of so many bytes answers -/
def byE (ow : List Int) (S : Nat) (p a n : Int) : Int := if owner ow p < 0 then 7 else if a < 0 ∨ n < 0 ∨ (S : Int) < a ∨ (S : Int) - a < n then 1 else 0
/-- the bytes behind it -/
def byB (bs : List Int) (S : Nat) (p : Int) : List Int := ext bs ((p.toNat + 1) * S)
end AP

/-- what bytes answers where there are such bytes -/
def ByYes (g k np S q a n : Nat) (bv : Value) (ow bs : List Int) (w : World) (e : Ending) (w' : World) : Prop :=
  ∃ h cap A, e = .returned (.tuple #[.slice (some A) n n, .int .i64 0]) ∧ (n = 0 ∨ A = ⟨h, q * S + a, none⟩) ∧
    Ar w' g k np S (.slice (some ⟨h, 0, none⟩) (AP.byB bs S q).length cap) ow (AP.byB bs S q) ∧ Tch (fun i => i = g ∨ bv.ownBlock = some i) w w' ∧ (bv.ownBlock = some h ∨ w.heap.size ≤ h)

theorem Ar.drewN {w : World} {g k np : Nat} {size : Int} {bv : Value} {ow bs : List Int} (h : Ar w g k np size bv ow bs) (n : Nat) : Ar (w.drewN n) g k np size bv ow bs := ⟨h.box, h.own, h.byt, h.len, h.np1, h.rng, h.siz⟩
theorem Ar.ne {w : World} {g k np : Nat} {size : Int} {bv : Value} {ow bs : List Int} (h : Ar w g k np size bv ow bs) : g ≠ k ∧ bv.ownBlock ≠ some g ∧ bv.ownBlock ≠ some k := by
  obtain ⟨k', cap', cur, e, hk⟩ : ∃ g' cap cur, (Value.slice (some ⟨k, 0, none⟩) np np) = .slice (some ⟨g', 0, none⟩) np cap ∧ w.heap[g']? = some (.cells cur 3 (0, 0)) := by
    rcases h.own.2 with ⟨h1, _⟩ | ⟨g', cap, cur, h1, h2, h3, _⟩
    · cases h1
    · exact ⟨g', cap, cur, h1, h3⟩
  simp only [Value.slice.injEq, Option.some.injEq, Addr.mk.injEq, and_true, true_and] at e
  obtain ⟨rfl, rfl⟩ := e
  have hbb : ∀ j, bv.ownBlock = some j → ∃ cur, w.heap[j]? = some (.cells cur 5 (0, 0)) := by
    intro j hj
    rcases h.byt.2 with ⟨rfl, _⟩ | ⟨b, cap, cur', rfl, _, hb, _⟩
    · simp [Value.ownBlock] at hj
    · simp [Value.ownBlock] at hj
      subst hj
      exact ⟨_, hb⟩
  refine ⟨?_, ?_, ?_⟩
  · rintro rfl
    rw [h.box] at hk; simp at hk
  · intro hj
    obtain ⟨c, hc⟩ := hbb _ hj
    rw [h.box] at hc; simp at hc
  · intro hj
    obtain ⟨c, hc⟩ := hbb _ hj
    rw [hk] at hc; simp at hc

/-- the arena behind its bytes having grown -/
theorem Ar.grow {w w' : World} {g k np S nb M h cap : Nat} {bv : Value} {ow bs : List Int} (hA : Ar w g k np S bv ow bs) (hg : w.grownBy w' bv.ownBlock) (hfresh : bv.ownBlock = some h ∨ w.heap.size ≤ h)
    (ho : w'.ownsRow 0 5 1 (.slice (some ⟨h, 0, none⟩) nb cap) nb ((AP.ext bs M).map (.int .u8))) (hnb : nb = (AP.ext bs M).length) :
    Ar (w'.setCell ⟨g, 1, none⟩ (.slice (some ⟨h, 0, none⟩) nb cap)) g k np S (.slice (some ⟨h, 0, none⟩) (AP.ext bs M).length cap) ow (AP.ext bs M) ∧
    Tch (fun i => i = g ∨ bv.ownBlock = some i) w (w'.setCell ⟨g, 1, none⟩ (.slice (some ⟨h, 0, none⟩) nb cap)) := by
  subst hnb
  obtain ⟨n1, n2, n3⟩ := hA.ne
  have hgl := (Array.getElem?_eq_some_iff.1 hA.box).1
  have hkl := (hA.own.lt k rfl).2
  have hgh : g ≠ h := by
    rcases hfresh with h1 | h1
    · rintro rfl; exact n2 h1
    · omega
  have hkh : k ≠ h := by
    rcases hfresh with h1 | h1
    · rintro rfl; exact n3 h1
    · omega
  have hbox : w'.heap[g]? = some (.cells #[.int .i64 (S : Int), bv, .slice (some ⟨k, 0, none⟩) np np] 75 (0, 0)) := (hg.block g hgl (fun e => n2 e.symm)).trans hA.box
  have hs : w'.grownBy (w'.setCell ⟨g, 1, none⟩ (.slice (some ⟨h, 0, none⟩) (AP.ext bs M).length cap)) (some g) := only_setCell (World.grownBy.refl w' _) 1 _
  refine ⟨⟨?_, ?_, ?_, hA.len, hA.np1, hA.rng, hA.siz⟩, ?_⟩
  · show (w'.heap.modify g _)[g]? = _
    rw [Array.getElem?_modify, if_pos rfl, hbox]
    rfl
  · exact (hA.own.kept hg (.inr (fun e => n3 e.symm))).kept hs (.inr (fun e => n1 (by injection e with e; exact e.symm)))
  · exact ho.kept hs (.inr (fun e => hgh (by injection e with e; exact e.symm)))
  · exact ((Tch.of_grown hg).mono (T := fun i => i = g ∨ bv.ownBlock = some i) (fun i hi => .inr hi)).trans (Tch.setCell w' g 1 _) (fun i hi => .inl (.inl hi))

theorem own_cap {w : World} {base g n cap : Nat} {e : TypeId} {size : Nat} {xs : List Value} (h : w.ownsRow base e size (.slice (some ⟨g, 0, none⟩) n cap) n xs) : n ≤ cap ∧ cap ≤ maxLen := by
  rcases h.2 with ⟨h1, _⟩ | ⟨_, cap', _, h1, _, _, h2, h3, _⟩
  · simp at h1
  · simp only [Value.slice.injEq] at h1
    obtain ⟨_, _, rfl⟩ := h1
    exact ⟨h2, h3⟩
theorem mul_facts {q S np : Nat} (hq : q < np) (hn : np ≤ 1024) (hS : S ≤ 65536) : q * S ≤ 67043328 ∧ (q + 1) * S = q * S + S := by
  have h1 : q * S ≤ 1023 * 65536 := Nat.mul_le_mul (by omega) hS
  exact ⟨by omega, Nat.succ_mul q S⟩

set_option maxRecDepth 100000 in
set_option maxHeartbeats 1000000 in
theorem bytes_grow {w : World} {g k np S : Nat} {bv : Value} {ow bs : List Int} (h : Ar w g k np S bv ow bs) (q a n : Nat) (hq : q < np) (ho : 0 ≤ AP.owner ow (q : Int)) (ha : a ≤ S) (hn : a + n ≤ S) (hgrow : bs.length < (q + 1) * S) :
    Calls Try.prog 58 #[.pointer (some ⟨g, 0, none⟩), .int .i64 q, .int .i64 a, .int .i64 n] w (ByYes g k np S q a n bv ow bs w) := by
  have c0 := h.c0
  have c1 := h.c1
  have hnp := h.np1
  obtain ⟨z1, z2⟩ := h.siz
  obtain ⟨m1, m2⟩ := mul_facts (S := S) hq hnp.2 (by omega)
  have H := Lib.hid h
  have Hown := Lib.hid (owner_any h (q : Int))
  obtain ⟨va, vc, hbv⟩ : ∃ va vc, bv = .slice va bs.length vc := by
    rcases h.byt.2 with ⟨h1, h2⟩ | ⟨b, cap, cur, h1, _⟩
    · exact ⟨none, 0, by rw [h1, h2]⟩
    · exact ⟨_, _, h1⟩
  subst hbv
  have f1 : w.frozen? ⟨g, 1, none⟩ = false := by simp [World.frozen?, h.box]
  obtain ⟨nb, hnb⟩ : ∃ nb, nb = bs.length := ⟨_, rfl⟩
  rw [← hnb] at c1 hgrow
  obtain ⟨D, hD⟩ : ∃ D, D = (q + 1) * S - nb := ⟨_, rfl⟩
  have hD1 : 0 < D := by omega
  obtain ⟨QS, hQS⟩ : ∃ QS, QS = q * S := ⟨_, rfl⟩
  rw [← hQS] at m1 m2
  rw [m2] at hgrow hD
  have e1 : IntKind.i64.wrap ((q : Int) + 1) = (q : Int) + 1 := IntWalk.i64_in _ ⟨by omega, by omega⟩
  have e2 : ((q : Int) + 1) * (S : Int) = ((QS + S : Nat) : Int) := by rw [← m2]; simp
  have e3 : IntKind.i64.wrap ((QS : Int) + (S : Int)) = (QS : Int) + (S : Int) := IntWalk.i64_in _ ⟨by omega, by omega⟩
  have e4 : (QS : Int) + (S : Int) - (nb : Int) = (D : Int) := by omega
  have e5 : IntKind.i64.wrap (D : Int) = (D : Int) := IntWalk.i64_in _ ⟨by omega, by omega⟩
  have e6 : (q : Int) * (S : Int) = (QS : Int) := by rw [hQS]; simp
  have e7 : IntKind.i64.wrap (QS : Int) = (QS : Int) := IntWalk.i64_in _ ⟨by omega, by omega⟩
  have e8 : IntKind.i64.wrap ((QS : Int) + (a : Int)) = (QS : Int) + (a : Int) := IntWalk.i64_in _ ⟨by omega, by omega⟩
  have e9 : ((QS : Int) + (a : Int)).toNat = QS + a := by omega
  simp only [Int.natCast_add] at e2
  have Hnb := Lib.hid hnb
  have HD := Lib.hid hD
  have HQS := Lib.hid hQS
  have Hbyt : Hid (w.ownsRow 0 5 1 (.slice va nb vc) nb (bs.map (.int .u8))) := Lib.hid (by rw [hnb]; exact h.byt)
  have Hne : Hid ((Value.slice va nb vc).ownBlock ≠ some g) := Lib.hid (by rw [hnb]; exact h.ne.2.1)
  have Hbox : Hid (w.heap[g]? = some (.cells #[.int .i64 (S : Int), .slice va nb vc, .slice (some ⟨k, 0, none⟩) np np] 75 (0, 0))) := Lib.hid (by rw [hnb]; exact h.box)
  have Hext : Hid ((AP.ext bs (QS + S)) = bs ++ List.replicate D 0 ∧ AP.byB bs S (q : Int) = AP.ext bs (QS + S) ∧ (AP.ext bs (QS + S)).length = nb + D) := by
    refine Lib.hid ⟨?_, ?_, ?_⟩
    · unfold AP.ext; rw [hD, ← hnb]
    · unfold AP.byB; rw [Int.toNat_natCast, m2]
    · rw [AP.ext_len, ← hnb]; omega
  have hgl := h.c0
  have hgl := World.block_lt_of_cell? _ _ hgl
  have Hm2 := Lib.hid m2
  clear hD hQS m2 hnb h
  go_enter Try.func58, Try.ntmps58
  go_wp2_with (fail)
  refine Hown.out.mono ?_
  rintro e w' ⟨rfl, rfl⟩
  go_wp2_with (fail)
  go_quiet (fail)
  go_wp2_with (at_builtin; go_must (refine wp_appZ _ rfl _ _ rfl 0 (.slice va nb vc) nb D bs rfl (by exact Hbyt.out) rfl hD1 (by omega) (Nat.zero_le _) ?_); intro hh cap w2 ho2 hg2 hfr; have hbx2 : w2.heap[g]? = some (.cells #[.int .i64 (S : Int), .slice va nb vc, .slice (some ⟨k, 0, none⟩) np np] 75 (0, 0)) := (hg2.block g hgl (fun e => Hne.out e.symm)).trans Hbox.out; have d1 := cell_of hbx2 1; have d0 := cell_of hbx2 0; have g1 : w2.frozen? ⟨g, 1, none⟩ = false := (by simp [World.frozen?, hbx2]))
  simp only [List.getElem?_toArray, List.getElem?_cons_zero, List.getElem?_cons_succ] at d0 d1
  have hg3 : w.grownBy w2 (Value.slice va bs.length vc).ownBlock := by
    rw [← Hnb.out]; exact ⟨hg2.os, hg2.tape, hg2.output, hg2.size, hg2.block⟩
  rw [← Hext.out.1] at ho2
  have hfr3 : (Value.slice va bs.length vc).ownBlock = some hh ∨ w.heap.size ≤ hh := by rw [← Hnb.out]; exact hfr
  obtain ⟨hG1, hG2⟩ := H.out.grow hg3 hfr3 ho2 Hext.out.2.2.symm
  have Hl := Lib.hid Hext.out.2.2
  obtain ⟨hTc, hcm⟩ := own_cap ho2
  have t0 := hG1.c0
  have t1 := hG1.c1
  rw [Hl.out] at t1
  have HG1 := Lib.hid hG1
  have HG2 := Lib.hid hG2
  have hTS : nb + D = QS + S := by have := HD.out; omega
  clear d0 d1 g1 hbx2 ho2 hg2 hfr hg3 hG1 hG2 hTS e1 e2 e3 e4 e5
  have HTS : Hid (nb + D = QS + S) := Lib.hid (by have := HD.out; omega)
  generalize w2.setCell ⟨g, 1, none⟩ (.slice (some ⟨hh, 0, none⟩) (nb + D) cap) = W at *
  generalize nb + D = T at *
  have i1 : (QS : Int) + (a : Int) ≤ (T : Int) := by have := HTS.out; omega
  have i2 : QS + a ≤ T := by have := HTS.out; omega
  have i3 : (QS : Int) + (a : Int) ≤ (cap : Int) := by omega
  have i4 : QS + a ≤ cap := by omega
  have i5 : (0 : Int) ≤ (QS : Int) + (a : Int) := by omega
  have i6 : n ≤ cap - (QS + a) := by have := HTS.out; omega
  have i7 : (n : Int) ≤ ((cap - (QS + a) : Nat) : Int) := by omega
  obtain ⟨x, hx⟩ : ∃ x, (if cap = QS + a then (some ⟨hh, 0, none⟩ : Option Addr) else some ⟨hh, QS + a, none⟩) = some ⟨hh, x, none⟩ := ⟨if cap = QS + a then 0 else QS + a, by split <;> rfl⟩
  have Hx : Hid (n = 0 ∨ x = QS + a) := by
    by_cases hc : cap = QS + a
    · exact Lib.hid (.inl (by have := HTS.out; omega))
    · rw [if_neg hc] at hx
      simp at hx
      exact Lib.hid (.inr hx.symm)
  go_quiet (fail)
  go_wp2_with (fail)
  go_ret2
  refine ⟨hh, cap, ⟨hh, x, none⟩, rfl, ?_, ?_, ?_, ?_⟩
  · rcases Hx.out with h | h
    · exact .inl h
    · exact .inr (by rw [h, HQS.out])
  · rw [Hext.out.2.1]; exact HG1.out.drewN _
  · exact HG2.out.drewN _
  · exact hfr3

set_option maxRecDepth 100000 in
set_option maxHeartbeats 1000000 in
theorem bytes_have {w : World} {g k np S : Nat} {bv : Value} {ow bs : List Int} (h : Ar w g k np S bv ow bs) (q a n : Nat) (hq : q < np) (ho : 0 ≤ AP.owner ow (q : Int)) (ha : a ≤ S) (hn : a + n ≤ S) (hgrow : (q + 1) * S ≤ bs.length) (hbl : bs.length ≤ 67108864) :
    Calls Try.prog 58 #[.pointer (some ⟨g, 0, none⟩), .int .i64 q, .int .i64 a, .int .i64 n] w (ByYes g k np S q a n bv ow bs w) := by
  have c0 := h.c0
  have c1 := h.c1
  have hnp := h.np1
  obtain ⟨z1, z2⟩ := h.siz
  obtain ⟨m1, m2⟩ := mul_facts (S := S) hq hnp.2 (by omega)
  have H := Lib.hid h
  have Hown := Lib.hid (owner_any h (q : Int))
  obtain ⟨hh, cap, hbv⟩ : ∃ hh cap, bv = .slice (some ⟨hh, 0, none⟩) bs.length cap := by
    rcases h.byt.2 with ⟨h1, h2⟩ | ⟨b, cap, cur, h1, _⟩
    · omega
    · exact ⟨_, _, h1⟩
  subst hbv
  obtain ⟨hTc, hcm⟩ := own_cap h.byt
  obtain ⟨T, hT⟩ : ∃ T, T = bs.length := ⟨_, rfl⟩
  rw [← hT] at c1 hgrow hTc hbl
  obtain ⟨QS, hQS⟩ : ∃ QS, QS = q * S := ⟨_, rfl⟩
  rw [← hQS] at m1 m2
  rw [m2] at hgrow
  have e1 : IntKind.i64.wrap ((q : Int) + 1) = (q : Int) + 1 := IntWalk.i64_in _ ⟨by omega, by omega⟩
  have e2 : ((q : Int) + 1) * (S : Int) = ((QS + S : Nat) : Int) := by rw [← m2]; simp
  have e3 : IntKind.i64.wrap ((QS : Int) + (S : Int)) = (QS : Int) + (S : Int) := IntWalk.i64_in _ ⟨by omega, by omega⟩
  have e5 : IntKind.i64.wrap ((QS : Int) + (S : Int) - (T : Int)) = (QS : Int) + (S : Int) - (T : Int) := IntWalk.i64_in _ ⟨by omega, by omega⟩
  have e6 : (q : Int) * (S : Int) = (QS : Int) := by rw [hQS]; simp
  have e7 : IntKind.i64.wrap (QS : Int) = (QS : Int) := IntWalk.i64_in _ ⟨by omega, by omega⟩
  have e8 : IntKind.i64.wrap ((QS : Int) + (a : Int)) = (QS : Int) + (a : Int) := IntWalk.i64_in _ ⟨by omega, by omega⟩
  have e9 : ((QS : Int) + (a : Int)).toNat = QS + a := by omega
  simp only [Int.natCast_add] at e2
  have Hext : Hid (AP.byB bs S (q : Int) = bs) := Lib.hid (by unfold AP.byB; rw [Int.toNat_natCast, m2]; exact AP.ext_none (by omega))
  have HQS := Lib.hid hQS
  have HT := Lib.hid hT
  clear hQS m2 hT h
  have i1 : (QS : Int) + (a : Int) ≤ (T : Int) := by omega
  have i2 : QS + a ≤ T := by omega
  have i3 : (QS : Int) + (a : Int) ≤ (cap : Int) := by omega
  have i4 : QS + a ≤ cap := by omega
  have i5 : (0 : Int) ≤ (QS : Int) + (a : Int) := by omega
  have i6 : n ≤ cap - (QS + a) := by omega
  have i7 : (n : Int) ≤ ((cap - (QS + a) : Nat) : Int) := by omega
  obtain ⟨x, hx⟩ : ∃ x, (if cap = QS + a then (some ⟨hh, 0, none⟩ : Option Addr) else some ⟨hh, QS + a, none⟩) = some ⟨hh, x, none⟩ := ⟨if cap = QS + a then 0 else QS + a, by split <;> rfl⟩
  have Hx : Hid (n = 0 ∨ x = QS + a) := by
    by_cases hc : cap = QS + a
    · exact Lib.hid (.inl (by omega))
    · rw [if_neg hc] at hx
      simp at hx
      exact Lib.hid (.inr hx.symm)
  go_enter Try.func58, Try.ntmps58
  go_wp2_with (fail)
  refine Hown.out.mono ?_
  rintro e w' ⟨rfl, rfl⟩
  go_wp2_with (fail)
  go_quiet (fail)
  go_wp2_with (fail)
  go_quiet (fail)
  go_wp2_with (fail)
  go_ret2
  refine ⟨hh, cap, ⟨hh, x, none⟩, rfl, ?_, ?_, ?_, .inl rfl⟩
  · rcases Hx.out with h | h
    · exact .inl h
    · exact .inr (by rw [h, HQS.out])
  · rw [Hext.out]; exact (H.out.drewN _).drewN _
  · exact ((Tch.refl _ w).drewN _).drewN _

def ByNo (ow : List Int) (S : Nat) (p a n : Int) (w : World) (e : Ending) (w' : World) : Prop :=
  e = .returned (.tuple #[.slice none 0 0, .int .i64 (AP.byE ow S p a n)]) ∧ w = w'

set_option maxRecDepth 100000 in
set_option maxHeartbeats 1000000 in
theorem bytes_no {w : World} {g k np S : Nat} {bv : Value} {ow bs : List Int} (h : Ar w g k np S bv ow bs) (p a n : Int) (hne : AP.byE ow S p a n ≠ 0) (hn2 : -9223372036854775808 ≤ n) (hn3 : n ≤ 9223372036854775807) :
    Calls Try.prog 58 #[.pointer (some ⟨g, 0, none⟩), .int .i64 p, .int .i64 a, .int .i64 n] w (ByNo ow S p a n w) := by
  have c0 := h.c0
  obtain ⟨z1, z2⟩ := h.siz
  have Hown := Lib.hid (owner_any h p)
  clear h
  by_cases h0 : AP.owner ow p < 0
  · have He : Hid (AP.byE ow S p a n = 7) := Lib.hid (by unfold AP.byE; rw [if_pos h0])
    clear hne
    go_enter Try.func58, Try.ntmps58
    go_wp2_with (fail)
    refine Hown.out.mono ?_
    rintro e w' ⟨rfl, rfl⟩
    go_wp2_with (fail)
    go_ret2
    exact ⟨by rw [He.out]; rfl, rfl⟩
  · have hbad : a < 0 ∨ n < 0 ∨ (S : Int) < a ∨ (S : Int) - a < n := by
      unfold AP.byE at hne; rw [if_neg h0] at hne
      by_cases hb : a < 0 ∨ n < 0 ∨ (S : Int) < a ∨ (S : Int) - a < n
      · exact hb
      · rw [if_neg hb] at hne; exact absurd rfl hne
    have He : Hid (AP.byE ow S p a n = 1) := Lib.hid (by unfold AP.byE; rw [if_neg h0, if_pos hbad])
    clear hne
    by_cases h1 : a < 0
    · clear hbad
      go_enter Try.func58, Try.ntmps58
      go_wp2_with (fail)
      refine Hown.out.mono ?_
      rintro e w' ⟨rfl, rfl⟩
      go_wp2_with (fail)
      go_ret2
      exact ⟨by rw [He.out]; rfl, rfl⟩
    by_cases h2 : n < 0
    · clear hbad
      go_enter Try.func58, Try.ntmps58
      go_wp2_with (fail)
      refine Hown.out.mono ?_
      rintro e w' ⟨rfl, rfl⟩
      go_wp2_with (fail)
      go_ret2
      exact ⟨by rw [He.out]; rfl, rfl⟩
    by_cases h3 : (S : Int) < a
    · clear hbad
      go_enter Try.func58, Try.ntmps58
      go_wp2_with (fail)
      refine Hown.out.mono ?_
      rintro e w' ⟨rfl, rfl⟩
      go_wp2_with (fail)
      go_ret2
      exact ⟨by rw [He.out]; rfl, rfl⟩
    · have h4 : (S : Int) - a < n := by omega
      clear hbad
      go_enter Try.func58, Try.ntmps58
      go_wp2_with (fail)
      refine Hown.out.mono ?_
      rintro e w' ⟨rfl, rfl⟩
      go_wp2_with (fail)
      go_ret2
      exact ⟨by rw [He.out]; rfl, rfl⟩

theorem byE_yes {ow : List Int} {S np : Nat} {p a n : Int} (hr : AP.Rng ow) (hl : ow.length = np) (h : AP.byE ow S p a n = 0) : ∃ q b m : Nat, p = q ∧ a = b ∧ n = m ∧ q < np ∧ 0 ≤ AP.owner ow (q : Int) ∧ b ≤ S ∧ b + m ≤ S := by
  unfold AP.byE at h
  by_cases h0 : AP.owner ow p < 0
  · rw [if_pos h0] at h; omega
  rw [if_neg h0] at h
  by_cases hb : a < 0 ∨ n < 0 ∨ (S : Int) < a ∨ (S : Int) - a < n
  · rw [if_pos hb] at h; omega
  rcases owner_facts hr hl p with h1 | ⟨q, hq, rfl, h1⟩
  · omega
  exact ⟨q, a.toNat, n.toNat, rfl, by omega, by omega, hq, h1, by omega, by omega⟩

/-- bytes, whatever is asked -/
theorem bytes_yes {w : World} {g k np S : Nat} {bv : Value} {ow bs : List Int} (h : Ar w g k np S bv ow bs) (q a n : Nat) (hq : q < np) (ho : 0 ≤ AP.owner ow (q : Int)) (ha : a ≤ S) (hn : a + n ≤ S) (hbl : bs.length ≤ 67108864) :
    Calls Try.prog 58 #[.pointer (some ⟨g, 0, none⟩), .int .i64 q, .int .i64 a, .int .i64 n] w (ByYes g k np S q a n bv ow bs w) := by
  by_cases hg : bs.length < (q + 1) * S
  · exact bytes_grow h q a n hq ho ha hn hg
  · exact bytes_have h q a n hq ho ha hn (by omega) hbl
end Go.Proofs.Ytfmgncajhjkdlaa
