/- several texts in one: Qdo, Qpy, Qwk, Qop. -/
import Derived.Test.YtfmgncajhjkdlaaVe
import Derived.Deep.CutRange
import Derived.Deep.Cut
import Derived.Deep.RegionHeld3
import Derived.BigQuiet
import Derived.Deep.QuietTactic
import Derived.Deep.MidRow
import Derived.Test.YtfmgncajhjkdlaaSrn
import Derived.Deep.Slices
import Derived.Deep.Fields
import Derived.ChangeSame
import Derived.ProofKit
import Derived.OpenShut
import Derived.SizedLaws
/- a step on both slabs: the walk (printed by wip/gen_qdo.py). -/
namespace Go.Proofs.Ytfmgncajhjkdlaa.R7
open Go.RowKit Go.PlainAid
open SP
set_option linter.unusedVariables false
set_option linter.unusedSimpArgs false

/-- the world along a step: the step in a block of its own, its bytes -/
structure Pr (X Y : Nat → Prop) (w0 wx : World) (hb : Nat) (K A B : Int) (va : Option Addr) (n vc : Nat) (l : List Int) : Prop where
  st : Stp X Y w0 wx
  yl : ∀ i, Y i → i < wx.heap.size
  box : wx.heap[hb]? = some (.cells #[.int .i64 K, .int .i64 A, .int .i64 B, .slice va n vc] 60 (0, 0))
  low : w0.heap.size ≤ hb
  nx : ¬ Y hb
  rb : ∀ w', Tch (fun i => Y i ∨ w0.heap.size ≤ i) wx w' → RB w' (.slice va n vc) l
  len : l.length = n
  two : n ≤ 2000
  byt : ∀ x ∈ l, 0 ≤ x ∧ x ≤ 255
theorem pr_one {w : World} {X : Nat → Prop} (hx : ∀ i, X i → i < w.heap.size) {K A B : Int} {va : Option Addr} {n vc : Nat} {l : List Int} (hn : n ≤ 2000)
    (hrb : ∀ w', Tch (fun i => X i ∨ w.heap.size ≤ i) w w' → RB w' (.slice va n vc) l) (hl : l.length = n) (hby : ∀ x ∈ l, 0 ≤ x ∧ x ≤ 255) :
    Pr X X w (w.alloc (.cells #[.int .i64 K, .int .i64 A, .int .i64 B, .slice va n vc] 60)) w.heap.size K A B va n vc l := by
  have hb := (Below.refl w.heap.size w).alloc (Nat.le_refl _) (.cells #[.int .i64 K, .int .i64 A, .int .i64 B, .slice va n vc] 60)
  refine ⟨(Stp.refl X w).beside (Tch.of_below (fun _ => False) hb) (fun _ h => h.elim), fun i hi => Nat.lt_of_lt_of_le (hx i hi) hb.size, heap_alloc_new w _, Nat.le_refl _, fun h => by have := hx _ h; omega, fun w' ht => hrb w' ((Tch.of_below _ hb).trans ht (fun i hi => .inl hi)), hl, hn, hby⟩
theorem pr_two {w : World} {X : Nat → Prop} (hx : ∀ i, X i → i < w.heap.size) {K A B : Int} {va : Option Addr} {n vc : Nat} {l : List Int} (hn : 2000 < n)
    (hrb : ∀ w', Tch (fun i => X i ∨ w.heap.size ≤ i) w w' → RB w' (.slice va n vc) l) (hl : l.length = n) (hby : ∀ x ∈ l, 0 ≤ x ∧ x ≤ 255) :
    Pr X X w (w.alloc (.cells #[.int .i64 K, .int .i64 A, .int .i64 B, .slice va 2000 vc] 60)) w.heap.size K A B va 2000 vc (l.take 2000) :=
  pr_one hx (Nat.le_refl _) (fun w' ht => rb_takeN (hrb w' ht) 2000 (by omega)) (by simp; omega) (fun x hx => hby x (List.mem_of_mem_take hx))
section
variable {X Y Z : Nat → Prop} {w0 wx w' : World} {hb : Nat} {K A B : Int} {va : Option Addr} {n vc : Nat} {l : List Int} {π π' π2 π2' : Pi} {L L' L2 L2' sb rb g g' : Nat}
theorem Pr.p0 (h : Pr X Y w0 wx hb K A B va n vc l) : wx.cell? ⟨hb, 0, none⟩ = some (.int .i64 K) := cell_of h.box 0
theorem Pr.p1 (h : Pr X Y w0 wx hb K A B va n vc l) : wx.cell? ⟨hb, 1, none⟩ = some (.int .i64 A) := cell_of h.box 1
theorem Pr.p2 (h : Pr X Y w0 wx hb K A B va n vc l) : wx.cell? ⟨hb, 2, none⟩ = some (.int .i64 B) := cell_of h.box 2
theorem Pr.p3 (h : Pr X Y w0 wx hb K A B va n vc l) : wx.cell? ⟨hb, 3, none⟩ = some (.slice va n vc) := cell_of h.box 3
theorem Pr.blt (h : Pr X Y w0 wx hb K A B va n vc l) : hb < wx.heap.size := (Array.getElem?_eq_some_iff.1 h.box).1
/-- beside both -/
theorem Pr.beside {T : Nat → Prop} (h : Pr X Y w0 wx hb K A B va n vc l) (ht : Tch T wx w') (hT : ∀ i, T i → ¬ Y i ∧ w0.heap.size ≤ i ∧ i ≠ hb) : Pr X Y w0 w' hb K A B va n vc l :=
  ⟨h.st.beside ht (fun i hi => (hT i hi).2.1), fun i hi => Nat.lt_of_lt_of_le (h.yl i hi) ht.size, (ht.block hb h.blt (fun hx => (hT hb hx).2.2 rfl)).trans h.box, h.low, h.nx, fun w2 ht2 => h.rb w2 ((ht.mono (T := fun i => Y i ∨ w0.heap.size ≤ i) (fun i hi => .inr (hT i hi).2.1)).trans ht2 (fun i hi => .inl hi)), h.len, h.two, h.byt⟩
theorem Pr.below (h : Pr X Y w0 wx hb K A B va n vc l) (hb' : Below wx.heap.size wx w') : Pr X Y w0 w' hb K A B va n vc l := h.beside (Tch.of_below (fun _ => False) hb') (fun i hi => hi.elim)
theorem Pr.drewN (h : Pr X Y w0 wx hb K A B va n vc l) (m : Nat) : Pr X Y w0 (wx.drewN m) hb K A B va n vc l := h.beside ((Tch.refl (fun _ => False) wx).drewN m) (fun i hi => hi.elim)
theorem Pr.go (h : Pr X Y w0 wx hb K A B va n vc l) (hz : ∀ i, Z i → i < w'.heap.size) (k : Stp Y Z wx w') : Pr X Z w0 w' hb K A B va n vc l := by
  refine ⟨h.st.trans k, hz, (k.tc.block hb h.blt h.nx).trans h.box, h.low, fun hz => ?_, fun w2 ht => h.rb w2 ((k.tc.mono (T := fun i => Y i ∨ w0.heap.size ≤ i) (fun i hi => .inl hi)).trans ht (fun i hi => ?_)), h.len, h.two, h.byt⟩
  · have := h.blt
    rcases k.nu hb hz with h1 | h1
    · exact h.nx h1
    · omega
  · have := h.st.tc.size
    rcases hi with h1 | h1
    · rcases k.nu i h1 with h2 | h2
      · exact .inl (.inl h2)
      · exact .inr h2
    · exact .inl (.inr h1)
/-- both slabs and the step -/
def PS (X Y : Nat → Prop) (w0 wx : World) (sb rb g g' : Nat) (π π' : Pi) (L L' hb : Nat) (K A B : Int) (va : Option Addr) (n vc : Nat) (l : List Int) : Prop := Pr X Y w0 wx hb K A B va n vc l ∧ Sm Y sb rb g g' wx π π' L L'
theorem PS.go (h : PS X Y w0 wx sb rb g g' π π' L L' hb K A B va n vc l) (k : Sm Z sb rb g g' w' π2 π2' L2 L2' ∧ Stp Y Z wx w') : PS X Z w0 w' sb rb g g' π2 π2' L2 L2' hb K A B va n vc l := ⟨h.1.go k.1.xl k.2, k.1⟩
theorem PS.beside {T : Nat → Prop} (h : PS X Y w0 wx sb rb g g' π π' L L' hb K A B va n vc l) (ht : Tch T wx w') (hT : ∀ i, T i → ¬ Y i ∧ w0.heap.size ≤ i ∧ i ≠ hb) : PS X Y w0 w' sb rb g g' π π' L L' hb K A B va n vc l := ⟨h.1.beside ht hT, h.2.keep ht (fun i hi hx => (hT i hx).1 hi)⟩
theorem PS.below (h : PS X Y w0 wx sb rb g g' π π' L L' hb K A B va n vc l) (hb' : Below wx.heap.size wx w') : PS X Y w0 w' sb rb g g' π π' L L' hb K A B va n vc l := ⟨h.1.below hb', h.2.below hb'⟩
theorem PS.drewN (h : PS X Y w0 wx sb rb g g' π π' L L' hb K A B va n vc l) (m : Nat) : PS X Y w0 (wx.drewN m) sb rb g g' π π' L L' hb K A B va n vc l := ⟨h.1.drewN m, h.2.drewN m⟩
theorem PS.drew (h : PS X Y w0 wx sb rb g g' π π' L L' hb K A B va n vc l) : PS X Y w0 wx.drew sb rb g g' π π' L L' hb K A B va n vc l := h.drewN 1
theorem PS.new (h : PS X Y w0 wx sb rb g g' π π' L L' hb K A B va n vc l) {i : Nat} (hi : wx.heap.size ≤ i) : ¬ Y i ∧ w0.heap.size ≤ i ∧ i ≠ hb := ⟨fun hy => by have := h.1.yl i hy; omega, Nat.le_trans h.1.st.tc.size hi, by have := h.1.blt; omega⟩
end
def DoPost (X : Nat → Prop) (sb rb g g' L : Nat) (w : World) (e : Ending) (w' : World) : Prop := e = .returned (.bool true) ∧ ∃ Y π', Sm Y sb rb g g' w' π' π' (L + 2000) (L + 2000) ∧ Stp X Y w w'
theorem fill_set {l : List Int} {j : Nat} (c : Int) (h : j < l.length) : (List.replicate j c ++ l.drop j).set j c = List.replicate (j + 1) c ++ l.drop (j + 1) := by
  rw [List.set_append_right _ _ (by simp), List.length_replicate, Nat.sub_self]
  rw [List.drop_eq_getElem_cons h, List.set_cons_zero, List.replicate_succ', List.append_assoc]; rfl
theorem fill_at {l : List Int} {j : Nat} (c : Int) (h : j < l.length) : (List.replicate j c ++ l.drop j)[j]?.getD 0 = l[j]?.getD 0 := by
  rw [List.getElem?_append_right (by simp)]; simp
theorem own_len {w : World} {base n : Nat} {e : TypeId} {v : Value} {xs : List Value} (h : w.ownsRow base e 1 v n xs) : n ≤ 9223372036854775807 := by
  rcases h.2 with ⟨_, rfl⟩ | ⟨b, cap, cur, _, _, _, h1, h2, _⟩
  · omega
  · unfold maxLen at h2; omega
theorem tk_le {π : Pi} {L : Nat} (hw : Wf π L) {x : Int} (h : usedP π x = true) : x ≤ 9223372036854775807 := by
  obtain ⟨p, i, g, rfl, hp, hi, hbit, hpl, hi2, hp2⟩ := usedD hw h
  omega

set_option maxRecDepth 100000 in
set_option maxHeartbeats 8000000 in
theorem does_any {w : World} {X : Nat → Prop} {sb rb g g' : Nat} {π : Pi} {L : Nat} (h : Sm X sb rb g g' w π π L L) (hm : L + 3000 ≤ 99000000) (K A B : Int) (va : Option Addr) (n vc : Nat) (l : List Int)
    (hrb : ∀ w', Tch (fun i => X i ∨ w.heap.size ≤ i) w w' → RB w' (.slice va n vc) l) (hl : l.length = n) (hc : n ≤ vc ∧ vc ≤ maxLen) (hby : ∀ x ∈ l, 0 ≤ x ∧ x ≤ 255) (hA : -9223372036854775808 ≤ A ∧ A ≤ 9223372036854775807) (hB : -9223372036854775808 ≤ B ∧ B ≤ 9223372036854775807) :
    Calls Try.prog 26 #[.pointer (some ⟨sb, 0, none⟩), .pointer (some ⟨rb, 0, none⟩), .agg #[.int .i64 K, .int .i64 A, .int .i64 B, .slice va n vc]] w (DoPost X sb rb g g' L w) := by
  have H := Lib.hid h
  have HM := Lib.hid hm
  have hcm := hc.2
  have hcn := hc.1
  have Hone := Lib.hid (fun hn => pr_one h.xl (K := K) (A := A) (B := B) (va := va) (vc := vc) (l := l) (n := n) hn hrb hl hby)
  have Htwo := Lib.hid (fun hn => pr_two h.xl (K := K) (A := A) (B := B) (va := va) (vc := vc) (l := l) (n := n) hn hrb hl hby)
  have HA := Lib.hid hA
  have HB := Lib.hid hB
  unfold maxLen at hcm
  clear hrb hl hby h hc hA hB hm
  go_enter Try.func26, Try.ntmps26
  go_upto_if 30 with fail
  go_cut [27] from 27 to 34 (fun _ wx => ∃ (va2 : Option Addr) (n2 vc2 : Nat) (l2 : List Int), Hid (PS X X w wx sb rb g g' π π L L w.heap.size K A B va2 n2 vc2 l2))
  case first =>
    by_cases hn : 2000 < n
    · have Hp := Lib.hid (Htwo.out hn)
      have h0 : (2000 : Int) < (n : Int) := by omega
      go_wp2_with (fail)
      go_meet
      case rel => exact ⟨va, 2000, vc, _, Lib.hid ⟨Hp.out, H.out.below ((Below.refl w.heap.size w).alloc (Nat.le_refl _) _)⟩⟩
    · have Hp := Lib.hid (Hone.out (by omega))
      have h0 : ¬ (2000 : Int) < (n : Int) := by omega
      go_wp2_with (fail)
      go_meet
      case rel => exact ⟨va, n, vc, l, Lib.hid ⟨Hp.out, H.out.below ((Below.refl w.heap.size w).alloc (Nat.le_refl _) _)⟩⟩
  case rest =>
    obtain ⟨va2, n2, vc2, l2, HP⟩ := hcut
    have q0 := HP.out.1.p0
    clear Hone Htwo hcm hcn
    by_cases k1 : K = 1
    · as_aux_lemma =>
      subst k1
      have q1 := HP.out.1.p1
      go_wp2_with (fail)
      refine (pAlloc HP.out.2 A HM.out).mono ?_
      rintro e w1 ⟨rfl, Y1, st1⟩
      have HP1 := Lib.hid (HP.out.go st1)
      have q1' := HP1.out.1.p1
      clear q0 q1 st1
      go_wp2_with (fail)
      refine (qAlloc HP1.out.2 HM.out).mono ?_
      rintro e w2 ⟨rfl, Y2, st2⟩
      have HP2 := Lib.hid (HP1.out.go st2)
      clear q1' st2
      go_wp2_with (fail)
      go_ret
      exact ⟨rfl, Y2, _, HP2.out.2, HP2.out.1.st⟩
    by_cases k2 : K = 2
    · as_aux_lemma =>
      subst k2
      have q1 := HP.out.1.p1
      clear k1
      go_wp2_with (fail)
      go_region_held3 (fun w' => w'.cell? ⟨w.heap.size, 1, none⟩ = some (.int .i64 A)) (first | exact q1 | exact q1a | exact q1b) (first
        | (go_at_call 12; (first | refine (pFree HP.out.2 A HA.out.2 HM.out).mono ?_ | refine (pFree HP.out.drew.2 A HA.out.2 HM.out).mono ?_); rintro e w1 ⟨rfl, Y1, sa⟩; have HP1 := (by first | exact Lib.hid (HP.out.go sa) | exact Lib.hid (HP.out.drew.go sa)); have q1a := HP1.out.1.p1; clear sa)
        | (go_at_call 44; refine (qFree HP1.out.2 HM.out).mono ?_; rintro e w2 ⟨rfl, Y2, sc⟩; have HP2 := Lib.hid (HP1.out.go sc); have q1b := HP2.out.1.p1; clear sc))
      go_wp2_with (fail)
      go_ret
      exact ⟨rfl, Y2, _, HP2.out.2, HP2.out.1.st⟩
    by_cases k3 : K = 3
    · as_aux_lemma =>
      subst k3
      have q1 := HP.out.1.p1
      clear k1 k2
      go_wp2_with (fail)
      go_region_held3 (fun w' => w'.cell? ⟨w.heap.size, 1, none⟩ = some (.int .i64 A)) (first | exact q1 | exact q1a | exact q1b) (first
        | (go_at_call 15; (first | refine (pClose HP.out.2 A HA.out HM.out).mono ?_ | refine (pClose HP.out.drew.2 A HA.out HM.out).mono ?_); rintro e w1 ⟨rfl, Y1, sa⟩; have HP1 := (by first | exact Lib.hid (HP.out.go sa) | exact Lib.hid (HP.out.drew.go sa)); have q1a := HP1.out.1.p1; clear sa)
        | (go_at_call 45; refine (qClose HP1.out.2 HM.out).mono ?_; rintro e w2 ⟨rfl, Y2, sc⟩; have HP2 := Lib.hid (HP1.out.go sc); have q1b := HP2.out.1.p1; clear sc))
      go_wp2_with (fail)
      go_ret
      exact ⟨rfl, Y2, _, HP2.out.2, HP2.out.1.st⟩
    by_cases k4 : K = 4
    · as_aux_lemma =>
      subst k4
      have q1 := HP.out.1.p1
      clear k1 k2 k3
      go_wp2_with (fail)
      go_region_held3 (fun w' => w'.cell? ⟨w.heap.size, 1, none⟩ = some (.int .i64 A)) (first | exact q1 | exact q1a | exact q1b) (first
        | (go_at_call 18; (first | refine (pOpen HP.out.2 A HA.out HM.out).mono ?_ | refine (pOpen HP.out.drew.2 A HA.out HM.out).mono ?_); rintro e w1 ⟨rfl, Y1, sa⟩; have HP1 := (by first | exact Lib.hid (HP.out.go sa) | exact Lib.hid (HP.out.drew.go sa)); have q1a := HP1.out.1.p1; clear sa)
        | (go_at_call 46; refine (qOpen HP1.out.2 HM.out).mono ?_; rintro e w2 ⟨rfl, Y2, sc⟩; have HP2 := Lib.hid (HP1.out.go sc); have q1b := HP2.out.1.p1; clear sc))
      go_wp2_with (fail)
      go_ret
      exact ⟨rfl, Y2, _, HP2.out.2, HP2.out.1.st⟩
    by_cases k5 : K = 5
    · as_aux_lemma =>
      subst k5
      have q1 := (And.intro HP.out.1.p1 HP.out.1.p2)
      clear k1 k2 k3 k4
      go_wp2_with (fail)
      go_region_held3 (fun w' => w'.cell? ⟨w.heap.size, 1, none⟩ = some (.int .i64 A) ∧ w'.cell? ⟨w.heap.size, 2, none⟩ = some (.int .i64 B)) (first | exact q1 | exact q1a | exact q1b) (first
        | (go_at_call 16; (first | refine (pMove HP.out.2 A B HA.out HM.out).mono ?_ | refine (pMove HP.out.drew.2 A B HA.out HM.out).mono ?_); rintro e w1 ⟨rfl, Y1, sa⟩; have HP1 := (by first | exact Lib.hid (HP.out.go sa) | exact Lib.hid (HP.out.drew.go sa)); have q1a := (And.intro HP1.out.1.p1 HP1.out.1.p2); clear sa)
        | (go_at_call 47; refine (qMove HP1.out.2 HM.out).mono ?_; rintro e w2 ⟨rfl, Y2, sc⟩; have HP2 := Lib.hid (HP1.out.go sc); have q1b := (And.intro HP2.out.1.p1 HP2.out.1.p2); clear sc))
      go_wp2_with (fail)
      go_ret
      exact ⟨rfl, Y2, _, HP2.out.2, HP2.out.1.st⟩
    by_cases k6 : K = 6
    · as_aux_lemma =>
      subst k6
      have q1 := (And.intro HP.out.1.p1 HP.out.1.p3)
      clear k1 k2 k3 k4 k5
      go_wp2_with (fail)
      go_region_held3 (fun w' => w'.cell? ⟨w.heap.size, 1, none⟩ = some (.int .i64 A) ∧ w'.cell? ⟨w.heap.size, 3, none⟩ = some (.slice va2 n2 vc2)) (first | exact q1 | exact q1a | exact q1b) (first
        | (go_at_call 22; (first | refine (pPut HP.out.2 A HA.out.2 va2 n2 vc2 l2 HP.out.1.len (by have := HP.out.1.two; omega) (fun w' ht => HP.out.1.rb w' (ht.mono (fun i hi => .inl hi)))).mono ?_ | refine (pPut HP.out.drew.2 A HA.out.2 va2 n2 vc2 l2 HP.out.drew.1.len (by have := HP.out.1.two; omega) (fun w' ht => HP.out.drew.1.rb w' (ht.mono (fun i hi => .inl hi)))).mono ?_); rintro e w1 ⟨rfl, Y1, sa⟩; have HP1 := (by first | exact Lib.hid (HP.out.go sa) | exact Lib.hid (HP.out.drew.go sa)); have q1a := (And.intro HP1.out.1.p1 HP1.out.1.p3); clear sa)
        | (go_at_call 48; refine (qPut HP1.out.2 va2 n2 vc2 HP1.out.1.len HP1.out.1.byt (fun w' ht => HP1.out.1.rb w' (ht.mono (fun i hi => .inl hi)))).mono ?_; rintro e w2 ⟨rfl, Y2, sc⟩; have HP2 := Lib.hid (HP1.out.go sc); have q1b := (And.intro HP2.out.1.p1 HP2.out.1.p3); clear sc))
      go_wp2_with (fail)
      go_ret
      exact ⟨rfl, Y2, _, (HP2.out.2.more (by omega) (by have := HM.out; omega)), HP2.out.1.st⟩
    by_cases k7 : K = 7
    · as_aux_lemma =>
      subst k7
      have q1 := HP.out.1.p1
      have q2 := HP.out.1.p2
      clear k1 k2 k3 k4 k5 k6
      go_wp2_with (fail)
      refine (pGet HP.out.2 A B HA.out.2 HB.out).mono ?_
      rintro e w1 ⟨v, Y1, rfl, ho1, hy1, st1⟩
      have HP1 := Lib.hid (HP.out.go st1)
      have c1 := HP1.out.1.p1
      have c2 := HP1.out.1.p2
      obtain ⟨M, hM⟩ : ∃ M, M = (gtL π A B).length := ⟨_, rfl⟩
      rw [← hM] at ho1
      obtain ⟨ad, cap1, rfl⟩ := R6.own_slice ho1
      have Ho1 := Lib.hid ho1
      have Hy1 := Lib.hid hy1
      clear q1 q2 st1 hM ho1 hy1
      go_wp2_with (fail)
      refine (qGet HP1.out.2).mono ?_
      rintro e w2 ⟨v2, Y2, rfl, hrb2, st2⟩
      have HP2 := Lib.hid (HP1.out.go st2)
      have hcv1 := conv_rb (rb_own (own_tchB Ho1.out st2.2.tc Hy1.out))
      have hcv2 := conv_rb hrb2
      clear c1 c2 st2 hrb2
      go_wp2_with (fail)
      go_ret
      exact ⟨rfl, Y2, _, HP2.out.2.more (by omega) (by have := HM.out; omega), HP2.out.1.st⟩
    by_cases k8 : K = 8
    · as_aux_lemma =>
      subst k8
      have q1 := HP.out.1.p1
      clear k1 k2 k3 k4 k5 k6 k7
      have ha := HA.out
      go_upto_if 159 with fail
      go_cut [15] from 158 to 162 (fun s15 wx => wc = wx ∧ ∃ N : Int, s15 = .int .i64 N ∧ 0 ≤ N)
      case first =>
        by_cases h0 : A < 0
        · have hw1 : IntKind.i64.wrap (A + 1) = A + 1 := IntWalk.i64_in _ (by omega)
          have hw2 : IntKind.i64.wrap (-(A + 1)) = -(A + 1) := IntWalk.i64_in _ (by omega)
          go_wp2_with (fail)
          go_meet
          case rel => exact ⟨rfl, _, rfl, by omega⟩
        · go_wp2_with (fail)
          go_meet
          case rel => exact ⟨rfl, _, rfl, by omega⟩
      case rest =>
        obtain ⟨rfl, N, rfl, hN⟩ := hcut
        clear ha q0 q1
        obtain ⟨vz, vt, tk, s1, s3, hvz, hvt, htk, htl⟩ := HP.out.2.see
        obtain ⟨a, cp, rfl, hcells⟩ := hvt
        have Htk := Lib.hid htk
        clear hvz s1 htk
        have htl2 : tk.length ≤ 99000000 := by have := HM.out; omega
        by_cases hz : tk.length = 0
        · go_wp2_with (fail)
          go_ret
          exact ⟨rfl, X, _, HP.out.2.more (by omega) (by have := HM.out; omega), HP.out.1.st⟩
        · obtain ⟨b, o, rfl, hcc⟩ := hcells (by rintro rfl; exact hz rfl)
          obtain ⟨k, hk, hkn⟩ : ∃ k : Nat, N.tmod (tk.length : Int) = k ∧ k < tk.length := tmod_nat hN (by omega)
          have kc := hcc k hkn
          have hux : usedP π (tk[k]?.getD 0) = true := (Htk.out _).1 (by rw [List.getElem?_eq_getElem hkn]; exact List.getElem_mem hkn)
          obtain ⟨x, hx⟩ : ∃ x, tk[k]?.getD 0 = x := ⟨_, rfl⟩
          rw [hx] at kc hux
          have Hux := Lib.hid hux
          obtain ⟨M, hM⟩ : ∃ M, tk.length = M := ⟨_, rfl⟩
          rw [hM] at s3 hz hk hkn htl2
          have hw1 : IntKind.i64.wrap (k : Int) = (k : Int) := IntWalk.i64_in _ (by omega)
          have hkM : (k : Int) < (M : Int) := by omega
          have hM0 : ¬ (M : Int) = 0 := by omega
          clear hcc hcells hx hM hux
          go_wp2_with (fail)
          go_quiet (fail)
          go_wp2_with (first
            | (go_at_call 12; refine (pFree (HP.out.drewN _).2 x (tk_le HP.out.2.wf Hux.out) HM.out).mono ?_; rintro e w1 ⟨rfl, Y1, sa⟩; have HP1 := Lib.hid ((HP.out.drewN _).go sa); clear sa)
            | (go_at_call 44; refine (qFree HP1.out.2 HM.out).mono ?_; rintro e w2 ⟨rfl, Y2, sc⟩; have HP2 := Lib.hid (HP1.out.go sc); clear sc))
          go_ret
          exact ⟨rfl, Y2, _, HP2.out.2, HP2.out.1.st⟩
    have q1 := HP.out.1.p1
    go_wp2_with (fail)
    refine (tChunks HP.out.2 A HA.out).mono ?_
    rintro e w1 ⟨v1, rfl, ho1, hb1⟩
    have HP1 := Lib.hid (HP.out.below hb1)
    have q1' := HP1.out.1.p1
    obtain ⟨M, hM⟩ : ∃ M, M = (chL π A).length := ⟨_, rfl⟩
    have HMl := Lib.hid hM
    rw [← hM] at ho1
    obtain ⟨ad, cap1, rfl⟩ := R6.own_slice ho1
    have Ho1 := Lib.hid ho1
    clear k1 k2 k3 k4 k5 k6 k7 k8 q0 q1 hb1 ho1 hM
    go_wp2_with (fail)
    refine (uChunks HP1.out.2 A).mono ?_
    rintro e w2 ⟨v2, rfl, ho2, hb2⟩
    have HP2 := Lib.hid (HP1.out.below hb2)
    have q2 := HP2.out.1.p1
    have Ho1b := Lib.hid (own_belowB Ho1.out hb2)
    rw [← HMl.out] at ho2
    obtain ⟨ad2, cap2, rfl⟩ := R6.own_slice ho2
    have Ho2 := Lib.hid ho2
    have hM63 : M ≤ 9223372036854775807 := own_len ho2
    obtain ⟨p, hp⟩ : ∃ p, whP π A = p := ⟨_, rfl⟩
    obtain ⟨a, ha⟩ : ∃ a, whA π A = a := ⟨_, rfl⟩
    obtain ⟨z, hz⟩ : ∃ z, whS π A = z := ⟨_, rfl⟩
    obtain ⟨u, hu⟩ : ∃ u, usedP π A = u := ⟨_, rfl⟩
    have Hw := Lib.hid (And.intro hp (And.intro ha hz))
    have Hu := Lib.hid hu
    clear q1' hb2 ho2 hp ha hz hu
    go_wp2_with (fail)
    refine (tWhere HP2.out.2 A HA.out.2 Hw.out).mono ?_
    rintro e w3 ⟨rfl, m3, e3⟩
    have HP3 : Hid (PS X X w w3 sb rb g g' π π L L w.heap.size K A B va2 n2 vc2 l2) := Lib.hid (by rw [e3]; exact HP2.out.drewN m3)
    have q3 := HP3.out.1.p1
    have Ho3a : Hid (w3.ownsRow wc.heap.size 3 1 (.slice ad M cap1) M ((chL π A).map (.int .i64))) := Lib.hid (by rw [e3]; exact Ho1b.out)
    have Ho4a : Hid (w3.ownsRow w1.heap.size 3 1 (.slice ad2 M cap2) M ((chL π A).map (.int .i64))) := Lib.hid (by rw [e3]; exact Ho2.out)
    clear q2 e3
    go_wp2_with (fail)
    refine (uWhere HP3.out.2 A Hw.out).mono ?_
    rintro e w4 ⟨rfl, m4, e4⟩
    have HP4 : Hid (PS X X w w4 sb rb g g' π π L L w.heap.size K A B va2 n2 vc2 l2) := Lib.hid (by rw [e4]; exact HP3.out.drewN m4)
    have q4 := HP4.out.1.p1
    have Ho3 : Hid (w4.ownsRow wc.heap.size 3 1 (.slice ad M cap1) M ((chL π A).map (.int .i64))) := Lib.hid (by rw [e4]; exact Ho3a.out)
    have Ho4 : Hid (w4.ownsRow w1.heap.size 3 1 (.slice ad2 M cap2) M ((chL π A).map (.int .i64))) := Lib.hid (by rw [e4]; exact Ho4a.out)
    have HoA : Hid (∀ m, Calls Try.prog 11 #[.pointer (some ⟨sb, 0, none⟩), .int .i64 A] (w4.drewN m) fun e w' => e = .returned (.bool u) ∧ w' = w4.drewN m) := Lib.hid (fun m => (tUsed (HP4.out.2.drewN m) A HA.out.2 Hu.out).mono (fun _ _ ⟨h1, h2⟩ => ⟨h1, h2.symm⟩))
    have HoR : Hid (∀ m, Calls Try.prog 52 #[.pointer (some ⟨rb, 0, none⟩), .int .i64 A] (w4.drewN m) fun e w' => e = .returned (.bool u) ∧ w' = w4.drewN m) := Lib.hid (fun m => (uUsed (HP4.out.2.drewN m) A Hu.out).mono (fun _ _ ⟨h1, h2⟩ => ⟨h1, h2.symm⟩))
    have hpos : ∀ b, (Value.slice ad M cap1).ownBlock = some b → ¬ X b ∧ w.heap.size ≤ b ∧ b ≠ w.heap.size ∧ b < w1.heap.size := fun b hb => by
      have h1 := Ho1.out.lt b hb
      have h2 := HP.out.new h1.1
      exact ⟨h2.1, h2.2.1, h2.2.2, h1.2⟩
    have Hpos := Lib.hid hpos
    clear q3 e4 hpos
    go_wp2_with (fail)
    go_quiet ((first | (go_at_call 11; exact Calls.quiet_of_same (HoA.out _)) | (go_at_call 52; exact Calls.quiet_of_same (HoR.out _))))
    clear q4
    go_wp2_with (fail)
    go_loopw [25, 26] (fun ok i wr => ok = .bool true ∧ ∃ j : Nat, j ≤ M ∧ i = .int .i64 j ∧ Hid (PS X X w wr sb rb g g' π π L L w.heap.size K A B va2 n2 vc2 l2) ∧
      Hid (wr.ownsRow wc.heap.size 3 1 (.slice ad M cap1) M ((List.replicate j (-7) ++ (chL π A).drop j).map (.int .i64))) ∧ Hid (wr.ownsRow w1.heap.size 3 1 (.slice ad2 M cap2) M ((chL π A).map (.int .i64)))) (fun _ i _ => M - (intOf i).toNat)
    case atStart => exact ⟨rfl, 0, Nat.zero_le _, rfl, Lib.hid (HP4.out.drewN _), Lib.hid (by simp only [List.replicate_zero, List.nil_append, List.drop_zero]; exact Ho3.out), Lib.hid Ho4.out⟩
    case round =>
      obtain ⟨rfl, j, hj, rfl, hp, ho, hom⟩ := hrel
      by_cases hlt : j < M
      · obtain ⟨b, cap', e⟩ := R6.own_pos ho.out (by omega)
        simp only [Value.slice.injEq, true_and] at e
        obtain ⟨rfl, rfl⟩ := e
        obtain ⟨b2, cap'', e⟩ := R6.own_pos hom.out (by omega)
        simp only [Value.slice.injEq, true_and] at e
        obtain ⟨rfl, rfl⟩ := e
        have hcl := own_int ho.out j hlt
        rw [fill_at (-7) (by rw [← HMl.out]; exact hlt)] at hcl
        have hcm := own_int hom.out j hlt
        have hfz := ho.out.frozenAt j
        have hst := ho.out.stored j (.int .i64 (-7))
        rw [← List.map_set, fill_set (-7) (by rw [← HMl.out]; exact hlt)] at hst
        have Hst := Lib.hid hst.1
        have Hpn := Lib.hid (hp.out.beside (Tch.of_grown hst.2) (fun i hi => by obtain ⟨h1, h2, h3, _⟩ := Hpos.out i (by injection hi with hi; subst hi; rfl); exact ⟨h1, h2, h3⟩))
        have Hmn := Lib.hid (hom.out.kept hst.2 (.inr (by
          have h1 := (Hpos.out b rfl).2.2.2
          have h2 := (hom.out.lt b2 rfl).1
          simp [Value.ownBlock]; omega)))
        clear hst
        go_wp2_with (fail)
        go_quiet (fail)
        go_wp2_with (fail)
        go_roundw
        case rel => exact ⟨rfl, j + 1, by omega, by go_num, Lib.hid (Hpn.out.drewN _), Lib.hid Hst.out, Lib.hid Hmn.out⟩
        case measure => simp [intOf]; omega
      · go_wp2_with (fail)
        go_ret
        exact ⟨rfl, X, π, hp.out.2.more (by omega) (by have := HM.out; omega), hp.out.1.st⟩
end Go.Proofs.Ytfmgncajhjkdlaa.R7
/- SlabPlays: what holds along it. -/
namespace Go.Proofs.Ytfmgncajhjkdlaa.R7
open Go.RowKit Go.PlainAid
open SP
set_option linter.unusedVariables false
set_option linter.unusedSimpArgs false

theorem ri_takeN {w : World} {a : Option Addr} {n cap : Nat} {l : List Int} (h : RI w (.slice a n cap) l) (c : Nat) (hc : c ≤ n) : RI w (.slice a c cap) (l.take c) := by
  obtain ⟨a', cap', e, hcc⟩ := h
  simp only [Value.slice.injEq] at e
  obtain ⟨rfl, hl, rfl⟩ := e
  have hlen : (l.take c).length = c := by simp; omega
  refine ⟨a, cap, by rw [hlen], fun hne => ?_⟩
  obtain ⟨b, o, rfl, hx⟩ := hcc (by rintro rfl; simp at hne)
  refine ⟨b, o, rfl, fun i hi => ?_⟩
  rw [hx i (by omega), List.getElem?_take, if_pos (by omega)]
/-- a step that came in -/
def OpAt (w : World) (b o : Nat) : Prop := ∃ (K A B : Int) (va : Option Addr) (n vc : Nat) (l : List Int),
  w.rangeAt b o [.int .i64 K, .int .i64 A, .int .i64 B, .slice va n vc] ∧ RB w (.slice va n vc) l ∧ l.length = n ∧ (n ≤ vc ∧ vc ≤ maxLen) ∧ (∀ x ∈ l, 0 ≤ x ∧ x ≤ 255) ∧ (-9223372036854775808 ≤ A ∧ A ≤ 9223372036854775807) ∧ (-9223372036854775808 ≤ B ∧ B ≤ 9223372036854775807)
def OpsIn (w : World) (a : Option Addr) (len : Nat) : Prop := ∀ i, i < len → ∃ b o, a = some ⟨b, o, none⟩ ∧ OpAt w b (o + i * 4)
theorem rangeAt_below {w w' : World} {b o : Nat} {cs : List Value} (h : w.rangeAt b o cs) (hb : Below w.heap.size w w') : w'.rangeAt b o cs := fun j v hv => by
  have h1 := h j v hv
  exact (hb.cell (p := ⟨b, o + j, none⟩) (World.block_lt_of_cell? _ _ h1)).trans h1

structure Iv (w wr : World) (X : Nat → Prop) (sb rb g g' : Nat) (π : Pi) (L : Nat) : Prop where
  sm : Sm X sb rb g g' wr π π L L
  lo : ∀ i, X i → w.heap.size ≤ i
  bel : Below w.heap.size w wr
section
variable {w wr w' : World} {X Y : Nat → Prop} {sb rb g g' : Nat} {π π' : Pi} {L L' : Nat}
theorem Iv.step (h : Iv w wr X sb rb g g' π L) (hs : Sm Y sb rb g g' w' π' π' L' L') (k : Stp X Y wr w') : Iv w w' Y sb rb g g' π' L' :=
  ⟨hs, fun i hi => (k.nu i hi).elim (h.lo i) (fun h1 => Nat.le_trans h.bel.size h1), k.tc.below h.bel h.bel.size h.lo⟩
theorem Iv.beside {T : Nat → Prop} (h : Iv w wr X sb rb g g' π L) (ht : Tch T wr w') (hT : ∀ i, T i → ¬ X i ∧ w.heap.size ≤ i) : Iv w w' X sb rb g g' π L :=
  ⟨h.sm.keep ht (fun i hi hx => (hT i hx).1 hi), h.lo, ht.below h.bel h.bel.size (fun i hi => (hT i hi).2)⟩
theorem Iv.more (h : Iv w wr X sb rb g g' π L) (hb : Below wr.heap.size wr w') : Iv w w' X sb rb g g' π L := h.beside (Tch.of_below (fun _ => False) hb) (fun i hi => hi.elim)
theorem Iv.does (h : Iv w wr X sb rb g g' π L) (hm : L + 3000 ≤ 99000000) (K A B : Int) (va : Option Addr) (n vc : Nat) (l : List Int)
    (hrb : RB w (.slice va n vc) l) (hx : l.length = n ∧ (n ≤ vc ∧ vc ≤ maxLen) ∧ (∀ x ∈ l, 0 ≤ x ∧ x ≤ 255) ∧ (-9223372036854775808 ≤ A ∧ A ≤ 9223372036854775807) ∧ (-9223372036854775808 ≤ B ∧ B ≤ 9223372036854775807)) :
    Calls Try.prog 26 #[.pointer (some ⟨sb, 0, none⟩), .pointer (some ⟨rb, 0, none⟩), .agg #[.int .i64 K, .int .i64 A, .int .i64 B, .slice va n vc]] wr
      fun e w' => e = .returned (.bool true) ∧ ∃ Y π', Iv w w' Y sb rb g g' π' (L + 2000) := by
  refine (does_any h.sm hm K A B va n vc l (fun w' ht => hrb.below (ht.below h.bel h.bel.size (fun i hi => ?_))) hx.1 hx.2.1 hx.2.2.1 hx.2.2.2.1 hx.2.2.2.2).mono ?_
  · exact hi.elim (h.lo i) (fun h1 => Nat.le_trans h.bel.size h1)
  · rintro e w' ⟨rfl, Y, π', hs, hst⟩
    exact ⟨rfl, Y, π', h.step hs hst⟩
theorem Iv.tell (h : Iv w wr X sb rb g g' π L) :
    Calls Try.prog 27 #[.pointer (some ⟨sb, 0, none⟩), .pointer (some ⟨rb, 0, none⟩)] wr fun e w' => e = .returned (.bool true) ∧ Iv w w' X sb rb g g' π L :=
  (tell_any h.sm).mono (fun e w' hh => ⟨hh.1, h.more hh.2⟩)

/-- both slabs, new -/
theorem sm_start {w0 w1 w2 w3 w4 : World} {g k np S g' k' ck r cr : Nat} {l : List Int} {β : Bk} {γ : Gk} (hz : Szs S l) (hA : Ar w1 g k np S (.slice none 0 0) (List.replicate np 0) []) (hg : w0.heap.size ≤ g) (hk : w0.heap.size ≤ k)
    (hR : R6.Rf w2 g' k' ck r cr np S (List.replicate np 0) (List.replicate np (.slice none 0 0)) (List.replicate (np * S) 0)) (hg' : w1.heap.size ≤ g') (hk' : w1.heap.size ≤ k') (hr : w1.heap.size ≤ r) (hb2 : Below w1.heap.size w1 w2)
    (hM : Mem w3 β (newP S (List.replicate np 0) [] l) 0) (hb3 : Below w2.heap.size w2 w3) (hβ : β.g = g) (hf : ∀ b, foot β (newP S (List.replicate np 0) [] l) b → (b = g ∨ b = k ∨ (Value.slice none 0 0).ownBlock = some b) ∨ w2.heap.size ≤ b)
    (hN : Ms w4 γ (rho0 S (List.replicate np 0) (List.replicate (np * S) 0) l)) (hγ : γ.g = g') (hF : ∀ b, ft γ (rho0 S (List.replicate np 0) (List.replicate (np * S) 0) l) b → R6.rFoot g' k' r S (List.replicate np (.slice none 0 0)) b ∨ w3.heap.size ≤ b) (hb4 : Below w3.heap.size w3 w4) :
    ∃ X, Sm X β.sb γ.sb g g' w4 (newP S (List.replicate np 0) [] l) (newP S (List.replicate np 0) [] l) 0 0 ∧ ∀ i, X i → w0.heap.size ≤ i ∧ (i < w1.heap.size → i = g ∨ i = k) := by
  have hgl := (Array.getElem?_eq_some_iff.1 hA.box).1
  have hkl := (hA.own.lt k rfl).2
  have hs2 := hb2.size
  have hs3 := hb3.size
  have hs4 := hb4.size
  have hrf : ∀ i, R6.rFoot g' k' r S (List.replicate np (.slice none 0 0)) i → w1.heap.size ≤ i ∧ i < w2.heap.size := by
    intro i hi
    refine ⟨?_, R6.rFoot_lt hR i hi⟩
    rcases hi with h1 | h1 | h1 | ⟨j, h1⟩
    · subst h1; exact hg'
    · subst h1; exact hk'
    · subst h1; exact hr
    · rw [List.getElem?_replicate] at h1
      split at h1 <;> simp at h1
  have hM4 := hM.below hb4
  have hw : Wf (newP S (List.replicate np 0) [] l) 0 := newP_wf hz hA.rng (granted_rep np) (by rw [List.length_replicate]; exact hA.np1) (by have := hA.siz; omega)
  have hno : ∀ p, (newP S (List.replicate np 0) [] l).page p = none := newP_page S _ _ l
  have hs : Sim (newP S (List.replicate np 0) [] l) (rho0 S (List.replicate np 0) (List.replicate (np * S) 0) l) 0 := by
    refine ⟨rfl, rfl, rfl, rfl, ?_, Nat.zero_le _, fun x => ?_, List.Pairwise.nil, fun p => ?_, Nat.le_refl _, Nat.le_refl _⟩
    · show AP.ext [] ((List.replicate np (0 : Int)).length * S) = List.replicate (np * S) 0
      unfold AP.ext
      simp
    · show x ∈ [] ↔ _
      unfold usedP
      rw [hno]
      split <;> simp
    · show p ∈ [] ↔ _
      unfold pageI
      rw [hno]
      split <;> simp
  refine ⟨fun i => foot β (newP S (List.replicate np 0) [] l) i ∨ ft γ (rho0 S (List.replicate np 0) (List.replicate (np * S) 0) l) i, ⟨β, γ, _, ⟨hM4, hN, fun i hi => .inl hi, fun i hi => .inr hi, fun i hi hx => ?_, fun i hi => ?_⟩, hw, hw, hs, rfl, rfl, hβ, hγ⟩, fun i hi => ?_⟩
  · have h3 : i < w3.heap.size := let ⟨j, hj⟩ := hi; hM.lt j i hj
    rcases hF i hx with h1 | h1
    · have h4 := hrf i h1
      rcases hf i hi with (h2 | h2 | h2) | h2
      · omega
      · omega
      · simp [Value.ownBlock] at h2
      · omega
    · omega
  · rcases hi with ⟨j, hj⟩ | ⟨j, hj⟩
    · exact hM4.lt j i hj
    · exact hN.lt j i hj
  · have hs1 : w0.heap.size ≤ w1.heap.size := by omega
    rcases hi with h1 | h1
    · rcases hf i h1 with (h2 | h2 | h2) | h2
      · exact ⟨by omega, fun _ => .inl h2⟩
      · exact ⟨by omega, fun _ => .inr h2⟩
      · simp [Value.ownBlock] at h2
      · exact ⟨by omega, fun h => by omega⟩
    · rcases hF i h1 with h2 | h2
      · have := hrf i h2
        exact ⟨by omega, fun h => by omega⟩
      · exact ⟨by omega, fun h => by omega⟩

/-- one more slab on each arena -/
def Nw (ok : Prop) (w : World) (e : Ending) (w' : World) : Prop :=
  (ok ∧ ∃ b, e = .returned (.tuple #[.pointer (some ⟨b, 0, none⟩), .int .i64 0]) ∧ Below w.heap.size w w') ∨ (¬ ok ∧ e = .returned (.tuple #[.pointer none, .int .i64 1]) ∧ Below w.heap.size w w')
theorem Sm.pNew (h : Sm X sb rb g g' w π π L L) (ad : Option Addr) (n c : Nat) (l : List Int) (hr : RI w (.slice ad n c) l) (hcap : n ≤ c) :
    Calls Try.prog 21 #[.pointer (some ⟨g, 0, none⟩), .slice ad n c] w (Nw (AP.granted π.ow = 0 ∧ Szs π.S l) w) := by
  obtain ⟨β, γ, ρ, h1, h2, h3, h4, h5, h6, rfl, h8⟩ := h
  by_cases hq : AP.granted π.ow = 0 ∧ Szs π.S l
  · obtain ⟨A, rfl⟩ : ∃ A, ad = some A := by
      obtain ⟨a', c', e, hcc⟩ := hr
      obtain ⟨b, o, rfl, _⟩ := hcc (by rintro rfl; have := hq.2.len; simp at this)
      simp only [Value.slice.injEq] at e
      exact ⟨_, e.1⟩
    refine (new_ok (h1.mem.ar h2) hq.1 A n c l hr hcap hq.2).mono ?_
    rintro e w' ⟨β', rfl, _, hb, _⟩
    exact .inl ⟨hq, _, rfl, hb⟩
  · refine (new_fail (h1.mem.ar h2) ad n c l hr hcap hq).mono ?_
    rintro e w' ⟨rfl, m, rfl⟩
    exact .inr ⟨hq, rfl, below_drewN (Below.refl _ _) m⟩
theorem Sm.qNew (h : Sm X sb rb g g' w π π L L) (ad : Option Addr) (n c : Nat) (l : List Int) (hr : RI w (.slice ad n c) l) :
    Calls Try.prog 25 #[.pointer (some ⟨g', 0, none⟩), .slice ad n c] w (Nw (AP.granted π.ow = 0 ∧ Szs π.S l) w) := by
  obtain ⟨β, γ, ρ, h1, h2, h3, h4, h5, h6, h7, rfl⟩ := h
  refine (rnew_any h1.ms.ar ad n c l hr).mono ?_
  rw [h4.ow, h4.S]
  rintro e w' (⟨hq, γ', rfl, _, _, _, hb⟩ | ⟨hq, rfl, m, rfl⟩)
  · exact .inl ⟨hq, _, rfl, hb⟩
  · exact .inr ⟨hq, rfl, below_drewN (Below.refl _ _) m⟩
end
end Go.Proofs.Ytfmgncajhjkdlaa.R7
/- SlabPlays: the walk. -/
namespace Go.Proofs.Ytfmgncajhjkdlaa.R7
open Go.RowKit Go.PlainAid
open SP
set_option linter.unusedVariables false
set_option linter.unusedSimpArgs false

theorem infoOp7 : (Try.prog.info? 60).map (·.size) = some 4 := by kernel_rfl
theorem own_cap0 {w : World} {base n c : Nat} {a : Option Addr} {e : TypeId} {xs : List Value} (h : w.ownsRow base e 1 (.slice a n c) n xs) : n ≤ c := by
  rcases h.2 with ⟨e, h0⟩ | ⟨b, cap, cur, e, _⟩
  · omega
  · simp only [Value.slice.injEq, true_and] at e
    obtain ⟨rfl, rfl⟩ := e
    exact (own_cap h).1
def BlPost (w : World) (e : Ending) (w' : World) : Prop := e = .returned (.bool true) ∧ Below w.heap.size w w'

set_option maxRecDepth 100000 in
set_option maxHeartbeats 8000000 in
theorem plays_walk (pages : Int) (ad : Option Addr) (n c : Nat) (l : List Int) (a0 : Option Addr) (len cap : Nat) (w : World) (hr : RI w (.slice ad n c) l) (hln : l.length = n) (hnc : n ≤ c) (hcm : c ≤ maxLen) (hops : OpsIn w a0 len) (hl : len ≤ cap) (hc : cap ≤ maxLen) :
    Calls Try.prog 7 #[.int .i64 pages, .slice ad n c, .slice a0 len cap] w (BlPost w) := by
  have Hr := Lib.hid hr
  have Hln := Lib.hid hln
  have Hops := Lib.hid hops
  unfold maxLen at hc hcm
  clear hr hln hops
  go_enter Try.func7, Try.ntmps7
  go_wp2_with (fail)
  refine (shown_any w).mono ?_
  rintro e w1 ⟨rfl, hb1⟩
  have HB1 := Lib.hid hb1
  clear hb1
  go_upto_if 30 with (fail)
  go_cut [1] from 28 to 32 (fun s1 wx => w1 = wx ∧ ∃ (n1 : Nat) (l1 : List Int), s1 = .slice ad n1 c ∧ n1 ≤ 100 ∧ n1 ≤ c ∧ Hid (RI w (.slice ad n1 c) l1) ∧ Hid (l1.length = n1))
  case first =>
    by_cases h0 : 100 < n
    · have h1 : (100 : Int) < (n : Int) := by omega
      go_wp2
      go_meet
      case rel => exact ⟨rfl, 100, _, rfl, by omega, by omega, Lib.hid (ri_takeN Hr.out 100 (by omega)), Lib.hid (by rw [List.length_take, Hln.out]; omega)⟩
    · have h1 : ¬ (100 : Int) < (n : Int) := by omega
      go_wp2
      go_meet
      case rel => exact ⟨rfl, n, l, rfl, by omega, hnc, Hr, Hln⟩
  case rest =>
  obtain ⟨rfl, n1, l1, rfl, hn1, hn1c, HR1, HL1⟩ := hcut
  have hra := Lib.hid ((HR1.out.below HB1.out).below ((Below.refl w1.heap.size w1).alloc (Nat.le_refl _) (.cells #[] 3)))
  clear Hr Hln hnc
  go_wp2_with (at_builtin; go_must (refine wp_appRI w1 _ rfl _ _ rfl w1.heap.size (.slice (some ⟨w1.heap.size, 0, none⟩) 0 0) (.slice ad n1 c) 0 [] l1 rfl (own_newI w1) rfl hra.out ((Below.refl _ _).alloc (Nat.le_refl _) _) (by rw [HL1.out]; omega) (by simp) ?_); intro v2 w2 ho2 hb2 hn2; rw [List.nil_append, Nat.zero_add, HL1.out] at ho2)
  obtain ⟨la, lc, rfl, _⟩ := own_sl ho2
  have hlc := own_cap0 ho2
  have Ho2 := Lib.hid ho2
  have HB2 := Lib.hid (HB1.out.trans (hb2.mono HB1.out.size))
  have Hs12 := Lib.hid hb2.size
  clear ho2 hb2 hn2 hra
  cases hok : okNew pages 512 with
  | false =>
    go_wp2_with (fail)
    refine (new_no pages 512 _ hok).mono ?_
    rintro e w3 (⟨_, rfl, rfl⟩ | ⟨h, _⟩)
    rotate_left
    · rw [hok] at h; cases h
    go_wp2_with (fail)
    refine (R6.rNew_no pages 512 _ hok).mono ?_
    rintro e w4 (⟨_, rfl, rfl⟩ | ⟨h, _⟩)
    rotate_left
    · rw [hok] at h; cases h
    clear hok
    go_wp2_with (fail)
    refine (new_nil _ _).mono ?_
    rintro e w5 ⟨rfl, m, e5⟩
    have HB5 : Hid (Below w.heap.size w w5) := Lib.hid (by rw [e5]; exact below_drewN HB2.out m)
    clear e5
    go_wp2_with (fail)
    go_ret
    exact ⟨rfl, HB5.out⟩
  | true =>
    obtain ⟨np, rfl⟩ := Int.eq_ofNat_of_zero_le (show 0 ≤ pages by simp [okNew] at hok; omega)
    go_wp2_with (fail)
    refine (new_yes np 512 _ hok).mono ?_
    rintro e w3 (⟨h, _⟩ | ⟨_, g, k, rfl, hA, hg, hk, hb3⟩)
    · rw [hok] at h; cases h
    rw [Int.toNat_natCast] at hA
    have HA : Hid (Ar w3 g k np (512 : Nat) (.slice none 0 0) (List.replicate np 0) []) := Lib.hid hA
    have Hg := Lib.hid (And.intro hg (And.intro hk hb3))
    clear hA hg hk hb3
    go_wp2_with (fail)
    refine (R6.rNew_yes np 512 _ hok).mono ?_
    rintro e w4 (⟨h, _⟩ | ⟨_, g', k', ck, r, cr, rfl, hR, hg', hk', hrr, hb4⟩)
    · rw [hok] at h; cases h
    rw [Int.toNat_natCast] at hR
    have HRf : Hid (R6.Rf w4 g' k' ck r cr np 512 (List.replicate np 0) (List.replicate np (.slice none 0 0)) (List.replicate (np * 512) 0)) := Lib.hid hR
    have Hg' := Lib.hid (And.intro hg' (And.intro hk' (And.intro hrr hb4)))
    have HA4 := Lib.hid (HA.out.belowB hb4)
    have HR4 := Lib.hid (ri_owns (own_belowB (own_belowB Ho2.out Hg.out.2.2) hb4))
    have HB4 : Hid (Below w.heap.size w w4) := Lib.hid ((HB2.out.trans (Hg.out.2.2.mono HB2.out.size)).trans (hb4.mono (Nat.le_trans HB2.out.size Hg.out.2.2.size)))
    clear hR hg' hk' hrr hb4 hok
    go_wp2_with (fail)
    by_cases hz : Szs 512 l1
    · have Hz := Lib.hid hz
      have hn0 : 0 < n1 := by have := hz.len; have := HL1.out; omega
      obtain ⟨lb, lc', hlb⟩ := R6.own_pos Ho2.out hn0
      simp only [Value.slice.injEq, true_and] at hlb
      obtain ⟨rfl, rfl⟩ := hlb
      obtain ⟨b1, c1, hb1⟩ : ∃ b1 c1, Value.slice ad n1 c = .slice (some b1) n1 c1 := by
        obtain ⟨a', c', e, hcc⟩ := HR1.out
        obtain ⟨b, o, rfl, _⟩ := hcc (by rintro rfl; have := HL1.out; simp at this; omega)
        simp only [Value.slice.injEq] at e
        exact ⟨_, c, by rw [e.1]⟩
      simp only [Value.slice.injEq, true_and] at hb1
      obtain ⟨rfl, rfl⟩ := hb1
      refine (new_ok HA4.out (granted_rep np) ⟨lb, 0, none⟩ n1 lc l1 HR4.out hlc Hz.out).mono ?_
      rintro e w5 ⟨β, rfl, hM, hb5, hβ, hf⟩
      have HM := Lib.hid (And.intro hM (And.intro hb5 (And.intro hβ hf)))
      have HRf5 := Lib.hid (HRf.out.keep (Tch.of_below (fun _ => False) hb5) (fun _ hh _ => hh))
      have HR5 := Lib.hid (HR1.out.below (HB4.out.trans (hb5.mono HB4.out.size)))
      clear hM hb5 hβ hf hz
      go_wp2_with (fail)
      refine (rnew_any HRf5.out (some b1) n1 c l1 HR5.out).mono ?_
      rintro e w6 (⟨_, γ, rfl, hN, hγ, hF, hb6⟩ | ⟨hh, _⟩)
      rotate_left
      · exact absurd ⟨granted_rep np, Hz.out⟩ hh
      obtain ⟨X, hS, hX⟩ := sm_start Hz.out HA.out Hg.out.1 Hg.out.2.1 HRf.out Hg'.out.1 Hg'.out.2.1 Hg'.out.2.2.1 Hg'.out.2.2.2 HM.out.1 HM.out.2.1 HM.out.2.2.1 HM.out.2.2.2 hN hγ hF hb6
      have hw2 := HB2.out.size
      have HI0 : Hid (Iv w w6 X β.sb γ.sb g g' (newP 512 (List.replicate np 0) [] l1) 0) := Lib.hid ⟨hS, fun i hi => Nat.le_trans hw2 (hX i hi).1, (HB4.out.trans (HM.out.2.1.mono HB4.out.size)).trans (hb6.mono (Nat.le_trans HB4.out.size HM.out.2.1.size))⟩
      have Ho6 := Lib.hid (own_belowB (own_belowB (own_belowB (own_belowB Ho2.out Hg.out.2.2) Hg'.out.2.2.2) HM.out.2.1) hb6)
      have hlb := Ho2.out.lt lb rfl
      have HlX : Hid (¬ X lb ∧ w.heap.size ≤ lb) := Lib.hid ⟨fun hx => by have := (hX lb hx).1; omega, Nat.le_trans HB1.out.size hlb.1⟩
      generalize β.sb = sb at *
      generalize γ.sb = rb at *
      generalize newP 512 (List.replicate np 0) [] l1 = π0 at *
      clear HM HRf5 HR5 HRf HA HA4 HR4 Hg Hg' hN hγ hF hb6 hS hX hw2 hlb Ho2 HB4 HB2
      go_wp2_with (fail)
      go_loopw [19] (fun i wr => ∃ j : Nat, j ≤ n1 ∧ i = .int .i64 j ∧ Hid (Iv w wr X sb rb g g' π0 0) ∧ Hid (wr.ownsRow w1.heap.size 3 1 (.slice (some ⟨lb, 0, none⟩) n1 lc) n1 ((List.replicate j 1 ++ l1.drop j).map (.int .i64)))) (fun i _ => n1 - (intOf i).toNat)
      case atStart => exact ⟨0, Nat.zero_le _, rfl, HI0, Lib.hid (by simpa using Ho6.out)⟩
      case round =>
        obtain ⟨j, hj, rfl, hI, ho⟩ := hrel
        by_cases hlt : j < n1
        · have hcl := own_int ho.out j hlt
          rw [fill_at 1 (by rw [HL1.out]; exact hlt)] at hcl
          have hfz := ho.out.frozenAt j
          have hst := ho.out.stored j (.int .i64 1)
          rw [← List.map_set, fill_set 1 (by rw [HL1.out]; exact hlt)] at hst
          have Hst := Lib.hid hst.1
          have Hin := Lib.hid (hI.out.beside (Tch.of_grown hst.2) (fun i hi => by injection hi with hi; subst hi; exact HlX.out))
          clear hst
          go_wp2_with (fail)
          go_roundw
          case rel => exact ⟨j + 1, by omega, by go_num, Hin, Hst⟩
          case measure => simp [intOf]; omega
        · have HI0 := hI
          clear hI ho Ho6
          go_wp2_with (fail)
          go_loopw [20, 21, 22] (fun i ok same wq => ∃ (j : Nat) (Y : Nat → Prop) (π : Pi), j ≤ len ∧ j ≤ 150 ∧ i = .int .i64 j ∧ Hid (Iv w wq Y sb rb g g' π (2000 * j))) (fun i _ _ _ => len - (intOf i).toNat)
          case atStart => exact ⟨0, X, π0, Nat.zero_le _, Nat.zero_le _, rfl, HI0⟩
          case round =>
            clear HI0
            obtain ⟨j, Y, π, hj, hj2, rfl, hI⟩ := hrel
            by_cases hlt : j < len
            · by_cases h150 : j < 150
              · obtain ⟨b, o, rfl, K, A, B, va, nv, vc, lv, hrg, hrb, hx⟩ := Hops.out j hlt
                have Hrg := Lib.hid (rangeAt_below hrg hI.out.bel)
                have Hdo := Lib.hid (hI.out.does (by omega) K A B va nv vc lv hrb hx)
                clear hrg hrb hx
                go_wp2_with (refine wpList_load_mid rfl 60 _ rfl b (o + j * 4) rfl [.int .i64 K, .int .i64 A, .int .i64 B, .slice va nv vc] _ Hrg.out Try.underlying60 rfl infoOp7 ?_)
                refine Hdo.out.mono ?_
                rintro e w6 ⟨rfl, Y3, π3, hI3⟩
                have HI3 := Lib.hid hI3
                clear hI3
                go_wp2_with (fail)
                refine HI3.out.tell.mono ?_
                rintro e w7 ⟨rfl, hI7⟩
                rw [show 2000 * j + 2000 = 2000 * (j + 1) by omega] at hI7
                have HI7 := Lib.hid hI7
                clear hI7
                go_wp2_with (fail)
                go_roundw
                case rel => exact ⟨j + 1, Y3, π3, by omega, by omega, by go_num, HI7⟩
                case measure => simp [intOf]; omega
              · have h2 : ¬ (j : Int) < 150 := by omega
                have HR8 := Lib.hid (HR1.out.below hI.out.bel)
                go_wp2_with (fail)
                refine (hI.out.sm.pNew (some b1) n1 c l1 HR8.out hn1c).mono ?_
                rintro e w8 (⟨hq, b8, rfl, hb8⟩ | ⟨hq, rfl, hb8⟩)
                · have HI8 := Lib.hid (hI.out.more hb8)
                  have HR9 := Lib.hid (HR1.out.below HI8.out.bel)
                  have Hq := Lib.hid hq
                  clear hq hb8 HR8
                  go_wp2_with (fail)
                  refine (HI8.out.sm.qNew (some b1) n1 c l1 HR9.out).mono ?_
                  rintro e w9 (⟨_, b9, rfl, hb9⟩ | ⟨hh, _⟩)
                  rotate_left
                  · exact absurd Hq.out hh
                  have HI9 := Lib.hid (HI8.out.more hb9)
                  clear hb9
                  go_wp2_with (fail)
                  go_ret
                  exact ⟨rfl, HI9.out.bel⟩
                · have HI8 := Lib.hid (hI.out.more hb8)
                  have HR9 := Lib.hid (HR1.out.below HI8.out.bel)
                  have Hq := Lib.hid hq
                  clear hq hb8 HR8
                  go_wp2_with (fail)
                  refine (HI8.out.sm.qNew (some b1) n1 c l1 HR9.out).mono ?_
                  rintro e w9 (⟨hh, _⟩ | ⟨_, rfl, hb9⟩)
                  · exact absurd hh Hq.out
                  have HI9 := Lib.hid (HI8.out.more hb9)
                  clear hb9
                  go_wp2_with (fail)
                  go_ret
                  exact ⟨rfl, HI9.out.bel⟩
            · skip
              have HR8 := Lib.hid (HR1.out.below hI.out.bel)
              go_wp2_with (fail)
              refine (hI.out.sm.pNew (some b1) n1 c l1 HR8.out hn1c).mono ?_
              rintro e w8 (⟨hq, b8, rfl, hb8⟩ | ⟨hq, rfl, hb8⟩)
              · have HI8 := Lib.hid (hI.out.more hb8)
                have HR9 := Lib.hid (HR1.out.below HI8.out.bel)
                have Hq := Lib.hid hq
                clear hq hb8 HR8
                go_wp2_with (fail)
                refine (HI8.out.sm.qNew (some b1) n1 c l1 HR9.out).mono ?_
                rintro e w9 (⟨_, b9, rfl, hb9⟩ | ⟨hh, _⟩)
                rotate_left
                · exact absurd Hq.out hh
                have HI9 := Lib.hid (HI8.out.more hb9)
                clear hb9
                go_wp2_with (fail)
                go_ret
                exact ⟨rfl, HI9.out.bel⟩
              · have HI8 := Lib.hid (hI.out.more hb8)
                have HR9 := Lib.hid (HR1.out.below HI8.out.bel)
                have Hq := Lib.hid hq
                clear hq hb8 HR8
                go_wp2_with (fail)
                refine (HI8.out.sm.qNew (some b1) n1 c l1 HR9.out).mono ?_
                rintro e w9 (⟨hh, _⟩ | ⟨_, rfl, hb9⟩)
                · exact absurd hh Hq.out
                have HI9 := Lib.hid (HI8.out.more hb9)
                clear hb9
                go_wp2_with (fail)
                go_ret
                exact ⟨rfl, HI9.out.bel⟩
    · have hno : ¬ (AP.granted (List.replicate np 0) = 0 ∧ Szs 512 l1) := fun h => hz h.2
      refine (new_fail HA4.out la n1 lc l1 HR4.out hlc hno).mono ?_
      rintro e w5 ⟨rfl, m, e5⟩
      have HRf5 : Hid (R6.Rf w5 g' k' ck r cr np 512 (List.replicate np 0) (List.replicate np (.slice none 0 0)) (List.replicate (np * 512) 0)) := Lib.hid (by rw [e5]; exact HRf.out.drewN m)
      have HB5 : Hid (Below w.heap.size w w5) := Lib.hid (by rw [e5]; exact below_drewN HB4.out m)
      have HR5 := Lib.hid (HR1.out.below HB5.out)
      have Hno := Lib.hid hno
      clear e5 hno hz
      go_wp2_with (fail)
      refine (rnew_any HRf5.out ad n1 c l1 HR5.out).mono ?_
      rintro e w6 (⟨hh, _⟩ | ⟨_, rfl, m6, e6⟩)
      · exact absurd hh Hno.out
      have HB6 : Hid (Below w.heap.size w w6) := Lib.hid (by rw [e6]; exact below_drewN HB5.out m6)
      clear e6
      go_wp2_with (fail)
      go_ret
      exact ⟨rfl, HB6.out⟩
end Go.Proofs.Ytfmgncajhjkdlaa.R7
/- the steps that came in, opened (seat 07). -/
namespace Go.Proofs.Ytfmgncajhjkdlaa.R7
open Go.ChangeShapes Go.WideShapes Go.Deep Go.RowKit Go.ChangeAt
set_option linter.unusedVariables false
set_option linter.unusedSimpArgs false

theorem wf_i64 {n : Int} (h : (Lit.int .i64 n).wf = true) : -9223372036854775808 ≤ n ∧ n ≤ 9223372036854775807 := by
  simpa [Lit.wf, IntKind.min, IntKind.max, IntKind.signed, IntKind.bits] using h

theorem cellsOp : Try.prog.cellsOf 60 = 4 := by kernel_rfl
theorem cellsI : Try.prog.cellsOf 3 = 1 := by kernel_rfl
theorem cellsS : Try.prog.cellsOf 46 = 1 := by kernel_rfl

/-- what a slice of bytes that came in reads as -/
theorem rb_of {H : Type} {enc : TypeId × Value → H} {W : World} {a0 : Option Addr} {len cap : Nat} {d : DataW H} {p : List MemPlace}
    (h : DataW.Trod enc Try.prog W 0 (fun _ => true) true 46 (.slice a0 len cap) d p) : ∃ l : List Int, RB W (.slice a0 len cap) l ∧ (∀ x ∈ l, 0 ≤ x ∧ x < 256) ∧ l.length = len ∧ len ≤ cap ∧ cap ≤ maxLen ∧ (len = 0 ∨ ∃ els sp, d = .slice els sp ∧ els.length = len) := by
  obtain ⟨fuel, hf⟩ := h
  rcases open_ints Try.underlying46 Try.underlying5 (by kernel_rfl) hf with ⟨hcs, _⟩ | ⟨y, l, c, zs, hcs, _, hl, hm, hz, hx, hcell, hwf⟩
  · simp [Value.cells] at hcs
    obtain ⟨rfl, rfl, rfl⟩ := hcs
    exact ⟨[], ⟨none, 0, rfl, fun h => absurd rfl h⟩, fun x hx => by simp at hx, rfl, Nat.le_refl _, Nat.zero_le _, .inl rfl⟩
  · simp [Value.cells] at hcs
    obtain ⟨rfl, rfl, rfl⟩ := hcs
    simp only [if_true] at hz
    have hlen : (zs.take len).length = len := by simp; omega
    refine ⟨zs.take len, ⟨some y, cap, by rw [hlen], fun hne => ?_⟩, fun x hx => ?_, hlen, hl, hm, .inr ⟨_, _, (Prod.mk.inj hx).1, by simp [lits]; omega⟩⟩
    · have hpos : 0 < len := by
        rcases Nat.eq_zero_or_pos len with h0 | h0
        · subst h0; simp at hne
        · exact h0
      obtain ⟨b, off, spot⟩ := y
      have hc := hcell 0 (by omega)
      have hspot : spot = none := by simpa [Addr.add] using World.cell?_spot hc
      subst hspot
      refine ⟨b, off, rfl, fun i hi => ?_⟩
      have := hcell i (by omega)
      rw [Addr.add_lit] at this
      rw [this]
      simp [show i < len by omega]
    · have h1 := hwf x (List.mem_of_mem_take hx)
      have : 0 ≤ x ∧ x ≤ 255 := by simpa [Lit.wf, IntKind.min, IntKind.max, IntKind.signed, IntKind.bits] using h1
      omega
/-- what a slice of steps that came in is -/
theorem ops_of {H : Type} {enc : TypeId × Value → H} {W : World} {a0 : Option Addr} {len cap : Nat} {d : DataW H} {p : List MemPlace}
    (h : DataW.Trod enc Try.prog W 0 (fun _ => true) true 51 (.slice a0 len cap) d p) : OpsIn W a0 len ∧ len ≤ cap ∧ cap ≤ maxLen := by
  obtain ⟨fuel, hf⟩ := h
  rcases open_slice Try.underlying51 hf with ⟨hcs, _⟩ | ⟨a, len', cap', m, fu, D, Pl, hcs, hb, hl, hm, hmm, hx, hi⟩
  · simp [Value.cells] at hcs
    obtain ⟨rfl, rfl, rfl⟩ := hcs
    exact ⟨fun i hi => by omega, Nat.le_refl _, Nat.zero_le _⟩
  · simp [Value.cells] at hcs
    obtain ⟨rfl, rfl, rfl⟩ := hcs
    simp only [if_true] at hmm
    refine ⟨fun i hil => ?_, hl, hm⟩
    have hspot : a.spot = none := by
      obtain ⟨cs, hc, _⟩ := hi 0 (by omega)
      rw [cellsOp] at hc
      obtain ⟨_, hl5, hat⟩ := World.cells?_some hc
      have h0 := hat 0 (by omega)
      rw [List.getElem?_eq_getElem (by omega)] at h0
      simpa [Addr.add] using World.cell?_spot h0
    obtain ⟨cs, hc, ht⟩ := hi i (by omega)
    rw [cellsOp] at hc
    obtain ⟨ys, n, _, _, hlen, hyl, hg⟩ := DataW.trod_struct Try.underlying60 ht
    obtain ⟨_, _, hat⟩ := World.cells?_some hc
    match cs, hlen.trans cellsOp with
    | [v0, v1, v2, v3], _ =>
      match ys, hyl with
      | [y0, y1, y2, y3], _ =>
        have t0 : DataW.trod enc Try.prog W 0 (fun _ => true) true n 3 ((([v0, v1, v2, v3] : List Value).drop 0).take (Try.prog.cellsOf 3)) = ([y0, y1, y2, y3] : List (DataW H × List MemPlace))[0]? := hg 0 _ rfl
        rw [cellsI] at t0
        have t1 : DataW.trod enc Try.prog W 0 (fun _ => true) true n 3 ((([v0, v1, v2, v3] : List Value).drop 1).take (Try.prog.cellsOf 3)) = ([y0, y1, y2, y3] : List (DataW H × List MemPlace))[1]? := hg 1 _ rfl
        rw [cellsI] at t1
        have t2 : DataW.trod enc Try.prog W 0 (fun _ => true) true n 3 ((([v0, v1, v2, v3] : List Value).drop 2).take (Try.prog.cellsOf 3)) = ([y0, y1, y2, y3] : List (DataW H × List MemPlace))[2]? := hg 2 _ rfl
        rw [cellsI] at t2
        have t3 : DataW.trod enc Try.prog W 0 (fun _ => true) true n 46 ((([v0, v1, v2, v3] : List Value).drop 3).take (Try.prog.cellsOf 46)) = ([y0, y1, y2, y3] : List (DataW H × List MemPlace))[3]? := hg 3 _ rfl
        rw [cellsS] at t3
        have c0 := hat 0 (by omega)
        have c1 := hat 1 (by omega)
        have c2 := hat 2 (by omega)
        have c3 := hat 3 (by omega)
        rw [Go.Deep.add_add] at c0 c1 c2 c3
        simp only [List.getElem?_cons_zero, List.getElem?_cons_succ] at c0 c1 c2 c3
        obtain ⟨K, e0, _, _⟩ := DataW.trod_int Try.underlying3 t0
        obtain ⟨A, e1, _, wA⟩ := DataW.trod_int Try.underlying3 t1
        obtain ⟨B, e2, _, wB⟩ := DataW.trod_int Try.underlying3 t2
        have t4' : DataW.trod enc Try.prog W 0 (fun _ => true) true n 46 [v3] = some y3 := t3
        simp at e0 e1 e2
        subst e0 e1 e2
        have hv4 : ∃ va n4 vc, v3 = .slice va n4 vc := by
          rcases DataW.trod_slice Try.underlying46 t4' with ⟨e, _⟩ | ⟨a', n', c', _, _, _, _, e, _⟩
          · simp only [List.cons.injEq, and_true] at e
            exact ⟨_, _, _, e⟩
          · simp only [List.cons.injEq, and_true] at e
            exact ⟨_, _, _, e⟩
        obtain ⟨va, n4, vc, rfl⟩ := hv4
        obtain ⟨l, hrb, hby, hln, hle, hcm, _⟩ := rb_of (p := y3.2) (d := y3.1) ⟨n, t4'⟩
        obtain ⟨b, off, spot⟩ := a
        obtain rfl : spot = none := hspot
        simp only [Addr.add_lit] at c0 c1 c2 c3
        refine ⟨b, off, rfl, K, A, B, va, n4, vc, l, ?_, hrb, hln, ⟨hle, hcm⟩, fun x hx => by have := hby x hx; omega, wf_i64 wA, wf_i64 wB⟩
        intro j v hj
        match j, hj with
        | 0, hj => cases hj; exact c0
        | 1, hj => cases hj; exact c1
        | 2, hj => cases hj; exact c2
        | 3, hj => cases hj; exact c3
end Go.Proofs.Ytfmgncajhjkdlaa.R7
