/- Srn, Lw, Trn, Trq, Trs. -/
import Derived.Test.YtboehbfagnocpaaGreatDoorUba
import Derived.Test.YtboehbfagnocpaaGreatDoorUbk
import Derived.Lay
import Derived.Deep.DeepHandedRow
set_option linter.unusedVariables false
set_option linter.unusedSimpArgs false
set_option maxRecDepth 100000
open Go.Proofs.Tryz
open Go.Lib (hid)
namespace Go.Proofs.YtboehbfagnocpaaGreatDoor
open Go.RowKit Go.ChangeShapes Go.WideShapes Go.ChangeAt
theorem ri_of {H : Type} {enc : TypeId × Value → H} {W : World} {a0 : Option Addr} {len cap : Nat} {d : DataW H} {p : List MemPlace}
    (h : DataW.Trod enc prog W 0 (fun _ => true) true 39 (.slice a0 len cap) d p) : ∃ l : List Int, RI W (.slice a0 len cap) l ∧ I64s l ∧ l.length = len ∧ len ≤ cap ∧ cap ≤ maxLen ∧ (len = 0 ∨ ∃ els sp, d = .slice els sp ∧ els.length = len) := by
  obtain ⟨fuel, hf⟩ := h
  rcases open_ints underlying39 underlying3 (by kernel_rfl) hf with ⟨hcs, _⟩ | ⟨y, l, c, zs, hcs, _, hl, hm, hz, hx, hcell, hwf⟩
  · simp [Value.cells] at hcs
    obtain ⟨rfl, rfl, rfl⟩ := hcs
    exact ⟨[], ⟨none, 0, rfl, fun h => absurd rfl h⟩, fun x hx => by simp at hx, rfl, Nat.le_refl _, Nat.zero_le _, .inl rfl⟩
  · simp [Value.cells] at hcs
    obtain ⟨rfl, rfl, rfl⟩ := hcs
    simp only [if_true] at hz
    have hlen : (zs.take len).length = len := by simp; omega
    refine ⟨zs.take len, ⟨some y, cap, by rw [hlen], fun hne => ?_⟩, fun x hx => bd_i64 (hwf x (List.mem_of_mem_take hx)), hlen, hl, hm, .inr ⟨_, _, (Prod.mk.inj hx).1, by simp [lits]; omega⟩⟩
    have hpos : 0 < len := by
      rcases Nat.eq_zero_or_pos len with h0 | h0
      · subst h0; simp at hne
      · exact h0
    obtain ⟨b, off, spot⟩ := y
    have hc := hcell 0 (by omega)
    have hspot : spot = none := by simpa [Addr.add] using World.cell?_spot hc
    subst hspot
    refine ⟨b, off, rfl, fun i hi => ?_⟩
    have := hcell i (by omega)
    rw [Addr.add_lit] at this
    rw [this]
    simp [show i < len by omega]
end Go.Proofs.YtboehbfagnocpaaGreatDoor
namespace Go.Proofs.YtboehbfagnocpaaGreatDoor
open Go.ChangeShapes Go.WideShapes Go.ChangeAt Go.RowKit
noncomputable def laidWorld (os : Os) : World := World.laidAll prog os Rows.topCasRow.laid
set_option maxRecDepth 100000 in
theorem laid_met (os : Os) (args : Array Value) : laidMet prog Rows.topCasRow.laid ((laidWorld os).forCall (fun _ _ => 0) ⟨#[], args, []⟩).memory :=
  laidMet_laidAll args (by kernel_rfl) (by kernel_rfl)
end Go.Proofs.YtboehbfagnocpaaGreatDoor
namespace Go.Proofs.YtboehbfagnocpaaGreatDoor
open Go.RowKit Go.PlainAid Go.Shelf
theorem status_num {num : Nat} (hn : num < 18446744073709551616) (ak : ByteArray) (afl : Int) (av : ByteArray) (aca ala : Int) (w : World) (hT : Tab w) :
    Calls prog 260 #[.agg (ansF 6 ak afl av aca ala num)] w fun e w' => e = .returned (.string (dec num)) ∧ Below w.heap.size w w' := by
  have HX := hid (fun o : Obj => text_any hn (w.alloc o) (hT.below (bA w o)))
  have HB := hid (fun o : Obj => bA w o)
  unfold ansF
  clear hT hn
  go_enter func260, ntmps260
  go_wp2_with (go_at_call 27; refine (HX.out _).mono ?_; rintro e w1 ⟨rfl, hb⟩; have HB2 := hid ((HB.out _).trans (hb.mono (HB.out _).size)); clear hb)
  go_ret
  exact ⟨rfl, HB2.out⟩
theorem reply_num {num : Nat} (hn : num < 18446744073709551616) {ak av : ByteArray} {afl aca ala : Int} {cb cc ab ac : Nat} {w : World} (hT : Tab w) (hc : w.cell? ⟨cb, 0, none⟩ = some (.int .i64 3))
    (ha : (rowAt (.slice (some ⟨ab, 0, none⟩) 1 ac) 52 13 1 (ansF 6 ak afl av aca ala num).toList).R w) :
    Calls prog 205 #[reqV 1 (.slice (some ⟨cb, 0, none⟩) 1 cc) false false, .slice (some ⟨ab, 0, none⟩) 1 ac] w fun e w' => e = .returned (.string (dec num ++ ⟨#[13, 10]⟩)) ∧ Below w.heap.size w w' := by
  have hcl := cell_lt hc
  have J := (Hav.start ha).cells #[.int .i64 1, .slice (some ⟨cb, 0, none⟩) 1 cc, .bool false, .bool false, .string ⟨#[]⟩, .string ⟨#[]⟩, .int .i64 0, .bool false, .string ⟨#[]⟩, .slice none 0 0, .string ⟨#[]⟩] 33
  have hb := bA w (.cells #[.int .i64 1, .slice (some ⟨cb, 0, none⟩) 1 cc, .bool false, .bool false, .string ⟨#[]⟩, .string ⟨#[]⟩, .int .i64 0, .bool false, .string ⟨#[]⟩, .slice none 0 0, .string ⟨#[]⟩] 33)
  have c0 := (hb.cell (p := ⟨cb, 0, none⟩) hcl).trans hc
  obtain ⟨N, hN⟩ : ∃ N, w.heap.size = N := ⟨_, rfl⟩
  obtain ⟨W, hW⟩ : ∃ W, w.alloc (.cells #[.int .i64 1, .slice (some ⟨cb, 0, none⟩) 1 cc, .bool false, .bool false, .string ⟨#[]⟩, .string ⟨#[]⟩, .int .i64 0, .bool false, .string ⟨#[]⟩, .slice none 0 0, .string ⟨#[]⟩] 33) = W := ⟨_, rfl⟩
  rw [hN, hW] at J
  rw [hW] at c0 hb
  have HS := hid (fun w' (hb : Below W.heap.size W w') => status_num hn ak afl av aca ala w' ((hT.below (by first | exact ‹Below w.heap.size w W› | assumption)).below hb))
  have hz : (dec num).size + (⟨#[13, 10]⟩ : ByteArray).size ≤ 100 := by
    have h1 := nd_le hn
    rw [← dcz] at h1
    show (dec num).size + 2 ≤ 100
    omega
  have HW := hid hW
  have HB := hid hb
  obtain ⟨r0, r1, r2, r3, r4, r5, r6, r7, r8, r9, r10⟩ : ca11 W N (.int .i64 1) (.slice (some ⟨cb, 0, none⟩) 1 cc) (.bool false) (.bool false) (.string ⟨#[]⟩) (.string ⟨#[]⟩) (.int .i64 0) (.bool false) (.string ⟨#[]⟩) (.slice none 0 0) (.string ⟨#[]⟩) := ca11' (J.get 0 rfl)
  obtain ⟨a0, a1, a2, a3, a4, a5, a6, a7, a8, a9, a10, a11, a12⟩ : ra13 W ab (.int .i64 6) (.string ak) (.int .u32 afl) (.string av) (.int .i64 0) (.int .u64 aca) (.int .i64 ala) (.bool false) (.bool false) (.int .u64 num) (.bool false) (.bool false) (.bool false) := ra13' (J.get 1 rfl)
  unfold ansF at HS
  clear J hc ha hcl hW hb hT hn
  unfold reqV
  go_enter func205, ntmps205
  go_upto_region 1 with fail
  rw [HW.out]
  clear HW hN
  go_wp2_with (go_at_call 260; refine (HS.out _ (by first | exact Below.refl _ _ | exact (Below.refl _ _).drew | exact below_drewN' _ _)).mono ?_; rintro e w1 ⟨rfl, hb1⟩)
  go_ret
  exact ⟨rfl, HB.out.trans (hb1.mono HB.out.size)⟩
open SP
open PM (Cd An Sd Vl upd upd_same upd_ne)
theorem row_one {av : Value} {E sz : Nat} {xs : List Value} {w : World} (h : (rowAt av E sz 1 xs).R w) : ∃ ab ac, av = .slice (some ⟨ab, 0, none⟩) 1 ac := by
  rcases h.2 with ⟨_, h0⟩ | ⟨g, cap, cur, rfl, _⟩
  · omega
  · exact ⟨g, cap, rfl⟩
theorem joinB4 (a b c d : ByteArray) : W2.joinB [a, b, c, d] = a ++ ⟨#[32]⟩ ++ b ++ ⟨#[32]⟩ ++ c ++ ⟨#[32]⟩ ++ d := by
  have h1 : W2.joinB [a, b, c, d] = W2.joinB [a, b, c] ++ ⟨#[32]⟩ ++ d := by rw [show [a, b, c, d] = [a, b, c] ++ [d] from rfl, W2.joinB_snoc, if_neg (by simp)]
  have h2 : W2.joinB [a, b, c] = W2.joinB [a, b] ++ ⟨#[32]⟩ ++ c := by rw [show [a, b, c] = [a, b] ++ [c] from rfl, W2.joinB_snoc, if_neg (by simp)]
  have h3 : W2.joinB [a, b] = W2.joinB [a] ++ ⟨#[32]⟩ ++ b := by rw [show [a, b] = [a] ++ [b] from rfl, W2.joinB_snoc, if_neg (by simp)]
  have h4 : W2.joinB [a] = a := by rw [show [a] = [] ++ [a] from rfl, W2.joinB_snoc, if_pos rfl]
  rw [h1, h2, h3, h4]
theorem rp_get (key : ByteArray) (x : PM.It) (st num : Nat) : valL key (vlB x.v) x.fl ++ ⟨#[69, 78, 68, 13, 10]⟩ = rpC key (.get, ⟨st, some x, num⟩) := by
  unfold valL rpC
  dsimp only
  rw [joinB4]
  refine ByteArray.ext ?_
  simp only [ByteArray.data_append, vaW, crlf]
  simp [Array.append_assoc]
theorem rpC_size {key : ByteArray} {x : Cd} {a : An} (hk : key.size = 1) (ha : PM.aOk x a) : (rpC key (x, a)).size ≤ 300 := by
  obtain ⟨st, it, num⟩ := a
  obtain ⟨h1, h2, h3⟩ := ha
  cases x with
  | get =>
    cases it with
    | none => show (5 : Nat) ≤ 300; decide
    | some y =>
      obtain ⟨h4, h5⟩ := h3 y rfl
      rw [← rp_get key y st num, ByteArray.size_append]
      have := valL_size (key := key) h5 (vl_size h4) hk
      show _ + 5 ≤ 300
      omega
  | set fl v =>
    have e1 : st = 2 := h1
    subst e1
    show (8 : Nat) ≤ 300; decide
  | cas t v =>
    have e1 : st = 2 ∨ st = 4 ∨ st = 5 := h1
    rcases e1 with rfl | rfl | rfl
    · show (8 : Nat) ≤ 300; decide
    · show (8 : Nat) ≤ 300; decide
    · show (11 : Nat) ≤ 300; decide
  | incr d =>
    have h4 : num < 18446744073709551616 := h2
    have h5 := nd_le h4
    rw [← dcz] at h5
    show (if st = 6 then dec num ++ crlf else ⟨#[78, 79, 84, 95, 70, 79, 85, 78, 68, 13, 10]⟩ : ByteArray).size ≤ 300
    split
    · rw [ByteArray.size_append]; show _ + 2 ≤ 300; omega
    · show (11 : Nat) ≤ 300; decide
theorem rpS_size {key : ByteArray} (hk : key.size = 1) : ∀ {l : List (Cd × An)}, (∀ x ∈ l, PM.aOk x.1 x.2) → (rpS key l).size ≤ 300 * l.length
  | [], _ => Nat.zero_le _
  | x :: l, h => by
    have h1 := rpS_size hk (l := l) (fun y hy => h y (.tail _ hy))
    have h2 := rpC_size hk (h x (.head _))
    show (rpC key x ++ rpS key l).size ≤ _
    rw [ByteArray.size_append, List.length_cons]
    have h3 : rpC key x = rpC key (x.1, x.2) := rfl
    rw [h3]
    omega
section
variable {key : ByteArray} {w : World}
theorem trep_ok {x : Cd} {a : An} {cb cc ab ac : Nat} (hks : key.size = 1) (ha : PM.aOk x a) (hT : ∀ d, x = .incr d → a.st = 6 ∧ Tab w) (hc : w.cell? ⟨cb, 0, none⟩ = some (.int .i64 (cdM key x).op))
    (hr : (rowAt (.slice (some ⟨ab, 0, none⟩) 1 ac) 52 13 1 (anC key a)).R w) :
    Calls prog 205 #[reqV 1 (.slice (some ⟨cb, 0, none⟩) 1 cc) false false, .slice (some ⟨ab, 0, none⟩) 1 ac] w fun e w' => e = .returned (.string (rpC key (x, a))) ∧ Below w.heap.size w w' := by
  obtain ⟨st, it, num⟩ := a
  obtain ⟨h1, h2, h3⟩ := ha
  cases x with
  | get =>
    rcases h1 with ⟨e1, e2⟩ | ⟨e1, e2⟩
    · dsimp only at e1 e2
      subst e1
      cases it with
      | none => cases e2
      | some y =>
        obtain ⟨h4, h5⟩ := h3 y rfl
        have hrep := reply_get (key := key) (v := vlB y.v) (fl := y.fl) (aca := y.cas) (ala := y.last) (num := num) (cc := cc) h5 (vl_size h4) hks hc hr
        rw [rp_get key y 1 num] at hrep
        exact hrep
    · dsimp only at e1 e2
      subst e1 e2
      exact reply_gno (ak := ⟨#[]⟩) (av := ⟨#[]⟩) (afl := 0) (aca := 0) (ala := 0) (num := num) (cc := cc) hc hr
  | set fl v =>
    have e1 : st = 2 := h1
    subst e1
    cases it with
    | none => exact reply_store (st := ((2 : Nat) : Int)) (cc := cc) (.inl rfl) (ak := ⟨#[]⟩) (av := ⟨#[]⟩) (afl := 0) (aca := 0) (ala := 0) (num := num) hc hr
    | some y => exact reply_store (st := ((2 : Nat) : Int)) (cc := cc) (.inl rfl) (ak := key) (av := vlB y.v) (afl := y.fl) (aca := y.cas) (ala := y.last) (num := num) hc hr
  | cas t v =>
    have e1 : st = 2 ∨ st = 4 ∨ st = 5 := h1
    have e2 : ((st : Nat) : Int) = 2 ∨ ((st : Nat) : Int) = 4 ∨ ((st : Nat) : Int) = 5 := by omega
    have hrep : ∀ (ak av : ByteArray) (afl aca ala : Int), (rowAt (.slice (some ⟨ab, 0, none⟩) 1 ac) 52 13 1 (ansF st ak afl av aca ala num).toList).R w → Calls prog 205 #[reqV 1 (.slice (some ⟨cb, 0, none⟩) 1 cc) false false, .slice (some ⟨ab, 0, none⟩) 1 ac] w fun e w' => e = .returned (.string (rpC key (.cas t v, ⟨st, it, num⟩))) ∧ Below w.heap.size w w' := fun ak av afl aca ala hr' => by
      have hq := reply_store (cc := cc) e2 (ak := ak) (av := av) (afl := afl) (aca := aca) (ala := ala) (num := num) hc hr'
      have e3 : stTx ((st : Nat) : Int) ++ ⟨#[13, 10]⟩ = rpC key (.cas t v, ⟨st, it, num⟩) := by
        rcases e1 with rfl | rfl | rfl <;> rfl
      rw [e3] at hq
      exact hq
    cases it with
    | none => exact hrep ⟨#[]⟩ ⟨#[]⟩ 0 0 0 hr
    | some y => exact hrep key (vlB y.v) y.fl y.cas y.last hr
  | incr d =>
    obtain ⟨e1, hTW⟩ := hT d rfl
    dsimp only at e1
    subst e1
    cases it with
    | none => exact reply_num (cc := cc) h2 hTW (ak := ⟨#[]⟩) (av := ⟨#[]⟩) (afl := 0) (aca := 0) (ala := 0) hc hr
    | some y => exact reply_num (cc := cc) h2 hTW (ak := key) (av := vlB y.v) (afl := y.fl) (aca := y.cas) (ala := y.last) hc hr
end
section
variable {key : ByteArray} {w : World}
set_option maxHeartbeats 1000000 in
theorem sreply_ok {l : Wl} {k : PM.Wk Cd An} {sb : Nat} {vs : Array Value} (hks : key.size = 1) (ha : PM.aOk k.cmd k.ans) (hT : ∀ d, k.cmd = .incr d → k.ans.st = 6 ∧ Tab w) (hc : (cAt l.b vs 143).R w) (hvs : ∀ j, j ≤ 10 ∨ j = 14 → vs[j]? = (wkC l k)[j]?)
    (hcm : (rowAt (.slice (some ⟨l.cb, 0, none⟩) 1 l.cc) 56 16 1 (cdM key k.cmd).vs.toList).R w) (h2 : (rowAt l.av 52 13 1 (anC key k.ans)).R w) :
    Calls prog 144 #[.pointer (some ⟨sb, 0, none⟩), .pointer (some ⟨l.b, 0, none⟩)] w fun e w' => e = .returned (.string (rpC key (k.cmd, k.ans))) ∧ Below w.heap.size w w' := by
  obtain ⟨ab, ac, hav⟩ := row_one h2
  have HR : Hid (∀ w', Below w.heap.size w w' → Calls prog 205 #[reqV 1 (.slice (some ⟨l.cb, 0, none⟩) 1 l.cc) false false, .slice (some ⟨ab, 0, none⟩) 1 ac] w' fun e w'' => e = .returned (.string (rpC key (k.cmd, k.ans))) ∧ Below w'.heap.size w' w'') := hid (fun w' hb => by
    have h1 := Res.keep _ hcm (Tch.of_below (fun _ => False) hb) (fun _ _ x => x)
    have h3 := Res.keep _ h2 (Tch.of_below (fun _ => False) hb) (fun _ _ x => x)
    rw [hav] at h3
    refine trep_ok hks ha (fun d e => ⟨(hT d e).1, (hT d e).2.below hb⟩) ?_ h3
    rw [row_at h1 0 (by show 0 < 16; decide)]
    rfl)
  have HF : Hid (∀ w', Below w.heap.size w w' → w'.cell? ⟨l.b, 0, none⟩ = some (.int .i64 1) ∧ w'.cell? ⟨l.b, 1, none⟩ = some (.slice (some ⟨l.cb, 0, none⟩) 1 l.cc) ∧ w'.cell? ⟨l.b, 2, none⟩ = some (.bool false) ∧ w'.cell? ⟨l.b, 3, none⟩ = some (.bool false) ∧ w'.cell? ⟨l.b, 4, none⟩ = some (.string ⟨#[]⟩) ∧ w'.cell? ⟨l.b, 5, none⟩ = some (.string ⟨#[]⟩) ∧ w'.cell? ⟨l.b, 6, none⟩ = some (.int .i64 0) ∧ w'.cell? ⟨l.b, 7, none⟩ = some (.bool false) ∧ w'.cell? ⟨l.b, 8, none⟩ = some (.string ⟨#[]⟩) ∧ w'.cell? ⟨l.b, 9, none⟩ = some (.slice none 0 0) ∧ w'.cell? ⟨l.b, 10, none⟩ = some (.string ⟨#[]⟩) ∧ w'.cell? ⟨l.b, 14, none⟩ = some (.slice (some ⟨ab, 0, none⟩) 1 ac)) := hid (fun w' hb => by
    have h0 := Res.keep _ hc (Tch.of_below (fun _ => False) hb) (fun _ _ x => x)
    have hq : ∀ j, j ≤ 10 ∨ j = 14 → w'.cell? ⟨l.b, j, none⟩ = (wkC l k)[j]? := fun j hj => (cA h0 j).trans (hvs j hj)
    exact ⟨hq 0 (by omega), hq 1 (by omega), hq 2 (by omega), hq 3 (by omega), hq 4 (by omega), hq 5 (by omega), hq 6 (by omega), hq 7 (by omega), hq 8 (by omega), hq 9 (by omega), hq 10 (by omega), by rw [← hav]; exact hq 14 (by omega)⟩)
  have S0 := HF.out w (Below.refl _ _)
  obtain ⟨f0, f1, f2, f3, f4, f5, f6, f7, f8, f9, f10, f14⟩ := S0
  have S0 := HF.out w (Below.refl _ _)
  unfold reqV at HR
  clear h2 hav hc hvs hcm ha hT
  go_enter func144, ntmps144
  go_wp2_with (fail)
  go_region_held3 (fun w' => w'.cell? ⟨l.b, 0, none⟩ = some (.int .i64 1) ∧ w'.cell? ⟨l.b, 1, none⟩ = some (.slice (some ⟨l.cb, 0, none⟩) 1 l.cc) ∧ w'.cell? ⟨l.b, 2, none⟩ = some (.bool false) ∧ w'.cell? ⟨l.b, 3, none⟩ = some (.bool false) ∧ w'.cell? ⟨l.b, 4, none⟩ = some (.string ⟨#[]⟩) ∧ w'.cell? ⟨l.b, 5, none⟩ = some (.string ⟨#[]⟩) ∧ w'.cell? ⟨l.b, 6, none⟩ = some (.int .i64 0) ∧ w'.cell? ⟨l.b, 7, none⟩ = some (.bool false) ∧ w'.cell? ⟨l.b, 8, none⟩ = some (.string ⟨#[]⟩) ∧ w'.cell? ⟨l.b, 9, none⟩ = some (.slice none 0 0) ∧ w'.cell? ⟨l.b, 10, none⟩ = some (.string ⟨#[]⟩) ∧ w'.cell? ⟨l.b, 14, none⟩ = some (.slice (some ⟨ab, 0, none⟩) 1 ac)) (first | exact S0 | exact HF.out _ HB6.out | exact HF.out _ (Below.refl _ _).drew) (first
    | (go_at_call 205; refine (HR.out _ (by first | exact (Below.refl _ _).drew | exact Below.refl _ _)).mono ?_; rintro e w6 ⟨rfl, hb6⟩; have hbb : Below w.heap.size w w6 := Below.trans (by first | exact (Below.refl _ _).drew | exact Below.refl _ _) (hb6.mono (Nat.le_refl _)); have HB6 := hid hbb; clear hb6 hbb))
  all_goals (go_wp2_with fail)
  all_goals go_ret
  all_goals exact ⟨rfl, HB6.out⟩
end
end Go.Proofs.YtboehbfagnocpaaGreatDoor
