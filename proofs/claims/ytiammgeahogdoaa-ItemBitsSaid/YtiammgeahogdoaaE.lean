/- item.Encode: contract. -/
import Derived.Test.YtiammgeahogdoaaS
import Derived.StillTailTactics
import Derived.Laws.CopyOwn
import Derived.Deep.RegionHeld3
import Derived.Deep.RegionWith
import Derived.Lib.AppendStr
namespace Go.Proofs.Ytiammgeahogdoaa
open Go.RowKit Go.PlainAid
set_option linter.unusedVariables false
set_option linter.unusedSimpArgs false

theorem own_below {w w' : World} {base n : Nat} {e : TypeId} {size : Nat} {v : Value} {xs : List Value} (h : w.ownsRow base e size v n xs) (hb : Below w.heap.size w w') : w'.ownsRow base e size v n xs :=
  h.kept (row := none) ⟨hb.os, hb.tape, hb.output, hb.size, fun i hi _ => hb.block i hi⟩ (by cases hv : v.ownBlock <;> simp)

/-- an item's box: a block of eight cells -/
def Box (w : World) (g : Nat) (k v : ByteArray) (fl ex ca la : Int) (st wo : Bool) : Prop :=
  w.cell? ⟨g, 0, none⟩ = some (.string k) ∧ w.cell? ⟨g, 1, none⟩ = some (.int .u32 fl) ∧ w.cell? ⟨g, 2, none⟩ = some (.string v) ∧ w.cell? ⟨g, 3, none⟩ = some (.int .i64 ex) ∧
  w.cell? ⟨g, 4, none⟩ = some (.int .u64 ca) ∧ w.cell? ⟨g, 5, none⟩ = some (.int .i64 la) ∧ w.cell? ⟨g, 6, none⟩ = some (.bool st) ∧ w.cell? ⟨g, 7, none⟩ = some (.bool wo) ∧ g < w.heap.size

theorem Box.below {w w' : World} {g B : Nat} {k v : ByteArray} {fl ex ca la : Int} {st wo : Bool} (h : Box w g k v fl ex ca la st wo) (hb : Below B w w') (hg : g < B) : Box w' g k v fl ex ca la st wo := by
  obtain ⟨h0, h1, h2, h3, h4, h5, h6, h7, h8⟩ := h
  exact ⟨(hb.cell (by exact hg)).trans h0, (hb.cell (by exact hg)).trans h1, (hb.cell (by exact hg)).trans h2, (hb.cell (by exact hg)).trans h3, (hb.cell (by exact hg)).trans h4, (hb.cell (by exact hg)).trans h5, (hb.cell (by exact hg)).trans h6, (hb.cell (by exact hg)).trans h7, Nat.lt_of_lt_of_le h8 hb.size⟩

theorem box_new (w : World) (k v : ByteArray) (fl ex ca la : Int) (st wo : Bool) : Box (w.alloc (.cells #[.string k, .int .u32 fl, .string v, .int .i64 ex, .int .u64 ca, .int .i64 la, .bool st, .bool wo] 25)) w.heap.size k v fl ex ca la st wo := by
  refine ⟨?_, ?_, ?_, ?_, ?_, ?_, ?_, ?_, by simp⟩ <;> simp [go_sem]

def bitV (b : Bool) (n : Int) : Int := if b then n else 0
theorem bit_val (b : Bool) (n : Int) (w : World) : Calls Try.prog 19 #[.bool b, .int .u8 n] w fun e w' => e = .returned (.int .u8 (bitV b n)) ∧ w = w' := bit_any b n w
theorem bitV_le1 (b : Bool) : 0 ≤ bitV b 1 ∧ bitV b 1 ≤ 1 := by cases b <;> decide
theorem bitV_le2 (b : Bool) : 0 ≤ bitV b 2 ∧ bitV b 2 ≤ 2 := by cases b <;> decide

theorem made_list (N : Nat) : (madeCells (Value.int .u8 0).cells (N * 1)).toList = (List.replicate N (0 : Int)).map (.int .u8) := by
  rw [Nat.mul_one]; exact (toList_madeCells_one _ N).trans (by simp)
theorem made_zero (N j : Nat) (h : j < N) : (madeCells (Value.int .u8 0).cells (N * 1)).toList[j]? = some (.int .u8 0) := by
  rw [made_list]; simp [h]

/-- an item's bits -/
def bitsI (st wo : Bool) : Int := bitV st 1 + bitV wo 2
theorem bitsI_or (st wo : Bool) : bits .or .u8 (bitV st 1) (bitV wo 2) = bitsI st wo := by cases st <;> cases wo <;> decide
theorem bitsI_le (st wo : Bool) : 0 ≤ bitsI st wo ∧ bitsI st wo ≤ 3 := by cases st <;> cases wo <;> decide

/-- an item's bytes -/
def encL (k v : ByteArray) (fl ex ca la : Int) (st wo : Bool) : List Int :=
  P.le 1 k.size ++ P.le 3 (bitsI st wo) ++ P.le 4 fl ++ P.le 8 v.size ++ P.le 8 ex ++ P.le 8 ca ++ P.le 8 la ++ strB k ++ strB v
def encR (k v : ByteArray) (fl ex ca la : Int) (st wo : Bool) : List Int := if rightB k v ex la = true then encL k v fl ex ca la st wo else []

def EncPost (k v : ByteArray) (fl ex ca la : Int) (st wo : Bool) (w : World) (e : Ending) (w' : World) : Prop :=
  ∃ u, e = .returned (.tuple #[u, .int .i64 (if rightB k v ex la = true then 0 else 1)]) ∧ w'.ownsRow w.heap.size 5 1 u (encR k v fl ex ca la st wo).length ((encR k v fl ex ca la st wo).map (.int .u8)) ∧ Below w.heap.size w w'

theorem encL_len (k v : ByteArray) (fl ex ca la : Int) (st wo : Bool) : (encL k v fl ex ca la st wo).length = 40 + k.size + v.size := by
  simp [encL, P.le_len, strB_len]; omega

theorem own_base {w : World} {base base' n : Nat} {e : TypeId} {size : Nat} {v : Value} {xs : List Value} (h : w.ownsRow base e size v n xs) (hb : base' ≤ base) : w.ownsRow base' e size v n xs := by
  refine ⟨h.1, ?_⟩
  rcases h.2 with h1 | ⟨g, cap, cur, h1, h2, h3⟩
  · exact .inl h1
  · exact .inr ⟨g, cap, cur, h1, by omega, h3⟩

theorem encPost_mk {k v : ByteArray} {fl ex ca la : Int} {st wo : Bool} {w w' : World} {G g N : Nat} (hr : rightB k v ex la = true) (hG : w.heap.size = G)
    (ho : w'.ownsRow g 5 1 (.slice (some ⟨g, 0, none⟩) N N) N ((encL k v fl ex ca la st wo).map (.int .u8))) (hg : G ≤ g) (hb : Below G w w') :
    EncPost k v fl ex ca la st wo w (.returned (.tuple #[.slice (some ⟨g, 0, none⟩) N N, .int .i64 0])) w' := by
  subst hG
  have hN : (encL k v fl ex ca la st wo).length = N := by have := ho.1; simpa using this
  subst hN
  have e : encR k v fl ex ca la st wo = encL k v fl ex ca la st wo := by unfold encR; rw [if_pos hr]
  refine ⟨_, by rw [if_pos hr], ?_, hb⟩
  rw [e]
  exact own_base ho hg

theorem splice_mid (A B C ys : List Int) (off : Nat) (ha : A.length = off) (hb : B.length = ys.length) : P.splice (A ++ (B ++ C)) off ys = A ++ (ys ++ C) := by
  subst ha
  unfold P.splice
  rw [← hb]
  simp [List.drop_append]

theorem le_high (n : Int) (h0 : 0 ≤ n) (h1 : n < 4294967296) : P.le 8 n = P.le 4 n ++ [0, 0, 0, 0] := by
  simp only [P.le, List.cons_append, List.nil_append]
  have e4 : n / 256 / 256 / 256 / 256 = 0 := by omega
  rw [e4]
  simp

theorem enc_chain (k v : ByteArray) (fl ex ca la : Int) (st wo : Bool) (N : Nat) (xs3 xs4 xs5 xs6 xs7 xs8 : List Int) (hN : N = 40 + k.size + v.size) (hk : k.size < 256) (hv : v.size < 4294967296)
    (h3 : xs3 = ((List.replicate N (0 : Int)).set 0 (k.size : Int)).set 1 (bits .or .u8 (bitV st 1) (bitV wo 2)))
    (h4 : xs4 = P.splice xs3 4 (P.le 4 fl)) (h5 : xs5 = P.splice xs4 8 (P.le 4 (v.size : Int))) (h6 : xs6 = P.splice xs5 16 (P.le 8 ex)) (h7 : xs7 = P.splice xs6 24 (P.le 8 ca)) (h8 : xs8 = P.splice xs7 32 (P.le 8 la)) :
    P.splice (P.splice xs8 40 (strB k)) (40 + k.size) (strB v) = encL k v fl ex ca la st wo := by
  have hb := bitsI_le st wo
  have e3 : xs3 = [(k.size : Int), bitsI st wo, 0, 0] ++ (List.replicate 4 0 ++ (List.replicate 4 0 ++ ([0, 0, 0, 0] ++ (List.replicate 8 0 ++ (List.replicate 8 0 ++ (List.replicate 8 0 ++ (List.replicate k.size 0 ++ List.replicate v.size 0))))))) := by
    rw [h3, bitsI_or, hN, show 40 + k.size + v.size = 40 + (k.size + v.size) by omega, ← List.replicate_append_replicate, ← List.replicate_append_replicate]
    rfl
  generalize hP : [(k.size : Int), bitsI st wo, 0, 0] = H at e3
  have hH : H.length = 4 := by rw [← hP]; rfl
  have hHe : H = P.le 1 k.size ++ P.le 3 (bitsI st wo) := by
    rw [← hP]; simp only [P.le, List.cons_append, List.nil_append]
    rw [show (k.size : Int) % 256 = k.size by omega, show bitsI st wo % 256 = bitsI st wo by omega, show bitsI st wo / 256 = 0 by omega]; rfl
  have l4 : (P.le 4 fl).length = 4 := P.le_len _ _
  have l5 : (P.le 4 (v.size : Int)).length = 4 := P.le_len _ _
  have l6 : (P.le 8 ex).length = 8 := P.le_len _ _
  have l7 : (P.le 8 ca).length = 8 := P.le_len _ _
  have l8 : (P.le 8 la).length = 8 := P.le_len _ _
  have lk : (strB k).length = k.size := strB_len k
  have lv : (strB v).length = v.size := strB_len v
  rw [h8, h7, h6, h5, h4, e3]
  rw [splice_mid _ _ _ _ 4 hH (by rw [l4]; rfl)]
  rw [← List.append_assoc H, splice_mid _ _ _ _ 8 (by simp [hH, l4]) (by rw [l5]; rfl)]
  rw [← List.append_assoc (H ++ _), ← List.append_assoc _ [0, 0, 0, 0], splice_mid _ _ _ _ 16 (by simp [hH, l4, l5]) (by rw [l6]; rfl)]
  rw [← List.append_assoc _ (P.le 8 ex), splice_mid _ _ _ _ 24 (by simp [hH, l4, l5, l6]) (by rw [l7]; rfl)]
  rw [← List.append_assoc _ (P.le 8 ca), splice_mid _ _ _ _ 32 (by simp [hH, l4, l5, l6, l7]) (by rw [l8]; rfl)]
  rw [← List.append_assoc _ (P.le 8 la), splice_mid _ _ _ _ 40 (by simp [hH, l4, l5, l6, l7, l8]) (by rw [lk]; simp)]
  have hlast : List.replicate v.size (0 : Int) = List.replicate v.size 0 ++ [] := by simp
  rw [hlast, ← List.append_assoc _ (strB k), splice_mid _ _ _ _ (40 + k.size) (by simp [hH, l4, l5, l6, l7, l8, lk]; omega) (by rw [lv]; simp)]
  unfold encL
  rw [le_high (v.size : Int) (by omega) (by omega), hHe]
  simp [List.append_assoc]

set_option maxHeartbeats 500000 in
/-- item.Encode -/
theorem encode_any (k v : ByteArray) (fl ex ca la : Int) (st wo : Bool) (w : World) (hk : k.size ≤ maxLen) (hv : v.size ≤ maxLen) (hr : rightB k v ex la = true) (hk1 : 1 ≤ k.size) (hk2 : k.size ≤ 250) (hv2 : v.size ≤ 65536) (hf0 : 0 ≤ fl) (hf1 : fl < 4294967296) (hx0 : 0 ≤ ex) (hx1 : ex ≤ 9223372036854775807) (hc0 : 0 ≤ ca) (hc1 : ca ≤ 18446744073709551615) (hl0 : 0 ≤ la) (hl1 : la ≤ 9223372036854775807) :
    Calls Try.prog 11 #[.agg #[.string k, .int .u32 fl, .string v, .int .i64 ex, .int .u64 ca, .int .i64 la, .bool st, .bool wo]] w (EncPost k v fl ex ca la st wo w) := by
  have Hr := Lib.hid hr
  obtain ⟨N, hN⟩ : ∃ N : Nat, N = 40 + k.size + v.size := ⟨_, rfl⟩
  have Hsz := Lib.hid (show szI k.size v.size = (N : Int) by unfold szI; rw [if_neg (by omega)]; omega)
  have hN1 : 41 ≤ N := by omega
  have hN2 : N ≤ 65826 := by omega
  have HN := Lib.hid hN
  clear hN
  clear hr
  obtain ⟨i0, hi, hz0, hz1, hz2⟩ := info_parts Try.info5
  go_enter Try.func11, Try.ntmps11
  go_wp2_with (fail)
  refine (right_any k v fl ex ca la st wo _ hk hv).mono ?_
  rintro e w1 ⟨rfl, hb1⟩
  rw [Hr.out]
  have hbox := (box_new w k v fl ex ca la st wo).below hb1 (by simp)
  have hbw : Below w.heap.size w w1 := ((Below.refl _ _).alloc (Nat.le_refl _) _).trans (hb1.mono (by simp))
  clear hb1
  obtain ⟨x0, x1, x2, x3, x4, x5, x6, x7, hgl⟩ := id hbox
  go_wp2_with (fail)
  refine (size_any _ _ _).mono ?_
  rintro e w' ⟨rfl, rfl⟩
  rw [Hsz.out]
  go_wp2_with (at_make; go_must (refine wpList_make_full w1 rfl _ _ 27 rfl w1.heap.size 5 i0 (.int .u8 0) 1 Try.underlying27 hi hz0 hz1 _ _ _ _ N rfl rfl rfl rfl (by rw [hz2]; omega) (by unfold maxLen; omega) (Nat.le_refl _) ?_); intro w2 ho2 hg2)
  have hb2 : Below w1.heap.size w1 w2 := (Below.refl _ _).grown hg2 (Nat.le_refl _) (fun _ h => by cases h)
  have hbox2 := hbox.below hb2 hgl
  clear x0 x1 x2 x3 x4 x5 x6 x7
  obtain ⟨x0, x1, x2, x3, x4, x5, x6, x7, _⟩ := id hbox2
  generalize hg : w1.heap.size = g at *
  have hc0 : w2.cell? ⟨g, 0, none⟩ = some (.int .u8 0) := by rw [ho2.cellAt 0 (by omega)]; exact made_zero N 0 (by omega)
  have hc1 : w2.cell? ⟨g, 1, none⟩ = some (.int .u8 0) := by rw [ho2.cellAt 1 (by omega)]; exact made_zero N 1 (by omega)
  have hf0' := ho2.frozenAt 0
  have hf1' := ho2.frozenAt 1
  rw [made_list] at ho2
  have Ho2 := Lib.hid ho2
  have Hb2 := Lib.hid hb2
  have Hbox2 := Lib.hid hbox2
  have Hbw := Lib.hid hbw
  have bst := bitV_le1 st
  have bwo := bitV_le2 wo
  have n0 : (0 : Int) < (N : Int) := by omega
  have n0n : 0 < N := by omega
  have hwk : IntKind.u8.wrap (k.size : Int) = k.size := IntWalk.u8_in _ ⟨by omega, by omega⟩
  have n1 : (1 : Int) < (N : Int) := by omega
  clear hi hz0 hz1 hz2 ho2 hg2 hb2 hbox hbox2 hbw
  generalize hG : w.heap.size = G at *
  have hne : ¬ g = G := by omega
  have HG := Lib.hid hG
  clear hG
  go_region_held3 (fun w' => w'.cell? ⟨G, 0, none⟩ = some (.string k) ∧ w'.cell? ⟨G, 6, none⟩ = some (.bool st) ∧ w'.cell? ⟨G, 7, none⟩ = some (.bool wo)) (first | exact ⟨x0, x6, x7⟩ | (simp [go_sem, x0, x6, x7, hne]; done)) (first | (go_at_call 19; refine (bit_val _ _ _).mono ?_; rintro e w' ⟨rfl, rfl⟩))
  have ho3 : (((w2.setCell ⟨g, 0, none⟩ (.int .u8 (k.size : Int))).setCell ⟨g, 1, none⟩ (.int .u8 (bits .or .u8 (bitV st 1) (bitV wo 2)))).drew).ownsRow g 5 1 (.slice (some ⟨g, 0, none⟩) N N) N (((List.replicate N (0 : Int)).set 0 (k.size : Int)).set 1 (bits .or .u8 (bitV st 1) (bitV wo 2)) |>.map (.int .u8)) := by
    have h1 := ((Ho2.out.stored 0 (.int .u8 (k.size : Int))).1.stored 1 (.int .u8 (bits .or .u8 (bitV st 1) (bitV wo 2)))).1
    rw [← List.map_set, ← List.map_set] at h1
    exact h1
  have hb3 : Below g w2 (((w2.setCell ⟨g, 0, none⟩ (.int .u8 (k.size : Int))).setCell ⟨g, 1, none⟩ (.int .u8 (bits .or .u8 (bitV st 1) (bitV wo 2)))).drew) := (((Below.refl _ _).setCell (by simp) _).setCell (by simp) _).drew
  generalize ((w2.setCell ⟨g, 0, none⟩ (.int .u8 (k.size : Int))).setCell ⟨g, 1, none⟩ (.int .u8 (bits .or .u8 (bitV st 1) (bitV wo 2)))).drew = w3 at *
  have hbox3 := Hbox2.out.below hb3 (by omega)
  have hb13 := Hb2.out.trans hb3
  clear x0 x1 x2 x3 x4 x5 x6 x7 hc0 hc1 hf0' hf1' hb3
  obtain ⟨xs3, hxs3⟩ : ∃ xs3, xs3 = ((List.replicate N (0 : Int)).set 0 (k.size : Int)).set 1 (bits .or .u8 (bitV st 1) (bitV wo 2)) := ⟨_, rfl⟩
  rw [← hxs3] at ho3
  have Hxs3 := Lib.hid hxs3
  clear hxs3
  obtain ⟨x0, x1, x2, x3, x4, x5, x6, x7, _⟩ := id hbox3
  go_wp2_with (fail)
  have hgl2 : G < g := hgl
  have r4 : ¬ N = 4 := by omega
  have i4 : (4 : Int) ≤ (N : Int) := by omega
  have m4 : 4 ≤ N := by omega
  have r8 : ¬ N = 8 := by omega
  have i8 : (8 : Int) ≤ (N : Int) := by omega
  have m8 : 8 ≤ N := by omega
  have r12 : ¬ N = 12 := by omega
  have i12 : (12 : Int) ≤ (N : Int) := by omega
  have m12 : 12 ≤ N := by omega
  have r16 : ¬ N = 16 := by omega
  have i16 : (16 : Int) ≤ (N : Int) := by omega
  have m16 : 16 ≤ N := by omega
  have r24 : ¬ N = 24 := by omega
  have i24 : (24 : Int) ≤ (N : Int) := by omega
  have m24 : 24 ≤ N := by omega
  have r32 : ¬ N = 32 := by omega
  have i32 : (32 : Int) ≤ (N : Int) := by omega
  have m32 : 32 ≤ N := by omega
  have r40 : ¬ N = 40 := by omega
  have i40 : (40 : Int) ≤ (N : Int) := by omega
  have m40 : 40 ≤ N := by omega
  have hw1 : IntKind.u64.wrap fl = fl := IntWalk.u64_in _ ⟨by omega, by omega⟩
  have hw2 : IntKind.u64.wrap (v.size : Int) = v.size := IntWalk.u64_in _ ⟨by omega, by omega⟩
  have hw3 : IntKind.u64.wrap ex = ex := IntWalk.u64_in _ ⟨by omega, by omega⟩
  have hw4 : IntKind.u64.wrap la = la := IntWalk.u64_in _ ⟨by omega, by omega⟩
  go_region_held3 (fun w' => w'.cell? ⟨G, 1, none⟩ = some (.int .u32 fl)) (first | exact x1 | (exact (hb4.cell (by exact hgl2)).trans x1)) (first | (go_at_call 20; refine (put_any g 4 4 N N _ g xs3 fl _ (by exact ho3) (by omega) (by omega) (by omega) (by omega)).mono ?_; rintro e w4 ⟨rfl, ho4, hb4⟩))
  have hbox4 := (show Box w3.drew G k v fl ex ca la st wo from hbox3).below hb4 hgl
  have hb14 := hb13.drew.trans hb4
  clear x0 x1 x2 x3 x4 x5 x6 x7 hbox3 hb4 hb13 ho3
  obtain ⟨xs4, hxs4⟩ : ∃ xs4, xs4 = P.splice xs3 4 (P.le 4 fl) := ⟨_, rfl⟩
  rw [← hxs4] at ho4
  have Hxs4 := Lib.hid hxs4
  clear hxs4
  obtain ⟨x0, x1, x2, x3, x4, x5, x6, x7, _⟩ := id hbox4
  go_wp2_with (fail)
  go_region_held3 (fun w' => w'.cell? ⟨G, 2, none⟩ = some (.string v)) (first | exact x2 | (exact (hb5.cell (by exact hgl2)).trans x2)) (first | (go_at_call 20; refine (put_any g 8 4 N N _ g xs4 (v.size : Int) _ (by exact ho4) (by omega) (by omega) (by omega) (by omega)).mono ?_; rintro e w5 ⟨rfl, ho5, hb5⟩))
  have hbox5 := (show Box w4.drew G k v fl ex ca la st wo from hbox4).below hb5 hgl
  have hb15 := hb14.drew.trans hb5
  clear x0 x1 x2 x3 x4 x5 x6 x7 hbox4 hb5 hb14 ho4
  obtain ⟨xs5, hxs5⟩ : ∃ xs5, xs5 = P.splice xs4 8 (P.le 4 (v.size : Int)) := ⟨_, rfl⟩
  rw [← hxs5] at ho5
  have Hxs5 := Lib.hid hxs5
  clear hxs5
  obtain ⟨x0, x1, x2, x3, x4, x5, x6, x7, _⟩ := id hbox5
  go_wp2_with (fail)
  go_region_held3 (fun w' => w'.cell? ⟨G, 3, none⟩ = some (.int .i64 ex)) (first | exact x3 | (exact (hb6.cell (by exact hgl2)).trans x3)) (first | (go_at_call 20; refine (put_any g 16 8 N N _ g xs5 ex _ (by exact ho5) (by omega) (by omega) (by omega) (by omega)).mono ?_; rintro e w6 ⟨rfl, ho6, hb6⟩))
  have hbox6 := (show Box w5.drew G k v fl ex ca la st wo from hbox5).below hb6 hgl
  have hb16 := hb15.drew.trans hb6
  clear x0 x1 x2 x3 x4 x5 x6 x7 hbox5 hb6 hb15 ho5
  obtain ⟨xs6, hxs6⟩ : ∃ xs6, xs6 = P.splice xs5 16 (P.le 8 ex) := ⟨_, rfl⟩
  rw [← hxs6] at ho6
  have Hxs6 := Lib.hid hxs6
  clear hxs6
  obtain ⟨x0, x1, x2, x3, x4, x5, x6, x7, _⟩ := id hbox6
  go_wp2_with (fail)
  go_region_held3 (fun w' => w'.cell? ⟨G, 4, none⟩ = some (.int .u64 ca)) (first | exact x4 | (exact (hb7.cell (by exact hgl2)).trans x4)) (first | (go_at_call 20; refine (put_any g 24 8 N N _ g xs6 ca _ (by exact ho6) (by omega) (by omega) (by omega) (by omega)).mono ?_; rintro e w7 ⟨rfl, ho7, hb7⟩))
  have hbox7 := (show Box w6.drew G k v fl ex ca la st wo from hbox6).below hb7 hgl
  have hb17 := hb16.drew.trans hb7
  clear x0 x1 x2 x3 x4 x5 x6 x7 hbox6 hb7 hb16 ho6
  obtain ⟨xs7, hxs7⟩ : ∃ xs7, xs7 = P.splice xs6 24 (P.le 8 ca) := ⟨_, rfl⟩
  rw [← hxs7] at ho7
  have Hxs7 := Lib.hid hxs7
  clear hxs7
  obtain ⟨x0, x1, x2, x3, x4, x5, x6, x7, _⟩ := id hbox7
  go_wp2_with (fail)
  go_region_held3 (fun w' => w'.cell? ⟨G, 5, none⟩ = some (.int .i64 la)) (first | exact x5 | (exact (hb8.cell (by exact hgl2)).trans x5)) (first | (go_at_call 20; refine (put_any g 32 8 N N _ g xs7 la _ (by exact ho7) (by omega) (by omega) (by omega) (by omega)).mono ?_; rintro e w8 ⟨rfl, ho8, hb8⟩))
  have hbox8 := (show Box w7.drew G k v fl ex ca la st wo from hbox7).below hb8 hgl
  have hb18 := hb17.drew.trans hb8
  clear x0 x1 x2 x3 x4 x5 x6 x7 hbox7 hb8 hb17 ho7
  obtain ⟨xs8, hxs8⟩ : ∃ xs8, xs8 = P.splice xs7 32 (P.le 8 la) := ⟨_, rfl⟩
  rw [← hxs8] at ho8
  have Hxs8 := Lib.hid hxs8
  clear hxs8
  obtain ⟨x0, x1, x2, x3, x4, x5, x6, x7, _⟩ := id hbox8
  go_wp2_with (fail)
  have hw5 : IntKind.i64.wrap (40 + (k.size : Int)) = 40 + (k.size : Int) := IntWalk.i64_in _ ⟨by omega, by omega⟩
  have hw6 : (40 + (k.size : Int)).toNat = 40 + k.size := by omega
  have hw7 : 40 + (k.size : Int) ≤ (N : Int) := by have := HN.out; omega
  have hw8 : (0 : Int) ≤ 40 + (k.size : Int) := by omega
  have hw9 : 40 + k.size ≤ N := by have := HN.out; omega
  obtain ⟨w9, hrun1, ho9, hb9⟩ := run_copy_str w8.drew g 40 N N g xs8 k (N - 40) (N - 40) 3 ho8 (by omega) (by omega)
  have hx9 := (hb9.cell (p := ⟨G, 2, none⟩) (by exact hgl2)).trans (show w8.drew.cell? ⟨G, 2, none⟩ = some (.string v) from x2)
  have hx9k := (hb9.cell (p := ⟨G, 0, none⟩) (by exact hgl2)).trans (show w8.drew.cell? ⟨G, 0, none⟩ = some (.string k) from x0)
  have hxs := enc_chain k v fl ex ca la st wo N xs3 xs4 xs5 xs6 xs7 xs8 HN.out (by omega) (by omega) Hxs3.out Hxs4.out Hxs5.out Hxs6.out Hxs7.out Hxs8.out
  have Hxs := Lib.hid hxs
  clear hxs
  have hbw9 := Hbw.out.trans ((hb18.drew.trans hb9).mono (by omega : G ≤ g))
  by_cases hv0 : v.size = 0
  · have hrun2 := run_copy_str0 w9 v (if N = 40 + k.size then some ⟨g, 0, none⟩ else some ⟨g, 40 + k.size, none⟩) (N - (40 + k.size)) (N - (40 + k.size)) 3 hv0
    have hnil : strB v = [] := List.eq_nil_of_length_eq_zero (by rw [strB_len]; exact hv0)
    rw [hnil, P.splice_nil] at Hxs
    rw [Hxs.out] at ho9
    have hNk : 40 + k.size = N := by have := HN.out; omega
    have HNk := Lib.hid hNk
    clear hv0 hnil hNk
    go_region_held3 (fun w' => w'.cell? ⟨G, 0, none⟩ = some (.string k) ∧ w'.cell? ⟨G, 2, none⟩ = some (.string v)) (first | exact ⟨x0, x2⟩ | exact ⟨hx9k, hx9⟩) (first | (fail))
    all_goals (go_wp2_with (fail))
    all_goals
      go_ret2
      first
        | exact encPost_mk Hr.out HG.out ho9 (Nat.le_of_lt hgl) hbw9
        | (rw [HNk.out]; exact encPost_mk Hr.out HG.out ho9 (Nat.le_of_lt hgl) hbw9)
  · have r41 : ¬ N = 40 + k.size := by have := HN.out; omega
    obtain ⟨w10, hrun2, ho10, hb10⟩ := run_copy_str w9 g (40 + k.size) N N g _ v (N - (40 + k.size)) (N - (40 + k.size)) 3 ho9 (by have := HN.out; omega) (by have := HN.out; omega)
    rw [Hxs.out] at ho10
    have hx10 := (hb10.cell (p := ⟨G, 2, none⟩) (by exact hgl2)).trans hx9
    have hx10k := (hb10.cell (p := ⟨G, 0, none⟩) (by exact hgl2)).trans hx9k
    go_region_held3 (fun w' => w'.cell? ⟨G, 0, none⟩ = some (.string k) ∧ w'.cell? ⟨G, 2, none⟩ = some (.string v)) (first | exact ⟨x0, x2⟩ | exact ⟨hx9k, hx9⟩ | exact ⟨hx10k, hx10⟩) (first | (fail))
    all_goals (go_wp2_with (fail))
    all_goals
      go_ret2
      exact encPost_mk Hr.out HG.out ho10 (Nat.le_of_lt hgl) (hbw9.trans (hb10.mono (Nat.le_of_lt hgl)))
end Go.Proofs.Ytiammgeahogdoaa
