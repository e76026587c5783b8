/- Itb. -/
import Derived.Test.YtboehbfagnocpaaGreatDoorUae
set_option linter.unusedVariables false
set_option linter.unusedSimpArgs false
set_option maxRecDepth 100000
open Go.Proofs.Tryz
open Go.Lib (hid)
namespace Go.Proofs.YtboehbfagnocpaaGreatDoor.I8
open Go.RowKit Go.PlainAid
theorem rb_own {w : World} {base n : Nat} {v : Value} {l : List Int} (h : w.ownsRow base 5 1 v n (l.map (.int .u8))) : RB w v l := by
  have hn : l.length = n := by simpa using h.1
  subst hn
  rcases h.2 with ⟨rfl, h0⟩ | ⟨g, cap, cur, rfl, _⟩
  · exact ⟨none, 0, by rw [h0], fun hne => absurd (List.eq_nil_of_length_eq_zero h0) hne⟩
  · refine ⟨some ⟨g, 0, none⟩, cap, rfl, fun _ => ⟨g, 0, rfl, fun i hi => ?_⟩⟩
    have := h.cellAt i (by omega)
    rw [Nat.zero_add, this]
    simp [hi]
theorem RB.below {w w' : World} {v : Value} {l : List Int} (h : RB w v l) (hb : Below w.heap.size w w') : RB w' v l := by
  obtain ⟨a, cap, rfl, hc⟩ := h
  refine ⟨a, cap, rfl, fun hne => ?_⟩
  obtain ⟨b, o, rfl, hcc⟩ := hc hne
  refine ⟨b, o, rfl, fun i hi => ?_⟩
  have h1 := hcc i hi
  rw [hb.cell (World.block_lt_of_cell? _ _ h1)]
  exact h1
theorem conv_rb {w : World} {v : Value} {l : List Int} (h : RB w v l) : (convert 118 9 v).run prog w = .ok (.string (strOfNums l)) w := by
  obtain ⟨a, cap, rfl, hc⟩ := h
  by_cases hl : l = []
  · subst hl
    cases a with
    | none => exact run_convert_bytes_nil w 118 5 underlying118 underlying5 0 cap 9 underlying9
    | some a =>
      rw [run_convert_bytes_string w 118 9 5 _ _ _ underlying118 underlying5 underlying9]
      have := run_bytesToString (P := prog) w a 0 cap [] (by simp [loadCells, loadCellsFrom])
      exact this
  · obtain ⟨b, o, rfl, hcc⟩ := hc hl
    exact run_convert_bytes_arg w 118 5 underlying118 underlying5 b o _ cap l rfl (fun i hi => by rw [hcc i hi]; simp) 9 underlying9
theorem toList_inj (a b : ByteArray) : a.toList = b.toList ↔ a = b := by
  rw [ByteArray.toList_eq, ByteArray.toList_eq]
  constructor
  · intro h; exact ByteArray.ext (Array.ext' h)
  · rintro rfl; rfl
theorem encL_bytes (k v : ByteArray) (fl ex ca la : Int) (st wo : Bool) : P.Bytes (encL k v fl ex ca la st wo) := by
  unfold encL
  exact ((((((((P.le_bytes _ _).append (P.le_bytes _ _)).append (P.le_bytes _ _)).append (P.le_bytes _ _)).append (P.le_bytes _ _)).append (P.le_bytes _ _)).append (P.le_bytes _ _)).append (strB_bytes _)).append (strB_bytes _)
structure It where
  k : ByteArray
  v : ByteArray
  fl : Int
  ex : Int
  ca : Int
  la : Int
  st : Bool
  wo : Bool
def itV (i : It) : Value := .agg #[.string i.k, .int .u32 i.fl, .string i.v, .int .i64 i.ex, .int .u64 i.ca, .int .i64 i.la, .bool i.st, .bool i.wo]
def noIt : It := ⟨⟨#[]⟩, ⟨#[]⟩, 0, 0, 0, 0, false, false⟩
def sub (l : List Int) (i m : Nat) : List Int := (l.drop i).take m
def decKz (l : List Int) : Nat := (l[0]?.getD 0).toNat
def decVz (l : List Int) : Nat := (P.num (sub l 8 8)).toNat
def decI (l : List Int) : It :=
  ⟨strOfNums (sub l 40 (decKz l)), strOfNums (sub l (40 + decKz l) (decVz l)), P.num (sub l 4 4), wrap64 (P.num (sub l 16 8)), P.num (sub l 24 8), wrap64 (P.num (sub l 32 8)), decide (l[1]?.getD 0 % 2 = 1), decide (l[1]?.getD 0 / 2 = 1)⟩
def headOk (l : List Int) : Bool :=
  decide (40 ≤ l.length ∧ l[1]?.getD 0 ≤ 3 ∧ l[2]?.getD 0 = 0 ∧ l[3]?.getD 0 = 0 ∧ P.num (sub l 8 8) ≤ 65536 ∧ decKz l + decVz l + 40 ≤ l.length)
def decOk (l : List Int) : Bool := headOk l && rightB (decI l).k (decI l).v (decI l).ex (decI l).la
def decR (l : List Int) : It := if decOk l = true then decI l else noIt
def decE (l : List Int) : Int := if decOk l = true then 0 else 9
theorem sub_mid {l a b c : List Int} {i m : Nat} (h : l = a ++ (b ++ c)) (hi : a.length = i) (hm : b.length = m) : sub l i m = b := by
  subst h hi hm; unfold sub; simp
theorem sub_len {l : List Int} {i m : Nat} (h : i + m ≤ l.length) : (sub l i m).length = m := by unfold sub; simp; omega
theorem strOfNums_strB (s : ByteArray) : strOfNums (strB s) = s := by
  refine ByteArray.ext (Array.ext' ?_)
  rw [strOfNums_data]; unfold strB
  rw [List.map_map]
  conv => rhs; rw [← List.map_id s.data.toList]
  refine List.map_congr_left fun b _ => ?_
  simp
theorem bitsI_st (st wo : Bool) : decide (bitsI st wo % 2 = 1) = st ∧ decide (bitsI st wo / 2 = 1) = wo := by cases st <;> cases wo <;> decide
theorem enc_parts (k v : ByteArray) (fl ex ca la : Int) (st wo : Bool) (b : List Int) (hk : k.size < 256) (hv : v.size ≤ 65536) (hf0 : 0 ≤ fl) (hf1 : fl < 4294967296) (hx0 : 0 ≤ ex) (hx1 : ex ≤ 9223372036854775807) (hc0 : 0 ≤ ca) (hc1 : ca ≤ 18446744073709551615) (hl0 : 0 ≤ la) (hl1 : la ≤ 9223372036854775807) :
    let l := encL k v fl ex ca la st wo ++ b
    l[0]?.getD 0 = (k.size : Int) ∧ l[1]?.getD 0 = bitsI st wo ∧ l[2]?.getD 0 = 0 ∧ l[3]?.getD 0 = 0 ∧ P.num (sub l 4 4) = fl ∧ P.num (sub l 8 8) = (v.size : Int) ∧ P.num (sub l 16 8) = ex ∧ P.num (sub l 24 8) = ca ∧ P.num (sub l 32 8) = la ∧ sub l 40 k.size = strB k ∧ sub l (40 + k.size) v.size = strB v := by
  have p8 : (256 : Int) ^ 8 = 18446744073709551616 := by decide
  have p4 : (256 : Int) ^ 4 = 4294967296 := by decide
  have hb := bitsI_le st wo
  intro l
  have l4 : (P.le 4 fl).length = 4 := P.le_len _ _
  have l5 : (P.le 8 (v.size : Int)).length = 8 := P.le_len _ _
  have l6 : (P.le 8 ex).length = 8 := P.le_len _ _
  have l7 : (P.le 8 ca).length = 8 := P.le_len _ _
  have l8 : (P.le 8 la).length = 8 := P.le_len _ _
  have lk : (strB k).length = k.size := strB_len k
  have lv : (strB v).length = v.size := strB_len v
  have hl : l = [(k.size : Int), bitsI st wo, 0, 0] ++ (P.le 4 fl ++ (P.le 8 v.size ++ (P.le 8 ex ++ (P.le 8 ca ++ (P.le 8 la ++ (strB k ++ (strB v ++ b))))))) := by
    show encL k v fl ex ca la st wo ++ b = _
    unfold encL
    have e : P.le 1 (k.size : Int) ++ P.le 3 (bitsI st wo) = [(k.size : Int), bitsI st wo, 0, 0] := by
      simp only [P.le, List.cons_append, List.nil_append]
      rw [show (k.size : Int) % 256 = k.size by omega, show bitsI st wo % 256 = bitsI st wo by omega, show bitsI st wo / 256 = 0 by omega]; rfl
    rw [e]; simp [List.append_assoc]
  clear_value l
  refine ⟨by rw [hl]; simp, by rw [hl]; simp, by rw [hl]; simp, by rw [hl]; simp, ?_, ?_, ?_, ?_, ?_, ?_, ?_⟩
  · rw [sub_mid (i := 4) hl rfl l4, P.num_le 4 fl hf0 (by omega)]
  · rw [← List.append_assoc] at hl
    rw [sub_mid hl (by simp [l4]) l5, P.num_le 8 _ (by omega) (by omega)]
  · rw [← List.append_assoc, ← List.append_assoc] at hl
    rw [sub_mid hl (by simp [l4, l5]) l6, P.num_le 8 _ (by omega) (by omega)]
  · rw [← List.append_assoc, ← List.append_assoc, ← List.append_assoc] at hl
    rw [sub_mid hl (by simp [l4, l5, l6]) l7, P.num_le 8 _ (by omega) (by omega)]
  · rw [← List.append_assoc, ← List.append_assoc, ← List.append_assoc, ← List.append_assoc] at hl
    rw [sub_mid hl (by simp [l4, l5, l6, l7]) l8, P.num_le 8 _ (by omega) (by omega)]
  · rw [← List.append_assoc, ← List.append_assoc, ← List.append_assoc, ← List.append_assoc, ← List.append_assoc] at hl
    rw [sub_mid hl (by simp [l4, l5, l6, l7, l8]) lk]
  · rw [← List.append_assoc, ← List.append_assoc, ← List.append_assoc, ← List.append_assoc, ← List.append_assoc, ← List.append_assoc] at hl
    rw [sub_mid hl (by simp [l4, l5, l6, l7, l8, lk]; omega) lv]
theorem dec_enc (k v : ByteArray) (fl ex ca la : Int) (st wo : Bool) (b : List Int) (hr : rightB k v ex la = true) (hk : k.size < 256) (hv : v.size ≤ 65536) (hf0 : 0 ≤ fl) (hf1 : fl < 4294967296) (hx0 : 0 ≤ ex) (hx1 : ex ≤ 9223372036854775807) (hc0 : 0 ≤ ca) (hc1 : ca ≤ 18446744073709551615) (hl0 : 0 ≤ la) (hl1 : la ≤ 9223372036854775807) :
    decOk (encL k v fl ex ca la st wo ++ b) = true ∧ decI (encL k v fl ex ca la st wo ++ b) = ⟨k, v, fl, ex, ca, la, st, wo⟩ := by
  have hp := enc_parts k v fl ex ca la st wo b hk hv hf0 hf1 hx0 hx1 hc0 hc1 hl0 hl1
  have hlen : (encL k v fl ex ca la st wo ++ b).length = 40 + k.size + v.size + b.length := by rw [List.length_append, encL_len]
  generalize encL k v fl ex ca la st wo ++ b = l at *
  obtain ⟨h0, h1, h2, h3, h4, h5, h6, h7, h8, h9, h10⟩ := hp
  have hb := bitsI_le st wo
  have hkz : decKz l = k.size := by unfold decKz; rw [h0]; rfl
  have hvz : decVz l = v.size := by unfold decVz; rw [h5]; rfl
  have hI : decI l = ⟨k, v, fl, ex, ca, la, st, wo⟩ := by
    unfold decI
    rw [hkz, hvz, h9, h10, h4, h6, h7, h8, h1, (bitsI_st st wo).1, (bitsI_st st wo).2, strOfNums_strB, strOfNums_strB]
    unfold wrap64
    rw [show (ex + 9223372036854775808) % 18446744073709551616 - 9223372036854775808 = ex by omega, show (la + 9223372036854775808) % 18446744073709551616 - 9223372036854775808 = la by omega]
  refine ⟨?_, hI⟩
  unfold decOk
  rw [hI]
  simp only [hr, Bool.and_true]
  unfold headOk
  refine decide_eq_true ⟨by omega, by omega, h2, h3, by omega, by omega⟩
def DecPost (l : List Int) (w : World) (e : Ending) (w' : World) : Prop := e = .returned (.tuple #[itV (decR l), .int .i64 (decE l)]) ∧ Below w.heap.size w w'
theorem set_other (w : World) (g i j : Nat) (u : Value) (h : i ≠ j) : (w.setCell ⟨g, i, none⟩ u).cell? ⟨g, j, none⟩ = w.cell? ⟨g, j, none⟩ := by simp [go_sem, h]
theorem set_same (w : World) (g i : Nat) (u v : Value) (h : w.cell? ⟨g, i, none⟩ = some v) : (w.setCell ⟨g, i, none⟩ u).cell? ⟨g, i, none⟩ = some u := World.cell?_setCell_same' _ _ _ (by rw [h]; rfl)
theorem box_set {w : World} {g : Nat} {k v : ByteArray} {fl ex ca la : Int} {st wo : Bool} {k0 v0 : ByteArray} {fl0 ex0 ca0 la0 : Int} {st0 wo0 : Bool} (h : Box w g k0 v0 fl0 ex0 ca0 la0 st0 wo0) :
    Box ((((((((w.setCell ⟨g, 0, none⟩ (.string k)).setCell ⟨g, 1, none⟩ (.int .u32 fl)).setCell ⟨g, 2, none⟩ (.string v)).setCell ⟨g, 3, none⟩ (.int .i64 ex)).setCell ⟨g, 4, none⟩ (.int .u64 ca)).setCell ⟨g, 5, none⟩ (.int .i64 la)).setCell ⟨g, 6, none⟩ (.bool st)).setCell ⟨g, 7, none⟩ (.bool wo)) g k v fl ex ca la st wo := by
  obtain ⟨h0, h1, h2, h3, h4, h5, h6, h7, h8⟩ := h
  refine ⟨?_, ?_, ?_, ?_, ?_, ?_, ?_, ?_, by simpa [World.setCell] using h8⟩
  · iterate 7 rw [set_other _ _ _ _ _ (by decide)]
    exact set_same _ _ _ _ _ h0
  · iterate 6 rw [set_other _ _ _ _ _ (by decide)]
    exact set_same _ _ _ _ (.int .u32 fl0) (by rw [set_other _ _ _ _ _ (by decide)]; exact h1)
  · iterate 5 rw [set_other _ _ _ _ _ (by decide)]
    exact set_same _ _ _ _ (.string v0) (by iterate 2 rw [set_other _ _ _ _ _ (by decide)]
                                            exact h2)
  · iterate 4 rw [set_other _ _ _ _ _ (by decide)]
    exact set_same _ _ _ _ (.int .i64 ex0) (by iterate 3 rw [set_other _ _ _ _ _ (by decide)]
                                               exact h3)
  · iterate 3 rw [set_other _ _ _ _ _ (by decide)]
    exact set_same _ _ _ _ (.int .u64 ca0) (by iterate 4 rw [set_other _ _ _ _ _ (by decide)]
                                               exact h4)
  · iterate 2 rw [set_other _ _ _ _ _ (by decide)]
    exact set_same _ _ _ _ (.int .i64 la0) (by iterate 5 rw [set_other _ _ _ _ _ (by decide)]
                                               exact h5)
  · iterate 1 rw [set_other _ _ _ _ _ (by decide)]
    exact set_same _ _ _ _ (.bool st0) (by iterate 6 rw [set_other _ _ _ _ _ (by decide)]
                                           exact h6)
  · exact set_same _ _ _ _ (.bool wo0) (by iterate 7 rw [set_other _ _ _ _ _ (by decide)]
                                           exact h7)
theorem below_set8 {B : Nat} {a w : World} (h : Below B a w) {g : Nat} (hg : B ≤ g) {u0 u1 u2 u3 u4 u5 u6 u7 : Value} :
    Below B a ((((((((w.setCell ⟨g, 0, none⟩ u0).setCell ⟨g, 1, none⟩ u1).setCell ⟨g, 2, none⟩ u2).setCell ⟨g, 3, none⟩ u3).setCell ⟨g, 4, none⟩ u4).setCell ⟨g, 5, none⟩ u5).setCell ⟨g, 6, none⟩ u6).setCell ⟨g, 7, none⟩ u7) :=
  (((((((h.setCell hg _).setCell hg _).setCell hg _).setCell hg _).setCell hg _).setCell hg _).setCell hg _).setCell hg _
theorem ret_item {fn : Func} (hres : fn.results = #[.cell 2 50, .tmp 3]) {R : Ending → World → Prop} {tmps : Array Value} {W : World} {g : Nat} {k v : ByteArray} {fl ex ca la er : Int} {st wo : Bool}
    (h2 : tmps.getD 2 undef = .pointer (some ⟨g, 0, none⟩)) (h3 : tmps.getD 3 undef = .int .i64 er) (hb : Box W g k v fl ex ca la st wo)
    (hR : R (.returned (.tuple #[.agg #[.string k, .int .u32 fl, .string v, .int .i64 ex, .int .u64 ca, .int .i64 la, .bool st, .bool wo], .int .i64 er])) W) :
    bodyPost prog fn R .ret { tmps := tmps, defers := [] } W := by
  obtain ⟨x0, x1, x2, x3, x4, x5, x6, x7, _⟩ := hb
  refine bodyPost_ret (v := .tuple #[.agg #[.string k, .int .u32 fl, .string v, .int .i64 ex, .int .u64 ca, .int .i64 la, .bool st, .bool wo], .int .i64 er]) ?_ rfl hR
  have h2' : tmps[2]?.getD undef = .pointer (some ⟨g, 0, none⟩) := by simpa using h2
  have h3' : tmps[3]?.getD undef = .int .i64 er := by simpa using h3
  simp [results, hres, go_sem, h2', h3', x0, x1, x2, x3, x4, x5, x6, x7]
theorem dec_head {l : List Int} {n kz vz : Nat} (hln : l.length = n) (hn : 40 ≤ n) (h1 : l[1]?.getD 0 ≤ 3) (h2 : l[2]?.getD 0 = 0) (h3 : l[3]?.getD 0 = 0) (hkz : l[0]?.getD 0 = (kz : Int)) (hvz : P.num (sub l 8 8) = (vz : Int)) (hv : vz ≤ 65536) (hfit : kz + vz ≤ n - 40) :
    headOk l = true ∧ decKz l = kz ∧ decVz l = vz := by
  have e1 : decKz l = kz := by unfold decKz; rw [hkz]; rfl
  have e2 : decVz l = vz := by unfold decVz; rw [hvz]; rfl
  refine ⟨?_, e1, e2⟩
  unfold headOk
  refine decide_eq_true ⟨by omega, h1, h2, h3, by omega, by omega⟩
theorem dec_refused {l : List Int} (h : headOk l = false) : decR l = noIt ∧ decE l = 9 := by
  have : decOk l = false := by unfold decOk; rw [h]; rfl
  unfold decR decE; rw [this]; exact ⟨rfl, rfl⟩
theorem bits_of {c : Int} (h0 : 0 ≤ c) (h3 : c ≤ 3) : (bits .and .u8 c 1 != 0) = decide (c % 2 = 1) ∧ (bits .and .u8 c 2 != 0) = decide (c / 2 = 1) := by
  have : c = 0 ∨ c = 1 ∨ c = 2 ∨ c = 3 := by omega
  rcases this with rfl | rfl | rfl | rfl <;> decide
theorem dec_item {l : List Int} {kz vz : Nat} {sK sV : ByteArray} (hb : P.Bytes l) (hk : decKz l = kz) (hv : decVz l = vz) (h1 : l[1]?.getD 0 ≤ 3) (hsK : sK = strOfNums ((l.drop 40).take kz)) (hsV : sV = strOfNums ((l.drop (40 + kz)).take vz)) :
    decI l = ⟨sK, sV, P.num ((l.drop 4).take 4) % 4294967296, wrap64 (P.num ((l.drop 16).take 8)), P.num ((l.drop 24).take 8), wrap64 (P.num ((l.drop 32).take 8)), bits .and .u8 (l[1]?.getD 0) 1 != 0, bits .and .u8 (l[1]?.getD 0) 2 != 0⟩ := by
  have hb4 := P.num_bound _ ((hb.drop 4).take 4)
  have hp : (256 : Int) ^ ((l.drop 4).take 4).length ≤ 256 ^ 4 := P.pow_le (by simp; omega)
  have e4 : (256 : Int) ^ 4 = 4294967296 := by decide
  have hbb := bits_of (hb.at 1).1 h1
  rw [hbb.1, hbb.2, hsK, hsV]
  unfold decI sub
  rw [hk, hv, show P.num ((l.drop 4).take 4) % 4294967296 = P.num ((l.drop 4).take 4) by omega]
theorem dec_done {l : List Int} {n kz vz : Nat} {sK sV : ByteArray} {b : Bool} (hln : l.length = n) (hn : 40 ≤ n) (hb : P.Bytes l) (h1 : l[1]?.getD 0 ≤ 3) (h2 : l[2]?.getD 0 = 0) (h3 : l[3]?.getD 0 = 0) (hkz : l[0]?.getD 0 = (kz : Int)) (hvz : P.num ((l.drop 8).take 8) = (vz : Int)) (hv : vz ≤ 65536) (hfit : kz + vz ≤ n - 40)
    (hsK : sK = strOfNums ((l.drop 40).take kz)) (hsV : sV = strOfNums ((l.drop (40 + kz)).take vz))
    (hr : rightB sK sV (wrap64 (P.num ((l.drop 16).take 8))) (wrap64 (P.num ((l.drop 32).take 8))) = b) :
    if b = true then decR l = ⟨sK, sV, P.num ((l.drop 4).take 4) % 4294967296, wrap64 (P.num ((l.drop 16).take 8)), P.num ((l.drop 24).take 8), wrap64 (P.num ((l.drop 32).take 8)), bits .and .u8 (l[1]?.getD 0) 1 != 0, bits .and .u8 (l[1]?.getD 0) 2 != 0⟩ ∧ decE l = 0
    else decR l = noIt ∧ decE l = 9 := by
  obtain ⟨a1, a2, a3⟩ := dec_head hln hn h1 h2 h3 hkz hvz hv hfit
  have hI := dec_item hb a2 a3 h1 hsK hsV
  have hok : decOk l = b := by unfold decOk; rw [a1, hI, ← hr]; rfl
  unfold decR decE
  rw [hok]
  cases b
  · exact ⟨rfl, rfl⟩
  · exact ⟨hI, rfl⟩
theorem decPost_no {l : List Int} {w W : World} (h : decR l = noIt ∧ decE l = 9) (hb : Below w.heap.size w W) :
    DecPost l w (.returned (.tuple #[.agg #[.string ⟨#[]⟩, .int .u32 0, .string ⟨#[]⟩, .int .i64 0, .int .u64 0, .int .i64 0, .bool false, .bool false], .int .i64 9])) W := ⟨by rw [h.1, h.2]; rfl, hb⟩
theorem decPost_yes {l : List Int} {w W : World} {k v : ByteArray} {fl ex ca la : Int} {st wo : Bool} (h : decR l = ⟨k, v, fl, ex, ca, la, st, wo⟩ ∧ decE l = 0) (hb : Below w.heap.size w W) :
    DecPost l w (.returned (.tuple #[.agg #[.string k, .int .u32 fl, .string v, .int .i64 ex, .int .u64 ca, .int .i64 la, .bool st, .bool wo], .int .i64 0])) W := ⟨by rw [h.1, h.2]; rfl, hb⟩
theorem get_q (l : List Int) (v : Value) (w : World) (hr : RB w v l) (hb : P.Bytes l) (hl : l.length ≤ 8) :
    Calls prog 232 #[v] w fun e w' => e = .returned (.int .u64 (P.num l)) ∧ w' = w := (get_any l v w hr hb hl).mono fun _ _ ⟨h1, h2⟩ => ⟨h1, h2.symm⟩
theorem get_v {l : List Int} {v : Value} {w : World} {z : Int} (hz : P.num l = z) (hr : RB w v l) (hb : P.Bytes l) (hl : l.length ≤ 8) :
    Calls prog 232 #[v] w fun e w' => e = .returned (.int .u64 z) ∧ w' = w := by
  subst hz; exact get_q l v w hr hb hl
theorem rb_sub {w : World} {bk o : Nat} {l : List Int} (hc : ∀ i, i < l.length → w.cell? ⟨bk, o + i, none⟩ = some (.int .u8 (l[i]?.getD 0))) (i m c : Nat) (h : i + m ≤ l.length) :
    RB w (.slice (some ⟨bk, o + i, none⟩) m c) ((l.drop i).take m) := by
  have hl : ((l.drop i).take m).length = m := by simp; omega
  refine ⟨_, c, by rw [hl], fun _ => ⟨bk, o + i, rfl, fun j hj => ?_⟩⟩
  have := hc (i + j) (by omega)
  rw [Nat.add_assoc, this]
  simp [List.getElem?_take, show j < m by omega]
def ZBox (w : World) (g : Nat) : Prop := Box w g ⟨#[]⟩ ⟨#[]⟩ 0 0 0 0 false false ∧ ∀ j, w.frozen? ⟨g, j, none⟩ = false
theorem zbox_new (w : World) : ZBox (w.alloc (.cells #[.string ⟨#[]⟩, .int .u32 0, .string ⟨#[]⟩, .int .i64 0, .int .u64 0, .int .i64 0, .bool false, .bool false] 50)) w.heap.size :=
  ⟨box_new w ⟨#[]⟩ ⟨#[]⟩ 0 0 0 0 false false, fun j => by simp [go_sem]⟩
theorem rb_zero {w : World} {a : Option Addr} {c m : Nat} {l : List Int} (h : m = 0) : RB w (.slice a m c) (l.take m) := by
  subst h
  exact ⟨a, c, by simp, fun hne => absurd (by simp) hne⟩
set_option maxRecDepth 100000 in
set_option maxHeartbeats 0 in
theorem decode_head (bk o n cap kz vz x y : Nat) (l : List Int) (w : World) (hln : l.length = n) (hn : 40 ≤ n) (hcap : n ≤ cap) (hcm : cap ≤ maxLen) (hb : P.Bytes l)
    (hc : ∀ i, i < n → w.cell? ⟨bk, o + i, none⟩ = some (.int .u8 (l[i]?.getD 0)))
    (h1 : l[1]?.getD 0 ≤ 3) (h2 : l[2]?.getD 0 = 0) (h3 : l[3]?.getD 0 = 0) (hx : (if cap = 40 then (some ⟨bk, o, none⟩ : Option Addr) else some ⟨bk, o + 40, none⟩) = some ⟨bk, x, none⟩) (hy : (if cap - 40 = kz then (some ⟨bk, x, none⟩ : Option Addr) else some ⟨bk, x + kz, none⟩) = some ⟨bk, y, none⟩) (hxk : kz = 0 ∨ x = o + 40) (hyk : vz = 0 ∨ y = o + (40 + kz)) (hkz : l[0]?.getD 0 = (kz : Int)) (hvz : P.num ((l.drop 8).take 8) = (vz : Int)) (hv : vz ≤ 65536) (hfit : kz + vz ≤ n - 40) :
    Calls prog 182 #[.slice (some ⟨bk, o, none⟩) n cap] w (DecPost l w) := by
  have hobk : bk < w.heap.size := World.block_lt_of_cell? _ _ (hc 0 (by omega))
  have c0 := hc 0 (by omega)
  rw [hkz] at c0
  have c1 := hc 1 (by omega)
  have c2 := hc 2 (by omega)
  have c3 := hc 3 (by omega)
  have a0 := (hb.at 0).2
  rw [hkz] at a0
  obtain ⟨a1, a1'⟩ := hb.at 1
  have h2' : (l[2]?.getD 0 != 0) = false := by simp [h2]
  have h3' : (l[3]?.getD 0 != 0) = false := by simp [h3]
  have Hc := hid hc
  have H2 := hid h2
  have H3 := hid h3
  have Hln := hid hln
  have Hvz := hid hvz
  have Hkz := hid hkz
  have hnm : n ≤ 9223372036854775807 := by unfold maxLen at hcm; omega
  have i16 : (16 : Int) ≤ (n : Int) := by omega
  have i8 : (8 : Int) ≤ (n : Int) := by omega
  have i40 : (40 : Int) ≤ (n : Int) := by omega
  have m40 : 40 ≤ n := hn
  have m16c : 16 ≤ cap := by omega
  have r8 : ¬ cap = 8 := by omega
  have hlow : ∀ (W : World), Below w.heap.size w W → ∀ (i m c : Nat), i + m ≤ n → RB W (.slice (some ⟨bk, o + i, none⟩) m c) ((l.drop i).take m) :=
    fun W hW i m c him => (rb_sub (by rw [hln]; exact hc) i m c (by rw [hln]; exact him)).below hW
  have Hlow := hid hlow
  clear hlow
  have hl8 : ((l.drop 8).take 8).length ≤ 8 := by simp; omega
  have hb8 := (hb.drop 8).take 8
  have Hl8 := hid hl8
  have Hb8 := hid hb8
  have Hb := hid hb
  clear hl8 hb8 hb
  clear hc hln h2 h3 hkz hvz
  simp only [Nat.add_zero] at c0
  go_enter func182, ntmps182
  go_wp2_with (fail)
  have hW0 : Below w.heap.size w (w.alloc (.cells #[.string ⟨#[]⟩, .int .u32 0, .string ⟨#[]⟩, .int .i64 0, .int .u64 0, .int .i64 0, .bool false, .bool false] 50)) := (Below.refl _ _).alloc (Nat.le_refl _) _
  have HW0 := hid hW0
  clear hW0
  go_quiet ((go_at_call 232; exact Calls.quiet_of_same (get_v Hvz.out (Hlow.out _ (below_drewN HW0.out _) 8 8 _ (by omega)) Hb8.out Hl8.out)))
  have HW1 := hid (below_drewN HW0.out nq)
  have hzb := zbox_new w
  have hzb1 : ZBox ((w.alloc (.cells #[.string ⟨#[]⟩, .int .u32 0, .string ⟨#[]⟩, .int .i64 0, .int .u64 0, .int .i64 0, .bool false, .bool false] 50)).drewN nq) w.heap.size := hzb
  generalize (w.alloc (.cells #[.string ⟨#[]⟩, .int .u32 0, .string ⟨#[]⟩, .int .i64 0, .int .u64 0, .int .i64 0, .bool false, .bool false] 50)).drewN nq = W1 at *
  clear hzb
  have Hzb := hid hzb1
  clear hzb1
  have c0w := (HW1.out.cell (p := ⟨bk, o, none⟩) hobk).trans c0
  go_wp2_with (fail)
  go_quiet (fail)
  go_wp2_with (fail)
  have HW2 := hid (below_drewN HW1.out nq)
  have Hzb2 : Hid (ZBox (W1.drewN nq) w.heap.size) := Hzb
  generalize W1.drewN nq = W2 at *
  clear HW1 Hzb
  have r4 : ¬ cap = 4 := by omega
  have r16 : ¬ cap = 16 := by omega
  have r24 : ¬ cap = 24 := by omega
  have r32 : ¬ cap = 32 := by omega
  have j4 : (4 : Int) ≤ (n : Int) := by omega
  have j24 : (24 : Int) ≤ (n : Int) := by omega
  have j32 : (32 : Int) ≤ (n : Int) := by omega
  have d1 := (Hlow.out W2 HW2.out 4 4 (cap - 4) (by omega))
  have d2 := (Hlow.out W2 HW2.out 16 8 (cap - 16) (by omega))
  have d3 := (Hlow.out W2 HW2.out 24 8 (cap - 24) (by omega))
  have d4 := (Hlow.out W2 HW2.out 32 8 (cap - 32) (by omega))
  have e1 : W2.cell? ⟨bk, o + 1, none⟩ = some (.int .u8 (l[1]?.getD 0)) := (HW2.out.cell (p := ⟨bk, o + 1, none⟩) hobk).trans c1
  have n4 : 8 ≤ cap := by omega
  have n24 : 24 ≤ cap := by omega
  have n32 : 32 ≤ cap := by omega
  have n40 : 40 ≤ cap := by omega
  have n4i : (8 : Int) ≤ (cap : Int) := by omega
  have n24i : (24 : Int) ≤ (cap : Int) := by omega
  have n32i : (32 : Int) ≤ (cap : Int) := by omega
  have n40i : (40 : Int) ≤ (cap : Int) := by omega
  have hS : ∀ W, Below w.heap.size w W → (convert 118 9 (.slice (some ⟨bk, x, none⟩) kz (cap - 40))).run prog W = .ok (.string (strOfNums ((l.drop 40).take kz))) W ∧
      (convert 118 9 (.slice (some ⟨bk, y, none⟩) vz (cap - 40 - kz))).run prog W = .ok (.string (strOfNums ((l.drop (40 + kz)).take vz))) W ∧ W.cell? ⟨bk, o + 1, none⟩ = some (.int .u8 (l[1]?.getD 0)) := fun W hW =>
    ⟨conv_rb (by rcases hxk with h | h
                 · exact rb_zero h
                 · rw [h]; exact Hlow.out W hW 40 kz _ (by omega)),
     conv_rb (by rcases hyk with h | h
                 · exact rb_zero h
                 · rw [h]; exact Hlow.out W hW (40 + kz) vz (cap - 40 - kz) (by omega)), (hW.cell (p := ⟨bk, o + 1, none⟩) hobk).trans c1⟩
  have HS := hid hS
  clear hS d1 d2 d3 d4
  have hbsz := HW2.out.size
  obtain ⟨sK, hsK⟩ : ∃ sK, sK = strOfNums ((l.drop 40).take kz) := ⟨_, rfl⟩
  obtain ⟨sV, hsV⟩ : ∃ sV, sV = strOfNums ((l.drop (40 + kz)).take vz) := ⟨_, rfl⟩
  rw [← hsK, ← hsV] at HS
  have HsK := hid hsK
  have HsV := hid hsV
  clear hsK hsV
  go_region_held3 (fun w' => (convert 118 9 (.slice (some ⟨bk, x, none⟩) kz (cap - 40))).run prog w' = .ok (.string sK) w' ∧ (convert 118 9 (.slice (some ⟨bk, y, none⟩) vz (cap - 40 - kz))).run prog w' = .ok (.string sV) w' ∧ w'.cell? ⟨bk, o + 1, none⟩ = some (.int .u8 (l[1]?.getD 0))) (first | exact HS.out _ HW2.out | exact HS.out _ HW2.out.drew | exact HS.out _ (HW2.out.alloc hbsz _) | exact HS.out _ (HW2.out.alloc hbsz _).drew) (first | (go_at_call 232; (with_reducible refine (get_any ((l.drop 4).take 4) (.slice (some ⟨bk, o + 4, none⟩) 4 (cap - 4)) _ (Hlow.out _ (by first | exact HW2.out | exact HW2.out.drew | exact HW2.out.alloc hbsz _ | exact (HW2.out.alloc hbsz _).drew) 4 4 _ (by omega)) ((Hb.out.drop 4).take 4) (by simp; omega)).mono ?_); rintro e w' ⟨rfl, rfl⟩) | (go_at_call 232; (with_reducible refine (get_any ((l.drop 16).take 8) (.slice (some ⟨bk, o + 16, none⟩) 8 (cap - 16)) _ (Hlow.out _ (by first | exact HW2.out | exact HW2.out.drew | exact HW2.out.alloc hbsz _ | exact (HW2.out.alloc hbsz _).drew) 16 8 _ (by omega)) ((Hb.out.drop 16).take 8) (by simp; omega)).mono ?_); rintro e w' ⟨rfl, rfl⟩) | (go_at_call 232; (with_reducible refine (get_any ((l.drop 24).take 8) (.slice (some ⟨bk, o + 24, none⟩) 8 (cap - 24)) _ (Hlow.out _ (by first | exact HW2.out | exact HW2.out.drew | exact HW2.out.alloc hbsz _ | exact (HW2.out.alloc hbsz _).drew) 24 8 _ (by omega)) ((Hb.out.drop 24).take 8) (by simp; omega)).mono ?_); rintro e w' ⟨rfl, rfl⟩) | (go_at_call 232; (with_reducible refine (get_any ((l.drop 32).take 8) (.slice (some ⟨bk, o + 32, none⟩) 8 (cap - 32)) _ (Hlow.out _ (by first | exact HW2.out | exact HW2.out.drew | exact HW2.out.alloc hbsz _ | exact (HW2.out.alloc hbsz _).drew) 32 8 _ (by omega)) ((Hb.out.drop 32).take 8) (by simp; omega)).mono ?_); rintro e w' ⟨rfl, rfl⟩))
  all_goals (go_wp2_with (fail))
  all_goals
    refine (right_any sK sV _ _ _ _ _ _ _ (by have := HsK.out; rw [this, strOfNums_size]; unfold maxLen; simp; omega) (by have := HsV.out; rw [this, strOfNums_size]; unfold maxLen; simp; omega)).mono ?_
    rintro e w3 ⟨rfl, hb3⟩
    have hz0 := Hzb2.out.1.2.2.2.2.2.2.2.2
    have hb23 := (((Below.refl W2.heap.size W2).alloc (Nat.le_refl _) _).drew).trans (hb3.mono (B' := W2.heap.size) (by simp))
    have hz3 := Hzb2.out.1.below hb23 hz0
    have hx3 := (show Box (W2.alloc _).drew W2.heap.size _ _ _ _ _ _ _ _ from box_new W2 _ _ _ _ _ _ _ _).below hb3 (by simp)
    have Hz3 := hid hz3
    obtain ⟨z0, z1, z2, z3, z4, z5, z6, z7, zl⟩ := hz3
    obtain ⟨x0, x1, x2, x3, x4, x5, x6, x7, xl⟩ := hx3
    have hfz : ∀ j, w3.frozen? ⟨w.heap.size, j, none⟩ = false := fun j => (hb23.frozen (p := ⟨w.heap.size, j, none⟩) hz0).trans (Hzb2.out.2 j)
    have f0 := hfz 0
    have f1 := hfz 1
    have f2 := hfz 2
    have f3 := hfz 3
    have f4 := hfz 4
    have f5 := hfz 5
    have f6 := hfz 6
    have f7 := hfz 7
    have hbw3 : Below w.heap.size w w3 := HW2.out.trans (hb23.mono (Nat.le_of_lt hz0))
    clear hfz hb3 hb23
    cases hrb : rightB sK sV (wrap64 (P.num ((l.drop 16).take 8))) (wrap64 (P.num ((l.drop 32).take 8)))
    · have Hfin := hid (dec_done Hln.out hn Hb.out h1 H2.out H3.out Hkz.out Hvz.out hv hfit HsK.out HsV.out hrb)
      clear hrb
      go_wp2_with (fail)
      exact ret_item rfl rfl rfl (box_set Hz3.out) (decPost_no Hfin.out (below_set8 hbw3 (Nat.le_refl _)))
    · have Hfin := hid (dec_done Hln.out hn Hb.out h1 H2.out H3.out Hkz.out Hvz.out hv hfit HsK.out HsV.out hrb)
      clear hrb
      go_wp2_with (fail)
      exact ret_item rfl rfl rfl (box_set Hz3.out) (decPost_yes Hfin.out (below_set8 hbw3 (Nat.le_refl _)))
theorem get_w {l : List Int} {v : Value} {w : World} {z : Int} (hz : P.num l = z) (hr : RB w v l) (hb : P.Bytes l) (hl : l.length ≤ 8) :
    Calls prog 232 #[v] w fun e w' => e = .returned (.int .u64 z) ∧ w' = w := by
  subst hz; exact (get_any l v w hr hb hl).mono fun _ _ ⟨h1, h2⟩ => ⟨h1, h2.symm⟩
theorem rb_part {w : World} {bk o : Nat} {l : List Int} (hc : ∀ i, i < l.length → w.cell? ⟨bk, o + i, none⟩ = some (.int .u8 (l[i]?.getD 0))) (i m c : Nat) (h : i + m ≤ l.length) :
    RB w (.slice (some ⟨bk, o + i, none⟩) m c) (sub l i m) := by
  have hl : (sub l i m).length = m := sub_len h
  refine ⟨_, c, by rw [hl], fun _ => ⟨bk, o + i, rfl, fun j hj => ?_⟩⟩
  have := hc (i + j) (by omega)
  rw [Nat.add_assoc, this]
  unfold sub
  simp [List.getElem?_take, show j < m by omega]
theorem zero_box (w : World) : Box (w.alloc (.cells #[.string ⟨#[]⟩, .int .u32 0, .string ⟨#[]⟩, .int .i64 0, .int .u64 0, .int .i64 0, .bool false, .bool false] 50)) w.heap.size ⟨#[]⟩ ⟨#[]⟩ 0 0 0 0 false false :=
  box_new w ⟨#[]⟩ ⟨#[]⟩ 0 0 0 0 false false
theorem below_new (w : World) (o : Obj) : Below w.heap.size w (w.alloc o) := (Below.refl _ _).alloc (Nat.le_refl _) _
theorem refused_len {l : List Int} (h : l.length < 40) : decR l = noIt ∧ decE l = 9 :=
  dec_refused (by unfold headOk; exact decide_eq_false (fun hh => by omega))
theorem refused_bits {l : List Int} (h : (3 : Int) < l[1]?.getD 0 ∨ l[2]?.getD 0 ≠ 0 ∨ l[3]?.getD 0 ≠ 0) : decR l = noIt ∧ decE l = 9 :=
  dec_refused (by unfold headOk; exact decide_eq_false (fun ⟨_, h1, h2, h3, _⟩ => by rcases h with h | h | h <;> omega))
theorem refused_val {l : List Int} (h : 65536 < P.num (sub l 8 8)) : decR l = noIt ∧ decE l = 9 :=
  dec_refused (by unfold headOk; exact decide_eq_false (fun ⟨_, h1, h2, h3, h4, _⟩ => by omega))
theorem refused_fit {l : List Int} {n kz vz : Nat} (hln : l.length = n) (hkz : l[0]?.getD 0 = (kz : Int)) (hvz : P.num (sub l 8 8) = (vz : Int)) (h : n < 40 + kz + vz) : decR l = noIt ∧ decE l = 9 := by
  refine dec_refused ?_
  unfold headOk
  refine decide_eq_false (fun ⟨_, h1, h2, h3, h4, h5⟩ => ?_)
  have e1 : decKz l = kz := by unfold decKz; rw [hkz]; rfl
  have e2 : decVz l = vz := by unfold decVz; rw [hvz]; rfl
  omega
set_option maxRecDepth 100000 in
set_option maxHeartbeats 1000000 in
theorem decode_len (a : Option Addr) (n cap : Nat) (l : List Int) (w : World) (hln : l.length = n) (hn : n < 40) :
    Calls prog 182 #[.slice a n cap] w (DecPost l w) := by
  have Hr := hid (refused_len (l := l) (by omega))
  clear hln
  go_enter func182, ntmps182
  go_wp2_with (fail)
  go_returns
  exact decPost_no Hr.out (by go_grown)
set_option maxRecDepth 100000 in
set_option maxHeartbeats 1000000 in
theorem decode_bits (bk o n cap : Nat) (l : List Int) (w : World) (hln : l.length = n) (hn : 40 ≤ n) (hcap : n ≤ cap) (hcm : cap ≤ maxLen) (hb : P.Bytes l)
    (hc : ∀ i, i < n → w.cell? ⟨bk, o + i, none⟩ = some (.int .u8 (l[i]?.getD 0))) (h : (3 : Int) < l[1]?.getD 0 ∨ l[2]?.getD 0 ≠ 0 ∨ l[3]?.getD 0 ≠ 0) :
    Calls prog 182 #[.slice (some ⟨bk, o, none⟩) n cap] w (DecPost l w) := by
  have Hr := hid (refused_bits h)
  have hobk : bk < w.heap.size := World.block_lt_of_cell? _ _ (hc 0 (by omega))
  have c1 := hc 1 (by omega)
  have c2 := hc 2 (by omega)
  have c3 := hc 3 (by omega)
  have hnm : n ≤ 9223372036854775807 := by unfold maxLen at hcm; omega
  have i40 : (40 : Int) ≤ (n : Int) := by omega
  obtain ⟨a1, a1'⟩ := hb.at 1
  clear hc hln
  by_cases h1 : l[1]?.getD 0 ≤ 3
  · by_cases h2 : l[2]?.getD 0 = 0
    · have h3 : ¬ l[3]?.getD 0 = 0 := by omega
      have h2' : (l[2]?.getD 0 != 0) = false := by simp [h2]
      have h3' : (l[3]?.getD 0 != 0) = true := by simp [h3]
      clear h2 h3 h
      go_enter func182, ntmps182
      go_wp2_with (fail)
      go_returns
      exact decPost_no Hr.out (by go_grown)
    · have h2' : (l[2]?.getD 0 != 0) = true := by simp [h2]
      clear h2 h
      go_enter func182, ntmps182
      go_wp2_with (fail)
      go_returns
      exact decPost_no Hr.out (by go_grown)
  · clear h
    go_enter func182, ntmps182
    go_wp2_with (fail)
    go_returns
    exact decPost_no Hr.out (by go_grown)
set_option maxRecDepth 100000 in
set_option maxHeartbeats 1000000 in
theorem decode_fit (bk o n cap kz x : Nat) (z : Int) (l : List Int) (w : World) (hln : l.length = n) (hn : 40 ≤ n) (hcap : n ≤ cap) (hcm : cap ≤ maxLen) (hb : P.Bytes l)
    (hc : ∀ i, i < n → w.cell? ⟨bk, o + i, none⟩ = some (.int .u8 (l[i]?.getD 0)))
    (h1 : l[1]?.getD 0 ≤ 3) (h2 : l[2]?.getD 0 = 0) (h3 : l[3]?.getD 0 = 0) (hx : (if cap = 40 then (some ⟨bk, o, none⟩ : Option Addr) else some ⟨bk, o + 40, none⟩) = some ⟨bk, x, none⟩) (hkz : l[0]?.getD 0 = (kz : Int)) (hz : P.num (sub l 8 8) = z) (hfit : 65536 < z ∨ (n : Int) - 40 < (kz : Int) + z) :
    Calls prog 182 #[.slice (some ⟨bk, o, none⟩) n cap] w (DecPost l w) := by
  have hz0 : 0 ≤ z := by rw [← hz]; exact (P.num_bound _ ((hb.drop 8).take 8)).1
  have Hr : Hid (decR l = noIt ∧ decE l = 9) := by
    rcases hfit with h | h
    · exact hid (refused_val (by omega))
    · obtain ⟨vz, rfl⟩ := Int.eq_ofNat_of_zero_le hz0
      exact hid (refused_fit hln hkz hz (by omega))
  have hobk : bk < w.heap.size := World.block_lt_of_cell? _ _ (hc 0 (by omega))
  have c0 := hc 0 (by omega)
  rw [hkz] at c0
  have c1 := hc 1 (by omega)
  have c2 := hc 2 (by omega)
  have c3 := hc 3 (by omega)
  have a0 := (hb.at 0).2
  rw [hkz] at a0
  obtain ⟨a1, a1'⟩ := hb.at 1
  have h2' : (l[2]?.getD 0 != 0) = false := by simp [h2]
  have h3' : (l[3]?.getD 0 != 0) = false := by simp [h3]
  have hnm : n ≤ 9223372036854775807 := by unfold maxLen at hcm; omega
  have i16 : (16 : Int) ≤ (n : Int) := by omega
  have i8 : (8 : Int) ≤ (n : Int) := by omega
  have i40 : (40 : Int) ≤ (n : Int) := by omega
  have m40 : 40 ≤ n := hn
  have m16c : 16 ≤ cap := by omega
  have r8 : ¬ cap = 8 := by omega
  have hrb := rb_part (by rw [hln]; exact hc) 8 8 (cap - 8) (by rw [hln]; omega)
  have hl8 : (sub l 8 8).length ≤ 8 := by rw [sub_len (by omega)]; omega
  have Hl8 := hid hl8
  have Hb8 : Hid (P.Bytes (sub l 8 8)) := hid ((hb.drop 8).take 8)
  have Hrb := hid hrb
  have Hz := hid hz
  clear hl8 hrb hc hln h2 h3 hkz hz hb
  simp only [Nat.add_zero] at c0
  by_cases hbig : 65536 < z
  · clear hfit
    go_enter func182, ntmps182
    go_wp2_with (fail)
    go_quiet ((go_at_call 232; exact Calls.quiet_of_same (get_w Hz.out (Hrb.out.below (below_drewN (below_new w _) _)) Hb8.out Hl8.out)))
    have HW1 := hid (below_drewN (below_new w (.cells #[.string ⟨#[]⟩, .int .u32 0, .string ⟨#[]⟩, .int .i64 0, .int .u64 0, .int .i64 0, .bool false, .bool false] 50)) nq)
    have Hz1 : Hid (Box ((w.alloc (.cells #[.string ⟨#[]⟩, .int .u32 0, .string ⟨#[]⟩, .int .i64 0, .int .u64 0, .int .i64 0, .bool false, .bool false] 50)).drewN nq) w.heap.size ⟨#[]⟩ ⟨#[]⟩ 0 0 0 0 false false) := hid (zero_box w)
    have Hf1 : Hid (∀ j, ((w.alloc (.cells #[.string ⟨#[]⟩, .int .u32 0, .string ⟨#[]⟩, .int .i64 0, .int .u64 0, .int .i64 0, .bool false, .bool false] 50)).drewN nq).frozen? ⟨w.heap.size, j, none⟩ = false) := hid (fun j => by simp [go_sem])
    generalize (w.alloc (.cells #[.string ⟨#[]⟩, .int .u32 0, .string ⟨#[]⟩, .int .i64 0, .int .u64 0, .int .i64 0, .bool false, .bool false] 50)).drewN nq = W1 at *
    have c0w := (HW1.out.cell (p := ⟨bk, o, none⟩) hobk).trans c0
    obtain ⟨z0, z1, z2, z3, z4, z5, z6, z7, zl⟩ := Hz1.out
    have f0 := Hf1.out 0
    have f1 := Hf1.out 1
    have f2 := Hf1.out 2
    have f3 := Hf1.out 3
    have f4 := Hf1.out 4
    have f5 := Hf1.out 5
    have f6 := Hf1.out 6
    have f7 := Hf1.out 7
    go_wp2_with (fail)
    exact ret_item rfl rfl rfl (box_set Hz1.out) (decPost_no Hr.out (below_set8 HW1.out (Nat.le_refl _)))
  · have hf : (n : Int) - 40 < (kz : Int) + z := by omega
    clear hfit
    go_enter func182, ntmps182
    go_wp2_with (fail)
    go_quiet ((go_at_call 232; exact Calls.quiet_of_same (get_w Hz.out (Hrb.out.below (below_drewN (below_new w _) _)) Hb8.out Hl8.out)))
    have HW1 := hid (below_drewN (below_new w (.cells #[.string ⟨#[]⟩, .int .u32 0, .string ⟨#[]⟩, .int .i64 0, .int .u64 0, .int .i64 0, .bool false, .bool false] 50)) nq)
    have Hz1 : Hid (Box ((w.alloc (.cells #[.string ⟨#[]⟩, .int .u32 0, .string ⟨#[]⟩, .int .i64 0, .int .u64 0, .int .i64 0, .bool false, .bool false] 50)).drewN nq) w.heap.size ⟨#[]⟩ ⟨#[]⟩ 0 0 0 0 false false) := hid (zero_box w)
    have Hf1 : Hid (∀ j, ((w.alloc (.cells #[.string ⟨#[]⟩, .int .u32 0, .string ⟨#[]⟩, .int .i64 0, .int .u64 0, .int .i64 0, .bool false, .bool false] 50)).drewN nq).frozen? ⟨w.heap.size, j, none⟩ = false) := hid (fun j => by simp [go_sem])
    generalize (w.alloc (.cells #[.string ⟨#[]⟩, .int .u32 0, .string ⟨#[]⟩, .int .i64 0, .int .u64 0, .int .i64 0, .bool false, .bool false] 50)).drewN nq = W1 at *
    have c0w := (HW1.out.cell (p := ⟨bk, o, none⟩) hobk).trans c0
    obtain ⟨z0, z1, z2, z3, z4, z5, z6, z7, zl⟩ := Hz1.out
    have f0 := Hf1.out 0
    have f1 := Hf1.out 1
    have f2 := Hf1.out 2
    have f3 := Hf1.out 3
    have f4 := Hf1.out 4
    have f5 := Hf1.out 5
    have f6 := Hf1.out 6
    have f7 := Hf1.out 7
    go_wp2_with (fail)
    exact ret_item rfl rfl rfl (box_set Hz1.out) (decPost_no Hr.out (below_set8 HW1.out (Nat.le_refl _)))
theorem decode_all (l : List Int) (a : Option Addr) (n cap : Nat) (w : World) (hr : RB w (.slice a n cap) l) (hcap : n ≤ cap) (hcm : cap ≤ maxLen) (hb : P.Bytes l) :
    Calls prog 182 #[.slice a n cap] w (DecPost l w) := by
  obtain ⟨a', cap', e, hc⟩ := hr
  simp only [Value.slice.injEq] at e
  obtain ⟨rfl, hln, rfl⟩ := e
  by_cases h40 : n < 40
  · exact decode_len _ _ _ l w hln.symm h40
  obtain ⟨bk, o, rfl, hcc⟩ := hc (by intro h; rw [h] at hln; simp at hln; omega)
  rw [← hln] at hcc
  by_cases hbits : (3 : Int) < l[1]?.getD 0 ∨ l[2]?.getD 0 ≠ 0 ∨ l[3]?.getD 0 ≠ 0
  · exact decode_bits bk o n cap l w hln.symm (by omega) hcap hcm hb hcc hbits
  have h1 : l[1]?.getD 0 ≤ 3 := by omega
  have h2 : l[2]?.getD 0 = 0 := by omega
  have h3 : l[3]?.getD 0 = 0 := by omega
  obtain ⟨kz, hkz⟩ := Int.eq_ofNat_of_zero_le (hb.at 0).1
  obtain ⟨vz, hvz⟩ := Int.eq_ofNat_of_zero_le (P.num_bound _ ((hb.drop 8).take 8)).1
  have hx : (if cap = 40 then (some ⟨bk, o, none⟩ : Option Addr) else some ⟨bk, o + 40, none⟩) = some ⟨bk, if cap = 40 then o else o + 40, none⟩ := by split <;> rfl
  by_cases hfit : (65536 : Int) < vz ∨ (n : Int) - 40 < (kz : Int) + vz
  · exact decode_fit bk o n cap kz _ vz l w hln.symm (by omega) hcap hcm hb hcc h1 h2 h3 hx hkz hvz hfit
  generalize hxx : (if cap = 40 then o else o + 40) = x at hx
  have hy : (if cap - 40 = kz then (some ⟨bk, x, none⟩ : Option Addr) else some ⟨bk, x + kz, none⟩) = some ⟨bk, if cap - 40 = kz then x else x + kz, none⟩ := by split <;> rfl
  refine decode_head bk o n cap kz vz x _ l w hln.symm (by omega) hcap hcm hb hcc h1 h2 h3 hx hy ?_ ?_ hkz hvz (by omega) (by omega)
  · by_cases h : cap = 40
    · exact .inl (by omega)
    · exact .inr (by rw [← hxx, if_neg h])
  · by_cases h : cap = 40
    · exact .inl (by omega)
    · rw [if_neg h] at hxx
      by_cases h' : cap - 40 = kz
      · exact .inl (by omega)
      · exact .inr (by rw [if_neg h', ← hxx]; omega)
end Go.Proofs.YtboehbfagnocpaaGreatDoor.I8
