/- what stands around the walks of Decode. -/
import Derived.Test.YtiammgeahogdoaaV
namespace Go.Proofs.Ytiammgeahogdoaa
open Go.RowKit Go.PlainAid
set_option linter.unusedVariables false
set_option linter.unusedSimpArgs false

def DecPost (l : List Int) (w : World) (e : Ending) (w' : World) : Prop := e = .returned (.tuple #[itV (decR l), .int .i64 (decE l)]) ∧ Below w.heap.size w w'

theorem set_other (w : World) (g i j : Nat) (u : Value) (h : i ≠ j) : (w.setCell ⟨g, i, none⟩ u).cell? ⟨g, j, none⟩ = w.cell? ⟨g, j, none⟩ := by simp [go_sem, h]
theorem set_same (w : World) (g i : Nat) (u v : Value) (h : w.cell? ⟨g, i, none⟩ = some v) : (w.setCell ⟨g, i, none⟩ u).cell? ⟨g, i, none⟩ = some u := World.cell?_setCell_same' _ _ _ (by rw [h]; rfl)

theorem box_set {w : World} {g : Nat} {k v : ByteArray} {fl ex ca la : Int} {st wo : Bool} {k0 v0 : ByteArray} {fl0 ex0 ca0 la0 : Int} {st0 wo0 : Bool} (h : Box w g k0 v0 fl0 ex0 ca0 la0 st0 wo0) :
    Box ((((((((w.setCell ⟨g, 0, none⟩ (.string k)).setCell ⟨g, 1, none⟩ (.int .u32 fl)).setCell ⟨g, 2, none⟩ (.string v)).setCell ⟨g, 3, none⟩ (.int .i64 ex)).setCell ⟨g, 4, none⟩ (.int .u64 ca)).setCell ⟨g, 5, none⟩ (.int .i64 la)).setCell ⟨g, 6, none⟩ (.bool st)).setCell ⟨g, 7, none⟩ (.bool wo)) g k v fl ex ca la st wo := by
  obtain ⟨h0, h1, h2, h3, h4, h5, h6, h7, h8⟩ := h
  refine ⟨?_, ?_, ?_, ?_, ?_, ?_, ?_, ?_, by simpa [World.setCell] using h8⟩
  · iterate 7 rw [set_other _ _ _ _ _ (by decide)]
    exact set_same _ _ _ _ _ h0
  · iterate 6 rw [set_other _ _ _ _ _ (by decide)]
    exact set_same _ _ _ _ (.int .u32 fl0) (by rw [set_other _ _ _ _ _ (by decide)]; exact h1)
  · iterate 5 rw [set_other _ _ _ _ _ (by decide)]
    exact set_same _ _ _ _ (.string v0) (by iterate 2 rw [set_other _ _ _ _ _ (by decide)]
                                            exact h2)
  · iterate 4 rw [set_other _ _ _ _ _ (by decide)]
    exact set_same _ _ _ _ (.int .i64 ex0) (by iterate 3 rw [set_other _ _ _ _ _ (by decide)]
                                               exact h3)
  · iterate 3 rw [set_other _ _ _ _ _ (by decide)]
    exact set_same _ _ _ _ (.int .u64 ca0) (by iterate 4 rw [set_other _ _ _ _ _ (by decide)]
                                               exact h4)
  · iterate 2 rw [set_other _ _ _ _ _ (by decide)]
    exact set_same _ _ _ _ (.int .i64 la0) (by iterate 5 rw [set_other _ _ _ _ _ (by decide)]
                                               exact h5)
  · iterate 1 rw [set_other _ _ _ _ _ (by decide)]
    exact set_same _ _ _ _ (.bool st0) (by iterate 6 rw [set_other _ _ _ _ _ (by decide)]
                                           exact h6)
  · exact set_same _ _ _ _ (.bool wo0) (by iterate 7 rw [set_other _ _ _ _ _ (by decide)]
                                           exact h7)

theorem below_set8 {B : Nat} {a w : World} (h : Below B a w) {g : Nat} (hg : B ≤ g) {u0 u1 u2 u3 u4 u5 u6 u7 : Value} :
    Below B a ((((((((w.setCell ⟨g, 0, none⟩ u0).setCell ⟨g, 1, none⟩ u1).setCell ⟨g, 2, none⟩ u2).setCell ⟨g, 3, none⟩ u3).setCell ⟨g, 4, none⟩ u4).setCell ⟨g, 5, none⟩ u5).setCell ⟨g, 6, none⟩ u6).setCell ⟨g, 7, none⟩ u7) :=
  (((((((h.setCell hg _).setCell hg _).setCell hg _).setCell hg _).setCell hg _).setCell hg _).setCell hg _).setCell hg _

theorem ret_item {fn : Func} (hres : fn.results = #[.cell 2 25, .tmp 3]) {R : Ending → World → Prop} {tmps : Array Value} {W : World} {g : Nat} {k v : ByteArray} {fl ex ca la er : Int} {st wo : Bool}
    (h2 : tmps.getD 2 undef = .pointer (some ⟨g, 0, none⟩)) (h3 : tmps.getD 3 undef = .int .i64 er) (hb : Box W g k v fl ex ca la st wo)
    (hR : R (.returned (.tuple #[.agg #[.string k, .int .u32 fl, .string v, .int .i64 ex, .int .u64 ca, .int .i64 la, .bool st, .bool wo], .int .i64 er])) W) :
    bodyPost Try.prog fn R .ret { tmps := tmps, defers := [] } W := by
  obtain ⟨x0, x1, x2, x3, x4, x5, x6, x7, _⟩ := hb
  refine bodyPost_ret (v := .tuple #[.agg #[.string k, .int .u32 fl, .string v, .int .i64 ex, .int .u64 ca, .int .i64 la, .bool st, .bool wo], .int .i64 er]) ?_ rfl hR
  have h2' : tmps[2]?.getD undef = .pointer (some ⟨g, 0, none⟩) := by simpa using h2
  have h3' : tmps[3]?.getD undef = .int .i64 er := by simpa using h3
  simp [results, hres, go_sem, h2', h3', x0, x1, x2, x3, x4, x5, x6, x7]

theorem dec_head {l : List Int} {n kz vz : Nat} (hln : l.length = n) (hn : 40 ≤ n) (h1 : l[1]?.getD 0 ≤ 3) (h2 : l[2]?.getD 0 = 0) (h3 : l[3]?.getD 0 = 0) (hkz : l[0]?.getD 0 = (kz : Int)) (hvz : P.num (sub l 8 8) = (vz : Int)) (hv : vz ≤ 65536) (hfit : kz + vz ≤ n - 40) :
    headOk l = true ∧ decKz l = kz ∧ decVz l = vz := by
  have e1 : decKz l = kz := by unfold decKz; rw [hkz]; rfl
  have e2 : decVz l = vz := by unfold decVz; rw [hvz]; rfl
  refine ⟨?_, e1, e2⟩
  unfold headOk
  refine decide_eq_true ⟨by omega, h1, h2, h3, by omega, by omega⟩
theorem dec_refused {l : List Int} (h : headOk l = false) : decR l = noIt ∧ decE l = 9 := by
  have : decOk l = false := by unfold decOk; rw [h]; rfl
  unfold decR decE; rw [this]; exact ⟨rfl, rfl⟩

def stOf (c : Int) : Bool := bits .and .u8 c 1 != 0
def woOf (c : Int) : Bool := bits .and .u8 c 2 != 0
theorem bits_of {c : Int} (h0 : 0 ≤ c) (h3 : c ≤ 3) : (bits .and .u8 c 1 != 0) = decide (c % 2 = 1) ∧ (bits .and .u8 c 2 != 0) = decide (c / 2 = 1) := by
  have : c = 0 ∨ c = 1 ∨ c = 2 ∨ c = 3 := by omega
  rcases this with rfl | rfl | rfl | rfl <;> decide

theorem dec_item {l : List Int} {kz vz : Nat} {sK sV : ByteArray} (hb : P.Bytes l) (hk : decKz l = kz) (hv : decVz l = vz) (h1 : l[1]?.getD 0 ≤ 3) (hsK : sK = strOfNums ((l.drop 40).take kz)) (hsV : sV = strOfNums ((l.drop (40 + kz)).take vz)) :
    decI l = ⟨sK, sV, P.num ((l.drop 4).take 4) % 4294967296, wrap64 (P.num ((l.drop 16).take 8)), P.num ((l.drop 24).take 8), wrap64 (P.num ((l.drop 32).take 8)), bits .and .u8 (l[1]?.getD 0) 1 != 0, bits .and .u8 (l[1]?.getD 0) 2 != 0⟩ := by
  have hb4 := P.num_bound _ ((hb.drop 4).take 4)
  have hp : (256 : Int) ^ ((l.drop 4).take 4).length ≤ 256 ^ 4 := P.pow_le (by simp; omega)
  have e4 : (256 : Int) ^ 4 = 4294967296 := by decide
  have hbb := bits_of (hb.at 1).1 h1
  rw [hbb.1, hbb.2, hsK, hsV]
  unfold decI sub
  rw [hk, hv, show P.num ((l.drop 4).take 4) % 4294967296 = P.num ((l.drop 4).take 4) by omega]

theorem dec_done {l : List Int} {n kz vz : Nat} {sK sV : ByteArray} {b : Bool} (hln : l.length = n) (hn : 40 ≤ n) (hb : P.Bytes l) (h1 : l[1]?.getD 0 ≤ 3) (h2 : l[2]?.getD 0 = 0) (h3 : l[3]?.getD 0 = 0) (hkz : l[0]?.getD 0 = (kz : Int)) (hvz : P.num ((l.drop 8).take 8) = (vz : Int)) (hv : vz ≤ 65536) (hfit : kz + vz ≤ n - 40)
    (hsK : sK = strOfNums ((l.drop 40).take kz)) (hsV : sV = strOfNums ((l.drop (40 + kz)).take vz))
    (hr : rightB sK sV (wrap64 (P.num ((l.drop 16).take 8))) (wrap64 (P.num ((l.drop 32).take 8))) = b) :
    if b = true then decR l = ⟨sK, sV, P.num ((l.drop 4).take 4) % 4294967296, wrap64 (P.num ((l.drop 16).take 8)), P.num ((l.drop 24).take 8), wrap64 (P.num ((l.drop 32).take 8)), bits .and .u8 (l[1]?.getD 0) 1 != 0, bits .and .u8 (l[1]?.getD 0) 2 != 0⟩ ∧ decE l = 0
    else decR l = noIt ∧ decE l = 9 := by
  obtain ⟨a1, a2, a3⟩ := dec_head hln hn h1 h2 h3 hkz hvz hv hfit
  have hI := dec_item hb a2 a3 h1 hsK hsV
  have hok : decOk l = b := by unfold decOk; rw [a1, hI, ← hr]; rfl
  unfold decR decE
  rw [hok]
  cases b
  · exact ⟨rfl, rfl⟩
  · exact ⟨hI, rfl⟩
theorem decPost_no {l : List Int} {w W : World} (h : decR l = noIt ∧ decE l = 9) (hb : Below w.heap.size w W) :
    DecPost l w (.returned (.tuple #[.agg #[.string ⟨#[]⟩, .int .u32 0, .string ⟨#[]⟩, .int .i64 0, .int .u64 0, .int .i64 0, .bool false, .bool false], .int .i64 9])) W := ⟨by rw [h.1, h.2]; rfl, hb⟩
theorem decPost_yes {l : List Int} {w W : World} {k v : ByteArray} {fl ex ca la : Int} {st wo : Bool} (h : decR l = ⟨k, v, fl, ex, ca, la, st, wo⟩ ∧ decE l = 0) (hb : Below w.heap.size w W) :
    DecPost l w (.returned (.tuple #[.agg #[.string k, .int .u32 fl, .string v, .int .i64 ex, .int .u64 ca, .int .i64 la, .bool st, .bool wo], .int .i64 0])) W := ⟨by rw [h.1, h.2]; rfl, hb⟩
end Go.Proofs.Ytiammgeahogdoaa
