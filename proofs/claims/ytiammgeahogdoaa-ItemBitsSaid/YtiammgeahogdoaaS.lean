/- copies of texts into rows of bytes. -/
import Derived.Test.YtiammgeahogdoaaD
import Derived.Laws.CopyOwn
import Derived.Lib.AppendStr
namespace Go.Proofs.Ytiammgeahogdoaa
open Go.RowKit Go.PlainAid
set_option linter.unusedVariables false
set_option linter.unusedSimpArgs false

/-- a text's bytes -/
def strB (s : ByteArray) : List Int := s.data.toList.map (fun b => (b.toNat : Int))
theorem strB_len (s : ByteArray) : (strB s).length = s.size := by simp [strB]
theorem strB_cells (s : ByteArray) : (strB s).map (Value.int .u8) = Lib.strCells s := by simp [strB, Lib.strCells]
theorem strB_bytes (s : ByteArray) : P.Bytes (strB s) := by
  intro x hx
  obtain ⟨b, _, rfl⟩ := List.mem_map.1 hx
  have := b.toNat_lt
  omega

theorem size5 : (Try.prog.info? 5).map (·.size) = some 1 := by kernel_rfl
theorem extract_all (s : ByteArray) : s.extract 0 s.size = s := by simp

/-- copy of a text into a row of the call's own -/
theorem run_copy_str (w : World) (g off N cap base : Nat) (xs : List Int) (s : ByteArray) (dLen dCap : Nat) (ty : TypeId) (hown : w.ownsRow base 5 1 (.slice (some ⟨g, 0, none⟩) N cap) N (xs.map (.int .u8)))
    (hfit : off + s.size ≤ N) (hd : s.size ≤ dLen) :
    ∃ w', (Builtin.copy_ #[27, 9] ty #[.slice (some ⟨g, off, none⟩) dLen dCap, .string s]).run Try.prog w = .ok (goInt s.size) w' ∧
      w'.ownsRow base 5 1 (.slice (some ⟨g, 0, none⟩) N cap) N ((P.splice xs off (strB s)).map (.int .u8)) ∧ Below base w w' := by
  obtain ⟨i0, hi, hz0, hz1, hz2⟩ := info_parts Try.info5
  have hlen := hown.1
  rcases hown.2 with ⟨h, _⟩ | ⟨g', cap', cur, h, hbg, hg, hnc, hcm, hcs, htake⟩
  · simp at h
  · simp only [Value.slice.injEq, Option.some.injEq, Addr.mk.injEq, and_true, true_and] at h
    obtain ⟨rfl, rfl⟩ := h
    have hcl : (Lib.strCells s).length = s.size := Lib.strCells_length s
    have hst := run_storeCells_at Try.prog g off 5 (Lib.strCells s) 0 cur w hg (by rw [Nat.add_zero, hcl]; omega) (Lib.strCells_oneCell s)
    simp only [Nat.add_zero] at hst
    refine ⟨w.setRow g (cur.toList.take off ++ Lib.strCells s ++ cur.toList.drop (off + (Lib.strCells s).length)).toArray, ?_, ⟨?_, .inr ⟨g, cap, _, rfl, hbg, setRow_heap w g cur _ 5 _ hg, hnc, hcm, ?_, ?_⟩⟩, ?_⟩
    · have hmin : Nat.min s.size dLen = s.size := Nat.min_eq_left hd
      have ht : List.take s.size (List.map (fun b => Value.int .u8 (b.toNat : Int)) s.data.toList) = Lib.strCells s := List.take_of_length_le (by simp)
      rw [List.append_assoc] at hst
      simp [Builtin.copy_, run_underlying Try.underlying27, Builtin.lenOf, Builtin.firstCells, sizeOf, typeInfo, hi, hmin, ht, hst]
    · rw [List.length_map, P.splice_len _ _ _ (by rw [strB_len]; simp at hlen; omega)]; simpa using hlen
    · simp [hcl]; omega
    · have hA : cur.toList = xs.map (Value.int .u8) ++ cur.toList.drop N := by
        rw [← htake, Nat.mul_one, List.take_append_drop]
      have hlx : (xs.map (Value.int .u8)).length = N := by simpa using hlen
      have hlx' : xs.length = N := by simpa using hlx
      rw [hcl]
      generalize cur.toList.drop N = R at hA
      have t1 : (xs.map (Value.int .u8) ++ R).take off = (xs.map (Value.int .u8)).take off := List.take_append_of_le_length (by omega)
      have t2 : (xs.map (Value.int .u8) ++ R).drop (off + s.size) = (xs.map (Value.int .u8)).drop (off + s.size) ++ R := List.drop_append_of_le_length (by omega)
      have e : (xs.map (Value.int .u8)).take off ++ Lib.strCells s ++ ((xs.map (Value.int .u8)).drop (off + s.size) ++ R) = (P.splice xs off (strB s)).map (Value.int .u8) ++ R := by
        simp [P.splice, strB_cells, strB_len, List.append_assoc]
      rw [hA, t1, t2, e, Nat.mul_one, List.take_append_of_le_length (by rw [List.length_map, P.splice_len _ _ _ (by rw [strB_len]; omega)]; omega)]
      exact List.take_of_length_le (by rw [List.length_map, P.splice_len _ _ _ (by rw [strB_len]; omega)]; omega)
    · exact ⟨rfl, rfl, rfl, by simp, fun i hi => setRow_other w g i _ (by omega)⟩

theorem run_copy_str0 (w : World) (s : ByteArray) (a : Option Addr) (dLen dCap : Nat) (ty : TypeId) (h0 : s.size = 0) :
    (Builtin.copy_ #[27, 9] ty #[.slice a dLen dCap, .string s]).run Try.prog w = .ok (goInt 0) w := by
  obtain ⟨i0, hi, hz0, hz1, hz2⟩ := info_parts Try.info5
  have hex : ((s.extract 0 0).data.map fun b => Value.int .u8 (b.toNat : Int)) = #[] := by
    have : (s.extract 0 0) = ByteArray.empty := by simp
    rw [this]; simp
  cases a <;> simp [Builtin.copy_, run_underlying Try.underlying27, Builtin.lenOf, Builtin.firstCells, sizeOf, typeInfo, hi, h0, hex, storeCells]

end Go.Proofs.Ytiammgeahogdoaa
