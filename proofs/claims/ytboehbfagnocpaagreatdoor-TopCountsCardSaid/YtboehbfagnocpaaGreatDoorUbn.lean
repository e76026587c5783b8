/- Tni. -/
import Derived.Test.YtboehbfagnocpaaGreatDoorUbm
set_option linter.unusedVariables false
set_option linter.unusedSimpArgs false
set_option maxRecDepth 100000
open Go.Proofs.Tryz
open Go.Lib (hid)
namespace Go.Proofs.YtboehbfagnocpaaGreatDoor
open Go.RowKit Go.PlainAid Go.Shelf
open PM (Cd An Sd Vl)
theorem ba_loop (b : ByteArray) : ∀ (n i : Nat) (r : List UInt8), b.size - i = n → ByteArray.toList.loop b i r = r.reverse ++ b.data.toList.drop i := by
  intro n
  induction n with
  | zero =>
    intro i r h
    rw [ByteArray.toList.loop, if_neg (by omega), List.drop_of_length_le (by show b.data.toList.length ≤ i; have : b.data.toList.length = b.size := rfl; omega), List.append_nil]
  | succ n ih =>
    intro i r h
    have hi : i < b.data.toList.length := by have : b.data.toList.length = b.size := rfl; omega
    rw [ByteArray.toList.loop, if_pos (by omega), ih (i + 1) _ (by omega), List.drop_eq_getElem_cons hi, List.reverse_cons, List.append_assoc]
    congr 1
    rw [List.singleton_append]
    congr 1
    have hi' : i < b.data.size := hi
    show b.data[i]! = _
    rw [getElem!_pos b.data i hi']
    simp
theorem ba_list (b : ByteArray) : b.toList = b.data.toList := by
  unfold ByteArray.toList
  rw [ba_loop b b.size 0 [] rfl]
  simp
theorem dd_not {n : Nat} {c : UInt8} (hc : ∀ d, d < 10 → UInt8.ofNat (48 + d) ≠ c) : c ∉ Lib.decDigits n := fun h => by
  obtain ⟨d, hd, e⟩ := dd_mem h
  exact hc d hd e.symm
theorem dd_ne (n : Nat) : Lib.decDigits n ≠ [] := fun e => by
  have h1 := Lib.decDigits_length n
  rw [e] at h1
  have := Lib.nDigits_pos n
  simp at h1
  omega
theorem dec_last (n : Nat) : ((dec n).toList == [110, 111, 114, 101, 112, 108, 121]) = false := by
  rw [ba_list, dec_list]
  have h : ¬ Lib.decDigits n = [110, 111, 114, 101, 112, 108, 121] := fun e => dd_not (n := n) (c := 110) (by decide) (by rw [e]; exact .head _)
  simpa using h
theorem nx_incr {key : ByteArray} {kc : UInt8} {d : Nat} (hkd : key = ⟨#[kc]⟩) (hkb : W2.keyB key = true) (hk1 : kc ≠ 32) (hk2 : kc ≠ 10) (hd : d < 18446744073709551616) : Nx key (.incr d) := by
  subst hkd
  refine ⟨fun rest out c w hz ho h => ?_⟩
  obtain ⟨R, hR⟩ : ∃ R, txS ⟨#[kc]⟩ rest = R := ⟨_, rfl⟩
  obtain ⟨D, hD⟩ : ∃ D, Lib.decDigits d = D := ⟨_, rfl⟩
  have hdD : (dec d).data.toList = D := by rw [dec_list, hD]
  have n32 : (32 : UInt8) ∉ D := by rw [← hD]; exact dd_not (by decide)
  have n10 : (10 : UInt8) ∉ D := by rw [← hD]; exact dd_not (by decide)
  have hDne : D ≠ [] := by rw [← hD]; exact dd_ne d
  have hDl : D.length ≤ 20 := by rw [← hD, Lib.decDigits_length]; exact nd_le hd
  obtain ⟨ln, hln⟩ : ∃ ln : ByteArray, W2.P.mk ([105, 110, 99, 114, 32, kc, 32] ++ D) = ln := ⟨_, rfl⟩
  have hlnl : ln.data.toList = [105, 110, 99, 114, 32, kc, 32] ++ D := by rw [← hln]; simp [W2.P.mk]
  have hlns : ln.size = 7 + D.length := by rw [← hln, W2.P.mk_size]; simp; omega
  have htx : txC ⟨#[kc]⟩ (.incr d) = ln ++ ⟨#[13, 10]⟩ := by
    refine ByteArray.ext (Array.toList_inj.1 ?_)
    show (⟨#[105, 110, 99, 114, 32]⟩ ++ (⟨#[kc]⟩ : ByteArray) ++ ⟨#[32]⟩ ++ dec d ++ crlf).data.toList = _
    simp only [ByteArray.data_append, Array.toList_append, hdD, hlnl, crlf]
    simp
  have hb : txS ⟨#[kc]⟩ (.incr d :: rest) = (ln ++ ⟨#[13, 10]⟩) ++ R := by
    show txC ⟨#[kc]⟩ (.incr d) ++ txS ⟨#[kc]⟩ rest = _
    rw [hR, htx]
  rw [hb] at h hz ⊢
  rw [hR]
  obtain ⟨b, hbb⟩ : ∃ b, ((ln ++ ⟨#[13, 10]⟩) ++ R : ByteArray) = b := ⟨_, rfl⟩
  have hsl : W2.P.sl b = ([105, 110, 99, 114, 32, kc, 32] ++ D ++ [13]) ++ 10 :: R.data.toList := by rw [← hbb]; unfold W2.P.sl; rw [ByteArray.data_append, ByteArray.data_append, Array.toList_append, Array.toList_append, hlnl]; simp
  have hpl : (ln ++ ⟨#[13, 10]⟩ : ByteArray).size = 9 + D.length := by rw [ByteArray.size_append, hlns]; show 7 + D.length + 2 = _; omega
  have hsz : b.size = 9 + D.length + R.size := by rw [← hbb, ByteArray.size_append, hpl]
  have hex : b.extract (9 + D.length + 0) b.size = R := by
    rw [← hbb, Nat.add_zero, ← hpl]
    exact ext_app _ R
  rw [hbb] at h hz ⊢
  have h10 : (10 : UInt8) ∉ [105, 110, 99, 114, 32, kc, 32] ++ D ++ [13] := by
    intro hm
    rcases List.mem_append.1 hm with hm | hm
    · rcases List.mem_append.1 hm with hm | hm
      · simp only [List.mem_cons, List.not_mem_nil, or_false] at hm
        rcases hm with hm | hm | hm | hm | hm | hm | hm
        · exact absurd hm (by decide)
        · exact absurd hm (by decide)
        · exact absurd hm (by decide)
        · exact absurd hm (by decide)
        · exact absurd hm (by decide)
        · exact hk2 hm.symm
        · exact absurd hm (by decide)
      · exact n10 hm
    · exact absurd (List.mem_singleton.1 hm) (by decide)
  have hsf : Lib.trimSuffix ([105, 110, 99, 114, 32, kc, 32] ++ D ++ [13]) [13] = [105, 110, 99, 114, 32, kc, 32] ++ D := by
    unfold Lib.trimSuffix Lib.hasSuffix
    rw [if_pos (List.isSuffixOf_iff_suffix.2 (List.suffix_append _ _))]
    simp
  have htr : Lib.trimLeftB ln.data.toList 32 = ln.data.toList := by
    rw [hlnl]
    rfl
  have hwd : (W2.P.words ln).map W2.P.mk = [⟨#[105, 110, 99, 114]⟩, ⟨#[kc]⟩, dec d] := by
    have e1 : W2.P.sl ln = [105, 110, 99, 114] ++ 32 :: ([kc] ++ 32 :: D) := by unfold W2.P.sl; rw [hlnl]; simp
    unfold W2.P.words
    rw [e1, W2.P.go_blank, W2.P.go_blank, W2.P.go_one (by decide) (by decide), W2.P.go_one (by simpa using fun e => hk1 e.symm) (by simp), W2.P.go_one n32 hDne]
    show [W2.P.mk _, W2.P.mk _, W2.P.mk _] = _
    rw [show W2.P.mk D = dec d from by rw [← hD]; rfl]
    rfl
  have hup : W2.P.upto 32 (W2.P.sl ln) = [105, 110, 99, 114] := by
    have e1 : W2.P.sl ln = [105, 110, 99, 114] ++ 32 :: ([kc] ++ 32 :: D) := by unfold W2.P.sl; rw [hlnl]; simp
    rw [e1]
    exact (W2.P.upto_yes (by decide)).1
  have hrq : RqF b ln ⟨#[105, 110, 99, 114]⟩ (9 + D.length) := rqf_of hsl h10 (by rw [hsf, hln]) (by simp; omega) hz htr (by rw [hup]; rfl) (by decide) (by omega)
  have hnx := next_of (used := 0) (row := fun cb cc => rowAt (.slice (some ⟨cb, 0, none⟩) 1 cc) 56 16 1 (cdM ⟨#[kc]⟩ (.incr d)).vs.toList) h ho hz (by omega) (fun W => cparse_of hrq (fun W => parse_of (used := 0) (ws := [⟨#[kc]⟩, dec d]) (name := ⟨#[105, 110, 99, 114]⟩) hrq.lt hrq.ln' (by omega) (by omega) hz (by omega) (by decide) hwd (by show 1 ≤ 2; decide) (fun V lb wb cap hl hws => by
    have h0 := cA hl 0
    refine read_incr (wb := wb) (cap := cap) hl h0 (fun V' hb' => ?_)
    have hl' := Res.keep _ hl (Tch.of_below (fun _ => False) hb') (fun _ _ x => x)
    exact plain_incr (lb := lb) (wb := wb) (cap := cap) hl' (fun i y hy => (hb'.cell (p := ⟨wb, 1 + i, none⟩) (cell_lt (hws i y hy))).trans (hws i y hy)) (dec_dg hd) (pb_dec hd) hkb (by show (1 : Nat) ≤ 250; decide) (dec_last d)) W) W)
  rw [hex] at hnx
  exact hnx
end Go.Proofs.YtboehbfagnocpaaGreatDoor
