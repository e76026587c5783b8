/- Tnx, Tny. -/
import Derived.Test.YtboehbfagnocpaaGreatDoorUbl
set_option linter.unusedVariables false
set_option linter.unusedSimpArgs false
set_option maxRecDepth 100000
open Go.Proofs.Tryz
open Go.Lib (hid)
namespace Go.Proofs.YtboehbfagnocpaaGreatDoor
open Go.RowKit Go.PlainAid Go.Shelf
open PM (Cd An Sd Vl)
theorem line_first {b : ByteArray} {pre tail : List UInt8} (hb : W2.P.sl b = pre ++ 10 :: tail) (h10 : (10 : UInt8) ∉ pre) : W2.lineT b = W2.P.mk (Lib.trimSuffix pre [13]) ∧ W2.lineN b = (pre.length + 1 : Nat) := by
  have hm : (10 : UInt8) ∈ W2.P.sl b := by rw [hb]; simp
  have hu : W2.P.upto 10 (W2.P.sl b) = pre := by rw [hb]; exact (W2.P.upto_yes h10).1
  unfold W2.lineT W2.lineN
  rw [if_pos hm, if_pos hm, hu]
  exact ⟨rfl, rfl⟩
theorem rqf_of {b : ByteArray} {pre tail : List UInt8} {ln nm : ByteArray} {n : Nat} (hb : W2.P.sl b = pre ++ 10 :: tail) (h10 : (10 : UInt8) ∉ pre) (hl : W2.P.mk (Lib.trimSuffix pre [13]) = ln) (hn : pre.length + 1 = n) (hsz : b.size ≤ 2000)
    (htr : Lib.trimLeftB ln.data.toList 32 = ln.data.toList) (hnm : W2.P.mk (W2.P.upto 32 (W2.P.sl ln)) = nm) (hnm2 : ¬ (nm.size : Int) = 2) (hl2 : ln.size ≤ 2000) : RqF b ln nm n := by
  obtain ⟨h1, h2⟩ := line_first hb h10
  have hlen : b.size = pre.length + 1 + tail.length := by
    have := congrArg List.length hb
    rw [W2.P.sl_len] at this
    simp at this
    omega
  refine ⟨by rw [h1, hl], by rw [h2, hn], by omega, by omega, hsz, hl2, fun w => ?_, ?_, hnm2⟩
  · have h3 := Tryz.strings_TrimLeft_one ln 32 (by decide) w
    rw [htr] at h3
    exact h3
  · unfold W2.cutV
    rw [hnm]
    exact ⟨_, _, rfl⟩
theorem ext_app (a c : ByteArray) : (a ++ c).extract a.size (a ++ c).size = c := by
  refine ByteArray.ext (Array.toList_inj.1 ?_)
  rw [ByteArray.data_extract, ByteArray.size_append, ByteArray.data_append, Array.toList_extract, Array.toList_append]
  have h1 : a.size = a.data.toList.length := rfl
  have h2 : c.size = c.data.toList.length := rfl
  rw [h1, h2, List.extract_eq_take_drop]
  simp
  exact List.take_of_length_le (Nat.le_of_eq h2.symm)
theorem made_beside {r row : Res} {w w' : World} (hr : r.R w) (m : Made row w w') : Turn r (many [r, row]) w w' := (((Hav.start hr).made m).perm (.swap _ _ _)).shut
theorem nx_get {key : ByteArray} {kc : UInt8} (hkd : key = ⟨#[kc]⟩) (hkb : W2.keyB key = true) (h10 : (10 : UInt8) ∉ [103, 101, 116, 32, kc, 13]) (hw : (W2.P.words ⟨#[103, 101, 116, 32, kc]⟩).map W2.P.mk = [⟨#[103, 101, 116]⟩, ⟨#[kc]⟩])
    (htr : Lib.trimLeftB [103, 101, 116, 32, kc] 32 = [103, 101, 116, 32, kc]) (hsf : Lib.trimSuffix [103, 101, 116, 32, kc, 13] [13] = [103, 101, 116, 32, kc]) (hup : W2.P.upto 32 [103, 101, 116, 32, kc] = [103, 101, 116]) : Nx key .get := by
  subst hkd
  refine ⟨fun rest out c w hz ho h => ?_⟩
  obtain ⟨R, hR⟩ : ∃ R, txS ⟨#[kc]⟩ rest = R := ⟨_, rfl⟩
  have hb : txS ⟨#[kc]⟩ (.get :: rest) = ⟨#[103, 101, 116, 32, kc, 13, 10]⟩ ++ R := by
    show txC ⟨#[kc]⟩ .get ++ txS ⟨#[kc]⟩ rest = _
    rw [hR]; rfl
  rw [hb] at h hz ⊢
  rw [hR]
  obtain ⟨b, hbb⟩ : ∃ b, (⟨#[103, 101, 116, 32, kc, 13, 10]⟩ ++ R : ByteArray) = b := ⟨_, rfl⟩
  have hsl : W2.P.sl b = [103, 101, 116, 32, kc, 13] ++ 10 :: R.data.toList := by rw [← hbb]; unfold W2.P.sl; rw [ByteArray.data_append]; simp
  have hsz : b.size = 7 + R.size := by rw [← hbb, ByteArray.size_append]; rfl
  have hex : b.extract (7 + 0) b.size = R := by rw [← hbb]; exact ext_app _ R
  rw [hbb] at h hz ⊢
  have hrq : RqF b ⟨#[103, 101, 116, 32, kc]⟩ ⟨#[103, 101, 116]⟩ 7 := rqf_of hsl h10 (by rw [hsf]; rfl) rfl hz htr (by show W2.P.mk (W2.P.upto 32 [103, 101, 116, 32, kc]) = _; rw [hup]; rfl) (by decide) (by show (5 : Nat) ≤ 2000; decide)
  have hnx := next_of (used := 0) (row := fun cb cc => rowAt (.slice (some ⟨cb, 0, none⟩) 1 cc) 56 16 1 (cdM ⟨#[kc]⟩ .get).vs.toList) h ho hz (by omega) (fun W => cparse_of hrq (fun W => parse_of (used := 0) (ws := [⟨#[kc]⟩]) (name := ⟨#[103, 101, 116]⟩) hrq.lt hrq.ln' (by decide) (by omega) hz (by show (5 : Nat) ≤ 2000; decide) (by decide) hw (Nat.le_refl 1) (fun V lb wb cap hl hws => by
    have h0 := cA hl 0
    have h1 := cA hl 1
    have h4 := cA hl 4
    have hk := hws 0 _ rfl
    refine read_get (wb := wb) (cap := cap) hl h0 (fun V' hb' => ?_)
    have hl' := Res.keep _ hl (Tch.of_below (fun _ => False) hb') (fun _ _ x => x)
    refine (get_one (cA hl' 0) (cA hl' 1) (cA hl' 4) ((hb'.cell (p := ⟨wb, 1, none⟩) (cell_lt hk)).trans hk) hkb (by show (1 : Nat) ≤ 250; decide)).mono ?_
    rintro e w' ⟨cb, cc, rfl, m⟩
    exact ⟨cb, cc, rfl, made_beside hl' m⟩) W) W)
  rw [hex] at hnx
  exact hnx
theorem nx_get_k : Nx ⟨#[107]⟩ .get := nx_get (kc := 107) rfl (by decide +kernel) (by decide) (by decide +kernel) (by decide +kernel) (by decide +kernel) (by decide +kernel)
end Go.Proofs.YtboehbfagnocpaaGreatDoor
