/- Tnx, Tny, Tnz, Tnk, Tua, Tub, Tam, Twf, Tld, Twa, Twk, Twl, Tpk, Tcf, Twp, Tev, Top, Thv, Ttn. -/
import Derived.Test.YtboehbfagnocpaaGreatDoorVbo
import Derived.Test.YtboehbfagnocpaaGreatDoorVba
import Derived.Test.YtboehbfagnocpaaGreatDoorVai
import Derived.Test.YtboehbfagnocpaaGreatDoorVah
import Derived.Test.YtboehbfagnocpaaGreatDoorVak
import Derived.Test.YtboehbfagnocpaaGreatDoorVao
import Derived.Test.YtboehbfagnocpaaGreatDoorVbn
import Derived.Test.YtboehbfagnocpaaGreatDoorVap
import Derived.Test.YtboehbfagnocpaaGreatDoorVbb
import Derived.Test.YtboehbfagnocpaaGreatDoorVaz
import Derived.Test.YtboehbfagnocpaaGreatDoorVaa
import Derived.Test.YtboehbfagnocpaaGreatDoorVaf
import Derived.Test.YtboehbfagnocpaaGreatDoorVay
set_option linter.unusedVariables false
set_option linter.unusedSimpArgs false
set_option maxRecDepth 100000
namespace Go.Proofs.YtboehbfagnocpaaGreatDoor
open Go.RowKit Go.PlainAid Go.Shelf
open PM (Cd An Sd Vl)
theorem line_first {b : ByteArray} {pre tail : List UInt8} (hb : W2.P.sl b = pre ++ 10 :: tail) (h10 : (10 : UInt8) ∉ pre) : W2.lineT b = W2.P.mk (Lib.trimSuffix pre [13]) ∧ W2.lineN b = (pre.length + 1 : Nat) := by
  have hm : (10 : UInt8) ∈ W2.P.sl b := by rw [hb]; simp
  have hu : W2.P.upto 10 (W2.P.sl b) = pre := by rw [hb]; exact (W2.P.upto_yes h10).1
  unfold W2.lineT W2.lineN
  rw [if_pos hm, if_pos hm, hu]
  exact ⟨rfl, rfl⟩
theorem rqf_of {b : ByteArray} {pre tail : List UInt8} {ln nm : ByteArray} {n : Nat} (hb : W2.P.sl b = pre ++ 10 :: tail) (h10 : (10 : UInt8) ∉ pre) (hl : W2.P.mk (Lib.trimSuffix pre [13]) = ln) (hn : pre.length + 1 = n) (hsz : b.size ≤ 2000)
    (htr : Lib.trimLeftB ln.data.toList 32 = ln.data.toList) (hnm : W2.P.mk (W2.P.upto 32 (W2.P.sl ln)) = nm) (hnm2 : ¬ (nm.size : Int) = 2) (hl2 : ln.size ≤ 2000) : RqF b ln nm n := by
  obtain ⟨h1, h2⟩ := line_first hb h10
  have hlen : b.size = pre.length + 1 + tail.length := by
    have := congrArg List.length hb
    rw [W2.P.sl_len] at this
    simp at this
    omega
  refine ⟨by rw [h1, hl], by rw [h2, hn], by omega, by omega, hsz, hl2, fun w => ?_, ?_, hnm2⟩
  · have h3 := Tryz.strings_TrimLeft_one ln 32 (by decide) w
    rw [htr] at h3
    exact h3
  · unfold W2.cutV
    rw [hnm]
    exact ⟨_, _, rfl⟩
end Go.Proofs.YtboehbfagnocpaaGreatDoor
namespace Go.Proofs.YtboehbfagnocpaaGreatDoor
open Go.RowKit Go.PlainAid Go.Shelf
open PM (Cd An Sd Vl)
theorem ext_app (a c : ByteArray) : (a ++ c).extract a.size (a ++ c).size = c := by
  refine ByteArray.ext (Array.toList_inj.1 ?_)
  rw [ByteArray.data_extract, ByteArray.size_append, ByteArray.data_append, Array.toList_extract, Array.toList_append]
  have h1 : a.size = a.data.toList.length := rfl
  have h2 : c.size = c.data.toList.length := rfl
  rw [h1, h2, List.extract_eq_take_drop]
  simp
  exact List.take_of_length_le (Nat.le_of_eq h2.symm)
theorem made_beside {r row : Res} {w w' : World} (hr : r.R w) (m : Made row w w') : Turn r (many [r, row]) w w' := (((Hav.start hr).made m).perm (.swap _ _ _)).shut
theorem nx_get {key : ByteArray} {kc : UInt8} (hkd : key = ⟨#[kc]⟩) (hkb : W2.keyB key = true) (h10 : (10 : UInt8) ∉ [103, 101, 116, 32, kc, 13]) (hw : (W2.P.words ⟨#[103, 101, 116, 32, kc]⟩).map W2.P.mk = [⟨#[103, 101, 116]⟩, ⟨#[kc]⟩])
    (htr : Lib.trimLeftB [103, 101, 116, 32, kc] 32 = [103, 101, 116, 32, kc]) (hsf : Lib.trimSuffix [103, 101, 116, 32, kc, 13] [13] = [103, 101, 116, 32, kc]) (hup : W2.P.upto 32 [103, 101, 116, 32, kc] = [103, 101, 116]) : Nx key .get := by
  subst hkd
  refine ⟨fun rest out c w hz ho h => ?_⟩
  obtain ⟨R, hR⟩ : ∃ R, txS ⟨#[kc]⟩ rest = R := ⟨_, rfl⟩
  have hb : txS ⟨#[kc]⟩ (.get :: rest) = ⟨#[103, 101, 116, 32, kc, 13, 10]⟩ ++ R := by
    show txC ⟨#[kc]⟩ .get ++ txS ⟨#[kc]⟩ rest = _
    rw [hR]; rfl
  rw [hb] at h hz ⊢
  rw [hR]
  obtain ⟨b, hbb⟩ : ∃ b, (⟨#[103, 101, 116, 32, kc, 13, 10]⟩ ++ R : ByteArray) = b := ⟨_, rfl⟩
  have hsl : W2.P.sl b = [103, 101, 116, 32, kc, 13] ++ 10 :: R.data.toList := by rw [← hbb]; unfold W2.P.sl; rw [ByteArray.data_append]; simp
  have hsz : b.size = 7 + R.size := by rw [← hbb, ByteArray.size_append]; rfl
  have hex : b.extract (7 + 0) b.size = R := by rw [← hbb]; exact ext_app _ R
  rw [hbb] at h hz ⊢
  have hrq : RqF b ⟨#[103, 101, 116, 32, kc]⟩ ⟨#[103, 101, 116]⟩ 7 := rqf_of hsl h10 (by rw [hsf]; rfl) rfl hz htr (by show W2.P.mk (W2.P.upto 32 [103, 101, 116, 32, kc]) = _; rw [hup]; rfl) (by decide) (by show (5 : Nat) ≤ 2000; decide)
  have hnx := next_of (used := 0) (row := fun cb cc => rowAt (.slice (some ⟨cb, 0, none⟩) 1 cc) 56 16 1 (cdM ⟨#[kc]⟩ .get).vs.toList) h ho hz (by omega) (fun W => cparse_of hrq (fun W => parse_of (used := 0) (ws := [⟨#[kc]⟩]) (name := ⟨#[103, 101, 116]⟩) hrq.lt hrq.ln' (by decide) (by omega) hz (by show (5 : Nat) ≤ 2000; decide) (by decide) hw (Nat.le_refl 1) (fun V lb wb cap hl hws => by
    have h0 := cells_at hl 0
    have h1 := cells_at hl 1
    have h4 := cells_at hl 4
    have hk := hws 0 _ rfl
    refine read_get (wb := wb) (cap := cap) hl h0 (fun V' hb' => ?_)
    have hl' := Res.keep _ hl (Tch.of_below (fun _ => False) hb') (fun _ _ x => x)
    refine (get_one (cells_at hl' 0) (cells_at hl' 1) (cells_at hl' 4) ((hb'.cell (p := ⟨wb, 1, none⟩) (cell_lt hk)).trans hk) hkb (by show (1 : Nat) ≤ 250; decide)).mono ?_
    rintro e w' ⟨cb, cc, rfl, m⟩
    exact ⟨cb, cc, rfl, made_beside hl' m⟩) W) W)
  rw [hex] at hnx
  exact hnx
theorem nx_get_k : Nx ⟨#[107]⟩ .get := nx_get (kc := 107) rfl (by decide +kernel) (by decide) (by decide +kernel) (by decide +kernel) (by decide +kernel) (by decide +kernel)
end Go.Proofs.YtboehbfagnocpaaGreatDoor
namespace Go.Proofs.YtboehbfagnocpaaGreatDoor
open Go.RowKit Go.PlainAid Go.Shelf
open PM (Cd An Sd Vl)
theorem nx_set {key : ByteArray} {kc fc vc : UInt8} {f : Nat} {v : Vl} (hkd : key = ⟨#[kc]⟩) (hkb : W2.keyB key = true) (htx : txC key (.set f v) = ⟨#[115, 101, 116, 32, kc, 32, fc, 32, 48, 32, 49, 13, 10, vc, 13, 10]⟩) (hv : vlB v = ⟨#[vc]⟩)
    (h10 : (10 : UInt8) ∉ [115, 101, 116, 32, kc, 32, fc, 32, 48, 32, 49, 13]) (hw : (W2.P.words ⟨#[115, 101, 116, 32, kc, 32, fc, 32, 48, 32, 49]⟩).map W2.P.mk = [⟨#[115, 101, 116]⟩, ⟨#[kc]⟩, ⟨#[fc]⟩, ⟨#[48]⟩, ⟨#[49]⟩])
    (htr : Lib.trimLeftB [115, 101, 116, 32, kc, 32, fc, 32, 48, 32, 49] 32 = [115, 101, 116, 32, kc, 32, fc, 32, 48, 32, 49]) (hsf : Lib.trimSuffix [115, 101, 116, 32, kc, 32, fc, 32, 48, 32, 49, 13] [13] = [115, 101, 116, 32, kc, 32, fc, 32, 48, 32, 49]) (hup : W2.P.upto 32 [115, 101, 116, 32, kc, 32, fc, 32, 48, 32, 49] = [115, 101, 116])
    (hn : LnN ⟨#[fc]⟩ ⟨#[48]⟩ ⟨#[49]⟩ f 1 0) (hs1 : Lib.hasSuffix [vc, 13, 10] [13, 10] = true) (hs2 : Lib.trimSuffix [vc, 13, 10] [13, 10] = [vc]) : Nx key (.set f v) := by
  subst hkd
  refine ⟨fun rest out c w hz ho h => ?_⟩
  obtain ⟨R, hR⟩ : ∃ R, txS ⟨#[kc]⟩ rest = R := ⟨_, rfl⟩
  have hb : txS ⟨#[kc]⟩ (.set f v :: rest) = ⟨#[115, 101, 116, 32, kc, 32, fc, 32, 48, 32, 49, 13, 10, vc, 13, 10]⟩ ++ R := by
    show txC ⟨#[kc]⟩ (.set f v) ++ txS ⟨#[kc]⟩ rest = _
    rw [hR, htx]
  rw [hb] at h hz ⊢
  rw [hR]
  obtain ⟨b, hbb⟩ : ∃ b, (⟨#[115, 101, 116, 32, kc, 32, fc, 32, 48, 32, 49, 13, 10, vc, 13, 10]⟩ ++ R : ByteArray) = b := ⟨_, rfl⟩
  have hsl : W2.P.sl b = [115, 101, 116, 32, kc, 32, fc, 32, 48, 32, 49, 13] ++ 10 :: ([vc, 13, 10] ++ R.data.toList) := by rw [← hbb]; unfold W2.P.sl; rw [ByteArray.data_append]; simp
  have hsz : b.size = 16 + R.size := by rw [← hbb, ByteArray.size_append]; rfl
  have hex : b.extract (13 + 3) b.size = R := by rw [← hbb]; exact ext_app _ R
  have hbe : b.extract 13 b.size = ⟨#[vc, 13, 10]⟩ ++ R := by
    rw [← hbb, show (⟨#[115, 101, 116, 32, kc, 32, fc, 32, 48, 32, 49, 13, 10, vc, 13, 10]⟩ ++ R : ByteArray) = ⟨#[115, 101, 116, 32, kc, 32, fc, 32, 48, 32, 49, 13, 10]⟩ ++ (⟨#[vc, 13, 10]⟩ ++ R) from ByteArray.ext (by rw [ByteArray.data_append, ByteArray.data_append, ByteArray.data_append, ← Array.append_assoc]; rfl)]
    exact ext_app _ _
  have hb3 : ((⟨#[vc, 13, 10]⟩ ++ R : ByteArray).extract 0 (1 + 2)).data.toList = [vc, 13, 10] := by
    rw [ByteArray.data_extract, ByteArray.data_append, Array.toList_extract, Array.toList_append, List.extract_eq_take_drop]
    simp
  rw [hbb] at h hz ⊢
  have hrq : RqF b ⟨#[115, 101, 116, 32, kc, 32, fc, 32, 48, 32, 49]⟩ ⟨#[115, 101, 116]⟩ 13 := rqf_of hsl h10 (by rw [hsf]; rfl) rfl hz htr (by show W2.P.mk (W2.P.upto 32 [115, 101, 116, 32, kc, 32, fc, 32, 48, 32, 49]) = _; rw [hup]; rfl) (by decide) (by show (11 : Nat) ≤ 2000; decide)
  have hnx := next_of (used := 3) (row := fun cb cc => rowAt (.slice (some ⟨cb, 0, none⟩) 1 cc) 56 16 1 (cdM ⟨#[kc]⟩ (.set f v)).vs.toList) h ho hz (by omega) (fun W => cparse_of hrq (fun W => parse_of (used := 3) (ws := [⟨#[kc]⟩, ⟨#[fc]⟩, ⟨#[48]⟩, ⟨#[49]⟩]) (name := ⟨#[115, 101, 116]⟩) hrq.lt hrq.ln' (by decide) (by omega) hz (by show (11 : Nat) ≤ 2000; decide) (by decide) hw (by show 1 ≤ 4; decide) (fun V lb wb cap hl hws => by
    have h0 := cells_at hl 0
    refine read_set (wb := wb) (cap := cap) hl h0 (fun V' hb' => ?_)
    have hl' := Res.keep _ hl (Tch.of_below (fun _ => False) hb') (fun _ _ x => x)
    rw [hbe] at hl' ⊢
    refine (store_set (lb := lb) (wb := wb) (cap := cap) hl' (fun i y hy => (hb'.cell (p := ⟨wb, 1 + i, none⟩) (cell_lt (hws i y hy))).trans (hws i y hy)) hn hkb (by show (1 : Nat) ≤ 250; decide) (by decide +kernel) (by rw [ByteArray.size_append]; show 3 ≤ 3 + R.size; omega) (by rw [ByteArray.size_append]; show 3 + R.size ≤ 100000; omega) (by rw [hb3]; exact hs1)).mono ?_
    rintro e w' ⟨g, rfl, t⟩
    rw [hb3, hs2] at t
    refine ⟨g, 1, rfl, ?_⟩
    have e1 : (cdM ⟨#[kc]⟩ (.set f v)).vs = ({ cm0 with op := 2, key := ⟨#[kc]⟩, flags := f, exp := 0, value := ⟨[vc].toArray⟩, recache := -1 } : Cm).vs := by
      unfold cdM
      dsimp only
      rw [hv]
      rfl
    rw [e1]
    exact t) W) W)
  rw [hex] at hnx
  exact hnx
theorem nx_cas {key : ByteArray} {kc vc : UInt8} {v : Vl} (hkd : key = ⟨#[kc]⟩) (hkb : W2.keyB key = true) (htx : txC key (.cas 1 v) = ⟨#[99, 97, 115, 32, kc, 32, 48, 32, 48, 32, 49, 32, 49, 13, 10, vc, 13, 10]⟩) (hv : vlB v = ⟨#[vc]⟩)
    (h10 : (10 : UInt8) ∉ [99, 97, 115, 32, kc, 32, 48, 32, 48, 32, 49, 32, 49, 13]) (hw : (W2.P.words ⟨#[99, 97, 115, 32, kc, 32, 48, 32, 48, 32, 49, 32, 49]⟩).map W2.P.mk = [⟨#[99, 97, 115]⟩, ⟨#[kc]⟩, ⟨#[48]⟩, ⟨#[48]⟩, ⟨#[49]⟩, ⟨#[49]⟩])
    (htr : Lib.trimLeftB [99, 97, 115, 32, kc, 32, 48, 32, 48, 32, 49, 32, 49] 32 = [99, 97, 115, 32, kc, 32, 48, 32, 48, 32, 49, 32, 49]) (hsf : Lib.trimSuffix [99, 97, 115, 32, kc, 32, 48, 32, 48, 32, 49, 32, 49, 13] [13] = [99, 97, 115, 32, kc, 32, 48, 32, 48, 32, 49, 32, 49]) (hup : W2.P.upto 32 [99, 97, 115, 32, kc, 32, 48, 32, 48, 32, 49, 32, 49] = [99, 97, 115])
    (hn : LnN ⟨#[48]⟩ ⟨#[48]⟩ ⟨#[49]⟩ 0 1 0) (htk : Dg ⟨#[49]⟩ 20) (hpt : Lib.parseUintB 64 [49] = .ok 1) (hs1 : Lib.hasSuffix [vc, 13, 10] [13, 10] = true) (hs2 : Lib.trimSuffix [vc, 13, 10] [13, 10] = [vc]) : Nx key (.cas 1 v) := by
  subst hkd
  refine ⟨fun rest out c w hz ho h => ?_⟩
  obtain ⟨R, hR⟩ : ∃ R, txS ⟨#[kc]⟩ rest = R := ⟨_, rfl⟩
  have hb : txS ⟨#[kc]⟩ (.cas 1 v :: rest) = ⟨#[99, 97, 115, 32, kc, 32, 48, 32, 48, 32, 49, 32, 49, 13, 10, vc, 13, 10]⟩ ++ R := by
    show txC ⟨#[kc]⟩ (.cas 1 v) ++ txS ⟨#[kc]⟩ rest = _
    rw [hR, htx]
  rw [hb] at h hz ⊢
  rw [hR]
  obtain ⟨b, hbb⟩ : ∃ b, (⟨#[99, 97, 115, 32, kc, 32, 48, 32, 48, 32, 49, 32, 49, 13, 10, vc, 13, 10]⟩ ++ R : ByteArray) = b := ⟨_, rfl⟩
  have hsl : W2.P.sl b = [99, 97, 115, 32, kc, 32, 48, 32, 48, 32, 49, 32, 49, 13] ++ 10 :: ([vc, 13, 10] ++ R.data.toList) := by rw [← hbb]; unfold W2.P.sl; rw [ByteArray.data_append]; simp
  have hsz : b.size = 18 + R.size := by rw [← hbb, ByteArray.size_append]; rfl
  have hex : b.extract (15 + 3) b.size = R := by rw [← hbb]; exact ext_app _ R
  have hbe : b.extract 15 b.size = ⟨#[vc, 13, 10]⟩ ++ R := by
    rw [← hbb, show (⟨#[99, 97, 115, 32, kc, 32, 48, 32, 48, 32, 49, 32, 49, 13, 10, vc, 13, 10]⟩ ++ R : ByteArray) = ⟨#[99, 97, 115, 32, kc, 32, 48, 32, 48, 32, 49, 32, 49, 13, 10]⟩ ++ (⟨#[vc, 13, 10]⟩ ++ R) from ByteArray.ext (by rw [ByteArray.data_append, ByteArray.data_append, ByteArray.data_append, ← Array.append_assoc]; rfl)]
    exact ext_app _ _
  have hb3 : ((⟨#[vc, 13, 10]⟩ ++ R : ByteArray).extract 0 (1 + 2)).data.toList = [vc, 13, 10] := by
    rw [ByteArray.data_extract, ByteArray.data_append, Array.toList_extract, Array.toList_append, List.extract_eq_take_drop]
    simp
  rw [hbb] at h hz ⊢
  have hrq : RqF b ⟨#[99, 97, 115, 32, kc, 32, 48, 32, 48, 32, 49, 32, 49]⟩ ⟨#[99, 97, 115]⟩ 15 := rqf_of hsl h10 (by rw [hsf]; rfl) rfl hz htr (by show W2.P.mk (W2.P.upto 32 [99, 97, 115, 32, kc, 32, 48, 32, 48, 32, 49, 32, 49]) = _; rw [hup]; rfl) (by decide) (by show (13 : Nat) ≤ 2000; decide)
  have hnx := next_of (used := 3) (row := fun cb cc => rowAt (.slice (some ⟨cb, 0, none⟩) 1 cc) 56 16 1 (cdM ⟨#[kc]⟩ (.cas 1 v)).vs.toList) h ho hz (by omega) (fun W => cparse_of hrq (fun W => parse_of (used := 3) (ws := [⟨#[kc]⟩, ⟨#[48]⟩, ⟨#[48]⟩, ⟨#[49]⟩, ⟨#[49]⟩]) (name := ⟨#[99, 97, 115]⟩) hrq.lt hrq.ln' (by decide) (by omega) hz (by show (13 : Nat) ≤ 2000; decide) (by decide) hw (by show 1 ≤ 5; decide) (fun V lb wb cap hl hws => by
    have h0 := cells_at hl 0
    refine read_cas (wb := wb) (cap := cap) hl h0 (fun V' hb' => ?_)
    have hl' := Res.keep _ hl (Tch.of_below (fun _ => False) hb') (fun _ _ x => x)
    rw [hbe] at hl' ⊢
    refine (store_cas (lb := lb) (wb := wb) (cap := cap) hl' (fun i y hy => (hb'.cell (p := ⟨wb, 1 + i, none⟩) (cell_lt (hws i y hy))).trans (hws i y hy)) hn htk hpt hkb (by show (1 : Nat) ≤ 250; decide) (by decide +kernel) (by rw [ByteArray.size_append]; show 3 ≤ 3 + R.size; omega) (by rw [ByteArray.size_append]; show 3 + R.size ≤ 100000; omega) (by rw [hb3]; exact hs1)).mono ?_
    rintro e w' ⟨g, rfl, t⟩
    rw [hb3, hs2] at t
    refine ⟨g, 1, rfl, ?_⟩
    have e1 : (cdM ⟨#[kc]⟩ (.cas 1 v)).vs = ({ cm0 with op := 2, key := ⟨#[kc]⟩, flags := 0, exp := 0, cas := 1, hasCas := true, value := ⟨[vc].toArray⟩, recache := -1 } : Cm).vs := by
      unfold cdM
      dsimp only
      rw [hv]
      rfl
    rw [e1]
    exact t) W) W)
  rw [hex] at hnx
  exact hnx
end Go.Proofs.YtboehbfagnocpaaGreatDoor
namespace Go.Proofs.YtboehbfagnocpaaGreatDoor
open Go.RowKit Go.PlainAid Go.Shelf
open PM (Cd An Sd Vl)
theorem ln0 : LnN ⟨#[48]⟩ ⟨#[48]⟩ ⟨#[49]⟩ 0 1 0 := ⟨⟨by decide +kernel, by decide, by decide⟩, by kernel_rfl, ⟨by decide +kernel, by decide, by decide⟩, by kernel_rfl, ⟨by decide +kernel, by decide, by decide⟩, by decide +kernel, by kernel_rfl, by decide, by decide, by decide, by decide⟩
theorem ln3 : LnN ⟨#[51]⟩ ⟨#[48]⟩ ⟨#[49]⟩ 3 1 0 := ⟨⟨by decide +kernel, by decide, by decide⟩, by kernel_rfl, ⟨by decide +kernel, by decide, by decide⟩, by kernel_rfl, ⟨by decide +kernel, by decide, by decide⟩, by decide +kernel, by kernel_rfl, by decide, by decide, by decide, by decide⟩
theorem nx_set_0 : Nx ⟨#[107]⟩ (.set 0 PM.vV) := nx_set (kc := 107) (fc := 48) (vc := 118) rfl (by decide +kernel) (by decide +kernel) rfl (by decide) (by decide +kernel) (by decide +kernel) (by decide +kernel) (by decide +kernel) ln0 (by decide +kernel) (by decide +kernel)
theorem nx_set_3 : Nx ⟨#[107]⟩ (.set 3 PM.vV) := nx_set (kc := 107) (fc := 51) (vc := 118) rfl (by decide +kernel) (by decide +kernel) rfl (by decide) (by decide +kernel) (by decide +kernel) (by decide +kernel) (by decide +kernel) ln3 (by decide +kernel) (by decide +kernel)
theorem nx_cas_k {c : Nat} (hc : c < 4) : Nx ⟨#[107]⟩ (.cas 1 (.num c)) := by
  rcases (by omega : c = 0 ∨ c = 1 ∨ c = 2 ∨ c = 3) with rfl | rfl | rfl | rfl
  · exact nx_cas (kc := 107) (vc := 48) rfl (by decide +kernel) (by decide +kernel) (by decide +kernel) (by decide) (by decide +kernel) (by decide +kernel) (by decide +kernel) (by decide +kernel) ln0 ln0.dl (by kernel_rfl) (by decide +kernel) (by decide +kernel)
  · exact nx_cas (kc := 107) (vc := 49) rfl (by decide +kernel) (by decide +kernel) (by decide +kernel) (by decide) (by decide +kernel) (by decide +kernel) (by decide +kernel) (by decide +kernel) ln0 ln0.dl (by kernel_rfl) (by decide +kernel) (by decide +kernel)
  · exact nx_cas (kc := 107) (vc := 50) rfl (by decide +kernel) (by decide +kernel) (by decide +kernel) (by decide) (by decide +kernel) (by decide +kernel) (by decide +kernel) (by decide +kernel) ln0 ln0.dl (by kernel_rfl) (by decide +kernel) (by decide +kernel)
  · exact nx_cas (kc := 107) (vc := 51) rfl (by decide +kernel) (by decide +kernel) (by decide +kernel) (by decide) (by decide +kernel) (by decide +kernel) (by decide +kernel) (by decide +kernel) ln0 ln0.dl (by kernel_rfl) (by decide +kernel) (by decide +kernel)
end Go.Proofs.YtboehbfagnocpaaGreatDoor
namespace Go.Proofs.YtboehbfagnocpaaGreatDoor
open Go.RowKit Go.PlainAid
def tE : Value → Option (DataW Unit × List MemPlace)
  | .agg ⟨[.int .i64 a, .int .i64 b]⟩ => if b = 0 then some (.lit (.int .i64 a), []) else none
  | _ => none
theorem tE_val (a : Int) : tE (.agg #[.int .i64 a, .int .i64 0]) = some (.lit (.int .i64 a), []) := rfl
theorem tE_inv {v : Value} {a : Int} {ps : List MemPlace} (h : tE v = some (.lit (.int .i64 a), ps)) : v = .agg #[.int .i64 a, .int .i64 0] := by
  unfold tE at h
  split at h
  · rename_i x y
    split at h
    · rename_i e
      subst e
      simp only [Option.some.injEq, Prod.mk.injEq, DataW.lit.injEq, Lit.int.injEq, true_and] at h
      rw [h.1]
    · cases h
  · cases h
theorem zeroT (w : World) : (zeroValue 321).run Tryz.prog w = .ok (.agg #[.int .i64 0, .int .i64 0]) w := by
  have h : (Tryz.prog.info? 321).map (fun i => i.zero) = some (some (.agg #[.int .i64 0, .int .i64 0])) := by kernel_rfl
  obtain ⟨i, hi, hz⟩ := Option.map_eq_some_iff.1 h
  simp [zeroValue, typeInfo, hi, hz]
def mapT (mb N : Nat) (o : Option Int) : Res where
  R w := ∃ D : DataW Unit, w.ownsMap Tryz.prog 3 tE mb N D ∧ Maps.has D k0 = o.isSome ∧ ∀ v, o = some v → D.atKey k0 (.lit (.int .i64 0)) = .lit (.int .i64 v)
  B x := x = mb
  keep := by
    rintro w w' T ⟨D, ⟨es, clock, h1, h2⟩, hD⟩ ht hd
    exact ⟨D, ⟨es, clock, (ht.block _ (Array.getElem?_eq_some_iff.1 h1).1 (hd _ rfl)).trans h1, h2⟩, hD⟩
  lt := by
    rintro w b ⟨D, ho, _⟩ rfl
    exact ho.lt
theorem mapT_look {w : World} {mb N : Nat} {o : Option Int} (h : (mapT mb N o).R w) :
    (Instr.lookup 244 (.map (some mb)) (.int .i64 0) true).run Tryz.prog w = .ok (.tuple #[.agg #[.int .i64 (o.getD 0), .int .i64 0], .bool o.isSome]) w := by
  obtain ⟨D, ho, hh, hv⟩ := h
  obtain ⟨v, ps, hrun, he⟩ := ho.look_ok keyI Tryz.underlying244 (zeroT w) (tE_val 0) (Maps.keyOf_int_mk Tryz.underlying3 (a := 0) (by decide))
  rw [hrun, show Maps.has D (.int .i64 0) = o.isSome from hh]
  cases o with
  | none =>
    rw [Maps.atKey_of_not_has (show Maps.has D (.int .i64 0) = false from hh)] at he
    rw [tE_inv he]; rfl
  | some x =>
    rw [show D.atKey (.int .i64 0) (.lit (.int .i64 0)) = .lit (.int .i64 x) from hv x rfl] at he
    rw [tE_inv he]; rfl
theorem mapT_put {w : World} {mb N : Nat} {o : Option Int} (h : (mapT mb N o).R w) (v : Int) (hN : N < maxLen) :
    ∃ w', (Instr.mapUpdate 244 (.map (some mb)) (.int .i64 0) (.agg #[.int .i64 v, .int .i64 0])).run Tryz.prog w = .ok () w' ∧ Turn (mapT mb N o) (mapT mb (N + 1) (some v)) w w' := by
  obtain ⟨D, ho, hh, _⟩ := h
  obtain ⟨w', hrun, ho', hg⟩ := ho.update keyI Tryz.underlying244 hN (Maps.keyOf_int_mk Tryz.underlying3 (a := 0) (by decide)) (tE_val v)
  refine ⟨w', hrun, ⟨_, ho', ?_, fun x hx => ?_⟩, (Tch.of_grown hg).mono (fun b hb => by injection hb with hb; exact hb.symm), fun b hb => .inl hb⟩
  · exact Maps.has_put_same ho.isMap (by trivial) _
  · cases hx
    exact Maps.atKey_put_same ho.isMap (by trivial) _ _
theorem mapT_new (w : World) : (mapT w.heap.size 0 none).R (w.alloc (.map #[] 0)) :=
  ⟨.map [], World.ownsMap_made w _ _ _, rfl, fun v h => by cases h⟩
end Go.Proofs.YtboehbfagnocpaaGreatDoor
namespace Go.Proofs.YtboehbfagnocpaaGreatDoor
open Go.RowKit Go.PlainAid
section
variable (st : Int) (ak : ByteArray) (afl : Int) (av : ByteArray) (aca ala num : Int) (w : World)
theorem run_eq_12 (h : ¬ st = 12) :
    (binOp .eql 52 (.agg #[.int .i64 st, .string ak, .int .u32 afl, .string av, .int .i64 0, .int .u64 aca, .int .i64 ala, .bool false, .bool false, .int .u64 num, .bool false, .bool false, .bool false]) (.agg #[.int .i64 12, .string ⟨#[]⟩, .int .u32 0, .string ⟨#[]⟩, .int .i64 0, .int .u64 0, .int .i64 0, .bool false, .bool false, .int .u64 0, .bool false, .bool false, .bool false])).run Tryz.prog w = .ok (.bool false) w := by
  have hp : Tryz.prog.stoodInHeld 52 = false := by kernel_rfl
  have hp2 : Tryz.prog.stoodInHeld 50 = false := by kernel_rfl
  simp only [binOp]
  simp [Op.equal, Op.maxDepth, run_equalIn_struct w _ 52 _ _ Tryz.underlying52 hp, go_sem, h]
theorem run_ne_same :
    (binOp .neq 52 (.agg #[.int .i64 st, .string ak, .int .u32 afl, .string av, .int .i64 0, .int .u64 aca, .int .i64 ala, .bool false, .bool false, .int .u64 num, .bool false, .bool false, .bool false]) (.agg #[.int .i64 st, .string ak, .int .u32 afl, .string av, .int .i64 0, .int .u64 aca, .int .i64 ala, .bool false, .bool false, .int .u64 num, .bool false, .bool false, .bool false])).run Tryz.prog w = .ok (.bool false) w := by
  have hp : Tryz.prog.stoodInHeld 52 = false := by kernel_rfl
  have hp2 : Tryz.prog.stoodInHeld 50 = false := by kernel_rfl
  simp only [binOp]
  simp [Op.equal, Op.maxDepth, run_equalIn_struct w _ 52 _ _ Tryz.underlying52 hp, run_equalIn_struct w _ 50 _ _ Tryz.underlying50 hp2, go_sem, I8.toList_inj]
end
end Go.Proofs.YtboehbfagnocpaaGreatDoor
namespace Go.Proofs.YtboehbfagnocpaaGreatDoor.PM
section
variable {S C A : Type} {step : S → C → S × A} {a0 : A} {s : St S C A} {c : Nat} {x : C}
theorem all_sts (hw : s.wk 0 = none) (hb : s.busy c = false) (hh : s.holder = none) (hq : s.q c = [x]) (ho : s.out c = []) :
    allS step a0 s c 1 = take a0 s 0 c x [] ∧ allS step a0 s c 2 = lock (take a0 s 0 c x []) 0 ⟨c, s.seq c + 1, x, 0, a0⟩ ∧ allS step a0 s c 3 = doit step (lock (take a0 s 0 c x []) 0 ⟨c, s.seq c + 1, x, 0, a0⟩) 0 ⟨c, s.seq c + 1, x, 1, a0⟩ := by
  have e1 : work step a0 s 0 c = (true, take a0 s 0 c x []) := by unfold work; rw [hw, hb, hq]
  have s1 : allS step a0 s c 1 = take a0 s 0 c x [] := by
    show wr (work step a0 s 0 c).2 c = _
    rw [e1]
    unfold wr take
    dsimp only
    rw [upd_self s.out c ho]
  have e2 : work step a0 (allS step a0 s c 1) 0 c = (true, lock (take a0 s 0 c x []) 0 ⟨c, s.seq c + 1, x, 0, a0⟩) := by
    rw [s1]
    unfold work
    simp only [take, upd_same, if_pos, hh, Option.isSome, Bool.false_eq_true, if_false]
  have s2 : allS step a0 s c 2 = lock (take a0 s 0 c x []) 0 ⟨c, s.seq c + 1, x, 0, a0⟩ := by
    show wr (work step a0 (allS step a0 s c 1) 0 c).2 c = _
    rw [e2]
    unfold wr lock take
    dsimp only
    rw [upd_self s.out c ho]
  have e3 : work step a0 (allS step a0 s c 2) 0 c = (true, doit step (lock (take a0 s 0 c x []) 0 ⟨c, s.seq c + 1, x, 0, a0⟩) 0 ⟨c, s.seq c + 1, x, 1, a0⟩) := by
    rw [s2]
    unfold work
    simp only [take, lock, upd_same]
    rfl
  refine ⟨s1, s2, ?_⟩
  show wr (work step a0 (allS step a0 s c 2) 0 c).2 c = _
  rw [e3]
  unfold wr doit lock take
  dsimp only
  rw [upd_self s.out c ho]
theorem all_hd (hw : s.wk 0 = none) (hb : s.busy c = false) (hh : s.holder = none) (hq : s.q c = [x]) (ho : s.out c = []) {k : Nat} (hk : k ≤ 4) {kk : Wk C A} (h : (allS step a0 s c k).wk 0 = some kk) (hp : kk.ph = 1) : (allS step a0 s c k).data = s.data ∧ kk.cmd = x := by
  obtain ⟨s1, s2, s3⟩ := all_sts (step := step) (a0 := a0) hw hb hh hq ho
  have s4 := (all_run (step := step) (a0 := a0) hw hb hh hq ho).2.2.2.1
  rcases (by omega : k = 0 ∨ k = 1 ∨ k = 2 ∨ k = 3 ∨ k = 4) with rfl | rfl | rfl | rfl | rfl
  · replace h : s.wk 0 = some kk := h
    rw [hw] at h; cases h
  · rw [s1] at h
    simp only [take, upd_same] at h
    cases h; cases hp
  · rw [s2] at h ⊢
    simp only [lock, upd_same] at h
    cases h
    exact ⟨rfl, rfl⟩
  · rw [s3] at h
    simp only [doit, upd_same] at h
    cases h; cases hp
  · rw [s4] at h
    replace h : s.wk 0 = some kk := h
    rw [hw] at h; cases h
theorem left_fd {nw nc : Nat} (hc : c < nc) : left nw nc (fd s c x) = left nw nc s + 4 := by
  have h1 := sumTo_upd (fun (l : List C) => 4 * l.length) s.q c (s.q c ++ [x]) hc
  rw [List.length_append, List.length_singleton] at h1
  show sumTo (fun d => 4 * (upd s.q c (s.q c ++ [x]) d).length) nc + sumTo (fun v => rem (s.wk v)) nw = _
  unfold left
  omega
end
end Go.Proofs.YtboehbfagnocpaaGreatDoor.PM
namespace Go.Proofs.YtboehbfagnocpaaGreatDoor
open Go.RowKit Go.PlainAid
section
variable {P : Program} {ops : Array Oper} {Q : Exit → Act → World → Prop} {md : Region.Mode} {S : World → Prop} {z : Nat}
theorem AllReadyE.consB {fuel : Nat} {listed : Array Bool} {a : Act} {w : World} {i : Nat} {o : Oper} {rs : List Nat} (hz : listed.getD z true = true) (ho : ops[i]? = some o)
    (h : ∀ K' : Act → World → Prop, Shut (∀ a w, True → (True → wpAnyE P md ops Q S z fuel (listed.setIfInBounds i true) a w) → K' a w) → if Region.wanted o (yielded ops a.tmps) = true then Oper.wp P o a w K' Q else K' (a.put o.dst undef) w)
    (hs : AllReadyE P md ops Q S z fuel listed a w rs) : AllReadyE P md ops Q S z fuel listed a w (i :: rs) := fun j hj => by
  rcases List.mem_cons.1 hj with rfl | hj
  · exact wpOp_step ho (fun K' hK => h K' (fun a w _ hW => hK a w ⟨fun _ h2 => (by rw [hz] at h2; cases h2), hW trivial⟩))
  · exact hs j hj
theorem wpAnyE_freeB {i : Nat} {oi : Oper} {v : Value} {fuel : Nat} {listed : Array Bool} {a : Act} {w : World} (hiz : i ≠ z) (hzl : listed.getD z true = true) (hi : ops[i]? = some oi)
    (hs : Region.noSelect ops = true) (hf : Region.free md ops listed i = true) (hr : (Region.ready md ops listed).contains i = true)
    (hQ : ∀ c a w, Q (.panic c) (a.put oi.dst v) w → Q (.panic c) a w) (hy : YieldsIf P ops (fun _ => True) oi v a)
    (h : wpAnyE P md ops Q S z fuel (listed.setIfInBounds i true) (a.put oi.dst v) w) : wpAnyE P md ops Q S z (fuel + 1) listed a w :=
  wpAnyE_loose hiz hi (Region.noSelect_spec hs) hQ fuel listed a w (Region.free_spec hi hf) (by simpa using hr) hy (fun h2 => by rw [hzl] at h2; cases h2) h
theorem wgE (i : Nat) {oi : Oper} {v : Value} {fuel : Nat} {listed : Array Bool} {a : Act} {w : World} (hi : ops[i]? = some oi)
    (h : wpAnyE P md ops Q S z fuel (listed.setIfInBounds i true) (a.put oi.dst v) w)
    (hy : ∀ w0, Sem.run P (execOp a.eval oi) w0 = .ok (.value v) w0 := by intro w0; (try simp only [lzA]); go_simp; (try with_reducible rfl))
    (hb : wfB md ops z i listed = true := by as_aux_lemma => kernel_rfl) (hQ : ∀ c a w, Q (.panic c) (a.put oi.dst v) w → Q (.panic c) a w := by exact fun _ _ _ h => h)
    (hw : Region.wanted oi (yielded ops a.tmps) = true := by as_aux_lemma => rfl) (hz : listed.getD z true = true := by as_aux_lemma => kernel_rfl) : wpAnyE P md ops Q S z (fuel + 1) listed a w := by
  simp only [wfB, Bool.and_eq_true, bne_iff_ne, Bool.not_eq_true'] at hb
  obtain ⟨⟨⟨h1, h4⟩, h5⟩, h6⟩ := hb
  exact wpAnyE_freeB h1 hz hi h4 h5 h6 hQ (Or.inl ⟨hw, fun w0 _ => hy w0⟩) h
end
end Go.Proofs.YtboehbfagnocpaaGreatDoor
namespace Go.Proofs.YtboehbfagnocpaaGreatDoor
open Go.RowKit Go.PlainAid Go.Shelf
section
variable {ρ : Operand → Value} {x : Operand} {d : Option Tmp} {ty : TypeId} {ps : String} {af : Array Edge} {gd : Option (Nat × Bool)} {b : Nat} {w : World}
theorem ld_cmd {v0 v1 v2 v3 v4 v5 v6 v7 v8 v9 v10 v11 v12 v13 v14 v15 : Value} (hx : ρ x = .pointer (some ⟨b, 0, none⟩)) (h0 : w.cell? ⟨b, 0, none⟩ = some v0) (h1 : w.cell? ⟨b, 1, none⟩ = some v1) (h2 : w.cell? ⟨b, 2, none⟩ = some v2) (h3 : w.cell? ⟨b, 3, none⟩ = some v3) (h4 : w.cell? ⟨b, 4, none⟩ = some v4) (h5 : w.cell? ⟨b, 5, none⟩ = some v5) (h6 : w.cell? ⟨b, 6, none⟩ = some v6) (h7 : w.cell? ⟨b, 7, none⟩ = some v7) (h8 : w.cell? ⟨b, 8, none⟩ = some v8) (h9 : w.cell? ⟨b, 9, none⟩ = some v9) (h10 : w.cell? ⟨b, 10, none⟩ = some v10) (h11 : w.cell? ⟨b, 11, none⟩ = some v11) (h12 : w.cell? ⟨b, 12, none⟩ = some v12) (h13 : w.cell? ⟨b, 13, none⟩ = some v13) (h14 : w.cell? ⟨b, 14, none⟩ = some v14) (h15 : w.cell? ⟨b, 15, none⟩ = some v15) :
    Sem.run Tryz.prog (execOp ρ { dst := d, op := .load 56 x, type := ty, pos := ps, after := af, guard := gd }) w = .ok (.value (.agg #[v0, v1, v2, v3, v4, v5, v6, v7, v8, v9, v10, v11, v12, v13, v14, v15])) w := by
  go_simp
theorem ld_ans {v0 v1 v2 v3 v4 v5 v6 v7 v8 v9 v10 v11 v12 : Value} (hx : ρ x = .pointer (some ⟨b, 0, none⟩)) (h0 : w.cell? ⟨b, 0, none⟩ = some v0) (h1 : w.cell? ⟨b, 1, none⟩ = some v1) (h2 : w.cell? ⟨b, 2, none⟩ = some v2) (h3 : w.cell? ⟨b, 3, none⟩ = some v3) (h4 : w.cell? ⟨b, 4, none⟩ = some v4) (h5 : w.cell? ⟨b, 5, none⟩ = some v5) (h6 : w.cell? ⟨b, 6, none⟩ = some v6) (h7 : w.cell? ⟨b, 7, none⟩ = some v7) (h8 : w.cell? ⟨b, 8, none⟩ = some v8) (h9 : w.cell? ⟨b, 9, none⟩ = some v9) (h10 : w.cell? ⟨b, 10, none⟩ = some v10) (h11 : w.cell? ⟨b, 11, none⟩ = some v11) (h12 : w.cell? ⟨b, 12, none⟩ = some v12) :
    Sem.run Tryz.prog (execOp ρ { dst := d, op := .load 52 x, type := ty, pos := ps, after := af, guard := gd }) w = .ok (.value (.agg #[v0, v1, v2, v3, v4, v5, v6, v7, v8, v9, v10, v11, v12])) w := by
  go_simp
end
end Go.Proofs.YtboehbfagnocpaaGreatDoor
namespace Go.Proofs.YtboehbfagnocpaaGreatDoor
open Go.RowKit Go.PlainAid Go.Shelf
open SP
open PM (Cd An Sd Vl upd upd_same upd_ne)
def gC (key : ByteArray) (x : Cd) : Prop := PM.cOk x ∧ Nx key x ∧ ∀ d, x ≠ .incr d
def gA (x : Cd) (a : An) : Prop := PM.aOk x a ∧ ∀ d, x ≠ .incr d
abbrev Wj (key : ByteArray) (need : Bool) (nw nc B : Nat) (s : Mac) : Prop := PM.Within (gC key) gA (PM.sOk need B) nw nc B s
section
variable {key : ByteArray} {need : Bool} {nw nc B : Nat} {s : Mac} {wi c : Nat}
theorem Wj.work (h : Wj key need nw nc B s) (hw : wi < nw) : Wj key need nw nc B (PM.work PM.stp PM.an0 s wi c).2 :=
  PM.Within.work (fun s n x hs hx => ⟨(PM.stp_ok s n x hs hx.1).1, (PM.stp_ok s n x hs hx.1).2, hx.2.2⟩) PM.sOk_mono h hw
theorem Wj.of (h : PM.Wi need nw nc B s) (hw : ∀ w, s.wk w = none) (ho : ∀ c, s.out c = []) (hq : ∀ c x, x ∈ s.q c → Nx key x ∧ ∀ d, x ≠ .incr d) : Wj key need nw nc B s :=
  ⟨fun w k hk => absurd hk (by rw [hw]; simp), h.qs, fun c x hx => ⟨h.qc c x hx, hq c x hx⟩, h.qn, h.outs, fun c x hx => absurd hx (by rw [ho]; simp), h.ev, h.seq, h.data⟩
theorem Wj.wr (h : Wj key need nw nc B s) : Wj key need nw nc B (PM.wr s c) := by
  refine ⟨h.who, h.qs, h.qc, h.qn, fun d => ?_, fun d x hx => ?_, h.ev, h.seq, h.data⟩
  · show (upd s.out c [] d).length + PM.left nw nc s ≤ B
    by_cases e : d = c
    · subst e
      rw [upd_same]
      have := h.ev
      simp only [List.length_nil]
      omega
    · rw [upd_ne _ _ e]; exact h.outs d
  · replace hx : x ∈ upd s.out c [] d := hx
    by_cases e : d = c
    · subst e
      rw [upd_same] at hx; cases hx
    · rw [upd_ne _ _ e] at hx; exact h.outa d x hx
theorem Wj.q20 (h : Wj key need nw nc B s) (hB : B ≤ 40) : (s.q c).length ≤ 40 := Nat.le_trans (h.qn c) hB
theorem dec_len (k n : Nat) (h : n < 10 ^ (k + 1)) : (dec n).size ≤ k + 1 := by
  show (Lib.decDigits n).toArray.size ≤ k + 1
  rw [List.size_toArray]
  exact dd_len k n h
theorem txC_size (hk : key.size = 1) {x : Cd} (hx : PM.cOk x) : (txC key x).size ≤ 50 := by
  cases x with
  | get =>
    show ((⟨#[103, 101, 116, 32]⟩ : ByteArray) ++ key ++ crlf).size ≤ 50
    rw [ByteArray.size_append, ByteArray.size_append, hk]
    decide
  | set fl v =>
    have h1 := dec_len 1 fl (by have := hx.1; omega)
    have h2 := vl_size hx.2
    have h3 := dec_len 1 (vlB v).size (by omega)
    show ((⟨#[115, 101, 116, 32]⟩ : ByteArray) ++ key ++ ⟨#[32]⟩ ++ dec fl ++ ⟨#[32, 48, 32]⟩ ++ dec (vlB v).size ++ crlf ++ vlB v ++ crlf).size ≤ 50
    simp only [ByteArray.size_append, hk]
    have e1 : (⟨#[115, 101, 116, 32]⟩ : ByteArray).size = 4 := rfl
    have e2 : (⟨#[32]⟩ : ByteArray).size = 1 := rfl
    have e3 : (⟨#[32, 48, 32]⟩ : ByteArray).size = 3 := rfl
    have e4 : crlf.size = 2 := rfl
    omega
  | cas t v =>
    have h1 := dec_len 6 t (by have := hx.1; omega)
    have h2 := vl_size hx.2
    have h3 := dec_len 1 (vlB v).size (by omega)
    show ((⟨#[99, 97, 115, 32]⟩ : ByteArray) ++ key ++ ⟨#[32, 48, 32, 48, 32]⟩ ++ dec (vlB v).size ++ ⟨#[32]⟩ ++ dec t ++ crlf ++ vlB v ++ crlf).size ≤ 50
    simp only [ByteArray.size_append, hk]
    have e1 : (⟨#[99, 97, 115, 32]⟩ : ByteArray).size = 4 := rfl
    have e2 : (⟨#[32]⟩ : ByteArray).size = 1 := rfl
    have e3 : (⟨#[32, 48, 32, 48, 32]⟩ : ByteArray).size = 5 := rfl
    have e4 : crlf.size = 2 := rfl
    omega
  | incr d =>
    have h1 := dec_len 19 d (by have h : d < 18446744073709551616 := hx; omega)
    show ((⟨#[105, 110, 99, 114, 32]⟩ : ByteArray) ++ key ++ ⟨#[32]⟩ ++ dec d ++ crlf).size ≤ 50
    simp only [ByteArray.size_append, hk]
    have e1 : (⟨#[105, 110, 99, 114, 32]⟩ : ByteArray).size = 5 := rfl
    have e2 : (⟨#[32]⟩ : ByteArray).size = 1 := rfl
    have e4 : crlf.size = 2 := rfl
    omega
theorem txS_size (hk : key.size = 1) : ∀ {l : List Cd}, (∀ x ∈ l, PM.cOk x) → (txS key l).size ≤ 50 * l.length
  | [], _ => Nat.zero_le _
  | x :: l, h => by
    have h1 := txS_size hk (l := l) (fun y hy => h y (.tail _ hy))
    have h2 := txC_size hk (h x (.head _))
    show (txC key x ++ txS key l).size ≤ _
    rw [ByteArray.size_append, List.length_cons]
    omega
theorem Wj.out (h : Wj key need nw nc B s) (hB : B ≤ 200) (hk : key.size = 1) : (rpS key (s.out c)).size ≤ 60000 := by
  have h1 := rpS_size hk (l := s.out c) (fun x hx => h.outa c x hx)
  have h2 := h.outs c
  omega
end
end Go.Proofs.YtboehbfagnocpaaGreatDoor
namespace Go.Proofs.YtboehbfagnocpaaGreatDoor
open Go.RowKit Go.PlainAid Go.Shelf
open SP
open PM (Cd An Sd Vl upd upd_same upd_ne)
section
variable {key : ByteArray} {h : Int} {bk nw ns nc : Nat} {p : Pl} {s s' : Mac} {w w' : World} {c wi : Nat} {need : Bool} {B : Nat}
def WkPost (key : ByteArray) (h : Int) (bk nw ns nc : Nat) (p : Pl) (s : Mac) (wi c : Nat) (w : World) (e : Ending) (w' : World) : Prop :=
  e = .returned (.bool (PM.work PM.stp PM.an0 s wi c).1) ∧ ∃ p' : Pl, p'.b = p.b ∧ StoOk key p'.m (PM.work PM.stp PM.an0 s wi c).2.data ∧
    p'.m.ps.num + PM.left nw nc (PM.work PM.stp PM.an0 s wi c).2 ≤ p.m.ps.num + PM.left nw nc s ∧ Turn (svR key h bk nw ns nc p s) (svR key h bk nw ns nc p' (PM.work PM.stp PM.an0 s wi c).2) w w'
theorem wkp_yes {e : Ending} (hW : Wj key need nw nc B s) (hw : wi < nw) (hwork : PM.work PM.stp PM.an0 s wi c = (true, s')) (he : e = .returned (.bool true))
    (hp : ∃ p' : Pl, p'.b = p.b ∧ p'.m.ps.num ≤ p.m.ps.num + 1 ∧ StoOk key p'.m s'.data ∧ Turn (svR key h bk nw ns nc p s) (svR key h bk nw ns nc p' s') w w') : WkPost key h bk nw ns nc p s wi c w e w' := by
  have hl := PM.left_yes (step := PM.stp) (a0 := PM.an0) (c := c) hW hw (by rw [hwork])
  unfold WkPost
  rw [hwork] at hl ⊢
  obtain ⟨p', h1, h2, h3, h4⟩ := hp
  exact ⟨he, p', h1, h3, by dsimp only at hl ⊢; omega, h4⟩
theorem wkp_no {e : Ending} (hwork : PM.work PM.stp PM.an0 s wi c = (false, s)) (ho : StoOk key p.m s.data) (he : e = .returned (.bool false)) (ht : ∃ p' : Pl, p'.b = p.b ∧ p'.m = p.m ∧ Turn (svR key h bk nw ns nc p s) (svR key h bk nw ns nc p' s) w w') : WkPost key h bk nw ns nc p s wi c w e w' := by
  unfold WkPost
  rw [hwork]
  obtain ⟨p', h1, h2, h3⟩ := ht
  exact ⟨he, p', h1, by rw [h2]; exact ho, by rw [h2]; exact Nat.le_refl _, h3⟩
theorem wtake_ok (hks : key.size = 1) (hR : (svR key h bk nw ns nc p s).R w) (hW : Wj key need nw nc B s) (hB : B ≤ 200) (hq : (s.q c).length ≤ 40) (ho : StoOk key p.m s.data) (hw : wi < nw) (hc : c < nc) (hwk : s.wk wi = none) :
    Calls Tryz.prog 79 #[.pointer (some ⟨p.b, 0, none⟩), .int .i64 wi, .int .i64 c] w (WkPost key h bk nw ns nc p s wi c w) := by
  cases hb : s.busy c with
  | true =>
    refine (take_busy hR hc hb wi).mono (fun e w' hh => ?_)
    exact wkp_no (by unfold PM.work; rw [hwk, hb]) ho hh.1 ⟨p, rfl, rfl, hh.2⟩
  | false =>
    cases hqq : s.q c with
    | nil =>
      refine (take_none hR hc hb hqq (hW.out hB hks) wi).mono (fun e w' hh => ?_)
      exact wkp_no (by unfold PM.work; rw [hwk, hb, hqq]) ho hh.1 ⟨p, rfl, rfl, hh.2⟩
    | cons x rest =>
      have hx : gC key x := hW.qc c x (by rw [hqq]; exact .head _)
      have hsz := txS_size hks (l := x :: rest) (fun y hy => (hW.qc c y (by rw [hqq]; exact hy)).1)
      rw [hqq] at hq
      refine (take_some hx.2.1 hR hc hw hwk hb hqq (hW.out hB hks) (by omega) (by have := hW.seq c; omega)).mono (fun e w' hh => ?_)
      obtain ⟨he, p', h1, h2, h3⟩ := hh
      exact wkp_yes hW hw (by unfold PM.work; rw [hwk, hb, hqq]) he ⟨p', h1, by rw [h2]; omega, by rw [h2]; exact ho, h3⟩
theorem wlock_ok (hk : KeyI key h bk) (hns : ns = 4 ∨ ns = 1) (hR : (svR key h bk nw ns nc p s).R w) (hW : Wj key need nw nc B s) (ho : StoOk key p.m s.data) (hw : wi < nw) {k : PM.Wk Cd An} (hkk : s.wk wi = some k) (hp : k.ph = 0) :
    Calls Tryz.prog 80 #[.pointer (some ⟨p.b, 0, none⟩), .int .i64 wi, .pointer (some ⟨(p.wp wi).b, 0, none⟩)] w (WkPost key h bk nw ns nc p s wi c w) := by
  refine (lock_ok hk hns hR hw hkk hp).mono (fun e w' hh => ?_)
  obtain ⟨he, p', h1, h2, h3⟩ := hh
  cases hh : s.holder with
  | some v =>
    rw [hh] at he h3
    exact wkp_no (by unfold PM.work; rw [hkk]; dsimp only; rw [if_pos hp, hh]; rfl) ho he ⟨p', h1, h2, h3⟩
  | none =>
    rw [hh] at he h3
    exact wkp_yes (s' := PM.lock s wi k) hW hw (by unfold PM.work; rw [hkk]; dsimp only; rw [if_pos hp, hh]; rfl) he ⟨p', h1, by rw [h2]; omega, by rw [h2]; exact ho, h3⟩
def DoIt (key : ByteArray) (h : Int) (bk nw ns nc : Nat) (p : Pl) (s : Mac) (wi : Nat) (k : PM.Wk Cd An) (w : World) (e : Ending) (w' : World) : Prop :=
  e = .returned (.tuple #[]) ∧ ∃ p' : Pl, p'.b = p.b ∧ p'.m.ps.num ≤ p.m.ps.num + 1 ∧ StoOk key p'.m (PM.stp s.data k.cmd).1 ∧ Turn (svR key h bk nw ns nc p s) (svR key h bk nw ns nc p' (PM.doit PM.stp s wi k)) w w'
theorem work_none (hks : key.size = 1) (hR : (svR key h bk nw ns nc p s).R w) (hW : Wj key need nw nc B s) (hB : B ≤ 200) (hq : (s.q c).length ≤ 40) (ho : StoOk key p.m s.data) (hw : wi < nw) (hc : c < nc) (hwk : s.wk wi = none) :
    Calls Tryz.prog 30 #[.pointer (some ⟨p.b, 0, none⟩), .int .i64 wi, .int .i64 c] w (WkPost key h bk nw ns nc p s wi c w) := by
  have HT := Lib.hid (wtake_ok hks hR hW hB hq ho hw hc hwk)
  have H := Hav.open hR
  have a5 : w.cell? ⟨p.b, 5, none⟩ = some (.slice (some ⟨p.wlb, 0, none⟩) nw p.wlc) := cells_at (H.get 0 rfl) 5
  have r0 : w.cell? ⟨p.wlb, wi, none⟩ = some (.pointer none) := by rw [row_at (H.get 2 rfl) wi (by rw [lst_len]; exact hw), lst_get hw]; unfold wkV; rw [hwk]
  have h1 : ¬ (nw : Int) ≤ wi := by omega
  have h2 : (wi : Int) < nw := by omega
  clear H hR hW hB hq ho hc hwk
  go_enter Tryz.func30, Tryz.ntmps30
  go_wp2_with (go_at_call 79; refine HT.out.mono ?_; rintro e w1 ⟨rfl, hh⟩)
  go_ret
  exact ⟨rfl, hh⟩
theorem work_some (hk : KeyI key h bk) (hns : ns = 4 ∨ ns = 1) (hR : (svR key h bk nw ns nc p s).R w) (hW : Wj key need nw nc B s) (hB : B ≤ 200) (ho : StoOk key p.m s.data) (hw : wi < nw) {k : PM.Wk Cd An} (hkk : s.wk wi = some k)
    (HDo : k.ph = 1 → Calls Tryz.prog 81 #[.pointer (some ⟨p.b, 0, none⟩), .pointer (some ⟨(p.wp wi).b, 0, none⟩)] w (DoIt key h bk nw ns nc p s wi k w)) :
    Calls Tryz.prog 30 #[.pointer (some ⟨p.b, 0, none⟩), .int .i64 wi, .int .i64 c] w (WkPost key h bk nw ns nc p s wi c w) := by
  have H := Hav.open hR
  have a5 : w.cell? ⟨p.b, 5, none⟩ = some (.slice (some ⟨p.wlb, 0, none⟩) nw p.wlc) := cells_at (H.get 0 rfl) 5
  have r0 : w.cell? ⟨p.wlb, wi, none⟩ = some (.pointer (some ⟨(p.wp wi).b, 0, none⟩)) := by rw [row_at (H.get 2 rfl) wi (by rw [lst_len]; exact hw), lst_get hw]; unfold wkV; rw [hkk]
  have k15 : w.cell? ⟨(p.wp wi).b, 15, none⟩ = some (.int .i64 k.ph) := cells_at ((sv_wk hR hw hkk).get 0 rfl) 15
  have h1 : ¬ (nw : Int) ≤ wi := by omega
  have h2 : (wi : Int) < nw := by omega
  have hwho := hW.who wi k hkk
  rcases (by have := hwho.2.2.1; omega : k.ph = 0 ∨ k.ph = 1 ∨ k.ph = 2) with hp | hp | hp
  · rw [hp] at k15
    have k15' : w.cell? ⟨(p.wp wi).b, 15, none⟩ = some (.int .i64 0) := k15
    have HT := Lib.hid (wlock_ok (c := c) hk hns hR hW ho hw hkk hp)
    clear k15 H hR hW hB ho hkk HDo hwho hk hns
    go_enter Tryz.func30, Tryz.ntmps30
    go_wp2_with (go_at_call 80; refine HT.out.mono ?_; rintro e w1 ⟨rfl, hh⟩)
    go_ret
    exact ⟨rfl, hh⟩
  · rw [hp] at k15
    have k15' : w.cell? ⟨(p.wp wi).b, 15, none⟩ = some (.int .i64 1) := k15
    have HT := Lib.hid (HDo hp)
    have HF : Hid (∀ w1, (∃ p' : Pl, p'.b = p.b ∧ p'.m.ps.num ≤ p.m.ps.num + 1 ∧ StoOk key p'.m (PM.stp s.data k.cmd).1 ∧ Turn (svR key h bk nw ns nc p s) (svR key h bk nw ns nc p' (PM.doit PM.stp s wi k)) w w1) → WkPost key h bk nw ns nc p s wi c w (.returned (.bool true)) w1) :=
      Lib.hid (fun w1 hh => wkp_yes (s' := PM.doit PM.stp s wi k) hW hw (by unfold PM.work; rw [hkk]; dsimp only; rw [if_neg (by omega), if_pos hp]) rfl hh)
    clear k15 H hR hW hB ho hkk HDo hwho hk hns
    unfold DoIt at HT
    go_enter Tryz.func30, Tryz.ntmps30
    go_wp2_with (go_at_call 81; refine HT.out.mono ?_; rintro e w1 ⟨rfl, hh⟩)
    go_ret
    exact HF.out _ hh
  · rw [hp] at k15
    have k15' : w.cell? ⟨(p.wp wi).b, 15, none⟩ = some (.int .i64 2) := k15
    have hga := hwho.2.2.2.2 hp
    have HT := Lib.hid (leave_ok hk (by rcases hns with rfl | rfl <;> decide) hR hw hkk hp hwho.2.1 hga.1 hga.2 (hW.out hB hk.size))
    have HF : Hid (∀ w1, Turn (svR key h bk nw ns nc p s) (svR key h bk nw ns nc p (PM.leave s wi k)) w w1 → WkPost key h bk nw ns nc p s wi c w (.returned (.bool true)) w1) :=
      Lib.hid (fun w1 hh => wkp_yes (s' := PM.leave s wi k) hW hw (by unfold PM.work; rw [hkk]; dsimp only; rw [if_neg (by omega), if_neg (by omega)]) rfl ⟨p, rfl, by omega, ho, hh⟩)
    clear k15 H hR hW hB ho hkk HDo hwho hk hns hga
    go_enter Tryz.func30, Tryz.ntmps30
    go_wp2_with (go_at_call 82; refine HT.out.mono ?_; rintro e w1 ⟨rfl, hh⟩)
    go_ret
    exact HF.out _ hh
end
end Go.Proofs.YtboehbfagnocpaaGreatDoor
namespace Go.Proofs.YtboehbfagnocpaaGreatDoor
open Go.RowKit Go.PlainAid Go.Shelf
open SP
open PM (Cd An Sd Vl upd upd_same upd_ne)
section
variable {key : ByteArray} {h : Int} {bk nw ns nc : Nat} {p : Pl} {s t : Mac} {w w' : World} {c wi N B : Nat} {need : Bool} {x : Cd}
def DoAll (key : ByteArray) (h : Int) (bk nw ns nc : Nat) : Prop := ∀ (p : Pl) (s : Mac) (w : World) (wi : Nat) (k : PM.Wk Cd An), (svR key h bk nw ns nc p s).R w → wi < nw → s.wk wi = some k → k.ph = 1 → StoOk key p.m s.data → p.m.ps.num ≤ 1000000 → s.data.tok < 1000000 →
  (∀ y, s.data.it = some y → PM.ItG s.data.tok y) → PM.cOk k.cmd → (s.data.it = none → ∃ fl v, k.cmd = .set fl v) → (∀ d, k.cmd ≠ .incr d) → s.ev.length ≤ 1000 →
  Calls Tryz.prog 81 #[.pointer (some ⟨p.b, 0, none⟩), .pointer (some ⟨(p.wp wi).b, 0, none⟩)] w (DoIt key h bk nw ns nc p s wi k w)
def Sat (key : ByteArray) (h : Int) (bk nw ns nc : Nat) (p : Pl) (s : Mac) (w : World) (N : Nat) (t : Mac) (w' : World) : Prop :=
  ∃ p' : Pl, p'.b = p.b ∧ StoOk key p'.m t.data ∧ p'.m.ps.num + PM.left nw nc t ≤ N ∧ Turn (svR key h bk nw ns nc p s) (svR key h bk nw ns nc p' t) w w'
theorem Sat.below {w'' : World} (hs : Sat key h bk nw ns nc p s w N t w') (hb : Below w'.heap.size w' w'') : Sat key h bk nw ns nc p s w N t w'' := by
  obtain ⟨p', h1, h2, h3, h4⟩ := hs
  exact ⟨p', h1, h2, h3, h4.below hb⟩
theorem Sat.le {M : Nat} (hs : Sat key h bk nw ns nc p s w N t w') (hm : N ≤ M) : Sat key h bk nw ns nc p s w M t w' := by
  obtain ⟨p', h1, h2, h3, h4⟩ := hs
  exact ⟨p', h1, h2, by omega, h4⟩
theorem Sat.work (hk : KeyI key h bk) (hns : ns = 4 ∨ ns = 1) (hDo : DoAll key h bk nw ns nc) (hS : Sat key h bk nw ns nc p s w N t w') (hW : Wj key need nw nc B t) (hB : B ≤ 200) (hq : (t.q c).length ≤ 40) (hN : N ≤ 1000000) (hw : wi < nw) (hc : c < nc)
    (hd : ∀ k, t.wk wi = some k → k.ph = 1 → t.data.it = none → ∃ fl v, k.cmd = .set fl v) :
    Calls Tryz.prog 30 #[.pointer (some ⟨p.b, 0, none⟩), .int .i64 wi, .int .i64 c] w' fun e w'' => e = .returned (.bool (PM.work PM.stp PM.an0 t wi c).1) ∧ Sat key h bk nw ns nc p s w N (PM.work PM.stp PM.an0 t wi c).2 w'' := by
  obtain ⟨p', h1, h2, h3, h4⟩ := hS
  have hP : Calls Tryz.prog 30 #[.pointer (some ⟨p'.b, 0, none⟩), .int .i64 wi, .int .i64 c] w' (WkPost key h bk nw ns nc p' t wi c w') := by
    cases hwk : t.wk wi with
    | none => exact work_none hk.size h4.here hW hB hq h2 hw hc hwk
    | some k =>
      refine work_some hk hns h4.here hW hB h2 hw hwk (fun hp => ?_)
      have hwho := hW.who wi k hwk
      have hdat := hW.data
      exact hDo p' t w' wi k h4.here hw hwk hp h2 (by omega) (by have := hdat.1; omega) (fun y hy => hdat.2.2 y hy) hwho.2.2.2.1.1 (hd k hwk hp) hwho.2.2.2.1.2.2 (by have := hW.ev; omega)
  rw [h1] at hP
  refine hP.mono (fun e w'' hh => ?_)
  obtain ⟨g1, p'', g2, g3, g4, g5⟩ := hh
  exact ⟨g1, p'', g2.trans h1, g3, by omega, h4.trans g5⟩
theorem Sat.write {n : Int} (hS : Sat key h bk nw ns nc p s w N t w') (hc : c < nc) (hn : ((rpS key (t.out c)).size : Int) ≤ n) :
    Calls Tryz.prog 29 #[.pointer (some ⟨p.b, 0, none⟩), .int .i64 c, .int .i64 n] w' fun e w'' => e = .returned (.string (rpS key (t.out c))) ∧ Sat key h bk nw ns nc p s w N (PM.wr t c) w'' := by
  obtain ⟨p', h1, h2, h3, h4⟩ := hS
  have hP := swrite_ok h4.here hc hn
  rw [h1] at hP
  exact hP.mono (fun e w'' hh => ⟨hh.1, p', h1, h2, h3, h4.trans hh.2⟩)
theorem Sat.feed {b : ByteArray} (hS : Sat key h bk nw ns nc p s w N t w') (hc : c < nc) (hx : txC key x = b) (hs : (txS key (t.q c)).size + b.size ≤ 70000) :
    Calls Tryz.prog 12 #[.pointer (some ⟨p.b, 0, none⟩), .int .i64 c, .string b] w' fun e w'' => e = .returned (.int .i64 b.size) ∧ Sat key h bk nw ns nc p s w (N + 4) (PM.fd t c x) w'' := by
  obtain ⟨p', h1, h2, h3, h4⟩ := hS
  have hP := sfeed_ok h4.here hc hx hs
  rw [h1] at hP
  exact hP.mono (fun e w'' hh => ⟨hh.1, p', h1, h2, by rw [PM.left_fd hc]; omega, h4.trans hh.2⟩)
theorem Wj.allS (hW : Wj key need nw nc B t) (hnw : 0 < nw) : ∀ k, Wj key need nw nc B (PM.allS PM.stp PM.an0 t c k)
  | 0 => hW
  | k + 1 => ((hW.allS hnw k).work hnw).wr
theorem Sat.allW (hk : KeyI key h bk) (hns : ns = 4 ∨ ns = 1) (hDo : DoAll key h bk nw ns nc) (hW : Wj key need nw nc B t) (hB : B ≤ 40) (hN : N ≤ 1000000) (hnw : 0 < nw) (hc : c < nc) (hI : PM.Idle t) (hq : t.q c = [x]) (ho : t.out c = []) (hd : t.data.it = none → ∃ fl v, x = .set fl v)
    {k : Nat} (hk4 : k ≤ 4) (w1 : World) (hS : Sat key h bk nw ns nc p s w N (PM.allS PM.stp PM.an0 t c k) w1) :
    Calls Tryz.prog 30 #[.pointer (some ⟨p.b, 0, none⟩), .int .i64 0, .int .i64 c] w1 fun e w'' => e = .returned (.bool (decide (k < 4))) ∧ Sat key h bk nw ns nc p s w N (PM.work PM.stp PM.an0 (PM.allS PM.stp PM.an0 t c k) 0 c).2 w'' := by
  have hr := PM.all_run (step := PM.stp) (a0 := PM.an0) (hI.wk 0) (hI.busy c) hI.hold hq ho
  have h1 := Sat.work (wi := 0) (c := c) hk hns hDo hS (hW.allS hnw k) (by omega) ((hW.allS hnw k).q20 hB) hN hnw hc (fun kk hkk hp hnn => by
    obtain ⟨e1, e2⟩ := PM.all_hd (hI.wk 0) (hI.busy c) hI.hold hq ho hk4 hkk hp
    rw [e1] at hnn
    rw [e2]; exact hd hnn)
  have e : (PM.work PM.stp PM.an0 (PM.allS PM.stp PM.an0 t c k) 0 c).1 = decide (k < 4) := by
    by_cases h4 : k < 4
    · rw [hr.1 k h4, decide_eq_true h4]
    · rw [show k = 4 by omega, hr.2.1]; rfl
  rw [e] at h1
  exact h1
theorem Sat.allX (hI : PM.Idle t) (hc : c < nc) (hq : t.q c = [x]) (ho : t.out c = []) {r : ByteArray} (hr : rpC key (x, (PM.stp t.data x).2) = r) (hz : r.size ≤ 60000) {k : Nat} (hk4 : k < 4) (w1 : World) (hS : Sat key h bk nw ns nc p s w N (PM.work PM.stp PM.an0 (PM.allS PM.stp PM.an0 t c k) 0 c).2 w1) :
    Calls Tryz.prog 29 #[.pointer (some ⟨p.b, 0, none⟩), .int .i64 c, .int .i64 1073741824] w1 fun e w'' => e = .returned (.string (if k = 3 then r else ⟨#[]⟩)) ∧ Sat key h bk nw ns nc p s w N (PM.allS PM.stp PM.an0 t c (k + 1)) w'' := by
  have hru := PM.all_run (step := PM.stp) (a0 := PM.an0) (hI.wk 0) (hI.busy c) hI.hold hq ho
  have e : rpS key ((PM.work PM.stp PM.an0 (PM.allS PM.stp PM.an0 t c k) 0 c).2.out c) = if k = 3 then r else ⟨#[]⟩ := by
    rw [hru.2.2.1 k hk4]
    split
    · show rpC key (x, (PM.stp t.data x).2) ++ ⟨#[]⟩ = r
      rw [ba_nil, hr]
    · rfl
  have h1 := Sat.write (n := 1073741824) hS hc (by rw [e]; split; exact (by omega); exact (by decide))
  rw [e] at h1
  exact h1
theorem Sat.allY (hI : PM.Idle t) (hc : c < nc) (hq : t.q c = [x]) (ho : t.out c = []) (w1 : World) (hS : Sat key h bk nw ns nc p s w N (PM.work PM.stp PM.an0 (PM.allS PM.stp PM.an0 t c 4) 0 c).2 w1) :
    Calls Tryz.prog 29 #[.pointer (some ⟨p.b, 0, none⟩), .int .i64 c, .int .i64 1073741824] w1 fun e w'' => e = .returned (.string ⟨#[]⟩) ∧ Sat key h bk nw ns nc p s w N (PM.allE PM.stp t c x) w'' := by
  have hru := PM.all_run (step := PM.stp) (a0 := PM.an0) (hI.wk 0) (hI.busy c) hI.hold hq ho
  rw [PM.work_no _ _ _ hru.2.1] at hS
  have e : (PM.allS PM.stp PM.an0 t c 4).out c = [] := hru.2.2.2.2 4 (Nat.le_refl _)
  have h1 := Sat.write (n := 1073741824) hS hc (by rw [e]; show ((⟨#[]⟩ : ByteArray).size : Int) ≤ _; decide)
  have e2 : PM.wr (PM.allS PM.stp PM.an0 t c 4) c = PM.allE PM.stp t c x := by
    rw [← hru.2.2.2.1]
    unfold PM.wr
    rw [PM.upd_self _ c e]
  rw [e, e2] at h1
  exact h1
end
end Go.Proofs.YtboehbfagnocpaaGreatDoor
namespace Go.Proofs.YtboehbfagnocpaaGreatDoor
open Go.RowKit Go.PlainAid Go.Shelf
open SP
open PM (Cd An Sd Vl upd upd_same upd_ne)
section
variable {key : ByteArray} {h : Int} {bk nw ns nc : Nat} {p : Pl} {s t : Mac} {w0 w w' : World} {c wi N B : Nat} {need : Bool} {x : Cd} {l : List (Nat × Nat)}
theorem works_snoc (t : Mac) (l : List (Nat × Nat)) (q : Nat × Nat) : PM.works PM.stp PM.an0 t (l ++ [q]) = (PM.work PM.stp PM.an0 (PM.works PM.stp PM.an0 t l) q.1 q.2).2 := by
  unfold PM.works
  rw [List.foldl_append]
  rfl
theorem Wj.works (hW : Wj key need nw nc B t) (hl : ∀ q ∈ l, q.1 < nw) : Wj key need nw nc B (PM.works PM.stp PM.an0 t l) := by
  induction l generalizing t with
  | nil => exact hW
  | cons q l ih => exact ih (t := (PM.work PM.stp PM.an0 t q.1 q.2).2) (hW.work (hl q (.head _))) (fun r hr => hl r (.tail _ hr))
def rnd (t : Mac) (n m : Nat) : Mac := PM.works PM.stp PM.an0 ((List.replicate n PM.prs).foldl (PM.works PM.stp PM.an0) t) (PM.prs.take m)
theorem prs_take : ∀ a, a < 4 → ∀ b, b < 4 → PM.prs.take (4 * a + b + 1) = PM.prs.take (4 * a + b) ++ [(a, b)] := by decide
theorem rnd_succ {n a b : Nat} (ha : a < 4) (hb : b < 4) : (PM.work PM.stp PM.an0 (rnd t n (4 * a + b)) a b).2 = rnd t n (4 * a + b + 1) := by
  unfold rnd
  rw [prs_take a ha b hb, works_snoc]
theorem rnd_next {n : Nat} : rnd t n 16 = rnd t (n + 1) 0 := by
  unfold rnd
  rw [List.replicate_succ', List.foldl_append]
  rfl
theorem rnd_n {n : Nat} : rnd t n 0 = (List.replicate n PM.prs).foldl (PM.works PM.stp PM.an0) t := rfl
theorem Wj.rounds (hW : Wj key need 4 nc B t) {n m : Nat} : Wj key need 4 nc B (rnd t n m) := by
  have hp : ∀ q ∈ PM.prs, q.1 < 4 := by decide
  have h1 : ∀ (n : Nat) (t : Mac), Wj key need 4 nc B t → Wj key need 4 nc B ((List.replicate n PM.prs).foldl (PM.works PM.stp PM.an0) t) := by
    intro n
    induction n with
    | zero => intro t h; exact h
    | succ n ih => intro t h; rw [List.replicate_succ, List.foldl_cons]; exact ih _ (h.works hp)
  exact (h1 n t hW).works (fun q hq => hp q (List.mem_of_mem_take hq))
theorem Sat.workN (hk : KeyI key h bk) (hns : ns = 4 ∨ ns = 1) (hDo : DoAll key h bk nw ns nc) (hS : Sat key h bk nw ns nc p s w N t w') (hW : Wj key true nw nc B t) (hB : B ≤ 40) (hN : N ≤ 1000000) (hw : wi < nw) (hc : c < nc) :
    Calls Tryz.prog 30 #[.pointer (some ⟨p.b, 0, none⟩), .int .i64 wi, .int .i64 c] w' fun e w'' => (∃ b, e = .returned (.bool b)) ∧ Sat key h bk nw ns nc p s w N (PM.work PM.stp PM.an0 t wi c).2 w'' :=
  (hS.work hk hns hDo hW (by omega) (hW.q20 hB) hN hw hc (fun k _ _ hn => by have := hW.data.2.1 rfl; rw [hn] at this; cases this)).mono (fun e w'' hh => ⟨⟨_, hh.1⟩, hh.2⟩)
theorem Sat.made (hm : Made (svR key h bk nw ns nc p s) w0 w) (hS : Sat key h bk nw ns nc p s w N t w') : Below w0.heap.size w0 w' := by
  obtain ⟨p', h1, h2, h3, h4⟩ := hS
  exact (hm.turn h4).bel
theorem Wj.fd (hW : Wj key need nw nc B t) (hc : c < nc) (hx : gC key x) : Wj key need nw nc (B + 4) (PM.fd t c x) := by
  refine ⟨hW.who, fun d hd => ?_, fun d y hy => ?_, fun d => ?_, fun d => ?_, hW.outa, ?_, fun d => ?_, ?_⟩
  · show upd t.q c (t.q c ++ [x]) d = []
    rw [upd_ne _ _ (by omega)]; exact hW.qs d hd
  · replace hy : y ∈ upd t.q c (t.q c ++ [x]) d := hy
    by_cases e : d = c
    · subst e
      rw [upd_same] at hy
      rcases List.mem_append.1 hy with h1 | h1
      · exact hW.qc _ y h1
      · rw [List.mem_singleton.1 h1]; exact hx
    · rw [upd_ne _ _ e] at hy; exact hW.qc _ y hy
  · show (upd t.q c (t.q c ++ [x]) d).length ≤ B + 4
    by_cases e : d = c
    · subst e
      rw [upd_same, List.length_append, List.length_singleton]
      have := hW.qn d; omega
    · rw [upd_ne _ _ e]; have := hW.qn d; omega
  · rw [PM.left_fd hc]; have := hW.outs d; show (t.out d).length + _ ≤ _; omega
  · rw [PM.left_fd hc]; have := hW.ev; show t.ev.length + _ ≤ _; omega
  · rw [PM.left_fd hc]; have := hW.seq d; show t.seq d + _ ≤ _; omega
  · rw [PM.left_fd hc]
    have := hW.data
    exact ⟨by have := this.1; show t.data.tok + _ ≤ _; omega, this.2.1, this.2.2⟩
theorem Wj.needs (hW : Wj key need nw nc B t) (hi : t.data.it.isSome = true) : Wj key true nw nc B t := ⟨hW.who, hW.qs, hW.qc, hW.qn, hW.outs, hW.outa, hW.ev, hW.seq, ⟨hW.data.1, fun _ => hi, hW.data.2.2⟩⟩
theorem Wj.ini : Wj key false nw nc 0 PM.ini := by
  have hl : PM.left nw nc PM.ini = 0 := by
    have h1 : ∀ n, PM.sumTo (fun (_ : Nat) => 0) n = 0 := fun n => by
      induction n with
      | zero => rfl
      | succ n ih => unfold PM.sumTo; rw [ih]
    show PM.sumTo (fun (_ : Nat) => 0) nc + PM.sumTo (fun (_ : Nat) => 0) nw = 0
    rw [h1, h1]
  refine ⟨fun w k hk => absurd hk (by show (none : Option (PM.Wk Cd An)) ≠ some k; simp), fun c _ => rfl, fun c x hx => absurd hx (by show ¬ x ∈ ([] : List Cd); simp), fun c => Nat.le_refl _, fun c => ?_, fun c x hx => absurd hx (by show ¬ x ∈ ([] : List (Cd × An)); simp), ?_, fun c => ?_, ?_⟩
  · rw [hl]; exact Nat.le_refl _
  · rw [hl]; exact Nat.le_refl _
  · rw [hl]; exact Nat.le_refl _
  · rw [hl]; exact ⟨Nat.le_refl _, fun h => (by cases h), fun x hx => by cases hx⟩
end
end Go.Proofs.YtboehbfagnocpaaGreatDoor
namespace Go.Proofs.YtboehbfagnocpaaGreatDoor
open Go.RowKit Go.PlainAid Go.Shelf
open SP
open PM (Cd An Sd Vl upd upd_same upd_ne)
section
variable {s t : Mac} {n : Nat}
def wrn (s : Mac) (n : Nat) : Mac := { s with out := fun d => if d < n then [] else s.out d }
theorem wrn_0 : wrn s 0 = s := by
  unfold wrn
  simp only [Nat.not_lt_zero, if_false]
theorem wrn_succ : PM.wr (wrn s n) n = wrn s (n + 1) := by
  unfold wrn PM.wr
  dsimp only
  congr 1
  funext d
  by_cases e : d = n
  · subst e; rw [upd_same, if_pos (by omega)]
  · rw [upd_ne _ _ e]
    by_cases h : d < n
    · rw [if_pos h, if_pos (by omega)]
    · rw [if_neg h, if_neg (by omega)]
theorem wrn_out {d : Nat} (h : n ≤ d) : (wrn s n).out d = s.out d := if_neg (by omega)
theorem wrn_idle (h : PM.Idle s) : PM.Idle (wrn s n) := ⟨h.busy, h.wk, h.hold⟩
def stored : ByteArray := ⟨#[83, 84, 79, 82, 69, 68, 13, 10]⟩
def exists' : ByteArray := ⟨#[69, 88, 73, 83, 84, 83, 13, 10]⟩
theorem rp_stored {key : ByteArray} {x : Cd} {a : An} (h : a.st = 2) {t : Nat} {v : Vl} (hx : x = .cas t v) : rpS key [(x, a)] = stored := by
  subst hx
  show rpC key (.cas t v, a) ++ ⟨#[]⟩ = stored
  rw [ba_nil]
  simp only [rpC, if_pos h]
  rfl
theorem rp_exists {key : ByteArray} {x : Cd} {a : An} (h : a.st = 4) {t : Nat} {v : Vl} (hx : x = .cas t v) : rpS key [(x, a)] = exists' := by
  subst hx
  show rpC key (.cas t v, a) ++ ⟨#[]⟩ = exists'
  rw [ba_nil]
  have h2 : ¬ a.st = 2 := by omega
  simp only [rpC, if_neg h2, if_pos h]
  rfl
theorem set_text : txC ⟨#[107]⟩ (.set 0 PM.vV) = ⟨#[115, 101, 116, 32, 107, 32, 48, 32, 48, 32, 49, 13, 10, 118, 13, 10]⟩ := by decide +kernel
theorem get_text : txC ⟨#[107]⟩ .get = ⟨#[103, 101, 116, 32, 107, 13, 10]⟩ := by decide +kernel
theorem cas_text (c : Nat) (hc : c < 4) : txC ⟨#[107]⟩ (.cas 1 (.num c)) = ⟨#[99, 97, 115, 32, 107, 32, 48, 32, 48, 32, 49, 32, 49, 13, 10]⟩ ++ dec c ++ ⟨#[13, 10]⟩ := by
  rcases (by omega : c = 0 ∨ c = 1 ∨ c = 2 ∨ c = 3) with rfl | rfl | rfl | rfl <;> decide +kernel
theorem set_told : rpC ⟨#[107]⟩ (.set 0 PM.vV, (PM.stp PM.c1.data (.set 0 PM.vV)).2) = stored := by decide +kernel
theorem get_told (won : Nat) (hw : won < 4) {d : Sd} (hd : d = ⟨some ⟨0, .num won, 2, 0⟩, 2⟩) : rpC ⟨#[107]⟩ (.get, (PM.stp d .get).2) = ⟨#[86, 65, 76, 85, 69, 32, 107, 32, 48, 32, 49, 13, 10]⟩ ++ dec won ++ ⟨#[13, 10, 69, 78, 68, 13, 10]⟩ := by
  subst hd
  rcases (by omega : won = 0 ∨ won = 1 ∨ won = 2 ∨ won = 3) with rfl | rfl | rfl | rfl <;> decide +kernel
theorem gC_set0 : gC ⟨#[107]⟩ (.set 0 PM.vV) := ⟨⟨by decide, PM.vV_ok⟩, nx_set_0, fun d h => by cases h⟩
theorem gC_get : gC ⟨#[107]⟩ .get := ⟨trivial, nx_get_k, fun d h => by cases h⟩
theorem gC_cas {c : Nat} (hc : c < 4) : gC ⟨#[107]⟩ (.cas 1 (.num c)) := ⟨⟨by decide, by show c < PM.two64; unfold PM.two64; omega⟩, nx_cas_k hc, fun d h => by cases h⟩
end
end Go.Proofs.YtboehbfagnocpaaGreatDoor
namespace Go.Proofs.YtboehbfagnocpaaGreatDoor
open Go.RowKit Go.PlainAid Go.Shelf
open SP
open PM (Cd An Sd Vl upd upd_same upd_ne)
def qs2 : Mac := PM.fd (PM.fd PM.ini 0 (.set 3 PM.vV)) 0 .get
def st8 (i : Nat) : Mac := PM.works PM.stp PM.an0 qs2 (List.replicate i (0, 0))
theorem st8_succ (i : Nat) : (PM.work PM.stp PM.an0 (st8 i) 0 0).2 = st8 (i + 1) := by
  unfold st8
  rw [List.replicate_succ', works_snoc]
theorem st8_yes : ∀ i, i < 8 → (PM.work PM.stp PM.an0 (st8 i) 0 0).1 = true := by decide +kernel
def okd (s : Mac) : Bool := match s.wk 0 with
  | some k => if k.ph = 1 then (match s.data.it, k.cmd with
    | none, .set _ _ => true
    | none, _ => false
    | some _, _ => true) else true
  | none => true
theorem okd_hd {s : Mac} (h : okd s = true) (k : PM.Wk Cd An) (hk : s.wk 0 = some k) (hp : k.ph = 1) (hn : s.data.it = none) : ∃ fl v, k.cmd = .set fl v := by
  unfold okd at h
  rw [hk] at h
  dsimp only at h
  rw [if_pos hp, hn] at h
  cases hc : k.cmd with
  | set fl v => exact ⟨fl, v, rfl⟩
  | get => rw [hc] at h; cases h
  | cas t v => rw [hc] at h; cases h
  | incr d => rw [hc] at h; cases h
theorem st8_okd : ∀ i, i < 8 → okd (st8 i) = true := by decide +kernel
def ev1 : PM.Ev Cd An := ⟨0, 1, .set 3 PM.vV, ⟨2, some ⟨3, PM.vV, 1, 0⟩, 0⟩⟩
def ev2 : PM.Ev Cd An := ⟨0, 2, .get, ⟨1, some ⟨3, PM.vV, 1, 1⟩, 0⟩⟩
theorem st8_out : (st8 8).out 0 = [(.set 3 PM.vV, ⟨2, some ⟨3, PM.vV, 1, 0⟩, 0⟩), (.get, ⟨1, some ⟨3, PM.vV, 1, 1⟩, 0⟩)] := rfl
theorem st8_told : rpS ⟨#[107]⟩ ((st8 8).out 0) = ⟨#[83, 84, 79, 82, 69, 68, 13, 10, 86, 65, 76, 85, 69, 32, 107, 32, 51, 32, 49, 13, 10, 118, 13, 10, 69, 78, 68, 13, 10]⟩ := by
  rw [st8_out]; decide +kernel
theorem two_text : txC ⟨#[107]⟩ (.set 3 PM.vV) ++ txC ⟨#[107]⟩ .get = ⟨#[115, 101, 116, 32, 107, 32, 51, 32, 48, 32, 49, 13, 10, 118, 13, 10, 103, 101, 116, 32, 107, 13, 10]⟩ := by decide +kernel
theorem gC_set3 : gC ⟨#[107]⟩ (.set 3 PM.vV) := ⟨⟨by decide, PM.vV_ok⟩, nx_set_3, fun d h => by cases h⟩
theorem wj_qs2 {nw nc : Nat} (hc : 0 < nc) : Wj ⟨#[107]⟩ false nw nc 8 qs2 := (Wj.ini.fd hc gC_set3).fd hc gC_get
theorem wj_st8 {nw nc : Nat} (hw : 0 < nw) (hc : 0 < nc) (i : Nat) : Wj ⟨#[107]⟩ false nw nc 8 (st8 i) := (wj_qs2 hc).works (fun q hq => by rw [List.eq_of_mem_replicate hq]; exact hw)
section
variable {key : ByteArray} {h : Int} {bk nw ns nc : Nat} {p : Pl} {s t : Mac} {w w' : World} {c wi N : Nat} {x y : Cd}
theorem fd2_eq : PM.fd (PM.fd s c x) c y = { s with q := upd s.q c (s.q c ++ [x, y]) } := by
  unfold PM.fd
  dsimp only
  rw [PM.upd_upd, upd_same, List.append_assoc]
  rfl
theorem sfeed2_ok {b : ByteArray} (hR : (svR key h bk nw ns nc p s).R w) (hc : c < nc) (hx : txC key x ++ txC key y = b) (hs : (txS key (s.q c)).size + b.size ≤ 70000) :
    Calls Tryz.prog 12 #[.pointer (some ⟨p.b, 0, none⟩), .int .i64 c, .string b] w fun e w' => e = .returned (.int .i64 b.size) ∧ Turn (svR key h bk nw ns nc p s) (svR key h bk nw ns nc p (PM.fd (PM.fd s c x) c y)) w w' := by
  have H := Hav.open hR
  have HC := Lib.hid (client_ok hR hc)
  have g7 : (fam nc (clR key p s)).R w := H.get 7 rfl
  have k0 : w.cell? ⟨p.cb c, 0, none⟩ = some (.pointer (some ⟨p.nb c, 0, none⟩)) := cells_at (fam_get g7 hc).1 0
  have HF := Lib.hid (feed_ok (fam_get g7 hc).2.1 hs)
  have HT := Lib.hid (fun w' t => sv_conn (s' := PM.fd (PM.fd s c x) c y) (w' := w') hR hc (fun d e => ⟨by rw [fd2_eq]; exact upd_ne _ _ e, rfl⟩) ⟨rfl, rfl, rfl, rfl, rfl, rfl⟩ t)
  have e1 : txS key ((PM.fd (PM.fd s c x) c y).q c) = txS key (s.q c) ++ b := by
    rw [fd2_eq]
    show txS key (upd s.q c _ c) = _
    rw [upd_same, txS_append, ← hx]
    simp only [txS, ba_nil]
  rw [e1] at HT
  clear H hR g7 e1
  go_enter Tryz.func12, Tryz.ntmps12
  go_wp2_with (first
    | (go_at_call 40; refine HC.out.mono ?_; rintro e w1 ⟨rfl, rfl⟩)
    | (go_at_call 41; refine HF.out.mono ?_; rintro e w1 ⟨rfl, ht⟩))
  go_ret
  exact ⟨rfl, HT.out _ ht⟩
theorem Sat.feed2 {b : ByteArray} (hS : Sat key h bk nw ns nc p s w N t w') (hc : c < nc) (hx : txC key x ++ txC key y = b) (hs : (txS key (t.q c)).size + b.size ≤ 70000) :
    Calls Tryz.prog 12 #[.pointer (some ⟨p.b, 0, none⟩), .int .i64 c, .string b] w' fun e w'' => e = .returned (.int .i64 b.size) ∧ Sat key h bk nw ns nc p s w (N + 8) (PM.fd (PM.fd t c x) c y) w'' := by
  obtain ⟨p', h1, h2, h3, h4⟩ := hS
  have hP := sfeed2_ok h4.here hc hx hs
  rw [h1] at hP
  exact hP.mono (fun e w'' hh => ⟨hh.1, p', h1, h2, by rw [PM.left_fd hc, PM.left_fd hc]; omega, h4.trans hh.2⟩)
end
end Go.Proofs.YtboehbfagnocpaaGreatDoor
namespace Go.Proofs.YtboehbfagnocpaaGreatDoor
open Go.RowKit Go.PlainAid Go.Shelf
open SP
open PM (Cd An Sd Vl upd upd_same upd_ne)
section
variable {T E size bytes : Nat} {W : World} {v : Value} {n : Nat} {xs news : List Value}
theorem wp_appSm {ops : Array Oper} {rest : List Oper} {o : Oper} {a : Act} {Q : Exit → Act → World → Prop} (m : Nat) (X : Elem T E size bytes) (hgd : o.guard = none) (s x : Operand) (p : Addr) (c : Nat)
    (ho : o.op = .call { callee := .builtin .append, args := #[s, x], argTypes := #[T, T] }) (hs : a.eval s = v) (hr : (rowAt v E size n xs).R W)
    (hx : a.eval x = .slice (some p) m c) (hl : news.length = m * size) (hnews : ∀ j u, news[j]? = some u → W.cell? (p.add j) = some u) (h1 : ∀ u ∈ news, u.oneCell' = true) (hm : 0 < m) (hn : n + m ≤ 100000000) (hb : bytes ≤ 100000)
    (h : ∀ g cap w', Turn (rowAt v E size n xs) (rowAt (.slice (some ⟨g, 0, none⟩) (n + m) cap) E size (n + m) (xs ++ news)) W w' → wpList Tryz.prog ops Q rest (a.put o.dst (.slice (some ⟨g, 0, none⟩) (n + m) cap)) w') :
    wpList Tryz.prog ops Q (o :: rest) a W := by
  obtain ⟨z, hi, hzs⟩ := X.hi
  obtain ⟨i0, hi0, hz0, hz1, hz2⟩ := info_parts hi
  refine wpList_append_lies W hgd s x T ho 0 E i0 z size bytes X.ht hi0 hz0 hz1 hz2 hzs X.pos v n xs hs hr p m c news hx (by omega) hnews h1 (by omega) (by unfold maxLen; omega) ?_ (Nat.zero_le _) W.heap.size rfl ?_
  · have : (n + m) * bytes ≤ 100000000 * 100000 := Nat.mul_le_mul hn hb
    omega
  · intro g cap w' ho' hg hnw hlt
    refine h g cap w' ⟨ho', Tch.of_grown hg, fun b hb => ?_⟩
    have hb : some g = some b := hb
    cases hb
    rcases hnw with h2 | h2
    · exact .inl h2
    · exact .inr (by omega)
end
theorem elem_ev : Elem 62 136 35 296 := ⟨Tryz.underlying62, ⟨.agg #[.int .i64 0, .int .i64 0, .int .i64 0, .int .i64 0, .int .i64 0, .int .i64 0, .int .i64 0, .string ⟨#[]⟩, .string ⟨#[]⟩, .int .u32 0, .int .i64 0, .bool false, .int .u64 0, .bool false, .int .u64 0, .int .u64 0, .bool false, .bool false, .int .i64 0, .int .i64 0, .bool false, .int .i64 0, .string ⟨#[]⟩, .int .u32 0, .string ⟨#[]⟩, .int .i64 0, .int .u64 0, .int .i64 0, .bool false, .bool false, .int .u64 0, .bool false, .bool false, .bool false, .slice none 0 0], by kernel_rfl, by kernel_rfl⟩, by decide⟩
theorem cloneS_0 (w : World) : Calls Tryz.prog 76 #[.slice none 0 0] w fun e w' => e = .returned (.slice none 0 0) ∧ w = w' := by
  have qT : ∀ (w : World) (a : Option Addr) (n c n' c' : Nat), (binOp .eql 31 (.slice a n c) (.slice none n' c')).run Tryz.prog w = .ok (.bool (a.isNone)) w := fun w a n c n' c' => Lib.run_eql_slice_nil w _ _ a n c n' c' Tryz.underlying31
  go_enter Tryz.func76, Tryz.ntmps76
  go_wp2
  go_ret
  exact ⟨rfl, rfl⟩
theorem cdM_len (key : ByteArray) (x : Cd) : (cdM key x).vs.toList.length = 16 := rfl
theorem anC_len (key : ByteArray) (a : An) : (anC key a).length = 13 := by
  obtain ⟨st, it, num⟩ := a
  cases it <;> rfl
theorem evC_len (key : ByteArray) (e : PM.Ev Cd An) : (evC key e).length = 35 := by
  unfold evC
  rw [List.length_append, List.length_append, List.length_append, cdM_len, anC_len]
  rfl
theorem evC_one (key : ByteArray) (e : PM.Ev Cd An) : ∀ u ∈ evC key e, u.oneCell' = true := by
  obtain ⟨o, n, x, st, it, num⟩ := e
  cases it <;> simp [evC, anC, itC, Cm.vs, Value.oneCell']
theorem evC_last (key : ByteArray) (e : PM.Ev Cd An) : (evC key e)[34]? = some (.slice none 0 0) := by
  obtain ⟨o, n, x, st, it, num⟩ := e
  cases it <;> rfl
section
variable {key : ByteArray} {h : Int} {bk nw ns nc n : Nat} {p : Pl} {s s' : Mac} {w w' : World} {c : Nat} {cv : Value} {e1 e2 : PM.Ev Cd An}
theorem cloneE_2 {xb c : Nat} (hR : (rowAt (.slice (some ⟨xb, 0, none⟩) 2 c) 136 35 2 (evC key e1 ++ evC key e2)).R w) :
    Calls Tryz.prog 75 #[.slice (some ⟨xb, 0, none⟩) 2 c] w fun e w' => ∃ g cap, e = .returned (.slice (some ⟨g, 0, none⟩) 2 cap) ∧ Made (rowAt (.slice (some ⟨g, 0, none⟩) 2 cap) 136 35 2 (evC key e1 ++ evC key e2)) w w' := by
  have qT : ∀ (w : World) (a : Option Addr) (n c n' c' : Nat), (binOp .eql 62 (.slice a n c) (.slice none n' c')).run Tryz.prog w = .ok (.bool (a.isNone)) w := fun w a n c n' c' => Lib.run_eql_slice_nil w _ _ a n c n' c' Tryz.underlying62
  have hlen : (evC key e1 ++ evC key e2).length = 2 * 35 := by rw [List.length_append, evC_len, evC_len]
  have hxb : xb < w.heap.size := (rowAt (.slice (some ⟨xb, 0, none⟩) 2 c) 136 35 2 (evC key e1 ++ evC key e2)).lt hR rfl
  have M0 := row_empty w 136 35
  have hc' : ∀ j u, (evC key e1 ++ evC key e2)[j]? = some u → (w.alloc (.cells #[] 136)).cell? ((⟨xb, 0, none⟩ : Addr).add j) = some u := fun j u hj => by
    have hc : w.cell? ⟨xb, j, none⟩ = some u := by
      rw [row_at hR j (List.getElem?_eq_some_iff.1 hj).1]; exact hj
    have h := ((below_alloc' w (.cells #[] 136)).cell (p := ⟨xb, j, none⟩) hxb).trans hc
    cases j <;> simpa [Addr.add] using h
  have HC := Lib.hid hc'
  have hone : ∀ u ∈ evC key e1 ++ evC key e2, u.oneCell' = true := fun u hu => (List.mem_append.1 hu).elim (evC_one key e1 u) (evC_one key e2 u)
  have HL := Lib.hid hlen
  have HO := Lib.hid hone
  clear hR hc' hlen hone
  go_enter Tryz.func75, Tryz.ntmps75
  go_wp2_with (at_builtin; go_must (refine wp_appSm 2 elem_ev rfl _ _ ⟨xb, 0, none⟩ c rfl rfl M0.here rfl HL.out HC.out HO.out (by omega) (by omega) (by omega) ?_))
  intro g cap w2 ht
  go_wp2
  go_ret
  exact ⟨g, cap, rfl, M0.turn ht⟩
theorem set_same {α : Type} {xs : List α} {i : Nat} {v : α} (h : xs[i]? = some v) : xs.set i v = xs := by
  apply List.ext_getElem?
  intro j
  rw [List.getElem?_set]
  split
  · rename_i e
    subst e
    obtain ⟨hi, e⟩ := List.getElem?_eq_some_iff.1 h
    rw [if_pos hi, h]
  · rfl
theorem ev_lost (i : Nat) (hi : i < 2) : (evC key e1 ++ evC key e2)[35 * i + 34]? = some (.slice none 0 0) := by
  rcases (by omega : i = 0 ∨ i = 1) with rfl | rfl
  · rw [List.getElem?_append_left (by rw [evC_len]; omega)]; exact evC_last key e1
  · rw [List.getElem?_append_right (by rw [evC_len]; omega), evC_len]; exact evC_last key e2
set_option maxHeartbeats 1000000 in
theorem events_ok (hev : s.ev = [e1, e2]) (hR : (svR key h bk nw ns nc p s).R w) :
    Calls Tryz.prog 25 #[.pointer (some ⟨p.b, 0, none⟩)] w fun e w' => ∃ g cap, e = .returned (.slice (some ⟨g, 0, none⟩) 2 cap) ∧ Made (rowAt (.slice (some ⟨g, 0, none⟩) 2 cap) 136 35 2 (evC key e1 ++ evC key e2)) w w' := by
  have H := Hav.open hR
  have hrow : (rowAt p.el 136 35 s.ev.length (s.ev.flatMap (evC key))).R w := H.get 4 rfl
  have hel : ∃ xb c, p.el = .slice (some ⟨xb, 0, none⟩) 2 c := by
    rcases hrow.2 with ⟨_, h0⟩ | ⟨g, cap, cur, e, _⟩
    · rw [hev] at h0; cases h0
    · rw [hev] at e; exact ⟨_, _, e⟩
  obtain ⟨xb, c, hel⟩ := hel
  rw [hel, hev] at hrow
  have hrow' : (rowAt (.slice (some ⟨xb, 0, none⟩) 2 c) 136 35 2 (evC key e1 ++ evC key e2)).R w := by
    have e : [e1, e2].flatMap (evC key) = evC key e1 ++ evC key e2 := by simp
    rw [e] at hrow; exact hrow
  have k7 : w.cell? ⟨p.b, 7, none⟩ = some (.slice (some ⟨xb, 0, none⟩) 2 c) := by rw [← hel]; exact cells_at (H.get 0 rfl) 7
  have HC := Lib.hid (cloneE_2 hrow')
  have HS := Lib.hid (fun w => cloneS_0 w)
  clear hR H hrow hrow' hel hev
  go_enter Tryz.func25, Tryz.ntmps25
  go_wp2_with (go_at_call 75; refine HC.out.mono ?_; rintro e w1 ⟨g, cap, rfl, hm⟩; have HM := Lib.hid hm; clear hm)
  go_loopw [12] (fun i wr => ∃ n : Nat, n ≤ 2 ∧ i = .int .i64 n ∧ Hid (Made (rowAt (.slice (some ⟨g, 0, none⟩) 2 cap) 136 35 2 (evC key e1 ++ evC key e2)) w wr)) (fun i _ => 2 - (intOf i).toNat)
  case atStart => exact ⟨0, by omega, rfl, HM⟩
  case round =>
    obtain ⟨n, hn, rfl, hs⟩ := hrel
    by_cases h2 : n < 2
    · have hlen : (evC key e1 ++ evC key e2).length = 70 := by rw [List.length_append, evC_len, evC_len]
      have c34 : wr.cell? ⟨g, 35 * n + 34, none⟩ = some (.slice none 0 0) := by rw [row_at hs.out.here _ (by rw [hlen]; omega)]; exact ev_lost n h2
      have z34 := row_fz hs.out.here (35 * n + 34)
      have HT := Lib.hid (row_set hs.out.here (35 * n + 34) (.slice none 0 0))
      rw [set_same (ev_lost n h2)] at HT
      clear hlen
      rcases (by omega : n = 0 ∨ n = 1) with rfl | rfl
      · simp only [Nat.mul_zero, Nat.zero_add, Nat.mul_one] at c34 z34 HT
        go_wp2_with (go_at_call 76; refine (HS.out _).mono ?_; rintro e w2 ⟨rfl, rfl⟩)
        go_roundw
        case rel => exact ⟨1, by omega, by first | rfl | simp, Lib.hid (hs.out.turn HT.out)⟩
        case measure => simp [intOf]
      · simp only [Nat.mul_one, Nat.reduceAdd] at c34 z34 HT
        go_wp2_with (go_at_call 76; refine (HS.out _).mono ?_; rintro e w2 ⟨rfl, rfl⟩)
        go_roundw
        case rel => exact ⟨2, by omega, by first | rfl | simp, Lib.hid (hs.out.turn HT.out)⟩
        case measure => simp [intOf]
    · obtain rfl : n = 2 := by omega
      go_wp2_with (fail)
      go_ret
      exact ⟨g, cap, rfl, hs.out⟩
end
end Go.Proofs.YtboehbfagnocpaaGreatDoor
namespace Go.Proofs.YtboehbfagnocpaaGreatDoor
open Go.RowKit Go.PlainAid Go.Shelf
open SP
open PM (Cd An Sd Vl upd upd_same upd_ne)
theorem conn_new (w : World) : Calls Tryz.prog 35 #[] w fun e w' => e = .returned (.pointer (some ⟨w.heap.size, 0, none⟩)) ∧ Made (cnR w.heap.size ⟨#[]⟩ ⟨#[]⟩) w w' := by
  go_enter Tryz.func35, Tryz.ntmps35
  go_wp2
  go_ret
  exact ⟨rfl, Made.cells w #[.string ⟨#[]⟩, .string ⟨#[]⟩, .int .i64 0, .bool false] 160⟩
theorem elem_cl : Elem 79 82 1 8 := ⟨Tryz.underlying79, ⟨.pointer none, by kernel_rfl, by kernel_rfl⟩, by decide⟩
section
variable {key : ByteArray} {h : Int} {bk nw ns nc n : Nat} {p : Pl} {s s' : Mac} {w w' : World} {c : Nat} {cv : Value}
def opL (key : ByteArray) (h : Int) (bk nw ns n : Nat) (p : Pl) (cv : Value) : List Res := [
  cellsAt p.b #[.pointer (some ⟨p.m.s, 0, none⟩), .pointer (some ⟨p.mv, 0, none⟩), .pointer (some ⟨p.sx, 0, none⟩), .int .i64 1, cv, .slice (some ⟨p.wlb, 0, none⟩) nw p.wlc, .slice (some ⟨p.slb, 0, none⟩) ns p.slc, p.el] 81,
  rowAt cv 82 1 n (lst n (fun c => .pointer (some ⟨p.cb c, 0, none⟩))),
  rowAt (.slice (some ⟨p.wlb, 0, none⟩) nw p.wlc) 140 1 nw (lst nw (wkV p PM.ini)),
  rowAt (.slice (some ⟨p.slb, 0, none⟩) ns p.slc) 3 1 ns (lst ns (stV PM.ini)),
  rowAt p.el 136 35 0 [],
  stoR key h bk p.m PM.sd0,
  stsR p.sx p.sn,
  fam n (clR key p PM.ini),
  fam nw (fun w => wkR key (p.wp w) none)]
theorem row_v {E n size : Nat} {v : Value} {xs : List Value} {w : World} (h : (rowAt v E size n xs).R w) : ∃ a c, v = .slice a n c := by
  rcases h.2 with ⟨rfl, h0⟩ | ⟨g, cap, cur, rfl, _⟩
  · exact ⟨none, 0, by rw [h0]⟩
  · exact ⟨_, _, rfl⟩
def Pl.more (p : Pl) (n cb nb clb clc : Nat) : Pl := { p with cb := upd p.cb n cb, nb := upd p.nb n nb, clb := clb, clc := clc }
theorem clR_old {cb nb clb clc j : Nat} (hj : j < n) : clR key (p.more n cb nb clb clc) PM.ini j = clR key p PM.ini j := by
  unfold clR Pl.more
  dsimp only
  rw [upd_ne _ _ (by omega), upd_ne _ _ (by omega)]
theorem clR_new {cb nb clb clc : Nat} : clR key (p.more n cb nb clb clc) PM.ini n = (cellsAt cb #[.pointer (some ⟨nb, 0, none⟩), .int .i64 0, .bool false] 86).and (cnR nb ⟨#[]⟩ ⟨#[]⟩) := by
  unfold clR Pl.more
  dsimp only
  rw [upd_same, upd_same]
  rfl
theorem fam_more {cb nb clb clc : Nat} : fam n (clR key (p.more n cb nb clb clc) PM.ini) = fam n (clR key p PM.ini) := by
  unfold fam
  rw [lst_same (fun j hj => clR_old hj)]
theorem row_more {cb nb clb clc : Nat} : lst n (fun c => Value.pointer (some ⟨p.cb c, 0, none⟩)) ++ [.pointer (some ⟨cb, 0, none⟩)] = lst (n + 1) (fun c => Value.pointer (some ⟨(p.more n cb nb clb clc).cb c, 0, none⟩)) := by
  rw [lst_snoc]
  have e1 : (p.more n cb nb clb clc).cb n = cb := upd_same _ _ _
  rw [e1]
  congr 1
  refine lst_same (fun j hj => ?_)
  have e2 : (p.more n cb nb clb clc).cb j = p.cb j := upd_ne _ _ (by omega)
  rw [e2]
theorem open_end {cb nb g cap : Nat} {a : Option Addr} {cc : Nat} {D : Nat → Prop} {w0 : World}
    (J : Hav D w0 ((cellsAt cb #[.pointer (some ⟨nb, 0, none⟩), .int .i64 0, .bool false] 86).and (cnR nb ⟨#[]⟩ ⟨#[]⟩) :: (((opL key h bk nw ns n p (.slice a n cc)).set 1 (rowAt (.slice (some ⟨g, 0, none⟩) (n + 1) cap) 82 1 (n + 1) (lst n (fun c => .pointer (some ⟨p.cb c, 0, none⟩)) ++ [.pointer (some ⟨cb, 0, none⟩)]))).set 0
      (cellsAt p.b #[.pointer (some ⟨p.m.s, 0, none⟩), .pointer (some ⟨p.mv, 0, none⟩), .pointer (some ⟨p.sx, 0, none⟩), .int .i64 1, .slice (some ⟨g, 0, none⟩) (n + 1) cap, .slice (some ⟨p.wlb, 0, none⟩) nw p.wlc, .slice (some ⟨p.slb, 0, none⟩) ns p.slc, p.el] 81))) w) :
    Hav D w0 (svL key h bk nw ns (n + 1) (p.more n cb nb g cap) PM.ini) w := by
  have J2 := J.push 7 rfl (r' := fam (n + 1) (clR key (p.more n cb nb g cap) PM.ini)) (fun ha hx hap => by
    rw [← fam_more (cb := cb) (nb := nb) (clb := g) (clc := cap)] at ha hap
    rw [← clR_new (key := key) (p := p) (n := n) (clb := g) (clc := cap)] at hx hap
    exact fam_ap ha hx hap) (fun b hb => by
    obtain ⟨r, hr, hb⟩ := hb
    rw [lst_snoc] at hr
    rcases List.mem_append.1 hr with h1 | h1
    · refine .inl ?_
      rw [← fam_more (cb := cb) (nb := nb) (clb := g) (clc := cap)]
      exact ⟨r, h1, hb⟩
    · refine .inr ?_
      rw [List.mem_singleton.1 h1, clR_new] at hb
      exact hb)
  rw [row_more (p := p) (nb := nb) (clb := g) (clc := cap)] at J2
  exact J2
set_option maxHeartbeats 1000000 in
theorem open_ok (hR : (many (opL key h bk nw ns n p cv)).R w) (hn : n < 8) :
    Calls Tryz.prog 10 #[.pointer (some ⟨p.b, 0, none⟩)] w fun e w' => e = .returned (.int .i64 n) ∧ ∃ p' : Pl, p'.b = p.b ∧ p'.m = p.m ∧ Turn (many (opL key h bk nw ns n p cv)) (svR key h bk nw ns (n + 1) p' PM.ini) w w' := by
  have H := Hav.open hR
  obtain ⟨a, cc, rfl⟩ := row_v (H.get 1 rfl)
  have a4 : w.cell? ⟨p.b, 4, none⟩ = some (.slice a n cc) := cells_at (H.get 0 rfl) 4
  have HM := Lib.hid (fun w => conn_new w)
  have hn8 : ((n : Int) == 8) = false := by simp; omega
  have hn9 : (n : Int) ≤ 8 := by omega
  have HH := Lib.hid H
  have HN := Lib.hid hn
  clear hR H hn
  go_enter Tryz.func10, Tryz.ntmps10
  go_wp2_with (fail)
  go_upto_region 3 with fail
  have S0 : w.drew.cell? ⟨p.b, 4, none⟩ = some (.slice a n cc) := a4
  refine wp_region_E (fun w' => w'.cell? ⟨p.b, 4, none⟩ = some (.slice a n cc)) 12 (by kernel_rfl) S0 (fun hHeld => ?_)
  refine wfE 0 rfl ?_
  (try simp only [lzP, lzA, lzS])
  refine wfE 1 rfl ?_
  (try simp only [lzP, lzA, lzS])
  refine wfE 2 rfl ?_
  (try simp only [lzP, lzA, lzS])
  refine wfE 3 rfl ?_
  (try simp only [lzP, lzA, lzS])
  refine wkE 4 rfl ?_
  (try simp only [lzP, lzA, lzS])
  refine wpAnyE_ready (rs := [5]) (by as_aux_lemma => kernel_rfl) (by simp) ?_
  refine AllReadyE.cons (o := _) rfl (fun K hK => ?_) AllReadyE.nil
  rw [if_pos (by as_aux_lemma => rfl)]
  (try simp only [lzA])
  go_simp
  (go_at_call 35; refine (HM.out _).mono ?_; rintro e w1 ⟨rfl, hm1⟩; have HM1 := Lib.hid hm1; clear hm1)
  (try (go_wp2_with fail))
  refine hK.out _ _ (cells_at ((HH.out.drew.made HM1.out).get 1 rfl) 4) (fun hS5 => ?_)
  clear hK K
  (try simp only [lzP, lzA, lzS])
  refine wpAnyE_ready (rs := [6]) (by as_aux_lemma => kernel_rfl) (by simp) ?_
  refine AllReadyE.cons (o := _) rfl (fun K hK => ?_) AllReadyE.nil
  rw [if_pos (by as_aux_lemma => rfl)]
  (try simp only [lzA])
  go_simp
  refine hK.out _ _ (by assumption) (fun hS6 => ?_)
  clear hK K
  (try simp only [lzP, lzA, lzS])
  refine wpAnyE_ready (rs := [7]) (by as_aux_lemma => kernel_rfl) (by simp) ?_
  refine AllReadyE.cons (o := _) rfl (fun K hK => ?_) AllReadyE.nil
  rw [if_pos (by as_aux_lemma => rfl)]
  (try simp only [lzA])
  go_simp
  refine hK.out _ _ (cells_at (((HH.out.drew.made HM1.out).alloc _).get 1 rfl) 4) (fun hS7 => ?_)
  clear hK K
  (try simp only [lzP, lzA, lzS])
  refine wpAnyE_ready (rs := [8]) (by as_aux_lemma => kernel_rfl) (by simp) ?_
  refine AllReadyE.cons (o := _) rfl (fun K hK => ?_) AllReadyE.nil
  rw [if_pos (by as_aux_lemma => rfl)]
  (try simp only [lzA])
  go_simp
  refine hK.out _ _ (cells_at ((((HH.out.drew.made HM1.out).alloc _).alloc _).get 1 rfl) 4) (fun hS8 => ?_)
  clear hK K
  (try simp only [lzP, lzA, lzS])
  have m2 := (HM1.out.and (Made.cells w1 #[.pointer (some ⟨w.heap.size, 0, none⟩), .int .i64 0, .bool false] 86)).conv (r' := (cellsAt w1.heap.size #[.pointer (some ⟨w.heap.size, 0, none⟩), .int .i64 0, .bool false] 86).and (cnR w.heap.size ⟨#[]⟩ ⟨#[]⟩)) (fun h => ⟨h.2.1, h.1, fun b x y => h.2.2 b y x⟩) (fun b hb => hb.elim .inr .inl)
  have J2 := HH.out.drew.made m2
  have HJ2 := Lib.hid J2
  clear m2 J2
  refine wpAnyE_ready (rs := [9]) (by as_aux_lemma => kernel_rfl) (by simp) ?_
  refine AllReadyE.cons (o := _) rfl (fun K hK => ?_) AllReadyE.nil
  (refine step_appEl elem_cl rfl _ _ (by rfl) (by rfl) (HJ2.out.get 2 rfl) (by simp only [World.size_alloc]; rfl) rfl (by simp [Value.oneCell']) (by omega) (by omega) ?_; intro g cap w2 ht)
  refine hK.out _ _ (cells_at ((HJ2.out.turn 2 rfl ht).get 1 rfl) 4) (fun hS9 => ?_)
  clear hK K
  (try simp only [lzP, lzA, lzS])
  have J3 := HJ2.out.turn 2 rfl ht
  have J4 := J3.turn 1 rfl (cl_set (J3.get 1 rfl) 4 (.slice (some ⟨g, 0, none⟩) (n + 1) cap))
  have b4 : w2.cell? ⟨p.b, 4, none⟩ = some (.slice a n cc) := cells_at (J3.get 1 rfl) 4
  have z4 : w2.frozen? ⟨p.b, 4, none⟩ = false := cells_fz (J3.get 1 rfl) 4
  have b5 : (w2.setCell ⟨p.b, 4, none⟩ (.slice (some ⟨g, 0, none⟩) (n + 1) cap)).cell? ⟨p.b, 4, none⟩ = some (.slice (some ⟨g, 0, none⟩) (n + 1) cap) := cells_at (J4.get 1 rfl) 4
  have HE := Lib.hid (open_end J4).shut
  clear J3 J4 ht
  refine wfE 10 rfl ?_
  (try simp only [lzP, lzA, lzS])
  refine wfE 11 rfl ?_
  (try simp only [lzP, lzA, lzS])
  refine wpAnyE_ready (rs := [12]) (by as_aux_lemma => kernel_rfl) (by simp) ?_
  refine AllReadyE.last (o := _) rfl (fun K hK => ?_)
  rw [if_pos (by as_aux_lemma => rfl)]
  (try simp only [lzA])
  go_simp
  refine hK.out _ _ trivial (fun _ => ?_)
  clear hK K
  (try simp only [lzP, lzA, lzS])
  refine wpAnyE_done (by as_aux_lemma => kernel_rfl) ?_ _
  go_wp2_with (fail)
  go_ret
  refine ⟨by first | rfl | simp, p.more n w1.heap.size w.heap.size g cap, rfl, rfl, HE.out⟩
end
end Go.Proofs.YtboehbfagnocpaaGreatDoor
namespace Go.Proofs.YtboehbfagnocpaaGreatDoor
open Go.RowKit Go.PlainAid Go.Shelf
section
variable {D : Nat → Prop} {w0 w : World} {L L2 : List Res}
theorem Hav.sel (h : Hav D w0 L w) (ix : List Nat) (hn : ix.Nodup) (he : L2.map some = ix.map (fun i => L[i]?)) : Hav D w0 L2 w := by
  have hlen : L2.length = ix.length := by have := congrArg List.length he; simpa using this
  have hget : ∀ a (ha : a < L2.length), L[ix[a]'(by omega)]? = some L2[a] := fun a ha => by
    have h1 := congrArg (fun l => l[a]?) he
    simp only [List.getElem?_map, List.getElem?_eq_getElem ha, List.getElem?_eq_getElem (show a < ix.length by omega), Option.map_some, Option.some.injEq] at h1
    exact h1.symm
  refine ⟨fun r hr => ?_, List.pairwise_iff_getElem.2 fun a b ha hb hab => ?_, fun r hr => ?_, h.tch⟩
  · obtain ⟨a, ha, rfl⟩ := List.mem_iff_getElem.1 hr
    exact h.all _ (List.mem_of_getElem? (hget a ha))
  · refine fun x hx => h.apart (hget a ha) (hget b hb) (fun e => ?_) x hx
    have := (List.getElem_inj hn).1 e
    omega
  · obtain ⟨a, ha, rfl⟩ := List.mem_iff_getElem.1 hr
    exact h.lo _ (List.mem_of_getElem? (hget a ha))
theorem Hav.use {P : Prop} (h : Hav D w0 L w) (f : Hav D w0 L w → P) : P := f h
theorem hav_rowNil (h : Hav D w0 L w) (E z : Nat) : Hav D w0 (rowAt (.slice none 0 0) E z 0 [] :: L) w := by
  have hn : ∀ b, ¬ (rowAt (.slice none 0 0) E z 0 []).B b := fun b hb => by
    have e : (none : Option Nat) = some b := hb
    cases e
  refine ⟨fun r hr => ?_, List.pairwise_cons.2 ⟨fun r hr b hb => absurd hb (hn b), h.ap⟩, fun r hr b hb => ?_, h.tch⟩
  · rcases List.mem_cons.1 hr with rfl | h1
    · exact row_nil _ _ _
    · exact h.all r h1
  · rcases List.mem_cons.1 hr with rfl | h1
    · exact absurd hb (hn b)
    · exact h.lo r h1 b hb
theorem hav_add {r : Res} (h : Hav D w0 L w) (hR : r.R w) (hn : ∀ b, ¬ r.B b) : Hav D w0 (r :: L) w := by
  refine ⟨fun s hr => ?_, List.pairwise_cons.2 ⟨fun s hr b hb => absurd hb (hn b), h.ap⟩, fun s hr b hb => ?_, h.tch⟩
  · rcases List.mem_cons.1 hr with rfl | h1
    · exact hR
    · exact h.all s h1
  · rcases List.mem_cons.1 hr with rfl | h1
    · exact absurd hb (hn b)
    · exact h.lo s h1 b hb
theorem cells_row {g n : Nat} {vs : Array Value} {t : TypeId} (h : (cellsAt g vs t).R w) (hs : vs.size = n) (hm : n ≤ maxLen) : (rowAt (.slice (some ⟨g, 0, .none⟩) n n) t 1 n vs.toList).R w :=
  ⟨by simp [hs], .inr ⟨g, n, vs, rfl, Nat.zero_le _, h, Nat.le_refl _, hm, by simp [hs], by rw [Nat.mul_one, ← hs, ← Array.length_toList, List.take_length]⟩⟩
end
end Go.Proofs.YtboehbfagnocpaaGreatDoor
namespace Go.Proofs.YtboehbfagnocpaaGreatDoor
open Go.RowKit Go.PlainAid Go.Shelf
open SP
open PM (Cd An Sd Vl)
def arR (g k : Nat) : Res where
  R w := Ar w g k 1 512 (.slice none 0 0) [0] []
  B b := b = g ∨ b = k
  keep h ht hd := ⟨(ht.block _ (Array.getElem?_eq_some_iff.1 h.box).1 (hd _ (.inl rfl))).trans h.box, own_tchB h.own ht (fun b hb => hd b (.inr (by cases hb; rfl))), own_tchB h.byt ht (fun b hb => by cases hb), h.len, h.np1, h.rng, h.siz⟩
  lt h hx := by
    rcases hx with rfl | rfl
    · exact (Array.getElem?_eq_some_iff.1 h.box).1
    · exact (rowAt (.slice (some ⟨_, 0, none⟩) 1 1) 3 1 1 ([0].map (.int .i64))).lt h.own rfl
theorem ar_new (w : World) : Calls Tryz.prog 43 #[.int .i64 1, .int .i64 512] w fun e w' => ∃ g k, e = .returned (.tuple #[.pointer (some ⟨g, 0, none⟩), .int .i64 0]) ∧ Made (arR g k) w w' :=
  (new_yes 1 512 w (by decide)).mono (fun e w' hh => by
    rcases hh with ⟨h, _⟩ | ⟨_, g, k, h1, h2, h3, h4, h5⟩
    · exact absurd h (by decide)
    · exact ⟨g, k, h1, h2, h5, fun b hb => by rcases hb with rfl | rfl <;> assumption⟩)
abbrev zrow (zb zc : Nat) : Res := rowAt (.slice (some ⟨zb, 0, none⟩) 4 zc) 3 1 4 (ints zs)
theorem sz_new (w : World) : Calls Tryz.prog 42 #[.int .i64 512, .int .i64 200] w fun e w' => ∃ zb zc, e = .returned (.tuple #[.slice (some ⟨zb, 0, none⟩) 4 zc, .int .i64 0]) ∧ Made (zrow zb zc) w w' :=
  (SZ.new_good 512 200 w (by unfold SZ.M.Bad; decide)).mono (fun e w' hh => by
    obtain ⟨v, h1, h2, h3⟩ := hh
    rw [SZ.row512] at h2
    rw [show SZ.M.errno 512 200 = 0 by decide +kernel] at h1
    rcases h2.2 with ⟨_, h0⟩ | ⟨g, cap, cur, rfl, hb, h4⟩
    · cases h0
    · exact ⟨g, cap, h1, ⟨h2.1, .inr ⟨g, cap, cur, rfl, Nat.zero_le _, h4⟩⟩, h3, fun b hb' => by
        have hb' : some g = some b := hb'
        cases hb'; exact hb⟩)
theorem slab_new {g k zb zc : Nat} {w : World} (hA : (arR g k).R w) (hz : (zrow zb zc).R w) : Calls Tryz.prog 46 #[.pointer (some ⟨g, 0, none⟩), .slice (some ⟨zb, 0, none⟩) 4 zc] w fun e w' =>
    ∃ β : Bk, e = .returned (.tuple #[.pointer (some ⟨β.sb, 0, none⟩), .int .i64 0]) ∧ β.g = g ∧ Turn (arR g k) (slabR β pi0 0) w w' := by
  have hcap : 4 ≤ zc := by
    rcases hz.2 with ⟨h1, _⟩ | ⟨g', cap', cur, e, _, _, h3, _⟩
    · cases h1
    · cases e; exact h3
  have hri : RI w (.slice (some ⟨zb, 0, none⟩) 4 zc) zs := ⟨some ⟨zb, 0, none⟩, zc, rfl, fun _ => ⟨zb, 0, rfl, fun i hi => by
    have hi : i < 4 := hi
    rw [Nat.zero_add, row_at hz i hi]
    rcases (by omega : i = 0 ∨ i = 1 ∨ i = 2 ∨ i = 3) with rfl | rfl | rfl | rfl <;> rfl⟩⟩
  refine (new_ok (S := 512) hA (by decide) ⟨zb, 0, none⟩ 4 zc zs hri hcap ⟨by decide, by decide, by decide, fun i hi => by have hi : i + 1 < 4 := hi; rcases (by omega : i = 0 ∨ i = 1 ∨ i = 2) with rfl | rfl | rfl <;> decide⟩).mono (fun e w' hh => ?_)
  obtain ⟨β, h1, h2, h3, h4, h5⟩ := hh
  refine ⟨β, h1, h4, h2, Tch.of_below _ h3, fun b hb => ?_⟩
  rcases h5 b hb with (h6 | h6 | h6) | h6
  · exact .inl (.inl h6)
  · exact .inl (.inr h6)
  · cases h6
  · exact .inr h6
theorem tab_made {b : Nat} {w w' : World} {e : Ending} (hh : TabPost b w e w') : ∃ tb rb, e = .returned (.pointer (some ⟨tb, 0, none⟩)) ∧ Made (tab0 tb rb b) w w' := by
  obtain ⟨tb, rb, h1, h2, h3, h4, h5⟩ := hh
  refine ⟨tb, rb, h1, h2, h3, fun x hx => ?_⟩
  rcases hx with hx | hx
  · have hx : x = tb := hx
    rw [hx]; exact h4
  · have hx : x = rb := hx
    rw [hx]; exact h5
end Go.Proofs.YtboehbfagnocpaaGreatDoor
