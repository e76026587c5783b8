/- Tcv. -/
import Derived.Test.YtboehbfagnocpaaGreatDoorUbn
import Derived.Test.YtboehbfagnocpaaGreatDoorUbt
set_option linter.unusedVariables false
set_option linter.unusedSimpArgs false
set_option maxRecDepth 100000
open Go.Proofs.Tryz
open Go.Lib (hid)
namespace Go.Proofs.YtboehbfagnocpaaGreatDoor
open Go.RowKit Go.PlainAid Go.Shelf
open SP
open PM (Cd An Sd Vl upd upd_same upd_ne)
abbrev kn : ByteArray := ⟨#[110]⟩
theorem nx_set_n : Nx ⟨#[110]⟩ (.set 0 PM.nV) := nx_set (kc := 110) (fc := 48) (vc := 48) rfl (by decide +kernel) (by decide +kernel) (by decide +kernel) (by decide) (by decide +kernel) (by decide +kernel) (by decide +kernel) (by decide +kernel) ln0 (by decide +kernel) (by decide +kernel)
theorem nx_get_n : Nx ⟨#[110]⟩ .get := nx_get (kc := 110) rfl (by decide +kernel) (by decide) (by decide +kernel) (by decide +kernel) (by decide +kernel) (by decide +kernel)
theorem nx_incr_n {d : Nat} (hd : d < 18446744073709551616) : Nx ⟨#[110]⟩ (.incr d) := nx_incr (kc := 110) rfl (by decide +kernel) (by decide) (by decide) hd
theorem set_text_n : txC ⟨#[110]⟩ (.set 0 PM.nV) = ⟨#[115, 101, 116, 32, 110, 32, 48, 32, 48, 32, 49, 13, 10, 48, 13, 10]⟩ := by decide +kernel
theorem get_text_n : txC ⟨#[110]⟩ .get = ⟨#[103, 101, 116, 32, 110, 13, 10]⟩ := by decide +kernel
theorem incr_text_n (d : Nat) : txC ⟨#[110]⟩ (.incr d) = ⟨#[105, 110, 99, 114, 32, 110, 32]⟩ ++ dec d ++ ⟨#[13, 10]⟩ := by
  show (⟨#[105, 110, 99, 114, 32]⟩ ++ (⟨#[110]⟩ : ByteArray) ++ ⟨#[32]⟩) ++ dec d ++ crlf = _
  rw [show (⟨#[105, 110, 99, 114, 32]⟩ ++ (⟨#[110]⟩ : ByteArray) ++ ⟨#[32]⟩ : ByteArray) = ⟨#[105, 110, 99, 114, 32, 110, 32]⟩ from by decide +kernel]
  rfl
theorem set_told_n : rpC ⟨#[110]⟩ (.set 0 PM.nV, (PM.stp PM.d1.data (.set 0 PM.nV)).2) = stored := by decide +kernel
theorem get_told_n {v t : Nat} {d : Sd} (hd : d = ⟨some ⟨0, .num v, t, 0⟩, t⟩) : rpC ⟨#[110]⟩ (.get, (PM.stp d .get).2) = ⟨#[86, 65, 76, 85, 69, 32, 110, 32, 48, 32]⟩ ++ dec (dec v).size ++ ⟨#[13, 10]⟩ ++ dec v ++ ⟨#[13, 10, 69, 78, 68, 13, 10]⟩ := by
  subst hd
  show (⟨#[86, 65, 76, 85, 69, 32]⟩ ++ (⟨#[110]⟩ : ByteArray) ++ ⟨#[32]⟩ ++ dec 0 ++ ⟨#[32]⟩) ++ dec (dec v).size ++ crlf ++ dec v ++ ⟨#[13, 10, 69, 78, 68, 13, 10]⟩ = _
  rw [show (⟨#[86, 65, 76, 85, 69, 32]⟩ ++ (⟨#[110]⟩ : ByteArray) ++ ⟨#[32]⟩ ++ dec 0 ++ ⟨#[32]⟩ : ByteArray) = ⟨#[86, 65, 76, 85, 69, 32, 110, 32, 48, 32]⟩ from by decide +kernel]
  rfl
theorem gC_setn : gC ⟨#[110]⟩ False (.set 0 PM.nV) := ⟨⟨by decide, PM.nV_ok⟩, nx_set_n, fun d h => (by cases h), fun j => j.elim⟩
theorem gC_getn : gC ⟨#[110]⟩ True .get := ⟨trivial, nx_get_n, fun d h => (by cases h), fun _ => trivial⟩
theorem gC_incr {d : Nat} (hd : d < 18446744073709551616) : gC ⟨#[110]⟩ True (.incr d) := ⟨hd, nx_incr_n hd, fun _ _ => trivial, fun _ => trivial⟩
section
variable {key : ByteArray} {need : Bool} {nw nc B : Nat} {t : Mac}
theorem Wj.rise (h : Wj key False need nw nc B t) (hw : ∀ w, t.wk w = none) (hq : ∀ c, t.q c = []) (hn : PM.numS t.data) : Wj key True true nw nc B t :=
  ⟨fun w k hk => absurd hk (by rw [hw]; simp), h.qs, fun c x hx => absurd hx (by rw [hq]; simp), h.qn, h.outs, fun c x hx => ⟨(h.outa c x hx).1, fun d e => ((h.outa c x hx).2 d e).1.elim⟩, h.ev, h.seq,
    ⟨⟨h.data.1.1, fun _ => by obtain ⟨y, hy, _⟩ := hn; rw [hy]; rfl, h.data.1.2.2⟩, fun _ => hn⟩⟩
end
theorem wj_d1 : Wj kn False false 4 4 4 PM.d1 := Wj.ini.fd (by decide) gC_setn
theorem wj_d2 : Wj kn True true 4 4 4 PM.d2 := by
  have h1 := (wj_d1).allS (c := 0) (by decide) 4
  rw [(PM.all_run (step := PM.stp) (a0 := PM.an0) (PM.idle_d1.wk 0) (PM.idle_d1.busy 0) PM.idle_d1.hold (c := 0) (x := .set 0 PM.nV) rfl rfl).2.2.2.1] at h1
  exact Wj.rise h1 PM.idle_d2.wk (fun c => by show PM.d2.q c = []; rw [PM.d2_q]) ⟨_, rfl, trivial⟩
theorem wj_d3i {m d c B : Nat} (hd : d < 18446744073709551616) (hc : c < 4) (h : Wj kn True true 4 4 B (PM.d3 m d c 0)) : ∀ i, Wj kn True true 4 4 (B + 4 * i) (PM.d3 m d c i)
  | 0 => h
  | i + 1 => by
    have h1 := (wj_d3i hd hc h i).fd hc (gC_incr hd)
    rw [PM.d3_succ] at h1
    exact h1
theorem wj_d3 {m d : Nat} (hd : d < 18446744073709551616) : ∀ c, c ≤ 4 → Wj kn True true 4 4 (4 + 4 * (m * c)) (PM.d3 m d c 0)
  | 0, _ => by rw [PM.d3_0]; exact wj_d2
  | c + 1, h => by
    have h1 := wj_d3i hd (by omega) (wj_d3 (m := m) hd c (by omega)) m
    rw [PM.d3_next] at h1
    rw [show 4 + 4 * (m * (c + 1)) = 4 + 4 * (m * c) + 4 * m from by rw [Nat.mul_succ]; omega]
    exact h1
theorem andN7 (n : Int) : ∃ k : Nat, k < 8 ∧ bits .and .i64 n 7 = (k : Int) := by
  have h3 : (BitVec.ofInt 64 7).toNat = 2 ^ 3 - 1 := by decide
  have key : (BitVec.ofInt 64 n &&& BitVec.ofInt 64 7).toNat = (n % ((2 ^ 64 : Nat) : Int)).toNat % 2 ^ 3 := by
    rw [BitVec.toNat_and, BitVec.toNat_ofInt, h3, Nat.and_two_pow_sub_one_eq_mod]
  refine ⟨(n % ((2 ^ 64 : Nat) : Int)).toNat % 2 ^ 3, Nat.mod_lt _ (by decide), ?_⟩
  show IntKind.i64.wrap (((BitVec.ofInt 64 n &&& BitVec.ofInt 64 7).toNat : Nat) : Int) = _
  rw [key, IntKind.wrap_i64]
  omega
end Go.Proofs.YtboehbfagnocpaaGreatDoor
