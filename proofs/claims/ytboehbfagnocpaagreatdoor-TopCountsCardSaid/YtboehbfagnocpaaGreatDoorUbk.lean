/- Tza, Tsn, Tsk, Tdp. -/
import Derived.Test.YtboehbfagnocpaaGreatDoorUat
import Derived.Test.YtboehbfagnocpaaGreatDoorUau
import Derived.Test.YtboehbfagnocpaaGreatDoorUav
import Derived.Test.YtboehbfagnocpaaGreatDoorUbh
import Derived.Test.YtboehbfagnocpaaGreatDoorUbi
import Derived.Test.YtboehbfagnocpaaGreatDoorUbj
import Derived.Test.YtboehbfagnocpaaGreatDoorUaz
import Derived.Test.YtboehbfagnocpaaGreatDoorUbd
import Derived.Test.YtboehbfagnocpaaGreatDoorUbf
import Derived.Test.YtboehbfagnocpaaGreatDoorUbg
set_option linter.unusedVariables false
set_option linter.unusedSimpArgs false
set_option maxRecDepth 100000
open Go.Proofs.Tryz
open Go.Lib (hid)
namespace Go.Proofs.YtboehbfagnocpaaGreatDoor
open Go.RowKit Go.PlainAid Go.Shelf
theorem told5 {N : Nat} {cas : Int} {c : Cm} {W : World} (h : (mnR N cas c).R W) (e : Ending) (w' : World) (hh : e = .returned (.agg (ansT 5)) ∧ Below W.heap.size W w') :
    ∃ ia im ic r, (ia = none ∧ im = 0 ∧ ic = 0 ∧ r = emp) ∧ e = .returned (.agg (ans1 5 ⟨#[]⟩ 0 ⟨#[]⟩ 0 0 0)) ∧ Turn (mnR N cas c) (many [wdR N (.slice ia im ic) cas c false, r]) W w' :=
  ⟨none, 0, 0, emp, ⟨rfl, rfl, rfl, rfl⟩, hh.1, by
    have t := (Turn.rfl' h).below hh.2
    refine t.trans (Turn.conv t.here (fun h => ⟨fun r hr => ?_, ?_⟩) (fun b ⟨r, hr, hb⟩ => ?_))
    · rcases List.mem_cons.1 hr with rfl | hr
      · exact h
      · rw [List.mem_singleton.1 hr]; exact trivial
    · exact List.pairwise_cons.2 ⟨fun r hr b _ hb => by rw [List.mem_singleton.1 hr] at hb; exact hb.elim, List.pairwise_singleton _ _⟩
    · rcases List.mem_cons.1 hr with rfl | hr
      · exact hb
      · rw [List.mem_singleton.1 hr] at hb; exact hb.elim⟩
theorem apply_get_is {xb xc : Nat} {cas : Int} {key v value : ByteArray} {fl ca la flags tok delta : Int} {hasCas : Bool} {w : World} (hc : CmOk ⟨1, 0, key, value, flags, 0, tok, hasCas, delta, -1⟩) (hv : value.size ≤ 100) (hc0 : 0 ≤ cas) (hc1 : cas ≤ 1000000) (hx : ∀ j u, (itmL key fl v ca la)[j]? = some u → w.cell? ⟨xb, j, none⟩ = some u) :
    Calls prog 51 #[.agg #[.slice (some ⟨xb, 0, .none⟩) 1 xc, .int .u64 cas, .int .i64 0], .int .i64 1, .agg (Cm.vs ⟨1, 0, key, value, flags, 0, tok, hasCas, delta, -1⟩), .int .i64 472] w fun e w' => ∃ g cap, e = .returned (.tuple #[.agg #[.slice (some ⟨g, 0, none⟩) 1 cap, .int .u64 cas, .int .i64 0], .agg (ans1 1 key fl v ca 1 0)]) ∧ Made (rowI g cap key fl v ca 1) w w' :=
  apply_is (.inl ⟨rfl, rfl⟩) hc hx (fun N g cap W hb h => get_is h rfl)
theorem apply_set_is {xb xc : Nat} {cas : Int} {key v value : ByteArray} {fl ca la flags tok delta : Int} {w : World} (hc : CmOk ⟨2, 0, key, value, flags, 0, tok, false, delta, -1⟩) (hv : value.size ≤ 100) (hc0 : 0 ≤ cas) (hc1 : cas ≤ 1000000) (hx : ∀ j u, (itmL key fl v ca la)[j]? = some u → w.cell? ⟨xb, j, none⟩ = some u) :
    Calls prog 51 #[.agg #[.slice (some ⟨xb, 0, .none⟩) 1 xc, .int .u64 cas, .int .i64 0], .int .i64 1, .agg (Cm.vs ⟨2, 0, key, value, flags, 0, tok, false, delta, -1⟩), .int .i64 472] w fun e w' => ∃ g cap, e = .returned (.tuple #[.agg #[.slice (some ⟨g, 0, none⟩) 1 cap, .int .u64 (cas + 1), .int .i64 0], .agg (ans1 2 key flags value (cas + 1) 0 0)]) ∧ Made (rowI g cap key flags value (cas + 1) 0) w w' :=
  apply_is (.inr (.inl ⟨rfl, rfl⟩)) hc hx (fun N g cap W hb h => store_is h hc0 hc1 hc.ks hv)
theorem apply_cas_is {xb xc : Nat} {cas : Int} {key v value : ByteArray} {fl ca la flags tok delta : Int} {w : World} (hc : CmOk ⟨2, 0, key, value, flags, 0, tok, true, delta, -1⟩) (hv : value.size ≤ 100) (hct : ca = tok) (hc0 : 0 ≤ cas) (hc1 : cas ≤ 1000000) (hx : ∀ j u, (itmL key fl v ca la)[j]? = some u → w.cell? ⟨xb, j, none⟩ = some u) :
    Calls prog 51 #[.agg #[.slice (some ⟨xb, 0, .none⟩) 1 xc, .int .u64 cas, .int .i64 0], .int .i64 1, .agg (Cm.vs ⟨2, 0, key, value, flags, 0, tok, true, delta, -1⟩), .int .i64 472] w fun e w' => ∃ g cap, e = .returned (.tuple #[.agg #[.slice (some ⟨g, 0, none⟩) 1 cap, .int .u64 (cas + 1), .int .i64 0], .agg (ans1 2 key flags value (cas + 1) 0 0)]) ∧ Made (rowI g cap key flags value (cas + 1) 0) w w' :=
  apply_is (.inr (.inl ⟨rfl, rfl⟩)) hc hx (fun N g cap W hb h => store_tok h hct hc0 hc1 hc.ks hv)
theorem apply_cas_ex {xb xc : Nat} {cas : Int} {key v value : ByteArray} {fl ca la flags tok delta : Int} {w : World} (hc : CmOk ⟨2, 0, key, value, flags, 0, tok, true, delta, -1⟩) (hv : value.size ≤ 100) (hct : ¬ ca = tok) (hc0 : 0 ≤ cas) (hc1 : cas ≤ 1000000) (hx : ∀ j u, (itmL key fl v ca la)[j]? = some u → w.cell? ⟨xb, j, none⟩ = some u) :
    Calls prog 51 #[.agg #[.slice (some ⟨xb, 0, .none⟩) 1 xc, .int .u64 cas, .int .i64 0], .int .i64 1, .agg (Cm.vs ⟨2, 0, key, value, flags, 0, tok, true, delta, -1⟩), .int .i64 472] w fun e w' => ∃ g cap, e = .returned (.tuple #[.agg #[.slice (some ⟨g, 0, none⟩) 1 cap, .int .u64 cas, .int .i64 0], .agg (ans1 4 ⟨#[]⟩ 0 ⟨#[]⟩ 0 0 0)]) ∧ Made (rowI g cap key fl v ca la) w w' :=
  apply_is (.inr (.inl ⟨rfl, rfl⟩)) hc hx (fun N g cap W hb h => store_ex h hct)
theorem apply_get_no {cas : Int} {key value : ByteArray} {flags tok delta : Int} {hasCas : Bool} {w : World} (hc : CmOk ⟨1, 0, key, value, flags, 0, tok, hasCas, delta, -1⟩) (hv : value.size ≤ 100) (hc0 : 0 ≤ cas) (hc1 : cas ≤ 1000000) :
    Calls prog 51 #[.agg #[.slice none 0 0, .int .u64 cas, .int .i64 0], .int .i64 1, .agg (Cm.vs ⟨1, 0, key, value, flags, 0, tok, hasCas, delta, -1⟩), .int .i64 472] w fun e w' => e = .returned (.tuple #[.agg #[.slice none 0 0, .int .u64 cas, .int .i64 0], .agg (ansT 5)]) ∧ Below w.heap.size w w' :=
  (apply_no (Ψ := fun ia im ic r => ia = none ∧ im = 0 ∧ ic = 0 ∧ r = emp) (.inl ⟨rfl, rfl⟩) hc (fun N W hb h => (get_no h).mono (told5 h))).mono (fun e w' ⟨ia, im, ic, r, ⟨h1, h2, h3, h4⟩, h5, h6⟩ => by subst h1 h2 h3 h4; exact ⟨h5, h6.bel⟩)
theorem apply_cas_no {cas : Int} {key value : ByteArray} {flags tok delta : Int} {w : World} (hc : CmOk ⟨2, 0, key, value, flags, 0, tok, true, delta, -1⟩) (hv : value.size ≤ 100) (hc0 : 0 ≤ cas) (hc1 : cas ≤ 1000000) :
    Calls prog 51 #[.agg #[.slice none 0 0, .int .u64 cas, .int .i64 0], .int .i64 1, .agg (Cm.vs ⟨2, 0, key, value, flags, 0, tok, true, delta, -1⟩), .int .i64 472] w fun e w' => e = .returned (.tuple #[.agg #[.slice none 0 0, .int .u64 cas, .int .i64 0], .agg (ansT 5)]) ∧ Below w.heap.size w w' :=
  (apply_no (Ψ := fun ia im ic r => ia = none ∧ im = 0 ∧ ic = 0 ∧ r = emp) (.inr (.inl ⟨rfl, rfl⟩)) hc (fun N W hb h => (store_tno h).mono (told5 h))).mono (fun e w' ⟨ia, im, ic, r, ⟨h1, h2, h3, h4⟩, h5, h6⟩ => by subst h1 h2 h3 h4; exact ⟨h5, h6.bel⟩)
theorem apply_set_no {cas : Int} {key value : ByteArray} {flags tok delta : Int} {w : World} (hc : CmOk ⟨2, 0, key, value, flags, 0, tok, false, delta, -1⟩) (hv : value.size ≤ 100) (hc0 : 0 ≤ cas) (hc1 : cas ≤ 1000000) :
    Calls prog 51 #[.agg #[.slice none 0 0, .int .u64 cas, .int .i64 0], .int .i64 1, .agg (Cm.vs ⟨2, 0, key, value, flags, 0, tok, false, delta, -1⟩), .int .i64 472] w fun e w' => ∃ g cap, e = .returned (.tuple #[.agg #[.slice (some ⟨g, 0, none⟩) 1 cap, .int .u64 (cas + 1), .int .i64 0], .agg (ans1 2 key flags value (cas + 1) 0 0)]) ∧ Made (rowI g cap key flags value (cas + 1) 0) w w' :=
  (apply_no (Ψ := fun ia im ic r => ∃ g cap, ia = some ⟨g, 0, none⟩ ∧ im = 1 ∧ ic = cap ∧ r = rowI g cap key flags value (cas + 1) 0) (.inr (.inl ⟨rfl, rfl⟩)) hc (fun N W hb h => (store_no h hc0 hc1 hc.ks hv).mono (fun e w' ⟨g, cap, h1, h2⟩ => ⟨_, _, _, _, ⟨g, cap, rfl, rfl, rfl, rfl⟩, h1, h2⟩))).mono (fun e w' ⟨ia, im, ic, r, ⟨g, cap, h1, h2, h3, h4⟩, h5, h6⟩ => by subst h1 h2 h3 h4; exact ⟨g, ic, h5, h6⟩)
theorem apply_incr_is {xb xc u d : Nat} {cas : Int} {key value : ByteArray} {fl ca la flags tok : Int} {w : World} (hT : Tab w) (hu : u < 18446744073709551616) (hd : d < 18446744073709551616) (hc : CmOk ⟨3, 0, key, value, flags, 0, tok, false, d, -1⟩) (hc0 : 0 ≤ cas) (hc1 : cas ≤ 1000000) (hx : ∀ j u', (itmL key fl (dec u) ca la)[j]? = some u' → w.cell? ⟨xb, j, none⟩ = some u') :
    Calls prog 51 #[.agg #[.slice (some ⟨xb, 0, .none⟩) 1 xc, .int .u64 cas, .int .i64 0], .int .i64 1, .agg (Cm.vs ⟨3, 0, key, value, flags, 0, tok, false, (d : Int), -1⟩), .int .i64 472] w fun e w' => ∃ g cap, e = .returned (.tuple #[.agg #[.slice (some ⟨g, 0, none⟩) 1 cap, .int .u64 (cas + 1), .int .i64 0], .agg (ans1 6 key fl (dec ((u + d) % 18446744073709551616)) (cas + 1) la ((u + d) % 18446744073709551616 : Nat))]) ∧ Made (rowI g cap key fl (dec ((u + d) % 18446744073709551616)) (cas + 1) la) w w' :=
  apply_is (.inr (.inr ⟨rfl, rfl⟩)) hc hx (fun N g cap W hb h => math_is (hT.below hb) hu hd h hc0 hc1 hc.ks)
theorem apply_incr_no {d : Nat} {cas : Int} {key value : ByteArray} {flags tok : Int} {w : World} (hc : CmOk ⟨3, 0, key, value, flags, 0, tok, false, d, -1⟩) :
    Calls prog 51 #[.agg #[.slice none 0 0, .int .u64 cas, .int .i64 0], .int .i64 1, .agg (Cm.vs ⟨3, 0, key, value, flags, 0, tok, false, (d : Int), -1⟩), .int .i64 472] w fun e w' => e = .returned (.tuple #[.agg #[.slice none 0 0, .int .u64 cas, .int .i64 0], .agg (ansT 5)]) ∧ Below w.heap.size w w' :=
  (apply_no (Ψ := fun ia im ic r => ia = none ∧ im = 0 ∧ ic = 0 ∧ r = emp) (.inr (.inr ⟨rfl, rfl⟩)) hc (fun N W hb h => (math_no h).mono (told5 h))).mono (fun e w' ⟨ia, im, ic, r, ⟨h1, h2, h3, h4⟩, h5, h6⟩ => by subst h1 h2 h3 h4; exact ⟨h5, h6.bel⟩)
open SP
open PM (Cd An Sd Vl upd upd_same upd_ne)
theorem Made.from {r : Res} {w W W' : World} (hb : Below w.heap.size w W) (m : Made r W W') : Made r w W' := ⟨m.here, hb.trans (m.bel.mono hb.size), fun b h => Nat.le_trans hb.size (m.lo b h)⟩
theorem needs_ok {key : ByteArray} {h : Int} {bk ns : Nat} (hk : KeyI key h bk) (hns : ns = 4 ∨ ns = 1) {sb sc : Nat} {a : Option Addr} {w : World} (c6 : w.cell? ⟨sb, 6, none⟩ = some (.slice a ns sc)) {c : Cm} (hck : c.key = key) (hop : c.op = 1 ∨ c.op = 2 ∨ c.op = 3) :
    Calls prog 145 #[.pointer (some ⟨sb, 0, none⟩), .agg c.vs] w fun e w' => ∃ g, e = .returned (.slice (some ⟨g, 0, none⟩) 1 1) ∧ Made (rowAt (.slice (some ⟨g, 0, none⟩) 1 1) 3 1 1 [.int .i64 0]) w w' := by
  obtain ⟨op, mode, ckey, value, flags, exp, tok, hasCas, delta, recache⟩ := c
  dsimp only at hck hop
  subst hck
  have hcl := cell_lt c6
  have hb := bA w (.cells (Cm.vs ⟨op, mode, ckey, value, flags, exp, tok, hasCas, delta, recache⟩) 56)
  have hA := cells_new w (Cm.vs ⟨op, mode, ckey, value, flags, exp, tok, hasCas, delta, recache⟩) 56
  have s6 := (hb.cell (p := ⟨sb, 6, none⟩) hcl).trans c6
  obtain ⟨N, hN⟩ : ∃ N, w.heap.size = N := ⟨_, rfl⟩
  obtain ⟨W, hW⟩ : ∃ W, w.alloc (.cells (Cm.vs ⟨op, mode, ckey, value, flags, exp, tok, hasCas, delta, recache⟩) 56) = W := ⟨_, rfl⟩
  rw [hN, hW] at hA
  rw [hW] at hb s6
  have k0 : W.cell? ⟨N, 0, none⟩ = some (.int .i64 op) := cA hA 0
  have k2 : W.cell? ⟨N, 2, none⟩ = some (.string ckey) := cA hA 2
  have HH := hid hk.hash
  have HT : Hid (∀ w', Calls prog 210 #[.int .u64 h, .int .i64 ns] w' fun e w'' => e = .returned (.int .i64 0) ∧ w' = w'') := hid (by
    rcases hns with rfl | rfl
    · exact hk.st4
    · exact hk.st1)
  have g6 : (op != 6) = true := by simp; omega
  have HB := hid hb
  have HW := hid hW
  unfold Cm.vs at HW
  dsimp only at HW
  clear hk hb hA hcl c6 hW hop hns
  unfold Cm.vs
  dsimp only
  go_enter func145, ntmps145
  go_upto_region 1 with fail
  rw [HW.out]
  clear HW hN
  go_wp2_with (fail)
  have HQ : Hid (∀ w', Below W.heap.size W w' → w'.cell? ⟨N, 2, none⟩ = some (.string ckey) ∧ w'.cell? ⟨sb, 6, none⟩ = some (.slice a ns sc)) := hid (fun w' hb => ⟨(hb.cell (p := ⟨N, 2, none⟩) (cell_lt k2)).trans k2, (hb.cell (p := ⟨sb, 6, none⟩) (cell_lt s6)).trans s6⟩)
  go_region_held3 (fun w' => w'.cell? ⟨N, 2, none⟩ = some (.string ckey) ∧ w'.cell? ⟨sb, 6, none⟩ = some (.slice a ns sc)) (first | exact ⟨k2, s6⟩ | exact HQ.out _ (by go_grown) | fail) (first
    | (go_at_call 17; refine (HH.out _).mono ?_; rintro e w1 ⟨rfl, rfl⟩)
    | (go_at_call 210; refine (HT.out _).mono ?_; rintro e w1 ⟨rfl, rfl⟩))
  all_goals (go_wp2_with fail)
  all_goals go_ret
  all_goals exact ⟨_, rfl, Made.from HB.out (rowEl_new W #[.int .i64 0] 3 1 rfl).drew⟩
theorem dd_len : ∀ (k n : Nat), n < 10 ^ (k + 1) → (Lib.decDigits n).length ≤ k + 1 := by
  intro k
  induction k with
  | zero =>
    intro n h
    rw [Lib.decDigits, dif_pos (by simpa using h)]
    simp
  | succ k ih =>
    intro n h
    rw [Lib.decDigits]
    split
    · simp
    · have := ih (n / 10) (by rw [Nat.pow_succ] at h; omega)
      simp
      omega
theorem vl_size {v : Vl} (h : PM.vOk v) : (vlB v).size ≤ 20 := by
  cases v with
  | txt b => exact h
  | num n =>
    have h2 : n < 18446744073709551616 := h
    have := dd_len 19 n (by omega)
    show (Lib.decDigits n).toArray.size ≤ 20
    simpa using this
theorem cdM_ok (key : ByteArray) (x : Cd) : (cdM key x).key = key ∧ ((cdM key x).op = 1 ∨ (cdM key x).op = 2 ∨ (cdM key x).op = 3) := by
  cases x <;> exact ⟨rfl, by simp [cdM]⟩
def wkL (key : ByteArray) (l : Wl) (k : PM.Wk Cd An) : List Res := [cAt l.b (wkC l k) 143, rowAt (.slice (some ⟨l.cb, 0, none⟩) 1 l.cc) 56 16 1 (cdM key k.cmd).vs.toList,
      rowAt l.av 52 13 (if k.ph = 2 then 1 else 0) (if k.ph = 2 then anC key k.ans else []), rowAt l.hv 3 1 (if k.ph = 0 then 0 else 1) (if k.ph = 0 then [] else [.int .i64 0])]
section
variable {key : ByteArray} {h : Int} {bk nw ns nc : Nat} {p : Pl} {s s' : Mac} {w w' : World} {c : Nat}
theorem sv_keep (hR : (svR key h bk nw ns nc p s).R w) (hb : Below w.heap.size w w') : (svR key h bk nw ns nc p s).R w' := (svR key h bk nw ns nc p s).keep hR (Tch.of_below (fun _ => False) hb) (fun _ _ x => x)
theorem sv_wk (hR : (svR key h bk nw ns nc p s).R w) {wi : Nat} (hw : wi < nw) {k : PM.Wk Cd An} (hkk : s.wk wi = some k) : Hav (many (wkL key (p.wp wi) k)).B w (wkL key (p.wp wi) k) w := by
  have g8 : (fam nw (fun w => wkR key (p.wp w) (s.wk w))).R w := (Hav.open hR).get 8 rfl
  have hwk : (wkR key (p.wp wi) (s.wk wi)).R w := fam_get g8 hw
  rw [hkk] at hwk
  exact Hav.open hwk
theorem st_set (hR : (rowAt (.slice (some ⟨p.slb, 0, none⟩) ns p.slc) 3 1 ns (lst ns (stV s))).R w) {x : Int} (hh : s'.holder = none ∧ x = -1 ∨ ∃ v : Nat, s'.holder = some v ∧ x = v) :
    Turn (rowAt (.slice (some ⟨p.slb, 0, none⟩) ns p.slc) 3 1 ns (lst ns (stV s))) (rowAt (.slice (some ⟨p.slb, 0, none⟩) ns p.slc) 3 1 ns (lst ns (stV s'))) w (w.setCell ⟨p.slb, 0, none⟩ (.int .i64 x)) := by
  have t := row_set hR 0 (.int .i64 x)
  have e : (lst ns (stV s)).set 0 (.int .i64 x) = lst ns (stV s') := by
    rw [lst_set]
    refine lst_same (fun j _ => ?_)
    by_cases e : j = 0
    · subst e
      rw [upd_same]
      unfold stV
      rw [if_pos rfl]
      rcases hh with ⟨h1, rfl⟩ | ⟨v, h1, rfl⟩ <;> rw [h1] <;> rfl
    · rw [upd_ne _ _ e]
      unfold stV
      rw [if_neg e, if_neg e]
  rw [e] at t
  exact t
theorem many_swap {A B C E x : Res} (hR : (many [A, B, C, E]).R w) (hx : x.R w) (ha : ∀ b, (many [A, B, C, E]).B b → ¬ x.B b) : (many [A, B, C, x]).R w := by
  have hp := hR.2
  simp only [List.pairwise_cons, List.mem_cons, List.not_mem_nil, or_false, forall_eq_or_imp, forall_eq] at hp
  obtain ⟨⟨h1, h2, h3⟩, ⟨h4, h5⟩, h6, _⟩ := hp
  refine ⟨fun r hr => ?_, ?_⟩
  · simp only [List.mem_cons, List.not_mem_nil, or_false] at hr
    rcases hr with rfl | rfl | rfl | rfl
    · exact hR.1 _ (.head _)
    · exact hR.1 _ (.tail _ (.head _))
    · exact hR.1 _ (.tail _ (.tail _ (.head _)))
    · exact hx
  · simp only [List.pairwise_cons, List.mem_cons, List.not_mem_nil, or_false, forall_eq_or_imp, forall_eq]
    exact ⟨⟨h1, h2, fun b hb => ha b ⟨A, .head _, hb⟩⟩, ⟨h4, fun b hb => ha b ⟨B, .tail _ (.head _), hb⟩⟩, fun b hb => ha b ⟨C, .tail _ (.tail _ (.head _)), hb⟩, fun _ h => h.elim, List.Pairwise.nil⟩
theorem wk_row {wi : Nat} {k k' : PM.Wk Cd An} {l' : Wl} {ho : Option Nat} (hkk : s.wk wi = some k) (hb : l'.b = (p.wp wi).b) : lst nw (wkV { p with wp := upd p.wp wi l' } { s with holder := ho, wk := upd s.wk wi (some k') }) = lst nw (wkV p s) := by
  refine lst_same (fun j _ => ?_)
  unfold wkV
  dsimp only
  by_cases e : j = wi
  · subst e
    rw [upd_same, upd_same, hkk]
    dsimp only
    rw [hb]
  · rw [upd_ne _ _ e, upd_ne _ _ e]
theorem wk_fam {wi : Nat} {o : Option (PM.Wk Cd An)} {l' : Wl} : (fun v => wkR key (upd p.wp wi l' v) (upd s.wk wi o v)) = upd (fun v => wkR key (p.wp v) (s.wk v)) wi (wkR key l' o) := by
  funext j
  by_cases e : j = wi
  · subst e; rw [upd_same, upd_same, upd_same]
  · rw [upd_ne _ _ e, upd_ne _ _ e, upd_ne _ _ e]
theorem fam_wk {wi : Nat} {f : Nat → Res} {x r1 : Res} {D : Nat → Prop} {L : List Res} (hJ : Hav D w (x :: L) w') {i : Nat} (hi : L[i]? = some (fam nw f)) (hw : wi < nw) (hR : (f wi).R w' → x.R w' → (∀ b, (f wi).B b → ¬ x.B b) → r1.R w') (hB : ∀ b, r1.B b → (f wi).B b ∨ x.B b) : Hav D w (L.set i (fam nw (upd f wi r1))) w' := by
  have hp := fam_push (n := nw) (f := f) (i := wi) (w := w') hw hR hB
  exact hJ.push i hi hp.1 hp.2
set_option maxHeartbeats 2000000 in
theorem lock_ok (hk : KeyI key h bk) (hns : ns = 4 ∨ ns = 1) (hR : (svR key h bk nw ns nc p s).R w) {wi : Nat} (hw : wi < nw) {k : PM.Wk Cd An} (hkk : s.wk wi = some k) (hp : k.ph = 0) :
    Calls prog 80 #[.pointer (some ⟨p.b, 0, none⟩), .int .i64 wi, .pointer (some ⟨(p.wp wi).b, 0, none⟩)] w fun e w' =>
      e = .returned (.bool (!s.holder.isSome)) ∧ ∃ p' : Pl, p'.b = p.b ∧ p'.m = p.m ∧ Turn (svR key h bk nw ns nc p s) (svR key h bk nw ns nc p' (if s.holder.isSome then s else PM.lock s wi k)) w w' := by
  obtain ⟨l, hl⟩ : ∃ l, p.wp wi = l := ⟨_, rfl⟩
  have HF : Hid (∀ w', Below w.heap.size w w' → Hav (many (wkL key l k)).B w' (wkL key l k) w') := hid (fun w' hb => by rw [← hl]; exact sv_wk (sv_keep hR hb) hw hkk)
  have hcd := cdM_ok key k.cmd
  obtain ⟨c, hc⟩ : ∃ c, cdM key k.cmd = c := ⟨_, rfl⟩
  have HN : Hid (∀ w', Below w.heap.size w w' → Calls prog 145 #[.pointer (some ⟨p.b, 0, none⟩), .agg c.vs] w' fun e w'' => ∃ g, e = .returned (.slice (some ⟨g, 0, none⟩) 1 1) ∧ Made (rowAt (.slice (some ⟨g, 0, none⟩) 1 1) 3 1 1 [.int .i64 0]) w' w'') :=
    hid (fun w' hb => needs_ok hk hns (cA ((Hav.open (sv_keep hR hb)).get 0 rfl) 6) (by rw [← hc]; exact hcd.1) (by rw [← hc]; exact hcd.2))
  have HC : Hid (∀ w', Below w.heap.size w w' → ∀ j u, c.vs.toList[j]? = some u → w'.cell? ⟨l.cb, j, none⟩ = some u) := hid (fun w' hb j u hj => by
    have h1 := (HF.out w' hb).get 1 rfl
    rw [hc] at h1
    rw [row_at h1 j (List.getElem?_eq_some_iff.1 hj).1]; exact hj)
  obtain ⟨op, mode, ckey, value, flags, exp, tok, hasCas, delta, recache⟩ := c
  have HS : Hid (∀ w', Below w.heap.size w w' → w'.cell? ⟨l.b, 1, none⟩ = some (.slice (some ⟨l.cb, 0, none⟩) 1 l.cc) ∧ w'.cell? ⟨l.b, 13, none⟩ = some (.int .i64 0) ∧ w'.cell? ⟨l.cb, 0, none⟩ = some (.int .i64 op) ∧ w'.cell? ⟨l.cb, 1, none⟩ = some (.int .i64 mode) ∧ w'.cell? ⟨l.cb, 2, none⟩ = some (.string ckey) ∧ w'.cell? ⟨l.cb, 3, none⟩ = some (.string value) ∧ w'.cell? ⟨l.cb, 4, none⟩ = some (.int .u32 flags) ∧ w'.cell? ⟨l.cb, 5, none⟩ = some (.int .i64 exp) ∧ w'.cell? ⟨l.cb, 6, none⟩ = some (.bool false) ∧ w'.cell? ⟨l.cb, 7, none⟩ = some (.int .u64 tok) ∧ w'.cell? ⟨l.cb, 8, none⟩ = some (.bool hasCas) ∧ w'.cell? ⟨l.cb, 9, none⟩ = some (.int .u64 delta) ∧ w'.cell? ⟨l.cb, 10, none⟩ = some (.int .u64 0) ∧ w'.cell? ⟨l.cb, 11, none⟩ = some (.bool false) ∧ w'.cell? ⟨l.cb, 12, none⟩ = some (.bool false) ∧ w'.cell? ⟨l.cb, 13, none⟩ = some (.int .i64 0) ∧ w'.cell? ⟨l.cb, 14, none⟩ = some (.int .i64 recache) ∧ w'.cell? ⟨l.cb, 15, none⟩ = some (.bool false)) := hid (fun w' hb => by
    have h0 := (HF.out w' hb).get 0 rfl
    have hC := HC.out w' hb
    exact ⟨cA h0 1, cA h0 13, hC 0 _ rfl, hC 1 _ rfl, hC 2 _ rfl, hC 3 _ rfl, hC 4 _ rfl, hC 5 _ rfl, hC 6 _ rfl, hC 7 _ rfl, hC 8 _ rfl, hC 9 _ rfl, hC 10 _ rfl, hC 11 _ rfl, hC 12 _ rfl, hC 13 _ rfl, hC 14 _ rfl, hC 15 _ rfl⟩)
  have hn0 : (0 : Int) < ns := by rcases hns with rfl | rfl <;> decide
  have H := hid (Hav.open hR)
  have HHW := hid (And.intro hw (And.intro hkk (And.intro hp hl)))
  have S0 := HS.out w (Below.refl _ _)
  unfold Cm.vs at HN
  dsimp only at HN
  rw [hl]
  clear hR hw hkk hp hl hcd hns hk HC
  go_enter func80, ntmps80
  go_wp2_with (fail)
  go_cut [7] from 12 to 24 (fun s7 wx => ∃ g, s7 = .slice (some ⟨g, 0, none⟩) 1 1 ∧ Hid (Made (rowAt (.slice (some ⟨g, 0, none⟩) 1 1) 3 1 1 [.int .i64 0]) w wx))
  case first =>
    go_region_held3 (fun w' => w'.cell? ⟨l.b, 1, none⟩ = some (.slice (some ⟨l.cb, 0, none⟩) 1 l.cc) ∧ w'.cell? ⟨l.b, 13, none⟩ = some (.int .i64 0) ∧ w'.cell? ⟨l.cb, 0, none⟩ = some (.int .i64 op) ∧ w'.cell? ⟨l.cb, 1, none⟩ = some (.int .i64 mode) ∧ w'.cell? ⟨l.cb, 2, none⟩ = some (.string ckey) ∧ w'.cell? ⟨l.cb, 3, none⟩ = some (.string value) ∧ w'.cell? ⟨l.cb, 4, none⟩ = some (.int .u32 flags) ∧ w'.cell? ⟨l.cb, 5, none⟩ = some (.int .i64 exp) ∧ w'.cell? ⟨l.cb, 6, none⟩ = some (.bool false) ∧ w'.cell? ⟨l.cb, 7, none⟩ = some (.int .u64 tok) ∧ w'.cell? ⟨l.cb, 8, none⟩ = some (.bool hasCas) ∧ w'.cell? ⟨l.cb, 9, none⟩ = some (.int .u64 delta) ∧ w'.cell? ⟨l.cb, 10, none⟩ = some (.int .u64 0) ∧ w'.cell? ⟨l.cb, 11, none⟩ = some (.bool false) ∧ w'.cell? ⟨l.cb, 12, none⟩ = some (.bool false) ∧ w'.cell? ⟨l.cb, 13, none⟩ = some (.int .i64 0) ∧ w'.cell? ⟨l.cb, 14, none⟩ = some (.int .i64 recache) ∧ w'.cell? ⟨l.cb, 15, none⟩ = some (.bool false)) (first | exact S0 | exact HS.out _ HB6.out | exact HS.out _ (Below.refl _ _).drew) (first
      | (go_at_call 145; refine (HN.out _ (by first | exact (Below.refl _ _).drew | exact Below.refl _ _)).mono ?_; rintro e w6 ⟨g, rfl, hm6⟩; have hbb : Below w.heap.size w w6 := Below.trans (by first | exact (Below.refl _ _).drew | exact Below.refl _ _) (hm6.bel.mono (Nat.le_refl _)); have HB6 := hid hbb; have HM6 := hid hm6; clear hm6 hbb))
    all_goals (go_wp2_with fail)
    all_goals (go_meet; exact ⟨g, rfl, hid (Made.from (by exact (Below.refl _ _).drew) HM6.out)⟩)
  case rest =>
    obtain ⟨g, rfl, hm⟩ := hcut
    have J1 := H.out.made hm.out
    have g0 : wc.cell? ⟨g, 0, none⟩ = some (.int .i64 0) := row_at (J1.get 0 rfl) 0 (by decide)
    have b6 : wc.cell? ⟨p.b, 6, none⟩ = some (.slice (some ⟨p.slb, 0, none⟩) ns p.slc) := cA (J1.get 1 rfl) 6
    have t0 : wc.cell? ⟨p.slb, 0, none⟩ = some (.int .i64 (hold s.holder)) := by rw [row_at (J1.get 4 rfl) 0 (by rw [lst_len]; omega), lst_get (by omega)]; rfl
    clear S0 HS HN
    have HJ1 := hid J1
    clear J1
    cases hh : s.holder with
    | some v =>
      rw [hh] at t0
      have t0' : wc.cell? ⟨p.slb, 0, none⟩ = some (.int .i64 (v : Nat)) := t0
      have hv : (0 : Int) ≤ (v : Nat) := by omega
      clear t0 HHW
      have HE : Hid (Turn (svR key h bk nw ns nc p s) (svR key h bk nw ns nc p s) w wc) := hid (HJ1.out.sub (.cons _ (List.Sublist.refl _))).shut
      clear HJ1 HF H
      go_wp2_with (fail)
      go_loopw [27] (fun i wr => i = .int .i64 0 ∧ wr = wc) (fun _ _ => 0)
      case atStart => exact ⟨rfl, rfl⟩
      case round =>
        obtain ⟨rfl, hr⟩ := hrel
        subst hr
        go_wp2_with (fail)
        all_goals go_ret
        all_goals exact ⟨rfl, p, rfl, rfl, HE.out⟩
    | none =>
      rw [hh] at t0
      have t0' : wc.cell? ⟨p.slb, 0, none⟩ = some (.int .i64 (-1)) := t0
      clear t0
      have tf := row_fz (HJ1.out.get 4 rfl) 0
      have J2 := HJ1.out.turn 4 rfl (st_set (s' := PM.lock s wi k) (x := wi) (HJ1.out.get 4 rfl) (.inr ⟨wi, rfl, rfl⟩))
      obtain ⟨w2, hw2⟩ : ∃ w2, wc.setCell ⟨p.slb, 0, none⟩ (.int .i64 wi) = w2 := ⟨_, rfl⟩
      rw [hw2] at J2
      have HJ2 := hid J2
      have HW2 := hid hw2
      clear J2 hw2 HJ1 HF H
      go_wp2_with (fail)
      go_loopw [27] (fun i wr => (i = .int .i64 0 ∧ wr = wc) ∨ (i = .int .i64 1 ∧ wr = wc)) (fun i _ => 1 - (intOf i).toNat)
      case atStart => exact .inl ⟨rfl, rfl⟩
      case round =>
        rcases hrel with ⟨rfl, hr⟩ | ⟨rfl, hr⟩
        · subst hr
          go_wp2_with (fail)
          go_roundw
          case rel => exact .inr ⟨by first | rfl | trivial | simp, by first | rfl | trivial | simp⟩
          case measure => simp [intOf]
        · subst hr
          go_wp2_with (fail)
          go_loopw [42] (fun i wr2 => (i = .int .i64 0 ∧ wr2 = wr) ∨ (i = .int .i64 1 ∧ wr2 = w2)) (fun i _ => 1 - (intOf i).toNat)
          case atStart => exact .inl ⟨rfl, rfl⟩
          case round =>
            rcases hrel with ⟨rfl, hr2⟩ | ⟨rfl, hr2⟩
            · subst hr2
              go_wp2_with (fail)
              go_roundw
              case rel => exact .inr ⟨by first | rfl | trivial | simp, HW2.out⟩
              case measure => simp [intOf]
            · subst hr2
              clear g0 b6 t0' tf HW2
              obtain ⟨hw, hkk, hp, hl⟩ := HHW.out
              have g9 : (fam nw (fun w => wkR key (p.wp w) (s.wk w))).R wr := HJ2.out.get 9 rfl
              have hwk : (wkR key (p.wp wi) (s.wk wi)).R wr := fam_get g9 hw
              rw [hkk, hl] at hwk
              have HK : Hav (many (wkL key l k)).B wr (wkL key l k) wr := Hav.open hwk
              have hf : ∀ i, wr.frozen? ⟨l.b, i, none⟩ = false := fun i => cZ (HK.get 0 rfl) i
              have f15 := hf 15
              have f16 := hf 16
              have c16 : wr.cell? ⟨l.b, 16, none⟩ = some l.hv := cA (HK.get 0 rfl) 16
              have c15 : wr.cell? ⟨l.b, 15, none⟩ = some (.int .i64 k.ph) := cA (HK.get 0 rfl) 15
              have t1 := cl_set (HK.get 0 rfl) 16 (.slice (some ⟨g, 0, none⟩) 1 1)
              have t2 := t1.trans (cl_set t1.here 15 (.int .i64 1))
              obtain ⟨l', hl'⟩ : ∃ l' : Wl, l' = { l with hv := .slice (some ⟨g, 0, none⟩) 1 1 } := ⟨_, rfl⟩
              have ec : ((wkC l k).setIfInBounds 16 (.slice (some ⟨g, 0, none⟩) 1 1)).setIfInBounds 15 (.int .i64 1) = wkC l' { k with ph := 1 } := by rw [hl']; simp [wkC]
              rw [ec] at t2
              have t3 := (HK.turn 0 rfl t2).shut
              have t4 : Turn (wkR key (p.wp wi) (s.wk wi)) (many ((wkL key l k).set 0 (cAt l.b (wkC l' { k with ph := 1 }) 143))) wr ((wr.setCell ⟨l.b, 16, none⟩ (.slice (some ⟨g, 0, none⟩) 1 1)).setCell ⟨l.b, 15, none⟩ (.int .i64 1)) := by rw [hkk, hl]; exact t3
              have J3 := HJ2.out.turn 9 rfl (fam_turn g9 hw t4)
              have J4 := fam_wk (r1 := wkR key l' (some { k with ph := 1 })) J3 (i := 8) rfl hw (fun hR hx ha => by
                subst hl'
                rw [upd_same] at hR ha
                have h5 := many_swap hR hx ha
                rw [if_neg (by omega), if_neg (by omega)] at h5
                exact h5) (fun b hb => by
                rw [upd_same]
                subst hl'
                obtain ⟨r, hr, hb⟩ := hb
                simp only [List.mem_cons, List.not_mem_nil, or_false] at hr
                rcases hr with rfl | rfl | rfl | rfl
                · exact .inl ⟨_, .head _, hb⟩
                · exact .inl ⟨_, .tail _ (.head _), hb⟩
                · refine .inl ⟨_, .tail _ (.tail _ (.head _)), ?_⟩
                  exact hb
                · exact .inr hb)
              rw [PM.upd_upd, ← wk_fam] at J4
              have hrow := wk_row (nw := nw) (p := p) (s := s) (l' := l') (k' := { k with ph := 1 }) (ho := some wi) hkk (by rw [hl', hl])
              have HE : Hid (Turn (svR key h bk nw ns nc p s) (svR key h bk nw ns nc { p with wp := upd p.wp wi l' } (PM.lock s wi k)) w ((wr.setCell ⟨l.b, 16, none⟩ (.slice (some ⟨g, 0, none⟩) 1 1)).setCell ⟨l.b, 15, none⟩ (.int .i64 1))) := hid (by
                have h6 := J4.shut
                show Turn _ (many (svL key h bk nw ns nc { p with wp := upd p.wp wi l' } (PM.lock s wi k))) w _
                unfold svL
                rw [show lst nw (wkV { p with wp := upd p.wp wi l' } (PM.lock s wi k)) = lst nw (wkV p s) from hrow]
                exact h6)
              clear J4 hrow J3 t4 t3 t2 t1 HK hwk g9 HJ2
              go_wp2_with (fail)
              all_goals go_ret
              all_goals exact ⟨rfl, { p with wp := upd p.wp wi l' }, rfl, rfl, HE.out⟩
end
end Go.Proofs.YtboehbfagnocpaaGreatDoor
namespace Go.Proofs.YtboehbfagnocpaaGreatDoor
open Go.RowKit Go.PlainAid Go.Shelf
open SP
open PM (Cd An Sd Vl)
theorem it_ok {tok : Nat} {x : PM.It} (h : PM.ItG tok x) (ht : tok ≤ 1000000) : ItOk x := ⟨vl_size h.v, by have := h.fl; omega, by have := h.cas; omega, h.last⟩
theorem cm_ok {key : ByteArray} {h : Int} {b : Nat} (hk : KeyI key h b) (x : Cd) (hx : PM.cOk x) : CmOk (cdM key x) := by
  have h1 : W2.keyB key = true := by
    have := hk.keyB
    exact this
  cases x with
  | get => exact ⟨.inl rfl, rfl, rfl, rfl, h1, hk.size, by show (0 : Nat) ≤ 1000; decide⟩
  | set fl v => exact ⟨.inr (.inl rfl), rfl, rfl, rfl, h1, hk.size, by have := vl_size hx.2; show (vlB v).size ≤ 1000; omega⟩
  | cas t v => exact ⟨.inr (.inl rfl), rfl, rfl, rfl, h1, hk.size, by have := vl_size hx.2; show (vlB v).size ≤ 1000; omega⟩
  | incr d => exact ⟨.inr (.inr rfl), rfl, rfl, rfl, h1, hk.size, by show (0 : Nat) ≤ 1000; decide⟩
section
variable {key : ByteArray} {h : Int} {b : Nat} {m : SM} {s : Sd} {w : World}
theorem sto_most (hR : (stoR key h b m s).R w) : Calls prog 52 #[.pointer (some ⟨m.s, 0, none⟩)] w fun e w' => e = .returned (.int .i64 472) ∧ w = w' := by
  obtain ⟨it, tok⟩ := s
  cases it with
  | none => have J := Hav.open (L := stEL b m tok) hR; exact most_ok (J.get 0 rfl) (J.get 1 rfl) rfl
  | some x => have J := Hav.open (L := stL key h b m tok) hR; exact most_ok (J.get 0 rfl) (J.get 1 rfl) rfl
theorem sto_cells (hR : (stoR key h b m s).R w) : w.cell? ⟨m.s, 3, none⟩ = some (.pointer (some ⟨m.tb, 0, none⟩)) ∧ w.cell? ⟨m.s, 6, none⟩ = some (.int .i64 0) := by
  obtain ⟨it, tok⟩ := s
  cases it with
  | none => have J := Hav.open (L := stEL b m tok) hR; exact ⟨cA (J.get 0 rfl) 3, cA (J.get 0 rfl) 6⟩
  | some x => have J := Hav.open (L := stL key h b m tok) hR; exact ⟨cA (J.get 0 rfl) 3, cA (J.get 0 rfl) 6⟩
theorem sto_step (hR : (stoR key h b m s).R w) : Calls prog 53 #[.pointer (some ⟨m.tb, 0, none⟩)] w fun e w' => e = .returned (.bool false) ∧ w = w' := by
  obtain ⟨it, tok⟩ := s
  cases it with
  | none => have J := Hav.open (L := stEL b m tok) hR; exact step_any (J.get 3 rfl).1
  | some x => have J := Hav.open (L := stL key h b m tok) hR; exact step_any (J.get 3 rfl).1
def DoPost (key : ByteArray) (h : Int) (b : Nat) (m : SM) (s : Sd) (x : Cd) (w : World) (e : Ending) (w' : World) : Prop :=
  e = .returned (.tuple #[anV key (PM.stp s x).2, .slice none 0 0]) ∧ ∃ m' : SM, m'.s = m.s ∧ m'.ps.num ≤ m.ps.num + 1 ∧ StoOk key m' (PM.stp s x).1 ∧ Turn (stoR key h b m s) (stoR key h b m' (PM.stp s x).1) w w'
theorem do_some {x0 x' : PM.It} {tok tok' : Nat} {x : Cd} (hk : KeyI key h b) (hR : (stoR key h b m ⟨some x0, tok⟩).R w) (ho : StoOk key m ⟨some x0, tok⟩) (hnn : m.ps.num ≤ 1000000) {st : Nat} {it : Option PM.It} {num : Nat} (hx' : ItOk x')
    (hs : PM.stp ⟨some x0, tok⟩ x = (⟨some x', tok'⟩, ⟨st, it, num⟩)) {ak av : ByteArray} {afl aca ala : Int} (ha : anV key ⟨st, it, num⟩ = .agg #[.int .i64 st, .string ak, .int .u32 afl, .string av, .int .i64 0, .int .u64 aca, .int .i64 ala, .bool false, .bool false, .int .u64 num, .bool false, .bool false, .bool false])
    {st0 afl0 aca0 ala0 num0 cas0 : Int} {ak0 av0 : ByteArray} (h0 : st0 ≠ 0)
    (HA0 : ∀ W, Calls prog 51 #[.agg #[.slice none 0 0, .int .u64 0, .int .i64 0], .int .i64 1, .agg (cdM key x).vs, .int .i64 472] W fun e w' => ∃ sa sn sc r0, e = .returned (.tuple #[.agg #[.slice sa sn sc, .int .u64 cas0, .int .i64 0], .agg #[.int .i64 st0, .string ak0, .int .u32 afl0, .string av0, .int .i64 0, .int .u64 aca0, .int .i64 ala0, .bool false, .bool false, .int .u64 num0, .bool false, .bool false, .bool false]]) ∧ Made r0 W w')
    (HA : ∀ (W : World) (xb : Nat), Tch (stoR key h b m ⟨some x0, tok⟩).B w W → (∀ j u, (itmL key x0.fl (vlB x0.v) x0.cas x0.last)[j]? = some u → W.cell? ⟨xb, j, none⟩ = some u) →
      Calls prog 51 #[.agg #[.slice (some ⟨xb, 0, none⟩) 1 1, .int .u64 tok, .int .i64 0], .int .i64 1, .agg (cdM key x).vs, .int .i64 472] W fun e w' => ∃ g cap, e = .returned (.tuple #[.agg #[.slice (some ⟨g, 0, none⟩) 1 cap, .int .u64 tok', .int .i64 0], .agg #[.int .i64 st, .string ak, .int .u32 afl, .string av, .int .i64 0, .int .u64 aca, .int .i64 ala, .bool false, .bool false, .int .u64 num, .bool false, .bool false, .bool false]]) ∧ Made (rowI g cap key x'.fl (vlB x'.v) x'.cas x'.last) W w') :
    Calls prog 18 #[.pointer (some ⟨m.s, 0, none⟩), .int .i64 1, .agg (cdM key x).vs] w (DoPost key h b m ⟨some x0, tok⟩ x w) := by
  have hcd := cdM_ok key x
  refine (do_gen (fst := st) (fak := ak) (ffl := afl) (fav := av) (fca := aca) (fla := ala) (fnum := num) (r := stoR key h b m ⟨some x0, tok⟩) (P := fun r' => ∃ m' : SM, r' = stoR key h b m' ⟨some x', tok'⟩ ∧ m'.s = m.s ∧ m'.ps.num ≤ m.ps.num + 1 ∧ StoOk key m' ⟨some x', tok'⟩) hR hcd.2 h0 (fun W h => sto_most h) (fun W h => sto_cells h) (fun W h => sto_step h) HA0 (fun W ht hW => ?_)).mono ?_
  · refine (one_full hk hW ho hnn hcd.1 hcd.2 hx' (fun W2 xb ht2 hh => HA W2 xb (ht.trans ht2 (fun _ h => .inl h)) hh)).mono ?_
    rintro e w' ⟨rfl, m', h1, h2, h3, h4⟩
    exact ⟨rfl, _, ⟨m', rfl, h1, h2, h3⟩, h4⟩
  · rintro e w' ⟨rfl, r', ⟨m', rfl, h1, h2, h3⟩, h4⟩
    unfold DoPost
    rw [hs]
    exact ⟨by rw [ha], m', h1, h2, h3, h4⟩
theorem do_none {x' : PM.It} {tok tok' : Nat} {x : Cd} (hk : KeyI key h b) (hR : (stoR key h b m ⟨none, tok⟩).R w) (ho : StoOk key m ⟨none, tok⟩) (hnn : m.ps.num ≤ 1000000) {st : Nat} {it : Option PM.It} {num : Nat} (hx' : ItOk x')
    (hs : PM.stp ⟨none, tok⟩ x = (⟨some x', tok'⟩, ⟨st, it, num⟩)) {ak av : ByteArray} {afl aca ala : Int} (ha : anV key ⟨st, it, num⟩ = .agg #[.int .i64 st, .string ak, .int .u32 afl, .string av, .int .i64 0, .int .u64 aca, .int .i64 ala, .bool false, .bool false, .int .u64 num, .bool false, .bool false, .bool false])
    {st0 afl0 aca0 ala0 num0 cas0 : Int} {ak0 av0 : ByteArray} (h0 : st0 ≠ 0)
    (HA0 : ∀ W, Calls prog 51 #[.agg #[.slice none 0 0, .int .u64 0, .int .i64 0], .int .i64 1, .agg (cdM key x).vs, .int .i64 472] W fun e w' => ∃ sa sn sc r0, e = .returned (.tuple #[.agg #[.slice sa sn sc, .int .u64 cas0, .int .i64 0], .agg #[.int .i64 st0, .string ak0, .int .u32 afl0, .string av0, .int .i64 0, .int .u64 aca0, .int .i64 ala0, .bool false, .bool false, .int .u64 num0, .bool false, .bool false, .bool false]]) ∧ Made r0 W w')
    (HA : ∀ (W : World),
      Calls prog 51 #[.agg #[.slice none 0 0, .int .u64 tok, .int .i64 0], .int .i64 1, .agg (cdM key x).vs, .int .i64 472] W fun e w' => ∃ g cap, e = .returned (.tuple #[.agg #[.slice (some ⟨g, 0, none⟩) 1 cap, .int .u64 tok', .int .i64 0], .agg #[.int .i64 st, .string ak, .int .u32 afl, .string av, .int .i64 0, .int .u64 aca, .int .i64 ala, .bool false, .bool false, .int .u64 num, .bool false, .bool false, .bool false]]) ∧ Made (rowI g cap key x'.fl (vlB x'.v) x'.cas x'.last) W w') :
    Calls prog 18 #[.pointer (some ⟨m.s, 0, none⟩), .int .i64 1, .agg (cdM key x).vs] w (DoPost key h b m ⟨none, tok⟩ x w) := by
  have hcd := cdM_ok key x
  refine (do_gen (fst := st) (fak := ak) (ffl := afl) (fav := av) (fca := aca) (fla := ala) (fnum := num) (r := stoR key h b m ⟨none, tok⟩) (P := fun r' => ∃ m' : SM, r' = stoR key h b m' ⟨some x', tok'⟩ ∧ m'.s = m.s ∧ m'.ps.num ≤ m.ps.num + 1 ∧ StoOk key m' ⟨some x', tok'⟩) hR hcd.2 h0 (fun W h => sto_most h) (fun W h => sto_cells h) (fun W h => sto_step h) HA0 (fun W ht hW => ?_)).mono ?_
  · refine (one_none hk hW ho hnn hcd.1 hx' HA).mono ?_
    rintro e w' ⟨rfl, m', h1, h2, h3, h4⟩
    exact ⟨rfl, _, ⟨m', rfl, h1, h2, h3⟩, h4⟩
  · rintro e w' ⟨rfl, r', ⟨m', rfl, h1, h2, h3⟩, h4⟩
    unfold DoPost
    rw [hs]
    exact ⟨by rw [ha], m', h1, h2, h3, h4⟩
theorem emp_made {w w' : World} (hb : Below w.heap.size w w') : Made emp w w' := ⟨trivial, hb, fun _ h => h.elim⟩
theorem sdo_ok {x : Cd} (hk : KeyI key h b) (hR : (stoR key h b m s).R w) (ho : StoOk key m s) (hnn : m.ps.num ≤ 1000000) (htok : s.tok < 1000000) (hi : ∀ y, s.it = some y → PM.ItG s.tok y) (hx : PM.cOk x) (hd : s.it = none → ∃ fl v, x = .set fl v) (hni : ∀ d, x = .incr d → Tab w ∧ (∀ g, tabR.B g → ¬ (stoR key h b m s).B g) ∧ PM.numS s) :
    Calls prog 18 #[.pointer (some ⟨m.s, 0, none⟩), .int .i64 1, .agg (cdM key x).vs] w (DoPost key h b m s x w) := by
  have hc := cm_ok hk x hx
  obtain ⟨it, tok⟩ := s
  dsimp only at htok hi hd
  have h1 : (0 : Int) ≤ tok := by omega
  have h2 : (tok : Int) ≤ 1000000 := by omega
  cases it with
  | none =>
    obtain ⟨fl, v, rfl⟩ := hd rfl
    have hv := vl_size hx.2
    have hit : ItOk ⟨fl, v, tok + 1, 0⟩ := ⟨hv, by have := hx.1; show fl < _; omega, by show tok + 1 ≤ _; omega, Nat.zero_le _⟩
    exact do_none hk hR ho hnn hit (ak := key) (av := vlB v) (afl := fl) (aca := ((tok + 1 : Nat) : Int)) (ala := ((0 : Nat) : Int)) rfl rfl (show (2 : Int) ≠ 0 by decide)
      (fun W => (apply_set_no (cas := 0) hc (by show (vlB v).size ≤ 100; omega) (by decide) (by decide)).mono (fun e w' ⟨g, cap, he, hm⟩ => ⟨_, _, _, _, he, hm⟩))
      (fun W => apply_set_no (cas := tok) hc (by show (vlB v).size ≤ 100; omega) h1 h2)
  | some y =>
    have hy := it_ok (hi y rfl) (by omega)
    cases x with
    | get =>
      have hit : ItOk { y with last := 1 } := ⟨hy.v, hy.fl, hy.cas, Nat.le_refl _⟩
      exact do_some hk hR ho hnn hit (ak := key) (av := vlB y.v) (afl := y.fl) (aca := y.cas) (ala := ((1 : Nat) : Int)) rfl rfl (show (5 : Int) ≠ 0 by decide)
        (fun W => (apply_get_no (cas := 0) hc (by show (0 : Nat) ≤ 100; decide) (by decide) (by decide)).mono (fun e w' ⟨he, hb⟩ => ⟨_, _, _, emp, he, emp_made hb⟩))
        (fun W xb _ hxb => apply_get_is (cas := tok) hc (by show (0 : Nat) ≤ 100; decide) h1 h2 hxb)
    | set fl v =>
      have hv := vl_size hx.2
      have hit : ItOk ⟨fl, v, tok + 1, 0⟩ := ⟨hv, by have := hx.1; show fl < _; omega, by show tok + 1 ≤ _; omega, Nat.zero_le _⟩
      exact do_some hk hR ho hnn hit (ak := key) (av := vlB v) (afl := fl) (aca := ((tok + 1 : Nat) : Int)) (ala := ((0 : Nat) : Int)) rfl rfl (show (2 : Int) ≠ 0 by decide)
        (fun W => (apply_set_no (cas := 0) hc (by show (vlB v).size ≤ 100; omega) (by decide) (by decide)).mono (fun e w' ⟨g, cap, he, hm⟩ => ⟨_, _, _, _, he, hm⟩))
        (fun W xb _ hxb => apply_set_is (cas := tok) hc (by show (vlB v).size ≤ 100; omega) h1 h2 hxb)
    | cas t v =>
      have hv := vl_size hx.2
      by_cases e : y.cas = t
      · have hst : PM.stp ⟨some y, tok⟩ (.cas t v) = (⟨some ⟨0, v, tok + 1, 0⟩, tok + 1⟩, ⟨2, some ⟨0, v, tok + 1, 0⟩, 0⟩) := by simp only [PM.stp, if_pos e]
        have hit : ItOk ⟨0, v, tok + 1, 0⟩ := ⟨hv, by dsimp only; omega, by show tok + 1 ≤ _; omega, Nat.zero_le _⟩
        exact do_some hk hR ho hnn hit (ak := key) (av := vlB v) (afl := ((0 : Nat) : Int)) (aca := ((tok + 1 : Nat) : Int)) (ala := ((0 : Nat) : Int)) hst rfl (show (5 : Int) ≠ 0 by decide)
          (fun W => (apply_cas_no (cas := 0) hc (by show (vlB v).size ≤ 100; omega) (by decide) (by decide)).mono (fun e w' ⟨he, hb⟩ => ⟨_, _, _, emp, he, emp_made hb⟩))
          (fun W xb _ hxb => apply_cas_is (cas := tok) hc (by show (vlB v).size ≤ 100; omega) (by rw [e]) h1 h2 hxb)
      · have hst : PM.stp ⟨some y, tok⟩ (.cas t v) = (⟨some y, tok⟩, ⟨4, none, 0⟩) := by simp only [PM.stp, if_neg e]
        exact do_some hk hR ho hnn hy (ak := ⟨#[]⟩) (av := ⟨#[]⟩) (afl := 0) (aca := 0) (ala := 0) hst rfl (show (5 : Int) ≠ 0 by decide)
          (fun W => (apply_cas_no (cas := 0) hc (by show (vlB v).size ≤ 100; omega) (by decide) (by decide)).mono (fun e w' ⟨he, hb⟩ => ⟨_, _, _, emp, he, emp_made hb⟩))
          (fun W xb _ hxb => apply_cas_ex (cas := tok) hc (by show (vlB v).size ≤ 100; omega) (fun h => e (by have h3 : ((y.cas : Nat) : Int) = ((t : Nat) : Int) := h; omega)) h1 h2 hxb)
    | incr d =>
      obtain ⟨hT, hTn, y', hy', hnv⟩ := hni d rfl
      cases hy'
      obtain ⟨fl, v, ca, la⟩ := y
      cases v with
      | txt b => exact hnv.elim
      | num u =>
        have hu : u < 18446744073709551616 := (hi _ rfl).v
        have hdd : d < 18446744073709551616 := hx
        have hit : ItOk ⟨fl, .num ((u + d) % PM.two64), tok + 1, la⟩ := ⟨vl_size (show PM.vOk (.num ((u + d) % PM.two64)) from Nat.mod_lt _ (by decide)), hy.fl, by show tok + 1 ≤ _; omega, hy.last⟩
        exact do_some hk hR ho hnn hit (ak := key) (av := dec ((u + d) % 18446744073709551616)) (afl := fl) (aca := ((tok + 1 : Nat) : Int)) (ala := la) rfl rfl (show (5 : Int) ≠ 0 by decide)
          (fun W => (apply_incr_no (cas := 0) hc).mono (fun e w' ⟨he, hb⟩ => ⟨_, _, _, emp, he, emp_made hb⟩))
          (fun W xb ht hxb => apply_incr_is (tabR.keep hT ht hTn) hu hdd hc h1 h2 hxb)
end
end Go.Proofs.YtboehbfagnocpaaGreatDoor
