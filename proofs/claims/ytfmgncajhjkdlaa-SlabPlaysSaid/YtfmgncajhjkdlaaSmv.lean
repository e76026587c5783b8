/- Move. -/
import Derived.Test.YtfmgncajhjkdlaaScl
namespace Go.Proofs.Ytfmgncajhjkdlaa
open Go.RowKit Go.PlainAid
open SP
set_option linter.unusedVariables false
set_option linter.unusedSimpArgs false

def mvE (π : Pi) (p c : Int) : Nat := match pageI π p with
  | none => 7
  | some x => if x.cl = false then 7 else if ¬ (0 ≤ c ∧ c < (π.sz.length : Int)) then 1 else if 0 < x.n then 10 else 0
def mvS (π : Pi) (p c : Int) : Pi := if mvE π p c = 0 then freshP { π with ow := π.ow.set p.toNat (c + 1) } p.toNat c.toNat else π
def MvPost (β : Bk) (π : Pi) (L : Nat) (p c : Int) (w : World) (e : Ending) (w' : World) : Prop :=
  e = .returned (.int .i64 (mvE π p c : Nat)) ∧ ∃ β', Mem w' β' (mvS π p c) (L + 2000) ∧ Step w β π w' β' (mvS π p c)
theorem mvNo {w : World} {β : Bk} {π : Pi} {L k : Nat} {p c : Int} (h : Mem w β π L) (hk : mvE π p c = k) (h0 : k ≠ 0) : MvPost β π L p c w (.returned (.int .i64 (k : Nat))) w := by
  refine ⟨by rw [hk], β, ?_⟩
  unfold mvS
  rw [hk, if_neg h0]
  exact ⟨h.more (by omega), Step.refl _ _ _⟩
theorem pageI_inv {π : Pi} {p : Int} {x : Pg} (h : pageI π p = some x) : ∃ q : Nat, p = q ∧ π.page q = some x := by
  unfold pageI at h
  split at h
  · rename_i h0
    exact ⟨p.toNat, by omega, h⟩
  · cases h

set_option maxRecDepth 100000 in
set_option maxHeartbeats 4000000 in
theorem move_any {w : World} {β : Bk} {π : Pi} {L : Nat} (h : Mem w β π L) (hw : Wf π L) (p c : Int) (hp : -9223372036854775808 ≤ p ∧ p ≤ 9223372036854775807) (hm : L + 2000 ≤ 100000000) :
    Calls Try.prog 16 #[.pointer (some ⟨β.sb, 0, none⟩), .int .i64 p, .int .i64 c] w (MvPost β π L p c w) := by
  have s3 := h.s3
  have s0 := h.s0
  have hlk := h.look p hp
  cases hx : pageI π p with
  | none =>
    have Hp := Lib.hid (mvNo (p := p) (c := c) (k := 7) h (by unfold mvE; rw [hx]) (by omega))
    rw [fm_pageI, hx] at hlk
    simp only [Option.map_none, pval] at hlk
    clear h hx
    go_enter Try.func16, Try.ntmps16
    go_wp2
    go_ret
    exact Hp.out
  | some x =>
    obtain ⟨q, rfl, hx2⟩ := pageI_inv hx
    rw [fm_pageI, hx] at hlk
    simp only [Option.map_some, pval, Int.toNat_natCast] at hlk
    have kc := (h.page hx2).2.2.1
    have kn := (h.page hx2).2.1
    cases hcl : x.cl with
    | false =>
      have Hp := Lib.hid (mvNo (p := q) (c := c) (k := 7) h (by unfold mvE; rw [hx]; dsimp only; rw [hcl]; rfl) (by omega))
      rw [hcl] at kc
      clear h hx hx2
      go_enter Try.func16, Try.ntmps16
      go_wp2
      go_ret
      exact Hp.out
    | true =>
      rw [hcl] at kc
      by_cases hc : 0 ≤ c ∧ c < (π.sz.length : Int)
      case neg =>
        have Hc := Lib.hid (class_at h c (b := false) (by simpa using hc))
        have Hp := Lib.hid (mvNo (p := q) (c := c) (k := 1) h (by unfold mvE; rw [hx]; dsimp only; rw [hcl, if_neg (by simp), if_pos hc]) (by omega))
        clear h hx hx2 hc
        go_enter Try.func16, Try.ntmps16
        go_wp2_with (go_at_call 28; refine Hc.out.mono ?_; rintro e w' ⟨rfl, rfl⟩)
        go_ret
        exact Hp.out
      case pos =>
        have Hc := Lib.hid (class_at h c (b := true) (by simpa using hc))
        by_cases hn : 0 < x.n
        · have Hp := Lib.hid (mvNo (p := q) (c := c) (k := 10) h (by unfold mvE; rw [hx]; dsimp only; rw [hcl, if_neg (by simp), if_neg (by simpa using hc), if_pos hn]) (by omega))
          clear h hx hx2
          go_enter Try.func16, Try.ntmps16
          go_wp2_with (go_at_call 28; refine Hc.out.mono ?_; rintro e w' ⟨rfl, rfl⟩)
          go_ret
          exact Hp.out
        · obtain ⟨k, rfl⟩ := Int.eq_ofNat_of_zero_le hc.1
          have hk : k < π.sz.length := by omega
          have hkk : (k : Int) < 63 := by have := hw.k1; omega
          have hE : mvE π q k = 0 := by unfold mvE; rw [hx]; dsimp only; rw [hcl, if_neg (by simp), if_neg (by simpa using hc), if_neg hn]
          have hql := hw.page_lt hx2
          have hps := hw.page_some hx2
          have HA := Lib.hid (pass_any (h.ar hw) q k)
          have ho : ¬ AP.owner π.ow q < 0 := by rw [AP.owner_at hql]; omega
          have Hg : Hid (∀ e w', PaPost π.ow π.bs β.g β.k π.ow.length π.S β.bv q k w e w' → ∃ v, e = .returned v ∧ Mem w' β { π with ow := π.ow.set q ((k : Int) + 1) } L ∧ Step w β π w' β { π with ow := π.ow.set q ((k : Int) + 1) }) := Lib.hid (fun e w' ⟨he, hA', hg⟩ => by
            have ok : AP.okO (k : Int) = true := by unfold AP.okO; exact decide_eq_true ⟨by omega, hkk⟩
            unfold AP.paO at hA'
            rw [if_neg ho, if_pos ok, Int.toNat_natCast] at hA'
            exact ⟨_, he, h.owned hA' hg⟩)
          have HW : Hid (Wf (setPg { π with ow := π.ow.set q ((k : Int) + 1) } q (frPg { π with ow := π.ow.set q ((k : Int) + 1) } k)) (L + 1)) := Lib.hid ((hw.newPg hql hk (fun y hy => by rw [hx2] at hy; cases hy; exact hcl)).mono (by omega) (by omega))
          have Hown : Hid (AP.owner (π.ow.set q ((k : Int) + 1)) q = k) := Lib.hid (by rw [AP.owner_at (by simpa using hql), List.getElem?_set_self hql]; simp)
          have Hfin : Hid (∀ w' β', Mem w' β' (freshP { π with ow := π.ow.set q ((k : Int) + 1) } q k) (L + 1) → Step w β π w' β' (freshP { π with ow := π.ow.set q ((k : Int) + 1) } q k) → MvPost β π L q k w (.returned (.int .i64 0)) w') := Lib.hid (fun w' β' h1 h2 => by
            refine ⟨by rw [hE]; rfl, β', ?_⟩
            unfold mvS
            rw [hE, if_pos rfl, Int.toNat_natCast, Int.toNat_natCast]
            exact ⟨h1.more (by omega), h2⟩)
          have Hql := Lib.hid hql
          clear h hx hx2 hps hE ho hql
          go_enter Try.func16, Try.ntmps16
          go_wp2_with (first
            | (go_at_call 28; refine Hc.out.mono ?_; rintro e w' ⟨rfl, rfl⟩)
            | (go_at_call 35; refine HA.out.mono ?_; intro e w1 hg1; obtain ⟨v1, rfl, hM1, hS1⟩ := Hg.out e w1 hg1; clear hg1)
            | (go_at_call 30; refine (fresh_any hM1 q k HW.out Hown.out hk (by simpa using Hql.out)).mono ?_; rintro e w2 ⟨⟨v2, rfl⟩, β2, hM2, hS2⟩))
          go_ret
          exact Hfin.out _ _ hM2 (hS1.trans hS2)
end Go.Proofs.Ytfmgncajhjkdlaa
