/- Put; Get. -/
import Derived.Test.YtfmgncajhjkdlaaSwh
namespace Go.Proofs.Ytfmgncajhjkdlaa
open Go.RowKit Go.PlainAid
open SP
set_option linter.unusedVariables false
set_option linter.unusedSimpArgs false

/-- the bytes of the arena turned -/
theorem Mem.wrote {w W : World} {β : Bk} {π : Pi} {L : Nat} {bv' : Value} {bs' : List Int} (h : Mem w β π L) (hA : Ar W β.g β.k π.ow.length π.S bv' π.ow bs') (ht : Tch (fun i => i = β.g ∨ β.bv.ownBlock = some i) w W) (hf : Fresh β.bv bv' w) :
    Mem W { β with bv := bv' } { π with bs := bs' } L ∧ Step w β π W { β with bv := bv' } { π with bs := bs' } := by
  refine h.updS (fun i => i = .ar ∨ i = .byt) ht ?_ ?_ ?_ rfl rfl
  · rintro b (rfl | hb)
    · exact ⟨.ar, .inl rfl, rfl⟩
    · exact ⟨.byt, .inr rfl, hb⟩
  · intro i hi
    cases i with
    | ar => exact absurd (.inl rfl) hi
    | byt => exact absurd (.inr rfl) hi
    | row c' => exact ⟨rfl, fun W' hr => hr⟩
    | pg q => exact ⟨rfl, fun W' hr => hr⟩
    | use q => exact ⟨rfl, fun W' hr => hr⟩
    | _ => exact ⟨rfl, fun W' hr => hr⟩
  · rintro i (rfl | rfl)
    · refine ⟨hA.box, fun b hb => ?_⟩
      have e : β.g = b := by simpa [blk] using hb
      subst e
      exact ⟨(Array.getElem?_eq_some_iff.1 hA.box).1, .inl rfl⟩
    · refine ⟨hA.byt, fun b hb => ?_⟩
      have hb' : bv'.ownBlock = some b := hb
      refine ⟨(hA.byt.lt b hb').2, ?_⟩
      rcases hf b hb' with h1 | h1
      · exact .inl h1
      · refine .inr ⟨h1, ?_⟩
        rintro j (rfl | rfl) hj
        · have e : β.g = b := by simpa [blk] using hj
          subst e
          exact absurd hb' hA.ne.2.1
        · rfl

def ptOk (π : Pi) (ch : Int) (n : Nat) : Nat := if usedP π ch = false then 8 else if whS π ch < (n : Int) then 4 else 0
def ptS (π : Pi) (ch : Int) (l : List Int) : Pi := if ptOk π ch l.length = 0 then { π with bs := AP.wrB π.ow π.bs π.S (whP π ch) (whA π ch) l } else π
theorem ptNo {w : World} {β : Bk} {π : Pi} {L k : Nat} {ch : Int} {l : List Int} (h : Mem w β π L) (hk : ptOk π ch l.length = k) (h0 : k ≠ 0) : ∃ β', Mem w β' (ptS π ch l) L ∧ Step w β π w β' (ptS π ch l) := by
  unfold ptS
  rw [hk, if_neg h0]
  exact ⟨β, h, Step.refl _ _ _⟩
/-- a used chunk lies in its page -/
theorem fits_of {π : Pi} {L : Nat} (h : Wf π L) {ch : Int} (hu : usedP π ch = true) : ∃ p i : Nat, ch = ((p * 4096 + i : Nat) : Int) ∧ whP π ch = p ∧ whA π ch = (i : Int) * szP π p ∧ whS π ch = szP π p ∧ p < π.ow.length ∧ 0 ≤ AP.owner π.ow p ∧ (i : Int) * szP π p + szP π p ≤ π.S ∧ 64 ≤ szP π p ∧ (∃ x, π.page p = some x ∧ i < x.used.length) := by
  obtain ⟨p, i, g, hchp, hi4, hpg, hig, hgu⟩ := usedP_inv hu
  have hps := h.page_some hpg
  have hsp := h.szP hpg
  have e1 : (ch / 4096).toNat = p := by omega
  refine ⟨p, i, hchp, by unfold whP; rw [hu, if_pos rfl]; omega, ?_, by unfold whS; rw [hu, if_pos rfl, e1], h.page_lt hpg, by rw [hsp.2.2.2]; omega, ?_, hsp.1, g, hpg, hig⟩
  · unfold whA; rw [hu, if_pos rfl, e1, show ch % 4096 = (i : Int) by omega]
  · have e : g.used.length = π.S / (szP π p).toNat := hps.2.2.1
    have hz : ((szP π p).toNat : Int) = szP π p := Int.toNat_of_nonneg (by omega)
    have h1 : (i + 1) * (szP π p).toNat ≤ π.S := Nat.le_trans (Nat.mul_le_mul_right _ (show i + 1 ≤ π.S / (szP π p).toNat by omega)) (Nat.div_mul_le_self _ _)
    have h2 : (((i + 1) * (szP π p).toNat : Nat) : Int) = (i : Int) * szP π p + szP π p := by
      rw [Nat.add_mul, Nat.one_mul, Int.natCast_add, Int.natCast_mul, hz]
    omega
theorem where_at {w : World} {β : Bk} {π : Pi} {L : Nat} (h : Mem w β π L) (hw : Wf π L) (ch : Int) (hch : ch ≤ 9223372036854775807) {p a s : Int} (hp : whP π ch = p) (ha : whA π ch = a) (hs : whS π ch = s) :
    Calls Try.prog 13 #[.pointer (some ⟨β.sb, 0, none⟩), .int .i64 ch] w fun e w' => e = .returned (.tuple #[.int .i64 p, .int .i64 a, .int .i64 s]) ∧ ∃ n, w' = w.drewN n := by
  rw [← hp, ← ha, ← hs]; exact where_any h hw ch hch

set_option maxRecDepth 100000 in
set_option maxHeartbeats 1000000 in
theorem put_any {w : World} {β : Bk} {π : Pi} {L : Nat} (h : Mem w β π L) (hw : Wf π L) (ch : Int) (hch : ch ≤ 9223372036854775807) (A : Option Addr) (n cap : Nat) (l : List Int) (hln : l.length = n) (hl : n ≤ 1000000) (hbl : π.bs.length ≤ 67108864)
    (hv : ∀ w', Tch (foot β π) w w' → RB w' (.slice A n cap) l) :
    Calls Try.prog 22 #[.pointer (some ⟨β.sb, 0, none⟩), .int .i64 ch, .slice A n cap] w fun e w' => e = .returned (.int .i64 (ptOk π ch n : Nat)) ∧ ∃ β', Mem w' β' (ptS π ch l) L ∧ Step w β π w' β' (ptS π ch l) := by
  cases hu : usedP π ch with
  | false =>
    have hk : ptOk π ch n = 8 := by unfold ptOk; rw [if_pos hu]
    have HW := Lib.hid (where_at h hw ch hch (p := -1) (a := 0) (s := 0) (by unfold whP; rw [hu]; rfl) (by unfold whA; rw [hu]; rfl) (by unfold whS; rw [hu]; rfl))
    have Hp := Lib.hid (fun m => ptNo (w := w.drewN m) (h.drewN m) (show ptOk π ch l.length = 8 by rw [hln]; exact hk) (by omega))
    have Hk := Lib.hid hk
    have HS : Hid (∀ m, Step w β π (w.drewN m) β π) := Lib.hid (fun m => Step.of_below (below_drewN (Below.refl _ _) m))
    clear h hw hv hu hk
    go_enter Try.func22, Try.ntmps22
    go_wp2_with (go_at_call 13; refine HW.out.mono ?_; rintro e w' ⟨rfl, m, rfl⟩)
    go_ret
    obtain ⟨β', h1, h2⟩ := Hp.out m
    exact ⟨by rw [Hk.out]; rfl, β', h1, (HS.out m).trans h2⟩
  | true =>
    obtain ⟨p, i, hchp, hwP, hwA, hwS, hpl, hown, hfit, hz, _⟩ := fits_of hw hu
    have HW := Lib.hid (where_at h hw ch hch hwP hwA hwS)
    have hS := hw.siz
    have hnp := hw.np1
    have s0 := h.s0
    by_cases hlg : szP π p < (n : Int)
    · have hk : ptOk π ch n = 4 := by unfold ptOk; rw [if_neg (by rw [hu]; simp), hwS, if_pos hlg]
      have Hp := Lib.hid (fun m => ptNo (w := w.drewN m) (h.drewN m) (show ptOk π ch l.length = 4 by rw [hln]; exact hk) (by omega))
      have Hk := Lib.hid hk
      have HS : Hid (∀ m, Step w β π (w.drewN m) β π) := Lib.hid (fun m => Step.of_below (below_drewN (Below.refl _ _) m))
      generalize szP π p = z at *
      generalize (i : Int) * z = a at *
      clear h hw hv hu hk hwP hwA hwS hchp hown hfit
      go_enter Try.func22, Try.ntmps22
      go_wp2_with (go_at_call 13; refine HW.out.mono ?_; rintro e w' ⟨rfl, m, rfl⟩)
      go_ret
      obtain ⟨β', h1, h2⟩ := Hp.out m
      exact ⟨by rw [Hk.out]; rfl, β', h1, (HS.out m).trans h2⟩
    · have hk : ptOk π ch n = 0 := by unfold ptOk; rw [if_neg (by rw [hu]; simp), hwS, if_neg hlg]
      have hA0 : 0 ≤ (i : Int) * szP π p := Int.mul_nonneg (by omega) (by omega)
      have hby : AP.byE π.ow π.S (p : Int) ((i : Int) * szP π p) l.length = 0 := by
        unfold AP.byE
        rw [if_neg (by omega), if_neg (by rw [hln]; omega)]
      have HWr : Hid (∀ m, Calls Try.prog 40 #[.pointer (some ⟨β.g, 0, none⟩), .int .i64 p, .int .i64 ((i : Int) * szP π p), .slice A n cap] (w.drewN m) fun e w' => e = .returned (.int .i64 0) ∧ ∃ β', Mem w' β' (ptS π ch l) L ∧ Step w β π w' β' (ptS π ch l)) := Lib.hid (fun m => by
        have hAr := (h.drewN m).ar hw
        refine (write_any hAr (p : Int) ((i : Int) * szP π p) (.slice A n cap) l hbl (by unfold maxLen; omega) (fun w' ht => hv w' ?_)).mono ?_
        · exact ((Tch.refl (foot β π) w).drewN m).trans (ht.mono (T := foot β π) (fun b hb => by
            rcases hb with rfl | hb
            · exact ⟨.ar, rfl⟩
            · exact ⟨.byt, hb⟩)) (fun b hb => .inl hb)
        · rintro e w' ⟨rfl, bv', hA', ht, hf⟩
          have hM := (h.drewN m).wrote hA' ht hf
          refine ⟨by rw [hby], { β with bv := bv' }, ?_⟩
          have e : ptS π ch l = { π with bs := AP.wrB π.ow π.bs π.S (p : Int) ((i : Int) * szP π p) l } := by
            unfold ptS; rw [hln, hk, if_pos rfl, hwP, hwA]
          rw [e]
          exact ⟨hM.1, (Step.of_below (below_drewN (Below.refl _ _) m)).trans hM.2⟩)
      have Hk := Lib.hid hk
      have s0d : ∀ m, (w.drewN m).cell? ⟨β.sb, 0, none⟩ = some (.pointer (some ⟨β.g, 0, none⟩)) := fun m => (h.drewN m).s0
      generalize szP π p = z at *
      generalize (i : Int) * z = a at *
      clear h hw hv hu hk hwP hwA hwS hchp hown hfit hby s0
      go_enter Try.func22, Try.ntmps22
      go_wp2_with (fail)
      refine HW.out.mono ?_
      rintro e w' ⟨rfl, m, rfl⟩
      have s0m := s0d m
      have HWm := Lib.hid (HWr.out m)
      clear s0d HW HWr
      generalize w.drewN m = w1 at *
      go_wp2_with (go_at_call 40; refine HWm.out.mono ?_; rintro e w' ⟨rfl, hE⟩)
      go_ret
      exact ⟨by rw [Hk.out]; rfl, hE⟩

def gtOk (π : Pi) (ch n : Int) : Nat := if usedP π ch = false then 8 else if n < 0 ∨ whS π ch < n then 1 else 0
def gtS (π : Pi) (ch n : Int) : Pi := if gtOk π ch n = 0 then { π with bs := AP.rdB π.ow π.bs π.S (whP π ch) (whA π ch) n } else π
def gtL (π : Pi) (ch n : Int) : List Int := if gtOk π ch n = 0 then AP.rdL π.ow π.bs π.S (whP π ch) (whA π ch) n else []
def GtPost (β : Bk) (π : Pi) (L : Nat) (ch n : Int) (w : World) (e : Ending) (w' : World) : Prop :=
  ∃ v B β', e = .returned (.tuple #[v, .int .i64 (gtOk π ch n : Nat)]) ∧ w.heap.size ≤ B ∧ w'.ownsRow B 5 1 v (gtL π ch n).length ((gtL π ch n).map (.int .u8)) ∧ Mem w' β' (gtS π ch n) L ∧ Step w β π w' β' (gtS π ch n) ∧ (∀ b, foot β' (gtS π ch n) b → b < B)
theorem gtNo {w : World} {β : Bk} {π : Pi} {L k m : Nat} {ch n : Int} (h : Mem w β π L) (hk : gtOk π ch n = k) (h0 : k ≠ 0) : GtPost β π L ch n w (.returned (.tuple #[.slice none 0 0, .int .i64 (k : Nat)])) (w.drewN m) := by
  have e1 : gtS π ch n = π := by unfold gtS; rw [hk, if_neg h0]
  have e2 : gtL π ch n = [] := by unfold gtL; rw [hk, if_neg h0]
  refine ⟨_, w.heap.size, β, by rw [hk], Nat.le_refl _, by rw [e2]; exact World.ownsRow_nil _ _ _ _, by rw [e1]; exact h.drewN m, by rw [e1]; exact Step.of_below (below_drewN (Below.refl _ _) m), ?_⟩
  rintro b ⟨i, hi⟩
  rw [e1] at hi
  exact h.lt i b hi

set_option maxRecDepth 100000 in
set_option maxHeartbeats 1000000 in
theorem get_any {w : World} {β : Bk} {π : Pi} {L : Nat} (h : Mem w β π L) (hw : Wf π L) (ch n : Int) (hch : ch ≤ 9223372036854775807) (hn1 : -9223372036854775808 ≤ n) (hn2 : n ≤ 9223372036854775807) (hbl : π.bs.length ≤ 67108864) :
    Calls Try.prog 23 #[.pointer (some ⟨β.sb, 0, none⟩), .int .i64 ch, .int .i64 n] w (GtPost β π L ch n w) := by
  cases hu : usedP π ch with
  | false =>
    have hk : gtOk π ch n = 8 := by unfold gtOk; rw [if_pos hu]
    have HW := Lib.hid (where_at h hw ch hch (p := -1) (a := 0) (s := 0) (by unfold whP; rw [hu]; rfl) (by unfold whA; rw [hu]; rfl) (by unfold whS; rw [hu]; rfl))
    have Hp := Lib.hid (fun m => gtNo (m := m) h hk (by omega))
    clear h hw hu hk
    go_enter Try.func23, Try.ntmps23
    go_wp2_with (go_at_call 13; refine HW.out.mono ?_; rintro e w' ⟨rfl, m, rfl⟩)
    go_ret2
    exact Hp.out m
  | true =>
    obtain ⟨p, i, hchp, hwP, hwA, hwS, hpl, hown, hfit, hz, _⟩ := fits_of hw hu
    have HW := Lib.hid (where_at h hw ch hch hwP hwA hwS)
    have hS := hw.siz
    have hnp := hw.np1
    by_cases hlg : n < 0 ∨ szP π p < n
    · have hk : gtOk π ch n = 1 := by unfold gtOk; rw [if_neg (by rw [hu]; simp), hwS, if_pos hlg]
      have Hp := Lib.hid (fun m => gtNo (m := m) h hk (by omega))
      generalize szP π p = z at *
      generalize (i : Int) * z = a at *
      clear h hw hu hk hwP hwA hwS hchp hown hfit
      by_cases hn0 : n < 0
      · clear hlg
        go_enter Try.func23, Try.ntmps23
        go_wp2_with (go_at_call 13; refine HW.out.mono ?_; rintro e w' ⟨rfl, m, rfl⟩)
        go_ret2
        exact Hp.out m
      · have hlg2 : z < n := by omega
        clear hlg
        go_enter Try.func23, Try.ntmps23
        go_wp2_with (go_at_call 13; refine HW.out.mono ?_; rintro e w' ⟨rfl, m, rfl⟩)
        go_ret2
        exact Hp.out m
    · have hk : gtOk π ch n = 0 := by unfold gtOk; rw [if_neg (by rw [hu]; simp), hwS, if_neg hlg]
      have hA0 : 0 ≤ (i : Int) * szP π p := Int.mul_nonneg (by omega) (by omega)
      have hby : AP.byE π.ow π.S (p : Int) ((i : Int) * szP π p) n = 0 := by
        unfold AP.byE
        rw [if_neg (by omega), if_neg (by omega)]
      have HWr : Hid (∀ m, Calls Try.prog 41 #[.pointer (some ⟨β.g, 0, none⟩), .int .i64 p, .int .i64 ((i : Int) * szP π p), .int .i64 n] (w.drewN m) fun e w' => ∃ v, e = .returned (.tuple #[v, .int .i64 0]) ∧ GtPost β π L ch n w (.returned (.tuple #[v, .int .i64 0])) w') := Lib.hid (fun m => by
        have hAr := (h.drewN m).ar hw
        refine (read_any hAr (p : Int) ((i : Int) * szP π p) n hbl hn1 hn2).mono ?_
        rintro e w' ⟨v, bv', B, rfl, hB, hov, hA', ht, hf, hBj⟩
        have hM := (h.drewN m).wrote hA' ht hf
        have e1 : gtS π ch n = { π with bs := AP.rdB π.ow π.bs π.S (p : Int) ((i : Int) * szP π p) n } := by unfold gtS; rw [hk, if_pos rfl, hwP, hwA]
        have e2 : gtL π ch n = AP.rdL π.ow π.bs π.S (p : Int) ((i : Int) * szP π p) n := by unfold gtL; rw [hk, if_pos rfl, hwP, hwA]
        rw [hby]
        refine ⟨v, rfl, v, B, { β with bv := bv' }, by rw [hk]; rfl, hB, by rw [e2]; exact hov, by rw [e1]; exact hM.1, by rw [e1]; exact (Step.of_below (below_drewN (Below.refl _ _) m)).trans hM.2, ?_⟩
        rintro b ⟨j, hj⟩
        rw [e1] at hj
        by_cases hjb : j = .byt
        · subst hjb; exact hBj b hj
        · have : blk β π j = some b := by
            cases j with
            | byt => exact absurd rfl hjb
            | _ => exact hj
          exact Nat.lt_of_lt_of_le (h.lt j b this) hB)
      have s0d : ∀ m, (w.drewN m).cell? ⟨β.sb, 0, none⟩ = some (.pointer (some ⟨β.g, 0, none⟩)) := fun m => (h.drewN m).s0
      have hn0 : 0 ≤ n := by omega
      have hnz : n ≤ szP π p := by omega
      generalize szP π p = z at *
      generalize (i : Int) * z = a at *
      clear h hw hu hk hwP hwA hwS hchp hown hfit hby hlg
      go_enter Try.func23, Try.ntmps23
      go_wp2_with (fail)
      refine HW.out.mono ?_
      rintro e w' ⟨rfl, m, rfl⟩
      have s0m := s0d m
      have HWm := Lib.hid (HWr.out m)
      clear s0d HW HWr
      generalize w.drewN m = w1 at *
      go_wp2_with (go_at_call 41; refine HWm.out.mono ?_; rintro e w' ⟨v, rfl, hE⟩)
      go_ret2
      exact hE
end Go.Proofs.Ytfmgncajhjkdlaa
