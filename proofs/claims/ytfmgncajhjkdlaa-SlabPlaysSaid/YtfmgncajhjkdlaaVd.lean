/- several texts in one: Qal, Qnf, Qnr. -/
import Derived.Test.YtfmgncajhjkdlaaVc
import Derived.Test.YtfmgncajhjkdlaaVb
import Derived.Test.YtfmgncajhjkdlaaSnw
import Derived.OwnWalk
/- the document's slab: Alloc. -/
namespace Go.Proofs.Ytfmgncajhjkdlaa.R7
open Go.RowKit Go.PlainAid
open SP
set_option linter.unusedVariables false
set_option linter.unusedSimpArgs false

def insI (l : List Int) (x : Int) : List Int := l.takeWhile (fun y => decide (y < x)) ++ x :: l.dropWhile (fun y => decide (y < x))
theorem while_at {l : List Int} {x : Int} : ∀ {k : Nat}, k ≤ l.length → (∀ i, i < k → l[i]?.getD 0 < x) → (k < l.length → x ≤ l[k]?.getD 0) → l.takeWhile (fun y => decide (y < x)) = l.take k ∧ l.dropWhile (fun y => decide (y < x)) = l.drop k := by
  induction l with
  | nil => intro k hk _ _; simp
  | cons y l ih =>
    intro k hk h1 h2
    cases k with
    | zero =>
      have := h2 (by simp)
      simp at this
      rw [List.takeWhile_cons, List.dropWhile_cons]
      simp [show ¬ y < x by omega]
    | succ k =>
      have h0 := h1 0 (by omega)
      simp at h0
      have h3 := ih (k := k) (by simpa using hk) (fun i hi => by have := h1 (i + 1) (by omega); simpa using this) (fun hk2 => by have := h2 (by simpa using hk2); simpa using this)
      rw [List.takeWhile_cons, List.dropWhile_cons]
      simp [h0, h3]
theorem insI_at {l : List Int} {x : Int} {k : Nat} (hk : k ≤ l.length) (h1 : ∀ i, i < k → l[i]?.getD 0 < x) (h2 : k < l.length → x ≤ l[k]?.getD 0) : insI l x = l.take k ++ [x] ++ l.drop k := by
  obtain ⟨h3, h4⟩ := while_at hk h1 h2
  unfold insI
  rw [h3, h4]
  simp
theorem cutI_from {w X : World} {g n c : Nat} {l : List Int} (ho : w.ownsRow 0 3 1 (.slice (some ⟨g, 0, none⟩) n c) n (l.map (.int .i64))) {k : Nat} (hk : k ≤ n) (hb : Below w.heap.size w X) : RI X (.slice (if c = k then some ⟨g, 0, none⟩ else some ⟨g, k, none⟩) (n - k) (c - k)) (l.drop k) := by
  have hl : l.length = n := by simpa using ho.1
  have hc := own_cap ho
  have h2 : (l.drop k).take (n - k) = l.drop k := List.take_of_length_le (by simp; omega)
  split
  · have := ri_cut (own_belowB ho hb) k (n - k) (c - k) ⟨g, 0, none⟩ (.inl (by omega)) (by omega)
    rwa [h2] at this
  · have := ri_cut (own_belowB ho hb) k (n - k) (c - k) ⟨g, k, none⟩ (.inr rfl) (by omega)
    rwa [h2] at this
theorem cutI_to {w X : World} {g n c : Nat} {l : List Int} (ho : w.ownsRow 0 3 1 (.slice (some ⟨g, 0, none⟩) n c) n (l.map (.int .i64))) {k : Nat} (hk : k ≤ n) (hb : Below w.heap.size w X) : RI X (.slice (some ⟨g, 0, none⟩) k c) (l.take k) := by
  have := ri_cut (own_belowB ho hb) 0 k c ⟨g, 0, none⟩ (.inr rfl) (by omega)
  simpa using this
theorem ri_none (w : World) (n c : Nat) (h : n = 0) : RI w (.slice none n c) [] := ⟨none, c, by rw [h]; rfl, fun h => absurd rfl h⟩
theorem ri_one {w : World} {b : Nat} {x : Int} {fr : Nat × Nat} (h : w.heap[b]? = some (.cells #[.int .i64 x] 3 fr)) : RI w (.slice (some ⟨b, 0, none⟩) 1 1) [x] := ⟨some ⟨b, 0, none⟩, 1, rfl, fun _ => ⟨b, 0, rfl, fun i hi => by
  have : i = 0 := by simp at hi; omega
  subst this
  simp [World.cell?, h]⟩⟩

theorem run_appI2 (w : World) (ty : TypeId) (base : Nat) (v x : Value) (n : Nat) (xs ys : List Int) (hown : w.ownsRow base 3 1 v n (xs.map (.int .i64))) (hr : RI w x ys)
    (h63 : n + ys.length ≤ 10000000000) (hbase : base ≤ w.heap.size) :
    ∃ v' w', (Builtin.append_ #[22, 22] ty #[v, x]).run Try.prog w = .ok v' w' ∧ w'.ownsRow base 3 1 v' (n + ys.length) ((xs ++ ys).map (.int .i64)) ∧ w.grownBy w' v.ownBlock := by
  obtain ⟨i0, hi, hz0, hz1, hz2⟩ := info_parts intE_info
  obtain ⟨a, c, rfl, hc⟩ := hr
  cases a with
  | none =>
    have hy : ys = [] := by
      cases ys with
      | nil => rfl
      | cons y ys => obtain ⟨b, o, h, _⟩ := hc (by simp); cases h
    subst hy
    exact ⟨v, w, run_app_noneI w ty base v n c _ hown, by simpa using hown, World.grownBy.refl w _⟩
  | some ad =>
    obtain ⟨v', w', hrun, ho, hg, hiff⟩ := run_append_own_wide (P := Try.prog) w base 22 ty 3 i0 (.int .i64 0) 1 8 Try.underlying22 hi hz0 hz1 hz2 rfl (by decide) v n _ hown ad ys.length c (ys.map (.int .i64)) (by simp) (by
        intro j u hj
        have hjl : j < ys.length := by have := (List.getElem?_eq_some_iff.1 hj).1; simpa using this
        obtain ⟨b, o, e, hcc⟩ := hc (by intro h; rw [h] at hjl; simp at hjl)
        obtain rfl := Option.some.inj e
        rw [Addr.add_lit, hcc j hjl]
        simp [hjl] at hj ⊢
        exact hj) (by
        intro u hu
        obtain ⟨z, _, rfl⟩ := List.mem_map.1 hu
        rfl) (by unfold maxLen; omega) (by omega) hbase
    exact ⟨v', w', hrun, by simpa using ho, hg⟩
theorem step_appI2 {ops : Array Oper} {o : Oper} {a : Act} {w : World} {K : Act → World → Prop} {Q : Exit → Act → World → Prop} {E : Prop} (hgd : o.guard = none) (s x : Operand)
    (ho : o.op = .call { callee := .builtin .append, args := #[s, x], argTypes := #[22, 22] }) (base : Nat) (v vx : Value) (n m : Nat) (xs ys : List Int) (hs : a.eval s = v) (hx : a.eval x = vx)
    (hown : w.ownsRow base 3 1 v n (xs.map (.int .i64))) (hr : RI w vx ys) (hm : n + ys.length = m) (hn : m ≤ 10000000000) (hbase : base ≤ w.heap.size)
    (h : ∀ a' c' w', w'.ownsRow base 3 1 (.slice a' m c') m ((xs ++ ys).map (.int .i64)) → Below base w w' → w.grownBy w' v.ownBlock → K (a.put o.dst (.slice a' m c')) w') :
    if Region.wanted o (yielded ops a.tmps) = true then Oper.wp Try.prog o a w K Q else E := by
  subst hm
  obtain ⟨v', w', h1, h2, h3⟩ := run_appI2 w o.type base v vx n xs ys hown hr hn hbase
  obtain ⟨a', c', rfl, _⟩ := own_sl h2
  exact step_app_run hgd s x _ ho v vx _ w' hs hx h1 (h a' c' w' h2 ((Below.refl _ _).grown h3 hbase (fun k hk => (hown.lt k hk).1)) h3)
theorem ri_grown {w w' : World} {b : Nat} {x : Int} {fr : Nat × Nat} {v : Value} (h : w.heap[b]? = some (.cells #[.int .i64 x] 3 fr)) (hg : w.grownBy w' v.ownBlock) (hb : v.ownBlock ≠ some b) : RI w' (.slice (some ⟨b, 0, none⟩) 1 1) [x] :=
  ri_one (((Tch.of_grown hg).block b (Array.getElem?_eq_some_iff.1 h).1 hb).trans h)

section
variable {w : World} {γ : Gk} {ρ : Rp} {L : Nat}
theorem alloc_arg (h : Ms w γ ρ) (hr : Rw ρ L) (c : Int) (hc : c < 0 ∨ (ρ.sz.length : Int) ≤ c) :
    Calls Try.prog 43 #[.pointer (some ⟨γ.sb, 0, none⟩), .int .i64 c] w fun e w' => e = .returned (.tuple #[.int .i64 (-1), .int .i64 1]) ∧ w = w' := by
  have s1 := h.s1
  obtain ⟨a, zc, hvz, ha⟩ := own_sl h.szO
  rw [hvz] at s1
  generalize ρ.sz.length = nz at *
  clear h hr hvz ha
  by_cases h0 : c < 0
  · clear hc
    go_enter Try.func43, Try.ntmps43
    go_wp2
    go_ret2
    exact ⟨rfl, rfl⟩
  · have h1 : (nz : Int) ≤ c := by omega
    clear hc
    go_enter Try.func43, Try.ntmps43
    go_wp2
    go_ret2
    exact ⟨rfl, rfl⟩
theorem alloc_full (h : Ms w γ ρ) (hr : Rw ρ L) (c : Nat) (hc : c < ρ.sz.length) (hrow : ρ.rows[c]? = some []) (e : Nat) (hg : AP.grE ρ.ow c = e) (he : e ≠ 0) (he2 : e ≤ 100) :
    Calls Try.prog 43 #[.pointer (some ⟨γ.sb, 0, none⟩), .int .i64 c] w fun en w' => en = .returned (.tuple #[.int .i64 (-1), .int .i64 e]) ∧ Ms w' γ (owR ρ (AP.grO ρ.ow c)) ∧ Go w γ ρ w' γ (owR ρ (AP.grO ρ.ow c)) := by
  obtain ⟨a, rcap, l, hl, hrv, hrc, hro, hfr⟩ := h.row hr.rl c hc
  rw [hrow] at hl
  cases hl
  have s0 := h.s0
  have s1 := h.s1
  have s2 := h.s2
  obtain ⟨az, zc, hvz, ha⟩ := own_sl h.szO
  rw [hvz] at s1
  have hczi : (c : Int) < (ρ.sz.length : Int) := by omega
  have hrc' : w.cell? ⟨γ.rb, c, none⟩ = some (.slice a 0 rcap) := hrc
  have HG := Lib.hid (R6.rGrant_any h.ar (c : Int))
  have HM := Lib.hid h
  have hei : ((e : Int) == 0) = false := by simp; omega
  have Hg := Lib.hid hg
  clear h hr hrow hro hrv hfr hrc hvz ha hg
  generalize ρ.sz.length = nz at *
  go_enter Try.func43, Try.ntmps43
  go_wp2_with (go_at_call 60; refine HG.out.mono ?_; rintro _ w1 ⟨rfl, hA, hgw⟩
               have M1 := Lib.hid (HM.out.passed hA hgw)
               rw [Hg.out]
               clear hA hgw)
  go_ret2
  exact ⟨rfl, M1.out⟩

theorem Ms.popRow (h : Ms w γ ρ) {c n rg cap : Nat} (hc : c < ρ.sz.length) {l0 : List Int} {x : Int} (hl : ρ.rows[c]? = some (l0 ++ [x])) (hn : l0.length = n) (hv : γ.rv[c]? = some (.slice (some ⟨rg, 0, none⟩) (n + 1) cap)) (ho : w.ownsRow 0 3 1 (.slice (some ⟨rg, 0, none⟩) (n + 1) cap) (n + 1) ((l0 ++ [x]).map (.int .i64))) :
    Ms (w.setCell ⟨γ.rb, c, none⟩ (.slice (some ⟨rg, 0, none⟩) n cap)) { γ with rv := γ.rv.set c (.slice (some ⟨rg, 0, none⟩) n cap) } (rowR ρ c l0) ∧ Go w γ ρ (w.setCell ⟨γ.rb, c, none⟩ (.slice (some ⟨rg, 0, none⟩) n cap)) { γ with rv := γ.rv.set c (.slice (some ⟨rg, 0, none⟩) n cap) } (rowR ρ c l0) := by
  have hrows : w.ownsRow 0 22 1 (.slice (some ⟨γ.rb, 0, none⟩) ρ.sz.length γ.rc) ρ.sz.length γ.rv := h.lie .rows
  have hst := (hrows.stored c (.slice (some ⟨rg, 0, none⟩) n cap)).1
  have hrgb : rg ≠ γ.rb := fun e => by
    have := h.inj (.row c) .rows rg ⟨_, hv, rfl⟩ e
    cases this
  refine h.setRow hc hv (T := fun b => b = γ.rb) (Tch.setCell w γ.rb c _) (fun b hb => .inl hb) hst ?_ (fun b hb => .inl hb)
  have h1 := own_drop ho
  rw [List.map_append, List.map_cons, List.map_nil, List.dropLast_concat] at h1
  rw [hn]
  exact own_tchB h1 (Tch.setCell w γ.rb c (.slice (some ⟨rg, 0, none⟩) n cap)) (fun b hb hx => hrgb ((show rg = b by simpa [Value.ownBlock] using hb).trans hx))

/-- what stands before a chunk is told -/
def preA (ρ ρ1 : Rp) (c ch : Nat) (l0 : List Int) : Prop :=
  (ρ.rows[c]? = some (l0 ++ [(ch : Int)]) ∧ ρ1 = ρ) ∨
  (ρ.rows[c]? = some [] ∧ AP.grE ρ.ow c = 0 ∧ ∃ q P : Nat, AP.grP ρ.ow c = q ∧ q < 1024 ∧ AP.owner (AP.grO ρ.ow c) q = c ∧ perI ρ.sz ρ.S c = P ∧ lyD ρ.tk q 0 P = l0 ++ [(ch : Int)] ∧ ρ1 = rowR (owR ρ (AP.grO ρ.ow c)) c (l0 ++ [(ch : Int)]))

set_option maxRecDepth 100000 in
set_option maxHeartbeats 4000000 in
theorem alloc_ok (h : Ms w γ ρ) (hr : Rw ρ L) (c ch : Nat) (hc : c < ρ.sz.length) (l0 : List Int) (ρ1 : Rp) (hpre : preA ρ ρ1 c ch l0) (hch : ch < 4194304) (hL : L + 3000 ≤ 100000000) :
    Calls Try.prog 43 #[.pointer (some ⟨γ.sb, 0, none⟩), .int .i64 c] w fun en w' => en = .returned (.tuple #[.int .i64 ch, .int .i64 0]) ∧ ∃ γ', Ms w' γ' (tkR (rowR ρ1 c l0) (insI ρ.tk ch)) ∧ Go w γ ρ w' γ' (tkR (rowR ρ1 c l0) (insI ρ.tk ch)) := by
  have hk1 : c < ρ1.sz.length ∧ ρ1.rows.length = ρ1.sz.length ∧ ρ1.tk = ρ.tk ∧ ρ1.rows[c]? = some (l0 ++ [(ch : Int)]) ∧ l0.length ≤ L + 1024 := by
    rcases hpre with ⟨h1, rfl⟩ | ⟨h1, _, q, P, _, _, _, h2, h3, rfl⟩
    · have := (hr.rb c _ h1).1
      exact ⟨hc, hr.rl, rfl, h1, by simp at this; omega⟩
    · refine ⟨hc, by simp [rowR, owR, hr.rl], rfl, rowR_at (by simp [owR, hr.rl, hc]), ?_⟩
      have h4 := lyD_len ρ.tk q 0 P
      have h5 := perI_range ρ.sz ρ.S c (by have := h.ar.siz; omega) hr.sz
      rw [h3] at h4
      simp at h4
      omega
  obtain ⟨a, rcap, l, hl, hrv, hrc, hro, hfr⟩ := h.row hr.rl c hc
  have s0 := h.s0
  have s1 := h.s1
  have s2 := h.s2
  have hsb := h.lt .sl _ rfl
  obtain ⟨az, zc, hvz, ha⟩ := own_sl h.szO
  rw [hvz] at s1
  have hczi : (c : Int) < (ρ.sz.length : Int) := by omega
  have HG := Lib.hid (R6.rGrant_any h.ar (c : Int))
  have HM := Lib.hid h
  have Hr := Lib.hid hr
  have Hk1 := Lib.hid hk1
  have Hpre := Lib.hid hpre
  have hchi : (ch : Int) ≤ 9223372036854775807 := by omega
  clear h hr hro hrv hfr hvz ha hk1 hpre hch
  go_enter Try.func43, Try.ntmps43
  go_upto_if 30 with (fail)
  go_cut [] from 4 to 45 (fun wx => ∃ γ1, Hid (Ms wx γ1 ρ1) ∧ Hid (Go w γ ρ wx γ1 ρ1))
  case first =>
    rcases Hpre.out with ⟨h1, h2⟩ | ⟨h1, hE, q, P, hq, hq2, ho, hP, hly, h2⟩
    · have e1 : l = l0 ++ [(ch : Int)] := by have := hl.symm.trans h1; simpa using this
      have h0 : ¬ l.length = 0 := by rw [e1]; simp
      have H2 := Lib.hid h2
      clear h1 h2 e1
      go_wp2
      go_meet
      case rel => exact ⟨γ, Lib.hid (by rw [H2.out]; exact HM.out), Lib.hid (by rw [H2.out]; exact Go.refl _ _ _)⟩
    · have e1 : l = [] := by have := hl.symm.trans h1; simpa using this
      have h0 : l.length = 0 := by rw [e1]; rfl
      have H2 := Lib.hid h2
      have HE := Lib.hid hE
      have HQ := Lib.hid hq
      have Hy := Lib.hid (And.intro hq2 (And.intro ho (And.intro hP (And.intro hly h1))))
      have hqi : (q : Int) ≤ 1023 := by omega
      clear h1 h2 e1 hE hq hq2 ho hP hly
      go_wp2_with (first
        | (go_at_call 60; refine HG.out.mono ?_; rintro _ w1 ⟨rfl, hA, hgw⟩
           have M1 := Lib.hid (HM.out.passed hA hgw)
           rw [HE.out, HQ.out]
           have HL := Lib.hid (lay_any (ρ := owR ρ (AP.grO ρ.ow c)) M1.out.1 Hr.out.k1 Hr.out.sz Hr.out.rl (by have := Hr.out.tk.1; simp only [owR]; omega) q c P Hy.out.1 Hy.out.2.1 hc Hy.out.2.2.1 Hy.out.2.2.2.2 (by simp))
           clear hA hgw))
      refine HL.out.mono ?_
      rintro e w2 ⟨⟨v2, rfl⟩, γ2, hM2, hG2⟩
      have hy0 : lyD (owR ρ (AP.grO ρ.ow c)).tk q 0 P = l0 ++ [(ch : Int)] := Hy.out.2.2.2.1
      rw [List.nil_append, hy0, ← H2.out] at hM2 hG2
      clear hy0
      have HM2 := Lib.hid hM2
      have HG2 := Lib.hid (M1.out.2.trans hG2)
      clear hM2 hG2
      go_wp2_with (fail)
      go_meet
      case rel => exact ⟨γ2, HM2, HG2⟩
  case rest =>
    obtain ⟨γ1, HM1, HG1⟩ := hcut
    obtain ⟨hc1, hrl1, htk1, hrow1, hl0⟩ := Hk1.out
    clear s0 s1 s2 hrc hl HG HM Hpre Hk1 hc hczi
    have hM1 := HM1.out
    obtain ⟨a1, cap1, l1, hl1, hrv1, hrc1, hro1, hfr1⟩ := hM1.row hrl1 c hc1
    rw [hrow1] at hl1
    cases hl1
    obtain ⟨n, hn⟩ : ∃ n, l0.length = n := ⟨_, rfl⟩
    have hnn : (l0 ++ [(ch : Int)]).length = n + 1 := by simp [hn]
    rw [hnn] at hrv1 hrc1 hro1
    obtain ⟨_, _, he, ha1⟩ := own_sl hro1
    simp only [Value.slice.injEq, true_and] at he
    obtain ⟨rfl, rfl⟩ := he
    obtain ⟨rg, rfl⟩ := ha1 (by omega)
    have hcap := own_cap hro1
    have hcapn : n ≤ cap1 := by omega
    have hlast : wc.cell? ⟨rg, n, none⟩ = some (.int .i64 (ch : Int)) := by
      have := own_int hro1 n (by omega)
      rw [this, ← hn]
      simp
    have esb : γ1.sb = γ.sb := HG1.out.sb
    have s2 : wc.cell? ⟨γ.sb, 2, none⟩ = some (.slice (some ⟨γ1.rb, 0, none⟩) ρ1.sz.length γ1.rc) := by rw [← esb]; exact hM1.s2
    have hfrd : wc.drew.frozen? ⟨γ1.rb, c, none⟩ = false := hfr1
    have hrod : wc.drew.ownsRow 0 3 1 (.slice (some ⟨rg, 0, none⟩) (n + 1) cap1) (n + 1) ((l0 ++ [(ch : Int)]).map (.int .i64)) := own_belowB hro1 (Below.refl _ wc).drew
    have P1 := Lib.hid (hM1.drew.popRow hc1 hrow1 hn hrv1 hrod)
    obtain ⟨W1, hW1⟩ : ∃ W1, wc.drew.setCell ⟨γ1.rb, c, none⟩ (.slice (some ⟨rg, 0, none⟩) n cap1) = W1 := ⟨_, rfl⟩
    rw [hW1] at P1
    have hni : (n : Int) ≤ 100000000 := by omega
    have hwr : IntKind.i64.wrap (((n + 1 : Nat) : Int) - 1) = (n : Int) := by
      rw [show ((n + 1 : Nat) : Int) - 1 = (n : Int) by omega]
      exact IntWalk.i64_in _ (by omega)
    have hcz1 : (c : Int) < (ρ1.sz.length : Int) := by omega
    have Hn := Lib.hid hn
    clear hM1 hro1 hrod hrv1 hfr1 hn hnn hrow1
    go_wp2_with (fail)
    refine wp_region_E (fun w' => w'.cell? ⟨γ.sb, 2, none⟩ = some (.slice (some ⟨γ1.rb, 0, none⟩) ρ1.sz.length γ1.rc) ∧ w'.cell? ⟨γ1.rb, c, none⟩ = some (.slice (some ⟨rg, 0, none⟩) (n + 1) cap1)) 15 (by kernel_rfl) ⟨s2, hrc1⟩ (fun hHeld => ?_)
    refine wpAnyE_take (by kernel_rfl) (i := 0) (oi := _) (v := ?_) rfl (by kernel_rfl) (by kernel_rfl) (by kernel_rfl) (fun _ _ _ h => h) (Or.inl ⟨by rfl, ?_⟩) (by assumption) ?_
    rotate_left
    · intro w0 hS0; (try simp only [List.getElem_toArray, List.getElem_cons_succ, List.getElem_cons_zero]); go_simp; (try with_reducible rfl)
    (try simp only [Act.put, List.getElem_toArray, List.getElem_cons_succ, List.getElem_cons_zero, List.setIfInBounds_toArray, List.set_cons_zero, List.set_cons_succ])
    refine wpAnyE_take (by kernel_rfl) (i := 1) (oi := _) (v := ?_) rfl (by kernel_rfl) (by kernel_rfl) (by kernel_rfl) (fun _ _ _ h => h) (Or.inl ⟨by rfl, ?_⟩) (by assumption) ?_
    rotate_left
    · intro w0 hS0; (try simp only [List.getElem_toArray, List.getElem_cons_succ, List.getElem_cons_zero]); go_simp; (try with_reducible rfl)
    (try simp only [Act.put, List.getElem_toArray, List.getElem_cons_succ, List.getElem_cons_zero, List.setIfInBounds_toArray, List.set_cons_zero, List.set_cons_succ])
    refine wpAnyE_take (by kernel_rfl) (i := 2) (oi := _) (v := ?_) rfl (by kernel_rfl) (by kernel_rfl) (by kernel_rfl) (fun _ _ _ h => h) (Or.inl ⟨by rfl, ?_⟩) (by assumption) ?_
    rotate_left
    · intro w0 hS0; (try simp only [List.getElem_toArray, List.getElem_cons_succ, List.getElem_cons_zero]); go_simp; (try with_reducible rfl)
    (try simp only [Act.put, List.getElem_toArray, List.getElem_cons_succ, List.getElem_cons_zero, List.setIfInBounds_toArray, List.set_cons_zero, List.set_cons_succ])
    refine wpAnyE_take (by kernel_rfl) (i := 3) (oi := _) (v := ?_) rfl (by kernel_rfl) (by kernel_rfl) (by kernel_rfl) (fun _ _ _ h => h) (Or.inl ⟨by rfl, ?_⟩) (by assumption) ?_
    rotate_left
    · intro w0 hS0; (try simp only [List.getElem_toArray, List.getElem_cons_succ, List.getElem_cons_zero]); go_simp; (try with_reducible rfl)
    (try simp only [Act.put, List.getElem_toArray, List.getElem_cons_succ, List.getElem_cons_zero, List.setIfInBounds_toArray, List.set_cons_zero, List.set_cons_succ])
    refine wpAnyE_take (by kernel_rfl) (i := 4) (oi := _) (v := ?_) rfl (by kernel_rfl) (by kernel_rfl) (by kernel_rfl) (fun _ _ _ h => h) (Or.inl ⟨by rfl, ?_⟩) (by assumption) ?_
    rotate_left
    · intro w0 hS0; (try simp only [List.getElem_toArray, List.getElem_cons_succ, List.getElem_cons_zero]); go_simp; (try with_reducible rfl)
    (try simp only [Act.put, List.getElem_toArray, List.getElem_cons_succ, List.getElem_cons_zero, List.setIfInBounds_toArray, List.set_cons_zero, List.set_cons_succ])
    refine wpAnyE_take (by kernel_rfl) (i := 5) (oi := _) (v := ?_) rfl (by kernel_rfl) (by kernel_rfl) (by kernel_rfl) (fun _ _ _ h => h) (Or.inl ⟨by rfl, ?_⟩) (by assumption) ?_
    rotate_left
    · intro w0 hS0; (try simp only [List.getElem_toArray, List.getElem_cons_succ, List.getElem_cons_zero]); go_simp; (try with_reducible rfl)
    (try simp only [Act.put, List.getElem_toArray, List.getElem_cons_succ, List.getElem_cons_zero, List.setIfInBounds_toArray, List.set_cons_zero, List.set_cons_succ])
    refine wpAnyE_take (by kernel_rfl) (i := 6) (oi := _) (v := ?_) rfl (by kernel_rfl) (by kernel_rfl) (by kernel_rfl) (fun _ _ _ h => h) (Or.inl ⟨by rfl, ?_⟩) (by assumption) ?_
    rotate_left
    · intro w0 hS0; (try simp only [List.getElem_toArray, List.getElem_cons_succ, List.getElem_cons_zero]); go_simp; (try with_reducible rfl)
    (try simp only [Act.put, List.getElem_toArray, List.getElem_cons_succ, List.getElem_cons_zero, List.setIfInBounds_toArray, List.set_cons_zero, List.set_cons_succ])
    refine wpAnyE_take (by kernel_rfl) (i := 7) (oi := _) (v := ?_) rfl (by kernel_rfl) (by kernel_rfl) (by kernel_rfl) (fun _ _ _ h => h) (Or.inl ⟨by rfl, ?_⟩) (by assumption) ?_
    rotate_left
    · intro w0 hS0; (try simp only [List.getElem_toArray, List.getElem_cons_succ, List.getElem_cons_zero]); go_simp; (try with_reducible rfl)
    (try simp only [Act.put, List.getElem_toArray, List.getElem_cons_succ, List.getElem_cons_zero, List.setIfInBounds_toArray, List.set_cons_zero, List.set_cons_succ])
    refine wpAnyE_take (by kernel_rfl) (i := 8) (oi := _) (v := ?_) rfl (by kernel_rfl) (by kernel_rfl) (by kernel_rfl) (fun _ _ _ h => h) (Or.inl ⟨by rfl, ?_⟩) (by assumption) ?_
    rotate_left
    · intro w0 hS0; (try simp only [List.getElem_toArray, List.getElem_cons_succ, List.getElem_cons_zero]); go_simp; (try with_reducible rfl)
    (try simp only [Act.put, List.getElem_toArray, List.getElem_cons_succ, List.getElem_cons_zero, List.setIfInBounds_toArray, List.set_cons_zero, List.set_cons_succ])
    refine wpAnyE_take (by kernel_rfl) (i := 9) (oi := _) (v := ?_) rfl (by kernel_rfl) (by kernel_rfl) (by kernel_rfl) (fun _ _ _ h => h) (Or.inl ⟨by rfl, ?_⟩) (by assumption) ?_
    rotate_left
    · intro w0 hS0; (try simp only [List.getElem_toArray, List.getElem_cons_succ, List.getElem_cons_zero]); go_simp; (try with_reducible rfl)
    (try simp only [Act.put, List.getElem_toArray, List.getElem_cons_succ, List.getElem_cons_zero, List.setIfInBounds_toArray, List.set_cons_zero, List.set_cons_succ])
    refine wpAnyE_take (by kernel_rfl) (i := 10) (oi := _) (v := ?_) rfl (by kernel_rfl) (by kernel_rfl) (by kernel_rfl) (fun _ _ _ h => h) (Or.inl ⟨by rfl, ?_⟩) (by assumption) ?_
    rotate_left
    · intro w0 hS0; (try simp only [List.getElem_toArray, List.getElem_cons_succ, List.getElem_cons_zero]); go_simp; (try with_reducible rfl)
    (try simp only [Act.put, List.getElem_toArray, List.getElem_cons_succ, List.getElem_cons_zero, List.setIfInBounds_toArray, List.set_cons_zero, List.set_cons_succ])
    refine wpAnyE_take (by kernel_rfl) (i := 11) (oi := _) (v := ?_) rfl (by kernel_rfl) (by kernel_rfl) (by kernel_rfl) (fun _ _ _ h => h) (Or.inl ⟨by rfl, ?_⟩) (by assumption) ?_
    rotate_left
    · intro w0 hS0; (try simp only [List.getElem_toArray, List.getElem_cons_succ, List.getElem_cons_zero]); go_simp; (try with_reducible rfl)
    (try simp only [Act.put, List.getElem_toArray, List.getElem_cons_succ, List.getElem_cons_zero, List.setIfInBounds_toArray, List.set_cons_zero, List.set_cons_succ])
    refine wpAnyE_take (by kernel_rfl) (i := 12) (oi := _) (v := ?_) rfl (by kernel_rfl) (by kernel_rfl) (by kernel_rfl) (fun _ _ _ h => h) (Or.inl ⟨by rfl, ?_⟩) (by assumption) ?_
    rotate_left
    · intro w0 hS0; (try simp only [List.getElem_toArray, List.getElem_cons_succ, List.getElem_cons_zero]); go_simp; (try with_reducible rfl)
    (try simp only [Act.put, List.getElem_toArray, List.getElem_cons_succ, List.getElem_cons_zero, List.setIfInBounds_toArray, List.set_cons_zero, List.set_cons_succ])
    refine wpAnyE_take (by kernel_rfl) (i := 13) (oi := _) (v := ?_) rfl (by kernel_rfl) (by kernel_rfl) (by kernel_rfl) (fun _ _ _ h => h) (Or.inl ⟨by rfl, ?_⟩) (by assumption) ?_
    rotate_left
    · intro w0 hS0; (try simp only [List.getElem_toArray, List.getElem_cons_succ, List.getElem_cons_zero]); go_simp; (try with_reducible rfl)
    (try simp only [Act.put, List.getElem_toArray, List.getElem_cons_succ, List.getElem_cons_zero, List.setIfInBounds_toArray, List.set_cons_zero, List.set_cons_succ])
    refine wpAnyE_take (by kernel_rfl) (i := 14) (oi := _) (v := ?_) rfl (by kernel_rfl) (by kernel_rfl) (by kernel_rfl) (fun _ _ _ h => h) (Or.inl ⟨by rfl, ?_⟩) (by assumption) ?_
    rotate_left
    · intro w0 hS0; (try simp only [List.getElem_toArray, List.getElem_cons_succ, List.getElem_cons_zero]); go_simp; (try with_reducible rfl)
    (try simp only [Act.put, List.getElem_toArray, List.getElem_cons_succ, List.getElem_cons_zero, List.setIfInBounds_toArray, List.set_cons_zero, List.set_cons_succ])
    have hrcd : wc.drew.cell? ⟨γ1.rb, c, none⟩ = some (.slice (some ⟨rg, 0, none⟩) (n + 1) cap1) := hrc1
    refine wpAnyE_ready (rs := [15]) (by kernel_rfl) (by simp) ?_
    refine AllReadyE.last (o := _) rfl (fun K hK => ?_)
    rw [if_pos (by rfl)]
    (try simp only [List.getElem_toArray, List.getElem_cons_succ, List.getElem_cons_zero])
    go_simp
    refine hK.out _ _ (trivial) (fun hHeld => ?_)
    clear hK K
    (try simp only [Act.put, List.getElem_toArray, List.getElem_cons_succ, List.getElem_cons_zero, List.setIfInBounds_toArray, List.set_cons_zero, List.set_cons_succ])
    refine wpAnyE_done (by kernel_rfl) ?_ _
    have M1 := P1.out.1
    have t3 : W1.cell? ⟨γ.sb, 3, none⟩ = some γ1.vt := by rw [← esb]; exact M1.s3
    have hO : W1.ownsRow 0 3 1 γ1.vt ρ.tk.length (ρ.tk.map (.int .i64)) := by rw [← htk1]; exact M1.tkO
    have HF : Hid (∀ X v', Below W1.heap.size W1 X → X.ownsRow W1.heap.size 3 1 v' (insI ρ.tk ch).length ((insI ρ.tk ch).map (.int .i64)) → X.frozen? ⟨γ.sb, 3, none⟩ = false ∧ ∃ γ', Ms (X.setCell ⟨γ.sb, 3, none⟩ v') γ' (tkR (rowR ρ1 c l0) (insI ρ.tk ch)) ∧ Go w γ ρ (X.setCell ⟨γ.sb, 3, none⟩ v') γ' (tkR (rowR ρ1 c l0) (insI ρ.tk ch))) := Lib.hid (fun X v' hb ho => by
      have h1 := P1.out.1.putTk hb ho
      have h2 := (P1.out.1.below hb).sf 3
      rw [← esb]
      exact ⟨h2, _, h1.1, (HG1.out.more (Below.refl _ wc).drew).trans (P1.out.2.trans h1.2)⟩)
    have hsb1 : γ.sb < W1.heap.size := by rw [← esb]; exact M1.lt .sl _ rfl
    have hNb := Hr.out.tk.1
    have Htk : Hid (∀ x ∈ ρ.tk, 0 ≤ x ∧ x < 4194304) := Lib.hid Hr.out.tk.2
    generalize γ1.vt = vt at *
    obtain ⟨tl, htl⟩ : ∃ tl, ρ.tk = tl := ⟨_, rfl⟩
    rw [htl] at hO HF hNb Htk
    have Htq := Lib.hid htl
    obtain ⟨N, hN⟩ : ∃ N, tl.length = N := ⟨_, rfl⟩
    rw [hN] at hO hNb
    have HN := Lib.hid hN
    have hNi : (N : Int) ≤ 100000000 := by omega
    have Ht : Hid ((vt = .slice none 0 0 ∧ N = 0) ∨ ∃ g cap, vt = .slice (some ⟨g, 0, none⟩) N cap ∧ N ≤ cap ∧ W1.ownsRow 0 3 1 (.slice (some ⟨g, 0, none⟩) N cap) N (tl.map (.int .i64))) := Lib.hid (by
      rcases hO.2 with ⟨h1, h2⟩ | ⟨g, cap, cur, h1, _⟩
      · exact .inl ⟨h1, h2⟩
      · rw [h1] at hO
        exact .inr ⟨g, cap, h1, (own_cap hO).1, hO⟩)
    clear M1 HM1 HG1 P1 hO hN htl s2 hrc1 hfrd hrcd hlast hcap hcapn hwr hcz1 Hn htk1 hni Hr hl0 hrl1 hc1
    go_upto_block 0 with (fail)
    go_cut [10] from 80 to 99 (fun s10 wx => W1 = wx ∧ ∃ k : Nat, s10 = .int .i64 k ∧ k ≤ N ∧ Hid (∀ i, i < k → tl[i]?.getD 0 < (ch : Int)) ∧ Hid (k < tl.length → (ch : Int) ≤ tl[k]?.getD 0))
    case first =>
      rcases Ht.out with ⟨rfl, rfl⟩ | ⟨g, cap, rfl, hcp, hO⟩
      · go_wp2_with (fail)
        go_loop [10] (fun i => i = .int .i64 0) (fun _ => 0)
        case atStart => rfl
        case round =>
          obtain rfl := hrel
          go_wp2
          go_meet
          case rel => exact ⟨rfl, 0, rfl, Nat.le_refl _, Lib.hid (fun i hi => absurd hi (Nat.not_lt_zero _)), Lib.hid (fun h => by rw [HN.out] at h; exact absurd h (Nat.not_lt_zero _))⟩
      · have HO := Lib.hid hO
        clear hO
        go_wp2_with (fail)
        go_loop [10] (fun i => ∃ j : Nat, j ≤ N ∧ i = .int .i64 j ∧ Hid (∀ i, i < j → tl[i]?.getD 0 < (ch : Int))) (fun i => N - (intOf i).toNat)
        case atStart => exact ⟨0, Nat.zero_le _, rfl, Lib.hid (fun i hi => absurd hi (Nat.not_lt_zero _))⟩
        case round =>
          obtain ⟨j, hj, rfl, Hj⟩ := hrel
          by_cases hlt : j < N
          · have hcell := own_int HO.out j hlt
            obtain ⟨x, hx⟩ : ∃ x, tl[j]?.getD 0 = x := ⟨_, rfl⟩
            rw [hx] at hcell
            by_cases h1 : x < (ch : Int)
            · have Hs : Hid (∀ i, i < j + 1 → tl[i]?.getD 0 < (ch : Int)) := Lib.hid (fun i hi => by
                rcases Nat.lt_or_ge i j with h | h
                · exact Hj.out i h
                · rw [show i = j by omega, hx]; exact h1)
              clear hx
              go_wp2
              go_round
              case rel => exact ⟨j + 1, by omega, by go_num, Hs⟩
              case measure => simp [intOf]; omega
            · have Hs : Hid (j < tl.length → (ch : Int) ≤ tl[j]?.getD 0) := Lib.hid (fun _ => by rw [hx]; omega)
              clear hx
              go_wp2
              go_meet
              case rel => exact ⟨rfl, j, rfl, hj, Hj, Hs⟩
          · have hjn : j = N := by omega
            have Hs : Hid (j < tl.length → (ch : Int) ≤ tl[j]?.getD 0) := Lib.hid (fun h => by rw [HN.out] at h; omega)
            clear hlt
            subst hjn
            go_wp2
            go_meet
            case rel => exact ⟨rfl, j, rfl, Nat.le_refl _, Hj, Hs⟩
    case rest =>
      obtain ⟨rfl, k, rfl, hk, Hk1, Hk2⟩ := hcut
      have Hin : Hid (insI tl ch = tl.take k ++ [(ch : Int)] ++ tl.drop k) := Lib.hid (insI_at (by rw [HN.out]; exact hk) Hk1.out Hk2.out)
      have Hln : Hid ((tl.take k).length = k ∧ (tl.drop k).length = N - k) := Lib.hid (by have := HN.out; simp; omega)
      have Hsz : Hid (k + 1 ≤ 100000001 ∧ k + 1 + (N - k) ≤ 10000000000) := Lib.hid (by omega)
      have Hlen : Hid ((insI tl ch).length = k + 1 + (N - k)) := Lib.hid (by rw [Hin.out, List.length_append, List.length_append, Hln.out.1, Hln.out.2]; rfl)
      rcases Ht.out with ⟨rfl, rfl⟩ | ⟨g, cap, rfl, hcp, hO⟩
      · have hk0 : k = 0 := by omega
        subst hk0
        have htl0 : tl = [] := List.length_eq_zero_iff.1 HN.out
        have Hhd : Hid (∀ X, Below W1.heap.size W1 X → RI X (.slice none 0 0) (tl.take 0)) := Lib.hid (fun X _ => ri_none X 0 0 rfl)
        have Htl : Hid (∀ X, Below W1.heap.size W1 X → RI X (.slice none 0 0) (tl.drop 0)) := Lib.hid (fun X _ => by rw [htl0]; exact ri_none X 0 0 rfl)
        have HS : Hid (∀ X, Below W1.heap.size W1 X → X.cell? ⟨γ.sb, 3, none⟩ = some (.slice none 0 0)) := Lib.hid (fun X hb => (hb.cell (p := ⟨γ.sb, 3, none⟩) hsb1).trans t3)
        clear htl0
        go_wp2_with (fail)
        refine wp_region_E (fun w' => w'.cell? ⟨γ.sb, 3, none⟩ = some (.slice none 0 0)) 21 (by kernel_rfl) t3 (fun hHeld => ?_)
        refine wpAnyE_take (by kernel_rfl) (i := 0) (oi := _) (v := ?_) rfl (by kernel_rfl) (by kernel_rfl) (by kernel_rfl) (fun _ _ _ h => h) (Or.inl ⟨by rfl, ?_⟩) (by assumption) ?_
        rotate_left
        · intro w0 hS0; (try simp only [List.getElem_toArray, List.getElem_cons_succ, List.getElem_cons_zero]); go_simp; (try with_reducible rfl)
        (try simp only [Act.put, List.getElem_toArray, List.getElem_cons_succ, List.getElem_cons_zero, List.setIfInBounds_toArray, List.set_cons_zero, List.set_cons_succ])
        refine wpAnyE_take (by kernel_rfl) (i := 2) (oi := _) (v := ?_) rfl (by kernel_rfl) (by kernel_rfl) (by kernel_rfl) (fun _ _ _ h => h) (Or.inl ⟨by rfl, ?_⟩) (by assumption) ?_
        rotate_left
        · intro w0 hS0; (try simp only [List.getElem_toArray, List.getElem_cons_succ, List.getElem_cons_zero]); go_simp; (try with_reducible rfl)
        (try simp only [Act.put, List.getElem_toArray, List.getElem_cons_succ, List.getElem_cons_zero, List.setIfInBounds_toArray, List.set_cons_zero, List.set_cons_succ])
        refine wpAnyE_take (by kernel_rfl) (i := 3) (oi := _) (v := ?_) rfl (by kernel_rfl) (by kernel_rfl) (by kernel_rfl) (fun _ _ _ h => h) (Or.inl ⟨by rfl, ?_⟩) (by assumption) ?_
        rotate_left
        · intro w0 hS0; (try simp only [List.getElem_toArray, List.getElem_cons_succ, List.getElem_cons_zero]); go_simp; (try with_reducible rfl)
        (try simp only [Act.put, List.getElem_toArray, List.getElem_cons_succ, List.getElem_cons_zero, List.setIfInBounds_toArray, List.set_cons_zero, List.set_cons_succ])
        refine wpAnyE_take (by kernel_rfl) (i := 4) (oi := _) (v := ?_) rfl (by kernel_rfl) (by kernel_rfl) (by kernel_rfl) (fun _ _ _ h => h) (Or.inl ⟨by rfl, ?_⟩) (by assumption) ?_
        rotate_left
        · intro w0 hS0; (try simp only [List.getElem_toArray, List.getElem_cons_succ, List.getElem_cons_zero]); go_simp; (try with_reducible rfl)
        (try simp only [Act.put, List.getElem_toArray, List.getElem_cons_succ, List.getElem_cons_zero, List.setIfInBounds_toArray, List.set_cons_zero, List.set_cons_succ])
        refine wpAnyE_take (by kernel_rfl) (i := 5) (oi := _) (v := ?_) rfl (by kernel_rfl) (by kernel_rfl) (by kernel_rfl) (fun _ _ _ h => h) (Or.inl ⟨by rfl, ?_⟩) (by assumption) ?_
        rotate_left
        · intro w0 hS0; (try simp only [List.getElem_toArray, List.getElem_cons_succ, List.getElem_cons_zero]); go_simp; (try with_reducible rfl)
        (try simp only [Act.put, List.getElem_toArray, List.getElem_cons_succ, List.getElem_cons_zero, List.setIfInBounds_toArray, List.set_cons_zero, List.set_cons_succ])
        refine wpAnyE_take (by kernel_rfl) (i := 6) (oi := _) (v := ?_) rfl (by kernel_rfl) (by kernel_rfl) (by kernel_rfl) (fun _ _ _ h => h) (Or.inl ⟨by rfl, ?_⟩) (by assumption) ?_
        rotate_left
        · intro w0 hS0; (try simp only [List.getElem_toArray, List.getElem_cons_succ, List.getElem_cons_zero]); go_simp; (try with_reducible rfl)
        (try simp only [Act.put, List.getElem_toArray, List.getElem_cons_succ, List.getElem_cons_zero, List.setIfInBounds_toArray, List.set_cons_zero, List.set_cons_succ])
        refine wpAnyE_take (by kernel_rfl) (i := 7) (oi := _) (v := ?_) rfl (by kernel_rfl) (by kernel_rfl) (by kernel_rfl) (fun _ _ _ h => h) (Or.inl ⟨by rfl, ?_⟩) (by assumption) ?_
        rotate_left
        · intro w0 hS0; (try simp only [List.getElem_toArray, List.getElem_cons_succ, List.getElem_cons_zero]); go_simp; (try with_reducible rfl)
        (try simp only [Act.put, List.getElem_toArray, List.getElem_cons_succ, List.getElem_cons_zero, List.setIfInBounds_toArray, List.set_cons_zero, List.set_cons_succ])
        refine wpAnyE_take (by kernel_rfl) (i := 9) (oi := _) (v := ?_) rfl (by kernel_rfl) (by kernel_rfl) (by kernel_rfl) (fun _ _ _ h => h) (Or.inl ⟨by rfl, ?_⟩) (by assumption) ?_
        rotate_left
        · intro w0 hS0; (try simp only [List.getElem_toArray, List.getElem_cons_succ, List.getElem_cons_zero]); go_simp; (try with_reducible rfl)
        (try simp only [Act.put, List.getElem_toArray, List.getElem_cons_succ, List.getElem_cons_zero, List.setIfInBounds_toArray, List.set_cons_zero, List.set_cons_succ])
        refine wpAnyE_take (by kernel_rfl) (i := 12) (oi := _) (v := ?_) rfl (by kernel_rfl) (by kernel_rfl) (by kernel_rfl) (fun _ _ _ h => h) (Or.inl ⟨by rfl, ?_⟩) (by assumption) ?_
        rotate_left
        · intro w0 hS0; (try simp only [List.getElem_toArray, List.getElem_cons_succ, List.getElem_cons_zero]); go_simp; (try with_reducible rfl)
        (try simp only [Act.put, List.getElem_toArray, List.getElem_cons_succ, List.getElem_cons_zero, List.setIfInBounds_toArray, List.set_cons_zero, List.set_cons_succ])
        refine wpAnyE_take (by kernel_rfl) (i := 13) (oi := _) (v := ?_) rfl (by kernel_rfl) (by kernel_rfl) (by kernel_rfl) (fun _ _ _ h => h) (Or.inl ⟨by rfl, ?_⟩) (by assumption) ?_
        rotate_left
        · intro w0 hS0; (try simp only [List.getElem_toArray, List.getElem_cons_succ, List.getElem_cons_zero]); go_simp; (try with_reducible rfl)
        (try simp only [Act.put, List.getElem_toArray, List.getElem_cons_succ, List.getElem_cons_zero, List.setIfInBounds_toArray, List.set_cons_zero, List.set_cons_succ])
        refine wpAnyE_take (by kernel_rfl) (i := 14) (oi := _) (v := ?_) rfl (by kernel_rfl) (by kernel_rfl) (by kernel_rfl) (fun _ _ _ h => h) (Or.inl ⟨by rfl, ?_⟩) (by assumption) ?_
        rotate_left
        · intro w0 hS0; (try simp only [List.getElem_toArray, List.getElem_cons_succ, List.getElem_cons_zero]); go_simp; (try with_reducible rfl)
        (try simp only [Act.put, List.getElem_toArray, List.getElem_cons_succ, List.getElem_cons_zero, List.setIfInBounds_toArray, List.set_cons_zero, List.set_cons_succ])
        refine wpAnyE_take (by kernel_rfl) (i := 15) (oi := _) (v := ?_) rfl (by kernel_rfl) (by kernel_rfl) (by kernel_rfl) (fun _ _ _ h => h) (Or.inl ⟨by rfl, ?_⟩) (by assumption) ?_
        rotate_left
        · intro w0 hS0; (try simp only [List.getElem_toArray, List.getElem_cons_succ, List.getElem_cons_zero]); go_simp; (try with_reducible rfl)
        (try simp only [Act.put, List.getElem_toArray, List.getElem_cons_succ, List.getElem_cons_zero, List.setIfInBounds_toArray, List.set_cons_zero, List.set_cons_succ])
        refine wpAnyE_take (by kernel_rfl) (i := 16) (oi := _) (v := ?_) rfl (by kernel_rfl) (by kernel_rfl) (by kernel_rfl) (fun _ _ _ h => h) (Or.inl ⟨by rfl, ?_⟩) (by assumption) ?_
        rotate_left
        · intro w0 hS0; (try simp only [List.getElem_toArray, List.getElem_cons_succ, List.getElem_cons_zero]); go_simp; (try with_reducible rfl)
        (try simp only [Act.put, List.getElem_toArray, List.getElem_cons_succ, List.getElem_cons_zero, List.setIfInBounds_toArray, List.set_cons_zero, List.set_cons_succ])
        refine wpAnyE_take (by kernel_rfl) (i := 17) (oi := _) (v := ?_) rfl (by kernel_rfl) (by kernel_rfl) (by kernel_rfl) (fun _ _ _ h => h) (Or.inl ⟨by rfl, ?_⟩) (by assumption) ?_
        rotate_left
        · intro w0 hS0; (try simp only [List.getElem_toArray, List.getElem_cons_succ, List.getElem_cons_zero]); go_simp; (try with_reducible rfl)
        (try simp only [Act.put, List.getElem_toArray, List.getElem_cons_succ, List.getElem_cons_zero, List.setIfInBounds_toArray, List.set_cons_zero, List.set_cons_succ])
        refine wpAnyE_ready (rs := [1, 10]) (by kernel_rfl) (by simp) ?_
        refine AllReadyE.cons (o := _) rfl (fun K hK => ?_) (AllReadyE.cons (o := _) rfl (fun K hK => ?_) AllReadyE.nil)
        · rw [if_pos (by rfl)]
          (try simp only [List.getElem_toArray, List.getElem_cons_succ, List.getElem_cons_zero])
          go_simp
          have hn1 : (W1.alloc (.cells #[] 3)).drew.ownsRow W1.heap.size 3 1 (.slice (some ⟨W1.heap.size, 0, none⟩) 0 0) 0 (([] : List Int).map (.int .i64)) := own_newI W1.drew
          have hB1 : Below W1.heap.size W1 (W1.alloc (.cells #[] 3)).drew := below_new W1 3
          refine hK.out _ _ (HS.out _ (below_new W1 3)) (fun hHeld => ?_)
          clear hK K
          (try simp only [Act.put, List.getElem_toArray, List.getElem_cons_succ, List.getElem_cons_zero, List.setIfInBounds_toArray, List.set_cons_zero, List.set_cons_succ])
          obtain ⟨Y1, hY1⟩ : ∃ Y1, (W1.alloc (.cells #[] 3)).drew = Y1 := ⟨_, rfl⟩
          have hY1s : Y1.heap.size = W1.heap.size + 1 := by rw [← hY1]; simp
          rw [hY1] at hn1 hB1 hHeld ⊢
          clear hY1
          refine wpAnyE_ready (rs := [8, 10]) (by kernel_rfl) (by simp) ?_
          refine AllReadyE.cons (o := _) rfl (fun K hK => ?_) (AllReadyE.cons (o := _) rfl (fun K hK => ?_) AllReadyE.nil)
          · skip
            refine step_appI2 rfl (.tmp 101) (.tmp 107) rfl W1.heap.size (.slice (some ⟨W1.heap.size, 0, none⟩) 0 0) _ 0 0 [] (tl.take 0) rfl rfl hn1 (Hhd.out _ hB1) (by rw [Hln.out.1, Nat.zero_add]) (by have := Hsz.out; omega) hB1.size ?_
            intro a8 c8 Y2 ho8 hb8 _
            rw [List.nil_append] at ho8
            have hB2 := hB1.trans hb8
            refine hK.out _ _ (HS.out _ hB2) (fun hHeld => ?_)
            clear hK K
            (try simp only [Act.put, List.getElem_toArray, List.getElem_cons_succ, List.getElem_cons_zero, List.setIfInBounds_toArray, List.set_cons_zero, List.set_cons_succ])
            refine wpAnyE_ready (rs := [10]) (by kernel_rfl) (by simp) ?_
            refine AllReadyE.cons (o := _) rfl (fun K hK => ?_) AllReadyE.nil
            rw [if_pos (by rfl)]
            (try simp only [List.getElem_toArray, List.getElem_cons_succ, List.getElem_cons_zero])
            go_simp
            have hB9 : Below W1.heap.size W1 (Y2.alloc (.cells #[.int .i64 (ch : Int)] 3)) := hB2.alloc hB2.size _
            have ho9 := ho8.alloc (.cells #[.int .i64 (ch : Int)] 3)
            have hr9 : RI (Y2.alloc (.cells #[.int .i64 (ch : Int)] 3)) (.slice (some ⟨Y2.heap.size, 0, none⟩) 1 1) [(ch : Int)] := ri_one (World.alloc_heap_new Y2 _)
            refine hK.out _ _ (HS.out _ hB9) (fun hHeld => ?_)
            clear hK K
            (try simp only [Act.put, List.getElem_toArray, List.getElem_cons_succ, List.getElem_cons_zero, List.setIfInBounds_toArray, List.set_cons_zero, List.set_cons_succ])
            refine wpAnyE_ready (rs := [11]) (by kernel_rfl) (by simp) ?_
            refine AllReadyE.cons (o := _) rfl (fun K hK => ?_) AllReadyE.nil
            refine step_appI2 rfl (.tmp 108) (.tmp 110) rfl W1.heap.size _ (.slice (some ⟨Y2.heap.size, 0, none⟩) 1 1) 0 (0 + 1) (tl.take 0) [(ch : Int)] rfl rfl ho9 hr9 rfl (by have := Hsz.out; omega) hB9.size ?_
            intro a11 c11 X4 ho11 hb11 _
            have hB11 := hB9.trans hb11
            refine hK.out _ _ (HS.out _ hB11) (fun hHeld => ?_)
            clear hK K
            (try simp only [Act.put, List.getElem_toArray, List.getElem_cons_succ, List.getElem_cons_zero, List.setIfInBounds_toArray, List.set_cons_zero, List.set_cons_succ])
            refine wpAnyE_ready (rs := [18]) (by kernel_rfl) (by simp) ?_
            refine AllReadyE.cons (o := _) rfl (fun K hK => ?_) AllReadyE.nil
            refine step_appI2 rfl (.tmp 111) (.tmp 117) rfl W1.heap.size _ _ (0 + 1) (0 + 1 + (0 - 0)) _ (tl.drop 0) rfl rfl ho11 (Htl.out _ hB11) (by rw [Hln.out.2]) Hsz.out.2 hB11.size ?_
            intro a18 c18 X5 ho18 hb18 _
            have hB18 := hB11.trans hb18
            have ho18' : X5.ownsRow W1.heap.size 3 1 (.slice a18 (0 + 1 + (0 - 0)) c18) (insI tl ch).length ((insI tl ch).map (.int .i64)) := by rw [Hlen.out, Hin.out]; exact ho18
            obtain ⟨hf18, Hf⟩ := HF.out X5 _ hB18 ho18'
            have Hfin := Lib.hid Hf
            have k18 := HS.out _ hB18
            clear Hf ho18 ho18' ho11 hb11 hb18
            refine hK.out _ _ (HS.out _ hB18) (fun hHeld => ?_)
            clear hK K
            (try simp only [Act.put, List.getElem_toArray, List.getElem_cons_succ, List.getElem_cons_zero, List.setIfInBounds_toArray, List.set_cons_zero, List.set_cons_succ])
            refine wpAnyE_ready (rs := [19]) (by kernel_rfl) (by simp) ?_
            refine AllReadyE.cons (o := _) rfl (fun K hK => ?_) AllReadyE.nil
            rw [if_pos (by rfl)]
            (try simp only [List.getElem_toArray, List.getElem_cons_succ, List.getElem_cons_zero])
            go_simp
            refine hK.out _ _ (HS.out _ hB18) (fun hHeld => ?_)
            clear hK K
            (try simp only [Act.put, List.getElem_toArray, List.getElem_cons_succ, List.getElem_cons_zero, List.setIfInBounds_toArray, List.set_cons_zero, List.set_cons_succ])
            refine wpAnyE_take (by kernel_rfl) (i := 20) (oi := _) (v := ?_) rfl (by kernel_rfl) (by kernel_rfl) (by kernel_rfl) (fun _ _ _ h => h) (Or.inl ⟨by rfl, ?_⟩) (by assumption) ?_
            rotate_left
            · intro w0 hS0; (try simp only [List.getElem_toArray, List.getElem_cons_succ, List.getElem_cons_zero]); go_simp; (try with_reducible rfl)
            (try simp only [Act.put, List.getElem_toArray, List.getElem_cons_succ, List.getElem_cons_zero, List.setIfInBounds_toArray, List.set_cons_zero, List.set_cons_succ])
            refine wpAnyE_ready (rs := [21]) (by kernel_rfl) (by simp) ?_
            refine AllReadyE.last (o := _) rfl (fun K hK => ?_)
            rw [if_pos (by rfl)]
            (try simp only [List.getElem_toArray, List.getElem_cons_succ, List.getElem_cons_zero])
            go_simp
            refine hK.out _ _ (trivial) (fun hHeld => ?_)
            clear hK K
            (try simp only [Act.put, List.getElem_toArray, List.getElem_cons_succ, List.getElem_cons_zero, List.setIfInBounds_toArray, List.set_cons_zero, List.set_cons_succ])
            refine wpAnyE_done (by kernel_rfl) ?_ _
            go_wp2
            all_goals go_ret2
            all_goals exact ⟨rfl, by rw [Htq.out]; exact Hfin.out⟩
          · rw [if_pos (by rfl)]
            (try simp only [List.getElem_toArray, List.getElem_cons_succ, List.getElem_cons_zero])
            go_simp
            have hB2 : Below W1.heap.size W1 (Y1.alloc (.cells #[.int .i64 (ch : Int)] 3)) := hB1.alloc hB1.size _
            have hn2 := hn1.alloc (.cells #[.int .i64 (ch : Int)] 3)
            have hh2 := World.alloc_heap_new Y1 (.cells #[.int .i64 (ch : Int)] 3)
            refine hK.out _ _ (HS.out _ hB2) (fun hHeld => ?_)
            clear hK K
            (try simp only [Act.put, List.getElem_toArray, List.getElem_cons_succ, List.getElem_cons_zero, List.setIfInBounds_toArray, List.set_cons_zero, List.set_cons_succ])
            refine wpAnyE_ready (rs := [8]) (by kernel_rfl) (by simp) ?_
            refine AllReadyE.cons (o := _) rfl (fun K hK => ?_) AllReadyE.nil
            skip
            refine step_appI2 rfl (.tmp 101) (.tmp 107) rfl W1.heap.size (.slice (some ⟨W1.heap.size, 0, none⟩) 0 0) _ 0 0 [] (tl.take 0) rfl rfl hn2 (Hhd.out _ hB2) (by rw [Hln.out.1, Nat.zero_add]) (by have := Hsz.out; omega) hB2.size ?_
            intro a8 c8 Y2 ho9 hb8 hg8
            rw [List.nil_append] at ho9
            have hB9 := hB2.trans hb8
            have hr9 : RI Y2 (.slice (some ⟨W1.heap.size + 1, 0, none⟩) 1 1) [(ch : Int)] := ri_grown (by rw [← hY1s]; exact hh2) hg8 (by simp [Value.ownBlock])
            refine hK.out _ _ (HS.out _ hB9) (fun hHeld => ?_)
            clear hK K
            (try simp only [Act.put, List.getElem_toArray, List.getElem_cons_succ, List.getElem_cons_zero, List.setIfInBounds_toArray, List.set_cons_zero, List.set_cons_succ])
            refine wpAnyE_ready (rs := [11]) (by kernel_rfl) (by simp) ?_
            refine AllReadyE.cons (o := _) rfl (fun K hK => ?_) AllReadyE.nil
            refine step_appI2 rfl (.tmp 108) (.tmp 110) rfl W1.heap.size _ (.slice (some ⟨(W1.heap.size + 1), 0, none⟩) 1 1) 0 (0 + 1) (tl.take 0) [(ch : Int)] rfl rfl ho9 hr9 rfl (by have := Hsz.out; omega) hB9.size ?_
            intro a11 c11 X4 ho11 hb11 _
            have hB11 := hB9.trans hb11
            refine hK.out _ _ (HS.out _ hB11) (fun hHeld => ?_)
            clear hK K
            (try simp only [Act.put, List.getElem_toArray, List.getElem_cons_succ, List.getElem_cons_zero, List.setIfInBounds_toArray, List.set_cons_zero, List.set_cons_succ])
            refine wpAnyE_ready (rs := [18]) (by kernel_rfl) (by simp) ?_
            refine AllReadyE.cons (o := _) rfl (fun K hK => ?_) AllReadyE.nil
            refine step_appI2 rfl (.tmp 111) (.tmp 117) rfl W1.heap.size _ _ (0 + 1) (0 + 1 + (0 - 0)) _ (tl.drop 0) rfl rfl ho11 (Htl.out _ hB11) (by rw [Hln.out.2]) Hsz.out.2 hB11.size ?_
            intro a18 c18 X5 ho18 hb18 _
            have hB18 := hB11.trans hb18
            have ho18' : X5.ownsRow W1.heap.size 3 1 (.slice a18 (0 + 1 + (0 - 0)) c18) (insI tl ch).length ((insI tl ch).map (.int .i64)) := by rw [Hlen.out, Hin.out]; exact ho18
            obtain ⟨hf18, Hf⟩ := HF.out X5 _ hB18 ho18'
            have Hfin := Lib.hid Hf
            have k18 := HS.out _ hB18
            clear Hf ho18 ho18' ho11 hb11 hb18
            refine hK.out _ _ (HS.out _ hB18) (fun hHeld => ?_)
            clear hK K
            (try simp only [Act.put, List.getElem_toArray, List.getElem_cons_succ, List.getElem_cons_zero, List.setIfInBounds_toArray, List.set_cons_zero, List.set_cons_succ])
            refine wpAnyE_ready (rs := [19]) (by kernel_rfl) (by simp) ?_
            refine AllReadyE.cons (o := _) rfl (fun K hK => ?_) AllReadyE.nil
            rw [if_pos (by rfl)]
            (try simp only [List.getElem_toArray, List.getElem_cons_succ, List.getElem_cons_zero])
            go_simp
            refine hK.out _ _ (HS.out _ hB18) (fun hHeld => ?_)
            clear hK K
            (try simp only [Act.put, List.getElem_toArray, List.getElem_cons_succ, List.getElem_cons_zero, List.setIfInBounds_toArray, List.set_cons_zero, List.set_cons_succ])
            refine wpAnyE_take (by kernel_rfl) (i := 20) (oi := _) (v := ?_) rfl (by kernel_rfl) (by kernel_rfl) (by kernel_rfl) (fun _ _ _ h => h) (Or.inl ⟨by rfl, ?_⟩) (by assumption) ?_
            rotate_left
            · intro w0 hS0; (try simp only [List.getElem_toArray, List.getElem_cons_succ, List.getElem_cons_zero]); go_simp; (try with_reducible rfl)
            (try simp only [Act.put, List.getElem_toArray, List.getElem_cons_succ, List.getElem_cons_zero, List.setIfInBounds_toArray, List.set_cons_zero, List.set_cons_succ])
            refine wpAnyE_ready (rs := [21]) (by kernel_rfl) (by simp) ?_
            refine AllReadyE.last (o := _) rfl (fun K hK => ?_)
            rw [if_pos (by rfl)]
            (try simp only [List.getElem_toArray, List.getElem_cons_succ, List.getElem_cons_zero])
            go_simp
            refine hK.out _ _ (trivial) (fun hHeld => ?_)
            clear hK K
            (try simp only [Act.put, List.getElem_toArray, List.getElem_cons_succ, List.getElem_cons_zero, List.setIfInBounds_toArray, List.set_cons_zero, List.set_cons_succ])
            refine wpAnyE_done (by kernel_rfl) ?_ _
            go_wp2
            all_goals go_ret2
            all_goals exact ⟨rfl, by rw [Htq.out]; exact Hfin.out⟩
        · rw [if_pos (by rfl)]
          (try simp only [List.getElem_toArray, List.getElem_cons_succ, List.getElem_cons_zero])
          go_simp
          have hB1 : Below W1.heap.size W1 (W1.alloc (.cells #[.int .i64 (ch : Int)] 3)).drew := ((Below.refl _ W1).drew).alloc (Nat.le_refl _) _
          have hh1 : (W1.alloc (.cells #[.int .i64 (ch : Int)] 3)).drew.heap[W1.heap.size]? = some (.cells #[.int .i64 (ch : Int)] 3 (0, 0)) := World.alloc_heap_new W1.drew (.cells #[.int .i64 (ch : Int)] 3)
          refine hK.out _ _ (HS.out _ hB1) (fun hHeld => ?_)
          clear hK K
          (try simp only [Act.put, List.getElem_toArray, List.getElem_cons_succ, List.getElem_cons_zero, List.setIfInBounds_toArray, List.set_cons_zero, List.set_cons_succ])
          obtain ⟨Y1, hY1⟩ : ∃ Y1, (W1.alloc (.cells #[.int .i64 (ch : Int)] 3)).drew = Y1 := ⟨_, rfl⟩
          have hY1s : Y1.heap.size = W1.heap.size + 1 := by rw [← hY1]; simp
          rw [hY1] at hB1 hh1 hHeld ⊢
          clear hY1
          refine wpAnyE_ready (rs := [1]) (by kernel_rfl) (by simp) ?_
          refine AllReadyE.cons (o := _) rfl (fun K hK => ?_) AllReadyE.nil
          rw [if_pos (by rfl)]
          (try simp only [List.getElem_toArray, List.getElem_cons_succ, List.getElem_cons_zero])
          go_simp
          have hn2 : (Y1.alloc (.cells #[] 3)).ownsRow W1.heap.size 3 1 (.slice (some ⟨W1.heap.size + 1, 0, none⟩) 0 0) 0 (([] : List Int).map (.int .i64)) := by rw [← hY1s]; exact World.ownsRow_lit Y1 #[] 0 hB1.size (by decide) (by simp)
          have hB2 : Below W1.heap.size W1 (Y1.alloc (.cells #[] 3)) := hB1.alloc hB1.size _
          have hh2 : (Y1.alloc (.cells #[] 3)).heap[W1.heap.size]? = some (.cells #[.int .i64 (ch : Int)] 3 (0, 0)) := (((Below.refl Y1.heap.size Y1).alloc (Nat.le_refl _) _).block _ (by omega)).trans hh1
          refine hK.out _ _ (HS.out _ hB2) (fun hHeld => ?_)
          clear hK K
          (try simp only [Act.put, List.getElem_toArray, List.getElem_cons_succ, List.getElem_cons_zero, List.setIfInBounds_toArray, List.set_cons_zero, List.set_cons_succ])
          refine wpAnyE_ready (rs := [8]) (by kernel_rfl) (by simp) ?_
          refine AllReadyE.cons (o := _) rfl (fun K hK => ?_) AllReadyE.nil
          skip
          refine step_appI2 rfl (.tmp 101) (.tmp 107) rfl W1.heap.size (.slice (some ⟨W1.heap.size + 1, 0, none⟩) 0 0) _ 0 0 [] (tl.take 0) rfl rfl hn2 (Hhd.out _ hB2) (by rw [Hln.out.1, Nat.zero_add]) (by have := Hsz.out; omega) hB2.size ?_
          intro a8 c8 Y2 ho9 hb8 hg8
          rw [List.nil_append] at ho9
          have hB9 := hB2.trans hb8
          have hr9 : RI Y2 (.slice (some ⟨W1.heap.size, 0, none⟩) 1 1) [(ch : Int)] := ri_grown hh2 hg8 (by simp [Value.ownBlock])
          refine hK.out _ _ (HS.out _ hB9) (fun hHeld => ?_)
          clear hK K
          (try simp only [Act.put, List.getElem_toArray, List.getElem_cons_succ, List.getElem_cons_zero, List.setIfInBounds_toArray, List.set_cons_zero, List.set_cons_succ])
          refine wpAnyE_ready (rs := [11]) (by kernel_rfl) (by simp) ?_
          refine AllReadyE.cons (o := _) rfl (fun K hK => ?_) AllReadyE.nil
          refine step_appI2 rfl (.tmp 108) (.tmp 110) rfl W1.heap.size _ (.slice (some ⟨W1.heap.size, 0, none⟩) 1 1) 0 (0 + 1) (tl.take 0) [(ch : Int)] rfl rfl ho9 hr9 rfl (by have := Hsz.out; omega) hB9.size ?_
          intro a11 c11 X4 ho11 hb11 _
          have hB11 := hB9.trans hb11
          refine hK.out _ _ (HS.out _ hB11) (fun hHeld => ?_)
          clear hK K
          (try simp only [Act.put, List.getElem_toArray, List.getElem_cons_succ, List.getElem_cons_zero, List.setIfInBounds_toArray, List.set_cons_zero, List.set_cons_succ])
          refine wpAnyE_ready (rs := [18]) (by kernel_rfl) (by simp) ?_
          refine AllReadyE.cons (o := _) rfl (fun K hK => ?_) AllReadyE.nil
          refine step_appI2 rfl (.tmp 111) (.tmp 117) rfl W1.heap.size _ _ (0 + 1) (0 + 1 + (0 - 0)) _ (tl.drop 0) rfl rfl ho11 (Htl.out _ hB11) (by rw [Hln.out.2]) Hsz.out.2 hB11.size ?_
          intro a18 c18 X5 ho18 hb18 _
          have hB18 := hB11.trans hb18
          have ho18' : X5.ownsRow W1.heap.size 3 1 (.slice a18 (0 + 1 + (0 - 0)) c18) (insI tl ch).length ((insI tl ch).map (.int .i64)) := by rw [Hlen.out, Hin.out]; exact ho18
          obtain ⟨hf18, Hf⟩ := HF.out X5 _ hB18 ho18'
          have Hfin := Lib.hid Hf
          have k18 := HS.out _ hB18
          clear Hf ho18 ho18' ho11 hb11 hb18
          refine hK.out _ _ (HS.out _ hB18) (fun hHeld => ?_)
          clear hK K
          (try simp only [Act.put, List.getElem_toArray, List.getElem_cons_succ, List.getElem_cons_zero, List.setIfInBounds_toArray, List.set_cons_zero, List.set_cons_succ])
          refine wpAnyE_ready (rs := [19]) (by kernel_rfl) (by simp) ?_
          refine AllReadyE.cons (o := _) rfl (fun K hK => ?_) AllReadyE.nil
          rw [if_pos (by rfl)]
          (try simp only [List.getElem_toArray, List.getElem_cons_succ, List.getElem_cons_zero])
          go_simp
          refine hK.out _ _ (HS.out _ hB18) (fun hHeld => ?_)
          clear hK K
          (try simp only [Act.put, List.getElem_toArray, List.getElem_cons_succ, List.getElem_cons_zero, List.setIfInBounds_toArray, List.set_cons_zero, List.set_cons_succ])
          refine wpAnyE_take (by kernel_rfl) (i := 20) (oi := _) (v := ?_) rfl (by kernel_rfl) (by kernel_rfl) (by kernel_rfl) (fun _ _ _ h => h) (Or.inl ⟨by rfl, ?_⟩) (by assumption) ?_
          rotate_left
          · intro w0 hS0; (try simp only [List.getElem_toArray, List.getElem_cons_succ, List.getElem_cons_zero]); go_simp; (try with_reducible rfl)
          (try simp only [Act.put, List.getElem_toArray, List.getElem_cons_succ, List.getElem_cons_zero, List.setIfInBounds_toArray, List.set_cons_zero, List.set_cons_succ])
          refine wpAnyE_ready (rs := [21]) (by kernel_rfl) (by simp) ?_
          refine AllReadyE.last (o := _) rfl (fun K hK => ?_)
          rw [if_pos (by rfl)]
          (try simp only [List.getElem_toArray, List.getElem_cons_succ, List.getElem_cons_zero])
          go_simp
          refine hK.out _ _ (trivial) (fun hHeld => ?_)
          clear hK K
          (try simp only [Act.put, List.getElem_toArray, List.getElem_cons_succ, List.getElem_cons_zero, List.setIfInBounds_toArray, List.set_cons_zero, List.set_cons_succ])
          refine wpAnyE_done (by kernel_rfl) ?_ _
          go_wp2
          all_goals go_ret2
          all_goals exact ⟨rfl, by rw [Htq.out]; exact Hfin.out⟩
      · have hkc : k ≤ cap := by omega
        have Hhd : Hid (∀ X, Below W1.heap.size W1 X → RI X (.slice (some ⟨g, 0, none⟩) k cap) (tl.take k)) := Lib.hid (fun X hb => cutI_to hO hk hb)
        have Htl : Hid (∀ X, Below W1.heap.size W1 X → RI X (.slice (if cap = k then some ⟨g, 0, none⟩ else some ⟨g, k, none⟩) (N - k) (cap - k)) (tl.drop k)) := Lib.hid (fun X hb => cutI_from hO hk hb)
        have HS : Hid (∀ X, Below W1.heap.size W1 X → X.cell? ⟨γ.sb, 3, none⟩ = some (.slice (some ⟨g, 0, none⟩) N cap)) := Lib.hid (fun X hb => (hb.cell (p := ⟨γ.sb, 3, none⟩) hsb1).trans t3)
        clear hO
        go_wp2_with (fail)
        refine wp_region_E (fun w' => w'.cell? ⟨γ.sb, 3, none⟩ = some (.slice (some ⟨g, 0, none⟩) N cap)) 21 (by kernel_rfl) t3 (fun hHeld => ?_)
        refine wpAnyE_take (by kernel_rfl) (i := 0) (oi := _) (v := ?_) rfl (by kernel_rfl) (by kernel_rfl) (by kernel_rfl) (fun _ _ _ h => h) (Or.inl ⟨by rfl, ?_⟩) (by assumption) ?_
        rotate_left
        · intro w0 hS0; (try simp only [List.getElem_toArray, List.getElem_cons_succ, List.getElem_cons_zero]); go_simp; (try with_reducible rfl)
        (try simp only [Act.put, List.getElem_toArray, List.getElem_cons_succ, List.getElem_cons_zero, List.setIfInBounds_toArray, List.set_cons_zero, List.set_cons_succ])
        refine wpAnyE_take (by kernel_rfl) (i := 2) (oi := _) (v := ?_) rfl (by kernel_rfl) (by kernel_rfl) (by kernel_rfl) (fun _ _ _ h => h) (Or.inl ⟨by rfl, ?_⟩) (by assumption) ?_
        rotate_left
        · intro w0 hS0; (try simp only [List.getElem_toArray, List.getElem_cons_succ, List.getElem_cons_zero]); go_simp; (try with_reducible rfl)
        (try simp only [Act.put, List.getElem_toArray, List.getElem_cons_succ, List.getElem_cons_zero, List.setIfInBounds_toArray, List.set_cons_zero, List.set_cons_succ])
        refine wpAnyE_take (by kernel_rfl) (i := 3) (oi := _) (v := ?_) rfl (by kernel_rfl) (by kernel_rfl) (by kernel_rfl) (fun _ _ _ h => h) (Or.inl ⟨by rfl, ?_⟩) (by assumption) ?_
        rotate_left
        · intro w0 hS0; (try simp only [List.getElem_toArray, List.getElem_cons_succ, List.getElem_cons_zero]); go_simp; (try with_reducible rfl)
        (try simp only [Act.put, List.getElem_toArray, List.getElem_cons_succ, List.getElem_cons_zero, List.setIfInBounds_toArray, List.set_cons_zero, List.set_cons_succ])
        refine wpAnyE_take (by kernel_rfl) (i := 4) (oi := _) (v := ?_) rfl (by kernel_rfl) (by kernel_rfl) (by kernel_rfl) (fun _ _ _ h => h) (Or.inl ⟨by rfl, ?_⟩) (by assumption) ?_
        rotate_left
        · intro w0 hS0; (try simp only [List.getElem_toArray, List.getElem_cons_succ, List.getElem_cons_zero]); go_simp; (try with_reducible rfl)
        (try simp only [Act.put, List.getElem_toArray, List.getElem_cons_succ, List.getElem_cons_zero, List.setIfInBounds_toArray, List.set_cons_zero, List.set_cons_succ])
        refine wpAnyE_take (by kernel_rfl) (i := 5) (oi := _) (v := ?_) rfl (by kernel_rfl) (by kernel_rfl) (by kernel_rfl) (fun _ _ _ h => h) (Or.inl ⟨by rfl, ?_⟩) (by assumption) ?_
        rotate_left
        · intro w0 hS0; (try simp only [List.getElem_toArray, List.getElem_cons_succ, List.getElem_cons_zero]); go_simp; (try with_reducible rfl)
        (try simp only [Act.put, List.getElem_toArray, List.getElem_cons_succ, List.getElem_cons_zero, List.setIfInBounds_toArray, List.set_cons_zero, List.set_cons_succ])
        refine wpAnyE_take (by kernel_rfl) (i := 6) (oi := _) (v := ?_) rfl (by kernel_rfl) (by kernel_rfl) (by kernel_rfl) (fun _ _ _ h => h) (Or.inl ⟨by rfl, ?_⟩) (by assumption) ?_
        rotate_left
        · intro w0 hS0; (try simp only [List.getElem_toArray, List.getElem_cons_succ, List.getElem_cons_zero]); go_simp; (try with_reducible rfl)
        (try simp only [Act.put, List.getElem_toArray, List.getElem_cons_succ, List.getElem_cons_zero, List.setIfInBounds_toArray, List.set_cons_zero, List.set_cons_succ])
        refine wpAnyE_take (by kernel_rfl) (i := 7) (oi := _) (v := ?_) rfl (by kernel_rfl) (by kernel_rfl) (by kernel_rfl) (fun _ _ _ h => h) (Or.inl ⟨by rfl, ?_⟩) (by assumption) ?_
        rotate_left
        · intro w0 hS0; (try simp only [List.getElem_toArray, List.getElem_cons_succ, List.getElem_cons_zero]); go_simp; (try with_reducible rfl)
        (try simp only [Act.put, List.getElem_toArray, List.getElem_cons_succ, List.getElem_cons_zero, List.setIfInBounds_toArray, List.set_cons_zero, List.set_cons_succ])
        refine wpAnyE_take (by kernel_rfl) (i := 9) (oi := _) (v := ?_) rfl (by kernel_rfl) (by kernel_rfl) (by kernel_rfl) (fun _ _ _ h => h) (Or.inl ⟨by rfl, ?_⟩) (by assumption) ?_
        rotate_left
        · intro w0 hS0; (try simp only [List.getElem_toArray, List.getElem_cons_succ, List.getElem_cons_zero]); go_simp; (try with_reducible rfl)
        (try simp only [Act.put, List.getElem_toArray, List.getElem_cons_succ, List.getElem_cons_zero, List.setIfInBounds_toArray, List.set_cons_zero, List.set_cons_succ])
        refine wpAnyE_take (by kernel_rfl) (i := 12) (oi := _) (v := ?_) rfl (by kernel_rfl) (by kernel_rfl) (by kernel_rfl) (fun _ _ _ h => h) (Or.inl ⟨by rfl, ?_⟩) (by assumption) ?_
        rotate_left
        · intro w0 hS0; (try simp only [List.getElem_toArray, List.getElem_cons_succ, List.getElem_cons_zero]); go_simp; (try with_reducible rfl)
        (try simp only [Act.put, List.getElem_toArray, List.getElem_cons_succ, List.getElem_cons_zero, List.setIfInBounds_toArray, List.set_cons_zero, List.set_cons_succ])
        refine wpAnyE_take (by kernel_rfl) (i := 13) (oi := _) (v := ?_) rfl (by kernel_rfl) (by kernel_rfl) (by kernel_rfl) (fun _ _ _ h => h) (Or.inl ⟨by rfl, ?_⟩) (by assumption) ?_
        rotate_left
        · intro w0 hS0; (try simp only [List.getElem_toArray, List.getElem_cons_succ, List.getElem_cons_zero]); go_simp; (try with_reducible rfl)
        (try simp only [Act.put, List.getElem_toArray, List.getElem_cons_succ, List.getElem_cons_zero, List.setIfInBounds_toArray, List.set_cons_zero, List.set_cons_succ])
        refine wpAnyE_take (by kernel_rfl) (i := 14) (oi := _) (v := ?_) rfl (by kernel_rfl) (by kernel_rfl) (by kernel_rfl) (fun _ _ _ h => h) (Or.inl ⟨by rfl, ?_⟩) (by assumption) ?_
        rotate_left
        · intro w0 hS0; (try simp only [List.getElem_toArray, List.getElem_cons_succ, List.getElem_cons_zero]); go_simp; (try with_reducible rfl)
        (try simp only [Act.put, List.getElem_toArray, List.getElem_cons_succ, List.getElem_cons_zero, List.setIfInBounds_toArray, List.set_cons_zero, List.set_cons_succ])
        refine wpAnyE_take (by kernel_rfl) (i := 15) (oi := _) (v := ?_) rfl (by kernel_rfl) (by kernel_rfl) (by kernel_rfl) (fun _ _ _ h => h) (Or.inl ⟨by rfl, ?_⟩) (by assumption) ?_
        rotate_left
        · intro w0 hS0; (try simp only [List.getElem_toArray, List.getElem_cons_succ, List.getElem_cons_zero]); go_simp; (try with_reducible rfl)
        (try simp only [Act.put, List.getElem_toArray, List.getElem_cons_succ, List.getElem_cons_zero, List.setIfInBounds_toArray, List.set_cons_zero, List.set_cons_succ])
        refine wpAnyE_take (by kernel_rfl) (i := 16) (oi := _) (v := ?_) rfl (by kernel_rfl) (by kernel_rfl) (by kernel_rfl) (fun _ _ _ h => h) (Or.inl ⟨by rfl, ?_⟩) (by assumption) ?_
        rotate_left
        · intro w0 hS0; (try simp only [List.getElem_toArray, List.getElem_cons_succ, List.getElem_cons_zero]); go_simp; (try with_reducible rfl)
        (try simp only [Act.put, List.getElem_toArray, List.getElem_cons_succ, List.getElem_cons_zero, List.setIfInBounds_toArray, List.set_cons_zero, List.set_cons_succ])
        refine wpAnyE_take (by kernel_rfl) (i := 17) (oi := _) (v := ?_) rfl (by kernel_rfl) (by kernel_rfl) (by kernel_rfl) (fun _ _ _ h => h) (Or.inl ⟨by rfl, ?_⟩) (by assumption) ?_
        rotate_left
        · intro w0 hS0; (try simp only [List.getElem_toArray, List.getElem_cons_succ, List.getElem_cons_zero]); go_simp; (try with_reducible rfl)
        (try simp only [Act.put, List.getElem_toArray, List.getElem_cons_succ, List.getElem_cons_zero, List.setIfInBounds_toArray, List.set_cons_zero, List.set_cons_succ])
        refine wpAnyE_ready (rs := [1, 10]) (by kernel_rfl) (by simp) ?_
        refine AllReadyE.cons (o := _) rfl (fun K hK => ?_) (AllReadyE.cons (o := _) rfl (fun K hK => ?_) AllReadyE.nil)
        · rw [if_pos (by rfl)]
          (try simp only [List.getElem_toArray, List.getElem_cons_succ, List.getElem_cons_zero])
          go_simp
          have hn1 : (W1.alloc (.cells #[] 3)).drew.ownsRow W1.heap.size 3 1 (.slice (some ⟨W1.heap.size, 0, none⟩) 0 0) 0 (([] : List Int).map (.int .i64)) := own_newI W1.drew
          have hB1 : Below W1.heap.size W1 (W1.alloc (.cells #[] 3)).drew := below_new W1 3
          refine hK.out _ _ (HS.out _ (below_new W1 3)) (fun hHeld => ?_)
          clear hK K
          (try simp only [Act.put, List.getElem_toArray, List.getElem_cons_succ, List.getElem_cons_zero, List.setIfInBounds_toArray, List.set_cons_zero, List.set_cons_succ])
          obtain ⟨Y1, hY1⟩ : ∃ Y1, (W1.alloc (.cells #[] 3)).drew = Y1 := ⟨_, rfl⟩
          have hY1s : Y1.heap.size = W1.heap.size + 1 := by rw [← hY1]; simp
          rw [hY1] at hn1 hB1 hHeld ⊢
          clear hY1
          refine wpAnyE_ready (rs := [8, 10]) (by kernel_rfl) (by simp) ?_
          refine AllReadyE.cons (o := _) rfl (fun K hK => ?_) (AllReadyE.cons (o := _) rfl (fun K hK => ?_) AllReadyE.nil)
          · skip
            refine step_appI2 rfl (.tmp 101) (.tmp 107) rfl W1.heap.size (.slice (some ⟨W1.heap.size, 0, none⟩) 0 0) _ 0 k [] (tl.take k) rfl rfl hn1 (Hhd.out _ hB1) (by rw [Hln.out.1, Nat.zero_add]) (by have := Hsz.out; omega) hB1.size ?_
            intro a8 c8 Y2 ho8 hb8 _
            rw [List.nil_append] at ho8
            have hB2 := hB1.trans hb8
            refine hK.out _ _ (HS.out _ hB2) (fun hHeld => ?_)
            clear hK K
            (try simp only [Act.put, List.getElem_toArray, List.getElem_cons_succ, List.getElem_cons_zero, List.setIfInBounds_toArray, List.set_cons_zero, List.set_cons_succ])
            refine wpAnyE_ready (rs := [10]) (by kernel_rfl) (by simp) ?_
            refine AllReadyE.cons (o := _) rfl (fun K hK => ?_) AllReadyE.nil
            rw [if_pos (by rfl)]
            (try simp only [List.getElem_toArray, List.getElem_cons_succ, List.getElem_cons_zero])
            go_simp
            have hB9 : Below W1.heap.size W1 (Y2.alloc (.cells #[.int .i64 (ch : Int)] 3)) := hB2.alloc hB2.size _
            have ho9 := ho8.alloc (.cells #[.int .i64 (ch : Int)] 3)
            have hr9 : RI (Y2.alloc (.cells #[.int .i64 (ch : Int)] 3)) (.slice (some ⟨Y2.heap.size, 0, none⟩) 1 1) [(ch : Int)] := ri_one (World.alloc_heap_new Y2 _)
            refine hK.out _ _ (HS.out _ hB9) (fun hHeld => ?_)
            clear hK K
            (try simp only [Act.put, List.getElem_toArray, List.getElem_cons_succ, List.getElem_cons_zero, List.setIfInBounds_toArray, List.set_cons_zero, List.set_cons_succ])
            refine wpAnyE_ready (rs := [11]) (by kernel_rfl) (by simp) ?_
            refine AllReadyE.cons (o := _) rfl (fun K hK => ?_) AllReadyE.nil
            refine step_appI2 rfl (.tmp 108) (.tmp 110) rfl W1.heap.size _ (.slice (some ⟨Y2.heap.size, 0, none⟩) 1 1) k (k + 1) (tl.take k) [(ch : Int)] rfl rfl ho9 hr9 rfl (by have := Hsz.out; omega) hB9.size ?_
            intro a11 c11 X4 ho11 hb11 _
            have hB11 := hB9.trans hb11
            refine hK.out _ _ (HS.out _ hB11) (fun hHeld => ?_)
            clear hK K
            (try simp only [Act.put, List.getElem_toArray, List.getElem_cons_succ, List.getElem_cons_zero, List.setIfInBounds_toArray, List.set_cons_zero, List.set_cons_succ])
            refine wpAnyE_ready (rs := [18]) (by kernel_rfl) (by simp) ?_
            refine AllReadyE.cons (o := _) rfl (fun K hK => ?_) AllReadyE.nil
            refine step_appI2 rfl (.tmp 111) (.tmp 117) rfl W1.heap.size _ _ (k + 1) (k + 1 + (N - k)) _ (tl.drop k) rfl rfl ho11 (Htl.out _ hB11) (by rw [Hln.out.2]) Hsz.out.2 hB11.size ?_
            intro a18 c18 X5 ho18 hb18 _
            have hB18 := hB11.trans hb18
            have ho18' : X5.ownsRow W1.heap.size 3 1 (.slice a18 (k + 1 + (N - k)) c18) (insI tl ch).length ((insI tl ch).map (.int .i64)) := by rw [Hlen.out, Hin.out]; exact ho18
            obtain ⟨hf18, Hf⟩ := HF.out X5 _ hB18 ho18'
            have Hfin := Lib.hid Hf
            have k18 := HS.out _ hB18
            clear Hf ho18 ho18' ho11 hb11 hb18
            refine hK.out _ _ (HS.out _ hB18) (fun hHeld => ?_)
            clear hK K
            (try simp only [Act.put, List.getElem_toArray, List.getElem_cons_succ, List.getElem_cons_zero, List.setIfInBounds_toArray, List.set_cons_zero, List.set_cons_succ])
            refine wpAnyE_ready (rs := [19]) (by kernel_rfl) (by simp) ?_
            refine AllReadyE.cons (o := _) rfl (fun K hK => ?_) AllReadyE.nil
            rw [if_pos (by rfl)]
            (try simp only [List.getElem_toArray, List.getElem_cons_succ, List.getElem_cons_zero])
            go_simp
            refine hK.out _ _ (HS.out _ hB18) (fun hHeld => ?_)
            clear hK K
            (try simp only [Act.put, List.getElem_toArray, List.getElem_cons_succ, List.getElem_cons_zero, List.setIfInBounds_toArray, List.set_cons_zero, List.set_cons_succ])
            refine wpAnyE_take (by kernel_rfl) (i := 20) (oi := _) (v := ?_) rfl (by kernel_rfl) (by kernel_rfl) (by kernel_rfl) (fun _ _ _ h => h) (Or.inl ⟨by rfl, ?_⟩) (by assumption) ?_
            rotate_left
            · intro w0 hS0; (try simp only [List.getElem_toArray, List.getElem_cons_succ, List.getElem_cons_zero]); go_simp; (try with_reducible rfl)
            (try simp only [Act.put, List.getElem_toArray, List.getElem_cons_succ, List.getElem_cons_zero, List.setIfInBounds_toArray, List.set_cons_zero, List.set_cons_succ])
            refine wpAnyE_ready (rs := [21]) (by kernel_rfl) (by simp) ?_
            refine AllReadyE.last (o := _) rfl (fun K hK => ?_)
            rw [if_pos (by rfl)]
            (try simp only [List.getElem_toArray, List.getElem_cons_succ, List.getElem_cons_zero])
            go_simp
            refine hK.out _ _ (trivial) (fun hHeld => ?_)
            clear hK K
            (try simp only [Act.put, List.getElem_toArray, List.getElem_cons_succ, List.getElem_cons_zero, List.setIfInBounds_toArray, List.set_cons_zero, List.set_cons_succ])
            refine wpAnyE_done (by kernel_rfl) ?_ _
            go_wp2
            all_goals go_ret2
            all_goals exact ⟨rfl, by rw [Htq.out]; exact Hfin.out⟩
          · rw [if_pos (by rfl)]
            (try simp only [List.getElem_toArray, List.getElem_cons_succ, List.getElem_cons_zero])
            go_simp
            have hB2 : Below W1.heap.size W1 (Y1.alloc (.cells #[.int .i64 (ch : Int)] 3)) := hB1.alloc hB1.size _
            have hn2 := hn1.alloc (.cells #[.int .i64 (ch : Int)] 3)
            have hh2 := World.alloc_heap_new Y1 (.cells #[.int .i64 (ch : Int)] 3)
            refine hK.out _ _ (HS.out _ hB2) (fun hHeld => ?_)
            clear hK K
            (try simp only [Act.put, List.getElem_toArray, List.getElem_cons_succ, List.getElem_cons_zero, List.setIfInBounds_toArray, List.set_cons_zero, List.set_cons_succ])
            refine wpAnyE_ready (rs := [8]) (by kernel_rfl) (by simp) ?_
            refine AllReadyE.cons (o := _) rfl (fun K hK => ?_) AllReadyE.nil
            skip
            refine step_appI2 rfl (.tmp 101) (.tmp 107) rfl W1.heap.size (.slice (some ⟨W1.heap.size, 0, none⟩) 0 0) _ 0 k [] (tl.take k) rfl rfl hn2 (Hhd.out _ hB2) (by rw [Hln.out.1, Nat.zero_add]) (by have := Hsz.out; omega) hB2.size ?_
            intro a8 c8 Y2 ho9 hb8 hg8
            rw [List.nil_append] at ho9
            have hB9 := hB2.trans hb8
            have hr9 : RI Y2 (.slice (some ⟨W1.heap.size + 1, 0, none⟩) 1 1) [(ch : Int)] := ri_grown (by rw [← hY1s]; exact hh2) hg8 (by simp [Value.ownBlock])
            refine hK.out _ _ (HS.out _ hB9) (fun hHeld => ?_)
            clear hK K
            (try simp only [Act.put, List.getElem_toArray, List.getElem_cons_succ, List.getElem_cons_zero, List.setIfInBounds_toArray, List.set_cons_zero, List.set_cons_succ])
            refine wpAnyE_ready (rs := [11]) (by kernel_rfl) (by simp) ?_
            refine AllReadyE.cons (o := _) rfl (fun K hK => ?_) AllReadyE.nil
            refine step_appI2 rfl (.tmp 108) (.tmp 110) rfl W1.heap.size _ (.slice (some ⟨(W1.heap.size + 1), 0, none⟩) 1 1) k (k + 1) (tl.take k) [(ch : Int)] rfl rfl ho9 hr9 rfl (by have := Hsz.out; omega) hB9.size ?_
            intro a11 c11 X4 ho11 hb11 _
            have hB11 := hB9.trans hb11
            refine hK.out _ _ (HS.out _ hB11) (fun hHeld => ?_)
            clear hK K
            (try simp only [Act.put, List.getElem_toArray, List.getElem_cons_succ, List.getElem_cons_zero, List.setIfInBounds_toArray, List.set_cons_zero, List.set_cons_succ])
            refine wpAnyE_ready (rs := [18]) (by kernel_rfl) (by simp) ?_
            refine AllReadyE.cons (o := _) rfl (fun K hK => ?_) AllReadyE.nil
            refine step_appI2 rfl (.tmp 111) (.tmp 117) rfl W1.heap.size _ _ (k + 1) (k + 1 + (N - k)) _ (tl.drop k) rfl rfl ho11 (Htl.out _ hB11) (by rw [Hln.out.2]) Hsz.out.2 hB11.size ?_
            intro a18 c18 X5 ho18 hb18 _
            have hB18 := hB11.trans hb18
            have ho18' : X5.ownsRow W1.heap.size 3 1 (.slice a18 (k + 1 + (N - k)) c18) (insI tl ch).length ((insI tl ch).map (.int .i64)) := by rw [Hlen.out, Hin.out]; exact ho18
            obtain ⟨hf18, Hf⟩ := HF.out X5 _ hB18 ho18'
            have Hfin := Lib.hid Hf
            have k18 := HS.out _ hB18
            clear Hf ho18 ho18' ho11 hb11 hb18
            refine hK.out _ _ (HS.out _ hB18) (fun hHeld => ?_)
            clear hK K
            (try simp only [Act.put, List.getElem_toArray, List.getElem_cons_succ, List.getElem_cons_zero, List.setIfInBounds_toArray, List.set_cons_zero, List.set_cons_succ])
            refine wpAnyE_ready (rs := [19]) (by kernel_rfl) (by simp) ?_
            refine AllReadyE.cons (o := _) rfl (fun K hK => ?_) AllReadyE.nil
            rw [if_pos (by rfl)]
            (try simp only [List.getElem_toArray, List.getElem_cons_succ, List.getElem_cons_zero])
            go_simp
            refine hK.out _ _ (HS.out _ hB18) (fun hHeld => ?_)
            clear hK K
            (try simp only [Act.put, List.getElem_toArray, List.getElem_cons_succ, List.getElem_cons_zero, List.setIfInBounds_toArray, List.set_cons_zero, List.set_cons_succ])
            refine wpAnyE_take (by kernel_rfl) (i := 20) (oi := _) (v := ?_) rfl (by kernel_rfl) (by kernel_rfl) (by kernel_rfl) (fun _ _ _ h => h) (Or.inl ⟨by rfl, ?_⟩) (by assumption) ?_
            rotate_left
            · intro w0 hS0; (try simp only [List.getElem_toArray, List.getElem_cons_succ, List.getElem_cons_zero]); go_simp; (try with_reducible rfl)
            (try simp only [Act.put, List.getElem_toArray, List.getElem_cons_succ, List.getElem_cons_zero, List.setIfInBounds_toArray, List.set_cons_zero, List.set_cons_succ])
            refine wpAnyE_ready (rs := [21]) (by kernel_rfl) (by simp) ?_
            refine AllReadyE.last (o := _) rfl (fun K hK => ?_)
            rw [if_pos (by rfl)]
            (try simp only [List.getElem_toArray, List.getElem_cons_succ, List.getElem_cons_zero])
            go_simp
            refine hK.out _ _ (trivial) (fun hHeld => ?_)
            clear hK K
            (try simp only [Act.put, List.getElem_toArray, List.getElem_cons_succ, List.getElem_cons_zero, List.setIfInBounds_toArray, List.set_cons_zero, List.set_cons_succ])
            refine wpAnyE_done (by kernel_rfl) ?_ _
            go_wp2
            all_goals go_ret2
            all_goals exact ⟨rfl, by rw [Htq.out]; exact Hfin.out⟩
        · rw [if_pos (by rfl)]
          (try simp only [List.getElem_toArray, List.getElem_cons_succ, List.getElem_cons_zero])
          go_simp
          have hB1 : Below W1.heap.size W1 (W1.alloc (.cells #[.int .i64 (ch : Int)] 3)).drew := ((Below.refl _ W1).drew).alloc (Nat.le_refl _) _
          have hh1 : (W1.alloc (.cells #[.int .i64 (ch : Int)] 3)).drew.heap[W1.heap.size]? = some (.cells #[.int .i64 (ch : Int)] 3 (0, 0)) := World.alloc_heap_new W1.drew (.cells #[.int .i64 (ch : Int)] 3)
          refine hK.out _ _ (HS.out _ hB1) (fun hHeld => ?_)
          clear hK K
          (try simp only [Act.put, List.getElem_toArray, List.getElem_cons_succ, List.getElem_cons_zero, List.setIfInBounds_toArray, List.set_cons_zero, List.set_cons_succ])
          obtain ⟨Y1, hY1⟩ : ∃ Y1, (W1.alloc (.cells #[.int .i64 (ch : Int)] 3)).drew = Y1 := ⟨_, rfl⟩
          have hY1s : Y1.heap.size = W1.heap.size + 1 := by rw [← hY1]; simp
          rw [hY1] at hB1 hh1 hHeld ⊢
          clear hY1
          refine wpAnyE_ready (rs := [1]) (by kernel_rfl) (by simp) ?_
          refine AllReadyE.cons (o := _) rfl (fun K hK => ?_) AllReadyE.nil
          rw [if_pos (by rfl)]
          (try simp only [List.getElem_toArray, List.getElem_cons_succ, List.getElem_cons_zero])
          go_simp
          have hn2 : (Y1.alloc (.cells #[] 3)).ownsRow W1.heap.size 3 1 (.slice (some ⟨W1.heap.size + 1, 0, none⟩) 0 0) 0 (([] : List Int).map (.int .i64)) := by rw [← hY1s]; exact World.ownsRow_lit Y1 #[] 0 hB1.size (by decide) (by simp)
          have hB2 : Below W1.heap.size W1 (Y1.alloc (.cells #[] 3)) := hB1.alloc hB1.size _
          have hh2 : (Y1.alloc (.cells #[] 3)).heap[W1.heap.size]? = some (.cells #[.int .i64 (ch : Int)] 3 (0, 0)) := (((Below.refl Y1.heap.size Y1).alloc (Nat.le_refl _) _).block _ (by omega)).trans hh1
          refine hK.out _ _ (HS.out _ hB2) (fun hHeld => ?_)
          clear hK K
          (try simp only [Act.put, List.getElem_toArray, List.getElem_cons_succ, List.getElem_cons_zero, List.setIfInBounds_toArray, List.set_cons_zero, List.set_cons_succ])
          refine wpAnyE_ready (rs := [8]) (by kernel_rfl) (by simp) ?_
          refine AllReadyE.cons (o := _) rfl (fun K hK => ?_) AllReadyE.nil
          skip
          refine step_appI2 rfl (.tmp 101) (.tmp 107) rfl W1.heap.size (.slice (some ⟨W1.heap.size + 1, 0, none⟩) 0 0) _ 0 k [] (tl.take k) rfl rfl hn2 (Hhd.out _ hB2) (by rw [Hln.out.1, Nat.zero_add]) (by have := Hsz.out; omega) hB2.size ?_
          intro a8 c8 Y2 ho9 hb8 hg8
          rw [List.nil_append] at ho9
          have hB9 := hB2.trans hb8
          have hr9 : RI Y2 (.slice (some ⟨W1.heap.size, 0, none⟩) 1 1) [(ch : Int)] := ri_grown hh2 hg8 (by simp [Value.ownBlock])
          refine hK.out _ _ (HS.out _ hB9) (fun hHeld => ?_)
          clear hK K
          (try simp only [Act.put, List.getElem_toArray, List.getElem_cons_succ, List.getElem_cons_zero, List.setIfInBounds_toArray, List.set_cons_zero, List.set_cons_succ])
          refine wpAnyE_ready (rs := [11]) (by kernel_rfl) (by simp) ?_
          refine AllReadyE.cons (o := _) rfl (fun K hK => ?_) AllReadyE.nil
          refine step_appI2 rfl (.tmp 108) (.tmp 110) rfl W1.heap.size _ (.slice (some ⟨W1.heap.size, 0, none⟩) 1 1) k (k + 1) (tl.take k) [(ch : Int)] rfl rfl ho9 hr9 rfl (by have := Hsz.out; omega) hB9.size ?_
          intro a11 c11 X4 ho11 hb11 _
          have hB11 := hB9.trans hb11
          refine hK.out _ _ (HS.out _ hB11) (fun hHeld => ?_)
          clear hK K
          (try simp only [Act.put, List.getElem_toArray, List.getElem_cons_succ, List.getElem_cons_zero, List.setIfInBounds_toArray, List.set_cons_zero, List.set_cons_succ])
          refine wpAnyE_ready (rs := [18]) (by kernel_rfl) (by simp) ?_
          refine AllReadyE.cons (o := _) rfl (fun K hK => ?_) AllReadyE.nil
          refine step_appI2 rfl (.tmp 111) (.tmp 117) rfl W1.heap.size _ _ (k + 1) (k + 1 + (N - k)) _ (tl.drop k) rfl rfl ho11 (Htl.out _ hB11) (by rw [Hln.out.2]) Hsz.out.2 hB11.size ?_
          intro a18 c18 X5 ho18 hb18 _
          have hB18 := hB11.trans hb18
          have ho18' : X5.ownsRow W1.heap.size 3 1 (.slice a18 (k + 1 + (N - k)) c18) (insI tl ch).length ((insI tl ch).map (.int .i64)) := by rw [Hlen.out, Hin.out]; exact ho18
          obtain ⟨hf18, Hf⟩ := HF.out X5 _ hB18 ho18'
          have Hfin := Lib.hid Hf
          have k18 := HS.out _ hB18
          clear Hf ho18 ho18' ho11 hb11 hb18
          refine hK.out _ _ (HS.out _ hB18) (fun hHeld => ?_)
          clear hK K
          (try simp only [Act.put, List.getElem_toArray, List.getElem_cons_succ, List.getElem_cons_zero, List.setIfInBounds_toArray, List.set_cons_zero, List.set_cons_succ])
          refine wpAnyE_ready (rs := [19]) (by kernel_rfl) (by simp) ?_
          refine AllReadyE.cons (o := _) rfl (fun K hK => ?_) AllReadyE.nil
          rw [if_pos (by rfl)]
          (try simp only [List.getElem_toArray, List.getElem_cons_succ, List.getElem_cons_zero])
          go_simp
          refine hK.out _ _ (HS.out _ hB18) (fun hHeld => ?_)
          clear hK K
          (try simp only [Act.put, List.getElem_toArray, List.getElem_cons_succ, List.getElem_cons_zero, List.setIfInBounds_toArray, List.set_cons_zero, List.set_cons_succ])
          refine wpAnyE_take (by kernel_rfl) (i := 20) (oi := _) (v := ?_) rfl (by kernel_rfl) (by kernel_rfl) (by kernel_rfl) (fun _ _ _ h => h) (Or.inl ⟨by rfl, ?_⟩) (by assumption) ?_
          rotate_left
          · intro w0 hS0; (try simp only [List.getElem_toArray, List.getElem_cons_succ, List.getElem_cons_zero]); go_simp; (try with_reducible rfl)
          (try simp only [Act.put, List.getElem_toArray, List.getElem_cons_succ, List.getElem_cons_zero, List.setIfInBounds_toArray, List.set_cons_zero, List.set_cons_succ])
          refine wpAnyE_ready (rs := [21]) (by kernel_rfl) (by simp) ?_
          refine AllReadyE.last (o := _) rfl (fun K hK => ?_)
          rw [if_pos (by rfl)]
          (try simp only [List.getElem_toArray, List.getElem_cons_succ, List.getElem_cons_zero])
          go_simp
          refine hK.out _ _ (trivial) (fun hHeld => ?_)
          clear hK K
          (try simp only [Act.put, List.getElem_toArray, List.getElem_cons_succ, List.getElem_cons_zero, List.setIfInBounds_toArray, List.set_cons_zero, List.set_cons_succ])
          refine wpAnyE_done (by kernel_rfl) ?_ _
          go_wp2
          all_goals go_ret2
          all_goals exact ⟨rfl, by rw [Htq.out]; exact Hfin.out⟩
end
end Go.Proofs.Ytfmgncajhjkdlaa.R7
/- slab.New where it fails. -/
namespace Go.Proofs.Ytfmgncajhjkdlaa
open Go.RowKit Go.PlainAid
open SP
set_option linter.unusedVariables false
set_option linter.unusedSimpArgs false

def NoPost (w : World) (e : Ending) (w' : World) : Prop := e = .returned (.tuple #[.pointer none, .int .i64 1]) ∧ ∃ n, w' = w.drewN n
section
variable {w : World} {g k np S : Nat} {bv : Value} {ow bs : List Int}
theorem new_nil (v : Value) (w : World) : Calls Try.prog 21 #[.pointer none, v] w (NoPost w) := by
  go_enter Try.func21, Try.ntmps21
  go_wp2_with (fail)
  go_quiet (fail)
  go_wp2
  go_ret2
  exact ⟨rfl, _, rfl⟩
theorem new_a (hA : Ar w g k np S bv ow bs) (v : Value) (h : 0 < AP.granted ow) :
    Calls Try.prog 21 #[.pointer (some ⟨g, 0, none⟩), v] w (NoPost w) := by
  have HG : Hid (∀ m, Calls Try.prog 37 #[.pointer (some ⟨g, 0, none⟩)] (w.drewN m) fun e w' => e = .returned (.int .i64 (AP.granted ow)) ∧ w' = w.drewN m) := Lib.hid (fun m => (granted_at (hA.drewN m) rfl).mono (fun e w' h => ⟨h.1, h.2.symm⟩))
  generalize AP.granted ow = r at *
  clear hA
  have g1 : decide (0 < r) = true := by simpa using h
  go_enter Try.func21, Try.ntmps21
  go_wp2_with (fail)
  go_quiet ((go_at_call 37; exact Calls.quiet_of_same (HG.out _)))
  go_wp2
  go_ret2
  exact ⟨rfl, _, rfl⟩
theorem new_b (hA : Ar w g k np S bv ow bs) (hgr : AP.granted ow = 0) (a : Option Addr) (n c : Nat) (h : n = 0 ∨ 63 < n) :
    Calls Try.prog 21 #[.pointer (some ⟨g, 0, none⟩), .slice a n c] w (NoPost w) := by
  have HG : Hid (∀ m, Calls Try.prog 37 #[.pointer (some ⟨g, 0, none⟩)] (w.drewN m) fun e w' => e = .returned (.int .i64 0) ∧ w' = w.drewN m) := Lib.hid (fun m => (granted_at (hA.drewN m) hgr).mono (fun e w' h => ⟨h.1, h.2.symm⟩))
  clear hA
  rcases h with rfl | h
  · go_enter Try.func21, Try.ntmps21
    go_wp2_with (fail)
    go_quiet ((go_at_call 37; exact Calls.quiet_of_same (HG.out _)))
    go_wp2
    go_ret2
    exact ⟨rfl, _, rfl⟩
  · have g4 : ((n : Int) == 0) = false := beq_eq_false_iff_ne.2 (by omega)
    have g5 : decide ((63 : Int) < (n : Int)) = true := by simp; omega
    go_enter Try.func21, Try.ntmps21
    go_wp2_with (fail)
    go_quiet ((go_at_call 37; exact Calls.quiet_of_same (HG.out _)))
    go_wp2
    go_ret2
    exact ⟨rfl, _, rfl⟩

set_option maxHeartbeats 4000000 in
theorem new_c (hA : Ar w g k np S bv ow bs) (hgr : AP.granted ow = 0) (a : Option Addr) (n c : Nat) (l : List Int) (hr : RI w (.slice a n c) l) (hcap : n ≤ c) (hn1 : 1 ≤ n) (hn2 : n ≤ 63) (h : l[0]?.getD 0 < 64) :
    Calls Try.prog 21 #[.pointer (some ⟨g, 0, none⟩), .slice a n c] w (NoPost w) := by
  have HG : Hid (∀ m, Calls Try.prog 37 #[.pointer (some ⟨g, 0, none⟩)] (w.drewN m) fun e w' => e = .returned (.int .i64 0) ∧ w' = w.drewN m) := Lib.hid (fun m => (granted_at (hA.drewN m) hgr).mono (fun e w' h => ⟨h.1, h.2.symm⟩))
  obtain ⟨b, o, rfl, hbl, hc0⟩ := hr.at (i := 0) (by omega)
  rw [Nat.add_zero] at hc0
  generalize hx0 : l[0]?.getD 0 = x0 at *
  obtain ⟨m, rfl⟩ : ∃ m, n = m + 1 := ⟨n - 1, by omega⟩
  have g1 : decide (x0 < 64) = true := by simpa using h
  have g4 : ((m : Int) + 1 == 0) = false := beq_eq_false_iff_ne.2 (by omega)
  have g5 : decide ((63 : Int) < (m : Int) + 1) = false := by simp; omega
  have g6 : (0 : Int) < (m : Int) + 1 := by omega
  clear hA hr hx0 h
  go_enter Try.func21, Try.ntmps21
  go_wp2_with (fail)
  go_quiet ((go_at_call 37; exact Calls.quiet_of_same (HG.out _)))
  go_wp2
  go_ret2
  exact ⟨rfl, _, rfl⟩
set_option maxHeartbeats 4000000 in
theorem new_d (hA : Ar w g k np S bv ow bs) (hgr : AP.granted ow = 0) (a : Option Addr) (n c : Nat) (l : List Int) (hr : RI w (.slice a n c) l) (hcap : n ≤ c) (hn1 : 1 ≤ n) (hn2 : n ≤ 63) (h : (64 : Int) ≤ l[0]?.getD 0) (h2 : (S : Int) < l[n - 1]?.getD 0) :
    Calls Try.prog 21 #[.pointer (some ⟨g, 0, none⟩), .slice a n c] w (NoPost w) := by
  have HG : Hid (∀ m, Calls Try.prog 37 #[.pointer (some ⟨g, 0, none⟩)] (w.drewN m) fun e w' => e = .returned (.int .i64 0) ∧ w' = w.drewN m) := Lib.hid (fun m => (granted_at (hA.drewN m) hgr).mono (fun e w' h => ⟨h.1, h.2.symm⟩))
  have HP : Hid (∀ m, Calls Try.prog 38 #[.pointer (some ⟨g, 0, none⟩)] (w.drewN m) fun e w' => e = .returned (.int .i64 S) ∧ w' = w.drewN m) := Lib.hid (fun m => (page_any (hA.drewN m)).mono (fun e w' h => ⟨h.1, h.2.symm⟩))
  obtain ⟨b, o, rfl, hbl, hc0⟩ := hr.at (i := 0) (by omega)
  obtain ⟨b', o', e, _, hcl⟩ := hr.at (i := n - 1) (by omega)
  simp only [Option.some.injEq, Addr.mk.injEq, and_true] at e
  obtain ⟨rfl, rfl⟩ := e
  rw [Nat.add_zero] at hc0
  generalize hx0 : l[0]?.getD 0 = x0 at *
  generalize hx1 : l[n - 1]?.getD 0 = x1 at *
  obtain ⟨m, rfl⟩ : ∃ m, n = m + 1 := ⟨n - 1, by omega⟩
  rw [Nat.add_sub_cancel] at hcl
  have g1 : decide (x0 < 64) = false := by simpa using h
  have g2 : decide ((S : Int) < x1) = true := by simpa using h2
  have g4 : ((m : Int) + 1 == 0) = false := beq_eq_false_iff_ne.2 (by omega)
  have g5 : decide ((63 : Int) < (m : Int) + 1) = false := by simp; omega
  have g6 : (0 : Int) < (m : Int) + 1 := by omega
  have g7 : (m : Int) < (m : Int) + 1 := by omega
  clear hA hr hx0 hx1 h h2
  go_enter Try.func21, Try.ntmps21
  go_wp2_with (fail)
  go_quiet ((first | (go_at_call 37; exact Calls.quiet_of_same (HG.out _)) | (go_at_call 38; exact Calls.quiet_of_same (HP.out _))))
  go_wp2
  go_ret2
  exact ⟨rfl, _, rfl⟩
set_option maxHeartbeats 4000000 in
theorem new_e (hA : Ar w g k np S bv ow bs) (hgr : AP.granted ow = 0) (a : Option Addr) (n c : Nat) (l : List Int) (hr : RI w (.slice a n c) l) (hcap : n ≤ c) (hn1 : 1 ≤ n) (hn2 : n ≤ 63) (h : (64 : Int) ≤ l[0]?.getD 0) (h2 : l[n - 1]?.getD 0 ≤ (S : Int)) (h3 : ¬ ∀ i, i + 1 < n → l[i]?.getD 0 < l[i + 1]?.getD 0) :
    Calls Try.prog 21 #[.pointer (some ⟨g, 0, none⟩), .slice a n c] w (NoPost w) := by
  have HG : Hid (∀ m, Calls Try.prog 37 #[.pointer (some ⟨g, 0, none⟩)] (w.drewN m) fun e w' => e = .returned (.int .i64 0) ∧ w' = w.drewN m) := Lib.hid (fun m => (granted_at (hA.drewN m) hgr).mono (fun e w' h => ⟨h.1, h.2.symm⟩))
  have HP : Hid (∀ m, Calls Try.prog 38 #[.pointer (some ⟨g, 0, none⟩)] (w.drewN m) fun e w' => e = .returned (.int .i64 S) ∧ w' = w.drewN m) := Lib.hid (fun m => (page_any (hA.drewN m)).mono (fun e w' h => ⟨h.1, h.2.symm⟩))
  obtain ⟨b, o, rfl, hbl, hc0⟩ := hr.at (i := 0) (by omega)
  have Hcell : Hid (∀ i, i < n → w.cell? ⟨b, o + i, none⟩ = some (.int .i64 (l[i]?.getD 0))) := Lib.hid (fun i hi => by
    obtain ⟨b', o', e, _, h2⟩ := hr.at hi
    simp only [Option.some.injEq, Addr.mk.injEq, and_true] at e
    obtain ⟨rfl, rfl⟩ := e
    exact h2)
  have hcl := Hcell.out (n - 1) (by omega)
  rw [Nat.add_zero] at hc0
  have H3 := Lib.hid h3
  generalize hx0 : l[0]?.getD 0 = x0 at *
  generalize hx1 : l[n - 1]?.getD 0 = x1 at *
  obtain ⟨m, rfl⟩ : ∃ m, n = m + 1 := ⟨n - 1, by omega⟩
  rw [Nat.add_sub_cancel] at hcl
  have g1 : decide (x0 < 64) = false := by simpa using h
  have g2 : decide ((S : Int) < x1) = false := by simpa using h2
  have g4 : ((m : Int) + 1 == 0) = false := beq_eq_false_iff_ne.2 (by omega)
  have g5 : decide ((63 : Int) < (m : Int) + 1) = false := by simp; omega
  have g6 : (0 : Int) < (m : Int) + 1 := by omega
  have g7 : (m : Int) < (m : Int) + 1 := by omega
  clear hA hr hx0 hx1 h h2 h3
  go_enter Try.func21, Try.ntmps21
  go_wp2_with (fail)
  go_quiet ((first | (go_at_call 37; exact Calls.quiet_of_same (HG.out _)) | (go_at_call 38; exact Calls.quiet_of_same (HP.out _))))
  obtain ⟨W1, hW1⟩ : ∃ W1, w.drewN nq = W1 := ⟨_, rfl⟩
  rw [hW1]
  have Hc1 : Hid (∀ i, i < m + 1 → W1.cell? ⟨b, o + i, none⟩ = some (.int .i64 (l[i]?.getD 0))) := Lib.hid (by rw [← hW1]; exact Hcell.out)
  have HW := Lib.hid hW1
  clear hW1 hc0 hcl
  have h1c : (1 : Int) ≤ (c : Int) := by omega
  have hmc : ((m : Int) + 1) ≤ (c : Int) := by omega
  go_upto_region 3 with (fail)
  go_cut [43, 44, 45] from 42 to 45 (fun s43 s44 s45 wx => ∃ a, s43 = .slice a m (c - 1) ∧ Hid (0 < m → a = some ⟨b, o + 1, none⟩) ∧ s44 = .int .i64 m ∧ s45 = .int .i64 0 ∧ W1 = wx)
  case first =>
    by_cases hc1 : c = 1
    · have hm0 : m = 0 := by omega
      subst hc1 hm0
      go_wp2
      go_meet
      case rel => exact ⟨_, rfl, Lib.hid (fun h => by omega), rfl, rfl, rfl⟩
    · have hc2 : ¬ ((c : Int) = 1) := by omega
      go_wp2
      all_goals go_meet
      case rel => exact ⟨_, rfl, Lib.hid (fun h => rfl), rfl, rfl, rfl⟩
  case rest =>
    obtain ⟨a, rfl, Ha, rfl, rfl, rfl⟩ := hcut
    go_upto_region 9 with (fail)
    go_loop [45, 6, 7] (fun i _ _ => ∃ k : Nat, k ≤ m ∧ i = .int .i64 k ∧ Hid (∀ j, j < k → l[j]?.getD 0 < l[j + 1]?.getD 0)) (fun i _ _ => m - (intOf i).toNat)
    case atStart => exact ⟨0, Nat.zero_le _, rfl, Lib.hid (fun j hj => absurd hj (Nat.not_lt_zero _))⟩
    case round =>
      obtain ⟨kk, hk, rfl, Hk⟩ := hrel
      by_cases hlt : kk < m
      · obtain rfl := Ha.out (by omega)
        have hcA := Hc1.out (kk + 1) (by omega)
        have hcB := Hc1.out kk (by omega)
        rw [show o + (kk + 1) = o + 1 + kk by omega] at hcA
        have hkm : (kk : Int) < (m : Int) := by omega
        have hkm1 : (kk : Int) < (m : Int) + 1 := by omega
        by_cases hup : l[kk]?.getD 0 < l[kk + 1]?.getD 0
        · have Hs : Hid (∀ j, j < kk + 1 → l[j]?.getD 0 < l[j + 1]?.getD 0) := Lib.hid (fun j hj => by
            rcases Nat.lt_or_ge j kk with h | h
            · exact Hk.out j h
            · rw [show j = kk by omega]; exact hup)
          generalize l[kk + 1]?.getD 0 = xb at *
          generalize l[kk]?.getD 0 = xa at *
          have hd : decide (xb ≤ xa) = false := by simpa using hup
          go_wp2
          go_round
          case rel => exact ⟨kk + 1, by omega, by go_num, Hs⟩
          case measure => simp [intOf]; omega
        · generalize l[kk + 1]?.getD 0 = xb at *
          generalize l[kk]?.getD 0 = xa at *
          have hd : decide (xb ≤ xa) = true := by simp; omega
          go_wp2
          go_ret2
          exact ⟨rfl, _, HW.out.symm⟩
      · exact absurd (fun i hi => Hk.out i (by omega)) H3.out

theorem new_fail (hA : Ar w g k np S bv ow bs) (a : Option Addr) (n c : Nat) (l : List Int) (hr : RI w (.slice a n c) l) (hcap : n ≤ c) (hno : ¬ (AP.granted ow = 0 ∧ Szs S l)) :
    Calls Try.prog 21 #[.pointer (some ⟨g, 0, none⟩), .slice a n c] w (NoPost w) := by
  have hln : l.length = n := by
    obtain ⟨a', cap', e, _⟩ := hr
    simp only [Value.slice.injEq] at e
    omega
  by_cases h0 : AP.granted ow = 0
  case neg => exact new_a hA _ (by unfold AP.granted at h0 ⊢; omega)
  by_cases h1 : n = 0 ∨ 63 < n
  · exact new_b hA h0 a n c h1
  by_cases h2 : l[0]?.getD 0 < 64
  · exact new_c hA h0 a n c l hr hcap (by omega) (by omega) h2
  by_cases h3 : (S : Int) < l[n - 1]?.getD 0
  · exact new_d hA h0 a n c l hr hcap (by omega) (by omega) (by omega) h3
  refine new_e hA h0 a n c l hr hcap (by omega) (by omega) (by omega) (by omega) (fun h4 => hno ⟨h0, ⟨by omega, by omega, by rw [hln]; omega, fun i hi => h4 i (by omega)⟩⟩)
end
end Go.Proofs.Ytfmgncajhjkdlaa
/- the document's New. -/
namespace Go.Proofs.Ytfmgncajhjkdlaa.R7
open Go.RowKit Go.PlainAid
open SP
set_option linter.unusedVariables false
set_option linter.unusedSimpArgs false

def rho0 (S : Nat) (ow F l : List Int) : Rp := ⟨S, ow, F, l, List.replicate l.length [], [], []⟩
def gam0 (sb g k ck r cr : Nat) (vs : List Value) (vz : Value) (rb n : Nat) : Gk := ⟨sb, g, k, ck, r, cr, vs, vz, rb, n, List.replicate n (.slice none 0 0), .slice none 0 0, .slice none 0 0⟩
theorem newMs {W w2 w3 w4 : World} {g k ck r cr np S n zc : Nat} {ow F l : List Int} {vs : List Value} {az : Option Addr} (hA : R6.Rf W g k ck r cr np S ow vs F) (hn : l.length = n) (hz : w2.ownsRow W.heap.size 3 1 (.slice az n zc) n (l.map (.int .i64))) (hb2 : Below W.heap.size W w2)
    (h3 : w2.alloc (.cells #[.pointer (some ⟨g, 0, none⟩), .slice az n zc, .slice none 0 0, .slice none 0 0, .slice none 0 0] 84) = w3)
    (ho4 : w4.ownsRow w3.heap.size 22 1 (.slice (some ⟨w3.heap.size, 0, none⟩) n n) n (List.replicate n (.slice none 0 0))) (hg4 : w3.grownBy w4 none) :
    w4.cell? ⟨w2.heap.size, 2, none⟩ = some (.slice none 0 0) ∧ w4.frozen? ⟨w2.heap.size, 2, none⟩ = false ∧
    Ms (w4.setCell ⟨w2.heap.size, 2, none⟩ (.slice (some ⟨w3.heap.size, 0, none⟩) n n)) (gam0 w2.heap.size g k ck r cr vs (.slice az n zc) w3.heap.size n) (rho0 S ow F l) ∧
    (∀ b, ft (gam0 w2.heap.size g k ck r cr vs (.slice az n zc) w3.heap.size n) (rho0 S ow F l) b → R6.rFoot g k r S vs b ∨ W.heap.size ≤ b) ∧ Below W.heap.size W (w4.setCell ⟨w2.heap.size, 2, none⟩ (.slice (some ⟨w3.heap.size, 0, none⟩) n n)) := by
  have h3s : w3.heap.size = w2.heap.size + 1 := by rw [← h3]; simp
  have hs2 := hb2.size
  have hs4 := hg4.size
  have e3 : w3.heap[w2.heap.size]? = some (.cells #[.pointer (some ⟨g, 0, none⟩), .slice az n zc, .slice none 0 0, .slice none 0 0, .slice none 0 0] 84 (0, 0)) := by rw [← h3]; exact World.alloc_heap_new w2 _
  have e4 : w4.heap[w2.heap.size]? = some (.cells #[.pointer (some ⟨g, 0, none⟩), .slice az n zc, .slice none 0 0, .slice none 0 0, .slice none 0 0] 84 (0, 0)) := ((Tch.of_grown hg4).block _ (by omega) (fun h => by cases h)).trans e3
  have e5 := cells_set e4 (Value.slice (some ⟨w3.heap.size, 0, none⟩) n n) (i := 2)
  have hb3 : Below W.heap.size W w3 := by rw [← h3]; exact hb2.alloc hs2 _
  have hb4 : Below W.heap.size W w4 := hb3.grown hg4 (by omega) (fun _ h => by cases h)
  have hb5 : Below W.heap.size W (w4.setCell ⟨w2.heap.size, 2, none⟩ (.slice (some ⟨w3.heap.size, 0, none⟩) n n)) := hb4.setCell (by show W.heap.size ≤ w2.heap.size; omega) _
  have hT : Tch (fun b => b = w2.heap.size) w2 (w4.setCell ⟨w2.heap.size, 2, none⟩ (.slice (some ⟨w3.heap.size, 0, none⟩) n n)) := by
    have t1 : Tch (fun b => b = w2.heap.size) w2 w3 := by rw [← h3]; exact Tch.of_below _ ((Below.refl _ w2).alloc (Nat.le_refl _) _)
    have t2 : Tch (fun b => none = some b) w3 w4 := Tch.of_grown hg4
    exact (t1.trans t2 (fun b hb => by cases hb)).trans (Tch.setCell w4 w2.heap.size 2 _) (fun b hb => .inl hb)
  have hF : ∀ i b, bk (gam0 w2.heap.size g k ck r cr vs (.slice az n zc) w3.heap.size n) (rho0 S ow F l) i b → (i = .sl ∧ b = w2.heap.size) ∨ (i = .ar ∧ b < W.heap.size ∧ R6.rFoot g k r S vs b) ∨ (i = .siz ∧ W.heap.size ≤ b ∧ b < w2.heap.size) ∨ (i = .rows ∧ b = w2.heap.size + 1) := by
    intro i b hb
    cases i with
    | sl => exact .inl ⟨rfl, hb⟩
    | ar => exact .inr (.inl ⟨rfl, R6.rFoot_lt hA b hb, hb⟩)
    | siz => exact .inr (.inr (.inl ⟨rfl, (own_cells hz hb).choose_spec.2.2.1, (own_cells hz hb).choose_spec.2.2.2⟩))
    | rows => exact .inr (.inr (.inr ⟨rfl, by have h : b = w3.heap.size := hb; omega⟩))
    | row c =>
      obtain ⟨v, hv, hvb⟩ := hb
      have hv' : (List.replicate n (Value.slice none 0 0))[c]? = some v := hv
      rw [List.getElem?_replicate] at hv'
      split at hv'
      · cases hv'; cases hvb
      · cases hv'
    | tk => cases hb
    | cl => cases hb
  refine ⟨cell_of e4 2, by simp [World.frozen?, e4], ⟨fun i => ?_, fun i j b hi hj => ?_, fun i b hb => ?_⟩, fun b ⟨i, hb⟩ => ?_, hb5⟩
  · cases i with
    | sl => exact (show _ = some (Obj.cells #[.pointer (some ⟨g, 0, none⟩), .slice az n zc, .slice (some ⟨w3.heap.size, 0, none⟩) l.length n, .slice none 0 0, .slice none 0 0] 84 (0, 0)) by rw [hn]; exact e5)
    | ar =>
      have h1 := R6.Rf.keep hA (Tch.of_below (fun _ => False) hb5) (fun _ x => x.elim)
      show R6.Rf _ g k ck r cr ow.length S ow vs F
      rw [hA.len]
      exact h1
    | siz =>
      show World.ownsRow _ 0 3 1 (.slice az n zc) l.length (l.map (.int .i64))
      rw [hn]
      exact own_tchB (R6.own_mono hz (Nat.zero_le _)) hT (fun b hb hx => by
        have := (own_cells hz hb).choose_spec.2.2.2
        have hx' : b = w2.heap.size := hx
        omega)
    | rows =>
      show World.ownsRow _ 0 22 1 (.slice (some ⟨w3.heap.size, 0, none⟩) l.length n) l.length (List.replicate n (.slice none 0 0))
      rw [hn]
      exact own_tchB (R6.own_mono ho4 (Nat.zero_le _)) (Tch.setCell w4 w2.heap.size 2 _) (fun b hb hx => by
        have e : w3.heap.size = b := by simpa [Value.ownBlock] using hb
        have hx' : b = w2.heap.size := hx
        omega)
    | row c =>
      intro v l' hv hl'
      have hv' : (List.replicate n (Value.slice none 0 0))[c]? = some v := hv
      have hl'' : (List.replicate l.length ([] : List Int))[c]? = some l' := hl'
      rw [List.getElem?_replicate] at hv' hl''
      split at hv'
      · cases hv'
        split at hl''
        · cases hl''; exact World.ownsRow_nil _ _ _ _
        · cases hl''
      · cases hv'
    | tk => exact World.ownsRow_nil _ _ _ _
    | cl => exact World.ownsRow_nil _ _ _ _
  · rcases hF i b hi with ⟨rfl, h1⟩ | ⟨rfl, h1, _⟩ | ⟨rfl, h1⟩ | ⟨rfl, h1⟩ <;> rcases hF j b hj with ⟨rfl, h2⟩ | ⟨rfl, h2, _⟩ | ⟨rfl, h2⟩ | ⟨rfl, h2⟩ <;> first | rfl | omega
  · have hsz : (w4.setCell ⟨w2.heap.size, 2, none⟩ (.slice (some ⟨w3.heap.size, 0, none⟩) n n)).heap.size = w4.heap.size := by simp
    have h4 : w3.heap.size < w4.heap.size := (ho4.lt _ rfl).2
    have hW := hb2.size
    rcases hF i b hb with ⟨_, h1⟩ | ⟨_, h1, _⟩ | ⟨_, h1⟩ | ⟨_, h1⟩ <;> omega
  · rcases hF i b hb with ⟨_, h1⟩ | ⟨_, h1, h2⟩ | ⟨_, h1⟩ | ⟨_, h1⟩
    · right; omega
    · exact .inl h2
    · right; omega
    · right; omega

def RnPost (g k ck r cr S : Nat) (ow F : List Int) (vs : List Value) (l : List Int) (w : World) (e : Ending) (w' : World) : Prop :=
  ∃ γ, e = .returned (.tuple #[.pointer (some ⟨γ.sb, 0, none⟩), .int .i64 0]) ∧ Ms w' γ (rho0 S ow F l) ∧ γ.g = g ∧ (∀ b, ft γ (rho0 S ow F l) b → R6.rFoot g k r S vs b ∨ w.heap.size ≤ b) ∧ Below w.heap.size w w'
def okAt (S : Nat) (l : List Int) (i : Nat) : Prop := 64 ≤ l[i]?.getD 0 ∧ l[i]?.getD 0 ≤ (S : Int) ∧ (0 < i → l[i - 1]?.getD 0 < l[i]?.getD 0)
theorem okAt_szs {S : Nat} {l : List Int} (hl : 1 ≤ l.length ∧ l.length ≤ 63) : (∀ i, i < l.length → okAt S l i) ↔ Szs S l :=
  ⟨fun h => ⟨hl, (h 0 (by omega)).1, (h (l.length - 1) (by omega)).2.1, fun i hi => by have := (h (i + 1) hi).2.2 (by omega); simpa using this⟩,
   fun h i hi => ⟨(h.at i hi).1, (h.at i hi).2, fun h0 => by
    have := h.up (i - 1) (by omega)
    rwa [show i - 1 + 1 = i by omega] at this⟩⟩

section
variable {w : World} {g k ck r cr np S : Nat} {ow F : List Int} {vs : List Value}
theorem rnew_a (hA : R6.Rf w g k ck r cr np S ow vs F) (a : Option Addr) (n c : Nat) (h : n = 0 ∨ 63 < n) :
    Calls Try.prog 25 #[.pointer (some ⟨g, 0, none⟩), .slice a n c] w (NoPost w) := by
  clear hA
  rcases h with rfl | h
  · go_enter Try.func25, Try.ntmps25
    go_wp2
    go_ret2
    exact ⟨rfl, 0, rfl⟩
  · have g4 : ((n : Int) == 0) = false := beq_eq_false_iff_ne.2 (by omega)
    have g5 : (63 : Int) < (n : Int) := by omega
    go_enter Try.func25, Try.ntmps25
    go_wp2
    go_ret2
    exact ⟨rfl, 0, rfl⟩
theorem rnew_b (hA : R6.Rf w g k ck r cr np S ow vs F) (a : Option Addr) (n c : Nat) (hn : 1 ≤ n ∧ n ≤ 63) (h : 0 < AP.granted ow) :
    Calls Try.prog 25 #[.pointer (some ⟨g, 0, none⟩), .slice a n c] w (NoPost w) := by
  have HG := Lib.hid (R6.rGranted_any hA)
  generalize AP.granted ow = x at *
  clear hA
  have g4 : ((n : Int) == 0) = false := beq_eq_false_iff_ne.2 (by omega)
  have g5 : ¬ (63 : Int) < (n : Int) := by omega
  go_enter Try.func25, Try.ntmps25
  go_wp2_with (go_at_call 42; refine HG.out.mono ?_; rintro e w' ⟨rfl, rfl⟩)
  go_ret2
  exact ⟨rfl, 0, rfl⟩

set_option maxRecDepth 100000 in
set_option maxHeartbeats 4000000 in
theorem rnew_c (hA : R6.Rf w g k ck r cr np S ow vs F) (hgr : AP.granted ow = 0) (a : Option Addr) (n c : Nat) (l : List Int) (hr : RI w (.slice a n c) l) (hn : 1 ≤ n ∧ n ≤ 63) :
    Calls Try.prog 25 #[.pointer (some ⟨g, 0, none⟩), .slice a n c] w (fun e w' => (Szs S l ∧ RnPost g k ck r cr S ow F vs l w e w') ∨ (¬ Szs S l ∧ NoPost w e w')) := by
  have hln : l.length = n := by
    obtain ⟨a', cap', e, _⟩ := hr
    simp only [Value.slice.injEq] at e
    omega
  have HG : Hid (Calls Try.prog 42 #[.pointer (some ⟨g, 0, none⟩)] w fun e w' => e = .returned (.int .i64 0) ∧ w = w') := Lib.hid (by have := R6.rGranted_any hA; rw [hgr] at this; exact this)
  obtain ⟨b, o, rfl, hbl, hc0⟩ := hr.at (i := 0) (by omega)
  have Hcell : Hid (∀ i, i < n → w.cell? ⟨b, o + i, none⟩ = some (.int .i64 (l[i]?.getD 0))) := Lib.hid (fun i hi => by
    obtain ⟨b', o', e, _, h2⟩ := hr.at hi
    simp only [Option.some.injEq, Addr.mk.injEq, and_true] at e
    obtain ⟨rfl, rfl⟩ := e
    exact h2)
  have c0 := hA.c0
  have g4 : ((n : Int) == 0) = false := beq_eq_false_iff_ne.2 (by omega)
  have g5 : ¬ (63 : Int) < (n : Int) := by omega
  have HA := Lib.hid hA
  have Hr := Lib.hid hr
  have Hln := Lib.hid hln
  have hni : (n : Int) ≤ 63 := by omega
  clear hA hr hln hc0 hgr
  go_enter Try.func25, Try.ntmps25
  go_wp2_with (go_at_call 42; refine HG.out.mono ?_; rintro e w' ⟨rfl, rfl⟩)
  clear HG
  go_loopw [7] (fun i wr => ∃ (j m : Nat), j ≤ n ∧ i = .int .i64 j ∧ wr = w.drewN m ∧ Hid (∀ i, i < j → okAt S l i)) (fun i _ => n - (intOf i).toNat)
  case atStart => exact ⟨0, 0, Nat.zero_le _, rfl, rfl, Lib.hid (fun i hi => absurd hi (Nat.not_lt_zero _))⟩
  case round =>
    obtain ⟨j, m, hj, rfl, rfl, Hj⟩ := hrel
    by_cases hlt : j < n
    · have hcj : w.cell? ⟨b, o + j, none⟩ = some (.int .i64 (l[j]?.getD 0)) := Hcell.out j hlt
      have Hnot : Hid (¬ okAt S l j → ¬ Szs S l) := Lib.hid (fun h1 h2 => h1 ((okAt_szs h2.len).2 h2 j (by rw [Hln.out]; exact hlt)))
      have hjn : (j : Int) < (n : Int) := by omega
      obtain ⟨x, hx⟩ : ∃ x, l[j]?.getD 0 = x := ⟨_, rfl⟩
      rw [hx] at hcj
      by_cases h1 : x < 64
      · have d1 : decide (x < 64) = true := by simpa using h1
        have Hn := Lib.hid (Hnot.out (fun h => by have := h.1; rw [hx] at this; omega))
        clear hx h1
        go_wp2_with (fail)
        go_quiet (fail)
        go_wp2
        go_ret2
        exact .inr ⟨Hn.out, rfl, _, World.drewN_drewN ..⟩
      · have d1 : decide (x < 64) = false := by simpa using h1
        by_cases h2 : (S : Int) < x
        · have d2 : decide ((S : Int) < x) = true := by simpa using h2
          have Hn := Lib.hid (Hnot.out (fun h => by have := h.2.1; rw [hx] at this; omega))
          clear hx h1 h2
          go_wp2_with (fail)
          go_quiet (fail)
          go_wp2
          go_ret2
          exact .inr ⟨Hn.out, rfl, _, World.drewN_drewN ..⟩
        · have d2 : decide ((S : Int) < x) = false := by simpa using h2
          cases j with
          | zero =>
            have Hs : Hid (∀ i, i < 0 + 1 → okAt S l i) := Lib.hid (fun i hi => by
              rw [show i = 0 by omega]
              exact ⟨by rw [hx]; omega, by rw [hx]; omega, fun h => absurd h (Nat.lt_irrefl _)⟩)
            have h0n : (0 : Int) < (n : Int) := by omega
            rw [Nat.add_zero] at hcj
            clear hx h1 h2
            go_wp2_with (fail)
            go_quiet (fail)
            go_wp2
            go_roundw
            case rel => exact ⟨1, m + nq, by omega, rfl, rfl, Hs⟩
            case measure => simp [intOf]; omega
          | succ q =>
            have hcq : w.cell? ⟨b, o + q, none⟩ = some (.int .i64 (l[q]?.getD 0)) := Hcell.out q (by omega)
            obtain ⟨y, hy⟩ : ∃ y, l[q]?.getD 0 = y := ⟨_, rfl⟩
            rw [hy] at hcq
            have hqn : (q : Int) < (n : Int) := by omega
            have hqn1 : (q : Int) + 1 < (n : Int) := by omega
            have hwq : IntKind.i64.wrap ((q : Int) + 1 - 1) = (q : Int) := by rw [show (q : Int) + 1 - 1 = q by omega]; exact IntWalk.i64_in _ (by omega)
            have hq0 : (0 : Int) < (q : Int) + 1 := by omega
            have dq : decide ((0 : Int) < (q : Int) + 1) = true := decide_eq_true hq0
            by_cases h3 : x ≤ y
            · have d3 : decide (x ≤ y) = true := by simpa using h3
              have Hn := Lib.hid (Hnot.out (fun h => by have := h.2.2 (by omega); rw [Nat.add_sub_cancel, hx, hy] at this; omega))
              clear hx hy h1 h2 h3
              go_wp2_with (fail)
              go_quiet (fail)
              go_wp2
              go_ret2
              exact .inr ⟨Hn.out, rfl, _, World.drewN_drewN ..⟩
            · have d3 : decide (x ≤ y) = false := by simpa using h3
              have Hs : Hid (∀ i, i < q + 1 + 1 → okAt S l i) := Lib.hid (fun i hi => by
                rcases Nat.lt_or_ge i (q + 1) with h | h
                · exact Hj.out i h
                · rw [show i = q + 1 by omega]
                  exact ⟨by rw [hx]; omega, by rw [hx]; omega, fun _ => by rw [Nat.add_sub_cancel, hx, hy]; omega⟩)
              clear hx hy h1 h2 h3
              go_wp2_with (fail)
              go_quiet (fail)
              go_wp2
              go_roundw
              case rel => exact ⟨q + 1 + 1, m + nq, by omega, by go_num, rfl, Hs⟩
              case measure => simp [intOf]; omega
    · have hjn : j = n := by omega
      subst hjn
      have Hz : Hid (Szs S l) := Lib.hid ((okAt_szs (by rw [Hln.out]; omega)).1 (fun i hi => Hj.out i (by rw [← Hln.out]; exact hi)))
      obtain ⟨W, hW⟩ : ∃ W, w.drewN m = W := ⟨_, rfl⟩
      have HAW : Hid (R6.Rf W g k ck r cr np S ow vs F) := Lib.hid (by rw [← hW]; exact HA.out.drewN m)
      have hra : Hid (RI (W.alloc (.cells #[] 3)) (.slice (some ⟨b, o, none⟩) j c) l) := Lib.hid ((show RI W (.slice (some ⟨b, o, none⟩) j c) l by rw [← hW]; exact Hr.out.below (below_drewN (Below.refl _ w) m)).below ((Below.refl _ _).alloc (Nat.le_refl _) _))
      have HBW : Hid (Below w.heap.size w W) := Lib.hid (by rw [← hW]; exact below_drewN (Below.refl _ w) m)
      have hWs : Hid (W.heap.size = w.heap.size) := Lib.hid (by rw [← hW]; rfl)
      rw [hW]
      obtain ⟨j0, hj0, jz0, jz1, jz2⟩ := info_parts sliE_info
      have hll : l.length ≤ 63 := by rw [Hln.out]; omega
      have hmk : (madeCells (Value.slice none 0 0).cells (j * 1)).toList = List.replicate j (.slice none 0 0) := by rw [Nat.mul_one]; exact toList_madeCells_one _ j
      clear hW c0 Hcell
      go_wp2_with (first
        | (at_builtin; go_must (refine wp_appRI W _ rfl _ _ rfl W.heap.size (.slice (some ⟨W.heap.size, 0, none⟩) 0 0) (.slice (some ⟨b, o, none⟩) j c) 0 [] l rfl (own_newI W) rfl hra.out ((Below.refl _ _).alloc (Nat.le_refl _) _) (by omega) (by simp) ?_)
           intro v2 w2 ho2 hb2 _
           rw [List.nil_append, Nat.zero_add, Hln.out] at ho2
           obtain ⟨az, zc, rfl, _⟩ := own_sl ho2
           obtain ⟨w3, h3⟩ : ∃ w3, w2.alloc (.cells #[.pointer (some ⟨g, 0, none⟩), .slice az j zc, .slice none 0 0, .slice none 0 0, .slice none 0 0] 84) = w3 := ⟨_, rfl⟩
           have h3s : w3.heap.size = w2.heap.size + 1 := by rw [← h3]; simp)
        | (at_make; (try rw [h3]); go_must (refine wpList_make_full w3 rfl _ _ 63 rfl w3.heap.size 22 j0 (.slice none 0 0) 1 Try.underlying63 hj0 jz0 jz1 _ _ _ _ j rfl rfl rfl rfl (by rw [jz2]; omega) (by unfold maxLen; omega) (Nat.le_refl _) ?_)
           intro w4 ho4 hg4
           have hfin := newMs HAW.out Hln.out ho2 hb2 h3 (by rw [hmk] at ho4; exact ho4) hg4
           obtain ⟨k2, k3, hfin⟩ := hfin
           have Hfin := Lib.hid hfin
           clear hfin ho4))
      go_ret2
      have hf := Hfin.out
      rw [h3s] at hf
      exact .inl ⟨Hz.out, _, rfl, hf.1, rfl, fun b hb => by rw [← hWs.out]; exact hf.2.1 b hb, HBW.out.trans (hf.2.2.mono (by rw [hWs.out]; exact Nat.le_refl _))⟩

theorem rnew_any (hA : R6.Rf w g k ck r cr np S ow vs F) (a : Option Addr) (n c : Nat) (l : List Int) (hr : RI w (.slice a n c) l) :
    Calls Try.prog 25 #[.pointer (some ⟨g, 0, none⟩), .slice a n c] w (fun e w' => ((AP.granted ow = 0 ∧ Szs S l) ∧ RnPost g k ck r cr S ow F vs l w e w') ∨ (¬ (AP.granted ow = 0 ∧ Szs S l) ∧ NoPost w e w')) := by
  have hln : l.length = n := by
    obtain ⟨a', cap', e, _⟩ := hr
    simp only [Value.slice.injEq] at e
    omega
  by_cases h1 : n = 0 ∨ 63 < n
  · exact (rnew_a hA a n c h1).mono (fun e w' h => .inr ⟨fun h2 => by have := h2.2.len; omega, h⟩)
  by_cases h0 : AP.granted ow = 0
  · exact (rnew_c hA h0 a n c l hr (by omega)).mono (fun e w' h => h.imp (fun h => ⟨⟨h0, h.1⟩, h.2⟩) (fun h => ⟨fun h2 => h.1 h2.2, h.2⟩))
  · exact (rnew_b hA a n c (by omega) (by unfold AP.granted at h0 ⊢; omega)).mono (fun e w' h => .inr ⟨fun h2 => h0 h2.1, h⟩)
end
end Go.Proofs.Ytfmgncajhjkdlaa.R7
