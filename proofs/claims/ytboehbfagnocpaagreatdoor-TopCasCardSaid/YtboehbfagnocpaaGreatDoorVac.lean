/- Sal. -/
import Derived.Test.YtboehbfagnocpaaGreatDoorVab
import Derived.Deep.CutRange
import Derived.Deep.Cut
import Derived.Deep.RegionHeld3
set_option linter.unusedVariables false
set_option linter.unusedSimpArgs false
set_option maxRecDepth 100000
namespace Go.Proofs.YtboehbfagnocpaaGreatDoor
open Go.RowKit Go.PlainAid
open SP
theorem Mem.owned {w W : World} {β : Bk} {π : Pi} {L : Nat} {ow' : List Int} (h : Mem w β π L) (hA : Ar W β.g β.k π.ow.length π.S β.bv ow' π.bs) (hg : w.grownBy W (some β.k)) :
    Mem W β { π with ow := ow' } L ∧ Step w β π W β { π with ow := ow' } := by
  have hl : ow'.length = π.ow.length := hA.len
  refine h.updS (fun i => i = .own) (Tch.of_grown hg) ?_ ?_ ?_ rfl rfl
  · intro b hb
    exact ⟨.own, rfl, by simpa [blk] using hb⟩
  · intro i hi
    cases i with
    | own => exact absurd rfl hi
    | ar => exact ⟨rfl, fun W' hr => by simpa only [res, hl] using hr⟩
    | row c' => exact ⟨rfl, fun W' hr => hr⟩
    | pg q => exact ⟨rfl, fun W' hr => hr⟩
    | use q => exact ⟨rfl, fun W' hr => hr⟩
    | _ => exact ⟨rfl, fun W' hr => hr⟩
  · rintro i rfl
    refine ⟨?_, fun b hb => ?_⟩
    · have := hA.own
      simpa only [res, hl] using this
    · have e : β.k = b := by simpa [blk] using hb
      subst e
      exact ⟨Nat.lt_of_lt_of_le (h.lt .own _ rfl) hg.size, .inl rfl⟩
theorem own_drop {w : World} {base g n cap : Nat} {e : TypeId} {xs : List Value} (h : w.ownsRow base e 1 (.slice (some ⟨g, 0, none⟩) (n + 1) cap) (n + 1) xs) : w.ownsRow base e 1 (.slice (some ⟨g, 0, none⟩) n cap) n xs.dropLast := by
  rcases h.2 with ⟨h1, _⟩ | ⟨g', cap', cur, h1, h2, h3, h4, h5, h6, h7⟩
  · cases h1
  · obtain ⟨rfl, rfl⟩ : g' = g ∧ cap' = cap := by simpa [eq_comm] using h1
    have hl := h.1
    refine ⟨by simp; omega, .inr ⟨g', cap', cur, rfl, h2, h3, by omega, h5, h6, ?_⟩⟩
    rw [← h7]
    simp only [Nat.mul_one] at h6 ⊢
    rw [List.dropLast_eq_take, List.take_take]
    congr 1
    simp
    omega
theorem setPg_setPg (π : Pi) (p : Nat) (x y : Pg) : setPg (setPg π p x) p y = setPg π p y := by unfold setPg; simp
theorem class_at {w : World} {β : Bk} {π : Pi} {L : Nat} (h : Mem w β π L) (c : Int) {b : Bool} (hb : decide (0 ≤ c ∧ c < (π.sz.length : Int)) = b) :
    Calls Tryz.prog 234 #[.pointer (some ⟨β.sb, 0, none⟩), .int .i64 c] w fun e w' => e = .returned (.bool b) ∧ w = w' := by rw [← hb]; exact class_any h c
theorem layL_new (p r : Nat) (hr : 0 < r) : layL p (List.replicate r false) ≠ [] := by
  unfold layL psh
  intro h
  have h1 := List.map_eq_nil_iff.1 h
  rw [List.filter_eq_nil_iff] at h1
  rw [List.length_replicate, show r = (r - 1) + 1 by omega, bwd_succ] at h1
  have := h1 _ (List.mem_append_right _ (List.mem_singleton_self _))
  simp only [List.length_replicate, List.getElem?_replicate] at this
  rw [if_pos (by omega)] at this
  simp at this
theorem freshP_row {π : Pi} {p c : Nat} (hc : c < π.rows.length) : rowC (freshP π p c) c = rowC π c ++ layL p (List.replicate (per π c) false) := by
  unfold rowC freshP rowsAdd setPg
  dsimp only
  rw [List.getElem?_set_self hc]; rfl
theorem Wf.pre {π : Pi} {L : Nat} (h : Wf π L) {c : Nat} (hc : c < π.sz.length) (hm : L + 1500 ≤ 100000000) (hok : rowC π c = [] → AP.least π.ow < π.ow.length) : Wf (preP π c) (L + 1025) ∧ rowC (preP π c) c ≠ [] := by
  unfold preP
  by_cases hr : rowC π c = []
  · rw [if_pos hr]
    have hl := hok hr
    have h0 := AP.least_zero hl
    have h1 : Wf (SP.setPg { π with ow := π.ow.set (AP.least π.ow) ((c : Int) + 1) } (AP.least π.ow) (frPg π c)) L := h.newPg hl hc (fun x hx => by have := (h.page_some hx).1; omega)
    have hpl : AP.least π.ow < π.pg.length := by rw [h.pl]; exact hl
    constructor
    · have h2 := (h1.mono (L' := L + 1) (by omega) (by omega)).lay (p := AP.least π.ow) (c := c) (x := frPg π c) ((page_setPg (π := { π with ow := π.ow.set (AP.least π.ow) ((c : Int) + 1) }) hpl _).trans (if_pos rfl)) rfl (by simp only [SP.setPg]; rw [List.getElem?_set_self hl]; rfl) (by omega) (fun l hrl i _ hin => by
        have e0 : l = [] := by
          have : rowC π c = l := by unfold rowC; rw [show π.rows[c]? = some l from hrl]; rfl
          rw [← this]; exact hr
        rw [e0] at hin; cases hin)
      exact h2
    · rw [freshP_row (by rw [h.rl]; exact hc)]
      intro e
      exact layL_new _ _ (by have := (h.per_one hc).1; exact this) (List.append_eq_nil_iff.1 e).2
  · rw [if_neg hr]
    exact ⟨h.mono (by omega) (by omega), hr⟩
theorem own_grant {π : Pi} {c : Nat} (hl : AP.least π.ow < π.ow.length) : AP.owner (π.ow.set (AP.least π.ow) ((c : Int) + 1)) (AP.least π.ow) = c := by
  rw [AP.owner_at (by simpa using hl), List.getElem?_set_self hl]
  simp
theorem alOk_zero {π : Pi} {c : Int} (h : 0 ≤ c ∧ c < (π.sz.length : Int)) (h2 : rowC π c.toNat = [] → AP.least π.ow < π.ow.length) : alOk π c = 0 := by
  unfold alOk
  rw [if_neg (by simpa using h), if_neg (by rintro ⟨h3, h4⟩; exact h4 (h2 h3))]
theorem alOk_inv {π : Pi} {c : Int} (h : alOk π c = 0) (hr : rowC π c.toNat = []) : AP.least π.ow < π.ow.length := by
  unfold alOk at h
  split at h
  · omega
  · split at h
    · omega
    · rename_i h1 h2
      exact Classical.byContradiction fun h3 => h2 ⟨hr, h3⟩
theorem preP_sz (π : Pi) (c : Nat) : (preP π c).sz = π.sz := by unfold preP; split <;> rfl
theorem lastC_mem {l : List Int} (h : l ≠ []) : lastC l ∈ l := by
  have := List.length_pos_iff.2 h
  unfold lastC
  rw [List.getElem?_eq_getElem (by omega)]
  exact List.getElem_mem _
def AlPost (β : Bk) (π : Pi) (L : Nat) (c : Int) (w : World) (e : Ending) (w' : World) : Prop :=
  e = .returned (.tuple #[.int .i64 (alC π c), .int .i64 (alOk π c : Nat)]) ∧ ∃ β', Mem w' β' (alS π c) (L + 2000) ∧ Step w β π w' β' (alS π c)
theorem Mem.more {w : World} {β : Bk} {π : Pi} {L L' : Nat} (h : Mem w β π L) (hl : L ≤ L') : Mem w β π L' := by
  refine ⟨fun i => ?_, h.inj, h.lt⟩
  cases i with
  | map =>
    obtain ⟨D, ho, hD⟩ := h.lie .map
    exact ⟨D, ho.mono hl, hD⟩
  | sl => exact h.lie .sl
  | ar => exact h.lie .ar
  | own => exact h.lie .own
  | byt => exact h.lie .byt
  | siz => exact h.lie .siz
  | rows => exact h.lie .rows
  | row c => exact h.lie (.row c)
  | pg p => exact h.lie (.pg p)
  | use p => exact h.lie (.use p)
set_option maxRecDepth 100000 in
set_option maxHeartbeats 4000000 in
theorem alloc_any {w : World} {β : Bk} {π : Pi} {L : Nat} (h : Mem w β π L) (hw : Wf π L) (c : Int) (hm : L + 2000 ≤ 100000000) :
    Calls Tryz.prog 191 #[.pointer (some ⟨β.sb, 0, none⟩), .int .i64 c] w (AlPost β π L c w) := by
  by_cases hcl : 0 ≤ c ∧ c < (π.sz.length : Int)
  case neg =>
    have Hc := Lib.hid (class_at h c (b := false) (by simpa using hcl))
    have Hp : Hid (AlPost β π L c w (.returned (.tuple #[.int .i64 (-1), .int .i64 1])) w) := by
      have e : alOk π c = 1 := by unfold alOk; rw [if_pos hcl]
      refine Lib.hid ⟨?_, β, ?_, ?_⟩
      · unfold alC; rw [e]; rfl
      · unfold alS; rw [e, if_neg (by omega)]; exact h.more (by omega)
      · unfold alS; rw [e, if_neg (by omega)]; exact Step.refl _ _ _
    clear h
    go_enter Tryz.func191, Tryz.ntmps191
    go_wp2_with (go_at_call 234; refine Hc.out.mono ?_; rintro e w' ⟨rfl, rfl⟩)
    go_ret2
    exact Hp.out
  case pos =>
    obtain ⟨k, rfl⟩ := Int.eq_ofNat_of_zero_le hcl.1
    have hk : k < π.sz.length := by omega
    have Hc := Lib.hid (class_at h (k : Int) (b := true) (by simpa using hk))
    obtain ⟨a, rcap, l, hl, hrv, hrc, hro⟩ := h.row hw k hk
    have s2 := h.s2
    have s0 := h.s0
    have hrl := h.rvl
    have hnp := hw.np1
    have hk1 := hw.k1
    have hrow : rowC π k = l := by unfold rowC; rw [hl]; rfl
    have hA := h.ar hw
    have HA := Lib.hid (grant_any hA k)
    have HM := Lib.hid h
    clear h hA
    go_enter Tryz.func191, Tryz.ntmps191
    go_upto_if 23 with (go_at_call 234; refine Hc.out.mono ?_; rintro e w' ⟨rfl, rfl⟩)
    go_cut [] from 4 to 39 (fun wx => Hid (alOk π k = 0) ∧ ∃ β1, Hid (Mem wx β1 (preP π k) (L + 1025)) ∧ Hid (Step w β π wx β1 (preP π k)))
    case first =>
      by_cases h0 : l.length = 0
      · have hl0 : l = [] := List.length_eq_zero_iff.1 h0
        have hkk : (k : Int) < 63 := by omega
        by_cases hle : AP.least π.ow < π.ow.length
        · have Hg : Hid (∀ e w', GrPost π.ow π.bs β.g β.k π.ow.length π.S β.bv k w e w' → e = .returned (.tuple #[.int .i64 (AP.least π.ow : Nat), .int .i64 0]) ∧ Mem w' β { π with ow := π.ow.set (AP.least π.ow) ((k : Int) + 1) } L ∧ Step w β π w' β { π with ow := π.ow.set (AP.least π.ow) ((k : Int) + 1) }) := Lib.hid (fun e w' ⟨he, hA', hg⟩ => by
            have ok : AP.okO (k : Int) = true := by unfold AP.okO; exact decide_eq_true ⟨by omega, hkk⟩
            unfold AP.grP AP.grE at he
            rw [if_pos ⟨ok, hle⟩, if_pos ok, if_pos hle] at he
            unfold AP.grO at hA'
            rw [if_pos ⟨ok, hle⟩] at hA'
            exact ⟨he, HM.out.owned hA' hg⟩)
          have HW : Hid (Wf (setPg { π with ow := π.ow.set (AP.least π.ow) ((k : Int) + 1) } (AP.least π.ow) (frPg { π with ow := π.ow.set (AP.least π.ow) ((k : Int) + 1) } k)) (L + 1)) := Lib.hid ((hw.newPg hle hk (fun x hx => by have := (hw.page_some hx).1; have := AP.least_zero hle; omega)).mono (by omega) (by omega))
          have Hok := Lib.hid (alOk_zero (π := π) (c := (k : Int)) hcl (fun _ => hle))
          have Hpre : Hid (preP π k = freshP { π with ow := π.ow.set (AP.least π.ow) ((k : Int) + 1) } (AP.least π.ow) k) := Lib.hid (by unfold preP; rw [if_pos (hrow.trans hl0)])
          have Hown := Lib.hid (own_grant (π := π) (c := k) hle)
          have Hle := Lib.hid hle
          generalize AP.least π.ow = q at *
          clear hle
          go_wp2_with (first
            | (go_at_call 235; refine HA.out.mono ?_; intro e w1 hg1; obtain ⟨rfl, hM1, hS1⟩ := Hg.out e w1 hg1; clear hg1)
            | (go_at_call 236; refine (fresh_any hM1 q k HW.out Hown.out hk (by simpa using Hle.out)).mono ?_; rintro e w2 ⟨⟨v2, rfl⟩, β2, hM2, hS2⟩))
          go_meet
          case rel => exact ⟨Hok, β2, Lib.hid (by rw [Hpre.out]; exact hM2.more (by omega)), Lib.hid (by rw [Hpre.out]; exact hS1.trans hS2)⟩
        · have Hp : Hid (∀ e w', GrPost π.ow π.bs β.g β.k π.ow.length π.S β.bv k w e w' → e = .returned (.tuple #[.int .i64 (-1), .int .i64 5]) ∧ AlPost β π L k w (.returned (.tuple #[.int .i64 (-1), .int .i64 5])) w') := Lib.hid (fun e w' ⟨he, hA', hg⟩ => by
            have ok : AP.okO (k : Int) = true := by unfold AP.okO; exact decide_eq_true ⟨by omega, hkk⟩
            unfold AP.grP AP.grE at he
            rw [if_neg (fun h => hle h.2), if_pos ok, if_neg hle] at he
            unfold AP.grO at hA'
            rw [if_neg (fun h => hle h.2)] at hA'
            have e5 : alOk π k = 5 := by unfold alOk; rw [if_neg (by simpa using hcl), if_pos ⟨hrow.trans hl0, hle⟩]
            have := HM.out.owned hA' hg
            refine ⟨he, ?_, β, ?_, ?_⟩
            · unfold alC; rw [e5]; rfl
            · unfold alS; rw [e5, if_neg (by omega)]; exact this.1.more (by omega)
            · unfold alS; rw [e5, if_neg (by omega)]; exact this.2)
          clear hle
          go_wp2_with (go_at_call 235; refine HA.out.mono ?_; intro e w1 hg1; obtain ⟨rfl, hP1⟩ := Hp.out e w1 hg1; clear hg1)
          go_ret2
          exact hP1
      · have hl0 : l ≠ [] := fun e => h0 (by rw [e]; rfl)
        have hne : rowC π k ≠ [] := by rw [hrow]; exact hl0
        have Hok := Lib.hid (alOk_zero (π := π) (c := (k : Int)) hcl (fun e => absurd e hne))
        have Hpre : Hid (preP π k = π) := Lib.hid (by unfold preP; rw [if_neg hne])
        go_wp2
        go_meet
        case rel => exact ⟨Hok, β, Lib.hid (by rw [Hpre.out]; exact HM.out.more (by omega)), Lib.hid (by rw [Hpre.out]; exact Step.refl _ _ _)⟩
    case rest =>
      obtain ⟨Hok, β1, HM1, HS1⟩ := hcut
      have hwp := hw.pre hk (by omega) (fun hr => alOk_inv (c := (k : Int)) Hok.out hr)
      have hkz : k < (preP π k).sz.length := by rw [preP_sz]; exact hk
      have HC : Hid (alC π k = lastC (rowC (preP π k) k)) := Lib.hid (by unfold alC; rw [if_pos Hok.out]; rfl)
      have HS : Hid (alS π k = popP (preP π k) k) := Lib.hid (by unfold alS; rw [if_pos Hok.out]; rfl)
      generalize preP π k = π1 at *
      obtain ⟨hw1, hne⟩ := hwp
      clear s2 s0 hrc hro hrv hl hrow HA Hc HM hnp hk1 hrl
      obtain ⟨a1, cap1, l1, hl1, hrv1, hrc1, hro1⟩ := HM1.out.row hw1 k hkz
      have hrl1 := HM1.out.rvl
      have hk1 := hw1.k1
      have hrow1 : rowC π1 k = l1 := by unfold rowC; rw [hl1]; rfl
      rw [hrow1] at hne HC
      have hlp := List.length_pos_iff.2 hne
      have hll := (hw1.ch k l1 hl1).1
      obtain ⟨n, hn⟩ : ∃ n, l1.length = n + 1 := ⟨l1.length - 1, by omega⟩
      obtain ⟨p, i, g, hch, hpg, hig, hgu, hgc, hgo⟩ := (hw1.ch k l1 hl1).2.2 _ (lastC_mem hne)
      rw [hn] at hrc1 hro1 hrv1
      obtain ⟨rg, cap', e1, _, hrg⟩ := hro1.form (by omega)
      obtain ⟨rfl, rfl⟩ : a1 = some ⟨rg, 0, none⟩ ∧ cap1 = cap' := by simpa using e1
      clear e1
      have hcap := own_cap hro1
      have hps := hw1.page_some hpg
      have hpl := hw1.page_lt hpg
      have hnp := hw1.np1
      have hgn : 0 ≤ g.n ∧ g.n ≤ 1024 := by
        have := List.count_le_length (a := true) (l := g.used)
        omega
      obtain ⟨ch, hchm⟩ : ∃ ch : Nat, ch = p * 4096 + i := ⟨_, rfl⟩
      rw [← hchm] at hch
      have hu := hps.2.2.2.2
      have q1 : (ch : Int) / 4096 = (p : Int) := by omega
      have q2 : (ch : Int) % 4096 = (i : Int) := by omega
      have hlast : wc.cell? ⟨rg, n, none⟩ = some (.int .i64 (ch : Int)) := by
        have := own_int hro1 n (by omega)
        rw [this, ← hch]
        unfold lastC
        rw [hn, Nat.add_sub_cancel]
      -- the worlds
      have Md := HM1.out.drew
      have hrows : wc.drew.ownsRow 0 39 1 (.slice (some ⟨β1.rb, 0, none⟩) π1.sz.length β1.rc) π1.sz.length β1.rv := Md.lie .rows
      have hst := hrows.stored k (.slice (some ⟨rg, 0, none⟩) n cap1)
      have hrgb : rg ≠ β1.rb := fun e => by have := HM1.out.inj (.row k) .rows rg (by simp [blk, hrv1, Value.ownBlock]) (by rw [e]; rfl); cases this
      have hrod : wc.drew.ownsRow 0 3 1 (.slice (some ⟨rg, 0, none⟩) (n + 1) cap1) (n + 1) (l1.map (.int .i64)) := hro1.kept (row := none) ⟨rfl, rfl, rfl, Nat.le_refl _, fun _ _ _ => rfl⟩ (by simp [Value.ownBlock])
      have hdl : (l1.dropLast).length = n := by simp [hn]
      have hfr0 : wc.drew.frozen? ⟨β1.rb, k, none⟩ = false := hrows.frozenAt k
      have MW1 := Md.setRow hw1 k hkz (.slice (some ⟨rg, 0, none⟩) n cap1) l1.dropLast ((Tch.setCell wc.drew β1.rb k _).mono (fun b hb => .inl hb)) hst.1
        (by rw [hdl, List.map_dropLast]; exact own_tchB (own_drop hrod) (Tch.setCell wc.drew β1.rb k (.slice (some ⟨rg, 0, none⟩) n cap1)) (fun b hb hx => hrgb ((show rg = b by simpa [Value.ownBlock] using hb).trans hx)))
        (fun b hb => .inl (by rw [hrv1]; exact hb))
      obtain ⟨W1, hW1⟩ : ∃ W1, wc.drew.setCell ⟨β1.rb, k, none⟩ (.slice (some ⟨rg, 0, none⟩) n cap1) = W1 := ⟨_, rfl⟩
      rw [hW1] at MW1
      have s2 := HM1.out.s2
      have hs2d := Md.s2
      have k2 := MW1.1.s2
      have k3 := MW1.1.s3
      have hlk := MW1.1.look p (by omega)
      unfold fm at hlk
      rw [if_pos (by omega), Int.toNat_natCast, show ({ π1 with rows := π1.rows.set k l1.dropLast } : Pi).page p = some g from hpg] at hlk
      simp only [Option.map_some, pval] at hlk
      obtain ⟨ub, ucap, hpv, hur, huc, huf⟩ := MW1.1.used (p := p) (x := g) hpg (by omega)
      have kp := (MW1.1.page (p := p) (x := g) hpg)
      rw [hpv] at kp
      obtain ⟨kp0, kp1, _, kpf⟩ := kp
      have kuf := huf i
      have kuc := huc i hig
      have MW2 := MW1.1.setUsed (p := p) (x := g) hpg hpv i true
      have hpg3 : (setPg { π1 with rows := π1.rows.set k l1.dropLast } p { g with used := g.used.set i true }).page p = some { g with used := g.used.set i true } := (page_setPg (by show p < π1.pg.length; rw [hw1.pl]; exact hpl) _).trans (if_pos rfl)
      have kq := MW2.1.page hpg3
      have MW3 := MW2.1.setN hpg3 (g.n + 1)
      have hw4 : IntKind.i64.wrap (g.n + 1) = g.n + 1 := IntWalk.i64_in _ (by omega)
      have hpop : popP π1 k = setPg (setPg { π1 with rows := π1.rows.set k l1.dropLast } p { g with used := g.used.set i true }) p { g with used := g.used.set i true, n := g.n + 1 } := by
        rw [setPg_setPg]
        unfold popP SP.mark
        rw [hrow1, hch, show ((ch : Int) / 4096).toNat = p by omega, show ((ch : Int) % 4096).toNat = i by omega, show ({ π1 with rows := π1.rows.set k l1.dropLast } : Pi).page p = some g from hpg]
      have hpq : (p : Int) ≤ 1023 := by omega
      have Hp : Hid (AlPost β π L k w (.returned (.tuple #[.int .i64 (ch : Int), .int .i64 0])) ((W1.setCell ⟨ub, i, none⟩ (.bool true)).setCell ⟨β1.pb p, 1, none⟩ (.int .i64 (g.n + 1)))) := by
        refine Lib.hid ⟨?_, { β1 with rv := β1.rv.set k (.slice (some ⟨rg, 0, none⟩) n cap1) }, ?_⟩
        · rw [HC.out, hch, Hok.out]; rfl
        · rw [HS.out, hpop]
          exact ⟨MW3.1.more (by omega), HS1.out.trans ((Step.of_below (Below.refl _ _).drew).trans (MW1.2.trans (MW2.2.trans MW3.2)))⟩
      obtain ⟨_, kq1, _, kqf⟩ := kq
      have kqf1 := kqf 1
      have Hs2 := Lib.hid hs2d
      have k2' := k2
      rw [← hW1] at k2'
      have hrcd : wc.drew.cell? ⟨β1.rb, k, none⟩ = some (.slice (some ⟨rg, 0, none⟩) (n + 1) cap1) := hrc1
      have hsb := HS1.out.sb
      rw [hsb] at s2 hs2d k2 k3 k2'
      have hN : (g.used.length : Int) = (g.used.length : Int) := rfl
      generalize g.used.length = N at *
      generalize g.n = gn at *
      clear HM1 HS1 HC HS Md hrows hst hrod MW1 MW2 MW3 hpop hpv hur huc huf hpg hpg3 hps hgo hgc hgu hw hw1 hne hrow1 hch hro1 hl1 hrv1 kpf kqf hgn hN hsb Hs2
      clear hchm
      go_wp2_with (fail)
      go_region
      go_wp2
      go_ret2
      exact Hp.out
end Go.Proofs.YtboehbfagnocpaaGreatDoor
