/- a page's cells written. -/
import Derived.Test.YtfmgncajhjkdlaaSpw
namespace Go.Proofs.Ytfmgncajhjkdlaa
open Go.RowKit Go.PlainAid
open SP
set_option linter.unusedVariables false
set_option linter.unusedSimpArgs false

/-- a page's own two blocks written -/
theorem Mem.setPage {w W : World} {β : Bk} {π : Pi} {L : Nat} (h : Mem w β π L) {p : Nat} {x y : Pg} (hx : π.page p = some x) (ht : Tch (fun b => b = β.pb p ∨ (β.pv p).ownBlock = some b) w W)
    (h1 : W.heap[β.pb p]? = some (.cells #[β.pv p, .int .i64 y.n, .bool y.cl] 70 (0, 0))) (h2 : W.ownsRow 0 4 1 (β.pv p) y.used.length (y.used.map .bool)) :
    Mem W β (setPg π p y) L ∧ Step w β π W β (setPg π p y) := by
  have hp : p < π.pg.length := by
    unfold Pi.page at hx
    by_cases hp : p < π.pg.length
    · exact hp
    · rw [List.getElem?_eq_none (by omega)] at hx; cases hx
  have hpage := page_setPg (π := π) (p := p) (x := y) hp
  refine h.updS (fun i => i = .pg p ∨ i = .use p) ht ?_ ?_ ?_ rfl rfl
  · rintro b (rfl | hb)
    · exact ⟨.pg p, .inl rfl, by simp [blk, hx]⟩
    · exact ⟨.use p, .inr rfl, by simp [blk, hx, hb]⟩
  · intro i hi
    cases i with
    | pg q =>
      have hq : q ≠ p := fun e => hi (.inl (by rw [e]))
      refine ⟨by simp only [blk, hpage, if_neg hq], fun W' hr x hxq => ?_⟩
      rw [hpage, if_neg hq] at hxq
      exact hr x hxq
    | use q =>
      have hq : q ≠ p := fun e => hi (.inr (by rw [e]))
      refine ⟨by simp only [blk, hpage, if_neg hq], fun W' hr x hxq => ?_⟩
      rw [hpage, if_neg hq] at hxq
      exact hr x hxq
    | map =>
      refine ⟨rfl, fun W' hr => ?_⟩
      have e : fm β (setPg π p y) = fm β π := by
        funext q
        unfold fm
        by_cases h0 : 0 ≤ q
        · obtain ⟨n, rfl⟩ := Int.eq_ofNat_of_zero_le h0
          rw [if_pos h0, if_pos h0, Int.toNat_natCast, hpage]
          by_cases hn : n = p
          · subst hn; rw [if_pos rfl, hx]; rfl
          · rw [if_neg hn]
        · rw [if_neg h0, if_neg h0]
      show MapAt W' β.mb L _
      rw [e]
      exact hr
    | row c' => exact ⟨rfl, fun W' hr => hr⟩
    | _ => exact ⟨rfl, fun W' hr => hr⟩
  · rintro i (rfl | rfl)
    · refine ⟨fun z hz => ?_, fun b hb => ?_⟩
      · rw [hpage, if_pos rfl] at hz
        cases hz
        exact h1
      · have hb' : blk β π (.pg p) = some b := by simpa [blk, hpage, hx] using hb
        exact ⟨Nat.lt_of_lt_of_le (h.lt _ b hb') ht.size, .inl hb'⟩
    · refine ⟨fun z hz => ?_, fun b hb => ?_⟩
      · rw [hpage, if_pos rfl] at hz
        cases hz
        exact h2
      · have hb' : blk β π (.use p) = some b := by simpa [blk, hpage, hx] using hb
        exact ⟨Nat.lt_of_lt_of_le (h.lt _ b hb') ht.size, .inl hb'⟩

theorem Mem.setUsed {w : World} {β : Bk} {π : Pi} {L : Nat} (h : Mem w β π L) {p ub cap : Nat} {x : Pg} (hx : π.page p = some x) (hpv : β.pv p = .slice (some ⟨ub, 0, none⟩) x.used.length cap) (i : Nat) (b : Bool) :
    Mem (w.setCell ⟨ub, i, none⟩ (.bool b)) β (setPg π p { x with used := x.used.set i b }) L ∧ Step w β π (w.setCell ⟨ub, i, none⟩ (.bool b)) β (setPg π p { x with used := x.used.set i b }) := by
  have ht := Tch.setCell w ub i (.bool b)
  have hne : β.pb p ≠ ub := fun e => by have := h.inj (.pg p) (.use p) ub (by simp [blk, hx, e]) (by simp [blk, hx, hpv, Value.ownBlock]); cases this
  have h1 := h.lie (.pg p) x hx
  have h2 : w.ownsRow 0 4 1 (β.pv p) x.used.length (x.used.map .bool) := h.lie (.use p) x hx
  rw [hpv] at h2
  refine h.setPage hx (ht.mono (fun b hb => .inr (by rw [hpv, hb]; rfl))) ?_ ?_
  · exact (ht.block _ (Array.getElem?_eq_some_iff.1 h1).1 hne).trans h1
  · have h3 := (h2.stored i (.bool b)).1
    rw [← List.map_set] at h3
    dsimp only
    rw [hpv, List.length_set]
    exact h3
theorem cells_set {w : World} {g i : Nat} {cs : Array Value} {t : TypeId} (hg : w.heap[g]? = some (.cells cs t (0, 0))) (u : Value) : (w.setCell ⟨g, i, none⟩ u).heap[g]? = some (.cells (cs.setIfInBounds i u) t (0, 0)) := heap_setCell_same w g i cs t u hg
theorem Mem.setN {w : World} {β : Bk} {π : Pi} {L : Nat} (h : Mem w β π L) {p : Nat} {x : Pg} (hx : π.page p = some x) (m : Int) :
    Mem (w.setCell ⟨β.pb p, 1, none⟩ (.int .i64 m)) β (setPg π p { x with n := m }) L ∧ Step w β π (w.setCell ⟨β.pb p, 1, none⟩ (.int .i64 m)) β (setPg π p { x with n := m }) := by
  have ht := Tch.setCell w (β.pb p) 1 (.int .i64 m)
  have h1 := h.lie (.pg p) x hx
  have h2 : w.ownsRow 0 4 1 (β.pv p) x.used.length (x.used.map .bool) := h.lie (.use p) x hx
  refine h.setPage hx (ht.mono (fun b hb => .inl hb)) ?_ ?_
  · rw [cells_set h1]; rfl
  · exact own_tchB h2 ht (fun b hb e => by have := h.inj (.pg p) (.use p) b (by simp [blk, hx, e]) (by simp [blk, hx, hb]); cases this)
theorem Mem.setCl {w : World} {β : Bk} {π : Pi} {L : Nat} (h : Mem w β π L) {p : Nat} {x : Pg} (hx : π.page p = some x) (m : Bool) :
    Mem (w.setCell ⟨β.pb p, 2, none⟩ (.bool m)) β (setPg π p { x with cl := m }) L ∧ Step w β π (w.setCell ⟨β.pb p, 2, none⟩ (.bool m)) β (setPg π p { x with cl := m }) := by
  have ht := Tch.setCell w (β.pb p) 2 (.bool m)
  have h1 := h.lie (.pg p) x hx
  have h2 : w.ownsRow 0 4 1 (β.pv p) x.used.length (x.used.map .bool) := h.lie (.use p) x hx
  refine h.setPage hx (ht.mono (fun b hb => .inl hb)) ?_ ?_
  · rw [cells_set h1]; rfl
  · exact own_tchB h2 ht (fun b hb e => by have := h.inj (.pg p) (.use p) b (by simp [blk, hx, e]) (by simp [blk, hx, hb]); cases this)

/-! what the calls do, in plain words -/
namespace SP
def usedP (π : Pi) (ch : Int) : Bool := if ch < 0 then false else match π.page (ch / 4096).toNat with | none => false | some x => decide ((ch % 4096).toNat < x.used.length) && x.used[(ch % 4096).toNat]?.getD false
def lastC (l : List Int) : Int := l[l.length - 1]?.getD 0
/-- a chunk marked -/
def mark (π : Pi) (ch : Int) (b : Bool) (d : Int) : Pi := match π.page (ch / 4096).toNat with | none => π | some x => setPg π (ch / 4096).toNat { x with used := x.used.set (ch % 4096).toNat b, n := x.n + d }
def rowC (π : Pi) (c : Nat) : List Int := π.rows[c]?.getD []
def popP (π : Pi) (c : Nat) : Pi := mark { π with rows := π.rows.set c (rowC π c).dropLast } (lastC (rowC π c)) true 1
end SP
def preP (π : Pi) (c : Nat) : Pi := if rowC π c = [] then freshP { π with ow := π.ow.set (AP.least π.ow) ((c : Int) + 1) } (AP.least π.ow) c else π
def alOk (π : Pi) (c : Int) : Nat := if ¬ (0 ≤ c ∧ c < (π.sz.length : Int)) then 1 else if rowC π c.toNat = [] ∧ ¬ AP.least π.ow < π.ow.length then 5 else 0
def alC (π : Pi) (c : Int) : Int := if alOk π c = 0 then lastC (rowC (preP π c.toNat) c.toNat) else -1
def alS (π : Pi) (c : Int) : Pi := if alOk π c = 0 then popP (preP π c.toNat) c.toNat else π

set_option maxRecDepth 100000 in
set_option maxHeartbeats 1000000 in
theorem used_any {w : World} {β : Bk} {π : Pi} {L : Nat} (h : Mem w β π L) (hw : Wf π L) (ch : Int) (hch : ch ≤ 9223372036854775807) :
    Calls Try.prog 11 #[.pointer (some ⟨β.sb, 0, none⟩), .int .i64 ch] w fun e w' => e = .returned (.bool (usedP π ch)) ∧ w = w' := by
  have s3 := h.s3
  by_cases h0 : ch < 0
  · have Hr := Lib.hid (show usedP π ch = false by unfold usedP; rw [if_pos h0])
    clear h
    go_enter Try.func11, Try.ntmps11
    go_wp2
    go_ret
    exact ⟨ret_bool Hr.out.symm, rfl⟩
  · obtain ⟨m, rfl⟩ := Int.eq_ofNat_of_zero_le (Int.not_lt.1 h0)
    obtain ⟨p, hp⟩ : ∃ p, p = m / 4096 := ⟨_, rfl⟩
    obtain ⟨i, hi⟩ : ∃ i, i = m % 4096 := ⟨_, rfl⟩
    have hm : m = p * 4096 + i := by omega
    have hi2 : i < 4096 := by omega
    have e1 : ((m : Int) / 4096).toNat = p := by omega
    have e2 : ((m : Int) % 4096).toNat = i := by omega
    have q1 : (m : Int) / 4096 = (p : Int) := by omega
    have q2 : (m : Int) % 4096 = (i : Int) := by omega
    have hpb : (p : Int) ≤ 2251799813685247 := by omega
    have hlk := h.look p (by omega)
    unfold fm at hlk
    rw [if_pos (by omega), Int.toNat_natCast] at hlk
    cases hx : π.page p with
    | none =>
      have hw := hw
      rw [hx] at hlk
      simp only [Option.map_none, pval] at hlk
      have Hr := Lib.hid (show usedP π m = false by unfold usedP; rw [if_neg (by omega), e1, hx])
      clear h hp hi e1 e2 hm
      go_enter Try.func11, Try.ntmps11
      go_wp2
      go_ret
      exact ⟨ret_bool Hr.out.symm, rfl⟩
    | some x =>
      rw [hx] at hlk
      simp only [Option.map_some, pval] at hlk
      have hps := hw.page_some hx
      obtain ⟨ub, cap, hpv, _, huc, huf⟩ := h.used hx (by omega)
      have k1 := (h.page hx).1
      rw [hpv] at k1
      have hN1 := hps.2.2.2.2
      have Hr := Lib.hid (show usedP π m = (decide (i < x.used.length) && x.used[i]?.getD false) by unfold usedP; rw [if_neg (by omega), e1, e2, hx])
      clear hps hpv
      generalize x.used.length = N at *
      by_cases hlt : i < N
      · have k2 := huc i hlt
        rw [show decide (i < N) = true by simpa using hlt, Bool.true_and] at Hr
        clear h hp hi e1 e2 huc hm hx hw
        go_enter Try.func11, Try.ntmps11
        go_wp2
        go_ret
        exact ⟨ret_bool Hr.out.symm, rfl⟩
      · rw [show decide (i < N) = false by simpa using hlt, Bool.false_and] at Hr
        clear h hp hi e1 e2 huc hm hx hw
        go_enter Try.func11, Try.ntmps11
        go_wp2
        go_ret
        exact ⟨ret_bool Hr.out.symm, rfl⟩
end Go.Proofs.Ytfmgncajhjkdlaa
