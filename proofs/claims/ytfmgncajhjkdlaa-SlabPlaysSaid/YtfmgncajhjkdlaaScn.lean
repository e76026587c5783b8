/- Counts; Chunks. -/
import Derived.Test.YtfmgncajhjkdlaaSwh
namespace Go.Proofs.Ytfmgncajhjkdlaa
open Go.RowKit Go.PlainAid
open SP
set_option linter.unusedVariables false
set_option linter.unusedSimpArgs false

def isC (π : Pi) (c : Int) : Prop := 0 ≤ c ∧ c < (π.sz.length : Int)
instance (π : Pi) (c : Int) : Decidable (isC π c) := by unfold isC; infer_instance
def nOf (π : Pi) (q : Int) : Int := match π.page q.toNat with | some x => x.n | none => 0
def sumN (π : Pi) (ps : List Int) : Int := (ps.map (nOf π)).sum
def coP (π : Pi) (c : Int) : Int := if isC π c then ((AP.pages π.ow c).length : Int) else 0
def coU (π : Pi) (c : Int) : Int := if isC π c then sumN π (AP.pages π.ow c) else 0
def coF (π : Pi) (c : Int) : Int := if isC π c then ((rowC π c.toNat).length : Int) else 0
theorem mem_pages {ow : List Int} {c q : Int} (h : q ∈ AP.pages ow c) : ∃ i : Nat, q = i ∧ i < ow.length ∧ ow[i]?.getD 0 = c + 1 ∧ 0 < ow[i]?.getD 0 := by
  unfold AP.pages at h
  obtain ⟨i, hi, rfl⟩ := List.mem_map.1 h
  obtain ⟨h1, h2⟩ := List.mem_filter.1 hi
  have h3 := List.mem_range.1 h1
  simp at h2
  exact ⟨i, rfl, h3, by omega, by omega⟩
theorem Wf.page_of {π : Pi} {L i : Nat} (h : Wf π L) (hi : i < π.ow.length) (h0 : 0 < π.ow[i]?.getD 0) : ∃ x, π.page i = some x := by
  rcases h.pg i hi with ⟨_, h2⟩ | ⟨x, h1, _⟩
  · omega
  · exact ⟨x, h1⟩
theorem pages_len1 (ow : List Int) (c : Int) : (AP.pages ow c).length ≤ ow.length := by
  unfold AP.pages
  rw [List.length_map]
  have := List.length_filter_le (fun i => decide (0 < ow[i]?.getD 0 ∧ ow[i]?.getD 0 - 1 = c)) (List.range ow.length)
  rwa [List.length_range] at this
theorem sumN_snoc (π : Pi) (ps : List Int) (k : Nat) (hk : k < ps.length) : sumN π (ps.take (k + 1)) = sumN π (ps.take k) + nOf π (ps[k]?.getD 0) := by
  unfold sumN
  rw [List.take_add_one, List.getElem?_eq_getElem hk, List.map_append, List.sum_append]
  simp
theorem Wf.n_le {π : Pi} {L : Nat} (h : Wf π L) (q : Int) : 0 ≤ nOf π q ∧ nOf π q ≤ 1024 := by
  unfold nOf
  cases hx : π.page q.toNat with
  | none => simp
  | some x =>
    dsimp only
    have hps := h.page_some hx
    have := List.count_le_length (a := true) (l := x.used)
    omega
theorem Wf.sum_le {π : Pi} {L : Nat} (h : Wf π L) : ∀ (ps : List Int), 0 ≤ sumN π ps ∧ sumN π ps ≤ ps.length * 1024
  | [] => by simp [sumN]
  | q :: ps => by
    have h1 := h.sum_le ps
    have h2 := h.n_le q
    unfold sumN at h1 ⊢
    simp only [List.map_cons, List.sum_cons, List.length_cons]
    omega

theorem own_sl {w : World} {base n : Nat} {e : TypeId} {v : Value} {xs : List Value} (h : w.ownsRow base e 1 v n xs) : ∃ a cap, v = .slice a n cap ∧ (0 < n → ∃ g, a = some ⟨g, 0, none⟩) := by
  rcases h.2 with ⟨h1, h2⟩ | ⟨g, cap, cur, h1, _⟩
  · exact ⟨none, 0, by rw [h1, h2], fun h => by omega⟩
  · exact ⟨_, cap, h1, fun _ => ⟨g, rfl⟩⟩

set_option maxRecDepth 100000 in
set_option maxHeartbeats 2000000 in
theorem counts_any {w : World} {β : Bk} {π : Pi} {L : Nat} (h : Mem w β π L) (hw : Wf π L) (c : Int) :
    Calls Try.prog 14 #[.pointer (some ⟨β.sb, 0, none⟩), .int .i64 c] w fun e w' => e = .returned (.tuple #[.int .i64 (coP π c), .int .i64 (coU π c), .int .i64 (coF π c)]) ∧ Below w.heap.size w w' := by
  by_cases hc : isC π c
  case neg =>
    have Hc := Lib.hid (class_at h c (b := false) (by simpa [isC] using hc))
    have Hr : Hid (coP π c = 0 ∧ coU π c = 0 ∧ coF π c = 0) := Lib.hid (by unfold coP coU coF; rw [if_neg hc, if_neg hc, if_neg hc]; exact ⟨rfl, rfl, rfl⟩)
    clear h hc
    go_enter Try.func14, Try.ntmps14
    go_wp2_with (go_at_call 28; refine Hc.out.mono ?_; rintro e w' ⟨rfl, rfl⟩)
    refine bodyPost_ret (results_tmp3 rfl _ _ _) rfl ?_
    exact ⟨by rw [Hr.out.1, Hr.out.2.1, Hr.out.2.2]; rfl, Below.refl _ _⟩
  case pos =>
    have Hc := Lib.hid (class_at h c (b := true) (by simpa [isC] using hc))
    have Hr : Hid (coP π c = (AP.pages π.ow c).length ∧ coU π c = sumN π (AP.pages π.ow c) ∧ coF π c = (rowC π c.toNat).length) := Lib.hid (by unfold coP coU coF; rw [if_pos hc, if_pos hc, if_pos hc]; exact ⟨rfl, rfl, rfl⟩)
    obtain ⟨k, rfl⟩ := Int.eq_ofNat_of_zero_le hc.1
    have hk : k < π.sz.length := by have := hc.2; omega
    rw [Int.toNat_natCast] at Hr
    have HP : Hid (Calls Try.prog 32 #[.pointer (some ⟨β.g, 0, none⟩), .int .i64 (k : Int)] w fun e w' => ∃ v, e = .returned v ∧ w'.ownsRow w.heap.size 3 1 v (AP.pages π.ow k).length ((AP.pages π.ow k).map (.int .i64)) ∧ Below w.heap.size w w') := Lib.hid (pages_any (h.ar hw) (k : Int))
    have HM := Lib.hid h
    have Hw := Lib.hid hw
    have s0 := h.s0
    have hk1 := hw.k1
    have hnp := hw.np1
    have hpl := pages_len1 π.ow k
    have Hmem := Lib.hid (fun q (hq : q ∈ AP.pages π.ow k) => mem_pages hq)
    clear h hw hc
    generalize AP.pages π.ow (k : Int) = ps at *
    go_enter Try.func14, Try.ntmps14
    obtain ⟨m, hm⟩ : ∃ m, ps.length = m := ⟨_, rfl⟩
    have HLn := Lib.hid hm
    rw [hm] at hpl
    have hm1 : (m : Int) ≤ 1024 := by omega
    go_wp2_with (go_at_call 28; refine Hc.out.mono ?_; rintro e w' ⟨rfl, rfl⟩)
    refine HP.out.mono ?_
    rintro e w2 ⟨v, rfl, ho, hb⟩
    obtain ⟨a, cap, rfl, ha⟩ := own_sl ho
    rw [hm] at ho ha ⊢
    have HO := Lib.hid ho
    have HB := Lib.hid hb
    have M2 := HM.out.below hb
    have HM2 := Lib.hid M2
    have t3 := M2.s3
    have t2 := M2.s2
    obtain ⟨ra, rcap, l, hl, hrv, hrc, hro⟩ := M2.row Hw.out k hk
    have hrow : Hid (rowC π k = l) := Lib.hid (by unfold rowC; rw [hl]; rfl)
    clear ho hb M2 hm hl hrv hro s0 HP
    go_wp2_with (fail)
    go_loop [22, 9, 5] (fun i _ s5 => ∃ j : Nat, j ≤ m ∧ i = .int .i64 j ∧ s5 = .int .i64 (sumN π (ps.take j))) (fun i _ _ => m - (intOf i).toNat)
    case atStart => exact ⟨0, Nat.zero_le _, rfl, by simp [sumN]⟩
    case round =>
      obtain ⟨j, hj, rfl, rfl⟩ := hrel
      have hsum := Hw.out.sum_le (ps.take j)
      rw [List.length_take] at hsum
      by_cases hlt : j < m
      · obtain ⟨g, rfl⟩ := ha (by omega)
        have hjl : j < ps.length := by rw [HLn.out]; exact hlt
        have hcj := own_int HO.out j hlt
        have hqm : ps[j]?.getD 0 ∈ ps := by rw [List.getElem?_eq_getElem hjl]; exact List.getElem_mem hjl
        obtain ⟨i, hqi, hil, hio, hi0⟩ := Hmem.out _ hqm
        obtain ⟨x, hx⟩ := Hw.out.page_of hil hi0
        have hsn := sumN_snoc π ps j hjl
        have hnx : nOf π (ps[j]?.getD 0) = x.n := by rw [hqi]; unfold nOf; rw [Int.toNat_natCast, hx]
        rw [hnx] at hsn
        have hn := Hw.out.n_le (ps[j]?.getD 0)
        rw [hnx] at hn
        rw [hqi] at hcj
        have hlk := HM2.out.look i (by omega)
        unfold fm at hlk
        rw [if_pos (by omega), Int.toNat_natCast, hx] at hlk
        simp only [Option.map_some, pval] at hlk
        have kp := (HM2.out.page hx).2.1
        have hwr : IntKind.i64.wrap (sumN π (ps.take j) + x.n) = sumN π (ps.take j) + x.n := IntWalk.i64_in _ (by omega)
        have Hsn := Lib.hid hsn
        generalize sumN π (ps.take j) = S0 at *
        generalize x.n = xn at *
        clear hx hnx hqm hjl hsn hio hi0 hqi hsum hn
        go_wp2
        go_round
        case rel => exact ⟨j + 1, by omega, by go_num, by rw [Hsn.out]⟩
        case measure => simp [intOf]; omega
      · obtain rfl : m = j := by omega
        rw [List.take_of_length_le (by rw [HLn.out]; exact Nat.le_refl _)]
        generalize sumN π ps = S0 at *
        clear hsum t3 ha
        go_wp2_with (fail)
        go_quiet (fail)
        go_wp2
        refine bodyPost_ret (results_tmp3 rfl _ _ _) rfl ?_
        refine ⟨by rw [Hr.out.1, Hr.out.2.1, Hr.out.2.2, hrow.out, HLn.out]; rfl, below_drewN HB.out _⟩

/-- a page's used chunks, the first k places -/
def chU (p : Nat) (us : List Bool) (k : Nat) : List Int := ((List.range k).filter (fun i => us[i]?.getD false)).map (fun i => ((p * 4096 + i : Nat) : Int))
def chL (π : Pi) (p : Int) : List Int := match pageI π p with | none => [] | some x => chU p.toNat x.used x.used.length
theorem chU_len (p : Nat) (us : List Bool) (k : Nat) : (chU p us k).length ≤ k := by
  unfold chU
  rw [List.length_map]
  have := List.length_filter_le (fun i => us[i]?.getD false) (List.range k)
  rwa [List.length_range] at this
theorem chU_yes {p : Nat} {us : List Bool} {k : Nat} (h : us[k]?.getD false = true) : chU p us (k + 1) = chU p us k ++ [((p * 4096 + k : Nat) : Int)] := by
  unfold chU
  rw [List.range_succ, List.filter_append, List.map_append]
  simp [h]
theorem chU_no {p : Nat} {us : List Bool} {k : Nat} (h : us[k]?.getD false = false) : chU p us (k + 1) = chU p us k := by
  unfold chU
  rw [List.range_succ, List.filter_append, List.map_append]
  simp [h]

set_option maxRecDepth 100000 in
set_option maxHeartbeats 2000000 in
theorem chunks_any {w : World} {β : Bk} {π : Pi} {L : Nat} (h : Mem w β π L) (hw : Wf π L) (p : Int) (hp : -9223372036854775808 ≤ p ∧ p ≤ 9223372036854775807) :
    Calls Try.prog 17 #[.pointer (some ⟨β.sb, 0, none⟩), .int .i64 p] w fun e w' => ∃ v, e = .returned v ∧ w'.ownsRow w.heap.size 3 1 v (chL π p).length ((chL π p).map (.int .i64)) ∧ Below w.heap.size w w' := by
  have s3 := h.s3
  have hlk := h.look p hp
  cases hx : pageI π p with
  | none =>
    have Hr : Hid (chL π p = []) := Lib.hid (by unfold chL; rw [hx])
    rw [fm_pageI, hx] at hlk
    simp only [Option.map_none, pval] at hlk
    clear h hx
    go_enter Try.func17, Try.ntmps17
    go_wp2
    go_ret
    rw [Hr.out]
    exact ⟨_, rfl, World.ownsRow_nil _ _ _ _, Below.refl _ _⟩
  | some x =>
    obtain ⟨q, rfl, hx2⟩ := pageI_inv hx
    have Hr : Hid (chL π q = chU q x.used x.used.length) := Lib.hid (by unfold chL; rw [hx]; rfl)
    rw [fm_pageI, hx] at hlk
    simp only [Option.map_some, pval, Int.toNat_natCast] at hlk
    have hps := hw.page_some hx2
    have hpl := hw.page_lt hx2
    have hnp := hw.np1
    have hqq : (q : Int) ≤ 1023 := by omega
    obtain ⟨ub, ucap, hpv, hur, huc, huf⟩ := h.used hx2 (by omega)
    have hubl : ub < w.heap.size := h.lt (.use q) ub (by simp [blk, hx2, hpv, Value.ownBlock])
    have kp := (h.page hx2).1
    rw [hpv] at kp
    obtain ⟨N, hN⟩ : ∃ N, x.used.length = N := ⟨_, rfl⟩
    rw [hN] at kp
    have hN1 : (N : Int) ≤ 1024 := by omega
    have Huc : Hid (∀ i, i < N → w.cell? ⟨ub, i, none⟩ = some (.bool (x.used[i]?.getD false))) := Lib.hid (by rw [← hN]; exact huc)
    have HN := Lib.hid hN
    have hw1 : IntKind.i64.wrap ((q : Int) * 4096) = (q : Int) * 4096 := IntWalk.i64_in _ (by omega)
    clear h hx hx2 hps hpv hur huc huf hw hpl hN
    go_enter Try.func17, Try.ntmps17
    go_wp2
    go_loopw [22, 5, 7, 8] (fun i v _ _ wr => ∃ (j n : Nat) (ad : Option Addr) (cap : Nat), j ≤ N ∧ i = .int .i64 j ∧ n ≤ j ∧ Hid (n = (chU q x.used j).length) ∧ v = .slice ad n cap ∧ wr.ownsRow w.heap.size 3 1 (.slice ad n cap) n ((chU q x.used j).map (.int .i64)) ∧ Below w.heap.size w wr) (fun i _ _ _ _ => N - (intOf i).toNat)
    case atStart => exact ⟨0, 0, none, 0, Nat.zero_le _, rfl, Nat.le_refl _, Lib.hid rfl, rfl, World.ownsRow_nil _ _ _ _, Below.refl _ _⟩
    case round =>
      obtain ⟨j, n, ad, cap, hj, rfl, hnj, Hn, rfl, hown, hbel⟩ := hrel
      have hsz := hbel.size
      by_cases hlt : j < N
      · have hc := (hbel.cell (p := ⟨ub, j, none⟩) hubl).trans (Huc.out j hlt)
        have hw2 : IntKind.i64.wrap ((q : Int) * 4096 + (j : Int)) = (q : Int) * 4096 + (j : Int) := IntWalk.i64_in _ (by omega)
        cases hu : x.used[j]?.getD false with
        | true =>
          have Hs := Lib.hid (chU_yes (p := q) (us := x.used) (k := j) hu)
          rw [hu] at hc
          clear hu
          go_wp2_with (at_builtin; go_must (refine wp_appI w wr rfl _ _ rfl w.heap.size (.slice ad n cap) n (chU q x.used j) ((q : Int) * 4096 + (j : Int)) rfl hown rfl hbel (by omega) hsz ?_); intro g2 cap2 w2 hown2 hbel2)
          go_roundw
          case rel => exact ⟨j + 1, n + 1, _, cap2, by omega, by go_num, by omega, Lib.hid (by rw [Hs.out, List.length_append, ← Hn.out]; rfl), rfl, by rw [Hs.out, show ((q * 4096 + j : Nat) : Int) = (q : Int) * 4096 + (j : Int) by omega]; exact hown2, hbel2⟩
          case measure => simp [intOf]; omega
        | false =>
          have Hs := Lib.hid (chU_no (p := q) (us := x.used) (k := j) hu)
          rw [hu] at hc
          clear hu
          go_wp2
          go_roundw
          case rel => exact ⟨j + 1, n, ad, cap, by omega, by go_num, by omega, by rw [Hs.out]; exact Hn, rfl, by rw [Hs.out]; exact hown, hbel⟩
          case measure => simp [intOf]; omega
      · obtain rfl : j = N := by omega
        go_wp2
        go_ret
        rw [Hr.out, HN.out, ← Hn.out]
        exact ⟨_, rfl, hown, hbel⟩
end Go.Proofs.Ytfmgncajhjkdlaa
