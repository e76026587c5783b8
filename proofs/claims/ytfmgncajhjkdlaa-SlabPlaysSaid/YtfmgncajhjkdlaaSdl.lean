/- slices.DeleteFunc with the closure of Close. -/
import Derived.Test.YtfmgncajhjkdlaaSfe
import Derived.Lib.SliceRun
namespace Go.Proofs.Ytfmgncajhjkdlaa
open Go.RowKit Go.PlainAid
open SP
set_option linter.unusedVariables false
set_option linter.unusedSimpArgs false

/-- the numbers of the chunks are small -/
def Sm (ms : List Nat) : Prop := ∀ m ∈ ms, m ≤ 4194303
theorem Sm.at {ms : List Nat} (h : Sm ms) (k : Nat) : ms[k]?.getD 0 ≤ 4194303 := by
  by_cases hk : k < ms.length
  · rw [List.getElem?_eq_getElem hk]; exact h _ (List.getElem_mem hk)
  · rw [List.getElem?_eq_none (by omega)]; simp
def asI (ms : List Nat) : List Int := ms.map (fun (m : Nat) => (m : Int))
theorem asI_at (ms : List Nat) (k : Nat) : (asI ms)[k]?.getD 0 = ((ms[k]?.getD 0 : Nat) : Int) := by
  unfold asI
  rw [List.getElem?_map]
  cases ms[k]? <;> rfl
def hit (p m : Nat) : Bool := decide (m / 4096 = p)

set_option maxRecDepth 100000 in
set_option maxHeartbeats 1000000 in
theorem indexFunc_any (ms : List Nat) (hs : Sm ms) (p g cap bx : Nat) (w : World) (hln : ms.length ≤ 100000000) (hp : p < 1024)
    (hc : ∀ k, k < ms.length → w.cell? ⟨g, k, none⟩ = some (.int .i64 ((ms[k]?.getD 0 : Nat) : Int))) (hb : w.cell? ⟨bx, 0, none⟩ = some (.int .i64 p)) :
    Calls Try.prog 56 #[.slice (some ⟨g, 0, none⟩) ms.length cap, .func (.func 34) #[] #[.pointer (some ⟨bx, 0, none⟩)]] w fun e w' =>
      w = w' ∧ ((e = .returned (.int .i64 (-1)) ∧ ∀ j, j < ms.length → hit p (ms[j]?.getD 0) = false) ∨ (∃ k : Nat, k < ms.length ∧ e = .returned (.int .i64 k) ∧ hit p (ms[k]?.getD 0) = true ∧ ∀ j, j < k → hit p (ms[j]?.getD 0) = false)) := by
  generalize hn : ms.length = n at *
  have Hs := Lib.hid hs
  have Hc := Lib.hid hc
  clear hs hc hn
  go_enter Try.func56, Try.ntmps56
  go_wp2
  go_loop [8] (fun i => ∃ k : Nat, k ≤ n ∧ i = .int .i64 k ∧ (∀ j, j < k → hit p (ms[j]?.getD 0) = false)) (fun i => n - (intOf i).toNat)
  case atStart => exact ⟨0, Nat.zero_le _, rfl, fun j hj => by omega⟩
  case round =>
    obtain ⟨k, hk, rfl, hall⟩ := hrel
    have Hall := Lib.hid hall
    clear hall
    by_cases hlt : k < n
    · have h1 := Hc.out k hlt
      have h2 := Hs.out.at k
      obtain ⟨m, hm⟩ : ∃ m, ms[k]?.getD 0 = m := ⟨_, rfl⟩
      rw [hm] at h1 h2
      obtain ⟨d, hd⟩ : ∃ d, d = m / 4096 := ⟨_, rfl⟩
      have q1 : (m : Int) / 4096 = (d : Int) := by omega
      have HM := Lib.hid hm
      by_cases hh : d = p
      · have HH : Hid (hit p (ms[k]?.getD 0) = true) := Lib.hid (by rw [hm]; unfold hit; simp; omega)
        subst hh
        clear hd hm
        go_wp2
        go_ret
        exact ⟨rfl, .inr ⟨k, hlt, rfl, HH.out, Hall.out⟩⟩
      · have HH : Hid (hit p (ms[k]?.getD 0) = false) := Lib.hid (by rw [hm]; unfold hit; simp; omega)
        have hne : ¬ ((d : Int) = (p : Int)) := by omega
        clear hd hm
        go_wp2
        go_round
        case rel =>
          refine ⟨k + 1, by omega, by go_num, fun j hj => ?_⟩
          rcases Nat.lt_succ_iff_lt_or_eq.1 hj with h | rfl
          · exact Hall.out j h
          · exact HH.out
        case measure => simp [intOf]; omega
    · go_wp2
      go_ret
      exact ⟨rfl, .inl ⟨rfl, fun j hj => Hall.out j (by omega)⟩⟩

/-- a row cut -/
theorem own_cut {w : World} {base g n cap : Nat} {e : TypeId} {xs : List Value} (h : w.ownsRow base e 1 (.slice (some ⟨g, 0, none⟩) n cap) n xs) (i : Nat) (hi : i ≤ n) : w.ownsRow base e 1 (.slice (some ⟨g, 0, none⟩) i cap) i (xs.take i) := by
  rcases h.2 with ⟨h1, _⟩ | ⟨g', cap', cur, h1, h2, h3, h4, h5, h6, h7⟩
  · cases h1
  · obtain ⟨rfl, rfl⟩ : g' = g ∧ cap' = cap := by simpa [eq_comm] using h1
    have hl := h.1
    refine ⟨by simp; omega, .inr ⟨g', cap', cur, rfl, h2, h3, by omega, h5, h6, ?_⟩⟩
    rw [← h7, List.take_take]
    congr 1
    omega
theorem own_setCells {base g n cap : Nat} {e : TypeId} (o : Nat) : ∀ (vs : List Value) (o' : Nat) (w : World) (xs : List Value), o ≤ o' → w.ownsRow base e 1 (.slice (some ⟨g, 0, none⟩) n cap) n xs →
    ∃ ys, (w.setCells g o' vs).ownsRow base e 1 (.slice (some ⟨g, 0, none⟩) n cap) n ys ∧ ys.take o = xs.take o ∧ w.grownBy (w.setCells g o' vs) (some g)
  | [], _, w, xs, _, h => ⟨xs, h, rfl, World.grownBy.refl w _⟩
  | v :: r, o', w, xs, ho, h => by
    obtain ⟨h1, h2⟩ := h.stored o' v
    obtain ⟨ys, h3, h4, h5⟩ := own_setCells o r (o' + 1) _ _ (by omega) h1
    refine ⟨ys, h3, ?_, h2.trans h5⟩
    rw [h4]
    apply List.ext_getElem?
    intro j
    rw [List.getElem?_take, List.getElem?_take]
    by_cases hj : j < o
    · rw [if_pos hj, if_pos hj, List.getElem?_set_ne (by omega)]
    · rw [if_neg hj, if_neg hj]

def kept (p : Nat) (ms : List Nat) : List Nat := ms.filter (fun m => !hit p m)
theorem kept_succ {p : Nat} {ms : List Nat} {j : Nat} (hj : j < ms.length) : kept p (ms.take (j + 1)) = kept p (ms.take j) ++ (if hit p (ms[j]?.getD 0) then [] else [ms[j]?.getD 0]) := by
  unfold kept
  rw [List.take_add_one, List.filter_append, List.getElem?_eq_getElem hj]
  simp only [Option.toList_some, Option.getD_some]
  cases h : hit p ms[j] <;> simp [h]
theorem kept_none {p : Nat} {ms : List Nat} (h : ∀ j, j < ms.length → hit p (ms[j]?.getD 0) = false) : kept p ms = ms := by
  unfold kept
  rw [List.filter_eq_self]
  intro m hm
  obtain ⟨j, hj, rfl⟩ := List.mem_iff_getElem.1 hm
  have := h j hj
  rw [List.getElem?_eq_getElem hj] at this
  simpa using this
theorem kept_le (p : Nat) (ms : List Nat) : (kept p ms).length ≤ ms.length := List.length_filter_le _ _

def DlPost (p g cap : Nat) (ms : List Nat) (w : World) (e : Ending) (w' : World) : Prop :=
  e = .returned (.slice (some ⟨g, 0, none⟩) (kept p ms).length cap) ∧ w'.ownsRow 0 3 1 (.slice (some ⟨g, 0, none⟩) (kept p ms).length cap) (kept p ms).length ((asI (kept p ms)).map (.int .i64)) ∧ w.grownBy w' (some g)

theorem zeroI (w : World) : (zeroValue 3).run Try.prog w = .ok (.int .i64 0) w := by
  have h : (Try.prog.info? 3).map (fun i => i.zero) = some (some (.int .i64 0)) := by kernel_rfl
  obtain ⟨i, hi, hz⟩ := Option.map_eq_some_iff.1 h
  simp [zeroValue, typeInfo, hi, hz]

set_option maxRecDepth 100000 in
set_option maxHeartbeats 2000000 in
theorem del_nil (bx : Nat) (w : World) : Calls Try.prog 33 #[.slice none 0 0, .func (.func 34) #[] #[.pointer (some ⟨bx, 0, none⟩)]] w fun e w' => e = .returned (.slice none 0 0) ∧ w = w' := by
  have hi : Calls Try.prog 56 #[.slice none 0 0, .func (.func 34) #[] #[.pointer (some ⟨bx, 0, none⟩)]] w fun e w' => e = .returned (.int .i64 (-1)) ∧ w = w' := by
    go_enter Try.func56, Try.ntmps56
    go_wp2
    go_loop [8] (fun i => i = .int .i64 0) (fun i => 0)
    case atStart => rfl
    case round =>
      obtain rfl := hrel
      go_wp2
      go_ret
      exact ⟨rfl, rfl⟩
  have HI := Lib.hid hi
  clear hi
  go_enter Try.func33, Try.ntmps33
  go_wp2_with (go_at_call 56; refine HI.out.mono ?_; rintro e w' ⟨rfl, rfl⟩)
  go_ret
  exact ⟨rfl, rfl⟩

set_option maxRecDepth 100000 in
set_option maxHeartbeats 4000000 in
theorem del_any (ms : List Nat) (hs : Sm ms) (p g cap bx : Nat) (w : World) (hln : ms.length ≤ 100000000) (hp : p < 1024) (hbg : bx ≠ g) (hbl : bx < w.heap.size)
    (ho : w.ownsRow 0 3 1 (.slice (some ⟨g, 0, none⟩) ms.length cap) ms.length ((asI ms).map (.int .i64))) (hb : w.cell? ⟨bx, 0, none⟩ = some (.int .i64 p)) :
    Calls Try.prog 33 #[.slice (some ⟨g, 0, none⟩) ms.length cap, .func (.func 34) #[] #[.pointer (some ⟨bx, 0, none⟩)]] w (DlPost p g cap ms w) := by
  have hIF := indexFunc_any ms hs p g cap bx w hln hp (fun k hk => by rw [own_int ho k hk, asI_at]) hb
  have hcap := own_cap ho
  have HO := Lib.hid ho
  have HI := Lib.hid hIF
  have Hs := Lib.hid hs
  have HB := Lib.hid hb
  clear hIF ho hs hb
  have HP : Hid (∀ (W : World) (cur : List Nat) (i : Nat), i ≤ ms.length → cur.length = ms.length → cur.take i = kept p ms → W.ownsRow 0 3 1 (.slice (some ⟨g, 0, none⟩) ms.length cap) ms.length ((asI cur).map (.int .i64)) → w.grownBy W (some g) →
      ∀ vs, DlPost p g cap ms w (.returned (.slice (some ⟨g, 0, none⟩) i cap)) (W.setCells g i vs)) := Lib.hid (fun W cur i hi hcl hct hoW hgW vs => by
    have hil : (kept p ms).length = i := by rw [← hct, List.length_take]; omega
    obtain ⟨ys, h1, h2, h3⟩ := own_setCells i vs i W _ (Nat.le_refl _) hoW
    refine ⟨by rw [hil], ?_, hgW.trans h3⟩
    have h4 := own_cut h1 i hi
    rw [h2] at h4
    rw [hil, ← hct]
    unfold asI at h4 ⊢
    rw [List.map_take, List.map_take]
    exact h4)
  obtain ⟨n, hn⟩ : ∃ n, ms.length = n := ⟨_, rfl⟩
  have HN := Lib.hid hn
  rw [hn] at hln hcap
  rw [hn] at HI HO HP
  rw [hn]
  clear hn
  go_enter Try.func33, Try.ntmps33
  go_wp2_with (fail)
  refine HI.out.mono ?_
  rintro e w' ⟨rfl, ⟨rfl, hall⟩ | ⟨k, hk, rfl, ht, hall⟩⟩
  · have Hall := Lib.hid (kept_none (ms := ms) (p := p) (by rw [HN.out]; exact hall))
    clear hall
    go_wp2
    go_ret
    refine ⟨by rw [Hall.out, HN.out]; rfl, ?_, World.grownBy.refl _ _⟩
    rw [Hall.out, HN.out]
    exact HO.out
  · have hkk : kept p (ms.take (k + 1)) = ms.take k := by
      rw [kept_succ (by rw [HN.out]; exact hk), if_pos ht, List.append_nil]
      refine kept_none (fun j hj => ?_)
      have hj' : j < k := by rw [List.length_take] at hj; omega
      rw [List.getElem?_take, if_pos hj']
      exact hall j hj'
    have HK := Lib.hid hkk
    clear hall ht hkk
    go_wp2_with (fail)
    go_loopw [5, 6, 7] (fun s5 s6 _ wr => ∃ (i j : Nat) (cur : List Nat), s5 = .int .i64 i ∧ s6 = .int .i64 j ∧ i < j ∧ j ≤ n ∧ Hid (cur.length = n) ∧ Hid (cur.take i = kept p (ms.take j)) ∧ Hid (∀ t, j ≤ t → cur[t]?.getD 0 = ms[t]?.getD 0) ∧
      Hid (wr.ownsRow 0 3 1 (.slice (some ⟨g, 0, none⟩) n cap) n ((asI cur).map (.int .i64))) ∧ Hid (w.grownBy wr (some g))) (fun _ s6 _ _ => n - (intOf s6).toNat)
    case atStart => exact ⟨k, k + 1, ms, rfl, by go_num, by omega, by omega, HN, Lib.hid HK.out.symm, Lib.hid (fun _ _ => rfl), HO, Lib.hid (World.grownBy.refl _ _)⟩
    case round =>
      obtain ⟨i, j, cur, rfl, rfl, hij, hjn, H1, H2, H3, H4, H5⟩ := hrel
      by_cases hlt : j < n
      · have hc := own_int H4.out j (by omega)
        rw [asI_at, H3.out j (Nat.le_refl _)] at hc
        have hci := own_int H4.out i (by omega)
        have hfi := H4.out.frozenAt i
        have hb' : wr.cell? ⟨bx, 0, none⟩ = some (.int .i64 p) := (H5.out.cell_far ⟨bx, 0, none⟩ hbl (by simp; omega)).trans HB.out
        have h2 := Hs.out.at j
        have Hks := Lib.hid (kept_succ (p := p) (ms := ms) (j := j) (by rw [HN.out]; exact hlt))
        obtain ⟨m, hm⟩ : ∃ m, ms[j]?.getD 0 = m := ⟨_, rfl⟩
        rw [hm] at hc h2 Hks
        obtain ⟨d, hd⟩ : ∃ d, d = m / 4096 := ⟨_, rfl⟩
        have q1 : (m : Int) / 4096 = (d : Int) := by omega
        have HM := Lib.hid hm
        generalize (asI cur)[i]?.getD 0 = old at hci
        by_cases hh : d = p
        · have HH : Hid (hit p m = true) := Lib.hid (by unfold hit; simp; omega)
          subst hh
          clear hd hm
          go_wp2
          go_roundw
          case rel => exact ⟨i, j + 1, cur, rfl, by go_num, by omega, by omega, H1, Lib.hid (by rw [Hks.out, if_pos HH.out, List.append_nil]; exact H2.out), Lib.hid (fun t ht => H3.out t (by omega)), H4, H5⟩
          case measure => simp [intOf]; omega
        · have HH : Hid (hit p m = false) := Lib.hid (by unfold hit; simp; omega)
          have hne : ¬ ((d : Int) = (p : Int)) := by omega
          have hne2 : ((d : Int) == (p : Int)) = false := beq_eq_false_iff_ne.2 hne
          have hne3 : decide (d = p) = false := by simpa using hh
          clear hd hm
          go_wp2
          go_roundw
          case rel =>
            have hst := (H4.out.stored i (.int .i64 (m : Int)))
            refine ⟨i + 1, j + 1, cur.set i m, by go_num, by go_num, by omega, by omega, Lib.hid (by simpa using H1.out), Lib.hid ?_, Lib.hid (fun t ht => ?_), Lib.hid ?_, Lib.hid (H5.out.trans hst.2)⟩
            · rw [Hks.out, if_neg (by rw [HH.out]; simp), ← H2.out, List.take_add_one]
              rw [List.getElem?_set_self (by rw [H1.out]; omega)]
              simp only [Option.toList_some]
              congr 1
              apply List.ext_getElem?
              intro t
              rw [List.getElem?_take, List.getElem?_take]
              by_cases hti : t < i
              · rw [if_pos hti, if_pos hti, List.getElem?_set_ne (by omega)]
              · rw [if_neg hti, if_neg hti]
            · rw [List.getElem?_set_ne (by omega)]
              exact H3.out t (by omega)
            · have := hst.1
              unfold asI at this ⊢
              rw [List.map_set, List.map_set]
              exact this
          case measure => simp [intOf]; omega
      · obtain rfl : j = n := by omega
        have hcl : ∀ ty, (Builtin.clear_ #[22] ty #[.slice (some ⟨g, i, none⟩) (j - i) (cap - i)]).run Try.prog wr = .ok (.tuple #[]) (wr.setCells g i (List.replicate (j - i) (.int .i64 0))) :=
          fun ty => Lib.run_clear_slice wr _ _ ty _ Try.underlying22 zeroI rfl rfl g i _ _ (by omega) (fun t ht => by rw [own_int H4.out (i + t) (by omega)]; rfl) (fun t ht => H4.out.frozenAt (i + t))
        have hp2 := HP.out wr cur i (by omega) H1.out (by rw [H2.out, List.take_of_length_le (by rw [HN.out]; exact Nat.le_refl _)]) H4.out H5.out (List.replicate (j - i) (.int .i64 0))
        have Hp2 := Lib.hid hp2
        clear hp2
        go_wp2
        go_ret
        exact Hp2.out
end Go.Proofs.Ytfmgncajhjkdlaa
