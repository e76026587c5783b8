/- Tna. -/
import Derived.Test.YtboehbfagnocpaaGreatDoorUam
set_option linter.unusedVariables false
set_option linter.unusedSimpArgs false
set_option maxRecDepth 100000
open Go.Proofs.Tryz
open Go.Lib (hid)
namespace Go.Proofs.YtboehbfagnocpaaGreatDoor
open Go.RowKit Go.PlainAid Go.Shelf
def Tab (w : World) : Prop := Lib.TabIs prog w "internal/strconv.uint64pow10" .u64 Lib.pow10Tab
theorem tab_block {w w' : World} (h : Tab w) (hb : ∀ g, prog.globalNamed "internal/strconv.uint64pow10" = some g → g < w.heap.size → w'.heap[g]? = w.heap[g]?) : Tab w' := by
  unfold Tab Lib.TabIs World.var? at h ⊢
  cases hg : prog.globalNamed "internal/strconv.uint64pow10" with
  | none => rw [hg] at h; cases h
  | some g =>
    rw [hg] at h
    dsimp only [Option.bind] at h ⊢
    cases hc : w.heap[g]? with
    | none => rw [hc] at h; cases h
    | some o => rw [hb g hg (Array.getElem?_eq_some_iff.1 hc).1, hc]; rw [hc] at h; exact h
theorem Tab.below {w w' : World} (h : Tab w) (hb : Below w.heap.size w w') : Tab w' := tab_block h (fun g _ hl => hb.block g hl)
theorem tab_lt {w : World} (h : Tab w) {g : Nat} (hg : prog.globalNamed "internal/strconv.uint64pow10" = some g) : g < w.heap.size := by
  unfold Tab Lib.TabIs World.var? at h
  rw [hg] at h
  dsimp only [Option.bind] at h
  cases hc : w.heap[g]? with
  | none => rw [hc] at h; cases h
  | some o => exact (Array.getElem?_eq_some_iff.1 hc).1
def tabR : Res where
  R w := Tab w
  B b := prog.globalNamed "internal/strconv.uint64pow10" = some b
  keep h ht hd := tab_block h (fun g hg hl => ht.block g hl (hd g hg))
  lt h hx := tab_lt h hx
theorem nd_le {n : Nat} (h : n < 18446744073709551616) : Lib.nDigits n ≤ 20 := by
  rcases Nat.eq_zero_or_pos n with rfl | h0
  · rw [Lib.nDigits_small (by decide)]; decide
  · have h1 := Lib.numDigits_eq n h0 h
    have h2 := h1.1
    have h3 := h1.2
    split at h2 <;> omega
theorem dcz (n : Nat) : (dec n).size = Lib.nDigits n := by
  rw [← Lib.decDigits_length n]
  show (Lib.decDigits n).toArray.size = _
  simp
theorem dd_mem {n : Nat} {b : UInt8} (h : b ∈ Lib.decDigits n) : ∃ d, d < 10 ∧ b = UInt8.ofNat (48 + d) := by
  rw [Lib.decDigits_eq] at h
  obtain ⟨t, _, rfl⟩ := List.mem_map.1 h
  exact ⟨_, Nat.mod_lt _ (by decide), rfl⟩
theorem dd_in : ∀ d, d < 10 → decs.data.toList.contains (UInt8.ofNat (48 + d)) = true := by decide +kernel
theorem dd_val : ∀ d, d < 10 → (UInt8.ofNat (48 + d)).toNat = 48 + d := by decide +kernel
theorem dec_list (n : Nat) : (dec n).data.toList = Lib.decDigits n := by simp [dec]
theorem dec_dg {n : Nat} (h : n < 18446744073709551616) : Dg (dec n) 20 := by
  refine ⟨?_, ?_, ?_⟩
  · rw [dec_list]
    have h1 : Lib.trimRightS (Lib.decDigits n) decs.data.toList = [] := Lib.trimRightS_take _ _ 0 (Nat.zero_le _) (fun j b _ hj => by
      obtain ⟨d, hd, rfl⟩ := dd_mem (List.mem_of_getElem? hj)
      exact dd_in d hd) (fun b h0 => absurd h0 (by decide))
    show Lib.trimLeftS (Lib.trimRightS _ _) _ = _
    rw [h1]
    exact Lib.trimLeftS_drop [] _ 0 (Nat.le_refl _) (fun j b h0 => absurd h0 (by omega)) (fun b hb => by simp at hb)
  · rw [dcz]; exact Lib.nDigits_pos n
  · rw [dcz]; exact nd_le h
theorem pm_snoc (M : Nat) (c : UInt8) (h1 : 48 ≤ c.toNat) (h2 : c.toNat ≤ 57) : ∀ (l : List UInt8) (acc u : Nat), Lib.parseUintM M acc l = .ok u → u < 1844674407370955162 → u * 10 + (c.toNat - 48) ≤ M → Lib.parseUintM M acc (l ++ [c]) = .ok (u * 10 + (c.toNat - 48))
  | [], acc, u, h, h3, h4 => by
    rw [Lib.parseUintM.eq_1] at h
    cases h
    rw [List.nil_append, Lib.parseUintM.eq_2, if_pos ⟨h1, h2⟩, if_neg (by omega), if_neg (by omega), Lib.parseUintM.eq_1]
  | b :: l, acc, u, h, h3, h4 => by
    rw [Lib.parseUintM.eq_2] at h
    rw [List.cons_append, Lib.parseUintM.eq_2]
    split at h
    · rename_i hb
      rw [if_pos hb]
      split at h
      · cases h
      · rename_i hc
        rw [if_neg hc]
        split at h
        · cases h
        · rename_i hd
          rw [if_neg hd]
          exact pm_snoc M c h1 h2 l _ u h h3 h4
    · cases h
theorem pm_dec : ∀ (n : Nat), n < 18446744073709551616 → Lib.parseUintM 18446744073709551615 0 (Lib.decDigits n) = .ok n := by
  intro n
  induction n using Nat.strongRecOn with
  | _ n ih =>
    intro h
    rw [Lib.decDigits.eq_def]
    by_cases h1 : n < 10
    · have hv := dd_val n h1
      rw [dif_pos h1, Lib.parseUintM.eq_2, if_pos (by rw [hv]; omega), if_neg (by omega), if_neg (by rw [hv]; omega), Lib.parseUintM.eq_1, hv]
      congr 1
      omega
    · have hd : n % 10 < 10 := Nat.mod_lt _ (by decide)
      have hv := dd_val _ hd
      rw [dif_neg h1]
      have h2 := pm_snoc 18446744073709551615 (UInt8.ofNat (48 + n % 10)) (by rw [hv]; omega) (by rw [hv]; omega) _ 0 _ (ih (n / 10) (by omega) (by omega)) (by omega) (by rw [hv]; omega)
      rw [h2, hv]
      congr 1
      omega
theorem pb_dec {n : Nat} (h : n < 18446744073709551616) : Lib.parseUintB 64 (dec n).data.toList = .ok n := by
  rw [dec_list, Lib.parseUintB.eq_1, if_neg]
  · exact pm_dec n h
  · intro e
    have h1 := Lib.decDigits_length n
    rw [e] at h1
    have := Lib.nDigits_pos n
    simp at h1
    omega
theorem parse_dec {n : Nat} (h : n < 18446744073709551616) (w : World) : Calls prog 173 #[.string (dec n)] w fun e w' => e = .returned (.tuple #[.int .u64 n, .bool true]) ∧ Below w.heap.size w w' := parse_yes (dec_dg h) (pb_dec h) w
abbrev u8V : UInt8 → Value := fun b => .int .u8 (b.toNat : Int)
theorem put_new {w : World} {o : Obj} {dk : Array UInt8} {k : Nat} : Below w.heap.size w ((Sort.putRow u8V (w.alloc o) w.heap.size 0 dk).drewN k) := by
  refine ⟨rfl, rfl, rfl, ?_, fun i hi => ?_⟩
  · show w.heap.size ≤ (Sort.putRow u8V (w.alloc o) w.heap.size 0 dk).heap.size
    rw [Sort.size_putRow, World.size_alloc]; omega
  · show ((w.alloc o).heap.modify w.heap.size _)[i]? = _
    rw [Array.getElem?_modify, if_neg (by omega)]
    exact (bA w o).block i hi
def z24 : Array Value := #[.int .u8 0, .int .u8 0, .int .u8 0, .int .u8 0, .int .u8 0, .int .u8 0, .int .u8 0, .int .u8 0, .int .u8 0, .int .u8 0, .int .u8 0, .int .u8 0, .int .u8 0, .int .u8 0, .int .u8 0, .int .u8 0, .int .u8 0, .int .u8 0, .int .u8 0, .int .u8 0, .int .u8 0, .int .u8 0, .int .u8 0, .int .u8 0]
theorem z24_at (w : World) (j : Nat) (h : j < 24) : (w.alloc (.cells z24 307)).cell? ⟨w.heap.size, 0 + j, none⟩ = some (.int .u8 0) := by
  rw [cA (cells_new w z24 307) (0 + j)]
  have e : z24 = (List.replicate 24 (Value.int .u8 0)).toArray := rfl
  rw [e, List.getElem?_toArray, List.getElem?_replicate, if_pos (by omega)]
theorem fb10 {w : World} {n nd : Nat} (hn : Lib.nDigits n = nd) (h : n < 18446744073709551616) (w0 : World) (hw : w = w0.alloc (.cells z24 307)) :
    Calls prog 200 #[.slice (some ⟨w0.heap.size, 0, none⟩) nd 24, .int .u64 n] w fun e w' => e = .returned (.tuple #[]) ∧ Below w0.heap.size w0 w' ∧ (convert 118 9 (.slice (some ⟨w0.heap.size, 0, none⟩) nd 24)).run prog w' = .ok (.string (dec n)) w' := by
  subst hw
  have hle := nd_le h
  have hsz : (Array.replicate nd (0 : UInt8)).size = nd := by simp
  have hH : Sort.Holds u8V (w0.alloc (.cells z24 307)) w0.heap.size 0 (Array.replicate nd (0 : UInt8)) := fun j hj => by
    rw [hsz] at hj
    refine ⟨?_, cZ (cells_new w0 z24 307) (0 + j)⟩
    rw [z24_at w0 j (by omega)]
    simp [u8V, hj]
  have h1 := Tryz.internal_strconv_formatBase10 w0.heap.size 0 24 n (Array.replicate nd (0 : UInt8)) _ hH (by rw [hsz, ← hn]; exact Lib.lt_pow_nDigits n) h (by rw [hsz]; omega)
  rw [hsz] at h1
  refine h1.mono ?_
  rintro e w' ⟨he, k, v', dk, rfl, hf⟩
  refine ⟨he, put_new, ?_⟩
  have hds : dk.size = nd := hf.size
  have hln : (Lib.decDigits n).length = nd := by rw [Lib.decDigits_length, hn]
  have hc := run_convert_bytes_back (P := prog) ((Sort.putRow u8V (w0.alloc (.cells z24 307)) w0.heap.size 0 dk).drewN k) 118 9 5 ⟨w0.heap.size, 0, none⟩ 24 (Lib.decDigits n) underlying118 underlying5 underlying9 (fun j hj => by
    have hj2 : j < dk.size := by omega
    have h2 := Sort.cell?_putRow u8V (w0.alloc (.cells z24 307)) w0.heap.size 0 _ dk hH (by rw [hds, hsz]) j hj2
    have h3 := Lib.row_is_numeral (u := n) (dk := dk) (v' := v') (by rw [hn]; exact hf) j hj
    rw [show (⟨w0.heap.size, 0, none⟩ : Addr).add j = ⟨w0.heap.size, 0 + j, none⟩ from by cases j <;> simp [Addr.add]]
    rw [h3]
    exact h2)
  rw [hln] at hc
  exact hc
theorem fmt_any {n : Nat} (h1 : ¬ n < 100) (h2 : n < 18446744073709551616) (w : World) (hT : Tab w) : Calls prog 141 #[.int .u64 n, .int .i64 10] w fun e w' => e = .returned (.string (dec n)) ∧ Below w.heap.size w w' := by
  have g1 : ¬ ((n : Int) < 100) := by omega
  obtain ⟨nd, hnd⟩ : ∃ nd, Lib.nDigits n = nd := ⟨_, rfl⟩
  have HN := hid (Tryz.internal_strconv_numDigits n (by omega) h2 _ (hT.below (bA w (.cells z24 307))))
  rw [hnd] at HN
  have HF := hid (fb10 hnd h2 w rfl)
  have g2 : (nd : Int) ≤ 24 := by have := nd_le h2; omega
  have g3 : (0 : Int) ≤ nd := by omega
  clear hT h1 h2 hnd
  unfold z24 at HN HF
  go_enter func141, ntmps141
  go_wp2_with (first
    | (go_at_call 199; refine HN.out.mono ?_; rintro e w1 ⟨rfl, rfl⟩))
  go_at_call 200
  refine HF.out.mono ?_
  rintro e w2 ⟨rfl, hb, hcv⟩
  go_wp2_with (fail)
  go_ret
  exact ⟨rfl, hb⟩
theorem text_any {n : Nat} (h : n < 18446744073709551616) (w : World) (hT : Tab w) : Calls prog 27 #[.int .u64 n] w fun e w' => e = .returned (.string (dec n)) ∧ Below w.heap.size w w' := by
  by_cases h1 : n < 100
  · exact (text_small h1 w).mono (fun e w' hh => ⟨hh.1, by rw [hh.2]; exact Below.refl _ _⟩)
  have HS := hid (fmt_any h1 h w hT)
  have HF : Hid (Calls prog 77 #[.int .u64 n, .int .i64 10] w fun e w' => e = .returned (.string (dec n)) ∧ Below w.heap.size w w') := by
    refine hid ?_
    clear hT h h1
    go_enter func77, ntmps77
    go_wp2_with (first
      | (go_at_call 141; refine HS.out.mono ?_; rintro e w1 ⟨rfl, hb⟩))
    go_ret
    exact ⟨rfl, hb⟩
  clear hT h h1 HS
  go_enter func27, ntmps27
  go_wp2_with (first
    | (go_at_call 77; refine HF.out.mono ?_; rintro e w1 ⟨rfl, hb⟩))
  go_ret
  exact ⟨rfl, hb⟩
theorem add_any {n d : Nat} (hn : n < 18446744073709551616) (hd : d < 18446744073709551616) (w : World) (hT : Tab w) : Calls prog 171 #[.string (dec n), .int .u64 d] w fun e w' => e = .returned (.tuple #[.string (dec ((n + d) % 18446744073709551616)), .bool true]) ∧ Below w.heap.size w w' := by
  have HP := hid (parse_dec hn w)
  obtain ⟨s, hs⟩ : ∃ s, (n + d) % 18446744073709551616 = s := ⟨_, rfl⟩
  have HX : Hid (∀ w', Below w.heap.size w w' → Calls prog 27 #[.int .u64 s] w' fun e w'' => e = .returned (.string (dec s)) ∧ Below w'.heap.size w' w'') := hid (fun w' hb => text_any (by rw [← hs]; exact Nat.mod_lt _ (by decide)) w' (hT.below hb))
  have hw : IntKind.u64.wrap ((n : Int) + d) = s := by
    rw [IntKind.wrap_u64, ← hs]
    omega
  rw [hs]
  clear hT hs hn hd
  go_enter func171, ntmps171
  go_wp2_with (first
    | (go_at_call 173; refine HP.out.mono ?_; rintro e w1 ⟨rfl, hb⟩)
    | (go_at_call 27; refine (HX.out _ hb).mono ?_; rintro e w2 ⟨rfl, hb2⟩))
  go_ret2
  exact ⟨rfl, hb.trans (hb2.mono hb.size)⟩
end Go.Proofs.YtboehbfagnocpaaGreatDoor
