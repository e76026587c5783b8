/- SlabApart's walk. -/
import Derived.Test.YtfmgncajhjkdlaaSat
import Derived.Deep.CutRange
import Derived.Deep.Cut
import Derived.Deep.CutBlock
import Derived.Deep.RegionHeld3
namespace Go.Proofs.Ytfmgncajhjkdlaa
open Go.RowKit Go.PlainAid
open SP
set_option linter.unusedVariables false
set_option linter.unusedSimpArgs false

theorem ri_own {w : World} {base g n cap : Nat} {l : List Int} (h : w.ownsRow base 3 1 (.slice (some ⟨g, 0, none⟩) n cap) n (l.map (.int .i64))) : RI w (.slice (some ⟨g, 0, none⟩) n cap) l := by
  have hn : l.length = n := by simpa using h.1
  refine ⟨_, cap, by rw [hn], fun _ => ⟨g, 0, rfl, fun i hi => ?_⟩⟩
  rw [Nat.zero_add]
  exact own_int h i (by omega)
/-- the walk's beginning: the slab over the arena, and the row of the sizes -/
theorem aw_init {w0 w2 w3 w4 : World} {v : Value} {zs : List Int} {S g k : Nat} {B1 : Nat} (hb2 : Below w0.heap.size w0 w2) (hz : w2.ownsRow B1 3 1 v zs.length (zs.map (.int .i64))) (hB1 : w0.heap.size ≤ B1) (hb3 : Below w2.heap.size w2 w3) (hg : w2.heap.size ≤ g) (hk : w2.heap.size ≤ k)
    (hA : Ar w3 g k 3 S (.slice none 0 0) (List.replicate 3 0) []) (hs : Szs S zs) (hS : 512 ≤ S ∧ S ≤ 65536) {e : Ending} (hN : NwPost g k S (.slice none 0 0) (List.replicate 3 0) [] zs w3 e w4) :
    ∃ sb Y, e = .returned (.tuple #[.pointer (some ⟨sb, 0, none⟩), .int .i64 0]) ∧ AW w0 Y sb zs v w4 (madeP 3 S zs) 0 [] (.slice none 0 0) [] (.slice none 0 0) := by
  obtain ⟨β, he, hM, hb4, hbg, hf⟩ := hN
  have hbb : Below w0.heap.size w0 w4 := (hb2.trans (hb3.mono hb2.size)).trans (hb4.mono (by have := hb2.size; have := hb3.size; omega))
  have hz4 := own_belowB (own_belowB hz hb3) hb4
  refine ⟨β.sb, foot β (madeP 3 S zs), he, ⟨⟨β, rfl, hM, newP_wf hs hA.rng (granted_rep 3) (by simp) hS, fun _ h => h, fun b ⟨i, hi⟩ => hM.lt i b hi⟩, own_zero hz4, World.ownsRow_nil _ _ _ _, World.ownsRow_nil _ _ _ _, fun b hb => ?_, fun b hb => (by cases hb), fun b hb => (by cases hb), fun b _ h => (by cases h), fun b _ h => (by cases h), fun b h => (by cases h), fun b hb => ?_, hbb⟩⟩
  · obtain ⟨_, _, _, h1, h2⟩ := own_cells hz hb
    refine ⟨fun hy => ?_, by omega⟩
    have h3 := hb3.size
    rcases hf b hy with (h4 | h4 | h4) | h4
    · omega
    · omega
    · cases h4
    · omega
  · have h3 := hb3.size
    have h2 := hb2.size
    rcases hf b hb with (h4 | h4 | h4) | h4
    · omega
    · omega
    · cases h4
    · omega

set_option maxRecDepth 100000 in
set_option maxHeartbeats 8000000 in
theorem apart_walk (a b : Int) (l : List Int) (ad : Option Addr) (n cap : Nat) (w : World) (ha : (Lit.int .i64 a).wf = true) (hb : (Lit.int .i64 b).wf = true) (hr : RI w (.slice ad n cap) l) (hli : I64s l) (hln : l.length = n) :
    Calls Try.prog 6 #[.int .i64 a, .int .i64 b, .slice ad n cap] w fun e w' => e = .returned (.bool true) ∧ Below w.heap.size w w' := by
  obtain ⟨a1, a2⟩ := bd_i64 ha
  obtain ⟨b1, b2⟩ := bd_i64 hb
  have Hr := Lib.hid hr
  have Hli := Lib.hid hli
  clear ha hb hr hli
  go_enter Try.func6, Try.ntmps6
  go_wp2_with (fail)
  refine (shown_any w).mono ?_
  rintro e w1 ⟨rfl, hb1⟩
  have HB1 := Lib.hid hb1
  clear hb1
  go_upto_if 36 with (fail)
  go_cut [0] from 35 to 39 (fun s0 wx => w1 = wx ∧ ∃ u : Int, s0 = .int .i64 u ∧ 0 ≤ u ∧ u ≤ 9223372036854775807)
  case first =>
    by_cases h0 : a < 0
    · go_wp2
      go_meet
      case rel => exact ⟨rfl, _, rfl, by omega, by omega⟩
    · go_wp2
      go_meet
      case rel => exact ⟨rfl, a, rfl, by omega, by omega⟩
  case rest =>
  obtain ⟨rfl, u, rfl, hu0, hu1⟩ := hcut
  go_upto_if 41 with (fail)
  go_cut [1] from 40 to 44 (fun s1 wx => w1 = wx ∧ ∃ v : Int, s1 = .int .i64 v ∧ 0 ≤ v ∧ v ≤ 9223372036854775807)
  case first =>
    by_cases h0 : b < 0
    · go_wp2
      go_meet
      case rel => exact ⟨rfl, _, rfl, by omega, by omega⟩
    · go_wp2
      go_meet
      case rel => exact ⟨rfl, b, rfl, by omega, by omega⟩
  case rest =>
  obtain ⟨rfl, v, rfl, hv0, hv1⟩ := hcut
  obtain ⟨S, hS⟩ : ∃ S : Nat, 512 + u % 4 * 512 = (S : Int) := ⟨(512 + u % 4 * 512).toNat, by omega⟩
  obtain ⟨f, hf⟩ : ∃ f : Int, 105 + v % 296 = f := ⟨_, rfl⟩
  have hSS : 512 ≤ S ∧ S ≤ 2048 ∧ S % 8 = 0 := by omega
  have hff : 105 ≤ f ∧ f ≤ 400 := by omega
  have hnb : ¬ M.Bad S f := by unfold M.Bad; omega
  have HSz := Lib.hid (szs_row (S := S) ⟨hSS.1, by omega, hSS.2.2⟩ hff)
  have HR : Hid (∀ w, Calls Try.prog 19 #[.int .i64 S, .int .i64 f] w fun e w' => ∃ v, e = .returned (.tuple #[v, .int .i64 0]) ∧ w'.ownsRow w.heap.size 3 1 v (M.row S f).length ((M.row S f).map (.int .i64)) ∧ Below w.heap.size w w') := Lib.hid (fun w => (refNew_good S f w hnb).mono (fun e w' ⟨v, h1, h2, h3⟩ => ⟨v, by rw [h1]; unfold M.errno; rw [if_neg hnb], h2, h3⟩))
  generalize M.row (S : Int) f = zs at *
  clear hnb
  go_wp2_with (fail)
  refine (HR.out w1).mono ?_
  rintro e w2 ⟨vz, rfl, hz2, hb2⟩
  obtain ⟨zg, zc, rfl, hzl, hzh⟩ := hz2.form (by have := HSz.out.len; omega)
  have hzc := own_cap hz2
  have Hz2 := Lib.hid hz2
  have Hb2 := Lib.hid hb2
  clear hz2 hb2 HR
  go_wp2_with (fail)
  refine (new_yes 3 S w2 (by unfold okNew; simp; omega)).mono ?_
  rintro e w3 (⟨h, _⟩ | ⟨_, g, k, rfl, hA, hg, hk, hb3⟩)
  · exfalso
    simp [okNew] at h
    omega
  have HA : Hid (Ar w3 g k 3 S (.slice none 0 0) (List.replicate 3 0) []) := Lib.hid hA
  have Hb3 := Lib.hid hb3
  have Hgk := Lib.hid (And.intro hg hk)
  have HW := Lib.hid (new_ok HA.out (granted_rep 3) ⟨zg, 0, none⟩ zs.length zc zs (ri_own (own_belowB Hz2.out hb3)) hzc.1 HSz.out)
  clear hA hb3 hg hk
  go_wp2_with (fail)
  refine HW.out.mono ?_
  intro e w4 hN
  obtain ⟨sb, Y, rfl, hAW⟩ := aw_init (w0 := w) (HB1.out.trans (Hb2.out.mono HB1.out.size)) Hz2.out HB1.out.size Hb3.out Hgk.out.1 Hgk.out.2 HA.out HSz.out (by omega) hN
  have HAW := Lib.hid hAW
  clear hN hAW HW HA Hb3 Hgk Hz2 Hb2 hzl hzh hzc
  go_upto_block 0 with (fail)
  have HI0 : Hid (ApI (madeP 3 S zs) [] []) := Lib.hid ⟨by simp, rfl, fun c hc => (by cases hc), fun k hk => (by simp at hk), by simp [madeP, newP]⟩
  have HP0 : Hid ((madeP 3 S zs).S = S ∧ (madeP 3 S zs).sz = zs ∧ (madeP 3 S zs).ow.length = 3) := Lib.hid ⟨rfl, rfl, rfl⟩
  have hzl : zs.length ≤ 63 ∧ 1 ≤ zs.length := by have := HSz.out.len; omega
  obtain ⟨nz, hnz⟩ : ∃ nz, zs.length = nz := ⟨_, rfl⟩
  have HNz := Lib.hid hnz
  rw [hnz] at hzl ⊢ HAW
  clear hnz
  generalize madeP 3 S zs = π0 at *
  go_cut [14, 15] from 86 to 222 (fun s14 s15 wx => ∃ (Y : Nat → Prop) (π : Pi) (hs : List Nat) (ms : List Int) (ah am : Option Addr) (nh ch cm : Nat), s14 = .slice ah nh ch ∧ s15 = .slice am nh cm ∧ nh ≤ 100 ∧ Hid (hs.length = nh) ∧
    Hid (AW w Y sb zs (.slice (some ⟨zg, 0, none⟩) nz zc) wx π 1000000 hs (.slice ah nh ch) ms (.slice am nh cm)) ∧ Hid (ApI π hs ms) ∧ Hid (π.S = S ∧ π.sz = zs ∧ π.ow.length = 3))
  case first =>
    go_wp2_with (fail)
    go_loopw [14, 15, 16] (fun s14 s15 s16 wr => ∃ (j : Nat) (Y : Nat → Prop) (π : Pi) (hs : List Nat) (ms : List Int) (ah am : Option Addr) (nh ch cm : Nat), j ≤ n ∧ j ≤ 100 ∧ s16 = .int .i64 j ∧ s14 = .slice ah nh ch ∧ s15 = .slice am nh cm ∧ nh ≤ j ∧ Hid (hs.length = nh) ∧
      Hid (AW w Y sb zs (.slice (some ⟨zg, 0, none⟩) nz zc) wr π (4000 * j) hs (.slice ah nh ch) ms (.slice am nh cm)) ∧ Hid (ApI π hs ms) ∧ Hid (π.S = S ∧ π.sz = zs ∧ π.ow.length = 3)) (fun _ _ s16 _ => n - (intOf s16).toNat)
    case atStart => exact ⟨0, Y, π0, [], [], none, none, 0, 0, 0, by omega, by omega, rfl, rfl, rfl, by omega, Lib.hid rfl, HAW, HI0, HP0⟩
    case round =>
      clear HAW HI0 HP0 π0 Y
      obtain ⟨j, Y, π, hs, ms, ah, am, nh, ch, cm, hjn, hj100, rfl, rfl, rfl, hnh, HL, HA, HI, HP⟩ := hrel
      by_cases hlt : j < n
      · by_cases hlt1 : j < 100
        · have hj100' : (j : Int) < 100 := by omega
          obtain ⟨b, o, rfl, hc⟩ := Hr.out.atW HA.out.be hlt
          have hx := Hli.out.at j
          generalize l[j]?.getD 0 = x at *
          by_cases hneg : x < 0 ∧ 0 < nh
          · have ho := HA.out.h
            rw [HL.out] at ho
            obtain ⟨gh, hch, he, _, hgw⟩ := ho.form hneg.2
            simp only [Value.slice.injEq] at he
            obtain ⟨rfl, _, rfl⟩ := he
            obtain ⟨k, hk, hkn⟩ : ∃ k : Nat, (-(x + 1)).tmod (nh : Int) = k ∧ k < nh := tmod_nat (by omega) hneg.2
            have kc : wr.cell? ⟨gh, k, none⟩ = some (.int .i64 ((hs[k]?.getD 0 : Nat) : Int)) := by have := own_int ho k hkn; rwa [asI_at] at this
            obtain ⟨c, hcd⟩ : ∃ c, hs[k]?.getD 0 = c := ⟨_, rfl⟩
            have hus : usedP π (c : Int) = true := by rw [← hcd]; exact HI.out.us _ (mem_at (by rw [HL.out]; exact hkn))
            have hc12 := held_le HA.out.sf.wf HP.out.2.2 hus
            have hff := frF_of HA.out.sf.wf hus
            rw [hcd] at kc
            have Hff := Lib.hid hff
            have Hus := Lib.hid hus
            have Hcd := Lib.hid hcd
            clear ho hff hus hcd
            have hxn := hneg.1
            have hnp := hneg.2
            clear hneg
            go_wp2_with (fail)
            refine (free_f HA.out.sf (c : Int) (by omega) (by omega) Hff.out.ok).mono ?_
            rintro e w5 ⟨rfl, hN5⟩
            obtain ⟨Y5, hA5⟩ := HA.out.nx hN5
            have HA5 := Lib.hid hA5
            clear hN5 hA5
            have kc5 : w5.cell? ⟨gh, k, none⟩ = some (.int .i64 (c : Int)) := by
              have ho := HA5.out.h
              rw [HL.out] at ho
              have := own_int ho k hkn
              rw [asI_at, Hcd.out] at this
              exact this
            have hun : usedP (frS π (c : Int)) (c : Int) = false := by rw [Hff.out.used, if_pos rfl]
            have he8 : frE (frS π (c : Int)) (c : Int) = 8 := by unfold frE; rw [hun]; rfl
            have hs8 : frS (frS π (c : Int)) (c : Int) = frS π (c : Int) := frS_un hun
            have Hs8 := Lib.hid hs8
            have He8 := Lib.hid he8
            clear hun he8 hs8 kc
            go_wp2_with (fail)
            refine (free_f HA5.out.sf (c : Int) (by omega) (by omega) He8.out).mono ?_
            rintro e w6 ⟨rfl, hN6⟩
            rw [Hs8.out] at hN6
            obtain ⟨Y6, hA6⟩ := HA5.out.nx hN6
            have HA6 := Lib.hid hA6
            have HI6 := Lib.hid (HI.out.free HA.out.sf.wf (k := k) (by rw [HL.out]; exact hkn))
            clear hN6 hA6 kc5
            rw [Hcd.out] at HI6
            clear HA5
            go_wp2_with (fail)
            have ho6 := HA6.out.h
            rw [HL.out] at ho6
            have hcap := own_cap ho6
            have hc0 : ¬ ch = 0 := by omega
            have hkc : k ≤ ch := by omega
            have hkc1 : k + 1 ≤ nh := by omega
            have hkc2 : (0 : Int) ≤ (k : Int) + 1 := by omega
            have hkc3 : (k : Int) + 1 ≤ (nh : Int) := by omega
            have hw1 : IntKind.i64.wrap ((k : Int) + 1) = (k : Int) + 1 := by unfold IntKind.wrap; simp [IntKind.signed, IntKind.bits]; omega
            have hln := cut_len (asI hs) ((asI_len hs).trans HL.out) hkn
            have hr1 := cutI_head ho6 hkn
            have Ht := Lib.hid (fun X hb => cutI_tail (X := X) ho6 hkn hb)
            clear ho6
            refine wp_region_held_drew (S := (fun _ => True)) (by kernel_rfl) trivial (fun hHeld => ?_)
            refine wpAnyH_take (i := 1) (oi := _) (v := ?_) rfl (by kernel_rfl) (by kernel_rfl) (by kernel_rfl) (fun _ _ _ h => h) (Or.inl ⟨by rfl, ?_⟩) (by assumption) ?_
            rotate_left
            · intro w0 hS0; (try simp only [List.getElem_toArray, List.getElem_cons_succ, List.getElem_cons_zero]); go_simp; (try with_reducible rfl)
            (try simp only [Act.put, List.getElem_toArray, List.getElem_cons_succ, List.getElem_cons_zero, List.setIfInBounds_toArray, List.set_cons_zero, List.set_cons_succ])
            refine wpAnyH_take (i := 2) (oi := _) (v := ?_) rfl (by kernel_rfl) (by kernel_rfl) (by kernel_rfl) (fun _ _ _ h => h) (Or.inl ⟨by rfl, ?_⟩) (by assumption) ?_
            rotate_left
            · intro w0 hS0; (try simp only [List.getElem_toArray, List.getElem_cons_succ, List.getElem_cons_zero]); go_simp; (try with_reducible rfl)
            (try simp only [Act.put, List.getElem_toArray, List.getElem_cons_succ, List.getElem_cons_zero, List.setIfInBounds_toArray, List.set_cons_zero, List.set_cons_succ])
            refine wpAnyH_take (i := 3) (oi := _) (v := ?_) rfl (by kernel_rfl) (by kernel_rfl) (by kernel_rfl) (fun _ _ _ h => h) (Or.inl ⟨by rfl, ?_⟩) (by assumption) ?_
            rotate_left
            · intro w0 hS0; (try simp only [List.getElem_toArray, List.getElem_cons_succ, List.getElem_cons_zero]); go_simp; (try with_reducible rfl)
            (try simp only [Act.put, List.getElem_toArray, List.getElem_cons_succ, List.getElem_cons_zero, List.setIfInBounds_toArray, List.set_cons_zero, List.set_cons_succ])
            refine wpAnyH_take (i := 5) (oi := _) (v := ?_) rfl (by kernel_rfl) (by kernel_rfl) (by kernel_rfl) (fun _ _ _ h => h) (Or.inl ⟨by rfl, ?_⟩) (by assumption) ?_
            rotate_left
            · intro w0 hS0; (try simp only [List.getElem_toArray, List.getElem_cons_succ, List.getElem_cons_zero]); go_simp; (try with_reducible rfl)
            (try simp only [Act.put, List.getElem_toArray, List.getElem_cons_succ, List.getElem_cons_zero, List.setIfInBounds_toArray, List.set_cons_zero, List.set_cons_succ])
            refine wpAnyH_take (i := 6) (oi := _) (v := ?_) rfl (by kernel_rfl) (by kernel_rfl) (by kernel_rfl) (fun _ _ _ h => h) (Or.inl ⟨by rfl, ?_⟩) (by assumption) ?_
            rotate_left
            · intro w0 hS0; (try simp only [List.getElem_toArray, List.getElem_cons_succ, List.getElem_cons_zero]); go_simp; (try with_reducible rfl)
            (try simp only [Act.put, List.getElem_toArray, List.getElem_cons_succ, List.getElem_cons_zero, List.setIfInBounds_toArray, List.set_cons_zero, List.set_cons_succ])
            refine wpAnyH_take (i := 7) (oi := _) (v := ?_) rfl (by kernel_rfl) (by kernel_rfl) (by kernel_rfl) (fun _ _ _ h => h) (Or.inl ⟨by rfl, ?_⟩) (by assumption) ?_
            rotate_left
            · intro w0 hS0; (try simp only [List.getElem_toArray, List.getElem_cons_succ, List.getElem_cons_zero]); go_simp; (try with_reducible rfl)
            (try simp only [Act.put, List.getElem_toArray, List.getElem_cons_succ, List.getElem_cons_zero, List.setIfInBounds_toArray, List.set_cons_zero, List.set_cons_succ])
            refine wpAnyH_take (i := 8) (oi := _) (v := ?_) rfl (by kernel_rfl) (by kernel_rfl) (by kernel_rfl) (fun _ _ _ h => h) (Or.inl ⟨by rfl, ?_⟩) (by assumption) ?_
            rotate_left
            · intro w0 hS0; (try simp only [List.getElem_toArray, List.getElem_cons_succ, List.getElem_cons_zero]); go_simp; (try with_reducible rfl)
            (try simp only [Act.put, List.getElem_toArray, List.getElem_cons_succ, List.getElem_cons_zero, List.setIfInBounds_toArray, List.set_cons_zero, List.set_cons_succ])
            refine wpAnyH_ready (rs := [0]) (by kernel_rfl) (by simp) ?_
            refine AllReadyH.cons (o := _) rfl (fun K hK => ?_) AllReadyH.nil
            (try rw [if_pos (by rfl)])
            (try simp only [List.getElem_toArray, List.getElem_cons_succ, List.getElem_cons_zero])
            go_simp
            refine hK.out _ _ (hHeld) (fun hHeld => ?_)
            clear hK K
            (try simp only [Act.put, List.getElem_toArray, List.getElem_cons_succ, List.getElem_cons_zero, List.setIfInBounds_toArray, List.set_cons_zero, List.set_cons_succ])
            refine wpAnyH_ready (rs := [4]) (by kernel_rfl) (by simp) ?_
            refine AllReadyH.cons (o := _) rfl (fun K hK => ?_) AllReadyH.nil
            refine step_appI rfl (.tmp 129) (.tmp 132) rfl w6.heap.size (.slice (some ⟨w6.heap.size, 0, none⟩) 0 0) (.slice (some ⟨gh, 0, none⟩) k ch) 0 [] ((asI hs).take k) rfl rfl (own_newI w6.drew) hr1 (by omega) (by simp) ?_
            intro v7 X1 ho7 hb7
            have hB7 := (below_new w6 3).trans (hb7.mono (by simp))
            have Hb7 := Lib.hid hB7
            clear hb7 hB7
            refine hK.out _ _ (hHeld) (fun hHeld => ?_)
            clear hK K
            (try simp only [Act.put, List.getElem_toArray, List.getElem_cons_succ, List.getElem_cons_zero, List.setIfInBounds_toArray, List.set_cons_zero, List.set_cons_succ])
            refine wpAnyH_ready (rs := [9]) (by kernel_rfl) (by simp) ?_
            refine AllReadyH.cons (o := _) rfl (fun K hK => ?_) AllReadyH.nil
            refine step_appI rfl (.tmp 133) (.tmp 137) rfl w6.heap.size v7 (.slice (if ch = k + 1 then some ⟨gh, 0, none⟩ else some ⟨gh, k + 1, none⟩) (nh - (k + 1)) (ch - (k + 1))) _ _ ((asI hs).drop (k + 1)) rfl rfl ho7 (Ht.out _ Hb7.out) (by omega) Hb7.out.size ?_
            intro v8 X2 ho8 hb8
            have hB8 := Hb7.out.trans hb8
            have ho8' := own_toI (m := (hs.take k ++ hs.drop (k + 1)).length) ho8 (by rw [(cut_len hs HL.out hkn).2.2]; omega) (l' := asI (hs.take k ++ hs.drop (k + 1))) (by rw [asI_cut]; rfl)
            have hA8 := HA6.out.heldNew hB8 ho8'
            have hl8 := (cut_len hs HL.out hkn).2.2
            rw [hl8] at ho8'
            obtain ⟨a8, c8, rfl, _⟩ := own_sl ho8'
            have Hl8 := Lib.hid hl8
            have HA8 := Lib.hid hA8
            clear ho7 ho8 ho8' hA8 hl8 hB8 hb8 hr1 hln hcap hkc hc0
            refine hK.out _ _ (hHeld) (fun hHeld => ?_)
            clear hK K
            (try simp only [Act.put, List.getElem_toArray, List.getElem_cons_succ, List.getElem_cons_zero, List.setIfInBounds_toArray, List.set_cons_zero, List.set_cons_succ])
            refine wpAnyH_take (i := 10) (oi := _) (v := ?_) rfl (by kernel_rfl) (by kernel_rfl) (by kernel_rfl) (fun _ _ _ h => h) (Or.inl ⟨by rfl, ?_⟩) (by assumption) ?_
            rotate_left
            · intro w0 hS0; (try simp only [List.getElem_toArray, List.getElem_cons_succ, List.getElem_cons_zero]); go_simp; (try with_reducible rfl)
            (try simp only [Act.put, List.getElem_toArray, List.getElem_cons_succ, List.getElem_cons_zero, List.setIfInBounds_toArray, List.set_cons_zero, List.set_cons_succ])
            refine wpAnyH_done (by kernel_rfl) ?_ _
            clear Ht Hb7 HA6
            generalize (if ch = k + 1 then (some ⟨gh, 0, none⟩ : Option Addr) else some ⟨gh, k + 1, none⟩) = A9
            go_wp2_with (fail)
            have hml : ms.length = nh := HI.out.ln.symm.trans HL.out
            have ho8 := HA8.out.m
            rw [hml] at ho8
            obtain ⟨gm, cm', he, _, hmw⟩ := ho8.form hnp
            simp only [Value.slice.injEq] at he
            obtain ⟨rfl, _, rfl⟩ := he
            have hcap := own_cap ho8
            have hc0 : ¬ cm = 0 := by omega
            have hkc : k ≤ cm := by omega
            have hln := cut_len ms hml hkn
            have hr1 := cutB_head ho8 hkn
            have Ht := Lib.hid (fun X hb => cutB_tail (X := X) ho8 hkn hb)
            clear ho8
            refine wp_region_held_drew (S := (fun _ => True)) (by kernel_rfl) trivial (fun hHeld => ?_)
            refine wpAnyH_take (i := 1) (oi := _) (v := ?_) rfl (by kernel_rfl) (by kernel_rfl) (by kernel_rfl) (fun _ _ _ h => h) (Or.inl ⟨by rfl, ?_⟩) (by assumption) ?_
            rotate_left
            · intro w0 hS0; (try simp only [List.getElem_toArray, List.getElem_cons_succ, List.getElem_cons_zero]); go_simp; (try with_reducible rfl)
            (try simp only [Act.put, List.getElem_toArray, List.getElem_cons_succ, List.getElem_cons_zero, List.setIfInBounds_toArray, List.set_cons_zero, List.set_cons_succ])
            refine wpAnyH_take (i := 2) (oi := _) (v := ?_) rfl (by kernel_rfl) (by kernel_rfl) (by kernel_rfl) (fun _ _ _ h => h) (Or.inl ⟨by rfl, ?_⟩) (by assumption) ?_
            rotate_left
            · intro w0 hS0; (try simp only [List.getElem_toArray, List.getElem_cons_succ, List.getElem_cons_zero]); go_simp; (try with_reducible rfl)
            (try simp only [Act.put, List.getElem_toArray, List.getElem_cons_succ, List.getElem_cons_zero, List.setIfInBounds_toArray, List.set_cons_zero, List.set_cons_succ])
            refine wpAnyH_take (i := 3) (oi := _) (v := ?_) rfl (by kernel_rfl) (by kernel_rfl) (by kernel_rfl) (fun _ _ _ h => h) (Or.inl ⟨by rfl, ?_⟩) (by assumption) ?_
            rotate_left
            · intro w0 hS0; (try simp only [List.getElem_toArray, List.getElem_cons_succ, List.getElem_cons_zero]); go_simp; (try with_reducible rfl)
            (try simp only [Act.put, List.getElem_toArray, List.getElem_cons_succ, List.getElem_cons_zero, List.setIfInBounds_toArray, List.set_cons_zero, List.set_cons_succ])
            refine wpAnyH_take (i := 5) (oi := _) (v := ?_) rfl (by kernel_rfl) (by kernel_rfl) (by kernel_rfl) (fun _ _ _ h => h) (Or.inl ⟨by rfl, ?_⟩) (by assumption) ?_
            rotate_left
            · intro w0 hS0; (try simp only [List.getElem_toArray, List.getElem_cons_succ, List.getElem_cons_zero]); go_simp; (try with_reducible rfl)
            (try simp only [Act.put, List.getElem_toArray, List.getElem_cons_succ, List.getElem_cons_zero, List.setIfInBounds_toArray, List.set_cons_zero, List.set_cons_succ])
            refine wpAnyH_take (i := 6) (oi := _) (v := ?_) rfl (by kernel_rfl) (by kernel_rfl) (by kernel_rfl) (fun _ _ _ h => h) (Or.inl ⟨by rfl, ?_⟩) (by assumption) ?_
            rotate_left
            · intro w0 hS0; (try simp only [List.getElem_toArray, List.getElem_cons_succ, List.getElem_cons_zero]); go_simp; (try with_reducible rfl)
            (try simp only [Act.put, List.getElem_toArray, List.getElem_cons_succ, List.getElem_cons_zero, List.setIfInBounds_toArray, List.set_cons_zero, List.set_cons_succ])
            refine wpAnyH_take (i := 7) (oi := _) (v := ?_) rfl (by kernel_rfl) (by kernel_rfl) (by kernel_rfl) (fun _ _ _ h => h) (Or.inl ⟨by rfl, ?_⟩) (by assumption) ?_
            rotate_left
            · intro w0 hS0; (try simp only [List.getElem_toArray, List.getElem_cons_succ, List.getElem_cons_zero]); go_simp; (try with_reducible rfl)
            (try simp only [Act.put, List.getElem_toArray, List.getElem_cons_succ, List.getElem_cons_zero, List.setIfInBounds_toArray, List.set_cons_zero, List.set_cons_succ])
            refine wpAnyH_take (i := 8) (oi := _) (v := ?_) rfl (by kernel_rfl) (by kernel_rfl) (by kernel_rfl) (fun _ _ _ h => h) (Or.inl ⟨by rfl, ?_⟩) (by assumption) ?_
            rotate_left
            · intro w0 hS0; (try simp only [List.getElem_toArray, List.getElem_cons_succ, List.getElem_cons_zero]); go_simp; (try with_reducible rfl)
            (try simp only [Act.put, List.getElem_toArray, List.getElem_cons_succ, List.getElem_cons_zero, List.setIfInBounds_toArray, List.set_cons_zero, List.set_cons_succ])
            refine wpAnyH_ready (rs := [0]) (by kernel_rfl) (by simp) ?_
            refine AllReadyH.cons (o := _) rfl (fun K hK => ?_) AllReadyH.nil
            (try rw [if_pos (by rfl)])
            (try simp only [List.getElem_toArray, List.getElem_cons_succ, List.getElem_cons_zero])
            go_simp
            refine hK.out _ _ (hHeld) (fun hHeld => ?_)
            clear hK K
            (try simp only [Act.put, List.getElem_toArray, List.getElem_cons_succ, List.getElem_cons_zero, List.setIfInBounds_toArray, List.set_cons_zero, List.set_cons_succ])
            refine wpAnyH_ready (rs := [4]) (by kernel_rfl) (by simp) ?_
            refine AllReadyH.cons (o := _) rfl (fun K hK => ?_) AllReadyH.nil
            refine step_appB rfl (.tmp 139) (.tmp 142) rfl X2.heap.size (.slice (some ⟨X2.heap.size, 0, none⟩) 0 0) (.slice (some ⟨gm, 0, none⟩) k cm) 0 [] (ms.take k) rfl rfl (own_new X2.drew) hr1 (by omega) (by simp) ?_
            intro v9 X3 ho9 hb9
            have hB9 := (below_new X2 5).trans (hb9.mono (by simp))
            have Hb9 := Lib.hid hB9
            clear hb9 hB9
            refine hK.out _ _ (hHeld) (fun hHeld => ?_)
            clear hK K
            (try simp only [Act.put, List.getElem_toArray, List.getElem_cons_succ, List.getElem_cons_zero, List.setIfInBounds_toArray, List.set_cons_zero, List.set_cons_succ])
            refine wpAnyH_ready (rs := [9]) (by kernel_rfl) (by simp) ?_
            refine AllReadyH.cons (o := _) rfl (fun K hK => ?_) AllReadyH.nil
            refine step_appB rfl (.tmp 143) (.tmp 147) rfl X2.heap.size v9 (.slice (if cm = k + 1 then some ⟨gm, 0, none⟩ else some ⟨gm, k + 1, none⟩) (nh - (k + 1)) (cm - (k + 1))) _ _ (ms.drop (k + 1)) rfl rfl ho9 (Ht.out _ Hb9.out) (by omega) Hb9.out.size ?_
            intro v10 X4 ho10 hb10
            have hB10 := Hb9.out.trans hb10
            have ho10' := own_toB (m := (ms.take k ++ ms.drop (k + 1)).length) ho10 (by rw [(cut_len ms hml hkn).2.2]; omega) (l' := ms.take k ++ ms.drop (k + 1)) rfl
            have hA10 := HA8.out.marksNew hB10 ho10'
            rw [(cut_len ms hml hkn).2.2] at ho10'
            obtain ⟨a10, c10, rfl, _⟩ := own_sl ho10'
            have HA10 := Lib.hid hA10
            clear ho9 ho10 ho10' hA10 hB10 hb10 hr1 hln hcap hkc hc0
            refine hK.out _ _ (hHeld) (fun hHeld => ?_)
            clear hK K
            (try simp only [Act.put, List.getElem_toArray, List.getElem_cons_succ, List.getElem_cons_zero, List.setIfInBounds_toArray, List.set_cons_zero, List.set_cons_succ])
            refine wpAnyH_take (i := 10) (oi := _) (v := ?_) rfl (by kernel_rfl) (by kernel_rfl) (by kernel_rfl) (fun _ _ _ h => h) (Or.inl ⟨by rfl, ?_⟩) (by assumption) ?_
            rotate_left
            · intro w0 hS0; (try simp only [List.getElem_toArray, List.getElem_cons_succ, List.getElem_cons_zero]); go_simp; (try with_reducible rfl)
            (try simp only [Act.put, List.getElem_toArray, List.getElem_cons_succ, List.getElem_cons_zero, List.setIfInBounds_toArray, List.set_cons_zero, List.set_cons_succ])
            refine wpAnyH_done (by kernel_rfl) ?_ _
            clear Ht Hb9 HA8
            generalize (if cm = k + 1 then (some ⟨gm, 0, none⟩ : Option Addr) else some ⟨gm, k + 1, none⟩) = A10
            go_wp2_with (fail)
            refine ⟨⟨j + 1, Y6, _, _, _, a8, a10, nh - 1, c8, c10, by omega, by omega, congrArg _ (by omega), rfl, rfl, by omega, Hl8, Lib.hid (HA10.out.more (by omega) (by omega)), HI6, Lib.hid ⟨Hff.out.S.trans HP.out.1, Hff.out.sz.trans HP.out.2.1, by rw [Hff.out.ow]; exact HP.out.2.2⟩⟩, ?_⟩
            simp only [intOf]
            omega
          · go_upto_region 19 with (fail)
            go_cut [106] from 100 to 106 (fun s106 wx => wr = wx ∧ s106 = .bool false)
            case first =>
              by_cases hx0 : x < 0
              · go_wp2_with (fail)
                go_meet
                case rel => exact ⟨rfl, congrArg _ (decide_eq_false (by omega))⟩
              · go_wp2_with (fail)
                go_meet
                case rel => exact ⟨rfl, rfl⟩
            case rest =>
            obtain ⟨rfl, rfl⟩ := hcut
            clear hneg
            go_upto_if 150 with (fail)
            go_cut [17] from 149 to 153 (fun s17 wx => wr = wx ∧ ∃ y : Int, s17 = .int .i64 y ∧ 0 ≤ y ∧ y ≤ 9223372036854775807)
            case first =>
              by_cases hx0 : x < 0
              · go_wp2_with (fail)
                go_meet
                case rel => exact ⟨rfl, _, rfl, by omega, by omega⟩
              · go_wp2_with (fail)
                go_meet
                case rel => exact ⟨rfl, x, rfl, by omega, by omega⟩
            case rest =>
            obtain ⟨rfl, y, rfl, hy0, hy1⟩ := hcut
            clear hx hc
            obtain ⟨cl, hcl, hcln⟩ : ∃ k : Nat, y.tmod (nz : Int) = k ∧ k < nz := tmod_nat hy0 (by omega)
            have hsz : π.sz.length = nz := by rw [HP.out.2.1]; exact HNz.out
            rcases alOk_two (π := π) (c := cl) (by rw [hsz]; exact hcln) with hok | hok
            · obtain ⟨p, i, hf⟩ := alF_of HA.out.sf.wf (by omega) hok
              obtain ⟨hI5, hnd⟩ := HI.out.alloc HA.out.sf.wf hf
              obtain ⟨d, hd⟩ : ∃ d, p * 4096 + i = d := ⟨_, rfl⟩
              have Hf := Lib.hid hf
              have HI5 := Lib.hid hI5
              have hr : alC π (cl : Int) = (d : Int) ∧ alOk π (cl : Int) = (0 : Nat) := ⟨by rw [hf.ch, hd], hok⟩
              rw [hd] at hnd
              have Hnd := Lib.hid hnd
              have Hd := Lib.hid hd
              clear hf hI5 hnd hd
              go_wp2_with (fail)
              refine (alloc_f HA.out.sf (cl : Int) (by omega) hr).mono ?_
              rintro e w5 ⟨rfl, hN5⟩
              obtain ⟨Y5, hA5⟩ := HA.out.nx hN5
              have HA5 := Lib.hid hA5
              clear hN5 hA5 HA hr hok
              obtain ⟨π5, hπ5⟩ : ∃ π5, alS π (cl : Int) = π5 := ⟨_, rfl⟩
              have hsz5 := alF_size HA5.out.sf.wf Hf.out
              rw [Hd.out, hπ5, ← hπ5, Hf.out.sz, HP.out.2.1, hπ5] at hsz5
              have HP5 : Hid (π5.S = S ∧ π5.sz = zs ∧ π5.ow.length = 3) := Lib.hid (by rw [← hπ5]; exact ⟨Hf.out.S.trans HP.out.1, Hf.out.sz.trans HP.out.2.1, Hf.out.len.trans HP.out.2.2⟩)
              rw [hπ5] at HA5 HI5
              clear hπ5 Hf Hd HP HI
              have hfn := fits_nat HA5.out.sf.wf hsz5.2
              have hd12 := held_le HA5.out.sf.wf HP5.out.2.2 hsz5.2
              obtain ⟨z, hz⟩ : ∃ z, zOf π5 d = z := ⟨_, rfl⟩
              rw [hz] at hsz5 hfn
              have hz64 : 64 ≤ z ∧ z ≤ 2048 := ⟨hfn.2.2.2.2.2.2.1, by have := hfn.2.2.2.2.2.1; rw [HP5.out.1] at this; omega⟩
              have Hz := Lib.hid hz
              have Hwh := Lib.hid hfn.2.2.1
              have Hu5 := Lib.hid hsz5.2
              have Hzs := Lib.hid hsz5.1
              clear hfn hsz5 hz
              obtain ⟨pp, hpp⟩ : ∃ pp, whP π5 (d : Int) = pp := ⟨_, rfl⟩
              obtain ⟨aa, haa⟩ : ∃ aa, whA π5 (d : Int) = aa := ⟨_, rfl⟩
              have HW := Lib.hid (where_f HA5.out.sf (d : Int) (by omega) ⟨hpp, haa, Hwh.out⟩)
              clear hpp haa Hwh
              go_wp2_with (fail)
              go_loopw [21] (fun s21 wx => w5 = wx ∧ ∃ t : Nat, s21 = .int .i64 t ∧ t ≤ nh) (fun s21 _ => nh - (intOf s21).toNat)
              case atStart => exact ⟨rfl, 0, rfl, by omega⟩
              case round =>
                obtain ⟨rfl, t, rfl, ht⟩ := hrel
                by_cases hlt2 : t < nh
                · have ho := HA5.out.h
                  rw [HL.out] at ho
                  obtain ⟨gh, hch, he, _, hgw⟩ := ho.form (by omega)
                  simp only [Value.slice.injEq] at he
                  obtain ⟨rfl, _, rfl⟩ := he
                  have kc : w5.cell? ⟨gh, t, none⟩ = some (.int .i64 ((hs[t]?.getD 0 : Nat) : Int)) := by have := own_int ho t hlt2; rwa [asI_at] at this
                  have hne : ¬ hs[t]?.getD 0 = d := fun e => Hnd.out (e ▸ mem_at (by rw [HL.out]; exact hlt2))
                  generalize hs[t]?.getD 0 = c at *
                  clear ho
                  go_wp2_with (fail)
                  go_roundw
                  case rel => exact ⟨trivial, t + 1, congrArg _ (by omega), by omega⟩
                  case measure => simp only [intOf]; omega
                · go_wp2_with (fail)
                  refine HW.out.mono ?_
                  rintro e w6 ⟨rfl, n6, e6⟩
                  have hA6 : AW w Y5 sb zs (.slice (some ⟨zg, 0, none⟩) nz zc) w6 π5 (4000 * j + 2000) hs (.slice ah nh ch) ms (.slice am nh cm) := by
                    rw [e6]; exact HA5.out.below (below_drewN (Below.refl _ w5) n6)
                  have HA6 := Lib.hid hA6
                  clear e6 hA6 HW HA5
                  obtain ⟨i0, hi0, hz0, hz1, hz2⟩ := info_parts Try.infoB
                  go_wp2_with (at_make; go_must (refine wpList_make_full w6 rfl _ _ 46 rfl w6.heap.size 5 i0 (.int .u8 0) 1 Try.underlying46 hi0 hz0 hz1 _ _ _ _ z rfl rfl rfl rfl (by rw [hz2]; omega) (by unfold maxLen; omega) (Nat.le_refl _) ?_); intro w7 ho7 hg7)
                  have HF7 : Hid (FB w6 w7 w6.heap.size z 0 (j : Int)) := Lib.hid (FB.made ho7 hg7)
                  have hw8 : IntKind.u8.wrap (j : Int) = (j : Int) := by unfold IntKind.wrap; simp [IntKind.signed, IntKind.bits]; omega
                  generalize w6.heap.size = g7 at *
                  clear ho7 hg7 i0 hi0 hz0 hz1 hz2
                  go_loopw [26] (fun s26 wx => ∃ q : Nat, s26 = .int .i64 q ∧ q ≤ z ∧ Hid (FB w6 wx g7 z q (j : Int))) (fun s26 _ => z - (intOf s26).toNat)
                  case atStart => exact ⟨0, rfl, by omega, HF7⟩
                  case round =>
                    clear HF7
                    obtain ⟨q, rfl, hq, HF⟩ := hrel
                    by_cases hlt3 : q < z
                    · have kc := own_byte HF.out.own q hlt3
                      have kf := HF.out.own.frozenAt q
                      have HF2 := Lib.hid (HF.out.set hlt3)
                      generalize (List.replicate q (j : Int) ++ List.replicate (z - q) 0)[q]?.getD 0 = old at kc
                      clear HF
                      go_wp2_with (fail)
                      go_roundw
                      case rel => exact ⟨q + 1, congrArg _ (by omega), by omega, HF2⟩
                      case measure => simp only [intOf]; omega
                    · have htz : q = z := by omega
                      rw [htz] at HF
                      have HA7 := Lib.hid (HA6.out.below HF.out.be)
                      have kz : wr.cell? ⟨zg, cl, none⟩ = some (.int .i64 (z : Nat)) := by
                        have := own_int (HA7.out.zcap HNz.out) cl hcln
                        rwa [Hzs.out] at this
                      have hpf := pt_facts HA7.out.sf.wf Hu5.out (List.replicate z (j : Int)) (by rw [Hz.out]; simp)
                      have hpi := HI5.out.put HA7.out.sf.wf Hu5.out Hnd.out (j : Int)
                      rw [Hz.out] at hpi
                      have hok := hpf.1
                      rw [List.length_replicate] at hok
                      have HPT := Lib.hid (put_f HA7.out.sf (d : Int) (by omega) (some ⟨g7, 0, none⟩) z z (List.replicate z (j : Int)) (by simp) (by omega) (by have h1 := HI5.out.bl; rw [HP5.out.2.2, HP5.out.1] at h1; omega) (fun w' ht => HF.out.rb HA6.out.sf.ylt ht) hok)
                      have HP8 : Hid ((ptS π5 (d : Int) (List.replicate z (j : Int))).S = S ∧ (ptS π5 (d : Int) (List.replicate z (j : Int))).sz = zs ∧ (ptS π5 (d : Int) (List.replicate z (j : Int))).ow.length = 3) := Lib.hid (by rw [hpf.2.2.1]; exact HP5.out)
                      have HI8 := Lib.hid hpi
                      clear htz hpf hpi hok
                      generalize ptS π5 (d : Int) (List.replicate z (j : Int)) = π8 at *
                      go_wp2_with (fail)
                      refine HPT.out.mono ?_
                      rintro e w8 ⟨rfl, hN8⟩
                      obtain ⟨Y8, hA8⟩ := HA7.out.nx hN8
                      have HA8 := Lib.hid hA8
                      clear hN8 hA8 HPT HA7 HF HA6
                      obtain ⟨i0, hi0, hz0, hz1, hz2⟩ := info_parts intE_info
                      obtain ⟨i1, hi1, hy0, hy1, hy2⟩ := info_parts Try.infoB
                      have hml : ms.length = nh := HI5.out.ln.symm.trans HL.out
                      have hX9 : Below w8.heap.size w8 (w8.alloc (.cells #[.int .i64 (d : Int)] 3)) := (Below.refl _ w8).alloc (Nat.le_refl _) _
                      have ho9 := (HA8.out.below hX9).hcap HL.out
                      go_upto_region 45 with (at_builtin; go_must (refine wpList_append_lies (w8.alloc (.cells #[.int .i64 (d : Int)] 3)) rfl (.tmp 214) (.tmp 216) 22 rfl 0 3 i0 (.int .i64 0) 1 8 Try.underlying22 hi0 hz0 hz1 hz2 rfl (by decide) (.slice ah nh ch) nh _ rfl ho9 ⟨w8.heap.size, 0, none⟩ 1 1 [.int .i64 (d : Int)] rfl rfl (World.news_of_block (World.alloc_heap_new w8 _)) (by simp [Value.oneCell']) (by omega) (by unfold maxLen; omega) (by omega) (by simp) _ rfl ?_); intro gh' ch' w9 how9 hgr9 hat9 hlt9)
                      have hA9 := HA8.out.heldPush hX9 hgr9 how9 HL.out hat9 rfl
                      have HA9 := Lib.hid hA9
                      clear hX9 ho9 hgr9 how9 hat9 hlt9 hA9 HA8
                      have hX10 : Below w9.heap.size w9 (w9.alloc (.cells #[.int .u8 (j : Int)] 5)) := (Below.refl _ w9).alloc (Nat.le_refl _) _
                      have ho10 := (HA9.out.below hX10).mcap hml
                      go_wp2_with (at_builtin; go_must (refine wpList_append_lies (w9.alloc (.cells #[.int .u8 (j : Int)] 5)) rfl (.tmp 218) (.tmp 221) 46 rfl 0 5 i1 (.int .u8 0) 1 1 Try.underlying46 hi1 hy0 hy1 hy2 rfl (by decide) (.slice am nh cm) nh _ rfl ho10 ⟨w9.heap.size, 0, none⟩ 1 1 [.int .u8 (j : Int)] rfl rfl (World.news_of_block (World.alloc_heap_new w9 _)) (by simp [Value.oneCell']) (by omega) (by unfold maxLen; omega) (by omega) (by simp) _ rfl ?_); intro gm' cm' w10 how10 hgr10 hat10 hlt10)
                      have hA10 := HA9.out.marksPush hX10 hgr10 how10 hml hat10 rfl
                      have hll : (hs ++ [d]).length = nh + 1 := by rw [List.length_append, HL.out]; rfl
                      refine ⟨⟨j + 1, Y8, π8, hs ++ [d], ms ++ [(j : Int)], some ⟨gh', 0, none⟩, some ⟨gm', 0, none⟩, nh + 1, ch', cm', by omega, by omega, congrArg _ (by omega), rfl, rfl, by omega, Lib.hid hll, Lib.hid (hA10.more (by omega) (by omega)), HI8, HP8⟩, ?_⟩
                      simp only [intOf]
                      omega
            · go_wp2_with (fail)
              refine (alloc_f HA.out.sf (cl : Int) (by omega) ⟨rfl, hok⟩).mono ?_
              rintro e w5 ⟨rfl, hN5⟩
              rw [alS_no (by omega)] at hN5
              obtain ⟨Y5, hA5⟩ := HA.out.nx hN5
              have HA5 := Lib.hid hA5
              clear hN5 hA5 HA
              generalize alC π (cl : Int) = r5
              go_wp2_with (fail)
              refine ⟨⟨j + 1, Y5, π, hs, ms, ah, am, nh, ch, cm, by omega, by omega, congrArg _ (by omega), rfl, rfl, by omega, HL, Lib.hid (HA5.out.more (by omega) (by omega)), HI, HP⟩, ?_⟩
              simp only [intOf]
              omega
        · have hj100' : ¬ ((j : Int) < 100) := by omega
          go_wp2_with (fail)
          go_meet
          case rel => exact ⟨Y, π, hs, ms, ah, am, nh, ch, cm, rfl, rfl, by omega, HL, Lib.hid (HA.out.more (by omega) (by omega)), HI, HP⟩
      · go_wp2_with (fail)
        go_meet
        case rel => exact ⟨Y, π, hs, ms, ah, am, nh, ch, cm, rfl, rfl, by omega, HL, Lib.hid (HA.out.more (by omega) (by omega)), HI, HP⟩
  case rest =>
    clear HAW HI0 HP0 π0 Y
    obtain ⟨Y, π, hs, ms, ah, am, nh, ch, cm, rfl, rfl, hnh, HL, HA, HI, HP⟩ := hcut
    go_wp2_with (fail)
    go_loopw [27] (fun s27 wx => ∃ (q : Nat) (Y : Nat → Prop) (π : Pi), q ≤ nh ∧ s27 = .int .i64 q ∧ Hid (AW w Y sb zs (.slice (some ⟨zg, 0, none⟩) nz zc) wx π 1000000 hs (.slice ah nh ch) ms (.slice am nh cm)) ∧ Hid (ApI π hs ms) ∧ Hid (π.S = S ∧ π.sz = zs ∧ π.ow.length = 3)) (fun s27 _ => nh - (intOf s27).toNat)
    case atStart => exact ⟨0, Y, π, by omega, rfl, HA, HI, HP⟩
    case round =>
      clear HA HI HP π Y
      obtain ⟨q, Y, π, hq, rfl, HA, HI, HP⟩ := hrel
      by_cases hlt : q < nh
      · have hml : ms.length = nh := HI.out.ln.symm.trans HL.out
        have ho := HA.out.hcap HL.out
        have hmm := HA.out.mcap hml
        obtain ⟨gh, hch, he, _, hgw⟩ := ho.form (by omega)
        simp only [Value.slice.injEq] at he
        obtain ⟨rfl, _, rfl⟩ := he
        obtain ⟨gm, hcm, he, _, hgm⟩ := hmm.form (by omega)
        simp only [Value.slice.injEq] at he
        obtain ⟨rfl, _, rfl⟩ := he
        have hqh : q < hs.length := by rw [HL.out]; exact hlt
        have hus := HI.out.us _ (mem_at hqh)
        have hct := HI.out.ct q hqh
        obtain ⟨c, hcd⟩ : ∃ c, hs[q]?.getD 0 = c := ⟨_, rfl⟩
        obtain ⟨m, hmd⟩ : ∃ m, ms[q]?.getD 0 = m := ⟨_, rfl⟩
        rw [hcd] at hus hct
        rw [hmd] at hct
        have hfn := fits_nat HA.out.sf.wf hus
        have hgf := gt_facts HA.out.sf.wf hus
        have hig := HI.out.get HA.out.sf.wf hus
        have hc12 := held_le HA.out.sf.wf HP.out.2.2 hus
        obtain ⟨z, hz⟩ : ∃ z, zOf π c = z := ⟨_, rfl⟩
        have hct2 : ∀ (t : Nat), t < z → (gtL π (c : Int) z)[t]?.getD 0 = m := fun t ht => by
          have h1 := hgf.2.2.2.2.2 t (by rw [hz]; exact ht)
          rw [hz] at h1
          rw [h1]
          exact hct t (by rw [hz]; exact ht)
        rw [hz] at hfn hgf hig
        have hz64 : 64 ≤ z ∧ z ≤ 2048 := ⟨hfn.2.2.2.2.2.2.1, by have := hfn.2.2.2.2.2.1; rw [HP.out.1] at this; omega⟩
        obtain ⟨pp, hpp⟩ : ∃ pp, whP π (c : Int) = pp := ⟨_, rfl⟩
        obtain ⟨aa, haa⟩ : ∃ aa, whA π (c : Int) = aa := ⟨_, rfl⟩
        have HW := Lib.hid (where_f HA.out.sf (c : Int) (by omega) ⟨hpp, haa, hfn.2.2.1⟩)
        have HCq := Lib.hid hcd
        have HMq := Lib.hid hmd
        have kc : wr.cell? ⟨gh, q, none⟩ = some (.int .i64 (c : Int)) := by
          have := own_int ho q hlt
          rwa [asI_at, hcd] at this
        have HG := Lib.hid hgf
        have Hc2 := Lib.hid hct2
        have HIG := Lib.hid hig.1
        clear hgf hct2 hig hct hfn hz hpp haa hcd hmd hus ho hmm
        go_wp2_with (fail)
        refine HW.out.mono ?_
        rintro e w6 ⟨rfl, n6, e6⟩
        have hA6 : AW w Y sb zs (.slice (some ⟨zg, 0, none⟩) nz zc) w6 π 1000000 hs (.slice (some ⟨gh, 0, none⟩) nh ch) ms (.slice (some ⟨gm, 0, none⟩) nh cm) := by
          rw [e6]; exact HA.out.below (below_drewN (Below.refl _ wr) n6)
        have k6 : w6.cell? ⟨gh, q, none⟩ = some (.int .i64 (c : Int)) := by
          have := own_int (hA6.hcap HL.out) q hlt
          rwa [asI_at, HCq.out] at this
        have HA6 := Lib.hid hA6
        clear e6 hA6 HW HA kc
        go_wp2_with (fail)
        refine (get_f HA6.out.sf (c : Int) (z : Int) (by omega) (by omega) (by omega) (by have h1 := HI.out.bl; rw [HP.out.2.2, HP.out.1] at h1; omega) HG.out.1 rfl).mono ?_
        rintro e w7 ⟨v7, B7, Y7, rfl, hB7, hov, hSf, hT7, hy7, hlt7⟩
        rw [HG.out.2.2.2.2.1] at hov
        obtain ⟨gb, cb, rfl, hgb, hgbl⟩ := hov.form (by omega)
        have hA7 := HA6.out.step hSf hT7 hy7
        have HP7 : Hid ((gtS π (c : Int) z).S = S ∧ (gtS π (c : Int) z).sz = zs ∧ (gtS π (c : Int) z).ow.length = 3) := Lib.hid (by rw [HG.out.2.1]; exact HP.out)
        have HA7 := Lib.hid hA7
        have Hov := Lib.hid hov
        generalize gtS π (c : Int) z = π7 at *
        generalize gtL π (c : Int) z = l7 at *
        clear hB7 hov hSf hT7 hy7 hlt7 hgb hgbl hA7 HA6 k6
        go_wp2_with (fail)
        go_loopw [33] (fun s33 wx => ∃ t : Nat, s33 = .int .i64 t ∧ t ≤ z ∧ Hid (Below w7.heap.size w7 wx)) (fun s33 _ => z - (intOf s33).toNat)
        case atStart => exact ⟨0, rfl, by omega, Lib.hid (Below.refl _ _)⟩
        case round =>
          obtain ⟨t, rfl, ht, HB⟩ := hrel
          by_cases hlt2 : t < z
          · have kb : wr.drew.cell? ⟨gb, t, none⟩ = some (.int .u8 m) := by
              have := own_byte (own_belowB Hov.out HB.out) t hlt2
              rwa [Hc2.out t hlt2] at this
            have km : wr.drew.cell? ⟨gm, q, none⟩ = some (.int .u8 m) := by
              have := own_byte ((HA7.out.below HB.out).mcap hml) q hlt
              rwa [HMq.out] at this
            go_wp2_with (fail)
            go_region
            go_wp2_with (fail)
            go_roundw
            case rel => exact ⟨t + 1, congrArg _ (by omega), by omega, Lib.hid (HB.out.drew)⟩
            case measure => simp only [intOf]; omega
          · go_wp2_with (fail)
            go_roundw
            case rel => exact ⟨q + 1, Y7, π7, by omega, congrArg _ (by omega), Lib.hid (HA7.out.below HB.out), HIG, HP7⟩
            case measure => simp only [intOf]; omega
      · go_wp2_with (fail)
        go_ret
        exact ⟨rfl, HA.out.be⟩
end Go.Proofs.Ytfmgncajhjkdlaa
