/- Tcc. -/
import Derived.Test.YtboehbfagnocpaaGreatDoorUbw
set_option linter.unusedVariables false
set_option linter.unusedSimpArgs false
set_option maxRecDepth 100000
open Go.Proofs.Tryz
open Go.Lib (hid)
namespace Go.Proofs.YtboehbfagnocpaaGreatDoor
open Go.RowKit Go.PlainAid Go.Shelf
open SP
open PM (Cd An Sd Vl upd upd_same upd_ne)
section
variable {h : Int} {bk ns : Nat}
theorem RI.below2 {w w1 : World} {v : Value} {l : List Int} (h : RI w v l) (hb : Below w.heap.size w w1) : RI w1 v l := by
  obtain ⟨a, cap, e, hc⟩ := h
  refine ⟨a, cap, e, fun hne => ?_⟩
  obtain ⟨b, o, e1, e2⟩ := hc hne
  exact ⟨b, o, e1, fun i hi => (hb.cell (p := ⟨b, o + i, none⟩) (cell_lt (e2 i hi))).trans (e2 i hi)⟩
def SatN (h : Int) (bk ns : Nat) (p : Pl) (w : World) (N : Nat) (t : Mac) (w' : World) : Prop := Sat kn h bk 4 ns 4 p PM.ini w N t w'
theorem TbS.of_made {p : Pl} {w w1 w2 : World} (hT : Tab w) (hb : Below w.heap.size w w1) (hm : Made (svR kn h bk 4 ns 4 p PM.ini) w1 w2) : TbS kn h bk 4 ns 4 p PM.ini w2 :=
  ⟨(hT.below hb).below hm.bel, fun b hb' hx => by have := tab_lt (hT.below hb) hb'; have := hm.lo b hx; omega⟩
theorem TbS.sat {p : Pl} {w2 w3 : World} {N : Nat} {t : Mac} (h1 : TbS kn h bk 4 ns 4 p PM.ini w2) (hs : SatN h bk ns p w2 N t w3) : Tab w3 := by
  obtain ⟨p', _, _, _, ht⟩ := hs
  exact (h1.turn ht).1
set_option maxHeartbeats 2000000 in
theorem counts_walk (hk : KeyI kn h bk) (hns : ns = 4 ∨ ns = 1) (hDo : DoAll kn h bk 4 ns 4)
    (HWo : ∀ w, Calls prog 8 #[] w fun e w' => e = .returned (.bool true) ∧ Below w.heap.size w w')
    (HTo : ∀ w, Calls prog 26 #[.int .i64 4, .int .i64 4, .int .i64 1, .int .i64 0] w fun e w' => ∃ p : Pl, e = .returned (.pointer (some ⟨p.b, 0, none⟩)) ∧ StoOk kn p.m PM.sd0 ∧ p.m.ps.num = 0 ∧ Made (svR kn h bk 4 ns 4 p PM.ini) w w')
    {w : World} {a : Option Addr} {n cap d : Nat} {nn : Int} {l : List Int} (hp : RI w (.slice a n cap) l) (hl : l.length = n) (hd : d < 18446744073709551616) (hT : Tab w) :
    Calls prog 6 #[.int .i64 nn, .slice a n cap, .int .u64 d] w fun e w' => e = .returned (.bool true) ∧ Below w.heap.size w w' := by
  obtain ⟨k7, hk7, hnn⟩ := andN7 nn
  obtain ⟨m, hm⟩ : ∃ m, k7 + 1 = m := ⟨_, rfl⟩
  have hm8 : m ≤ 8 := by omega
  have hm1 : 1 ≤ m := by omega
  have HW0 := hid HWo
  have HT0 := hid HTo
  have HTS : Hid (∀ (p : Pl) (w1 w2 : World), Below w.heap.size w w1 → Made (svR kn h bk 4 ns 4 p PM.ini) w1 w2 → TbS kn h bk 4 ns 4 p PM.ini w2) := hid (fun p w1 w2 hb hm => TbS.of_made hT hb hm)
  have HF1 : Hid (∀ (p : Pl) (w2 w3 : World), SatN h bk ns p w2 0 PM.ini w3 → Calls prog 12 #[.pointer (some ⟨p.b, 0, none⟩), .int .i64 0, .string ⟨#[115, 101, 116, 32, 110, 32, 48, 32, 48, 32, 49, 13, 10, 48, 13, 10]⟩] w3 fun e w4 => e = .returned (.int .i64 16) ∧ SatN h bk ns p w2 4 PM.d1 w4) :=
    hid (fun p w2 w3 hs => Sat.feed (c := 0) (x := .set 0 PM.nV) hs (by decide) set_text_n (by decide))
  have HA1 : Hid (∀ (p : Pl) (w2 w3 : World), SatN h bk ns p w2 4 PM.d1 w3 → Calls prog 13 #[.pointer (some ⟨p.b, 0, none⟩), .int .i64 0] w3 fun e w4 => e = .returned (.string ⟨#[83, 84, 79, 82, 69, 68, 13, 10]⟩) ∧ SatN h bk ns p w2 4 PM.d2 w4) :=
    hid (fun p w2 w3 hs => all_ok (c := 0) (x := .set 0 PM.nV) hk hns hDo hs (fun j => j.elim) wj_d1 (by decide) (by decide) (by decide) (by decide) PM.idle_d1 rfl rfl (fun _ => ⟨_, _, rfl⟩) set_told_n (by decide))
  have HF2 : Hid (∀ (p : Pl) (w2 w3 : World) (c i : Nat), c < 4 → i < m → SatN h bk ns p w2 (4 + 4 * (m * c) + 4 * i) (PM.d3 m d c i) w3 → Calls prog 12 #[.pointer (some ⟨p.b, 0, none⟩), .int .i64 c, .string (⟨#[105, 110, 99, 114, 32, 110, 32]⟩ ++ dec d ++ ⟨#[13, 10]⟩)] w3 fun e w4 => (∃ v, e = .returned (.int .i64 v)) ∧ SatN h bk ns p w2 (4 + 4 * (m * c) + 4 * (i + 1)) (PM.d3 m d c (i + 1)) w4) :=
    hid (fun p w2 w3 c i hc hi hs => (Sat.feed (c := c) (x := .incr d) hs hc (incr_text_n d) (by
      have e1 : (PM.d3 m d c i).q c = List.replicate i (.incr d) := by
        show PM.dq m d c i c = _
        unfold PM.dq
        rw [if_neg (by omega), if_pos rfl]
      have e2 := txS_size (key := kn) rfl (l := (PM.d3 m d c i).q c) (fun x hx => by rw [e1] at hx; rw [(List.mem_replicate.1 hx).2]; exact hd)
      have e3 := txC_size (key := kn) rfl (x := .incr d) hd
      rw [incr_text_n] at e3
      have e4 : ((PM.d3 m d c i).q c).length = i := by rw [e1, List.length_replicate]
      omega)).mono (fun e w4 hh => ⟨⟨_, hh.1⟩, by rw [← PM.d3_succ]; exact hh.2⟩))
  have HPi : Hid (∀ (p : Pl) (w1 w2 w3 : World), Below w.heap.size w w1 → Made (svR kn h bk 4 ns 4 p PM.ini) w1 w2 → SatN h bk ns p w2 (4 + 4 * (m * 4)) (PM.d3 m d 4 0) w3 → Calls prog 28 #[.pointer (some ⟨p.b, 0, none⟩), .slice a n cap, .int .i64 200] w3 fun e w4 => e = .returned (.tuple #[]) ∧ ∃ (s : Mac), PM.Idle s ∧ (∀ c, s.q c = []) ∧ s.data = ⟨some ⟨0, .num (4 * m * d % PM.two64), 1 + 4 * m, 0⟩, 1 + 4 * m⟩ ∧ Wj kn True true 4 4 (4 + 4 * (m * 4)) s ∧ SatN h bk ns p w2 (4 + 4 * (m * 4)) s w4) :=
    hid (fun p w1 w2 w3 hb hm2 hs => (picked_ok (R := 200) hk hns hDo hm2 hs (fun _ => TbS.of_made hT hb hm2) (wj_d3 hd 4 (by decide)) (by omega) (by omega) (by decide) (RI.below2 hp hb) hl).mono (fun e w4 hh => by
      obtain ⟨h1, ps, h2, h3⟩ := hh
      obtain ⟨s, g2, g3, g4, g8⟩ := PM.counts_done (m := m) (d := d) hm8 h2
      have hw : Wj kn True true 4 4 (4 + 4 * (m * 4)) (rnd (PM.works PM.stp PM.an0 (PM.d3 m d 4 0) ps) 200 0) := Wj.rounds ((wj_d3 hd 4 (by decide)).works h2)
      rw [rnd_n, g2] at h3 hw
      exact ⟨h1, s, g3, g4, g8, hw, h3⟩))
  have HF3 : Hid (∀ (p : Pl) (w2 w3 : World) (s : Mac), (∀ c, s.q c = []) → SatN h bk ns p w2 (4 + 4 * (m * 4)) s w3 → Calls prog 12 #[.pointer (some ⟨p.b, 0, none⟩), .int .i64 0, .string ⟨#[103, 101, 116, 32, 110, 13, 10]⟩] w3 fun e w4 => e = .returned (.int .i64 7) ∧ SatN h bk ns p w2 (4 + 4 * (m * 4) + 4) (wrn (PM.fd s 0 .get) 0) w4) :=
    hid (fun p w2 w3 s hq hs => by
      rw [wrn_0]
      exact Sat.feed (c := 0) (x := .get) hs (by decide) get_text_n (by rw [hq 0]; decide))
  have HWr : Hid (∀ (p : Pl) (w2 w3 : World) (s : Mac) (c : Nat), c < 4 → Wj kn True true 4 4 (4 + 4 * (m * 4)) s → SatN h bk ns p w2 (4 + 4 * (m * 4) + 4) (wrn (PM.fd s 0 .get) c) w3 → Calls prog 29 #[.pointer (some ⟨p.b, 0, none⟩), .int .i64 c, .int .i64 1048576] w3 fun e w4 => (∃ r, e = .returned (.string r)) ∧ SatN h bk ns p w2 (4 + 4 * (m * 4) + 4) (wrn (PM.fd s 0 .get) (c + 1)) w4) :=
    hid (fun p w2 w3 s c hc hW hs => by
      have ho := Wj.out (c := c) hW (by omega) rfl
      have h1 := Sat.write (c := c) (n := 1048576) hs hc (by
        rw [wrn_out (Nat.le_refl _)]
        show ((rpS kn (s.out c)).size : Int) ≤ _
        omega)
      rw [wrn_succ] at h1
      exact h1.mono (fun e w4 hh => ⟨⟨_, hh.1⟩, hh.2⟩))
  have HA2 : Hid (∀ (p : Pl) (w2 w3 : World) (s : Mac), TbS kn h bk 4 ns 4 p PM.ini w2 → PM.Idle s → (∀ c, s.q c = []) → s.data = ⟨some ⟨0, .num (4 * m * d % PM.two64), 1 + 4 * m, 0⟩, 1 + 4 * m⟩ → Wj kn True true 4 4 (4 + 4 * (m * 4)) s → SatN h bk ns p w2 (4 + 4 * (m * 4) + 4) (wrn (PM.fd s 0 .get) 4) w3 → Calls prog 13 #[.pointer (some ⟨p.b, 0, none⟩), .int .i64 0] w3 fun e w4 => e = .returned (.string (⟨#[86, 65, 76, 85, 69, 32, 110, 32, 48, 32]⟩ ++ dec (dec (4 * m * d % PM.two64)).size ++ ⟨#[13, 10]⟩ ++ dec (4 * m * d % PM.two64) ++ ⟨#[13, 10, 69, 78, 68, 13, 10]⟩)) ∧ SatN h bk ns p w2 (4 + 4 * (m * 4) + 4) (PM.allE PM.stp (wrn (PM.fd s 0 .get) 4) 0 .get) w4) :=
    hid (fun p w2 w3 s hTb hI hq hdat hW hs => by
      have hw4 : Wj kn True true 4 4 (4 + 4 * (m * 4) + 4) (wrn (PM.fd s 0 .get) 4) := by
        have h1 := ((((hW.fd (c := 0) (by decide) gC_getn).wr (c := 0)).wr (c := 1)).wr (c := 2)).wr (c := 3)
        rw [← wrn_0 (s := PM.fd s 0 .get), wrn_succ, wrn_succ, wrn_succ, wrn_succ] at h1
        exact h1
      refine all_ok (c := 0) (x := .get) hk hns hDo hs (fun _ => hTb) hw4 (by omega) (by omega) (by decide) (by decide) (wrn_idle (hI.fd _ _)) ?_ ?_ (fun hn => ?_) (get_told_n (v := 4 * m * d % PM.two64) (t := 1 + 4 * m) hdat) ?_
      · show upd s.q 0 (s.q 0 ++ [Cd.get]) 0 = [Cd.get]
        rw [upd_same, hq 0]; rfl
      · show (if 0 < 4 then [] else s.out 0) = []
        exact if_pos (by decide)
      · have hn : s.data.it = none := hn
        rw [hdat] at hn; cases hn
      · have h2 : (dec (4 * m * d % PM.two64)).size ≤ 20 := by rw [dcz]; exact nd_le (Nat.mod_lt _ (by decide))
        have h4 := dec_len 1 (dec (4 * m * d % PM.two64)).size (by omega)
        simp only [ByteArray.size_append]
        have e3 : (⟨#[86, 65, 76, 85, 69, 32, 110, 32, 48, 32]⟩ : ByteArray).size = 10 := rfl
        have e4 : (⟨#[13, 10, 69, 78, 68, 13, 10]⟩ : ByteArray).size = 7 := rfl
        have e5 : (⟨#[13, 10]⟩ : ByteArray).size = 2 := rfl
        omega)
  have HTx : Hid (∀ (v : Nat), v < 18446744073709551616 → ∀ (p : Pl) (w2 w3 : World) (N : Nat) (t : Mac), TbS kn h bk 4 ns 4 p PM.ini w2 → SatN h bk ns p w2 N t w3 → Calls prog 27 #[.int .u64 v] w3 fun e w' => e = .returned (.string (dec v)) ∧ Below w3.heap.size w3 w') := hid (fun v hv p w2 w3 N t hTb hs => text_any hv w3 (hTb.sat hs))
  have HTl : Hid (∀ v : Nat, v < 100 → ∀ w, Calls prog 27 #[.int .u64 v] w fun e w' => e = .returned (.string (dec v)) ∧ w' = w) := hid (fun v hv w => text_small hv w)
  have e0 : IntKind.i64.wrap (1 + (k7 : Int)) = m := by rw [IntKind.wrap_i64]; omega
  have e1 : IntKind.i64.wrap (4 * (m : Int)) = 4 * m := by rw [IntKind.wrap_i64]; omega
  have e2 : IntKind.u64.wrap (4 * (m : Int)) = 4 * m := by rw [IntKind.wrap_u64]; omega
  obtain ⟨vN, hvN⟩ : ∃ vN, 4 * m * d % PM.two64 = vN := ⟨_, rfl⟩
  have hv64 : vN < 18446744073709551616 := by rw [← hvN]; exact Nat.mod_lt _ (by decide)
  have e3 : IntKind.u64.wrap ((d : Int) * (4 * (m : Int))) = vN := by
    rw [IntKind.wrap_u64, ← hvN]
    have e : (d : Int) * (4 * (m : Int)) = ((4 * m * d : Nat) : Int) := by rw [Nat.mul_comm (4 * m) d]; push_cast; rfl
    rw [e]
    show ((4 * m * d : Nat) : Int) % (18446744073709551616 : Int) = ((4 * m * d % 18446744073709551616 : Nat) : Int)
    omega
  have hds : (dec d).size ≤ 20 := by rw [dcz]; exact nd_le hd
  have hvs : (dec vN).size ≤ 20 := by rw [dcz]; exact nd_le hv64
  have hms : (m : Int) ≤ 8 := by omega
  have hmp : (1 : Int) ≤ m := by omega
  rw [hvN] at HPi HA2
  have HD64 := hid (And.intro hd hv64)
  clear hp hl HWo HTo hk hns hDo hT hd hv64 hvN hk7 hm hm8 hm1
  go_enter func6, ntmps6
  go_wp2_with (first
    | (go_at_call 8; refine (HW0.out _).mono ?_; rintro e w1 ⟨rfl, hb1⟩)
    | (go_at_call 26; refine (HT0.out _).mono ?_; rintro e w2 ⟨p, rfl, ho, hn0, hm2⟩
       have HM := hid hm2
       have HTb := hid (HTS.out p _ _ hb1 hm2)
       have HS0 : Hid (SatN h bk ns p w2 0 PM.ini w2) := hid ⟨p, rfl, ho, by rw [hn0]; exact Nat.le_refl _, Turn.rfl' hm2.here⟩
       clear ho hn0 hm2)
    | (go_at_call 12; refine (HF1.out _ _ _ HS0.out).mono ?_; rintro e w3 ⟨rfl, hs1⟩; have HS1 := hid hs1; clear hs1)
    | (go_at_call 13; refine (HA1.out _ _ _ HS1.out).mono ?_; rintro e w4 ⟨rfl, hs2⟩; have HS2 := hid hs2; clear hs2))
  have HS3 : Hid (SatN h bk ns p w2 (4 + 4 * (m * 0)) (PM.d3 m d 0 0) w4) := hid (by rw [PM.d3_0]; exact HS2.out)
  clear HW0 HT0 HF1 HA1 HS0 HS1 HS2 HTS
  go_loopw [9] (fun i wr => ∃ c : Nat, c ≤ 4 ∧ i = .int .i64 c ∧ Hid (SatN h bk ns p w2 (4 + 4 * (m * c)) (PM.d3 m d c 0) wr)) (fun i _ => 4 - (intOf i).toNat)
  case atStart => exact ⟨0, by omega, rfl, HS3⟩
  case round =>
    obtain ⟨c, hc, rfl, hs⟩ := hrel
    by_cases h4 : c < 4
    · have h5 : (c : Int) < 4 := by omega
      go_wp2_with (fail)
      go_loopw [10] (fun i wr => ∃ j : Nat, j ≤ m ∧ i = .int .i64 j ∧ Hid (SatN h bk ns p w2 (4 + 4 * (m * c) + 4 * j) (PM.d3 m d c j) wr)) (fun i _ => m - (intOf i).toNat)
      case atStart => exact ⟨0, by omega, rfl, hs⟩
      case round =>
        obtain ⟨j, hj, rfl, hs⟩ := hrel
        by_cases hj2 : j < m
        · have hj3 : (j : Int) < m := by omega
          have HTc := hid (HTx.out d HD64.out.1 p w2 wr _ _ HTb.out hs.out)
          have HFc := hid (fun w3 hs => HF2.out p w2 w3 c j h4 hj2 hs)
          go_wp2_with (first
            | (go_at_call 27; refine HTc.out.mono ?_; rintro e w5 ⟨rfl, hb5⟩; have hs5 := hid (Sat.below hs.out hb5))
            | (go_at_call 12; refine (HFc.out _ hs5.out).mono ?_; rintro e w6 ⟨⟨v, rfl⟩, h1⟩; have H1 := hid h1; clear h1))
          go_roundw
          case rel => exact ⟨j + 1, by omega, by first | rfl | simp, H1⟩
          case measure => simp [intOf]; omega
        · obtain rfl : j = m := by omega
          have hs2 : Hid (SatN h bk ns p w2 (4 + 4 * (j * (c + 1))) (PM.d3 j d (c + 1) 0) wr) := hid (by
            have h6 := hs.out
            rw [PM.d3_next] at h6
            rw [show 4 + 4 * (j * (c + 1)) = 4 + 4 * (j * c) + 4 * j from by rw [Nat.mul_succ]; omega]
            exact h6)
          go_wp2_with (fail)
          go_roundw
          case rel => exact ⟨c + 1, by omega, by first | rfl | simp, hs2⟩
          case measure => simp [intOf]; omega
    · obtain rfl : c = 4 := by omega
      have HPn := hid (HPi.out p _ w2 wr hb1 HM.out hs.out)
      clear HPi HF2 HS3
      go_wp2_with (first
        | (go_at_call 28; refine HPn.out.mono ?_; rintro e w5 ⟨rfl, s, g2, g3, g5, g6, g7⟩
           have HF3n := hid (HF3.out p w2 w5 s g3 g7)
           have HG := hid (And.intro g2 (And.intro g3 (And.intro g5 g6)))
           clear g2 g3 g5 g6 g7)
        | (go_at_call 12; refine HF3n.out.mono ?_; rintro e w6 ⟨rfl, h1⟩; have HSs := hid h1; clear h1))
      have HWn := hid (fun c hc w3 hs => HWr.out p w2 w3 s c hc HG.out.2.2.2 hs)
      have HAn := hid (fun w3 hs => HA2.out p w2 w3 s HTb.out HG.out.1 HG.out.2.1 HG.out.2.2.1 HG.out.2.2.2 hs)
      clear HF3 HF3n HWr HA2 HPn
      go_loopw [11] (fun i wr => ∃ c : Nat, c ≤ 4 ∧ i = .int .i64 c ∧ Hid (SatN h bk ns p w2 (4 + 4 * (m * 4) + 4) (wrn (PM.fd s 0 .get) c) wr)) (fun i _ => 4 - (intOf i).toNat)
      case atStart => exact ⟨0, by omega, rfl, HSs⟩
      case round =>
        obtain ⟨c, hc, rfl, hs⟩ := hrel
        by_cases h4 : c < 4
        · have h5 : (c : Int) < 4 := by omega
          have HWc := hid (HWn.out c h4 wr hs.out)
          go_wp2_with (go_at_call 29; refine HWc.out.mono ?_; rintro e w6 ⟨⟨r, rfl⟩, h1⟩; have H1 := hid h1; clear h1)
          go_roundw
          case rel => exact ⟨c + 1, by omega, by first | rfl | simp, H1⟩
          case measure => simp [intOf]; omega
        · obtain rfl : c = 4 := by omega
          have HTv := hid (HTx.out vN HD64.out.2 p w2 wr _ _ HTb.out hs.out)
          have HTn := hid (HTl.out (dec vN).size (by omega))
          have hdl := dec_len 1 (dec vN).size (by omega)
          have hzz : ((dec vN).size : Int) ≤ 20 := by omega
          have ew : IntKind.u64.wrap ((dec vN).size : Int) = (dec vN).size := by rw [IntKind.wrap_u64]; omega
          go_wp2_with (fail)
          go_at_call 27
          refine HTv.out.mono ?_
          rintro e w7 ⟨rfl, hb7⟩
          have HA2n := hid (HAn.out _ (Sat.below hs.out hb7))
          go_wp2_with (first
            | (go_at_call 13; refine HA2n.out.mono ?_; rintro e w8 ⟨rfl, h1⟩; have H2 := hid h1; clear h1)
            | (go_at_call 27; refine (HTn.out _).mono ?_; rintro e w9 ⟨rfl, rfl⟩))
          go_ret
          exact ⟨by first | rfl | simp, hb1.trans ((Sat.made HM.out H2.out).mono hb1.size)⟩
end
end Go.Proofs.YtboehbfagnocpaaGreatDoor
