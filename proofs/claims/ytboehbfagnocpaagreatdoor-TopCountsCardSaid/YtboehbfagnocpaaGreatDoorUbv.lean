/- Tsd. -/
import Derived.Test.YtboehbfagnocpaaGreatDoorUbo
import Derived.Test.YtboehbfagnocpaaGreatDoorUbs
import Derived.Test.YtboehbfagnocpaaGreatDoorUbu
set_option linter.unusedVariables false
set_option linter.unusedSimpArgs false
set_option maxRecDepth 100000
open Go.Proofs.Tryz
open Go.Lib (hid)
namespace Go.Proofs.YtboehbfagnocpaaGreatDoor
open Go.RowKit Go.PlainAid Go.Shelf
open SP
open PM (Cd An Sd Vl upd upd_same upd_ne)
theorem elem_an : Elem 141 52 13 96 := ⟨underlying141, ⟨.agg #[.int .i64 0, .string ⟨#[]⟩, .int .u32 0, .string ⟨#[]⟩, .int .i64 0, .int .u64 0, .int .i64 0, .bool false, .bool false, .int .u64 0, .bool false, .bool false, .bool false], by kernel_rfl, by kernel_rfl⟩, by decide⟩
theorem count_cd {key : ByteArray} {sx : Nat} {f : Nat → Int} {sd : Sd} {x : Cd} (hd : sd.it = none → ∃ fl v, x = .set fl v) (hni : ∀ d, x = .incr d → PM.numS sd) {st : Int} (hst : ((PM.stp sd x).2.st : Int) = st) (ak : ByteArray) (afl : Int) (av : ByteArray) (aca ala num : Int) (W : World) (h : (stsR sx f).R W) :
    Calls prog 146 #[.pointer (some ⟨sx, 0, none⟩), .agg (cdM key x).vs, .agg (ansF st ak afl av aca ala num), .int .i64 0] W fun e w' => e = .returned (.tuple #[]) ∧ ∃ f', Turn (stsR sx f) (stsR sx f') W w' := by
  obtain ⟨it, tok⟩ := sd
  cases x with
  | get =>
    cases it with
    | none => obtain ⟨fl, v, e⟩ := hd rfl; cases e
    | some y =>
      have e : (1 : Int) = st := hst
      subst e
      exact count_get h rfl ak afl av aca ala num
  | set fl v =>
    have e : (2 : Int) = st := by rw [← hst]; cases it <;> rfl
    exact count_set h rfl (.inl e.symm) ak afl av aca ala num
  | cas t v =>
    cases it with
    | none => obtain ⟨fl, v, e⟩ := hd rfl; cases e
    | some y =>
      by_cases e : y.cas = t
      · have e2 : (2 : Int) = st := by rw [← hst]; simp only [PM.stp, if_pos e]; rfl
        exact count_set h rfl (.inl e2.symm) ak afl av aca ala num
      · have e2 : (4 : Int) = st := by rw [← hst]; simp only [PM.stp, if_neg e]; rfl
        exact count_set h rfl (.inr e2.symm) ak afl av aca ala num
  | incr d =>
    have e : (6 : Int) = st := by rw [← hst, (PM.stp_num (c := .incr d) (hni d rfl) trivial).2 d rfl]; rfl
    subst e
    exact count_math h rfl ak afl av aca ala num
theorem st_not12 (sd : Sd) (x : Cd) : ((((PM.stp sd x).2.st : Nat) : Int) == 12) = false := by
  obtain ⟨it, tok⟩ := sd
  cases x with
  | get => cases it <;> rfl
  | set fl v => cases it <;> rfl
  | cas t v =>
    cases it with
    | none => rfl
    | some y =>
      by_cases e : y.cas = t
      · simp only [PM.stp, if_pos e]; rfl
      · simp only [PM.stp, if_neg e]; rfl
  | incr d =>
    cases it with
    | none => rfl
    | some y =>
      obtain ⟨fl, v, ca, la⟩ := y
      cases v <;> rfl
theorem an_lit (key : ByteArray) (a : An) : ∃ ak afl av aca ala, anC key a = (ansF a.st ak afl av aca ala a.num).toList := by
  obtain ⟨st, it, num⟩ := a
  cases it with
  | none => exact ⟨⟨#[]⟩, 0, ⟨#[]⟩, 0, 0, rfl⟩
  | some y => exact ⟨key, y.fl, vlB y.v, y.cas, y.last, rfl⟩
section
variable {key : ByteArray} {h : Int} {bk nw ns nc : Nat} {p : Pl} {s s' : Mac} {w w' : World} {c : Nat}
set_option maxHeartbeats 4000000 in
theorem sdoit_ok (hk : KeyI key h bk) (hR : (svR key h bk nw ns nc p s).R w) {wi : Nat} (hw : wi < nw) {k : PM.Wk Cd An} (hkk : s.wk wi = some k) (hp : k.ph = 1)
    (ho : StoOk key p.m s.data) (hnn : p.m.ps.num ≤ 1000000) (htok : s.data.tok < 1000000) (hi : ∀ y, s.data.it = some y → PM.ItG s.data.tok y) (hx : PM.cOk k.cmd) (hd : s.data.it = none → ∃ fl v, k.cmd = .set fl v) (hni : ∀ d, k.cmd = .incr d → TbS key h bk nw ns nc p s w ∧ PM.numS s.data) (hev : s.ev.length ≤ 1000) :
    Calls prog 81 #[.pointer (some ⟨p.b, 0, none⟩), .pointer (some ⟨(p.wp wi).b, 0, none⟩)] w fun e w' =>
      e = .returned (.tuple #[]) ∧ ∃ p' : Pl, p'.b = p.b ∧ p'.m.ps.num ≤ p.m.ps.num + 1 ∧ StoOk key p'.m (PM.stp s.data k.cmd).1 ∧ Turn (svR key h bk nw ns nc p s) (svR key h bk nw ns nc p' (PM.doit PM.stp s wi k)) w w' := by
  obtain ⟨l, hl⟩ : ∃ l, p.wp wi = l := ⟨_, rfl⟩
  have HF : Hid (∀ w', Below w.heap.size w w' → Hav (many (wkL key l k)).B w' (wkL key l k) w') := hid (fun w' hb => by rw [← hl]; exact sv_wk (sv_keep hR hb) hw hkk)
  obtain ⟨c, hc⟩ : ∃ c, cdM key k.cmd = c := ⟨_, rfl⟩
  have HC : Hid (∀ w', Below w.heap.size w w' → ∀ j u, c.vs.toList[j]? = some u → w'.cell? ⟨l.cb, j, none⟩ = some u) := hid (fun w' hb j u hj => by
    have h1 := (HF.out w' hb).get 1 rfl
    rw [hc] at h1
    rw [row_at h1 j (List.getElem?_eq_some_iff.1 hj).1]; exact hj)
  have HDo := hid (fun (W : World) (hTW : ∀ d, k.cmd = .incr d → Tab W) (hW : (stoR key h bk p.m s.data).R W) => sdo_ok hk hW ho hnn htok hi hx hd (fun d e => ⟨hTW d e, fun g hg hx => (hni d e).1.2 g hg ⟨_, List.mem_of_getElem? (show (svL key h bk nw ns nc p s)[5]? = some (stoR key h bk p.m s.data) from rfl), hx⟩, (hni d e).2⟩))
  have HTW : Hid (∀ (L : List Res) (W : World), Hav (svR key h bk nw ns nc p s).B w L W → ∀ d, k.cmd = .incr d → Tab W) := hid (fun L W J d e => (hni d e).1.hav J)
  rw [hc] at HDo
  have HCt := hid (fun (st : Int) (hst : ((PM.stp s.data k.cmd).2.st : Int) = st) (ak : ByteArray) (afl : Int) (av : ByteArray) (aca ala num : Int) (W : World) (hW : (stsR p.sx p.sn).R W) => count_cd (key := key) hd (fun d e => (hni d e).2) hst ak afl av aca ala num W hW)
  rw [hc] at HCt
  obtain ⟨op, mode, ckey, value, flags, exp, tok, hasCas, delta, recache⟩ := c
  have HS : Hid (∀ w', Below w.heap.size w w' → w'.cell? ⟨l.b, 1, none⟩ = some (.slice (some ⟨l.cb, 0, none⟩) 1 l.cc) ∧ w'.cell? ⟨l.b, 13, none⟩ = some (.int .i64 0) ∧ w'.cell? ⟨l.cb, 0, none⟩ = some (.int .i64 op) ∧ w'.cell? ⟨l.cb, 1, none⟩ = some (.int .i64 mode) ∧ w'.cell? ⟨l.cb, 2, none⟩ = some (.string ckey) ∧ w'.cell? ⟨l.cb, 3, none⟩ = some (.string value) ∧ w'.cell? ⟨l.cb, 4, none⟩ = some (.int .u32 flags) ∧ w'.cell? ⟨l.cb, 5, none⟩ = some (.int .i64 exp) ∧ w'.cell? ⟨l.cb, 6, none⟩ = some (.bool false) ∧ w'.cell? ⟨l.cb, 7, none⟩ = some (.int .u64 tok) ∧ w'.cell? ⟨l.cb, 8, none⟩ = some (.bool hasCas) ∧ w'.cell? ⟨l.cb, 9, none⟩ = some (.int .u64 delta) ∧ w'.cell? ⟨l.cb, 10, none⟩ = some (.int .u64 0) ∧ w'.cell? ⟨l.cb, 11, none⟩ = some (.bool false) ∧ w'.cell? ⟨l.cb, 12, none⟩ = some (.bool false) ∧ w'.cell? ⟨l.cb, 13, none⟩ = some (.int .i64 0) ∧ w'.cell? ⟨l.cb, 14, none⟩ = some (.int .i64 recache) ∧ w'.cell? ⟨l.cb, 15, none⟩ = some (.bool false)) := hid (fun w' hb => by
    have h0 := (HF.out w' hb).get 0 rfl
    have hC := HC.out w' hb
    exact ⟨cA h0 1, cA h0 13, hC 0 _ rfl, hC 1 _ rfl, hC 2 _ rfl, hC 3 _ rfl, hC 4 _ rfl, hC 5 _ rfl, hC 6 _ rfl, hC 7 _ rfl, hC 8 _ rfl, hC 9 _ rfl, hC 10 _ rfl, hC 11 _ rfl, hC 12 _ rfl, hC 13 _ rfl, hC 14 _ rfl, hC 15 _ rfl⟩)
  have H := hid (Hav.open hR)
  have HHW := hid (And.intro hw (And.intro hkk (And.intro hp (And.intro hl hev))))
  have S0 := HS.out w (Below.refl _ _)
  have MC := hid ((Made.cells w (Cm.vs ⟨op, mode, ckey, value, flags, exp, tok, hasCas, delta, recache⟩) 56).drew)
  unfold Cm.vs at HDo MC HCt
  dsimp only at HDo MC HCt
  rw [hl]
  clear hR hw hkk hp hl hk HC ho hnn htok hi hx hd hni hev
  go_enter func81, ntmps81
  go_wp2_with (fail)
  go_cut [4] from 7 to 17 (fun s4 wx => s4 = .pointer (some ⟨w.heap.size, 0, none⟩) ∧ Hid (Made (cAt w.heap.size #[.int .i64 op, .int .i64 mode, .string ckey, .string value, .int .u32 flags, .int .i64 exp, .bool false, .int .u64 tok, .bool hasCas, .int .u64 delta, .int .u64 0, .bool false, .bool false, .int .i64 0, .int .i64 recache, .bool false] 56) w wx))
  case first =>
    refine wp_region_E (fun w' => w'.cell? ⟨l.b, 1, none⟩ = some (.slice (some ⟨l.cb, 0, none⟩) 1 l.cc) ∧ w'.cell? ⟨l.b, 13, none⟩ = some (.int .i64 0) ∧ w'.cell? ⟨l.cb, 0, none⟩ = some (.int .i64 op) ∧ w'.cell? ⟨l.cb, 1, none⟩ = some (.int .i64 mode) ∧ w'.cell? ⟨l.cb, 2, none⟩ = some (.string ckey) ∧ w'.cell? ⟨l.cb, 3, none⟩ = some (.string value) ∧ w'.cell? ⟨l.cb, 4, none⟩ = some (.int .u32 flags) ∧ w'.cell? ⟨l.cb, 5, none⟩ = some (.int .i64 exp) ∧ w'.cell? ⟨l.cb, 6, none⟩ = some (.bool false) ∧ w'.cell? ⟨l.cb, 7, none⟩ = some (.int .u64 tok) ∧ w'.cell? ⟨l.cb, 8, none⟩ = some (.bool hasCas) ∧ w'.cell? ⟨l.cb, 9, none⟩ = some (.int .u64 delta) ∧ w'.cell? ⟨l.cb, 10, none⟩ = some (.int .u64 0) ∧ w'.cell? ⟨l.cb, 11, none⟩ = some (.bool false) ∧ w'.cell? ⟨l.cb, 12, none⟩ = some (.bool false) ∧ w'.cell? ⟨l.cb, 13, none⟩ = some (.int .i64 0) ∧ w'.cell? ⟨l.cb, 14, none⟩ = some (.int .i64 recache) ∧ w'.cell? ⟨l.cb, 15, none⟩ = some (.bool false)) 12 (by kernel_rfl) (HS.out _ (below_drewN' w 1)) (fun hHeld => ?_)
    refine wfE 0 rfl ?_
    (try simp only [lzP, lzA, lzS])
    refine wfE 1 rfl ?_
    (try simp only [lzP, lzA, lzS])
    refine wfE 2 rfl ?_
    (try simp only [lzP, lzA, lzS])
    refine wfE 3 rfl ?_
    (try simp only [lzP, lzA, lzS])
    refine wkE 4 rfl ?_
    (try simp only [lzP, lzA, lzS])
    refine wfE 5 rfl ?_
    (try simp only [lzP, lzA, lzS])
    refine wfE 6 rfl ?_
    (try simp only [lzP, lzA, lzS])
    refine wfE 7 rfl ?_
    (try simp only [lzP, lzA, lzS])
    refine wkE 8 rfl ?_
    (try simp only [lzP, lzA, lzS])
    refine wfE 9 rfl ?_
    (try simp only [lzP, lzA, lzS])
    refine wkT 10 (v := ?_) rfl ?_ ?_
    rotate_left
    · intro w0 hS0
      (try simp only [lzA])
      refine (ld_cmd (by rfl) hS0.2.2.1 hS0.2.2.2.1 hS0.2.2.2.2.1 hS0.2.2.2.2.2.1 hS0.2.2.2.2.2.2.1 hS0.2.2.2.2.2.2.2.1 hS0.2.2.2.2.2.2.2.2.1 hS0.2.2.2.2.2.2.2.2.2.1 hS0.2.2.2.2.2.2.2.2.2.2.1 hS0.2.2.2.2.2.2.2.2.2.2.2.1 hS0.2.2.2.2.2.2.2.2.2.2.2.2.1 hS0.2.2.2.2.2.2.2.2.2.2.2.2.2.1 hS0.2.2.2.2.2.2.2.2.2.2.2.2.2.2.1 hS0.2.2.2.2.2.2.2.2.2.2.2.2.2.2.2.1 hS0.2.2.2.2.2.2.2.2.2.2.2.2.2.2.2.2.1 hS0.2.2.2.2.2.2.2.2.2.2.2.2.2.2.2.2.2).trans ?_
      with_reducible rfl
    (try simp only [lzP, lzA, lzS])
    refine wpAnyE_ready (rs := [11]) (by as_aux_lemma => kernel_rfl) (by simp) ?_
    refine AllReadyE.cons (o := _) rfl (fun K hK => ?_) AllReadyE.nil
    rw [if_pos (by as_aux_lemma => rfl)]
    (try simp only [lzA])
    go_simp
    refine hK.out _ _ (HS.out _ (bA (w.drewN 1) _ |> (below_drewN' w 1).trans)) (fun hS11 => ?_)
    clear hK K
    (try simp only [lzP, lzA, lzS])
    refine wpAnyE_ready (rs := [12]) (by as_aux_lemma => kernel_rfl) (by simp) ?_
    refine AllReadyE.last (o := _) rfl (fun K hK => ?_)
    rw [if_pos (by as_aux_lemma => rfl)]
    (try simp only [lzA])
    go_simp
    refine hK.out _ _ trivial (fun _ => ?_)
    clear hK K
    (try simp only [lzP, lzA, lzS])
    refine wpAnyE_done (by as_aux_lemma => kernel_rfl) ?_ _
    (try (go_wp2_with fail))
    go_meet
    exact ⟨rfl, MC⟩
  case rest =>
    obtain ⟨rfl, hm⟩ := hcut
    obtain ⟨N, hN⟩ : ∃ N, w.heap.size = N := ⟨_, rfl⟩
    have J0 := H.out.made hm.out
    rw [hN] at J0
    rw [hN]
    obtain ⟨ak, afl, av, aca, ala, hA⟩ := an_lit key (PM.stp s.data k.cmd).2
    obtain ⟨sd', hsd⟩ : ∃ sd', (PM.stp s.data k.cmd).1 = sd' := ⟨_, rfl⟩
    obtain ⟨st, hst⟩ : ∃ st : Int, ((PM.stp s.data k.cmd).2.st : Int) = st := ⟨_, rfl⟩
    obtain ⟨num, hnum⟩ : ∃ num : Int, ((PM.stp s.data k.cmd).2.num : Int) = num := ⟨_, rfl⟩
    have hav : anV key (PM.stp s.data k.cmd).2 = .agg (ansF st ak afl av aca ala num) := by
      unfold anV
      rw [hA, hst, hnum]
    have HD : Hid (∀ W, (∀ d, k.cmd = .incr d → Tab W) → (stoR key h bk p.m s.data).R W → Calls prog 18 #[.pointer (some ⟨p.m.s, 0, none⟩), .int .i64 1, .agg #[.int .i64 op, .int .i64 mode, .string ckey, .string value, .int .u32 flags, .int .i64 exp, .bool false, .int .u64 tok, .bool hasCas, .int .u64 delta, .int .u64 0, .bool false, .bool false, .int .i64 0, .int .i64 recache, .bool false]] W fun e w' => e = .returned (.tuple #[.agg #[.int .i64 st, .string ak, .int .u32 afl, .string av, .int .i64 0, .int .u64 aca, .int .i64 ala, .bool false, .bool false, .int .u64 num, .bool false, .bool false, .bool false], .slice none 0 0]) ∧ ∃ m' : SM, m'.s = p.m.s ∧ m'.ps.num ≤ p.m.ps.num + 1 ∧ StoOk key m' sd' ∧ Turn (stoR key h bk p.m s.data) (stoR key h bk m' sd') W w') := hid (fun W hTW hW => by
      have h1 := HDo.out W hTW hW
      unfold DoPost at h1
      rw [hav, hsd] at h1
      exact h1)
    have HCnt := hid (HCt.out st hst ak afl av aca ala num)
    unfold ansF at HCnt
    have HST : Hid ((st == 12) = false) := hid (by rw [← hst]; exact st_not12 _ _)
    clear HCt
    have HAn := hid (And.intro hA (And.intro hsd (And.intro hst hnum)))
    have HNN := hid hN
    clear HDo hav hA hsd hst hnum S0 HS HF MC H hm hN
    have HJ0 := hid J0
    clear J0
    go_upto_region 1 with fail
    go_cut [5, 6] from 18 to 30 (fun s5 s6 wx => ∃ (B : Nat) (m' : SM), s5 = .pointer (some ⟨B, 0, none⟩) ∧ s6 = .slice none 0 0 ∧ m'.s = p.m.s ∧ m'.ps.num ≤ p.m.ps.num + 1 ∧ StoOk key m' sd' ∧ Hid (Hav (many (svL key h bk nw ns nc p s)).B w (cAt B #[.int .i64 st, .string ak, .int .u32 afl, .string av, .int .i64 0, .int .u64 aca, .int .i64 ala, .bool false, .bool false, .int .u64 num, .bool false, .bool false, .bool false] 52 :: cAt N #[.int .i64 op, .int .i64 mode, .string ckey, .string value, .int .u32 flags, .int .i64 exp, .bool false, .int .u64 tok, .bool hasCas, .int .u64 delta, .int .u64 0, .bool false, .bool false, .int .i64 0, .int .i64 recache, .bool false] 56 :: (svL key h bk nw ns nc p s).set 5 (stoR key h bk m' sd')) wx))
    case first =>
      have S0 : (fun w' => w'.cell? ⟨p.b, 0, none⟩ = some (.pointer (some ⟨p.m.s, 0, none⟩)) ∧ w'.cell? ⟨p.b, 3, none⟩ = some (.int .i64 1) ∧ w'.cell? ⟨N, 0, none⟩ = some (.int .i64 op) ∧ w'.cell? ⟨N, 1, none⟩ = some (.int .i64 mode) ∧ w'.cell? ⟨N, 2, none⟩ = some (.string ckey) ∧ w'.cell? ⟨N, 3, none⟩ = some (.string value) ∧ w'.cell? ⟨N, 4, none⟩ = some (.int .u32 flags) ∧ w'.cell? ⟨N, 5, none⟩ = some (.int .i64 exp) ∧ w'.cell? ⟨N, 6, none⟩ = some (.bool false) ∧ w'.cell? ⟨N, 7, none⟩ = some (.int .u64 tok) ∧ w'.cell? ⟨N, 8, none⟩ = some (.bool hasCas) ∧ w'.cell? ⟨N, 9, none⟩ = some (.int .u64 delta) ∧ w'.cell? ⟨N, 10, none⟩ = some (.int .u64 0) ∧ w'.cell? ⟨N, 11, none⟩ = some (.bool false) ∧ w'.cell? ⟨N, 12, none⟩ = some (.bool false) ∧ w'.cell? ⟨N, 13, none⟩ = some (.int .i64 0) ∧ w'.cell? ⟨N, 14, none⟩ = some (.int .i64 recache) ∧ w'.cell? ⟨N, 15, none⟩ = some (.bool false)) wc.drew := ⟨cA (HJ0.out.drew.get 1 rfl) 0, cA (HJ0.out.drew.get 1 rfl) 3, cA (HJ0.out.drew.get 0 rfl) 0, cA (HJ0.out.drew.get 0 rfl) 1, cA (HJ0.out.drew.get 0 rfl) 2, cA (HJ0.out.drew.get 0 rfl) 3, cA (HJ0.out.drew.get 0 rfl) 4, cA (HJ0.out.drew.get 0 rfl) 5, cA (HJ0.out.drew.get 0 rfl) 6, cA (HJ0.out.drew.get 0 rfl) 7, cA (HJ0.out.drew.get 0 rfl) 8, cA (HJ0.out.drew.get 0 rfl) 9, cA (HJ0.out.drew.get 0 rfl) 10, cA (HJ0.out.drew.get 0 rfl) 11, cA (HJ0.out.drew.get 0 rfl) 12, cA (HJ0.out.drew.get 0 rfl) 13, cA (HJ0.out.drew.get 0 rfl) 14, cA (HJ0.out.drew.get 0 rfl) 15⟩
      refine wp_region_E (fun w' => w'.cell? ⟨p.b, 0, none⟩ = some (.pointer (some ⟨p.m.s, 0, none⟩)) ∧ w'.cell? ⟨p.b, 3, none⟩ = some (.int .i64 1) ∧ w'.cell? ⟨N, 0, none⟩ = some (.int .i64 op) ∧ w'.cell? ⟨N, 1, none⟩ = some (.int .i64 mode) ∧ w'.cell? ⟨N, 2, none⟩ = some (.string ckey) ∧ w'.cell? ⟨N, 3, none⟩ = some (.string value) ∧ w'.cell? ⟨N, 4, none⟩ = some (.int .u32 flags) ∧ w'.cell? ⟨N, 5, none⟩ = some (.int .i64 exp) ∧ w'.cell? ⟨N, 6, none⟩ = some (.bool false) ∧ w'.cell? ⟨N, 7, none⟩ = some (.int .u64 tok) ∧ w'.cell? ⟨N, 8, none⟩ = some (.bool hasCas) ∧ w'.cell? ⟨N, 9, none⟩ = some (.int .u64 delta) ∧ w'.cell? ⟨N, 10, none⟩ = some (.int .u64 0) ∧ w'.cell? ⟨N, 11, none⟩ = some (.bool false) ∧ w'.cell? ⟨N, 12, none⟩ = some (.bool false) ∧ w'.cell? ⟨N, 13, none⟩ = some (.int .i64 0) ∧ w'.cell? ⟨N, 14, none⟩ = some (.int .i64 recache) ∧ w'.cell? ⟨N, 15, none⟩ = some (.bool false)) 14 (by kernel_rfl) S0 (fun hHeld => ?_)
      refine wfE 0 rfl ?_
      (try simp only [lzP, lzA, lzS])
      refine wfE 1 rfl ?_
      (try simp only [lzP, lzA, lzS])
      refine wfE 2 rfl ?_
      (try simp only [lzP, lzA, lzS])
      refine wkE 3 rfl ?_
      (try simp only [lzP, lzA, lzS])
      refine wfE 4 rfl ?_
      (try simp only [lzP, lzA, lzS])
      refine wfE 5 rfl ?_
      (try simp only [lzP, lzA, lzS])
      refine wfE 6 rfl ?_
      (try simp only [lzP, lzA, lzS])
      refine wkE 7 rfl ?_
      (try simp only [lzP, lzA, lzS])
      refine wkT 8 (v := ?_) rfl ?_ ?_
      rotate_left
      · intro w0 hS0
        (try simp only [lzA])
        refine (ld_cmd (by rfl) hS0.2.2.1 hS0.2.2.2.1 hS0.2.2.2.2.1 hS0.2.2.2.2.2.1 hS0.2.2.2.2.2.2.1 hS0.2.2.2.2.2.2.2.1 hS0.2.2.2.2.2.2.2.2.1 hS0.2.2.2.2.2.2.2.2.2.1 hS0.2.2.2.2.2.2.2.2.2.2.1 hS0.2.2.2.2.2.2.2.2.2.2.2.1 hS0.2.2.2.2.2.2.2.2.2.2.2.2.1 hS0.2.2.2.2.2.2.2.2.2.2.2.2.2.1 hS0.2.2.2.2.2.2.2.2.2.2.2.2.2.2.1 hS0.2.2.2.2.2.2.2.2.2.2.2.2.2.2.2.1 hS0.2.2.2.2.2.2.2.2.2.2.2.2.2.2.2.2.1 hS0.2.2.2.2.2.2.2.2.2.2.2.2.2.2.2.2.2).trans ?_
        with_reducible rfl
      (try simp only [lzP, lzA, lzS])
      refine wpAnyE_ready (rs := [9, 13]) (by kernel_rfl) (by simp) ?_
      refine AllReadyE.cons (o := _) rfl (fun K hK => ?_) (AllReadyE.cons (o := _) rfl (fun K hK => ?_) AllReadyE.nil)
      · rw [if_pos (by as_aux_lemma => rfl)]
        (try simp only [lzA])
        go_simp
        go_at_call 18
        refine (HD.out _ (HTW.out _ _ HJ0.out.drew) (HJ0.out.drew.get 6 rfl)).mono ?_
        rintro e w6 ⟨rfl, m', hm1, hm2, hm3, ht⟩
        (try (go_wp2_with fail))
        have J6 := HJ0.out.drew.turn 6 rfl ht
        refine hK.out _ _ ⟨cA (J6.get 1 rfl) 0, cA (J6.get 1 rfl) 3, cA (J6.get 0 rfl) 0, cA (J6.get 0 rfl) 1, cA (J6.get 0 rfl) 2, cA (J6.get 0 rfl) 3, cA (J6.get 0 rfl) 4, cA (J6.get 0 rfl) 5, cA (J6.get 0 rfl) 6, cA (J6.get 0 rfl) 7, cA (J6.get 0 rfl) 8, cA (J6.get 0 rfl) 9, cA (J6.get 0 rfl) 10, cA (J6.get 0 rfl) 11, cA (J6.get 0 rfl) 12, cA (J6.get 0 rfl) 13, cA (J6.get 0 rfl) 14, cA (J6.get 0 rfl) 15⟩ (fun hS9 => ?_)
        clear hK K S0 hHeld
        (try simp only [lzP, lzA, lzS])
        refine wfE 10 rfl ?_
        (try simp only [lzP, lzA, lzS])
        refine wfE 11 rfl ?_
        (try simp only [lzP, lzA, lzS])
        refine wfE 12 rfl ?_
        (try simp only [lzP, lzA, lzS])
        refine wpAnyE_ready (rs := [13]) (by as_aux_lemma => kernel_rfl) (by simp) ?_
        refine AllReadyE.cons (o := _) rfl (fun K hK => ?_) AllReadyE.nil
        rw [if_pos (by as_aux_lemma => rfl)]
        (try simp only [lzA])
        go_simp
        refine hK.out _ _ ⟨cA ((J6.alloc _).get 1 rfl) 0, cA ((J6.alloc _).get 1 rfl) 3, cA ((J6.alloc _).get 0 rfl) 0, cA ((J6.alloc _).get 0 rfl) 1, cA ((J6.alloc _).get 0 rfl) 2, cA ((J6.alloc _).get 0 rfl) 3, cA ((J6.alloc _).get 0 rfl) 4, cA ((J6.alloc _).get 0 rfl) 5, cA ((J6.alloc _).get 0 rfl) 6, cA ((J6.alloc _).get 0 rfl) 7, cA ((J6.alloc _).get 0 rfl) 8, cA ((J6.alloc _).get 0 rfl) 9, cA ((J6.alloc _).get 0 rfl) 10, cA ((J6.alloc _).get 0 rfl) 11, cA ((J6.alloc _).get 0 rfl) 12, cA ((J6.alloc _).get 0 rfl) 13, cA ((J6.alloc _).get 0 rfl) 14, cA ((J6.alloc _).get 0 rfl) 15⟩ (fun hS13 => ?_)
        clear hK K
        (try simp only [lzP, lzA, lzS])
        have G6 := (Made.cells w6 #[.int .i64 0, .string ⟨#[]⟩, .int .u32 0, .string ⟨#[]⟩, .int .i64 0, .int .u64 0, .int .i64 0, .bool false, .bool false, .int .u64 0, .bool false, .bool false, .bool false] 52).here
        have g0 : (w6.alloc (.cells #[.int .i64 0, .string ⟨#[]⟩, .int .u32 0, .string ⟨#[]⟩, .int .i64 0, .int .u64 0, .int .i64 0, .bool false, .bool false, .int .u64 0, .bool false, .bool false, .bool false] 52)).cell? ⟨w6.heap.size, 0, none⟩ = some (.int .i64 0) := cA G6 0
        have y0 := cZ G6 0
        have g1 : (w6.alloc (.cells #[.int .i64 0, .string ⟨#[]⟩, .int .u32 0, .string ⟨#[]⟩, .int .i64 0, .int .u64 0, .int .i64 0, .bool false, .bool false, .int .u64 0, .bool false, .bool false, .bool false] 52)).cell? ⟨w6.heap.size, 1, none⟩ = some (.string ⟨#[]⟩) := cA G6 1
        have y1 := cZ G6 1
        have g2 : (w6.alloc (.cells #[.int .i64 0, .string ⟨#[]⟩, .int .u32 0, .string ⟨#[]⟩, .int .i64 0, .int .u64 0, .int .i64 0, .bool false, .bool false, .int .u64 0, .bool false, .bool false, .bool false] 52)).cell? ⟨w6.heap.size, 2, none⟩ = some (.int .u32 0) := cA G6 2
        have y2 := cZ G6 2
        have g3 : (w6.alloc (.cells #[.int .i64 0, .string ⟨#[]⟩, .int .u32 0, .string ⟨#[]⟩, .int .i64 0, .int .u64 0, .int .i64 0, .bool false, .bool false, .int .u64 0, .bool false, .bool false, .bool false] 52)).cell? ⟨w6.heap.size, 3, none⟩ = some (.string ⟨#[]⟩) := cA G6 3
        have y3 := cZ G6 3
        have g4 : (w6.alloc (.cells #[.int .i64 0, .string ⟨#[]⟩, .int .u32 0, .string ⟨#[]⟩, .int .i64 0, .int .u64 0, .int .i64 0, .bool false, .bool false, .int .u64 0, .bool false, .bool false, .bool false] 52)).cell? ⟨w6.heap.size, 4, none⟩ = some (.int .i64 0) := cA G6 4
        have y4 := cZ G6 4
        have g5 : (w6.alloc (.cells #[.int .i64 0, .string ⟨#[]⟩, .int .u32 0, .string ⟨#[]⟩, .int .i64 0, .int .u64 0, .int .i64 0, .bool false, .bool false, .int .u64 0, .bool false, .bool false, .bool false] 52)).cell? ⟨w6.heap.size, 5, none⟩ = some (.int .u64 0) := cA G6 5
        have y5 := cZ G6 5
        have g6 : (w6.alloc (.cells #[.int .i64 0, .string ⟨#[]⟩, .int .u32 0, .string ⟨#[]⟩, .int .i64 0, .int .u64 0, .int .i64 0, .bool false, .bool false, .int .u64 0, .bool false, .bool false, .bool false] 52)).cell? ⟨w6.heap.size, 6, none⟩ = some (.int .i64 0) := cA G6 6
        have y6 := cZ G6 6
        have g7 : (w6.alloc (.cells #[.int .i64 0, .string ⟨#[]⟩, .int .u32 0, .string ⟨#[]⟩, .int .i64 0, .int .u64 0, .int .i64 0, .bool false, .bool false, .int .u64 0, .bool false, .bool false, .bool false] 52)).cell? ⟨w6.heap.size, 7, none⟩ = some (.bool false) := cA G6 7
        have y7 := cZ G6 7
        have g8 : (w6.alloc (.cells #[.int .i64 0, .string ⟨#[]⟩, .int .u32 0, .string ⟨#[]⟩, .int .i64 0, .int .u64 0, .int .i64 0, .bool false, .bool false, .int .u64 0, .bool false, .bool false, .bool false] 52)).cell? ⟨w6.heap.size, 8, none⟩ = some (.bool false) := cA G6 8
        have y8 := cZ G6 8
        have g9 : (w6.alloc (.cells #[.int .i64 0, .string ⟨#[]⟩, .int .u32 0, .string ⟨#[]⟩, .int .i64 0, .int .u64 0, .int .i64 0, .bool false, .bool false, .int .u64 0, .bool false, .bool false, .bool false] 52)).cell? ⟨w6.heap.size, 9, none⟩ = some (.int .u64 0) := cA G6 9
        have y9 := cZ G6 9
        have g10 : (w6.alloc (.cells #[.int .i64 0, .string ⟨#[]⟩, .int .u32 0, .string ⟨#[]⟩, .int .i64 0, .int .u64 0, .int .i64 0, .bool false, .bool false, .int .u64 0, .bool false, .bool false, .bool false] 52)).cell? ⟨w6.heap.size, 10, none⟩ = some (.bool false) := cA G6 10
        have y10 := cZ G6 10
        have g11 : (w6.alloc (.cells #[.int .i64 0, .string ⟨#[]⟩, .int .u32 0, .string ⟨#[]⟩, .int .i64 0, .int .u64 0, .int .i64 0, .bool false, .bool false, .int .u64 0, .bool false, .bool false, .bool false] 52)).cell? ⟨w6.heap.size, 11, none⟩ = some (.bool false) := cA G6 11
        have y11 := cZ G6 11
        have g12 : (w6.alloc (.cells #[.int .i64 0, .string ⟨#[]⟩, .int .u32 0, .string ⟨#[]⟩, .int .i64 0, .int .u64 0, .int .i64 0, .bool false, .bool false, .int .u64 0, .bool false, .bool false, .bool false] 52)).cell? ⟨w6.heap.size, 12, none⟩ = some (.bool false) := cA G6 12
        have y12 := cZ G6 12
        have HR := hid (J6.cells #[.int .i64 st, .string ak, .int .u32 afl, .string av, .int .i64 0, .int .u64 aca, .int .i64 ala, .bool false, .bool false, .int .u64 num, .bool false, .bool false, .bool false] 52)
        clear J6
        refine wpAnyE_ready (rs := [14]) (by as_aux_lemma => kernel_rfl) (by simp) ?_
        refine AllReadyE.last (o := _) rfl (fun K hK => ?_)
        rw [if_pos (by as_aux_lemma => rfl)]
        (try simp only [lzA])
        go_simp
        refine hK.out _ _ trivial (fun _ => ?_)
        clear hK K
        (try simp only [lzP, lzA, lzS])
        refine wgE 15 rfl ?_
        (try simp only [lzP, lzA, lzS])
        refine wpAnyE_done (by as_aux_lemma => kernel_rfl) ?_ _
        (try (go_wp2_with fail))
        go_meet
        exact ⟨_, m', rfl, rfl, hm1, hm2, hm3, HR⟩
      · rw [if_pos (by as_aux_lemma => rfl)]
        (try simp only [lzA])
        go_simp
        have J1 := (HJ0.out.cells #[.int .i64 0, .string ⟨#[]⟩, .int .u32 0, .string ⟨#[]⟩, .int .i64 0, .int .u64 0, .int .i64 0, .bool false, .bool false, .int .u64 0, .bool false, .bool false, .bool false] 52).drew
        obtain ⟨B0, hB0⟩ : ∃ B0, wc.heap.size = B0 := ⟨_, rfl⟩
        obtain ⟨W1, hW1⟩ : ∃ W1, (wc.alloc (.cells #[.int .i64 0, .string ⟨#[]⟩, .int .u32 0, .string ⟨#[]⟩, .int .i64 0, .int .u64 0, .int .i64 0, .bool false, .bool false, .int .u64 0, .bool false, .bool false, .bool false] 52)).drew = W1 := ⟨_, rfl⟩
        rw [hB0, hW1] at J1
        rw [hW1]
        rw [hB0]
        refine hK.out _ _ ⟨cA (J1.get 2 rfl) 0, cA (J1.get 2 rfl) 3, cA (J1.get 1 rfl) 0, cA (J1.get 1 rfl) 1, cA (J1.get 1 rfl) 2, cA (J1.get 1 rfl) 3, cA (J1.get 1 rfl) 4, cA (J1.get 1 rfl) 5, cA (J1.get 1 rfl) 6, cA (J1.get 1 rfl) 7, cA (J1.get 1 rfl) 8, cA (J1.get 1 rfl) 9, cA (J1.get 1 rfl) 10, cA (J1.get 1 rfl) 11, cA (J1.get 1 rfl) 12, cA (J1.get 1 rfl) 13, cA (J1.get 1 rfl) 14, cA (J1.get 1 rfl) 15⟩ (fun hS13 => ?_)
        clear hK K S0 hHeld
        (try simp only [lzP, lzA, lzS])
        refine wpAnyE_ready (rs := [9]) (by as_aux_lemma => kernel_rfl) (by simp) ?_
        refine AllReadyE.cons (o := _) rfl (fun K hK => ?_) AllReadyE.nil
        rw [if_pos (by as_aux_lemma => rfl)]
        (try simp only [lzA])
        go_simp
        (go_at_call 18; refine (HD.out _ (HTW.out _ _ J1) (J1.get 7 rfl)).mono ?_; rintro e w6 ⟨rfl, m', hm1, hm2, hm3, ht⟩; have J6 := J1.turn 7 rfl ht)
        (try (go_wp2_with fail))
        refine hK.out _ _ ⟨cA (J6.get 2 rfl) 0, cA (J6.get 2 rfl) 3, cA (J6.get 1 rfl) 0, cA (J6.get 1 rfl) 1, cA (J6.get 1 rfl) 2, cA (J6.get 1 rfl) 3, cA (J6.get 1 rfl) 4, cA (J6.get 1 rfl) 5, cA (J6.get 1 rfl) 6, cA (J6.get 1 rfl) 7, cA (J6.get 1 rfl) 8, cA (J6.get 1 rfl) 9, cA (J6.get 1 rfl) 10, cA (J6.get 1 rfl) 11, cA (J6.get 1 rfl) 12, cA (J6.get 1 rfl) 13, cA (J6.get 1 rfl) 14, cA (J6.get 1 rfl) 15⟩ (fun hS9 => ?_)
        clear hK K
        (try simp only [lzP, lzA, lzS])
        clear hS13
        have r6 : (cAt B0 #[.int .i64 0, .string ⟨#[]⟩, .int .u32 0, .string ⟨#[]⟩, .int .i64 0, .int .u64 0, .int .i64 0, .bool false, .bool false, .int .u64 0, .bool false, .bool false, .bool false] 52).R w6 := J6.get 0 rfl
        obtain ⟨z0, f0, z1, f1, z2, f2, z3, f3, z4, f4, z5, f5, z6, f6, z7, f7, z8, f8, z9, f9, z10, f10, z11, f11, z12, f12⟩ : caf13 w6 B0 (.int .i64 0) (.string ⟨#[]⟩) (.int .u32 0) (.string ⟨#[]⟩) (.int .i64 0) (.int .u64 0) (.int .i64 0) (.bool false) (.bool false) (.int .u64 0) (.bool false) (.bool false) (.bool false) := caf13' (r6)
        have hs := cl_sets B0 52 [.int .i64 st, .string ak, .int .u32 afl, .string av, .int .i64 0, .int .u64 aca, .int .i64 ala, .bool false, .bool false, .int .u64 num, .bool false, .bool false, .bool false] 0 _ _ r6
        rw [show setsV 0 [.int .i64 st, .string ak, .int .u32 afl, .string av, .int .i64 0, .int .u64 aca, .int .i64 ala, .bool false, .bool false, .int .u64 num, .bool false, .bool false, .bool false] #[.int .i64 0, .string ⟨#[]⟩, .int .u32 0, .string ⟨#[]⟩, .int .i64 0, .int .u64 0, .int .i64 0, .bool false, .bool false, .int .u64 0, .bool false, .bool false, .bool false] = #[.int .i64 st, .string ak, .int .u32 afl, .string av, .int .i64 0, .int .u64 aca, .int .i64 ala, .bool false, .bool false, .int .u64 num, .bool false, .bool false, .bool false] by simp [setsV]] at hs
        have J7 := J6.turn 0 rfl hs
        simp only [setsW, List.set] at J7
        have HR := hid J7
        clear J6 J7 r6 hs J1
        refine wfE 10 rfl ?_
        (try simp only [lzP, lzA, lzS])
        refine wfE 11 rfl ?_
        (try simp only [lzP, lzA, lzS])
        refine wfE 12 rfl ?_
        (try simp only [lzP, lzA, lzS])
        refine wpAnyE_ready (rs := [14]) (by as_aux_lemma => kernel_rfl) (by simp) ?_
        refine AllReadyE.last (o := _) rfl (fun K hK => ?_)
        rw [if_pos (by as_aux_lemma => rfl)]
        (try simp only [lzA])
        go_simp
        refine hK.out _ _ trivial (fun _ => ?_)
        clear hK K
        (try simp only [lzP, lzA, lzS])
        refine wgE 15 rfl ?_
        (try simp only [lzP, lzA, lzS])
        refine wpAnyE_done (by as_aux_lemma => kernel_rfl) ?_ _
        (try (go_wp2_with fail))
        go_meet
        exact ⟨_, m', rfl, rfl, hm1, hm2, hm3, HR⟩
    case rest =>
      obtain ⟨B, m', rfl, rfl, hm1, hm2, hm3, hJ⟩ := hcut
      have HM1 := hid (And.intro hm1 (And.intro hm2 hm3))
      clear hm1 hm2 hm3 HJ0 HD
      obtain ⟨ea, ec, hea⟩ : ∃ a c, p.el = .slice a s.ev.length c := row_v (hJ.out.get 6 rfl)
      obtain ⟨xs, hxs⟩ : ∃ xs, s.ev.flatMap (evC key) = xs := ⟨_, rfl⟩
      obtain ⟨L5, hL5⟩ : ∃ L, (svL key h bk nw ns nc p s).set 5 (stoR key h bk m' sd') = L := ⟨_, rfl⟩
      have hL := HHW.out
      obtain ⟨hw, hkk, hp, hl, hev⟩ := hL
      have HL : Hid (∀ w', (fam nw (fun w => wkR key (p.wp w) (s.wk w))).R w' → (cAt l.b (wkC l k) 143).R w') := hid (fun w' hf => by
        have h1 := fam_get hf hw
        rw [hkk, hl] at h1
        exact (Hav.open h1).get 0 rfl)
      have hrow : (rowAt (.slice ea s.ev.length ec) 136 35 s.ev.length xs).R wc.drew := by
        have h1 := hJ.out.drew.get 6 rfl
        rw [← hea, ← hxs]; exact h1
      have hp7 : (svC nw ns nc p)[7]? = some (.slice ea s.ev.length ec) := by rw [← hea]; rfl
      have HP7 := hid hp7
      have HEA := hid hea
      have HXS := hid hxs
      have HCn : Hid (∀ W, (stsR p.sx p.sn).R W → Calls prog 146 #[.pointer (some ⟨p.sx, 0, none⟩), .agg #[.int .i64 op, .int .i64 mode, .string ckey, .string value, .int .u32 flags, .int .i64 exp, .bool false, .int .u64 tok, .bool hasCas, .int .u64 delta, .int .u64 0, .bool false, .bool false, .int .i64 0, .int .i64 recache, .bool false], .agg #[.int .i64 st, .string ak, .int .u32 afl, .string av, .int .i64 0, .int .u64 aca, .int .i64 ala, .bool false, .bool false, .int .u64 num, .bool false, .bool false, .bool false], .int .i64 0] W fun e w' => e = .returned (.tuple #[]) ∧ ∃ f', Turn (stsR p.sx p.sn) (stsR p.sx f') W w') := HCnt
      have hst12 : (st == 12) = false := HST.out
      clear hL5 L5 hp7
      go_upto_region 2 with fail
      have HSF : Hid (∀ w', Hav (many (svL key h bk nw ns nc p s)).B w (cAt B #[.int .i64 st, .string ak, .int .u32 afl, .string av, .int .i64 0, .int .u64 aca, .int .i64 ala, .bool false, .bool false, .int .u64 num, .bool false, .bool false, .bool false] 52 :: cAt N #[.int .i64 op, .int .i64 mode, .string ckey, .string value, .int .u32 flags, .int .i64 exp, .bool false, .int .u64 tok, .bool hasCas, .int .u64 delta, .int .u64 0, .bool false, .bool false, .int .i64 0, .int .i64 recache, .bool false] 56 :: (svL key h bk nw ns nc p s).set 5 (stoR key h bk m' sd')) w' → (fun w' => w'.cell? ⟨p.b, 7, none⟩ = some (.slice ea s.ev.length ec) ∧ w'.cell? ⟨p.b, 3, none⟩ = some (.int .i64 1) ∧ w'.cell? ⟨l.b, 11, none⟩ = some (.int .i64 k.of) ∧ w'.cell? ⟨l.b, 12, none⟩ = some (.int .i64 k.seq) ∧ w'.cell? ⟨l.b, 13, none⟩ = some (.int .i64 0) ∧ w'.cell? ⟨N, 0, none⟩ = some (.int .i64 op) ∧ w'.cell? ⟨N, 1, none⟩ = some (.int .i64 mode) ∧ w'.cell? ⟨N, 2, none⟩ = some (.string ckey) ∧ w'.cell? ⟨N, 3, none⟩ = some (.string value) ∧ w'.cell? ⟨N, 4, none⟩ = some (.int .u32 flags) ∧ w'.cell? ⟨N, 5, none⟩ = some (.int .i64 exp) ∧ w'.cell? ⟨N, 6, none⟩ = some (.bool false) ∧ w'.cell? ⟨N, 7, none⟩ = some (.int .u64 tok) ∧ w'.cell? ⟨N, 8, none⟩ = some (.bool hasCas) ∧ w'.cell? ⟨N, 9, none⟩ = some (.int .u64 delta) ∧ w'.cell? ⟨N, 10, none⟩ = some (.int .u64 0) ∧ w'.cell? ⟨N, 11, none⟩ = some (.bool false) ∧ w'.cell? ⟨N, 12, none⟩ = some (.bool false) ∧ w'.cell? ⟨N, 13, none⟩ = some (.int .i64 0) ∧ w'.cell? ⟨N, 14, none⟩ = some (.int .i64 recache) ∧ w'.cell? ⟨N, 15, none⟩ = some (.bool false) ∧ w'.cell? ⟨B, 0, none⟩ = some (.int .i64 st) ∧ w'.cell? ⟨B, 1, none⟩ = some (.string ak) ∧ w'.cell? ⟨B, 2, none⟩ = some (.int .u32 afl) ∧ w'.cell? ⟨B, 3, none⟩ = some (.string av) ∧ w'.cell? ⟨B, 4, none⟩ = some (.int .i64 0) ∧ w'.cell? ⟨B, 5, none⟩ = some (.int .u64 aca) ∧ w'.cell? ⟨B, 6, none⟩ = some (.int .i64 ala) ∧ w'.cell? ⟨B, 7, none⟩ = some (.bool false) ∧ w'.cell? ⟨B, 8, none⟩ = some (.bool false) ∧ w'.cell? ⟨B, 9, none⟩ = some (.int .u64 num) ∧ w'.cell? ⟨B, 10, none⟩ = some (.bool false) ∧ w'.cell? ⟨B, 11, none⟩ = some (.bool false) ∧ w'.cell? ⟨B, 12, none⟩ = some (.bool false)) w') := hid (fun w' J => ⟨(cA (J.get 2 rfl) 7).trans HP7.out, cA (J.get 2 rfl) 3, cA (HL.out _ (J.get 10 rfl)) 11, cA (HL.out _ (J.get 10 rfl)) 12, cA (HL.out _ (J.get 10 rfl)) 13, cA (J.get 1 rfl) 0, cA (J.get 1 rfl) 1, cA (J.get 1 rfl) 2, cA (J.get 1 rfl) 3, cA (J.get 1 rfl) 4, cA (J.get 1 rfl) 5, cA (J.get 1 rfl) 6, cA (J.get 1 rfl) 7, cA (J.get 1 rfl) 8, cA (J.get 1 rfl) 9, cA (J.get 1 rfl) 10, cA (J.get 1 rfl) 11, cA (J.get 1 rfl) 12, cA (J.get 1 rfl) 13, cA (J.get 1 rfl) 14, cA (J.get 1 rfl) 15, cA (J.get 0 rfl) 0, cA (J.get 0 rfl) 1, cA (J.get 0 rfl) 2, cA (J.get 0 rfl) 3, cA (J.get 0 rfl) 4, cA (J.get 0 rfl) 5, cA (J.get 0 rfl) 6, cA (J.get 0 rfl) 7, cA (J.get 0 rfl) 8, cA (J.get 0 rfl) 9, cA (J.get 0 rfl) 10, cA (J.get 0 rfl) 11, cA (J.get 0 rfl) 12⟩)
      have S0 := HSF.out wc.drew hJ.out.drew
      refine wp_region_E (fun w' => w'.cell? ⟨p.b, 7, none⟩ = some (.slice ea s.ev.length ec) ∧ w'.cell? ⟨p.b, 3, none⟩ = some (.int .i64 1) ∧ w'.cell? ⟨l.b, 11, none⟩ = some (.int .i64 k.of) ∧ w'.cell? ⟨l.b, 12, none⟩ = some (.int .i64 k.seq) ∧ w'.cell? ⟨l.b, 13, none⟩ = some (.int .i64 0) ∧ w'.cell? ⟨N, 0, none⟩ = some (.int .i64 op) ∧ w'.cell? ⟨N, 1, none⟩ = some (.int .i64 mode) ∧ w'.cell? ⟨N, 2, none⟩ = some (.string ckey) ∧ w'.cell? ⟨N, 3, none⟩ = some (.string value) ∧ w'.cell? ⟨N, 4, none⟩ = some (.int .u32 flags) ∧ w'.cell? ⟨N, 5, none⟩ = some (.int .i64 exp) ∧ w'.cell? ⟨N, 6, none⟩ = some (.bool false) ∧ w'.cell? ⟨N, 7, none⟩ = some (.int .u64 tok) ∧ w'.cell? ⟨N, 8, none⟩ = some (.bool hasCas) ∧ w'.cell? ⟨N, 9, none⟩ = some (.int .u64 delta) ∧ w'.cell? ⟨N, 10, none⟩ = some (.int .u64 0) ∧ w'.cell? ⟨N, 11, none⟩ = some (.bool false) ∧ w'.cell? ⟨N, 12, none⟩ = some (.bool false) ∧ w'.cell? ⟨N, 13, none⟩ = some (.int .i64 0) ∧ w'.cell? ⟨N, 14, none⟩ = some (.int .i64 recache) ∧ w'.cell? ⟨N, 15, none⟩ = some (.bool false) ∧ w'.cell? ⟨B, 0, none⟩ = some (.int .i64 st) ∧ w'.cell? ⟨B, 1, none⟩ = some (.string ak) ∧ w'.cell? ⟨B, 2, none⟩ = some (.int .u32 afl) ∧ w'.cell? ⟨B, 3, none⟩ = some (.string av) ∧ w'.cell? ⟨B, 4, none⟩ = some (.int .i64 0) ∧ w'.cell? ⟨B, 5, none⟩ = some (.int .u64 aca) ∧ w'.cell? ⟨B, 6, none⟩ = some (.int .i64 ala) ∧ w'.cell? ⟨B, 7, none⟩ = some (.bool false) ∧ w'.cell? ⟨B, 8, none⟩ = some (.bool false) ∧ w'.cell? ⟨B, 9, none⟩ = some (.int .u64 num) ∧ w'.cell? ⟨B, 10, none⟩ = some (.bool false) ∧ w'.cell? ⟨B, 11, none⟩ = some (.bool false) ∧ w'.cell? ⟨B, 12, none⟩ = some (.bool false)) 29 (by kernel_rfl) S0 (fun hHeld => ?_)
      refine wfE 0 rfl ?_
      (try simp only [lzP, lzA, lzS])
      refine wfE 1 rfl ?_
      (try simp only [lzP, lzA, lzS])
      refine wfE 2 rfl ?_
      (try simp only [lzP, lzA, lzS])
      refine wfE 3 rfl ?_
      (try simp only [lzP, lzA, lzS])
      refine wkE 4 rfl ?_
      (try simp only [lzP, lzA, lzS])
      refine wfE 5 rfl ?_
      (try simp only [lzP, lzA, lzS])
      refine wfE 6 rfl ?_
      (try simp only [lzP, lzA, lzS])
      refine wfE 7 rfl ?_
      (try simp only [lzP, lzA, lzS])
      refine wkE 8 rfl ?_
      (try simp only [lzP, lzA, lzS])
      refine wfE 9 rfl ?_
      (try simp only [lzP, lzA, lzS])
      refine wfE 10 rfl ?_
      (try simp only [lzP, lzA, lzS])
      refine wfE 11 rfl ?_
      (try simp only [lzP, lzA, lzS])
      refine wkE 12 rfl ?_
      (try simp only [lzP, lzA, lzS])
      refine wfE 13 rfl ?_
      (try simp only [lzP, lzA, lzS])
      refine wfE 14 rfl ?_
      (try simp only [lzP, lzA, lzS])
      refine wfE 15 rfl ?_
      (try simp only [lzP, lzA, lzS])
      refine wkE 16 rfl ?_
      (try simp only [lzP, lzA, lzS])
      refine wfE 17 rfl ?_
      (try simp only [lzP, lzA, lzS])
      refine wfE 18 rfl ?_
      (try simp only [lzP, lzA, lzS])
      refine wfE 19 rfl ?_
      (try simp only [lzP, lzA, lzS])
      refine wkE 20 rfl ?_
      (try simp only [lzP, lzA, lzS])
      refine wkT 21 (v := ?_) rfl ?_ ?_
      rotate_left
      · intro w0 hS0
        (try simp only [lzA])
        refine (ld_cmd (by rfl) hS0.2.2.2.2.2.1 hS0.2.2.2.2.2.2.1 hS0.2.2.2.2.2.2.2.1 hS0.2.2.2.2.2.2.2.2.1 hS0.2.2.2.2.2.2.2.2.2.1 hS0.2.2.2.2.2.2.2.2.2.2.1 hS0.2.2.2.2.2.2.2.2.2.2.2.1 hS0.2.2.2.2.2.2.2.2.2.2.2.2.1 hS0.2.2.2.2.2.2.2.2.2.2.2.2.2.1 hS0.2.2.2.2.2.2.2.2.2.2.2.2.2.2.1 hS0.2.2.2.2.2.2.2.2.2.2.2.2.2.2.2.1 hS0.2.2.2.2.2.2.2.2.2.2.2.2.2.2.2.2.1 hS0.2.2.2.2.2.2.2.2.2.2.2.2.2.2.2.2.2.1 hS0.2.2.2.2.2.2.2.2.2.2.2.2.2.2.2.2.2.2.1 hS0.2.2.2.2.2.2.2.2.2.2.2.2.2.2.2.2.2.2.2.1 hS0.2.2.2.2.2.2.2.2.2.2.2.2.2.2.2.2.2.2.2.2.1).trans ?_
        with_reducible rfl
      (try simp only [lzP, lzA, lzS])
      refine wkT 22 (v := ?_) rfl ?_ ?_
      rotate_left
      · intro w0 hS0
        (try simp only [lzA])
        refine (ld_ans (by rfl) hS0.2.2.2.2.2.2.2.2.2.2.2.2.2.2.2.2.2.2.2.2.2.1 hS0.2.2.2.2.2.2.2.2.2.2.2.2.2.2.2.2.2.2.2.2.2.2.1 hS0.2.2.2.2.2.2.2.2.2.2.2.2.2.2.2.2.2.2.2.2.2.2.2.1 hS0.2.2.2.2.2.2.2.2.2.2.2.2.2.2.2.2.2.2.2.2.2.2.2.2.1 hS0.2.2.2.2.2.2.2.2.2.2.2.2.2.2.2.2.2.2.2.2.2.2.2.2.2.1 hS0.2.2.2.2.2.2.2.2.2.2.2.2.2.2.2.2.2.2.2.2.2.2.2.2.2.2.1 hS0.2.2.2.2.2.2.2.2.2.2.2.2.2.2.2.2.2.2.2.2.2.2.2.2.2.2.2.1 hS0.2.2.2.2.2.2.2.2.2.2.2.2.2.2.2.2.2.2.2.2.2.2.2.2.2.2.2.2.1 hS0.2.2.2.2.2.2.2.2.2.2.2.2.2.2.2.2.2.2.2.2.2.2.2.2.2.2.2.2.2.1 hS0.2.2.2.2.2.2.2.2.2.2.2.2.2.2.2.2.2.2.2.2.2.2.2.2.2.2.2.2.2.2.1 hS0.2.2.2.2.2.2.2.2.2.2.2.2.2.2.2.2.2.2.2.2.2.2.2.2.2.2.2.2.2.2.2.1 hS0.2.2.2.2.2.2.2.2.2.2.2.2.2.2.2.2.2.2.2.2.2.2.2.2.2.2.2.2.2.2.2.2.1 hS0.2.2.2.2.2.2.2.2.2.2.2.2.2.2.2.2.2.2.2.2.2.2.2.2.2.2.2.2.2.2.2.2.2).trans ?_
        with_reducible rfl
      (try simp only [lzP, lzA, lzS])
      refine wfE 23 rfl ?_
      (try simp only [lzP, lzA, lzS])
      refine wfE 24 rfl ?_
      (try simp only [lzP, lzA, lzS])
      refine wpAnyE_ready (rs := [25]) (by as_aux_lemma => kernel_rfl) (by simp) ?_
      refine AllReadyE.cons (o := _) rfl (fun K hK => ?_) AllReadyE.nil
      rw [if_pos (by as_aux_lemma => rfl)]
      (try simp only [lzA])
      go_simp
      refine hK.out _ _ (HSF.out _ (hJ.out.drew.alloc _)) (fun hS25 => ?_)
      clear hK K
      (try simp only [lzP, lzA, lzS])
      refine wpAnyE_ready (rs := [26]) (by as_aux_lemma => kernel_rfl) (by simp) ?_
      refine AllReadyE.cons (o := _) rfl (fun K hK => ?_) AllReadyE.nil
      (refine step_appEl elem_ev rfl _ _ (by rfl) (by rfl) hrow (by rfl) rfl (by simp [Value.oneCell']) (by have := HHW.out.2.2.2.2; omega) (by omega) ?_; intro g7 cap7 w7 ht7; have ht8 : Turn (rowAt p.el 136 35 s.ev.length (s.ev.flatMap (evC key))) _ _ _ := (by rw [HEA.out, HXS.out]; exact ht7); have J7 := hJ.out.drew.turn 6 rfl ht8)
      refine hK.out _ _ ⟨(cA (J7.get 2 rfl) 7).trans HP7.out, cA (J7.get 2 rfl) 3, cA (HL.out _ (J7.get 10 rfl)) 11, cA (HL.out _ (J7.get 10 rfl)) 12, cA (HL.out _ (J7.get 10 rfl)) 13, cA (J7.get 1 rfl) 0, cA (J7.get 1 rfl) 1, cA (J7.get 1 rfl) 2, cA (J7.get 1 rfl) 3, cA (J7.get 1 rfl) 4, cA (J7.get 1 rfl) 5, cA (J7.get 1 rfl) 6, cA (J7.get 1 rfl) 7, cA (J7.get 1 rfl) 8, cA (J7.get 1 rfl) 9, cA (J7.get 1 rfl) 10, cA (J7.get 1 rfl) 11, cA (J7.get 1 rfl) 12, cA (J7.get 1 rfl) 13, cA (J7.get 1 rfl) 14, cA (J7.get 1 rfl) 15, cA (J7.get 0 rfl) 0, cA (J7.get 0 rfl) 1, cA (J7.get 0 rfl) 2, cA (J7.get 0 rfl) 3, cA (J7.get 0 rfl) 4, cA (J7.get 0 rfl) 5, cA (J7.get 0 rfl) 6, cA (J7.get 0 rfl) 7, cA (J7.get 0 rfl) 8, cA (J7.get 0 rfl) 9, cA (J7.get 0 rfl) 10, cA (J7.get 0 rfl) 11, cA (J7.get 0 rfl) 12⟩ (fun hS26 => ?_)
      clear hK K
      (try simp only [lzP, lzA, lzS])
      clear hrow ht7 ht8
      have b7 : w7.cell? ⟨p.b, 7, none⟩ = some (.slice ea s.ev.length ec) := (cA (J7.get 2 rfl) 7).trans HP7.out
      have z7 : w7.frozen? ⟨p.b, 7, none⟩ = false := cZ (J7.get 2 rfl) 7
      have J8 := J7.turn 2 rfl (cl_set (J7.get 2 rfl) 7 (.slice (some ⟨g7, 0, none⟩) (s.ev.length + 1) cap7))
      have HJ8 := hid J8
      clear J7 J8
      refine wfE 27 rfl ?_
      (try simp only [lzP, lzA, lzS])
      refine wfE 28 rfl ?_
      (try simp only [lzP, lzA, lzS])
      refine wpAnyE_ready (rs := [29]) (by as_aux_lemma => kernel_rfl) (by simp) ?_
      refine AllReadyE.last (o := _) rfl (fun K hK => ?_)
      rw [if_pos (by as_aux_lemma => rfl)]
      (try simp only [lzA])
      go_simp
      refine hK.out _ _ trivial (fun _ => ?_)
      clear hK K
      (try simp only [lzP, lzA, lzS])
      refine wpAnyE_done (by as_aux_lemma => kernel_rfl) ?_ _
      obtain ⟨w8, hw8⟩ : ∃ w8, w7.setCell ⟨p.b, 7, none⟩ (.slice (some ⟨g7, 0, none⟩) (s.ev.length + 1) cap7) = w8 := ⟨_, rfl⟩
      have J8 := HJ8.out
      rw [hw8] at J8
      rw [hw8]
      have HJ9 := hid J8
      clear HJ8 J8 hw8 b7 z7 S0 hHeld hS25 hS26 HSF
      go_upto_region 3 with fail
      have S0 : (fun w' => w'.cell? ⟨p.b, 2, none⟩ = some (.pointer (some ⟨p.sx, 0, none⟩)) ∧ w'.cell? ⟨N, 0, none⟩ = some (.int .i64 op) ∧ w'.cell? ⟨N, 1, none⟩ = some (.int .i64 mode) ∧ w'.cell? ⟨N, 2, none⟩ = some (.string ckey) ∧ w'.cell? ⟨N, 3, none⟩ = some (.string value) ∧ w'.cell? ⟨N, 4, none⟩ = some (.int .u32 flags) ∧ w'.cell? ⟨N, 5, none⟩ = some (.int .i64 exp) ∧ w'.cell? ⟨N, 6, none⟩ = some (.bool false) ∧ w'.cell? ⟨N, 7, none⟩ = some (.int .u64 tok) ∧ w'.cell? ⟨N, 8, none⟩ = some (.bool hasCas) ∧ w'.cell? ⟨N, 9, none⟩ = some (.int .u64 delta) ∧ w'.cell? ⟨N, 10, none⟩ = some (.int .u64 0) ∧ w'.cell? ⟨N, 11, none⟩ = some (.bool false) ∧ w'.cell? ⟨N, 12, none⟩ = some (.bool false) ∧ w'.cell? ⟨N, 13, none⟩ = some (.int .i64 0) ∧ w'.cell? ⟨N, 14, none⟩ = some (.int .i64 recache) ∧ w'.cell? ⟨N, 15, none⟩ = some (.bool false) ∧ w'.cell? ⟨B, 0, none⟩ = some (.int .i64 st) ∧ w'.cell? ⟨B, 1, none⟩ = some (.string ak) ∧ w'.cell? ⟨B, 2, none⟩ = some (.int .u32 afl) ∧ w'.cell? ⟨B, 3, none⟩ = some (.string av) ∧ w'.cell? ⟨B, 4, none⟩ = some (.int .i64 0) ∧ w'.cell? ⟨B, 5, none⟩ = some (.int .u64 aca) ∧ w'.cell? ⟨B, 6, none⟩ = some (.int .i64 ala) ∧ w'.cell? ⟨B, 7, none⟩ = some (.bool false) ∧ w'.cell? ⟨B, 8, none⟩ = some (.bool false) ∧ w'.cell? ⟨B, 9, none⟩ = some (.int .u64 num) ∧ w'.cell? ⟨B, 10, none⟩ = some (.bool false) ∧ w'.cell? ⟨B, 11, none⟩ = some (.bool false) ∧ w'.cell? ⟨B, 12, none⟩ = some (.bool false)) w8.drew := ⟨cA (HJ9.out.drew.get 2 rfl) 2, cA (HJ9.out.drew.get 1 rfl) 0, cA (HJ9.out.drew.get 1 rfl) 1, cA (HJ9.out.drew.get 1 rfl) 2, cA (HJ9.out.drew.get 1 rfl) 3, cA (HJ9.out.drew.get 1 rfl) 4, cA (HJ9.out.drew.get 1 rfl) 5, cA (HJ9.out.drew.get 1 rfl) 6, cA (HJ9.out.drew.get 1 rfl) 7, cA (HJ9.out.drew.get 1 rfl) 8, cA (HJ9.out.drew.get 1 rfl) 9, cA (HJ9.out.drew.get 1 rfl) 10, cA (HJ9.out.drew.get 1 rfl) 11, cA (HJ9.out.drew.get 1 rfl) 12, cA (HJ9.out.drew.get 1 rfl) 13, cA (HJ9.out.drew.get 1 rfl) 14, cA (HJ9.out.drew.get 1 rfl) 15, cA (HJ9.out.drew.get 0 rfl) 0, cA (HJ9.out.drew.get 0 rfl) 1, cA (HJ9.out.drew.get 0 rfl) 2, cA (HJ9.out.drew.get 0 rfl) 3, cA (HJ9.out.drew.get 0 rfl) 4, cA (HJ9.out.drew.get 0 rfl) 5, cA (HJ9.out.drew.get 0 rfl) 6, cA (HJ9.out.drew.get 0 rfl) 7, cA (HJ9.out.drew.get 0 rfl) 8, cA (HJ9.out.drew.get 0 rfl) 9, cA (HJ9.out.drew.get 0 rfl) 10, cA (HJ9.out.drew.get 0 rfl) 11, cA (HJ9.out.drew.get 0 rfl) 12⟩
      refine wp_region_E (fun w' => w'.cell? ⟨p.b, 2, none⟩ = some (.pointer (some ⟨p.sx, 0, none⟩)) ∧ w'.cell? ⟨N, 0, none⟩ = some (.int .i64 op) ∧ w'.cell? ⟨N, 1, none⟩ = some (.int .i64 mode) ∧ w'.cell? ⟨N, 2, none⟩ = some (.string ckey) ∧ w'.cell? ⟨N, 3, none⟩ = some (.string value) ∧ w'.cell? ⟨N, 4, none⟩ = some (.int .u32 flags) ∧ w'.cell? ⟨N, 5, none⟩ = some (.int .i64 exp) ∧ w'.cell? ⟨N, 6, none⟩ = some (.bool false) ∧ w'.cell? ⟨N, 7, none⟩ = some (.int .u64 tok) ∧ w'.cell? ⟨N, 8, none⟩ = some (.bool hasCas) ∧ w'.cell? ⟨N, 9, none⟩ = some (.int .u64 delta) ∧ w'.cell? ⟨N, 10, none⟩ = some (.int .u64 0) ∧ w'.cell? ⟨N, 11, none⟩ = some (.bool false) ∧ w'.cell? ⟨N, 12, none⟩ = some (.bool false) ∧ w'.cell? ⟨N, 13, none⟩ = some (.int .i64 0) ∧ w'.cell? ⟨N, 14, none⟩ = some (.int .i64 recache) ∧ w'.cell? ⟨N, 15, none⟩ = some (.bool false) ∧ w'.cell? ⟨B, 0, none⟩ = some (.int .i64 st) ∧ w'.cell? ⟨B, 1, none⟩ = some (.string ak) ∧ w'.cell? ⟨B, 2, none⟩ = some (.int .u32 afl) ∧ w'.cell? ⟨B, 3, none⟩ = some (.string av) ∧ w'.cell? ⟨B, 4, none⟩ = some (.int .i64 0) ∧ w'.cell? ⟨B, 5, none⟩ = some (.int .u64 aca) ∧ w'.cell? ⟨B, 6, none⟩ = some (.int .i64 ala) ∧ w'.cell? ⟨B, 7, none⟩ = some (.bool false) ∧ w'.cell? ⟨B, 8, none⟩ = some (.bool false) ∧ w'.cell? ⟨B, 9, none⟩ = some (.int .u64 num) ∧ w'.cell? ⟨B, 10, none⟩ = some (.bool false) ∧ w'.cell? ⟨B, 11, none⟩ = some (.bool false) ∧ w'.cell? ⟨B, 12, none⟩ = some (.bool false)) 8 (by kernel_rfl) S0 (fun hHeld => ?_)
      refine wfE 0 rfl ?_
      (try simp only [lzP, lzA, lzS])
      refine wfE 1 rfl ?_
      (try simp only [lzP, lzA, lzS])
      refine wfE 2 rfl ?_
      (try simp only [lzP, lzA, lzS])
      refine wkE 3 rfl ?_
      (try simp only [lzP, lzA, lzS])
      refine wkT 4 (v := ?_) rfl ?_ ?_
      rotate_left
      · intro w0 hS0
        (try simp only [lzA])
        refine (ld_cmd (by rfl) hS0.2.1 hS0.2.2.1 hS0.2.2.2.1 hS0.2.2.2.2.1 hS0.2.2.2.2.2.1 hS0.2.2.2.2.2.2.1 hS0.2.2.2.2.2.2.2.1 hS0.2.2.2.2.2.2.2.2.1 hS0.2.2.2.2.2.2.2.2.2.1 hS0.2.2.2.2.2.2.2.2.2.2.1 hS0.2.2.2.2.2.2.2.2.2.2.2.1 hS0.2.2.2.2.2.2.2.2.2.2.2.2.1 hS0.2.2.2.2.2.2.2.2.2.2.2.2.2.1 hS0.2.2.2.2.2.2.2.2.2.2.2.2.2.2.1 hS0.2.2.2.2.2.2.2.2.2.2.2.2.2.2.2.1 hS0.2.2.2.2.2.2.2.2.2.2.2.2.2.2.2.2.1).trans ?_
        with_reducible rfl
      (try simp only [lzP, lzA, lzS])
      refine wkT 5 (v := ?_) rfl ?_ ?_
      rotate_left
      · intro w0 hS0
        (try simp only [lzA])
        refine (ld_ans (by rfl) hS0.2.2.2.2.2.2.2.2.2.2.2.2.2.2.2.2.2.1 hS0.2.2.2.2.2.2.2.2.2.2.2.2.2.2.2.2.2.2.1 hS0.2.2.2.2.2.2.2.2.2.2.2.2.2.2.2.2.2.2.2.1 hS0.2.2.2.2.2.2.2.2.2.2.2.2.2.2.2.2.2.2.2.2.1 hS0.2.2.2.2.2.2.2.2.2.2.2.2.2.2.2.2.2.2.2.2.2.1 hS0.2.2.2.2.2.2.2.2.2.2.2.2.2.2.2.2.2.2.2.2.2.2.1 hS0.2.2.2.2.2.2.2.2.2.2.2.2.2.2.2.2.2.2.2.2.2.2.2.1 hS0.2.2.2.2.2.2.2.2.2.2.2.2.2.2.2.2.2.2.2.2.2.2.2.2.1 hS0.2.2.2.2.2.2.2.2.2.2.2.2.2.2.2.2.2.2.2.2.2.2.2.2.2.1 hS0.2.2.2.2.2.2.2.2.2.2.2.2.2.2.2.2.2.2.2.2.2.2.2.2.2.2.1 hS0.2.2.2.2.2.2.2.2.2.2.2.2.2.2.2.2.2.2.2.2.2.2.2.2.2.2.2.1 hS0.2.2.2.2.2.2.2.2.2.2.2.2.2.2.2.2.2.2.2.2.2.2.2.2.2.2.2.2.1 hS0.2.2.2.2.2.2.2.2.2.2.2.2.2.2.2.2.2.2.2.2.2.2.2.2.2.2.2.2.2).trans ?_
        with_reducible rfl
      (try simp only [lzP, lzA, lzS])
      refine wfE 6 rfl ?_
      (try simp only [lzP, lzA, lzS])
      refine wfE 7 rfl ?_
      (try simp only [lzP, lzA, lzS])
      refine wpAnyE_ready (rs := [8]) (by as_aux_lemma => kernel_rfl) (by simp) ?_
      refine AllReadyE.last (o := _) rfl (fun K hK => ?_)
      rw [if_pos (by as_aux_lemma => rfl)]
      (try simp only [lzA])
      go_simp
      (go_at_call 146; refine (HCn.out _ (HJ9.out.drew.get 8 rfl)).mono ?_; rintro e w9 ⟨rfl, f9, ht9⟩)
      (try (go_wp2_with fail))
      refine hK.out _ _ trivial (fun _ => ?_)
      clear hK K
      (try simp only [lzP, lzA, lzS])
      refine wpAnyE_done (by as_aux_lemma => kernel_rfl) ?_ _
      have J9 := HJ9.out.drew.turn 8 rfl ht9
      have HJ10 := hid J9
      have q0 : w9.cell? ⟨B, 0, none⟩ = some (.int .i64 st) := cA (J9.get 0 rfl) 0
      clear J9 ht9 HJ9 S0 hHeld
      go_wp2_with (fail)
      go_upto_region 6 with fail
      have HLW : Hid (∀ w', (fam nw (fun w => wkR key (p.wp w) (s.wk w))).R w' → Hav (many (wkL key l k)).B w' (wkL key l k) w') := hid (fun w' hf => by
        have h1 := fam_get hf hw
        rw [hkk, hl] at h1
        exact Hav.open h1)
      obtain ⟨aa, ac, haa⟩ : ∃ a c, l.av = .slice a 0 c := by
        have h1 := (HLW.out _ (HJ10.out.get 10 rfl)).get 2 rfl
        rw [hp] at h1
        exact row_v h1
      have HAA := hid haa
      have hph := hp
      have ewk : wkL key l k = [cAt l.b (wkC l k) 143, rowAt (.slice (some ⟨l.cb, 0, none⟩) 1 l.cc) 56 16 1 (cdM key k.cmd).vs.toList, rowAt (.slice aa 0 ac) 52 13 0 [], rowAt l.hv 3 1 1 [.int .i64 0]] := by
        unfold wkL
        rw [hph, haa]
        rfl
      have HK0 := HLW.out _ (HJ10.out.drew.get 10 rfl)
      rw [ewk] at HK0
      have hr0 : (rowAt (.slice aa 0 ac) 52 13 0 []).R w9.drew := HK0.get 2 rfl
      have HAC : Hid (∀ w', (cAt l.b (wkC l k) 143).R w' → w'.cell? ⟨l.b, 14, none⟩ = some (.slice aa 0 ac)) := hid (fun w' hr => (cA hr 14).trans (by rw [← haa]; rfl))
      have HTK : Hid (∀ (r' : Res) (w' w'' : World), Turn (many (wkL key l k)) r' w' w'' → Turn (wkR key (p.wp wi) (s.wk wi)) r' w' w'') := hid (fun r' w' w'' t => by rw [hkk, hl]; exact t)
      rw [ewk] at HTK
      have HEW := hid ewk
      have HHK := hid HK0
      have HG9 := hid (fam_get (HJ10.out.drew.get 10 rfl) hw)
      have HF9 : Hid (∀ (r' : Res) (w'' : World), Turn (wkR key (p.wp wi) (s.wk wi)) r' w9.drew w'' → Turn (fam nw (fun w => wkR key (p.wp w) (s.wk w))) (fam nw (PM.upd (fun w => wkR key (p.wp w) (s.wk w)) wi r')) w9.drew w'') := hid (fun r' w'' t => fam_turn (HJ10.out.drew.get 10 rfl) hw t)
      clear HK0 ewk haa
      have S0 : (fun w' => w'.cell? ⟨l.b, 14, none⟩ = some (.slice aa 0 ac) ∧ w'.cell? ⟨B, 0, none⟩ = some (.int .i64 st) ∧ w'.cell? ⟨B, 1, none⟩ = some (.string ak) ∧ w'.cell? ⟨B, 2, none⟩ = some (.int .u32 afl) ∧ w'.cell? ⟨B, 3, none⟩ = some (.string av) ∧ w'.cell? ⟨B, 4, none⟩ = some (.int .i64 0) ∧ w'.cell? ⟨B, 5, none⟩ = some (.int .u64 aca) ∧ w'.cell? ⟨B, 6, none⟩ = some (.int .i64 ala) ∧ w'.cell? ⟨B, 7, none⟩ = some (.bool false) ∧ w'.cell? ⟨B, 8, none⟩ = some (.bool false) ∧ w'.cell? ⟨B, 9, none⟩ = some (.int .u64 num) ∧ w'.cell? ⟨B, 10, none⟩ = some (.bool false) ∧ w'.cell? ⟨B, 11, none⟩ = some (.bool false) ∧ w'.cell? ⟨B, 12, none⟩ = some (.bool false)) w9.drew := ⟨HAC.out _ (HHK.out.get 0 rfl), cA (HJ10.out.drew.get 0 rfl) 0, cA (HJ10.out.drew.get 0 rfl) 1, cA (HJ10.out.drew.get 0 rfl) 2, cA (HJ10.out.drew.get 0 rfl) 3, cA (HJ10.out.drew.get 0 rfl) 4, cA (HJ10.out.drew.get 0 rfl) 5, cA (HJ10.out.drew.get 0 rfl) 6, cA (HJ10.out.drew.get 0 rfl) 7, cA (HJ10.out.drew.get 0 rfl) 8, cA (HJ10.out.drew.get 0 rfl) 9, cA (HJ10.out.drew.get 0 rfl) 10, cA (HJ10.out.drew.get 0 rfl) 11, cA (HJ10.out.drew.get 0 rfl) 12⟩
      refine wp_region_E (fun w' => w'.cell? ⟨l.b, 14, none⟩ = some (.slice aa 0 ac) ∧ w'.cell? ⟨B, 0, none⟩ = some (.int .i64 st) ∧ w'.cell? ⟨B, 1, none⟩ = some (.string ak) ∧ w'.cell? ⟨B, 2, none⟩ = some (.int .u32 afl) ∧ w'.cell? ⟨B, 3, none⟩ = some (.string av) ∧ w'.cell? ⟨B, 4, none⟩ = some (.int .i64 0) ∧ w'.cell? ⟨B, 5, none⟩ = some (.int .u64 aca) ∧ w'.cell? ⟨B, 6, none⟩ = some (.int .i64 ala) ∧ w'.cell? ⟨B, 7, none⟩ = some (.bool false) ∧ w'.cell? ⟨B, 8, none⟩ = some (.bool false) ∧ w'.cell? ⟨B, 9, none⟩ = some (.int .u64 num) ∧ w'.cell? ⟨B, 10, none⟩ = some (.bool false) ∧ w'.cell? ⟨B, 11, none⟩ = some (.bool false) ∧ w'.cell? ⟨B, 12, none⟩ = some (.bool false)) 11 (by kernel_rfl) S0 (fun hHeld => ?_)
      refine wfE 0 rfl ?_
      (try simp only [lzP, lzA, lzS])
      refine wfE 1 rfl ?_
      (try simp only [lzP, lzA, lzS])
      refine wfE 2 rfl ?_
      (try simp only [lzP, lzA, lzS])
      refine wfE 3 rfl ?_
      (try simp only [lzP, lzA, lzS])
      refine wfE 4 rfl ?_
      (try simp only [lzP, lzA, lzS])
      refine wkE 5 rfl ?_
      (try simp only [lzP, lzA, lzS])
      refine wkT 6 (v := ?_) rfl ?_ ?_
      rotate_left
      · intro w0 hS0
        (try simp only [lzA])
        refine (ld_ans (by rfl) hS0.2.1 hS0.2.2.1 hS0.2.2.2.1 hS0.2.2.2.2.1 hS0.2.2.2.2.2.1 hS0.2.2.2.2.2.2.1 hS0.2.2.2.2.2.2.2.1 hS0.2.2.2.2.2.2.2.2.1 hS0.2.2.2.2.2.2.2.2.2.1 hS0.2.2.2.2.2.2.2.2.2.2.1 hS0.2.2.2.2.2.2.2.2.2.2.2.1 hS0.2.2.2.2.2.2.2.2.2.2.2.2.1 hS0.2.2.2.2.2.2.2.2.2.2.2.2.2).trans ?_
        with_reducible rfl
      (try simp only [lzP, lzA, lzS])
      refine wpAnyE_ready (rs := [7]) (by as_aux_lemma => kernel_rfl) (by simp) ?_
      refine AllReadyE.cons (o := _) rfl (fun K hK => ?_) AllReadyE.nil
      rw [if_pos (by as_aux_lemma => rfl)]
      (try simp only [lzA])
      go_simp
      refine hK.out _ _ ⟨HAC.out _ ((HHK.out.alloc _).get 0 rfl), cA ((HJ10.out.drew.alloc _).get 0 rfl) 0, cA ((HJ10.out.drew.alloc _).get 0 rfl) 1, cA ((HJ10.out.drew.alloc _).get 0 rfl) 2, cA ((HJ10.out.drew.alloc _).get 0 rfl) 3, cA ((HJ10.out.drew.alloc _).get 0 rfl) 4, cA ((HJ10.out.drew.alloc _).get 0 rfl) 5, cA ((HJ10.out.drew.alloc _).get 0 rfl) 6, cA ((HJ10.out.drew.alloc _).get 0 rfl) 7, cA ((HJ10.out.drew.alloc _).get 0 rfl) 8, cA ((HJ10.out.drew.alloc _).get 0 rfl) 9, cA ((HJ10.out.drew.alloc _).get 0 rfl) 10, cA ((HJ10.out.drew.alloc _).get 0 rfl) 11, cA ((HJ10.out.drew.alloc _).get 0 rfl) 12⟩ (fun hS7 => ?_)
      clear hK K
      (try simp only [lzP, lzA, lzS])
      refine wpAnyE_ready (rs := [8]) (by as_aux_lemma => kernel_rfl) (by simp) ?_
      refine AllReadyE.cons (o := _) rfl (fun K hK => ?_) AllReadyE.nil
      (refine step_appEl elem_an rfl _ _ (by rfl) (by rfl) hr0 (by rfl) rfl (by simp [Value.oneCell']) (by omega) (by omega) ?_; intro g1 cap1 w10 ht; have HK1 := HHK.out.turn 2 rfl ht; have J11 := HJ10.out.drew.turn 10 rfl (HF9.out _ _ (HTK.out _ _ _ HK1.shut)))
      refine hK.out _ _ ⟨HAC.out _ (HK1.get 0 rfl), cA (J11.get 0 rfl) 0, cA (J11.get 0 rfl) 1, cA (J11.get 0 rfl) 2, cA (J11.get 0 rfl) 3, cA (J11.get 0 rfl) 4, cA (J11.get 0 rfl) 5, cA (J11.get 0 rfl) 6, cA (J11.get 0 rfl) 7, cA (J11.get 0 rfl) 8, cA (J11.get 0 rfl) 9, cA (J11.get 0 rfl) 10, cA (J11.get 0 rfl) 11, cA (J11.get 0 rfl) 12⟩ (fun hS8 => ?_)
      clear hK K
      (try simp only [lzP, lzA, lzS])
      have b14 : w10.cell? ⟨l.b, 14, none⟩ = some (.slice aa 0 ac) := HAC.out _ (HK1.get 0 rfl)
      have z14 : w10.frozen? ⟨l.b, 14, none⟩ = false := cZ (HK1.get 0 rfl) 14
      have b15 : w10.cell? ⟨l.b, 15, none⟩ = some (.int .i64 k.ph) := cA (HK1.get 0 rfl) 15
      have z15 : w10.frozen? ⟨l.b, 15, none⟩ = false := cZ (HK1.get 0 rfl) 15
      have t1 := cl_set (HK1.get 0 rfl) 14 (.slice (some ⟨g1, 0, none⟩) (0 + 1) cap1)
      have t2 := t1.trans (cl_set t1.here 15 (.int .i64 2))
      have hav2 := HAn.out
      obtain ⟨hA, hsd, hst, hnum⟩ := hav2
      obtain ⟨l', hl'⟩ : ∃ l' : Wl, l' = { l with av := .slice (some ⟨g1, 0, none⟩) 1 cap1 } := ⟨_, rfl⟩
      obtain ⟨k', hk'⟩ : ∃ k' : PM.Wk Cd An, k' = { k with ph := 2, ans := (PM.stp s.data k.cmd).2 } := ⟨_, rfl⟩
      have ec : ((wkC l k).setIfInBounds 14 (.slice (some ⟨g1, 0, none⟩) (0 + 1) cap1)).setIfInBounds 15 (.int .i64 2) = wkC l' k' := by rw [hl', hk']; simp [wkC]
      rw [ec] at t2
      have T3 := (HK1.turn 0 rfl t2).shut
      have er : many ((([cAt l.b (wkC l k) 143, rowAt (.slice (some ⟨l.cb, 0, none⟩) 1 l.cc) 56 16 1 (cdM key k.cmd).vs.toList, rowAt (.slice aa 0 ac) 52 13 0 [], rowAt l.hv 3 1 1 [.int .i64 0]] : List Res).set 2 (rowAt (.slice (some ⟨g1, 0, none⟩) (0 + 1) cap1) 52 13 (0 + 1) ([] ++ (#[.int .i64 st, .string ak, .int .u32 afl, .string av, .int .i64 0, .int .u64 aca, .int .i64 ala, .bool false, .bool false, .int .u64 num, .bool false, .bool false, .bool false] : Array Value).toList))).set 0 (cAt l.b (wkC l' k') 143)) = wkR key l' (some k') := by
        rw [hl', hk']
        show many [_, _, _, _] = many [_, _, _, _]
        dsimp only
        rw [if_pos rfl, if_pos rfl, if_neg (by decide), if_neg (by decide), hA, hst, hnum]
        rfl
      rw [er] at T3
      have J12 := HJ10.out.drew.turn 10 rfl (HF9.out _ _ (HTK.out _ _ _ T3))
      rw [← wk_fam] at J12
      obtain ⟨hm1, hm2, hm3⟩ := HM1.out
      obtain ⟨p', hp'⟩ : ∃ p' : Pl, p' = { p with el := .slice (some ⟨g7, 0, none⟩) (s.ev.length + 1) cap7, sn := f9, m := m', wp := PM.upd p.wp wi l' } := ⟨_, rfl⟩
      have e0 : (svC nw ns nc p).setIfInBounds 7 (.slice (some ⟨g7, 0, none⟩) (s.ev.length + 1) cap7) = svC nw ns nc p' := by rw [hp']; simp [svC, hm1]
      have e4 : xs ++ (#[.int .i64 1, .int .i64 1, .int .i64 k.of, .int .i64 k.seq, .int .i64 0, .int .i64 op, .int .i64 mode, .string ckey, .string value, .int .u32 flags, .int .i64 exp, .bool false, .int .u64 tok, .bool hasCas, .int .u64 delta, .int .u64 0, .bool false, .bool false, .int .i64 0, .int .i64 recache, .bool false, .int .i64 st, .string ak, .int .u32 afl, .string av, .int .i64 0, .int .u64 aca, .int .i64 ala, .bool false, .bool false, .int .u64 num, .bool false, .bool false, .bool false, .slice none 0 0] : Array Value).toList = (PM.doit PM.stp s wi k).ev.flatMap (evC key) := by
        show _ = (s.ev ++ [_]).flatMap (evC key)
        rw [List.flatMap_append, HXS.out, List.flatMap_singleton]
        unfold evC
        dsimp only
        rw [hA, hst, hnum, hc]
        rfl
      have hlen : (PM.doit PM.stp s wi k).ev.length = s.ev.length + 1 := by
        show (s.ev ++ [_]).length = _
        rw [List.length_append, List.length_singleton]
      have hrow := wk_row (nw := nw) (p := p) (s := s) (l' := l') (k' := k') (ho := s.holder) hkk (by rw [hl', hl])
      rw [e0, e4] at J12
      have HE : Hid (Turn (svR key h bk nw ns nc p s) (svR key h bk nw ns nc p' (PM.doit PM.stp s wi k)) w ((w10.setCell ⟨l.b, 14, none⟩ (.slice (some ⟨g1, 0, none⟩) (0 + 1) cap1)).setCell ⟨l.b, 15, none⟩ (.int .i64 2))) := hid (by
        have h6 := (J12.sub (.cons _ (.cons _ (List.Sublist.refl _)))).shut
        show Turn _ (many (svL key h bk nw ns nc p' (PM.doit PM.stp s wi k))) w _
        unfold svL
        rw [hlen]
        have e8 : PM.upd s.wk wi (some k') = (PM.doit PM.stp s wi k).wk := by rw [hk']; rfl
        rw [← hsd] at h6
        subst hp'
        rw [show lst nw (wkV _ (PM.doit PM.stp s wi k)) = lst nw (wkV p s) from (by rw [hk'] at hrow; exact hrow)]
        rw [e8] at h6
        exact h6)
      have HFin : Hid (p'.b = p.b ∧ p'.m.ps.num ≤ p.m.ps.num + 1 ∧ StoOk key p'.m (PM.stp s.data k.cmd).1) := hid (by rw [hp', hsd]; exact ⟨rfl, hm2, hm3⟩)
      clear J12 T3 t1 t2 HK1 J11 er ec e0 e4 hlen hrow ht hp' hA hsd hst hnum hm1 hm2 hm3 hr0
      refine wfE 9 rfl ?_
      (try simp only [lzP, lzA, lzS])
      refine wfE 10 rfl ?_
      (try simp only [lzP, lzA, lzS])
      refine wpAnyE_ready (rs := [11]) (by as_aux_lemma => kernel_rfl) (by simp) ?_
      refine AllReadyE.last (o := _) rfl (fun K hK => ?_)
      rw [if_pos (by as_aux_lemma => rfl)]
      (try simp only [lzA])
      go_simp
      refine hK.out _ _ trivial (fun _ => ?_)
      clear hK K
      (try simp only [lzP, lzA, lzS])
      refine wgE 12 rfl ?_
      (try simp only [lzP, lzA, lzS])
      refine wgE 13 rfl ?_
      (try simp only [lzP, lzA, lzS])
      refine wpAnyE_ready (rs := [14]) (by as_aux_lemma => kernel_rfl) (by simp) ?_
      refine AllReadyE.consB (by as_aux_lemma => kernel_rfl) (o := _) rfl (fun K hK => ?_) AllReadyE.nil
      rw [if_pos (by as_aux_lemma => rfl)]
      (try simp only [lzA])
      go_simp
      refine hK.out _ _ trivial (fun _ => ?_)
      clear hK K
      (try simp only [lzP, lzA, lzS])
      refine wpAnyE_done (by as_aux_lemma => kernel_rfl) ?_ _
      go_wp2_with (fail)
      go_end0
      exact ⟨rfl, p', HFin.out.1, HFin.out.2.1, HFin.out.2.2, HE.out⟩
end
end Go.Proofs.YtboehbfagnocpaaGreatDoor
