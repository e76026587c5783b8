/- Tnz, Tnk, Tua, Tub, Tam, Twf, Tld, Tev, Top, Thv, Ttn, Tto, Tnq, Tnr. -/
import Derived.Test.YtboehbfagnocpaaGreatDoorUbm
import Derived.Test.YtboehbfagnocpaaGreatDoorUbc
set_option linter.unusedVariables false
set_option linter.unusedSimpArgs false
set_option maxRecDepth 100000
open Go.Proofs.Tryz
open Go.Lib (hid)
namespace Go.Proofs.YtboehbfagnocpaaGreatDoor
open Go.RowKit Go.PlainAid Go.Shelf
open PM (Cd An Sd Vl)
theorem nx_set {key : ByteArray} {kc fc vc : UInt8} {f : Nat} {v : Vl} (hkd : key = ⟨#[kc]⟩) (hkb : W2.keyB key = true) (htx : txC key (.set f v) = ⟨#[115, 101, 116, 32, kc, 32, fc, 32, 48, 32, 49, 13, 10, vc, 13, 10]⟩) (hv : vlB v = ⟨#[vc]⟩)
    (h10 : (10 : UInt8) ∉ [115, 101, 116, 32, kc, 32, fc, 32, 48, 32, 49, 13]) (hw : (W2.P.words ⟨#[115, 101, 116, 32, kc, 32, fc, 32, 48, 32, 49]⟩).map W2.P.mk = [⟨#[115, 101, 116]⟩, ⟨#[kc]⟩, ⟨#[fc]⟩, ⟨#[48]⟩, ⟨#[49]⟩])
    (htr : Lib.trimLeftB [115, 101, 116, 32, kc, 32, fc, 32, 48, 32, 49] 32 = [115, 101, 116, 32, kc, 32, fc, 32, 48, 32, 49]) (hsf : Lib.trimSuffix [115, 101, 116, 32, kc, 32, fc, 32, 48, 32, 49, 13] [13] = [115, 101, 116, 32, kc, 32, fc, 32, 48, 32, 49]) (hup : W2.P.upto 32 [115, 101, 116, 32, kc, 32, fc, 32, 48, 32, 49] = [115, 101, 116])
    (hn : LnN ⟨#[fc]⟩ ⟨#[48]⟩ ⟨#[49]⟩ f 1 0) (hs1 : Lib.hasSuffix [vc, 13, 10] [13, 10] = true) (hs2 : Lib.trimSuffix [vc, 13, 10] [13, 10] = [vc]) : Nx key (.set f v) := by
  subst hkd
  refine ⟨fun rest out c w hz ho h => ?_⟩
  obtain ⟨R, hR⟩ : ∃ R, txS ⟨#[kc]⟩ rest = R := ⟨_, rfl⟩
  have hb : txS ⟨#[kc]⟩ (.set f v :: rest) = ⟨#[115, 101, 116, 32, kc, 32, fc, 32, 48, 32, 49, 13, 10, vc, 13, 10]⟩ ++ R := by
    show txC ⟨#[kc]⟩ (.set f v) ++ txS ⟨#[kc]⟩ rest = _
    rw [hR, htx]
  rw [hb] at h hz ⊢
  rw [hR]
  obtain ⟨b, hbb⟩ : ∃ b, (⟨#[115, 101, 116, 32, kc, 32, fc, 32, 48, 32, 49, 13, 10, vc, 13, 10]⟩ ++ R : ByteArray) = b := ⟨_, rfl⟩
  have hsl : W2.P.sl b = [115, 101, 116, 32, kc, 32, fc, 32, 48, 32, 49, 13] ++ 10 :: ([vc, 13, 10] ++ R.data.toList) := by rw [← hbb]; unfold W2.P.sl; rw [ByteArray.data_append]; simp
  have hsz : b.size = 16 + R.size := by rw [← hbb, ByteArray.size_append]; rfl
  have hex : b.extract (13 + 3) b.size = R := by rw [← hbb]; exact ext_app _ R
  have hbe : b.extract 13 b.size = ⟨#[vc, 13, 10]⟩ ++ R := by
    rw [← hbb, show (⟨#[115, 101, 116, 32, kc, 32, fc, 32, 48, 32, 49, 13, 10, vc, 13, 10]⟩ ++ R : ByteArray) = ⟨#[115, 101, 116, 32, kc, 32, fc, 32, 48, 32, 49, 13, 10]⟩ ++ (⟨#[vc, 13, 10]⟩ ++ R) from ByteArray.ext (by rw [ByteArray.data_append, ByteArray.data_append, ByteArray.data_append, ← Array.append_assoc]; rfl)]
    exact ext_app _ _
  have hb3 : ((⟨#[vc, 13, 10]⟩ ++ R : ByteArray).extract 0 (1 + 2)).data.toList = [vc, 13, 10] := by
    rw [ByteArray.data_extract, ByteArray.data_append, Array.toList_extract, Array.toList_append, List.extract_eq_take_drop]
    simp
  rw [hbb] at h hz ⊢
  have hrq : RqF b ⟨#[115, 101, 116, 32, kc, 32, fc, 32, 48, 32, 49]⟩ ⟨#[115, 101, 116]⟩ 13 := rqf_of hsl h10 (by rw [hsf]; rfl) rfl hz htr (by show W2.P.mk (W2.P.upto 32 [115, 101, 116, 32, kc, 32, fc, 32, 48, 32, 49]) = _; rw [hup]; rfl) (by decide) (by show (11 : Nat) ≤ 2000; decide)
  have hnx := next_of (used := 3) (row := fun cb cc => rowAt (.slice (some ⟨cb, 0, none⟩) 1 cc) 56 16 1 (cdM ⟨#[kc]⟩ (.set f v)).vs.toList) h ho hz (by omega) (fun W => cparse_of hrq (fun W => parse_of (used := 3) (ws := [⟨#[kc]⟩, ⟨#[fc]⟩, ⟨#[48]⟩, ⟨#[49]⟩]) (name := ⟨#[115, 101, 116]⟩) hrq.lt hrq.ln' (by decide) (by omega) hz (by show (11 : Nat) ≤ 2000; decide) (by decide) hw (by show 1 ≤ 4; decide) (fun V lb wb cap hl hws => by
    have h0 := cA hl 0
    refine read_set (wb := wb) (cap := cap) hl h0 (fun V' hb' => ?_)
    have hl' := Res.keep _ hl (Tch.of_below (fun _ => False) hb') (fun _ _ x => x)
    rw [hbe] at hl' ⊢
    refine (store_set (lb := lb) (wb := wb) (cap := cap) hl' (fun i y hy => (hb'.cell (p := ⟨wb, 1 + i, none⟩) (cell_lt (hws i y hy))).trans (hws i y hy)) hn hkb (by show (1 : Nat) ≤ 250; decide) (by decide +kernel) (by rw [ByteArray.size_append]; show 3 ≤ 3 + R.size; omega) (by rw [ByteArray.size_append]; show 3 + R.size ≤ 100000; omega) (by rw [hb3]; exact hs1)).mono ?_
    rintro e w' ⟨g, rfl, t⟩
    rw [hb3, hs2] at t
    refine ⟨g, 1, rfl, ?_⟩
    have e1 : (cdM ⟨#[kc]⟩ (.set f v)).vs = ({ cm0 with op := 2, key := ⟨#[kc]⟩, flags := f, exp := 0, value := ⟨[vc].toArray⟩, recache := -1 } : Cm).vs := by
      unfold cdM
      dsimp only
      rw [hv]
      rfl
    rw [e1]
    exact t) W) W)
  rw [hex] at hnx
  exact hnx
theorem ln0 : LnN ⟨#[48]⟩ ⟨#[48]⟩ ⟨#[49]⟩ 0 1 0 := ⟨⟨by decide +kernel, by decide, by decide⟩, by kernel_rfl, ⟨by decide +kernel, by decide, by decide⟩, by kernel_rfl, ⟨by decide +kernel, by decide, by decide⟩, by decide +kernel, by kernel_rfl, by decide, by decide, by decide, by decide⟩
theorem ln3 : LnN ⟨#[51]⟩ ⟨#[48]⟩ ⟨#[49]⟩ 3 1 0 := ⟨⟨by decide +kernel, by decide, by decide⟩, by kernel_rfl, ⟨by decide +kernel, by decide, by decide⟩, by kernel_rfl, ⟨by decide +kernel, by decide, by decide⟩, by decide +kernel, by kernel_rfl, by decide, by decide, by decide, by decide⟩
theorem nx_set_3 : Nx ⟨#[107]⟩ (.set 3 PM.vV) := nx_set (kc := 107) (fc := 51) (vc := 118) rfl (by decide +kernel) (by decide +kernel) rfl (by decide) (by decide +kernel) (by decide +kernel) (by decide +kernel) (by decide +kernel) ln3 (by decide +kernel) (by decide +kernel)
end Go.Proofs.YtboehbfagnocpaaGreatDoor
namespace Go.Proofs.YtboehbfagnocpaaGreatDoor
open Go.RowKit Go.PlainAid
def tE : Value → Option (DataW Unit × List MemPlace)
  | .agg ⟨[.int .i64 a, .int .i64 b]⟩ => if b = 0 then some (.lit (.int .i64 a), []) else none
  | _ => none
theorem tE_val (a : Int) : tE (.agg #[.int .i64 a, .int .i64 0]) = some (.lit (.int .i64 a), []) := rfl
theorem tE_inv {v : Value} {a : Int} {ps : List MemPlace} (h : tE v = some (.lit (.int .i64 a), ps)) : v = .agg #[.int .i64 a, .int .i64 0] := by
  unfold tE at h
  split at h
  · rename_i x y
    split at h
    · rename_i e
      subst e
      simp only [Option.some.injEq, Prod.mk.injEq, DataW.lit.injEq, Lit.int.injEq, true_and] at h
      rw [h.1]
    · cases h
  · cases h
theorem zeroT (w : World) : (zeroValue 321).run prog w = .ok (.agg #[.int .i64 0, .int .i64 0]) w := by
  have h : (prog.info? 321).map (fun i => i.zero) = some (some (.agg #[.int .i64 0, .int .i64 0])) := by kernel_rfl
  obtain ⟨i, hi, hz⟩ := Option.map_eq_some_iff.1 h
  simp [zeroValue, typeInfo, hi, hz]
def mapT (mb N : Nat) (o : Option Int) : Res where
  R w := ∃ D : DataW Unit, w.ownsMap prog 3 tE mb N D ∧ Maps.has D k0 = o.isSome ∧ ∀ v, o = some v → D.atKey k0 (.lit (.int .i64 0)) = .lit (.int .i64 v)
  B x := x = mb
  keep := by
    rintro w w' T ⟨D, ⟨es, clock, h1, h2⟩, hD⟩ ht hd
    exact ⟨D, ⟨es, clock, (ht.block _ (Array.getElem?_eq_some_iff.1 h1).1 (hd _ rfl)).trans h1, h2⟩, hD⟩
  lt := by
    rintro w b ⟨D, ho, _⟩ rfl
    exact ho.lt
theorem mapT_look {w : World} {mb N : Nat} {o : Option Int} (h : (mapT mb N o).R w) :
    (Instr.lookup 244 (.map (some mb)) (.int .i64 0) true).run prog w = .ok (.tuple #[.agg #[.int .i64 (o.getD 0), .int .i64 0], .bool o.isSome]) w := by
  obtain ⟨D, ho, hh, hv⟩ := h
  obtain ⟨v, ps, hrun, he⟩ := ho.look_ok keyI underlying244 (zeroT w) (tE_val 0) (Maps.keyOf_int_mk underlying3 (a := 0) (by decide))
  rw [hrun, show Maps.has D (.int .i64 0) = o.isSome from hh]
  cases o with
  | none =>
    rw [Maps.atKey_of_not_has (show Maps.has D (.int .i64 0) = false from hh)] at he
    rw [tE_inv he]; rfl
  | some x =>
    rw [show D.atKey (.int .i64 0) (.lit (.int .i64 0)) = .lit (.int .i64 x) from hv x rfl] at he
    rw [tE_inv he]; rfl
theorem mapT_put {w : World} {mb N : Nat} {o : Option Int} (h : (mapT mb N o).R w) (v : Int) (hN : N < maxLen) :
    ∃ w', (Instr.mapUpdate 244 (.map (some mb)) (.int .i64 0) (.agg #[.int .i64 v, .int .i64 0])).run prog w = .ok () w' ∧ Turn (mapT mb N o) (mapT mb (N + 1) (some v)) w w' := by
  obtain ⟨D, ho, hh, _⟩ := h
  obtain ⟨w', hrun, ho', hg⟩ := ho.update keyI underlying244 hN (Maps.keyOf_int_mk underlying3 (a := 0) (by decide)) (tE_val v)
  refine ⟨w', hrun, ⟨_, ho', ?_, fun x hx => ?_⟩, (Tch.of_grown hg).mono (fun b hb => by injection hb with hb; exact hb.symm), fun b hb => .inl hb⟩
  · exact Maps.has_put_same ho.isMap (by trivial) _
  · cases hx
    exact Maps.atKey_put_same ho.isMap (by trivial) _ _
theorem mapT_new (w : World) : (mapT w.heap.size 0 none).R (w.alloc (.map #[] 0)) :=
  ⟨.map [], World.ownsMap_made w _ _ _, rfl, fun v h => by cases h⟩
section
variable (st : Int) (ak : ByteArray) (afl : Int) (av : ByteArray) (aca ala num : Int) (w : World)
theorem run_eq_12 (h : ¬ st = 12) :
    (binOp .eql 52 (.agg #[.int .i64 st, .string ak, .int .u32 afl, .string av, .int .i64 0, .int .u64 aca, .int .i64 ala, .bool false, .bool false, .int .u64 num, .bool false, .bool false, .bool false]) (.agg #[.int .i64 12, .string ⟨#[]⟩, .int .u32 0, .string ⟨#[]⟩, .int .i64 0, .int .u64 0, .int .i64 0, .bool false, .bool false, .int .u64 0, .bool false, .bool false, .bool false])).run prog w = .ok (.bool false) w := by
  have hp : prog.stoodInHeld 52 = false := by kernel_rfl
  have hp2 : prog.stoodInHeld 50 = false := by kernel_rfl
  simp only [binOp]
  simp [Op.equal, Op.maxDepth, run_equalIn_struct w _ 52 _ _ underlying52 hp, go_sem, h]
theorem run_ne_same :
    (binOp .neq 52 (.agg #[.int .i64 st, .string ak, .int .u32 afl, .string av, .int .i64 0, .int .u64 aca, .int .i64 ala, .bool false, .bool false, .int .u64 num, .bool false, .bool false, .bool false]) (.agg #[.int .i64 st, .string ak, .int .u32 afl, .string av, .int .i64 0, .int .u64 aca, .int .i64 ala, .bool false, .bool false, .int .u64 num, .bool false, .bool false, .bool false])).run prog w = .ok (.bool false) w := by
  have hp : prog.stoodInHeld 52 = false := by kernel_rfl
  have hp2 : prog.stoodInHeld 50 = false := by kernel_rfl
  simp only [binOp]
  simp [Op.equal, Op.maxDepth, run_equalIn_struct w _ 52 _ _ underlying52 hp, run_equalIn_struct w _ 50 _ _ underlying50 hp2, go_sem, I8.toList_inj]
end
end Go.Proofs.YtboehbfagnocpaaGreatDoor
namespace Go.Proofs.YtboehbfagnocpaaGreatDoor.PM
section
variable {S C A : Type} {step : S → C → S × A} {a0 : A} {s : St S C A} {c : Nat} {x : C}
theorem all_sts (hw : s.wk 0 = none) (hb : s.busy c = false) (hh : s.holder = none) (hq : s.q c = [x]) (ho : s.out c = []) :
    allS step a0 s c 1 = take a0 s 0 c x [] ∧ allS step a0 s c 2 = lock (take a0 s 0 c x []) 0 ⟨c, s.seq c + 1, x, 0, a0⟩ ∧ allS step a0 s c 3 = doit step (lock (take a0 s 0 c x []) 0 ⟨c, s.seq c + 1, x, 0, a0⟩) 0 ⟨c, s.seq c + 1, x, 1, a0⟩ := by
  have e1 : work step a0 s 0 c = (true, take a0 s 0 c x []) := by unfold work; rw [hw, hb, hq]
  have s1 : allS step a0 s c 1 = take a0 s 0 c x [] := by
    show wr (work step a0 s 0 c).2 c = _
    rw [e1]
    unfold wr take
    dsimp only
    rw [upd_self s.out c ho]
  have e2 : work step a0 (allS step a0 s c 1) 0 c = (true, lock (take a0 s 0 c x []) 0 ⟨c, s.seq c + 1, x, 0, a0⟩) := by
    rw [s1]
    unfold work
    simp only [take, upd_same, if_pos, hh, Option.isSome, Bool.false_eq_true, if_false]
  have s2 : allS step a0 s c 2 = lock (take a0 s 0 c x []) 0 ⟨c, s.seq c + 1, x, 0, a0⟩ := by
    show wr (work step a0 (allS step a0 s c 1) 0 c).2 c = _
    rw [e2]
    unfold wr lock take
    dsimp only
    rw [upd_self s.out c ho]
  have e3 : work step a0 (allS step a0 s c 2) 0 c = (true, doit step (lock (take a0 s 0 c x []) 0 ⟨c, s.seq c + 1, x, 0, a0⟩) 0 ⟨c, s.seq c + 1, x, 1, a0⟩) := by
    rw [s2]
    unfold work
    simp only [take, lock, upd_same]
    rfl
  refine ⟨s1, s2, ?_⟩
  show wr (work step a0 (allS step a0 s c 2) 0 c).2 c = _
  rw [e3]
  unfold wr doit lock take
  dsimp only
  rw [upd_self s.out c ho]
theorem all_hd (hw : s.wk 0 = none) (hb : s.busy c = false) (hh : s.holder = none) (hq : s.q c = [x]) (ho : s.out c = []) {k : Nat} (hk : k ≤ 4) {kk : Wk C A} (h : (allS step a0 s c k).wk 0 = some kk) (hp : kk.ph = 1) : (allS step a0 s c k).data = s.data ∧ kk.cmd = x := by
  obtain ⟨s1, s2, s3⟩ := all_sts (step := step) (a0 := a0) hw hb hh hq ho
  have s4 := (all_run (step := step) (a0 := a0) hw hb hh hq ho).2.2.2.1
  rcases (by omega : k = 0 ∨ k = 1 ∨ k = 2 ∨ k = 3 ∨ k = 4) with rfl | rfl | rfl | rfl | rfl
  · replace h : s.wk 0 = some kk := h
    rw [hw] at h; cases h
  · rw [s1] at h
    simp only [take, upd_same] at h
    cases h; cases hp
  · rw [s2] at h ⊢
    simp only [lock, upd_same] at h
    cases h
    exact ⟨rfl, rfl⟩
  · rw [s3] at h
    simp only [doit, upd_same] at h
    cases h; cases hp
  · rw [s4] at h
    replace h : s.wk 0 = some kk := h
    rw [hw] at h; cases h
theorem left_fd {nw nc : Nat} (hc : c < nc) : left nw nc (fd s c x) = left nw nc s + 4 := by
  have h1 := sumTo_upd (fun (l : List C) => 4 * l.length) s.q c (s.q c ++ [x]) hc
  rw [List.length_append, List.length_singleton] at h1
  show sumTo (fun d => 4 * (upd s.q c (s.q c ++ [x]) d).length) nc + sumTo (fun v => rem (s.wk v)) nw = _
  unfold left
  omega
end
end Go.Proofs.YtboehbfagnocpaaGreatDoor.PM
namespace Go.Proofs.YtboehbfagnocpaaGreatDoor
open Go.RowKit Go.PlainAid
section
variable {P : Program} {ops : Array Oper} {Q : Exit → Act → World → Prop} {md : Region.Mode} {S : World → Prop} {z : Nat}
theorem AllReadyE.consB {fuel : Nat} {listed : Array Bool} {a : Act} {w : World} {i : Nat} {o : Oper} {rs : List Nat} (hz : listed.getD z true = true) (ho : ops[i]? = some o)
    (h : ∀ K' : Act → World → Prop, Shut (∀ a w, True → (True → wpAnyE P md ops Q S z fuel (listed.setIfInBounds i true) a w) → K' a w) → if Region.wanted o (yielded ops a.tmps) = true then Oper.wp P o a w K' Q else K' (a.put o.dst undef) w)
    (hs : AllReadyE P md ops Q S z fuel listed a w rs) : AllReadyE P md ops Q S z fuel listed a w (i :: rs) := fun j hj => by
  rcases List.mem_cons.1 hj with rfl | hj
  · exact wpOp_step ho (fun K' hK => h K' (fun a w _ hW => hK a w ⟨fun _ h2 => (by rw [hz] at h2; cases h2), hW trivial⟩))
  · exact hs j hj
theorem wpAnyE_freeB {i : Nat} {oi : Oper} {v : Value} {fuel : Nat} {listed : Array Bool} {a : Act} {w : World} (hiz : i ≠ z) (hzl : listed.getD z true = true) (hi : ops[i]? = some oi)
    (hs : Region.noSelect ops = true) (hf : Region.free md ops listed i = true) (hr : (Region.ready md ops listed).contains i = true)
    (hQ : ∀ c a w, Q (.panic c) (a.put oi.dst v) w → Q (.panic c) a w) (hy : YieldsIf P ops (fun _ => True) oi v a)
    (h : wpAnyE P md ops Q S z fuel (listed.setIfInBounds i true) (a.put oi.dst v) w) : wpAnyE P md ops Q S z (fuel + 1) listed a w :=
  wpAnyE_loose hiz hi (Region.noSelect_spec hs) hQ fuel listed a w (Region.free_spec hi hf) (by simpa using hr) hy (fun h2 => by rw [hzl] at h2; cases h2) h
theorem wgE (i : Nat) {oi : Oper} {v : Value} {fuel : Nat} {listed : Array Bool} {a : Act} {w : World} (hi : ops[i]? = some oi)
    (h : wpAnyE P md ops Q S z fuel (listed.setIfInBounds i true) (a.put oi.dst v) w)
    (hy : ∀ w0, Sem.run P (execOp a.eval oi) w0 = .ok (.value v) w0 := by intro w0; (try simp only [lzA]); go_simp; (try with_reducible rfl))
    (hb : wfB md ops z i listed = true := by as_aux_lemma => kernel_rfl) (hQ : ∀ c a w, Q (.panic c) (a.put oi.dst v) w → Q (.panic c) a w := by exact fun _ _ _ h => h)
    (hw : Region.wanted oi (yielded ops a.tmps) = true := by as_aux_lemma => rfl) (hz : listed.getD z true = true := by as_aux_lemma => kernel_rfl) : wpAnyE P md ops Q S z (fuel + 1) listed a w := by
  simp only [wfB, Bool.and_eq_true, bne_iff_ne, Bool.not_eq_true'] at hb
  obtain ⟨⟨⟨h1, h4⟩, h5⟩, h6⟩ := hb
  exact wpAnyE_freeB h1 hz hi h4 h5 h6 hQ (Or.inl ⟨hw, fun w0 _ => hy w0⟩) h
end
end Go.Proofs.YtboehbfagnocpaaGreatDoor
namespace Go.Proofs.YtboehbfagnocpaaGreatDoor
open Go.RowKit Go.PlainAid Go.Shelf
section
variable {ρ : Operand → Value} {x : Operand} {d : Option Tmp} {ty : TypeId} {ps : String} {af : Array Edge} {gd : Option (Nat × Bool)} {b : Nat} {w : World}
theorem ld_cmd {v0 v1 v2 v3 v4 v5 v6 v7 v8 v9 v10 v11 v12 v13 v14 v15 : Value} (hx : ρ x = .pointer (some ⟨b, 0, none⟩)) (h0 : w.cell? ⟨b, 0, none⟩ = some v0) (h1 : w.cell? ⟨b, 1, none⟩ = some v1) (h2 : w.cell? ⟨b, 2, none⟩ = some v2) (h3 : w.cell? ⟨b, 3, none⟩ = some v3) (h4 : w.cell? ⟨b, 4, none⟩ = some v4) (h5 : w.cell? ⟨b, 5, none⟩ = some v5) (h6 : w.cell? ⟨b, 6, none⟩ = some v6) (h7 : w.cell? ⟨b, 7, none⟩ = some v7) (h8 : w.cell? ⟨b, 8, none⟩ = some v8) (h9 : w.cell? ⟨b, 9, none⟩ = some v9) (h10 : w.cell? ⟨b, 10, none⟩ = some v10) (h11 : w.cell? ⟨b, 11, none⟩ = some v11) (h12 : w.cell? ⟨b, 12, none⟩ = some v12) (h13 : w.cell? ⟨b, 13, none⟩ = some v13) (h14 : w.cell? ⟨b, 14, none⟩ = some v14) (h15 : w.cell? ⟨b, 15, none⟩ = some v15) :
    Sem.run prog (execOp ρ { dst := d, op := .load 56 x, type := ty, pos := ps, after := af, guard := gd }) w = .ok (.value (.agg #[v0, v1, v2, v3, v4, v5, v6, v7, v8, v9, v10, v11, v12, v13, v14, v15])) w := by
  go_simp
theorem ld_ans {v0 v1 v2 v3 v4 v5 v6 v7 v8 v9 v10 v11 v12 : Value} (hx : ρ x = .pointer (some ⟨b, 0, none⟩)) (h0 : w.cell? ⟨b, 0, none⟩ = some v0) (h1 : w.cell? ⟨b, 1, none⟩ = some v1) (h2 : w.cell? ⟨b, 2, none⟩ = some v2) (h3 : w.cell? ⟨b, 3, none⟩ = some v3) (h4 : w.cell? ⟨b, 4, none⟩ = some v4) (h5 : w.cell? ⟨b, 5, none⟩ = some v5) (h6 : w.cell? ⟨b, 6, none⟩ = some v6) (h7 : w.cell? ⟨b, 7, none⟩ = some v7) (h8 : w.cell? ⟨b, 8, none⟩ = some v8) (h9 : w.cell? ⟨b, 9, none⟩ = some v9) (h10 : w.cell? ⟨b, 10, none⟩ = some v10) (h11 : w.cell? ⟨b, 11, none⟩ = some v11) (h12 : w.cell? ⟨b, 12, none⟩ = some v12) :
    Sem.run prog (execOp ρ { dst := d, op := .load 52 x, type := ty, pos := ps, after := af, guard := gd }) w = .ok (.value (.agg #[v0, v1, v2, v3, v4, v5, v6, v7, v8, v9, v10, v11, v12])) w := by
  go_simp
end
open SP
open PM (Cd An Sd Vl upd upd_same upd_ne)
section
variable {T E size bytes : Nat} {W : World} {v : Value} {n : Nat} {xs news : List Value}
theorem wp_appSm {ops : Array Oper} {rest : List Oper} {o : Oper} {a : Act} {Q : Exit → Act → World → Prop} (m : Nat) (X : Elem T E size bytes) (hgd : o.guard = none) (s x : Operand) (p : Addr) (c : Nat)
    (ho : o.op = .call { callee := .builtin .append, args := #[s, x], argTypes := #[T, T] }) (hs : a.eval s = v) (hr : (rowAt v E size n xs).R W)
    (hx : a.eval x = .slice (some p) m c) (hl : news.length = m * size) (hnews : ∀ j u, news[j]? = some u → W.cell? (p.add j) = some u) (h1 : ∀ u ∈ news, u.oneCell' = true) (hm : 0 < m) (hn : n + m ≤ 100000000) (hb : bytes ≤ 100000)
    (h : ∀ g cap w', Turn (rowAt v E size n xs) (rowAt (.slice (some ⟨g, 0, none⟩) (n + m) cap) E size (n + m) (xs ++ news)) W w' → wpList prog ops Q rest (a.put o.dst (.slice (some ⟨g, 0, none⟩) (n + m) cap)) w') :
    wpList prog ops Q (o :: rest) a W := by
  obtain ⟨z, hi, hzs⟩ := X.hi
  obtain ⟨i0, hi0, hz0, hz1, hz2⟩ := info_parts hi
  refine wpList_append_lies W hgd s x T ho 0 E i0 z size bytes X.ht hi0 hz0 hz1 hz2 hzs X.pos v n xs hs hr p m c news hx (by omega) hnews h1 (by omega) (by unfold maxLen; omega) ?_ (Nat.zero_le _) W.heap.size rfl ?_
  · have : (n + m) * bytes ≤ 100000000 * 100000 := Nat.mul_le_mul hn hb
    omega
  · intro g cap w' ho' hg hnw hlt
    refine h g cap w' ⟨ho', Tch.of_grown hg, fun b hb => ?_⟩
    have hb : some g = some b := hb
    cases hb
    rcases hnw with h2 | h2
    · exact .inl h2
    · exact .inr (by omega)
end
theorem elem_ev : Elem 62 136 35 296 := ⟨underlying62, ⟨.agg #[.int .i64 0, .int .i64 0, .int .i64 0, .int .i64 0, .int .i64 0, .int .i64 0, .int .i64 0, .string ⟨#[]⟩, .string ⟨#[]⟩, .int .u32 0, .int .i64 0, .bool false, .int .u64 0, .bool false, .int .u64 0, .int .u64 0, .bool false, .bool false, .int .i64 0, .int .i64 0, .bool false, .int .i64 0, .string ⟨#[]⟩, .int .u32 0, .string ⟨#[]⟩, .int .i64 0, .int .u64 0, .int .i64 0, .bool false, .bool false, .int .u64 0, .bool false, .bool false, .bool false, .slice none 0 0], by kernel_rfl, by kernel_rfl⟩, by decide⟩
theorem cloneS_0 (w : World) : Calls prog 76 #[.slice none 0 0] w fun e w' => e = .returned (.slice none 0 0) ∧ w = w' := by
  have qT : ∀ (w : World) (a : Option Addr) (n c n' c' : Nat), (binOp .eql 31 (.slice a n c) (.slice none n' c')).run prog w = .ok (.bool (a.isNone)) w := fun w a n c n' c' => Lib.run_eql_slice_nil w _ _ a n c n' c' underlying31
  go_enter func76, ntmps76
  go_wp2
  go_ret
  exact ⟨rfl, rfl⟩
theorem cdM_len (key : ByteArray) (x : Cd) : (cdM key x).vs.toList.length = 16 := rfl
theorem anC_len (key : ByteArray) (a : An) : (anC key a).length = 13 := by
  obtain ⟨st, it, num⟩ := a
  cases it <;> rfl
theorem evC_len (key : ByteArray) (e : PM.Ev Cd An) : (evC key e).length = 35 := by
  unfold evC
  rw [List.length_append, List.length_append, List.length_append, cdM_len, anC_len]
  rfl
theorem evC_one (key : ByteArray) (e : PM.Ev Cd An) : ∀ u ∈ evC key e, u.oneCell' = true := by
  obtain ⟨o, n, x, st, it, num⟩ := e
  cases it <;> simp [evC, anC, itC, Cm.vs, Value.oneCell']
theorem evC_last (key : ByteArray) (e : PM.Ev Cd An) : (evC key e)[34]? = some (.slice none 0 0) := by
  obtain ⟨o, n, x, st, it, num⟩ := e
  cases it <;> rfl
section
variable {key : ByteArray} {h : Int} {bk nw ns nc n : Nat} {p : Pl} {s s' : Mac} {w w' : World} {c : Nat} {cv : Value} {e1 e2 : PM.Ev Cd An}
theorem cloneE_2 {xb c : Nat} (hR : (rowAt (.slice (some ⟨xb, 0, none⟩) 2 c) 136 35 2 (evC key e1 ++ evC key e2)).R w) :
    Calls prog 75 #[.slice (some ⟨xb, 0, none⟩) 2 c] w fun e w' => ∃ g cap, e = .returned (.slice (some ⟨g, 0, none⟩) 2 cap) ∧ Made (rowAt (.slice (some ⟨g, 0, none⟩) 2 cap) 136 35 2 (evC key e1 ++ evC key e2)) w w' := by
  have qT : ∀ (w : World) (a : Option Addr) (n c n' c' : Nat), (binOp .eql 62 (.slice a n c) (.slice none n' c')).run prog w = .ok (.bool (a.isNone)) w := fun w a n c n' c' => Lib.run_eql_slice_nil w _ _ a n c n' c' underlying62
  have hlen : (evC key e1 ++ evC key e2).length = 2 * 35 := by rw [List.length_append, evC_len, evC_len]
  have hxb : xb < w.heap.size := (rowAt (.slice (some ⟨xb, 0, none⟩) 2 c) 136 35 2 (evC key e1 ++ evC key e2)).lt hR rfl
  have M0 := row_empty w 136 35
  have hc' : ∀ j u, (evC key e1 ++ evC key e2)[j]? = some u → (w.alloc (.cells #[] 136)).cell? ((⟨xb, 0, none⟩ : Addr).add j) = some u := fun j u hj => by
    have hc : w.cell? ⟨xb, j, none⟩ = some u := by
      rw [row_at hR j (List.getElem?_eq_some_iff.1 hj).1]; exact hj
    have h := ((bA w (.cells #[] 136)).cell (p := ⟨xb, j, none⟩) hxb).trans hc
    cases j <;> simpa [Addr.add] using h
  have HC := hid hc'
  have hone : ∀ u ∈ evC key e1 ++ evC key e2, u.oneCell' = true := fun u hu => (List.mem_append.1 hu).elim (evC_one key e1 u) (evC_one key e2 u)
  have HL := hid hlen
  have HO := hid hone
  clear hR hc' hlen hone
  go_enter func75, ntmps75
  go_wp2_with (at_builtin; go_must (refine wp_appSm 2 elem_ev rfl _ _ ⟨xb, 0, none⟩ c rfl rfl M0.here rfl HL.out HC.out HO.out (by omega) (by omega) (by omega) ?_))
  intro g cap w2 ht
  go_wp2
  go_ret
  exact ⟨g, cap, rfl, M0.turn ht⟩
theorem set_same {α : Type} {xs : List α} {i : Nat} {v : α} (h : xs[i]? = some v) : xs.set i v = xs := by
  apply List.ext_getElem?
  intro j
  rw [List.getElem?_set]
  split
  · rename_i e
    subst e
    obtain ⟨hi, e⟩ := List.getElem?_eq_some_iff.1 h
    rw [if_pos hi, h]
  · rfl
theorem ev_lost (i : Nat) (hi : i < 2) : (evC key e1 ++ evC key e2)[35 * i + 34]? = some (.slice none 0 0) := by
  rcases (by omega : i = 0 ∨ i = 1) with rfl | rfl
  · rw [List.getElem?_append_left (by rw [evC_len]; omega)]; exact evC_last key e1
  · rw [List.getElem?_append_right (by rw [evC_len]; omega), evC_len]; exact evC_last key e2
set_option maxHeartbeats 1000000 in
theorem events_ok (hev : s.ev = [e1, e2]) (hR : (svR key h bk nw ns nc p s).R w) :
    Calls prog 25 #[.pointer (some ⟨p.b, 0, none⟩)] w fun e w' => ∃ g cap, e = .returned (.slice (some ⟨g, 0, none⟩) 2 cap) ∧ Made (rowAt (.slice (some ⟨g, 0, none⟩) 2 cap) 136 35 2 (evC key e1 ++ evC key e2)) w w' := by
  have H := Hav.open hR
  have hrow : (rowAt p.el 136 35 s.ev.length (s.ev.flatMap (evC key))).R w := H.get 4 rfl
  have hel : ∃ xb c, p.el = .slice (some ⟨xb, 0, none⟩) 2 c := by
    rcases hrow.2 with ⟨_, h0⟩ | ⟨g, cap, cur, e, _⟩
    · rw [hev] at h0; cases h0
    · rw [hev] at e; exact ⟨_, _, e⟩
  obtain ⟨xb, c, hel⟩ := hel
  rw [hel, hev] at hrow
  have hrow' : (rowAt (.slice (some ⟨xb, 0, none⟩) 2 c) 136 35 2 (evC key e1 ++ evC key e2)).R w := by
    have e : [e1, e2].flatMap (evC key) = evC key e1 ++ evC key e2 := by simp
    rw [e] at hrow; exact hrow
  have k7 : w.cell? ⟨p.b, 7, none⟩ = some (.slice (some ⟨xb, 0, none⟩) 2 c) := by rw [← hel]; exact cA (H.get 0 rfl) 7
  have HC := hid (cloneE_2 hrow')
  have HS := hid (fun w => cloneS_0 w)
  clear hR H hrow hrow' hel hev
  go_enter func25, ntmps25
  go_wp2_with (go_at_call 75; refine HC.out.mono ?_; rintro e w1 ⟨g, cap, rfl, hm⟩; have HM := hid hm; clear hm)
  go_loopw [12] (fun i wr => ∃ n : Nat, n ≤ 2 ∧ i = .int .i64 n ∧ Hid (Made (rowAt (.slice (some ⟨g, 0, none⟩) 2 cap) 136 35 2 (evC key e1 ++ evC key e2)) w wr)) (fun i _ => 2 - (intOf i).toNat)
  case atStart => exact ⟨0, by omega, rfl, HM⟩
  case round =>
    obtain ⟨n, hn, rfl, hs⟩ := hrel
    by_cases h2 : n < 2
    · have hlen : (evC key e1 ++ evC key e2).length = 70 := by rw [List.length_append, evC_len, evC_len]
      have c34 : wr.cell? ⟨g, 35 * n + 34, none⟩ = some (.slice none 0 0) := by rw [row_at hs.out.here _ (by rw [hlen]; omega)]; exact ev_lost n h2
      have z34 := row_fz hs.out.here (35 * n + 34)
      have HT := hid (row_set hs.out.here (35 * n + 34) (.slice none 0 0))
      rw [set_same (ev_lost n h2)] at HT
      clear hlen
      rcases (by omega : n = 0 ∨ n = 1) with rfl | rfl
      · simp only [Nat.mul_zero, Nat.zero_add, Nat.mul_one] at c34 z34 HT
        go_wp2_with (go_at_call 76; refine (HS.out _).mono ?_; rintro e w2 ⟨rfl, rfl⟩)
        go_roundw
        case rel => exact ⟨1, by omega, by first | rfl | simp, hid (hs.out.turn HT.out)⟩
        case measure => simp [intOf]
      · simp only [Nat.mul_one, Nat.reduceAdd] at c34 z34 HT
        go_wp2_with (go_at_call 76; refine (HS.out _).mono ?_; rintro e w2 ⟨rfl, rfl⟩)
        go_roundw
        case rel => exact ⟨2, by omega, by first | rfl | simp, hid (hs.out.turn HT.out)⟩
        case measure => simp [intOf]
    · obtain rfl : n = 2 := by omega
      go_wp2_with (fail)
      go_ret
      exact ⟨g, cap, rfl, hs.out⟩
end
theorem conn_new (w : World) : Calls prog 35 #[] w fun e w' => e = .returned (.pointer (some ⟨w.heap.size, 0, none⟩)) ∧ Made (cnR w.heap.size ⟨#[]⟩ ⟨#[]⟩) w w' := by
  go_enter func35, ntmps35
  go_wp2
  go_ret
  exact ⟨rfl, Made.cells w #[.string ⟨#[]⟩, .string ⟨#[]⟩, .int .i64 0, .bool false] 160⟩
theorem elem_cl : Elem 79 82 1 8 := ⟨underlying79, ⟨.pointer none, by kernel_rfl, by kernel_rfl⟩, by decide⟩
section
variable {key : ByteArray} {h : Int} {bk nw ns nc n : Nat} {p : Pl} {s s' : Mac} {w w' : World} {c : Nat} {cv : Value}
def opL (key : ByteArray) (h : Int) (bk nw ns n : Nat) (p : Pl) (cv : Value) : List Res := [
  cAt p.b #[.pointer (some ⟨p.m.s, 0, none⟩), .pointer (some ⟨p.mv, 0, none⟩), .pointer (some ⟨p.sx, 0, none⟩), .int .i64 1, cv, .slice (some ⟨p.wlb, 0, none⟩) nw p.wlc, .slice (some ⟨p.slb, 0, none⟩) ns p.slc, p.el] 81,
  rowAt cv 82 1 n (lst n (fun c => .pointer (some ⟨p.cb c, 0, none⟩))),
  rowAt (.slice (some ⟨p.wlb, 0, none⟩) nw p.wlc) 140 1 nw (lst nw (wkV p PM.ini)),
  rowAt (.slice (some ⟨p.slb, 0, none⟩) ns p.slc) 3 1 ns (lst ns (stV PM.ini)),
  rowAt p.el 136 35 0 [],
  stoR key h bk p.m PM.sd0,
  stsR p.sx p.sn,
  fam n (clR key p PM.ini),
  fam nw (fun w => wkR key (p.wp w) none)]
theorem row_v {E n size : Nat} {v : Value} {xs : List Value} {w : World} (h : (rowAt v E size n xs).R w) : ∃ a c, v = .slice a n c := by
  rcases h.2 with ⟨rfl, h0⟩ | ⟨g, cap, cur, rfl, _⟩
  · exact ⟨none, 0, by rw [h0]⟩
  · exact ⟨_, _, rfl⟩
def Pl.more (p : Pl) (n cb nb clb clc : Nat) : Pl := { p with cb := upd p.cb n cb, nb := upd p.nb n nb, clb := clb, clc := clc }
theorem clR_old {cb nb clb clc j : Nat} (hj : j < n) : clR key (p.more n cb nb clb clc) PM.ini j = clR key p PM.ini j := by
  unfold clR Pl.more
  dsimp only
  rw [upd_ne _ _ (by omega), upd_ne _ _ (by omega)]
theorem clR_new {cb nb clb clc : Nat} : clR key (p.more n cb nb clb clc) PM.ini n = (cAt cb #[.pointer (some ⟨nb, 0, none⟩), .int .i64 0, .bool false] 86).and (cnR nb ⟨#[]⟩ ⟨#[]⟩) := by
  unfold clR Pl.more
  dsimp only
  rw [upd_same, upd_same]
  rfl
theorem fam_more {cb nb clb clc : Nat} : fam n (clR key (p.more n cb nb clb clc) PM.ini) = fam n (clR key p PM.ini) := by
  unfold fam
  rw [lst_same (fun j hj => clR_old hj)]
theorem row_more {cb nb clb clc : Nat} : lst n (fun c => Value.pointer (some ⟨p.cb c, 0, none⟩)) ++ [.pointer (some ⟨cb, 0, none⟩)] = lst (n + 1) (fun c => Value.pointer (some ⟨(p.more n cb nb clb clc).cb c, 0, none⟩)) := by
  rw [lst_snoc]
  have e1 : (p.more n cb nb clb clc).cb n = cb := upd_same _ _ _
  rw [e1]
  congr 1
  refine lst_same (fun j hj => ?_)
  have e2 : (p.more n cb nb clb clc).cb j = p.cb j := upd_ne _ _ (by omega)
  rw [e2]
theorem open_end {cb nb g cap : Nat} {a : Option Addr} {cc : Nat} {D : Nat → Prop} {w0 : World}
    (J : Hav D w0 ((cAt cb #[.pointer (some ⟨nb, 0, none⟩), .int .i64 0, .bool false] 86).and (cnR nb ⟨#[]⟩ ⟨#[]⟩) :: (((opL key h bk nw ns n p (.slice a n cc)).set 1 (rowAt (.slice (some ⟨g, 0, none⟩) (n + 1) cap) 82 1 (n + 1) (lst n (fun c => .pointer (some ⟨p.cb c, 0, none⟩)) ++ [.pointer (some ⟨cb, 0, none⟩)]))).set 0
      (cAt p.b #[.pointer (some ⟨p.m.s, 0, none⟩), .pointer (some ⟨p.mv, 0, none⟩), .pointer (some ⟨p.sx, 0, none⟩), .int .i64 1, .slice (some ⟨g, 0, none⟩) (n + 1) cap, .slice (some ⟨p.wlb, 0, none⟩) nw p.wlc, .slice (some ⟨p.slb, 0, none⟩) ns p.slc, p.el] 81))) w) :
    Hav D w0 (svL key h bk nw ns (n + 1) (p.more n cb nb g cap) PM.ini) w := by
  have J2 := J.push 7 rfl (r' := fam (n + 1) (clR key (p.more n cb nb g cap) PM.ini)) (fun ha hx hap => by
    rw [← fam_more (cb := cb) (nb := nb) (clb := g) (clc := cap)] at ha hap
    rw [← clR_new (key := key) (p := p) (n := n) (clb := g) (clc := cap)] at hx hap
    exact fam_ap ha hx hap) (fun b hb => by
    obtain ⟨r, hr, hb⟩ := hb
    rw [lst_snoc] at hr
    rcases List.mem_append.1 hr with h1 | h1
    · refine .inl ?_
      rw [← fam_more (cb := cb) (nb := nb) (clb := g) (clc := cap)]
      exact ⟨r, h1, hb⟩
    · refine .inr ?_
      rw [List.mem_singleton.1 h1, clR_new] at hb
      exact hb)
  rw [row_more (p := p) (nb := nb) (clb := g) (clc := cap)] at J2
  exact J2
set_option maxHeartbeats 1000000 in
theorem open_ok (hR : (many (opL key h bk nw ns n p cv)).R w) (hn : n < 8) :
    Calls prog 10 #[.pointer (some ⟨p.b, 0, none⟩)] w fun e w' => e = .returned (.int .i64 n) ∧ ∃ p' : Pl, p'.b = p.b ∧ p'.m = p.m ∧ Turn (many (opL key h bk nw ns n p cv)) (svR key h bk nw ns (n + 1) p' PM.ini) w w' := by
  have H := Hav.open hR
  obtain ⟨a, cc, rfl⟩ := row_v (H.get 1 rfl)
  have a4 : w.cell? ⟨p.b, 4, none⟩ = some (.slice a n cc) := cA (H.get 0 rfl) 4
  have HM := hid (fun w => conn_new w)
  have hn8 : ((n : Int) == 8) = false := by simp; omega
  have hn9 : (n : Int) ≤ 8 := by omega
  have HH := hid H
  have HN := hid hn
  clear hR H hn
  go_enter func10, ntmps10
  go_wp2_with (fail)
  go_upto_region 3 with fail
  have S0 : w.drew.cell? ⟨p.b, 4, none⟩ = some (.slice a n cc) := a4
  refine wp_region_E (fun w' => w'.cell? ⟨p.b, 4, none⟩ = some (.slice a n cc)) 12 (by kernel_rfl) S0 (fun hHeld => ?_)
  refine wfE 0 rfl ?_
  (try simp only [lzP, lzA, lzS])
  refine wfE 1 rfl ?_
  (try simp only [lzP, lzA, lzS])
  refine wfE 2 rfl ?_
  (try simp only [lzP, lzA, lzS])
  refine wfE 3 rfl ?_
  (try simp only [lzP, lzA, lzS])
  refine wkE 4 rfl ?_
  (try simp only [lzP, lzA, lzS])
  refine wpAnyE_ready (rs := [5]) (by as_aux_lemma => kernel_rfl) (by simp) ?_
  refine AllReadyE.cons (o := _) rfl (fun K hK => ?_) AllReadyE.nil
  rw [if_pos (by as_aux_lemma => rfl)]
  (try simp only [lzA])
  go_simp
  (go_at_call 35; refine (HM.out _).mono ?_; rintro e w1 ⟨rfl, hm1⟩; have HM1 := hid hm1; clear hm1)
  (try (go_wp2_with fail))
  refine hK.out _ _ (cA ((HH.out.drew.made HM1.out).get 1 rfl) 4) (fun hS5 => ?_)
  clear hK K
  (try simp only [lzP, lzA, lzS])
  refine wpAnyE_ready (rs := [6]) (by as_aux_lemma => kernel_rfl) (by simp) ?_
  refine AllReadyE.cons (o := _) rfl (fun K hK => ?_) AllReadyE.nil
  rw [if_pos (by as_aux_lemma => rfl)]
  (try simp only [lzA])
  go_simp
  refine hK.out _ _ (by assumption) (fun hS6 => ?_)
  clear hK K
  (try simp only [lzP, lzA, lzS])
  refine wpAnyE_ready (rs := [7]) (by as_aux_lemma => kernel_rfl) (by simp) ?_
  refine AllReadyE.cons (o := _) rfl (fun K hK => ?_) AllReadyE.nil
  rw [if_pos (by as_aux_lemma => rfl)]
  (try simp only [lzA])
  go_simp
  refine hK.out _ _ (cA (((HH.out.drew.made HM1.out).alloc _).get 1 rfl) 4) (fun hS7 => ?_)
  clear hK K
  (try simp only [lzP, lzA, lzS])
  refine wpAnyE_ready (rs := [8]) (by as_aux_lemma => kernel_rfl) (by simp) ?_
  refine AllReadyE.cons (o := _) rfl (fun K hK => ?_) AllReadyE.nil
  rw [if_pos (by as_aux_lemma => rfl)]
  (try simp only [lzA])
  go_simp
  refine hK.out _ _ (cA ((((HH.out.drew.made HM1.out).alloc _).alloc _).get 1 rfl) 4) (fun hS8 => ?_)
  clear hK K
  (try simp only [lzP, lzA, lzS])
  have m2 := (HM1.out.and (Made.cells w1 #[.pointer (some ⟨w.heap.size, 0, none⟩), .int .i64 0, .bool false] 86)).conv (r' := (cAt w1.heap.size #[.pointer (some ⟨w.heap.size, 0, none⟩), .int .i64 0, .bool false] 86).and (cnR w.heap.size ⟨#[]⟩ ⟨#[]⟩)) (fun h => ⟨h.2.1, h.1, fun b x y => h.2.2 b y x⟩) (fun b hb => hb.elim .inr .inl)
  have J2 := HH.out.drew.made m2
  have HJ2 := hid J2
  clear m2 J2
  refine wpAnyE_ready (rs := [9]) (by as_aux_lemma => kernel_rfl) (by simp) ?_
  refine AllReadyE.cons (o := _) rfl (fun K hK => ?_) AllReadyE.nil
  (refine step_appEl elem_cl rfl _ _ (by rfl) (by rfl) (HJ2.out.get 2 rfl) (by simp only [World.size_alloc]; rfl) rfl (by simp [Value.oneCell']) (by omega) (by omega) ?_; intro g cap w2 ht)
  refine hK.out _ _ (cA ((HJ2.out.turn 2 rfl ht).get 1 rfl) 4) (fun hS9 => ?_)
  clear hK K
  (try simp only [lzP, lzA, lzS])
  have J3 := HJ2.out.turn 2 rfl ht
  have J4 := J3.turn 1 rfl (cl_set (J3.get 1 rfl) 4 (.slice (some ⟨g, 0, none⟩) (n + 1) cap))
  have b4 : w2.cell? ⟨p.b, 4, none⟩ = some (.slice a n cc) := cA (J3.get 1 rfl) 4
  have z4 : w2.frozen? ⟨p.b, 4, none⟩ = false := cZ (J3.get 1 rfl) 4
  have b5 : (w2.setCell ⟨p.b, 4, none⟩ (.slice (some ⟨g, 0, none⟩) (n + 1) cap)).cell? ⟨p.b, 4, none⟩ = some (.slice (some ⟨g, 0, none⟩) (n + 1) cap) := cA (J4.get 1 rfl) 4
  have HE := hid (open_end J4).shut
  clear J3 J4 ht
  refine wfE 10 rfl ?_
  (try simp only [lzP, lzA, lzS])
  refine wfE 11 rfl ?_
  (try simp only [lzP, lzA, lzS])
  refine wpAnyE_ready (rs := [12]) (by as_aux_lemma => kernel_rfl) (by simp) ?_
  refine AllReadyE.last (o := _) rfl (fun K hK => ?_)
  rw [if_pos (by as_aux_lemma => rfl)]
  (try simp only [lzA])
  go_simp
  refine hK.out _ _ trivial (fun _ => ?_)
  clear hK K
  (try simp only [lzP, lzA, lzS])
  refine wpAnyE_done (by as_aux_lemma => kernel_rfl) ?_ _
  go_wp2_with (fail)
  go_ret
  refine ⟨by first | rfl | simp, p.more n w1.heap.size w.heap.size g cap, rfl, rfl, HE.out⟩
end
end Go.Proofs.YtboehbfagnocpaaGreatDoor
namespace Go.Proofs.YtboehbfagnocpaaGreatDoor
open Go.RowKit Go.PlainAid Go.Shelf
section
variable {D : Nat → Prop} {w0 w : World} {L L2 : List Res}
theorem Hav.sel (h : Hav D w0 L w) (ix : List Nat) (hn : ix.Nodup) (he : L2.map some = ix.map (fun i => L[i]?)) : Hav D w0 L2 w := by
  have hlen : L2.length = ix.length := by have := congrArg List.length he; simpa using this
  have hget : ∀ a (ha : a < L2.length), L[ix[a]'(by omega)]? = some L2[a] := fun a ha => by
    have h1 := congrArg (fun l => l[a]?) he
    simp only [List.getElem?_map, List.getElem?_eq_getElem ha, List.getElem?_eq_getElem (show a < ix.length by omega), Option.map_some, Option.some.injEq] at h1
    exact h1.symm
  refine ⟨fun r hr => ?_, List.pairwise_iff_getElem.2 fun a b ha hb hab => ?_, fun r hr => ?_, h.tch⟩
  · obtain ⟨a, ha, rfl⟩ := List.mem_iff_getElem.1 hr
    exact h.all _ (List.mem_of_getElem? (hget a ha))
  · refine fun x hx => h.apart (hget a ha) (hget b hb) (fun e => ?_) x hx
    have := (List.getElem_inj hn).1 e
    omega
  · obtain ⟨a, ha, rfl⟩ := List.mem_iff_getElem.1 hr
    exact h.lo _ (List.mem_of_getElem? (hget a ha))
theorem Hav.use {P : Prop} (h : Hav D w0 L w) (f : Hav D w0 L w → P) : P := f h
theorem hav_rowNil (h : Hav D w0 L w) (E z : Nat) : Hav D w0 (rowAt (.slice none 0 0) E z 0 [] :: L) w := by
  have hn : ∀ b, ¬ (rowAt (.slice none 0 0) E z 0 []).B b := fun b hb => by
    have e : (none : Option Nat) = some b := hb
    cases e
  refine ⟨fun r hr => ?_, List.pairwise_cons.2 ⟨fun r hr b hb => absurd hb (hn b), h.ap⟩, fun r hr b hb => ?_, h.tch⟩
  · rcases List.mem_cons.1 hr with rfl | h1
    · exact row_nil _ _ _
    · exact h.all r h1
  · rcases List.mem_cons.1 hr with rfl | h1
    · exact absurd hb (hn b)
    · exact h.lo r h1 b hb
theorem hav_add {r : Res} (h : Hav D w0 L w) (hR : r.R w) (hn : ∀ b, ¬ r.B b) : Hav D w0 (r :: L) w := by
  refine ⟨fun s hr => ?_, List.pairwise_cons.2 ⟨fun s hr b hb => absurd hb (hn b), h.ap⟩, fun s hr b hb => ?_, h.tch⟩
  · rcases List.mem_cons.1 hr with rfl | h1
    · exact hR
    · exact h.all s h1
  · rcases List.mem_cons.1 hr with rfl | h1
    · exact absurd hb (hn b)
    · exact h.lo s h1 b hb
theorem cells_row {g n : Nat} {vs : Array Value} {t : TypeId} (h : (cAt g vs t).R w) (hs : vs.size = n) (hm : n ≤ maxLen) : (rowAt (.slice (some ⟨g, 0, .none⟩) n n) t 1 n vs.toList).R w :=
  ⟨by simp [hs], .inr ⟨g, n, vs, rfl, Nat.zero_le _, h, Nat.le_refl _, hm, by simp [hs], by rw [Nat.mul_one, ← hs, ← Array.length_toList, List.take_length]⟩⟩
end
open SP
open PM (Cd An Sd Vl)
def arR (g k : Nat) : Res where
  R w := Ar w g k 1 512 (.slice none 0 0) [0] []
  B b := b = g ∨ b = k
  keep h ht hd := ⟨(ht.block _ (Array.getElem?_eq_some_iff.1 h.box).1 (hd _ (.inl rfl))).trans h.box, own_tchB h.own ht (fun b hb => hd b (.inr (by cases hb; rfl))), own_tchB h.byt ht (fun b hb => by cases hb), h.len, h.np1, h.rng, h.siz⟩
  lt h hx := by
    rcases hx with rfl | rfl
    · exact (Array.getElem?_eq_some_iff.1 h.box).1
    · exact (rowAt (.slice (some ⟨_, 0, none⟩) 1 1) 3 1 1 ([0].map (.int .i64))).lt h.own rfl
theorem ar_new (w : World) : Calls prog 43 #[.int .i64 1, .int .i64 512] w fun e w' => ∃ g k, e = .returned (.tuple #[.pointer (some ⟨g, 0, none⟩), .int .i64 0]) ∧ Made (arR g k) w w' :=
  (new_yes 1 512 w (by decide)).mono (fun e w' hh => by
    rcases hh with ⟨h, _⟩ | ⟨_, g, k, h1, h2, h3, h4, h5⟩
    · exact absurd h (by decide)
    · exact ⟨g, k, h1, h2, h5, fun b hb => by rcases hb with rfl | rfl <;> assumption⟩)
abbrev zrow (zb zc : Nat) : Res := rowAt (.slice (some ⟨zb, 0, none⟩) 4 zc) 3 1 4 (ints zs)
theorem sz_new (w : World) : Calls prog 42 #[.int .i64 512, .int .i64 200] w fun e w' => ∃ zb zc, e = .returned (.tuple #[.slice (some ⟨zb, 0, none⟩) 4 zc, .int .i64 0]) ∧ Made (zrow zb zc) w w' :=
  (SZ.new_good 512 200 w (by unfold SZ.M.Bad; decide)).mono (fun e w' hh => by
    obtain ⟨v, h1, h2, h3⟩ := hh
    rw [SZ.row512] at h2
    rw [show SZ.M.errno 512 200 = 0 by decide +kernel] at h1
    rcases h2.2 with ⟨_, h0⟩ | ⟨g, cap, cur, rfl, hb, h4⟩
    · cases h0
    · exact ⟨g, cap, h1, ⟨h2.1, .inr ⟨g, cap, cur, rfl, Nat.zero_le _, h4⟩⟩, h3, fun b hb' => by
        have hb' : some g = some b := hb'
        cases hb'; exact hb⟩)
theorem slab_new {g k zb zc : Nat} {w : World} (hA : (arR g k).R w) (hz : (zrow zb zc).R w) : Calls prog 46 #[.pointer (some ⟨g, 0, none⟩), .slice (some ⟨zb, 0, none⟩) 4 zc] w fun e w' =>
    ∃ β : Bk, e = .returned (.tuple #[.pointer (some ⟨β.sb, 0, none⟩), .int .i64 0]) ∧ β.g = g ∧ Turn (arR g k) (slabR β pi0 0) w w' := by
  have hcap : 4 ≤ zc := by
    rcases hz.2 with ⟨h1, _⟩ | ⟨g', cap', cur, e, _, _, h3, _⟩
    · cases h1
    · cases e; exact h3
  have hri : RI w (.slice (some ⟨zb, 0, none⟩) 4 zc) zs := ⟨some ⟨zb, 0, none⟩, zc, rfl, fun _ => ⟨zb, 0, rfl, fun i hi => by
    have hi : i < 4 := hi
    rw [Nat.zero_add, row_at hz i hi]
    rcases (by omega : i = 0 ∨ i = 1 ∨ i = 2 ∨ i = 3) with rfl | rfl | rfl | rfl <;> rfl⟩⟩
  refine (new_ok (S := 512) hA (by decide) ⟨zb, 0, none⟩ 4 zc zs hri hcap ⟨by decide, by decide, by decide, fun i hi => by have hi : i + 1 < 4 := hi; rcases (by omega : i = 0 ∨ i = 1 ∨ i = 2) with rfl | rfl | rfl <;> decide⟩).mono (fun e w' hh => ?_)
  obtain ⟨β, h1, h2, h3, h4, h5⟩ := hh
  refine ⟨β, h1, h4, h2, Tch.of_below _ h3, fun b hb => ?_⟩
  rcases h5 b hb with (h6 | h6 | h6) | h6
  · exact .inl (.inl h6)
  · exact .inl (.inr h6)
  · cases h6
  · exact .inr h6
theorem tab_made {b : Nat} {w w' : World} {e : Ending} (hh : TabPost b w e w') : ∃ tb rb, e = .returned (.pointer (some ⟨tb, 0, none⟩)) ∧ Made (tab0 tb rb b) w w' := by
  obtain ⟨tb, rb, h1, h2, h3, h4, h5⟩ := hh
  refine ⟨tb, rb, h1, h2, h3, fun x hx => ?_⟩
  rcases hx with hx | hx
  · have hx : x = tb := hx
    rw [hx]; exact h4
  · have hx : x = rb := hx
    rw [hx]; exact h5
theorem elem_po : Elem 103 97 1 8 := ⟨underlying103, ⟨.pointer none, by kernel_rfl, by kernel_rfl⟩, by decide⟩
def poV (x : PS) : Value := .pointer (some ⟨x.pb, 0, none⟩)
def poL (ls : List PS) : List Value := ls.reverse.map poV
theorem poL_cons (x : PS) (ls : List PS) : poL ls ++ [poV x] = poL (x :: ls) := by simp [poL]
section
variable {key : ByteArray} {h : Int} {bk : Nat} {w : World}
set_option maxHeartbeats 2000000 in
theorem store_new (k : Bool) (w : World) {kv : Int} (hkv : (if k then 1 else 0) = kv) : Calls prog 14 #[.agg #[.int .i64 1, .int .i64 512, .int .i64 200, .int .i64 kv]] w fun e w' =>
    ∃ m : SM, e = .returned (.tuple #[.pointer (some ⟨m.s, 0, none⟩), .int .i64 0]) ∧ SOkE m ∧ m.ps.num = 0 ∧ Made (stoR key h bk m PM.sd0) w w' := by
  have HZ := hid (fun w => sz_new w)
  have HA := hid (fun w => ar_new w)
  have HP : Hid (∀ w, Calls prog 44 #[.int .i64 kv] w fun e w' => ∃ s : PS, s.seg = k ∧ s.held = false ∧ s.num = 0 ∧ e = .returned (.pointer (some ⟨s.pb, 0, none⟩)) ∧ Made (polR s) w w') := hid (fun w => by rw [← hkv]; exact pol_new k w)
  have HT : Hid (∀ w, Calls prog 45 #[] w fun e w' => ∃ tb rb, e = .returned (.pointer (some ⟨tb, 0, none⟩)) ∧ Made (tab0 tb rb bk) w w') := hid (fun w => (chain_new bk w).mono (fun e w' hh => tab_made hh))
  have hmm : ∀ w : World, (Instr.makeMap 101 none).run prog w = .ok (.map (some w.heap.size)) (w.alloc (.map #[] 0)) := fun w => by rfl
  have J0 := (Hav.none w).cells #[.int .i64 1, .int .i64 512, .int .i64 200, .int .i64 kv] 28
  obtain ⟨CB, hCB⟩ : ∃ CB, w.heap.size = CB := ⟨_, rfl⟩
  obtain ⟨W0, hW0⟩ : ∃ W0, w.alloc (.cells #[.int .i64 1, .int .i64 512, .int .i64 200, .int .i64 kv] 28) = W0 := ⟨_, rfl⟩
  rw [hCB, hW0] at J0
  have HW0 := hid hW0
  have HJ0 := hid J0
  obtain ⟨c0, c1, c2, c3⟩ : ca4 W0 CB (.int .i64 1) (.int .i64 512) (.int .i64 200) (.int .i64 kv) := ca4' (J0.get 0 rfl)
  clear J0 hW0 hkv
  go_enter func14, ntmps14
  go_upto_region 1 with fail
  rw [HW0.out]
  clear HW0 hCB
  go_wp2_with (first
    | (go_at_call 42; refine (HZ.out _).mono ?_; rintro e w1 ⟨zb, zc, rfl, hm1⟩
       have HJ1 := hid (HJ0.out.made hm1)
       obtain ⟨d0, d1, d2, d3⟩ : ca4 w1 CB (.int .i64 1) (.int .i64 512) (.int .i64 200) (.int .i64 kv) := ca4' (HJ1.out.get 1 rfl)
       clear hm1)
    | (go_at_call 43; refine (HA.out _).mono ?_; rintro e w2 ⟨g, k2, rfl, hm2⟩
       have HJ2 := hid (HJ1.out.made hm2)
       obtain ⟨e0, e1, e2, e3⟩ : ca4 w2 CB (.int .i64 1) (.int .i64 512) (.int .i64 200) (.int .i64 kv) := ca4' (HJ2.out.get 2 rfl)
       clear hm2)
    | (go_at_call 44; refine (HP.out _).mono ?_; rintro e w3 ⟨s0, -, -, -, rfl, hm3⟩
       have HJ3 := hid (HJ2.out.below hm3.bel)
       clear hm3)
    | (go_at_call 45; refine (HT.out _).mono ?_; rintro e w4 ⟨tb, rb, rfl, hm4⟩
       have HJ4 := hid (HJ3.out.made hm4)
       clear hm4)
    | (go_at_call 46
       have J5 := (HJ4.out.alloc (.map #[] 0)).cells #[.pointer none, .pointer (some ⟨g, 0, none⟩), .slice (some ⟨zb, 0, none⟩) 4 zc, .pointer (some ⟨tb, 0, none⟩), .slice none 0 0, .int .u64 0, .int .i64 0, .map (some w4.heap.size)] 105
       simp only [World.size_alloc] at J5
       refine (slab_new (J5.get 2 rfl) (J5.get 3 rfl)).mono ?_; rintro e w6 ⟨β, rfl, hg, ht⟩
       have J6 := J5.turn 2 rfl ht
       have s0 : w6.cell? ⟨w4.heap.size + 1, 0, none⟩ = some (.pointer none) := cA (J6.get 0 rfl) 0
       have f0 : w6.frozen? ⟨w4.heap.size + 1, 0, none⟩ = false := cZ (J6.get 0 rfl) 0
       have HJ6 := hid (J6.turn 0 rfl (cl_set (J6.get 0 rfl) 0 (.pointer (some ⟨β.sb, 0, none⟩))))
       have HG := hid hg
       clear J5 J6 ht hg))
  obtain ⟨SB, hSB⟩ : ∃ SB, w4.heap.size + 1 = SB := ⟨_, rfl⟩
  obtain ⟨cm, hcm⟩ : ∃ cm, Value.map (some w4.heap.size) = cm := ⟨_, rfl⟩
  obtain ⟨w7, hw7⟩ : ∃ w7, w6.setCell ⟨w4.heap.size + 1, 0, none⟩ (.pointer (some ⟨β.sb, 0, none⟩)) = w7 := ⟨_, rfl⟩
  have J7 := hav_rowNil HJ6.out 97 1
  rw [hw7] at J7 ⊢
  rw [hSB, hcm] at J7
  rw [hSB]
  have HJ7 := hid J7
  clear J7 hw7 hSB hcm s0 f0 HJ0 HJ1 HJ2 HJ3 HJ4 HJ6 HZ HA HT c0 c1 c2 c3 d0 d1 d2 d3 e0 e1 e2 e3 hmm
  obtain ⟨ST, hST⟩ : ∃ ST : Option Addr → Nat → Nat → Res, ∀ a n c, ST a n c = cAt SB #[.pointer (some ⟨β.sb, 0, none⟩), .pointer (some ⟨g, 0, none⟩), .slice (some ⟨zb, 0, none⟩) 4 zc, .pointer (some ⟨tb, 0, none⟩), .slice a n c, .int .u64 0, .int .i64 0, cm] 105 := ⟨_, fun _ _ _ => rfl⟩
  obtain ⟨CF, hCF⟩ : ∃ CF : Res, CF = cAt CB #[.int .i64 1, .int .i64 512, .int .i64 200, .int .i64 kv] 28 := ⟨_, rfl⟩
  have HST := hid hST
  have HCF := hid hCF
  have HI : Hid (Hav (fun _ => False) w (ST none 0 0 :: rowAt (.slice none 0 0) 97 1 0 (poL []) :: (([] : List PS).map polR ++ [tab0 tb rb bk, slabR β pi0 0, zrow zb zc, CF])) w7) := hid (by
    rw [hST, hCF]
    exact hav_b HJ7.out)
  clear hST hCF HJ7
  go_loopw [54] (fun i wr => ∃ (n : Nat) (ls : List PS) (a : Option Addr) (c : Nat), n ≤ 4 ∧ ls.length = n ∧ i = .int .i64 n ∧ Hid ((∀ x ∈ ls, x.held = false ∧ x.num = 0) ∧ Hav (fun _ => False) w (ST a n c :: rowAt (.slice a n c) 97 1 n (poL ls) :: (ls.map polR ++ [tab0 tb rb bk, slabR β pi0 0, zrow zb zc, CF])) wr)) (fun i _ => 4 - (intOf i).toNat)
  case atStart => exact ⟨0, [], none, 0, by omega, rfl, rfl, hid ⟨fun x hx => absurd hx (by simp), HI.out⟩⟩
  case round =>
    obtain ⟨n, ls, a, c, hn4, hls, rfl, hs⟩ := hrel
    have HLS := hid hls
    clear hls
    by_cases h4 : n < 4
    · have h5 : (n : Int) < 4 := by omega
      go_wp2_with (fail)
      go_upto_region 9 with fail
      have HSt : Hid (∀ w', (ST a n c).R w' → w'.cell? ⟨SB, 4, none⟩ = some (.slice a n c)) := hid (fun w' hr => by rw [HST.out] at hr; exact cA hr 4)
      have HCf : Hid (∀ w', CF.R w' → w'.cell? ⟨CB, 3, none⟩ = some (.int .i64 kv)) := hid (fun w' hr => by rw [HCF.out] at hr; exact cA hr 3)
      have S0 : wr.drew.cell? ⟨SB, 4, none⟩ = some (.slice a n c) ∧ wr.drew.cell? ⟨CB, 3, none⟩ = some (.int .i64 kv) := ⟨HSt.out _ (hs.out.2.drew.get 0 rfl), HCf.out _ (hs.out.2.drew.all CF (by simp))⟩
      refine wp_region_E (fun w' => w'.cell? ⟨SB, 4, none⟩ = some (.slice a n c) ∧ w'.cell? ⟨CB, 3, none⟩ = some (.int .i64 kv)) 12 (by kernel_rfl) S0 (fun hHeld => ?_)
      refine wfE 0 rfl ?_
      (try simp only [lzP, lzA, lzS])
      refine wfE 1 rfl ?_
      (try simp only [lzP, lzA, lzS])
      refine wfE 2 rfl ?_
      (try simp only [lzP, lzA, lzS])
      refine wfE 3 rfl ?_
      (try simp only [lzP, lzA, lzS])
      refine wkE 4 rfl ?_
      (try simp only [lzP, lzA, lzS])
      refine wfE 5 rfl ?_
      (try simp only [lzP, lzA, lzS])
      refine wkE 6 rfl ?_
      (try simp only [lzP, lzA, lzS])
      refine wpAnyE_ready (rs := [7]) (by as_aux_lemma => kernel_rfl) (by simp) ?_
      refine AllReadyE.cons (o := _) rfl (fun K hK => ?_) AllReadyE.nil
      rw [if_pos (by as_aux_lemma => rfl)]
      (try simp only [lzA])
      go_simp
      (go_at_call 44; refine (HP.out _).mono ?_; rintro e w8 ⟨x, -, hx1, hx2, rfl, hm⟩; have J8 := hs.out.2.drew.made hm; clear hm)
      (try (go_wp2_with fail))
      refine hK.out _ _ ⟨HSt.out _ (J8.get 1 rfl), HCf.out _ (J8.all CF (by simp))⟩ (fun hS7 => ?_)
      clear hK K
      (try simp only [lzP, lzA, lzS])
      refine wpAnyE_ready (rs := [8]) (by as_aux_lemma => kernel_rfl) (by simp) ?_
      refine AllReadyE.cons (o := _) rfl (fun K hK => ?_) AllReadyE.nil
      rw [if_pos (by as_aux_lemma => rfl)]
      (try simp only [lzA])
      go_simp
      refine hK.out _ _ ⟨HSt.out _ ((J8.alloc _).get 1 rfl), HCf.out _ ((J8.alloc _).all CF (by simp))⟩ (fun hS8 => ?_)
      clear hK K
      (try simp only [lzP, lzA, lzS])
      refine wpAnyE_ready (rs := [9]) (by as_aux_lemma => kernel_rfl) (by simp) ?_
      refine AllReadyE.cons (o := _) rfl (fun K hK => ?_) AllReadyE.nil
      (refine step_appEl elem_po rfl _ _ (by rfl) (by rfl) (J8.get 2 rfl) (by rfl) rfl (by simp [Value.oneCell']) (by omega) (by omega) ?_; intro g1 cap w9 ht; have J9 := J8.turn 2 rfl ht)
      refine hK.out _ _ ⟨HSt.out _ (J9.get 1 rfl), HCf.out _ (J9.all CF (by simp))⟩ (fun hS9 => ?_)
      clear hK K
      (try simp only [lzP, lzA, lzS])
      have r9 := J9.get 1 rfl
      rw [HST.out] at r9
      have b4 : w9.cell? ⟨SB, 4, none⟩ = some (.slice a n c) := cA r9 4
      have z4 : w9.frozen? ⟨SB, 4, none⟩ = false := cZ r9 4
      have t9 : Turn (ST a n c) (ST (some ⟨g1, 0, none⟩) (n + 1) cap) w9 _ := (by rw [HST.out, HST.out]; exact cl_set r9 4 (.slice (some ⟨g1, 0, none⟩) (n + 1) cap))
      have HE := hid (hav_e (J9.turn 1 rfl t9))
      have HX := hid (And.intro hx1 hx2)
      clear J8 J9 t9 r9 ht hx1 hx2
      refine wfE 10 rfl ?_
      (try simp only [lzP, lzA, lzS])
      refine wfE 11 rfl ?_
      (try simp only [lzP, lzA, lzS])
      refine wpAnyE_ready (rs := [12]) (by as_aux_lemma => kernel_rfl) (by simp) ?_
      refine AllReadyE.last (o := _) rfl (fun K hK => ?_)
      rw [if_pos (by as_aux_lemma => rfl)]
      (try simp only [lzA])
      go_simp
      refine hK.out _ _ trivial (fun _ => ?_)
      clear hK K
      (try simp only [lzP, lzA, lzS])
      refine wpAnyE_done (by as_aux_lemma => kernel_rfl) ?_ _
      go_wp2_with (fail)
      go_roundw
      case rel =>
        refine ⟨n + 1, x :: ls, some ⟨g1, 0, none⟩, cap, by omega, by rw [List.length_cons, HLS.out], by first | rfl | simp, hid ⟨fun y hy => ?_, ?_⟩⟩
        · rcases List.mem_cons.1 hy with rfl | h1
          · exact HX.out
          · exact hs.out.1 y h1
        · rw [← poL_cons]
          exact HE.out
      case measure => simp [intOf]; omega
    · obtain rfl : n = 4 := by omega
      go_wp2_with (fail)
      go_ret2
      obtain ⟨hps, J⟩ := hs.out
      have hl := HLS.out
      obtain ⟨x3, x2, x1, x0, rfl⟩ : ∃ x3 x2 x1 x0, ls = [x3, x2, x1, x0] := by
        match ls, hl with
        | [x3, x2, x1, x0], _ => exact ⟨_, _, _, _, rfl⟩
      obtain ⟨qb, qc, hq⟩ : ∃ qb qc, Value.slice a 4 c = .slice (some ⟨qb, 0, none⟩) 4 qc := by
        rcases (J.get 1 rfl).2 with ⟨e, h0⟩ | ⟨g', cap, cur, e, _⟩
        · cases h0
        · exact ⟨_, _, e⟩
      simp only [Value.slice.injEq] at hq
      obtain ⟨rfl, -, rfl⟩ := hq
      have hg := HG.out
      subst hg
      have J2 := J.sel (L2 := stEL bk (⟨SB, β, 0, zb, zc, tb, rb, 0, qb, c, poV x1, poV x2, poV x3, cm, x0, []⟩ : SM) 0) [0, 7, 8, 6, 1, 5] (by decide) (by rw [HST.out]; rfl)
      have J3 := (J2.emp).group.made0 0 rfl
      exact ⟨⟨SB, β, 0, zb, zc, tb, rb, 0, qb, c, poV x1, poV x2, poV x3, cm, x0, []⟩, rfl, ⟨rfl, (hps x0 (by simp)).1⟩, (hps x0 (by simp)).2, J3⟩
end
end Go.Proofs.YtboehbfagnocpaaGreatDoor
namespace Go.Proofs.YtboehbfagnocpaaGreatDoor
open Go.RowKit Go.PlainAid Go.Shelf
open SP
open PM (Cd An Sd Vl upd upd_same upd_ne)
theorem mover_new {every : Int} (he : every = 5 ∨ every = 9) (w : World) : Calls prog 32 #[.int .i64 every] w fun e w' => ∃ b, e = .returned (.pointer (some ⟨b, 0, none⟩)) ∧ Below w.heap.size w w' := by
  rcases he with rfl | rfl
  · go_enter func32, ntmps32
    go_wp2
    go_ret
    exact ⟨_, rfl, bA _ _⟩
  · go_enter func32, ntmps32
    go_wp2
    go_ret
    exact ⟨_, rfl, bA _ _⟩
theorem stats_new (w : World) : Calls prog 33 #[] w fun e w' => ∃ sx, e = .returned (.pointer (some ⟨sx, 0, none⟩)) ∧ Made (stsR sx (fun _ => 0)) w w' := by
  go_enter func33, ntmps33
  go_wp2
  go_ret
  exact ⟨_, rfl, Made.cells w (lst 18 (fun _ => Value.int .u64 0)).toArray 156⟩
theorem mul64_ok {n : Int} (hn : n = 4 ∨ n = 1) (w : World) : Calls prog 151 #[.int .u64 1, .int .u64 n] w fun e w' => e = .returned (.tuple #[.int .u64 0, .int .u64 n]) ∧ w = w' := by
  rcases hn with rfl | rfl
  · have f1 : bits .and .u64 1 4294967295 = 1 := by decide +kernel
    have f2 : bits .and .u64 4 4294967295 = 4 := by decide +kernel
    have f3 : bits .and .u64 0 4294967295 = 0 := by decide +kernel
    go_enter func151, ntmps151
    go_wp2
    go_ret2
    exact ⟨rfl, rfl⟩
  · have f1 : bits .and .u64 1 4294967295 = 1 := by decide +kernel
    have f3 : bits .and .u64 0 4294967295 = 0 := by decide +kernel
    go_enter func151, ntmps151
    go_wp2
    go_ret2
    exact ⟨rfl, rfl⟩
theorem mul_ok {n : Int} (hn : n = 4 ∨ n = 1) (w : World) : Calls prog 84 #[.int .u64 1, .int .u64 n] w fun e w' => e = .returned (.tuple #[.int .u64 0, .int .u64 n]) ∧ w = w' := by
  have H := hid (mul64_ok hn w)
  have hn0 : IntKind.u64.wrap n = n := by rcases hn with rfl | rfl <;> decide
  clear hn
  go_enter func84, ntmps84
  go_wp2_with (go_at_call 151; refine H.out.mono ?_; rintro e w1 ⟨rfl, rfl⟩)
  go_ret2
  exact ⟨rfl, rfl⟩
theorem made_w4 : madeCells #[Value.pointer none] 4 = #[.pointer none, .pointer none, .pointer none, .pointer none] := by
  have h := toList_madeCells_one (Value.pointer none) 4
  apply Array.ext'
  exact h
theorem made_w1 : madeCells #[Value.pointer none] 1 = #[.pointer none] := by
  have h := toList_madeCells_one (Value.pointer none) 1
  apply Array.ext'
  exact h
theorem Tryz.infoW : (prog.info? 140).map (fun i => (i.zero, i.size, i.bytes)) = some (some (.pointer none), 1, 8) := by kernel_rfl
theorem made_i1 : madeCells #[Value.int .i64 0] 1 = #[.int .i64 0] := by
  have h := toList_madeCells_one (Value.int .i64 0) 1
  apply Array.ext'
  exact h
theorem made_i4 : madeCells #[Value.int .i64 0] 4 = #[.int .i64 0, .int .i64 0, .int .i64 0, .int .i64 0] := by
  have h := toList_madeCells_one (Value.int .i64 0) 4
  apply Array.ext'
  exact h
theorem Tryz.infoI3 : (prog.info? 3).map (fun i => (i.zero, i.size, i.bytes)) = some (some (.int .i64 0), 1, 8) := by kernel_rfl
theorem cp_1 {D o S q n cn cm : Nat} {u x : Int} {W : World} (ty : TypeId) (hn : 1 ≤ n) (hs : W.cell? ⟨S, q, none⟩ = some (.int .i64 x)) (hd : W.cell? ⟨D, o, none⟩ = some (.int .i64 u)) (hf : W.frozen? ⟨D, o, none⟩ = false) :
    (Builtin.copy_ #[39, 39] ty #[.slice (some ⟨D, o, none⟩) n cn, .slice (some ⟨S, q, none⟩) 1 cm]).run prog W = .ok (.int .i64 1) (W.setCell ⟨D, o, none⟩ (.int .i64 x)) := by
  obtain ⟨i0, hi, hz0, hz1, hz2⟩ := info_parts Tryz.infoI3
  have hm : Nat.min 1 n = 0 + 1 := Nat.min_eq_left hn
  simp only [Builtin.copy_, run_underlying underlying39, Builtin.lenOf, Builtin.firstCells, sizeOf, typeInfo, hi, hz1, hm]
  simp [Builtin.copy_, run_underlying underlying39, Builtin.lenOf, Builtin.firstCells, sizeOf, typeInfo, hi, hz1, hm, loadCellsFrom, storeCells, hs, hd, hf, go_sem, Addr.add]
theorem cp_2 {D o S q n cn cm : Nat} {u u2 x y : Int} {W : World} (ty : TypeId) (hn : 2 ≤ n) (hs : W.cell? ⟨S, q, none⟩ = some (.int .i64 x)) (hs2 : W.cell? ⟨S, q + 1, none⟩ = some (.int .i64 y)) (hd : W.cell? ⟨D, o, none⟩ = some (.int .i64 u)) (hf : W.frozen? ⟨D, o, none⟩ = false) (hd2 : W.cell? ⟨D, o + 1, none⟩ = some (.int .i64 u2)) (hf2 : W.frozen? ⟨D, o + 1, none⟩ = false) :
    (Builtin.copy_ #[39, 39] ty #[.slice (some ⟨D, o, none⟩) n cn, .slice (some ⟨S, q, none⟩) 2 cm]).run prog W = .ok (.int .i64 2) ((W.setCell ⟨D, o, none⟩ (.int .i64 x)).setCell ⟨D, o + 1, none⟩ (.int .i64 y)) := by
  obtain ⟨i0, hi, hz0, hz1, hz2⟩ := info_parts Tryz.infoI3
  have hm : Nat.min 2 n = 0 + 1 + 1 := Nat.min_eq_left hn
  simp only [Builtin.copy_, run_underlying underlying39, Builtin.lenOf, Builtin.firstCells, sizeOf, typeInfo, hi, hz1, hm]
  simp [Builtin.copy_, run_underlying underlying39, Builtin.lenOf, Builtin.firstCells, sizeOf, typeInfo, hi, hz1, hm, loadCellsFrom, storeCells, hs, hd, hf, hs2, hd2, hf2, go_sem, Addr.add]
theorem fam_emp (n : Nat) (w : World) : (fam n (fun _ => emp)).R w := by
  refine ⟨fun r hr => ?_, List.pairwise_iff_getElem.2 fun i j hi hj hij b hb => ?_⟩
  · simp [lst] at hr
    obtain ⟨_, _, rfl⟩ := hr
    exact trivial
  · simp [lst] at hb
    exact hb.elim
theorem repeat_1 {xb : Nat} {w : World} (hc : w.cell? ⟨xb, 0, none⟩ = some (.int .i64 (-1))) : Calls prog 34 #[.slice (some ⟨xb, 0, none⟩) 1 1, .int .i64 1] w fun e w' =>
    ∃ g, e = .returned (.slice (some ⟨g, 0, none⟩) 1 1) ∧ Made (rowAt (.slice (some ⟨g, 0, none⟩) 1 1) 3 1 1 [.int .i64 (-1)]) w w' := by
  have H := hid (fun w => mul_ok (n := 1) (.inr rfl) w)
  have hmk : ∀ w : World, (Instr.makeSlice 39 (.int .i64 1) (.int .i64 1)).run prog w = .ok (.slice (some ⟨w.heap.size, 0, none⟩) 1 1) (w.alloc (.cells #[.int .i64 0] 3)) :=
    fun w => by rw [← made_i1]; exact run_make_row' (P := prog) 39 3 (.int .i64 0) 8 underlying39 Tryz.infoI3 rfl .i64 .i64 1 (by decide) (by decide) w
  have hxb := cell_lt hc
  have M0 := row_new w #[.int .i64 0] 3 1 rfl (by decide)
  have hs0 : (w.alloc (.cells #[.int .i64 0] 3)).cell? ⟨xb, 0, none⟩ = some (.int .i64 (-1)) := ((bA w _).cell (p := ⟨xb, 0, none⟩) hxb).trans hc
  have hcp := cp_1 (D := w.heap.size) (o := 0) (S := xb) (q := 0) (n := 1) (cn := 1) (cm := 1) (W := w.alloc (.cells #[.int .i64 0] 3)) 3 (by decide) hs0 (row_at M0.here 0 (by decide)) (row_fz M0.here 0)
  have HE := hid (row_new w #[.int .i64 (-1)] 3 1 rfl (by decide))
  clear M0 hc hs0
  go_enter func34, ntmps34
  go_wp2_with (first
    | (go_at_call 84; refine (H.out _).mono ?_; rintro e w1 ⟨rfl, rfl⟩))
  obtain ⟨W1, hW1⟩ : ∃ W1, w.alloc (.cells #[.int .i64 (-1)] 3) = W1 := ⟨_, rfl⟩
  have HE2 := HE.out
  rw [hW1] at HE2 ⊢
  have HE3 := hid HE2
  clear HE HE2 hW1 hcp
  go_loopw [8] (fun n wr => n = .int .i64 1 ∧ wr = W1) (fun _ _ => 0)
  case atStart => exact ⟨rfl, rfl⟩
  case round =>
    obtain ⟨rfl, hr⟩ := hrel
    subst hr
    go_wp2_with (fail)
    go_ret
    exact ⟨w.heap.size, rfl, HE3.out⟩
theorem repeat_4 {xb : Nat} {w : World} (hc : w.cell? ⟨xb, 0, none⟩ = some (.int .i64 (-1))) : Calls prog 34 #[.slice (some ⟨xb, 0, none⟩) 1 1, .int .i64 4] w fun e w' =>
    ∃ g, e = .returned (.slice (some ⟨g, 0, none⟩) 4 4) ∧ Made (rowAt (.slice (some ⟨g, 0, none⟩) 4 4) 3 1 4 [.int .i64 (-1), .int .i64 (-1), .int .i64 (-1), .int .i64 (-1)]) w w' := by
  have H := hid (fun w => mul_ok (n := 4) (.inl rfl) w)
  have hmk : ∀ w : World, (Instr.makeSlice 39 (.int .i64 4) (.int .i64 4)).run prog w = .ok (.slice (some ⟨w.heap.size, 0, none⟩) 4 4) (w.alloc (.cells #[.int .i64 0, .int .i64 0, .int .i64 0, .int .i64 0] 3)) :=
    fun w => by rw [← made_i4]; exact run_make_row' (P := prog) 39 3 (.int .i64 0) 8 underlying39 Tryz.infoI3 rfl .i64 .i64 4 (by decide) (by decide) w
  have hxb := cell_lt hc
  have M0 := row_new w #[.int .i64 0, .int .i64 0, .int .i64 0, .int .i64 0] 3 4 rfl (by decide)
  have hs0 : (w.alloc (.cells #[.int .i64 0, .int .i64 0, .int .i64 0, .int .i64 0] 3)).cell? ⟨xb, 0, none⟩ = some (.int .i64 (-1)) := ((bA w _).cell (p := ⟨xb, 0, none⟩) hxb).trans hc
  have hcp := cp_1 (D := w.heap.size) (o := 0) (S := xb) (q := 0) (n := 4) (cn := 4) (cm := 1) (W := w.alloc (.cells #[.int .i64 0, .int .i64 0, .int .i64 0, .int .i64 0] 3)) 3 (by decide) hs0 (row_at M0.here 0 (by decide)) (row_fz M0.here 0)
  have HE := hid (row_new w #[.int .i64 (-1), .int .i64 0, .int .i64 0, .int .i64 0] 3 4 rfl (by decide))
  clear M0 hc hs0
  go_enter func34, ntmps34
  go_wp2_with (first
    | (go_at_call 84; refine (H.out _).mono ?_; rintro e w1 ⟨rfl, rfl⟩))
  obtain ⟨W1, hW1⟩ : ∃ W1, w.alloc (.cells #[.int .i64 (-1), .int .i64 0, .int .i64 0, .int .i64 0] 3) = W1 := ⟨_, rfl⟩
  obtain ⟨D, hD⟩ : ∃ D, w.heap.size = D := ⟨_, rfl⟩
  have HE2 := HE.out
  rw [hW1] at HE2 ⊢
  rw [hD] at HE2 ⊢
  have HE3 : Hid (Made (rowAt (.slice (some ⟨D, 0, none⟩) 4 4) 3 1 4 [.int .i64 (-1), .int .i64 0, .int .i64 0, .int .i64 0]) w W1) := hid HE2
  clear HE HE2 hW1 hcp hD
  go_loopw [8] (fun n wr => (n = .int .i64 1 ∧ Hid (Made (rowAt (.slice (some ⟨D, 0, none⟩) 4 4) 3 1 4 [.int .i64 (-1), .int .i64 0, .int .i64 0, .int .i64 0]) w wr)) ∨ (n = .int .i64 2 ∧ Hid (Made (rowAt (.slice (some ⟨D, 0, none⟩) 4 4) 3 1 4 [.int .i64 (-1), .int .i64 (-1), .int .i64 0, .int .i64 0]) w wr)) ∨ (n = .int .i64 4 ∧ Hid (Made (rowAt (.slice (some ⟨D, 0, none⟩) 4 4) 3 1 4 [.int .i64 (-1), .int .i64 (-1), .int .i64 (-1), .int .i64 (-1)]) w wr))) (fun n _ => 4 - (intOf n).toNat)
  case atStart => exact .inl ⟨rfl, HE3⟩
  case round =>
    rcases hrel with ⟨rfl, hs⟩ | ⟨rfl, hs⟩ | ⟨rfl, hs⟩
    · have h := hs.out.drew.here
      have hcp := cp_1 (D := D) (o := 1) (S := D) (q := 0) (n := 3) (cn := 3) (cm := 4) (W := wr.drew) 3 (by decide) (row_at h 0 (by decide)) (row_at h 1 (by decide)) (row_fz h 1)
      have HT := hid (hs.out.drew.turn (row_set h 1 (.int .i64 (-1))))
      clear h
      go_wp2_with (fail)
      go_upto_region 9 with fail
      refine wp_region_E (fun _ => True) 7 (by kernel_rfl) trivial (fun hHeld => ?_)
      refine wfE 0 rfl ?_
      (try simp only [lzP, lzA, lzS])
      refine wfE 1 rfl ?_
      (try simp only [lzP, lzA, lzS])
      refine wfE 2 rfl ?_
      (try simp only [lzP, lzA, lzS])
      refine wfE 3 rfl ?_
      (try simp only [lzP, lzA, lzS])
      refine wfE 4 rfl ?_
      (try simp only [lzP, lzA, lzS])
      refine wfE 5 rfl ?_
      (try simp only [lzP, lzA, lzS])
      refine wfE 6 rfl ?_
      (try simp only [lzP, lzA, lzS])
      refine wpAnyE_ready (rs := [7]) (by as_aux_lemma => kernel_rfl) (by simp) ?_
      refine AllReadyE.last (o := _) rfl (fun K hK => ?_)
      rw [if_pos (by as_aux_lemma => rfl)]
      (try simp only [lzA])
      go_simp
      refine hK.out _ _ trivial (fun _ => ?_)
      clear hK K
      (try simp only [lzP, lzA, lzS])
      refine wgE 8 rfl ?_
      (try simp only [lzP, lzA, lzS])
      refine wgE 9 rfl ?_
      (try simp only [lzP, lzA, lzS])
      refine wpAnyE_done (by as_aux_lemma => kernel_rfl) ?_ _
      go_wp2_with (fail)
      go_roundw
      case rel => exact .inr (.inl ⟨by first | rfl | simp, hid HT.out⟩)
      case measure => (simp only [intOf]; decide)
    · have h := hs.out.drew.here
      have hcp := cp_2 (D := D) (o := 2) (S := D) (q := 0) (n := 2) (cn := 2) (cm := 4) (W := wr.drew) 3 (by decide) (row_at h 0 (by decide)) (row_at h 1 (by decide)) (row_at h 2 (by decide)) (row_fz h 2) (row_at h 3 (by decide)) (row_fz h 3)
      have t1 := row_set h 2 (.int .i64 (-1))
      have HT := hid (hs.out.drew.turn (t1.trans (row_set t1.here 3 (.int .i64 (-1)))))
      clear h t1
      go_wp2_with (fail)
      go_upto_region 9 with fail
      refine wp_region_E (fun _ => True) 7 (by kernel_rfl) trivial (fun hHeld => ?_)
      refine wfE 0 rfl ?_
      (try simp only [lzP, lzA, lzS])
      refine wfE 1 rfl ?_
      (try simp only [lzP, lzA, lzS])
      refine wfE 2 rfl ?_
      (try simp only [lzP, lzA, lzS])
      refine wfE 3 rfl ?_
      (try simp only [lzP, lzA, lzS])
      refine wfE 4 rfl ?_
      (try simp only [lzP, lzA, lzS])
      refine wfE 5 rfl ?_
      (try simp only [lzP, lzA, lzS])
      refine wfE 6 rfl ?_
      (try simp only [lzP, lzA, lzS])
      refine wpAnyE_ready (rs := [7]) (by as_aux_lemma => kernel_rfl) (by simp) ?_
      refine AllReadyE.last (o := _) rfl (fun K hK => ?_)
      rw [if_pos (by as_aux_lemma => rfl)]
      (try simp only [lzA])
      go_simp
      refine hK.out _ _ trivial (fun _ => ?_)
      clear hK K
      (try simp only [lzP, lzA, lzS])
      refine wgE 8 rfl ?_
      (try simp only [lzP, lzA, lzS])
      refine wgE 9 rfl ?_
      (try simp only [lzP, lzA, lzS])
      refine wpAnyE_done (by as_aux_lemma => kernel_rfl) ?_ _
      go_wp2_with (fail)
      go_roundw
      case rel => exact .inr (.inr ⟨by first | rfl | simp, hid HT.out⟩)
      case measure => (simp only [intOf]; decide)
    · go_wp2_with (fail)
      go_ret
      exact ⟨D, rfl, hs.out⟩
section
variable {key : ByteArray} {h : Int} {bk : Nat} {w : World}
set_option maxHeartbeats 2000000 in
theorem new_11 (k : Bool) {kv : Int} (hkv : (if k then 1 else 0) = kv) (w : World) : Calls prog 9 #[.agg #[.int .i64 1, .int .i64 512, .int .i64 200, .int .i64 kv], .int .i64 1, .int .i64 1, .int .i64 9] w fun e w' =>
    ∃ p : Pl, e = .returned (.tuple #[.pointer (some ⟨p.b, 0, none⟩), .int .i64 0]) ∧ SOkE p.m ∧ p.m.ps.num = 0 ∧ Made (many (opL key h bk 1 1 0 p (.slice none 0 0))) w w' := by
  have HS := hid (fun w => store_new (key := key) (h := h) (bk := bk) k w hkv)
  have HMv := hid (fun w => mover_new (every := 9) (by decide) w)
  have HSt := hid (fun w => stats_new w)
  have HRp := hid (fun (xb : Nat) (w : World) (hc : w.cell? ⟨xb, 0, none⟩ = some (.int .i64 (-1))) => repeat_1 hc)
  have hmk : ∀ w : World, (Instr.makeSlice 77 (.int .i64 1) (.int .i64 1)).run prog w = .ok (.slice (some ⟨w.heap.size, 0, none⟩) 1 1) (w.alloc (.cells #[.pointer none] 140)) :=
    fun w => by rw [← made_w1]; exact run_make_row' (P := prog) 77 140 (.pointer none) 8 underlying77 Tryz.infoW rfl .i64 .i64 1 (by decide) (by decide) w
  have J0 := (Hav.none w).cells #[.int .i64 1, .int .i64 512, .int .i64 200, .int .i64 kv] 28
  obtain ⟨CB, hCB⟩ : ∃ CB, w.heap.size = CB := ⟨_, rfl⟩
  obtain ⟨W0, hW0⟩ : ∃ W0, w.alloc (.cells #[.int .i64 1, .int .i64 512, .int .i64 200, .int .i64 kv] 28) = W0 := ⟨_, rfl⟩
  rw [hCB, hW0] at J0
  have HW0 := hid hW0
  have HJ0 := hid J0
  obtain ⟨c0, c1, c2, c3⟩ : ca4 W0 CB (.int .i64 1) (.int .i64 512) (.int .i64 200) (.int .i64 kv) := ca4' (J0.get 0 rfl)
  clear J0 hW0 hkv
  go_enter func9, ntmps9
  go_upto_region 1 with fail
  rw [HW0.out]
  clear HW0 hCB
  go_wp2_with (first
    | (go_at_call 14; refine (HS.out _).mono ?_; rintro e w1 ⟨m, rfl, ho, hn0, hm1⟩; have HJ1 := hid (HJ0.out.made hm1); have HO := hid (And.intro ho hn0); clear hm1 ho hn0)
    | (go_at_call 32; refine (HMv.out _).mono ?_; rintro e w2 ⟨mv, rfl, hb2⟩; have HJ2 := hid (HJ1.out.below hb2); clear hb2))
  go_upto_region 5 with fail
  go_cut [8, 9] from 42 to 51 (fun s8 s9 wx => ∃ b wlb slb sx, s8 = .pointer (some ⟨b, 0, none⟩) ∧ s9 = .int .i64 0 ∧ Hid (Hav (fun _ => False) w [cAt b #[.pointer (some ⟨m.s, 0, none⟩), .pointer (some ⟨mv, 0, none⟩), .pointer (some ⟨sx, 0, none⟩), .int .i64 1, .slice none 0 0, .slice (some ⟨wlb, 0, none⟩) 1 1, .slice (some ⟨slb, 0, none⟩) 1 1, .slice none 0 0] 81, cAt wlb #[.pointer none] 140, rowAt (.slice (some ⟨slb, 0, none⟩) 1 1) 3 1 1 [.int .i64 (-1)], stsR sx (fun _ => 0), stoR key h bk m PM.sd0] wx))
  case first =>
    go_region_held3 (fun _ => True) (exact trivial) (first
      | (go_at_call 33; refine (HSt.out _).mono ?_; rintro e w5 ⟨sx, rfl, hmA⟩)
      | (go_at_call 34
         (first
          | (have J := ((((HJ2.out).drew).made hmA).cells #[.pointer none] 140).cells #[.int .i64 (-1)] 3; (try simp only [World.size_alloc, World.size_drew] at J); have hq : _ = some (Value.int .i64 (-1)) := cA (J.get 0 rfl) 0; (with_reducible refine (HRp.out _ _ hq).mono ?_); clear J hq)
          | (have J := ((((HJ2.out).drew).made hmA).cells #[.int .i64 (-1)] 3).cells #[.pointer none] 140; (try simp only [World.size_alloc, World.size_drew] at J); have hq : _ = some (Value.int .i64 (-1)) := cA (J.get 1 rfl) 0; (with_reducible refine (HRp.out _ _ hq).mono ?_); clear J hq)
          | (have J := (((HJ2.out).drew).made hmA).cells #[.int .i64 (-1)] 3; (try simp only [World.size_alloc, World.size_drew] at J); have hq : _ = some (Value.int .i64 (-1)) := cA (J.get 0 rfl) 0; (with_reducible refine (HRp.out _ _ hq).mono ?_); clear J hq)
          | (have J := ((((HJ2.out).cells #[.pointer none] 140).drew).made hmA).cells #[.int .i64 (-1)] 3; (try simp only [World.size_alloc, World.size_drew] at J); have hq : _ = some (Value.int .i64 (-1)) := cA (J.get 0 rfl) 0; (with_reducible refine (HRp.out _ _ hq).mono ?_); clear J hq)
          | (have J := ((((HJ2.out).cells #[.pointer none] 140).cells #[.int .i64 (-1)] 3).drew).made hmA; (try simp only [World.size_alloc, World.size_drew] at J); have hq : _ = some (Value.int .i64 (-1)) := cA (J.get 1 rfl) 0; (with_reducible refine (HRp.out _ _ hq).mono ?_); clear J hq)
          | (have J := (((HJ2.out).cells #[.pointer none] 140).cells #[.int .i64 (-1)] 3).drew; (try simp only [World.size_alloc, World.size_drew] at J); have hq : _ = some (Value.int .i64 (-1)) := cA (J.get 0 rfl) 0; (with_reducible refine (HRp.out _ _ hq).mono ?_); clear J hq)
          | (have J := ((((HJ2.out).cells #[.int .i64 (-1)] 3).drew).made hmA).cells #[.pointer none] 140; (try simp only [World.size_alloc, World.size_drew] at J); have hq : _ = some (Value.int .i64 (-1)) := cA (J.get 2 rfl) 0; (with_reducible refine (HRp.out _ _ hq).mono ?_); clear J hq)
          | (have J := (((HJ2.out).cells #[.int .i64 (-1)] 3).drew).made hmA; (try simp only [World.size_alloc, World.size_drew] at J); have hq : _ = some (Value.int .i64 (-1)) := cA (J.get 1 rfl) 0; (with_reducible refine (HRp.out _ _ hq).mono ?_); clear J hq)
          | (have J := ((((HJ2.out).cells #[.int .i64 (-1)] 3).cells #[.pointer none] 140).drew).made hmA; (try simp only [World.size_alloc, World.size_drew] at J); have hq : _ = some (Value.int .i64 (-1)) := cA (J.get 2 rfl) 0; (with_reducible refine (HRp.out _ _ hq).mono ?_); clear J hq)
          | (have J := (((HJ2.out).cells #[.int .i64 (-1)] 3).cells #[.pointer none] 140).drew; (try simp only [World.size_alloc, World.size_drew] at J); have hq : _ = some (Value.int .i64 (-1)) := cA (J.get 1 rfl) 0; (with_reducible refine (HRp.out _ _ hq).mono ?_); clear J hq)
          | (have J := ((HJ2.out).cells #[.int .i64 (-1)] 3).drew; (try simp only [World.size_alloc, World.size_drew] at J); have hq : _ = some (Value.int .i64 (-1)) := cA (J.get 0 rfl) 0; (with_reducible refine (HRp.out _ _ hq).mono ?_); clear J hq))
         rintro e w6 ⟨g, rfl, hmD⟩))
    all_goals (go_wp2_with fail)
    all_goals go_meet
    all_goals first
      | (have J := ((((((HJ2.out).drew).made hmA).cells #[.pointer none] 140).cells #[.int .i64 (-1)] 3).made hmD).cells #[.pointer (some ⟨m.s, 0, none⟩), .pointer (some ⟨mv, 0, none⟩), .pointer (some ⟨sx, 0, none⟩), .int .i64 1, .slice none 0 0, .slice (some ⟨w5.heap.size, 0, none⟩) 1 1, .slice (some ⟨g, 0, none⟩) 1 1, .slice none 0 0] 81; (try simp only [World.size_alloc, World.size_drew] at J); (with_reducible refine ⟨_, w5.heap.size, g, sx, rfl, rfl, hid (Hav.sel J [0, 3, 1, 4, 5] (by decide) ?_)⟩); rfl)
      | (have J := ((((((HJ2.out).drew).made hmA).cells #[.int .i64 (-1)] 3).cells #[.pointer none] 140).made hmD).cells #[.pointer (some ⟨m.s, 0, none⟩), .pointer (some ⟨mv, 0, none⟩), .pointer (some ⟨sx, 0, none⟩), .int .i64 1, .slice none 0 0, .slice (some ⟨w5.heap.size + 1, 0, none⟩) 1 1, .slice (some ⟨g, 0, none⟩) 1 1, .slice none 0 0] 81; (try simp only [World.size_alloc, World.size_drew] at J); (with_reducible refine ⟨_, w5.heap.size + 1, g, sx, rfl, rfl, hid (Hav.sel J [0, 2, 1, 4, 5] (by decide) ?_)⟩); rfl)
      | (have J := ((((((HJ2.out).drew).made hmA).cells #[.int .i64 (-1)] 3).made hmD).cells #[.pointer none] 140).cells #[.pointer (some ⟨m.s, 0, none⟩), .pointer (some ⟨mv, 0, none⟩), .pointer (some ⟨sx, 0, none⟩), .int .i64 1, .slice none 0 0, .slice (some ⟨w6.heap.size, 0, none⟩) 1 1, .slice (some ⟨g, 0, none⟩) 1 1, .slice none 0 0] 81; (try simp only [World.size_alloc, World.size_drew] at J); (with_reducible refine ⟨_, w6.heap.size, g, sx, rfl, rfl, hid (Hav.sel J [0, 1, 2, 4, 5] (by decide) ?_)⟩); rfl)
      | (have J := ((((((HJ2.out).cells #[.pointer none] 140).drew).made hmA).cells #[.int .i64 (-1)] 3).made hmD).cells #[.pointer (some ⟨m.s, 0, none⟩), .pointer (some ⟨mv, 0, none⟩), .pointer (some ⟨sx, 0, none⟩), .int .i64 1, .slice none 0 0, .slice (some ⟨w2.heap.size, 0, none⟩) 1 1, .slice (some ⟨g, 0, none⟩) 1 1, .slice none 0 0] 81; (try simp only [World.size_alloc, World.size_drew] at J); (with_reducible refine ⟨_, w2.heap.size, g, sx, rfl, rfl, hid (Hav.sel J [0, 4, 1, 3, 5] (by decide) ?_)⟩); rfl)
      | (have J := ((((((HJ2.out).cells #[.pointer none] 140).cells #[.int .i64 (-1)] 3).drew).made hmA).made hmD).cells #[.pointer (some ⟨m.s, 0, none⟩), .pointer (some ⟨mv, 0, none⟩), .pointer (some ⟨sx, 0, none⟩), .int .i64 1, .slice none 0 0, .slice (some ⟨w2.heap.size, 0, none⟩) 1 1, .slice (some ⟨g, 0, none⟩) 1 1, .slice none 0 0] 81; (try simp only [World.size_alloc, World.size_drew] at J); (with_reducible refine ⟨_, w2.heap.size, g, sx, rfl, rfl, hid (Hav.sel J [0, 4, 1, 2, 5] (by decide) ?_)⟩); rfl)
      | (have J := ((((((HJ2.out).cells #[.pointer none] 140).cells #[.int .i64 (-1)] 3).drew).made hmD).made hmA).cells #[.pointer (some ⟨m.s, 0, none⟩), .pointer (some ⟨mv, 0, none⟩), .pointer (some ⟨sx, 0, none⟩), .int .i64 1, .slice none 0 0, .slice (some ⟨w2.heap.size, 0, none⟩) 1 1, .slice (some ⟨g, 0, none⟩) 1 1, .slice none 0 0] 81; (try simp only [World.size_alloc, World.size_drew] at J); (with_reducible refine ⟨_, w2.heap.size, g, sx, rfl, rfl, hid (Hav.sel J [0, 4, 2, 1, 5] (by decide) ?_)⟩); rfl)
      | (have J := ((((((HJ2.out).cells #[.int .i64 (-1)] 3).drew).made hmA).cells #[.pointer none] 140).made hmD).cells #[.pointer (some ⟨m.s, 0, none⟩), .pointer (some ⟨mv, 0, none⟩), .pointer (some ⟨sx, 0, none⟩), .int .i64 1, .slice none 0 0, .slice (some ⟨w5.heap.size, 0, none⟩) 1 1, .slice (some ⟨g, 0, none⟩) 1 1, .slice none 0 0] 81; (try simp only [World.size_alloc, World.size_drew] at J); (with_reducible refine ⟨_, w5.heap.size, g, sx, rfl, rfl, hid (Hav.sel J [0, 2, 1, 3, 5] (by decide) ?_)⟩); rfl)
      | (have J := ((((((HJ2.out).cells #[.int .i64 (-1)] 3).drew).made hmA).made hmD).cells #[.pointer none] 140).cells #[.pointer (some ⟨m.s, 0, none⟩), .pointer (some ⟨mv, 0, none⟩), .pointer (some ⟨sx, 0, none⟩), .int .i64 1, .slice none 0 0, .slice (some ⟨w6.heap.size, 0, none⟩) 1 1, .slice (some ⟨g, 0, none⟩) 1 1, .slice none 0 0] 81; (try simp only [World.size_alloc, World.size_drew] at J); (with_reducible refine ⟨_, w6.heap.size, g, sx, rfl, rfl, hid (Hav.sel J [0, 1, 2, 3, 5] (by decide) ?_)⟩); rfl)
      | (have J := ((((((HJ2.out).cells #[.int .i64 (-1)] 3).cells #[.pointer none] 140).drew).made hmA).made hmD).cells #[.pointer (some ⟨m.s, 0, none⟩), .pointer (some ⟨mv, 0, none⟩), .pointer (some ⟨sx, 0, none⟩), .int .i64 1, .slice none 0 0, .slice (some ⟨w2.heap.size + 1, 0, none⟩) 1 1, .slice (some ⟨g, 0, none⟩) 1 1, .slice none 0 0] 81; (try simp only [World.size_alloc, World.size_drew] at J); (with_reducible refine ⟨_, w2.heap.size + 1, g, sx, rfl, rfl, hid (Hav.sel J [0, 3, 1, 2, 5] (by decide) ?_)⟩); rfl)
      | (have J := ((((((HJ2.out).cells #[.int .i64 (-1)] 3).cells #[.pointer none] 140).drew).made hmD).made hmA).cells #[.pointer (some ⟨m.s, 0, none⟩), .pointer (some ⟨mv, 0, none⟩), .pointer (some ⟨sx, 0, none⟩), .int .i64 1, .slice none 0 0, .slice (some ⟨w2.heap.size + 1, 0, none⟩) 1 1, .slice (some ⟨g, 0, none⟩) 1 1, .slice none 0 0] 81; (try simp only [World.size_alloc, World.size_drew] at J); (with_reducible refine ⟨_, w2.heap.size + 1, g, sx, rfl, rfl, hid (Hav.sel J [0, 3, 2, 1, 5] (by decide) ?_)⟩); rfl)
      | (have J := ((((((HJ2.out).cells #[.int .i64 (-1)] 3).drew).made hmD).made hmA).cells #[.pointer none] 140).cells #[.pointer (some ⟨m.s, 0, none⟩), .pointer (some ⟨mv, 0, none⟩), .pointer (some ⟨sx, 0, none⟩), .int .i64 1, .slice none 0 0, .slice (some ⟨w5.heap.size, 0, none⟩) 1 1, .slice (some ⟨g, 0, none⟩) 1 1, .slice none 0 0] 81; (try simp only [World.size_alloc, World.size_drew] at J); (with_reducible refine ⟨_, w5.heap.size, g, sx, rfl, rfl, hid (Hav.sel J [0, 1, 3, 2, 5] (by decide) ?_)⟩); rfl)
      | (have J := ((((((HJ2.out).cells #[.int .i64 (-1)] 3).drew).made hmD).cells #[.pointer none] 140).made hmA).cells #[.pointer (some ⟨m.s, 0, none⟩), .pointer (some ⟨mv, 0, none⟩), .pointer (some ⟨sx, 0, none⟩), .int .i64 1, .slice none 0 0, .slice (some ⟨w6.heap.size, 0, none⟩) 1 1, .slice (some ⟨g, 0, none⟩) 1 1, .slice none 0 0] 81; (try simp only [World.size_alloc, World.size_drew] at J); (with_reducible refine ⟨_, w6.heap.size, g, sx, rfl, rfl, hid (Hav.sel J [0, 2, 3, 1, 5] (by decide) ?_)⟩); rfl)
      | fail
  case rest =>
    obtain ⟨b, wlb, slb, sx, rfl, rfl, hJ⟩ := hcut
    go_wp2_with (fail)
    go_ret2
    have J1 := hJ.out.turn 1 rfl (Turn.conv (r' := rowAt (.slice (some ⟨wlb, 0, none⟩) 1 1) 140 1 1 [.pointer none]) (hJ.out.get 1 rfl) (fun h => cells_row h rfl (by decide)) (fun b hb => (by have e : some wlb = some b := hb; cases e; rfl)))
    have J2 := hav_rowNil (hav_rowNil J1 82 1) 136 35
    have J3 := hav_add (r := fam 0 (clR key (⟨b, mv, sx, 0, 0, wlb, 1, slb, 1, .slice none 0 0, fun _ => 0, fun _ => 0, fun _ => 0, fun _ => ⟨0, 0, 0, .slice none 0 0, .slice none 0 0⟩, m⟩ : Pl) PM.ini)) J2 (fam_new0 _) (fun b hb => (by obtain ⟨r, hr, _⟩ := hb; simp [lst] at hr))
    have J4 := hav_add (r := fam 1 (fun _ => emp)) J3 (fam_emp _ _) (fun b hb => (by obtain ⟨r, hr, hb⟩ := hb; simp [lst] at hr; obtain ⟨_, _, rfl⟩ := hr; exact hb))
    have J5 := J4.sel (L2 := opL key h bk 1 1 0 (⟨b, mv, sx, 0, 0, wlb, 1, slb, 1, .slice none 0 0, fun _ => 0, fun _ => 0, fun _ => 0, fun _ => ⟨0, 0, 0, .slice none 0 0, .slice none 0 0⟩, m⟩ : Pl) (.slice none 0 0)) [4, 3, 5, 6, 2, 8, 7, 1, 0] (by decide) rfl
    exact ⟨⟨b, mv, sx, 0, 0, wlb, 1, slb, 1, .slice none 0 0, fun _ => 0, fun _ => 0, fun _ => 0, fun _ => ⟨0, 0, 0, .slice none 0 0, .slice none 0 0⟩, m⟩, rfl, HO.out.1, HO.out.2, (J5.emp).group.made0 0 rfl⟩
end
end Go.Proofs.YtboehbfagnocpaaGreatDoor
