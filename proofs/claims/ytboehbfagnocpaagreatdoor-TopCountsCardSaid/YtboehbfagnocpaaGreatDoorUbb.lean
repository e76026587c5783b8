/- Tsh. -/
import Derived.Test.YtboehbfagnocpaaGreatDoorUay
set_option linter.unusedVariables false
set_option linter.unusedSimpArgs false
set_option maxRecDepth 100000
open Go.Proofs.Tryz
open Go.Lib (hid)
namespace Go.Proofs.YtboehbfagnocpaaGreatDoor
open Go.RowKit Go.PlainAid Go.Shelf
open SP
def bytR (g n cap : Nat) (l : List Int) : Res := rowAt (.slice (some ⟨g, 0, none⟩) n cap) 5 1 n (l.map (.int .u8))
theorem wf_bs {bs bs' : List Int} {L : Nat} (h : Wf (pi1 bs) L) : Wf (pi1 bs') L := ⟨h.np1, h.rng, h.siz, h.k1, h.sz, h.rl, h.pl, h.pg, h.ch, h.lim⟩
theorem enc_it {key : ByteArray} {x : PM.It} (hk : key.size = 1) (hkr : I8.keyB key = true) (hx : ItOk x) (w : World) :
    Calls prog 118 #[itmV key x.fl (vlB x.v) x.cas x.last] w fun e w' => ∃ g cap, e = .returned (.tuple #[.slice (some ⟨g, 0, none⟩) (encI key x).length cap, .int .i64 0]) ∧ Made (bytR g (encI key x).length cap (encI key x)) w w' := by
  have h1 := hx.v
  have h2 := hx.fl
  have h3 := hx.cas
  have h4 := hx.last
  have hr : I8.rightB key (vlB x.v) 0 x.last = true := by
    unfold I8.rightB
    simp [hkr]; omega
  refine (I8.encode_any key (vlB x.v) x.fl 0 x.cas x.last false false w (by unfold maxLen; omega) (by unfold maxLen; omega) hr (by omega) (by omega) (by omega) (by omega) (by omega) (by decide) (by decide) (by omega) (by omega) (by omega) (by omega)).mono ?_
  rintro e w' ⟨u, rfl, ho, hb⟩
  have e1 : I8.encR key (vlB x.v) x.fl 0 x.cas x.last false false = encI key x := by unfold I8.encR encI; rw [if_pos hr]
  rw [e1] at ho
  rw [if_pos hr]
  have hl := encI_len hk hx
  rcases ho.2 with ⟨_, h0⟩ | ⟨g, cap, cur, rfl, g2, g3, g4, g5, g6, g7⟩
  · omega
  · exact ⟨g, cap, rfl, own_zero ho, hb, fun b hx => (ho.lt b hx).1⟩
theorem put_it {key : ByteArray} {x : PM.It} {β : Bk} {bs : List Int} {L : Nat} {w : World} {g cap : Nat} (hk : key.size = 1) (hx : ItOk x) (hm : (slabR β (pi1 bs) L).R w) (hw : Wf (pi1 bs) L) (hl : (AP.ext bs 512).length = 512) (hbb : I8.P.Bytes (AP.ext bs 512)) (hbl : bs.length ≤ 512)
    (hr : (bytR g (encI key x).length cap (encI key x)).R w) (hd : ¬ foot β (pi1 bs) g) :
    Calls prog 121 #[.pointer (some ⟨β.sb, 0, none⟩), .int .i64 0, .slice (some ⟨g, 0, none⟩) (encI key x).length cap] w fun e w' => e = .returned (.int .i64 0) ∧ ∃ β' bs', β'.sb = β.sb ∧ β'.g = β.g ∧ Holds key x bs' ∧ Turn (slabR β (pi1 bs) L) (slabR β' (pi1 bs') L) w w' := by
  have hle := encI_len hk hx
  have hpt := pt_pi1 bs (encI key x) (by omega)
  refine (put_any hm hw 0 (by decide) _ _ _ (encI key x) rfl (by omega) (by show bs.length ≤ _; omega) (fun w' ht => ?_)).mono ?_
  · exact I8.rb_own ((bytR g (encI key x).length cap (encI key x)).keep hr ht (fun b hb hx => by have e : some g = some b := hb; cases e; exact hd hx))
  · rintro e w' ⟨rfl, β', h1, h2⟩
    rw [hpt.2] at h1 h2
    rw [hpt.1]
    refine ⟨rfl, β', _, h2.sb, h2.g, ⟨?_, ⟨_, rfl⟩, ?_⟩, slab_turn h1 h2⟩
    · rw [List.length_append, List.length_drop, hl]; omega
    · intro y hy
      rcases List.mem_append.1 hy with h3 | h3
      · exact I8.encL_bytes _ _ _ _ _ _ _ _ y h3
      · exact hbb y (List.mem_of_mem_drop h3)
theorem ret_ans2 {fn : Func} {k m : Nat} (hres : fn.results = #[.cell k 52, .tmp m]) {R : Ending → World → Prop} {tmps : Array Value} {W : World} {N : Nat} {vm v0 v1 v2 v3 v4 v5 v6 v7 v8 v9 v10 v11 v12 : Value}
    (h2 : tmps.getD k undef = .pointer (some ⟨N, 0, none⟩)) (hm : tmps.getD m undef = vm) (hb : (cAt N #[v0, v1, v2, v3, v4, v5, v6, v7, v8, v9, v10, v11, v12] 52).R W)
    (hR : R (.returned (.tuple #[.agg #[v0, v1, v2, v3, v4, v5, v6, v7, v8, v9, v10, v11, v12], vm])) W) :
    bodyPost prog fn R .ret { tmps := tmps, defers := [] } W := by
  refine bodyPost_ret (v := .tuple #[.agg #[v0, v1, v2, v3, v4, v5, v6, v7, v8, v9, v10, v11, v12], vm]) ?_ rfl hR
  have h2' : tmps[k]?.getD undef = .pointer (some ⟨N, 0, none⟩) := by simpa using h2
  have h3' : tmps[m]?.getD undef = vm := by simpa using hm
  obtain ⟨x0, x1, x2, x3, x4, x5, x6, x7, x8, x9, x10, x11, x12⟩ : ca13 W N v0 v1 v2 v3 v4 v5 v6 v7 v8 v9 v10 v11 v12 := ca13' (hb)
  simp [results, hres, go_sem, h2', h3', x0, x1, x2, x3, x4, x5, x6, x7, x8, x9, x10, x11, x12]
theorem ans_set {v0 v1 v2 v3 v4 v5 v6 v7 v8 v9 v10 v11 v12 : Value} : setsV 0 [v0, v1, v2, v3, v4, v5, v6, v7, v8, v9, v10, v11, v12] (ansT 0) = #[v0, v1, v2, v3, v4, v5, v6, v7, v8, v9, v10, v11, v12] := by
  simp [setsV, ansT]
end Go.Proofs.YtboehbfagnocpaaGreatDoor
