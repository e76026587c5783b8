/- Tmj. -/
import Derived.Test.YtboehbfagnocpaaGreatDoorUas
set_option linter.unusedVariables false
set_option linter.unusedSimpArgs false
set_option maxRecDepth 100000
open Go.Proofs.Tryz
open Go.Lib (hid)
namespace Go.Proofs.YtboehbfagnocpaaGreatDoor
open Go.RowKit Go.PlainAid Go.Shelf
theorem Hav.none (w : World) : Hav (fun _ => False) w [] w := ⟨fun _ h => absurd h (by simp), List.Pairwise.nil, fun _ h => absurd h (by simp), Tch.refl _ _⟩
theorem Hav.join {D : Nat → Prop} {w0 w : World} {r s : Res} {L : List Res} (h : Hav D w0 (r :: s :: L) w) : Hav D w0 (many [r, s] :: L) w := by
  have hp := List.pairwise_cons.1 h.ap
  have hq := List.pairwise_cons.1 hp.2
  refine ⟨fun t ht => ?_, List.pairwise_cons.2 ⟨fun t ht b hb hx => ?_, hq.2⟩, fun t ht b hb => ?_, h.tch⟩
  · rcases List.mem_cons.1 ht with rfl | ht
    · refine ⟨fun u hu => h.all u ?_, List.pairwise_cons.2 ⟨fun u hu => ?_, List.pairwise_singleton _ _⟩⟩
      · rcases List.mem_cons.1 hu with rfl | hu
        · exact .head _
        · rw [List.mem_singleton.1 hu]; exact .tail _ (.head _)
      · rw [List.mem_singleton.1 hu]; exact hp.1 s (.head _)
    · exact h.all t (.tail _ (.tail _ ht))
  · obtain ⟨u, hu, hb⟩ := hb
    rcases List.mem_cons.1 hu with rfl | hu
    · exact hp.1 t (.tail _ ht) b hb hx
    · rw [List.mem_singleton.1 hu] at hb; exact hq.1 t ht b hb hx
  · rcases List.mem_cons.1 ht with rfl | ht
    · obtain ⟨u, hu, hb⟩ := hb
      rcases List.mem_cons.1 hu with rfl | hu
      · exact h.lo _ (.head _) b hb
      · rw [List.mem_singleton.1 hu] at hb; exact h.lo _ (.tail _ (.head _)) b hb
    · exact h.lo t (.tail _ (.tail _ ht)) b hb
theorem Hav.made0 {r : Res} {w0 w : World} {L : List Res} (h : Hav (fun _ => False) w0 L w) (i : Nat) (hi : L[i]? = some r) : Made r w0 w :=
  ⟨h.get i hi, h.tch.below (Below.refl _ _) (Nat.le_refl _) (fun b hb => hb.elim), fun b hb => (h.lo r (List.mem_of_getElem? hi) b hb).elim (fun x => x.elim) id⟩
theorem wd_sets {x y : Value} {b : Bool} {cas : Int} {c : Cm} : ((((#[x, .int .u64 cas, .int .i64 0, .int .i64 1, .int .i64 c.op, .int .i64 c.mode, .string c.key, .string c.value, .int .u32 c.flags, .int .i64 c.exp, .bool false, .int .u64 c.cas, .bool c.hasCas, .int .u64 c.delta, .int .u64 0, .bool false, .bool false, .int .i64 0, .int .i64 c.recache, .bool false, .int .i64 472, .int .i64 0, .bool false] : Array Value).setIfInBounds 0 y).setIfInBounds 21 (.int .i64 0)).setIfInBounds 22 (.bool b)) = wdC y cas c b := by
  simp [wdC]
theorem wd_sets' {x y : Value} {b : Bool} {cas : Int} {c : Cm} : ((((#[x, .int .u64 cas, .int .i64 0, .int .i64 1, .int .i64 c.op, .int .i64 c.mode, .string c.key, .string c.value, .int .u32 c.flags, .int .i64 c.exp, .bool false, .int .u64 c.cas, .bool c.hasCas, .int .u64 c.delta, .int .u64 0, .bool false, .bool false, .int .i64 0, .int .i64 c.recache, .bool false, .int .i64 472, .int .i64 0, .bool false] : Array Value).setIfInBounds 0 y).setIfInBounds 22 (.bool b)).setIfInBounds 21 (.int .i64 0)) = wdC y cas c b := by
  simp [wdC]
def stt0 : Array Value := #[.slice .none 0 0, .int .u64 0, .int .i64 0]
theorem stt_set {a b c : Value} : setsV 0 [a, b, c] stt0 = #[a, b, c] := by
  simp [setsV, stt0]
theorem ret_two {fn : Func} {k m : Nat} (hres : fn.results = #[.cell k 121, .cell m 52]) {R : Ending → World → Prop} {tmps : Array Value} {W : World} {M N : Nat} {s0 s1 s2 v0 v1 v2 v3 v4 v5 v6 v7 v8 v9 v10 v11 v12 : Value}
    (h2 : tmps.getD k undef = .pointer (some ⟨M, 0, .none⟩)) (h3 : tmps.getD m undef = .pointer (some ⟨N, 0, .none⟩)) (ha : (cAt M #[s0, s1, s2] 121).R W) (hb : (cAt N #[v0, v1, v2, v3, v4, v5, v6, v7, v8, v9, v10, v11, v12] 52).R W)
    (hR : R (.returned (.tuple #[.agg #[s0, s1, s2], .agg #[v0, v1, v2, v3, v4, v5, v6, v7, v8, v9, v10, v11, v12]])) W) :
    bodyPost prog fn R .ret { tmps := tmps, defers := [] } W := by
  refine bodyPost_ret (v := .tuple #[.agg #[s0, s1, s2], .agg #[v0, v1, v2, v3, v4, v5, v6, v7, v8, v9, v10, v11, v12]]) ?_ rfl hR
  have h2' : tmps[k]?.getD undef = .pointer (some ⟨M, 0, .none⟩) := by simpa using h2
  have h3' : tmps[m]?.getD undef = .pointer (some ⟨N, 0, .none⟩) := by simpa using h3
  obtain ⟨y0, y1, y2⟩ : ca3 W M s0 s1 s2 := ca3' (ha)
  obtain ⟨x0, x1, x2, x3, x4, x5, x6, x7, x8, x9, x10, x11, x12⟩ : ca13 W N v0 v1 v2 v3 v4 v5 v6 v7 v8 v9 v10 v11 v12 := ca13' (hb)
  simp [results, hres, go_sem, h2', h3', y0, y1, y2, x0, x1, x2, x3, x4, x5, x6, x7, x8, x9, x10, x11, x12]
end Go.Proofs.YtboehbfagnocpaaGreatDoor
