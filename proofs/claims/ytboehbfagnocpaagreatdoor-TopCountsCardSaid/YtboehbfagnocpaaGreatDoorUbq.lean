/- Tue. -/
import Derived.Test.YtboehbfagnocpaaGreatDoorUbp
set_option linter.unusedVariables false
set_option linter.unusedSimpArgs false
set_option maxRecDepth 100000
open Go.Proofs.Tryz
open Go.Lib (hid)
namespace Go.Proofs.YtboehbfagnocpaaGreatDoor
open Go.RowKit Go.PlainAid Go.Shelf
theorem range_at {b : Nat} {vs : Array Value} {t : TypeId} {w : World} (o : Nat) (h : (cAt b vs t).R w) (l : List Value) (hl : (vs.toList.drop o).take l.length = l) : w.rangeAt b o l := fun j v hv => by
  rw [cA h (o + j)]
  rw [← hl, List.getElem?_take] at hv
  split at hv
  · rw [List.getElem?_drop] at hv
    rw [← hv]; simp
  · cases hv
theorem szE : (prog.info? 136).map (·.size) = some 35 := by kernel_rfl
theorem szA : (prog.info? 52).map (·.size) = some 13 := by kernel_rfl
set_option maxHeartbeats 4000000 in
theorem goes_gen {r0 : Res} {wb mb n : Nat} {o : Option Int} {ia : Option Addr} {im ic : Nat} {cas cas2 sq op mode flags exp tok delta recache st afl aca ala num fl2 ca2 la2 : Int} {ckey value ak av ky v2 : ByteArray} {hasCas : Bool} {w : World} (hst0 : ¬ st = 0) (hst : ¬ st = 12) (ho : (o = none ∧ sq = 1) ∨ (o = some 1 ∧ sq = 2)) (hn : n < 100)
    (hR : (many [wAR wb (.slice ia im ic) cas mb, mapT mb n o, r0]).R w)
    (HLv : ∀ W, (wAR wb (.slice ia im ic) cas mb).R W → r0.R W → Calls prog 212 #[.pointer (some ⟨wb, 0, none⟩), .int .i64 1] W fun e w' => ∃ la ln lc r1, e = .returned (.agg #[.slice la ln lc, .int .u64 cas, .int .i64 0]) ∧ Made r1 W w' ∧
      ∀ W2, r1.R W2 → Calls prog 51 #[.agg #[.slice la ln lc, .int .u64 cas, .int .i64 0], .int .i64 1, .agg #[.int .i64 op, .int .i64 mode, .string ckey, .string value, .int .u32 flags, .int .i64 exp, .bool false, .int .u64 tok, .bool hasCas, .int .u64 delta, .int .u64 0, .bool false, .bool false, .int .i64 0, .int .i64 recache, .bool false], .int .i64 472] W2 fun e w'' => ∃ g cap, e = .returned (.tuple #[.agg #[.slice (some ⟨g, 0, none⟩) 1 cap, .int .u64 cas2, .int .i64 0], .agg #[.int .i64 st, .string ak, .int .u32 afl, .string av, .int .i64 0, .int .u64 aca, .int .i64 ala, .bool false, .bool false, .int .u64 num, .bool false, .bool false, .bool false]]) ∧ Made (rowI g cap ky fl2 v2 ca2 la2) W2 w'') :
    Calls prog 149 #[.pointer (some ⟨wb, 0, none⟩), .agg #[.int .i64 1, .int .i64 1, .int .i64 0, .int .i64 sq, .int .i64 0, .int .i64 op, .int .i64 mode, .string ckey, .string value, .int .u32 flags, .int .i64 exp, .bool false, .int .u64 tok, .bool hasCas, .int .u64 delta, .int .u64 0, .bool false, .bool false, .int .i64 0, .int .i64 recache, .bool false, .int .i64 st, .string ak, .int .u32 afl, .string av, .int .i64 0, .int .u64 aca, .int .i64 ala, .bool false, .bool false, .int .u64 num, .bool false, .bool false, .bool false, .slice none 0 0]] w fun e w' => e = .returned (.bool true) ∧ ∃ g cap, Turn (many [wAR wb (.slice ia im ic) cas mb, mapT mb n o, r0]) (many [wAR wb (.slice (some ⟨g, 0, none⟩) 1 cap) cas2 mb, mapT mb (n + 1) (some sq), rowI g cap ky fl2 v2 ca2 la2]) w w' := by
  have J := (Hav.open hR).cells #[.int .i64 1, .int .i64 1, .int .i64 0, .int .i64 sq, .int .i64 0, .int .i64 op, .int .i64 mode, .string ckey, .string value, .int .u32 flags, .int .i64 exp, .bool false, .int .u64 tok, .bool hasCas, .int .u64 delta, .int .u64 0, .bool false, .bool false, .int .i64 0, .int .i64 recache, .bool false, .int .i64 st, .string ak, .int .u32 afl, .string av, .int .i64 0, .int .u64 aca, .int .i64 ala, .bool false, .bool false, .int .u64 num, .bool false, .bool false, .bool false, .slice none 0 0] 136
  obtain ⟨E, hE⟩ : ∃ E, w.heap.size = E := ⟨_, rfl⟩
  obtain ⟨W, hW⟩ : ∃ W, w.alloc (.cells #[.int .i64 1, .int .i64 1, .int .i64 0, .int .i64 sq, .int .i64 0, .int .i64 op, .int .i64 mode, .string ckey, .string value, .int .u32 flags, .int .i64 exp, .bool false, .int .u64 tok, .bool hasCas, .int .u64 delta, .int .u64 0, .bool false, .bool false, .int .i64 0, .int .i64 recache, .bool false, .int .i64 st, .string ak, .int .u32 afl, .string av, .int .i64 0, .int .u64 aca, .int .i64 ala, .bool false, .bool false, .int .u64 num, .bool false, .bool false, .bool false, .slice none 0 0] 136) = W := ⟨_, rfl⟩
  rw [hW, hE] at J
  have HW := hid hW
  have HJ := hid J
  have hsq : ¬ sq < 1 := by rcases ho with ⟨_, rfl⟩ | ⟨_, rfl⟩ <;> decide
  have HHO := hid (And.intro ho hn)
  have S0 : W.drew.cell? ⟨E, 1, none⟩ = some (.int .i64 1) ∧ W.drew.cell? ⟨wb, 3, none⟩ = some (.int .i64 1) := ⟨cA (J.drew.get 0 rfl) 1, cA (show (cAt wb (wA (.slice ia im ic) cas mb) 246).R W.drew from J.drew.get 1 rfl) 3⟩
  have HH := hid HLv
  have qE := hid (fun w => run_eq_12 st ak afl av aca ala num w hst)
  have qN := hid (fun w => run_ne_same st ak afl av aca ala num w)
  have HS0 := hid hst0
  have HS12 := hid hst
  clear J hW hR HLv ho hn hst0 hst
  go_enter func149, ntmps149
  go_upto_region 1 with fail
  rw [HW.out]
  clear HW
  clear hE
  go_region_held3 (fun w' => w'.cell? ⟨E, 1, none⟩ = some (.int .i64 1) ∧ w'.cell? ⟨wb, 3, none⟩ = some (.int .i64 1)) (exact S0) (fail)
  have e1 : W.drew.cell? ⟨E, 1, none⟩ = some (.int .i64 1) := S0.1
  have HLw := hid (HH.out W.drew (HJ.out.drew.get 1 rfl) (HJ.out.drew.get 3 rfl))
  go_wp2_with (first
    | (go_at_call 212; refine HLw.out.mono ?_; rintro e w1 ⟨la, ln, lc, r1, rfl, hm1, hap⟩
       have J1 := (HJ.out.drew.made hm1).cells #[.slice la ln lc, .int .u64 cas, .int .i64 0] 121
       have HJ1 := hid J1
       have HAP := hid hap
       have e34 : (w1.alloc (.cells #[.slice la ln lc, .int .u64 cas, .int .i64 0] 121)).cell? ⟨E, 34, none⟩ = some (.slice none 0 0) := cA (J1.get 2 rfl) 34
       clear J1 hm1 hap))
  obtain ⟨S5, hS5⟩ : ∃ S5, w1.heap.size = S5 := ⟨_, rfl⟩
  obtain ⟨W3, hW3⟩ : ∃ W3, w1.alloc (.cells #[.slice la ln lc, .int .u64 cas, .int .i64 0] 121) = W3 := ⟨_, rfl⟩
  have J3 := HJ1.out
  rw [hW3, hS5] at J3
  rw [hW3]
  rw [hS5]
  have HJ7 : Hid (Hav (many [wAR wb (.slice ia im ic) cas mb, mapT mb n o, r0]).B w [cAt S5 #[.slice la ln lc, .int .u64 cas, .int .i64 0] 121, r1, cAt E #[.int .i64 1, .int .i64 1, .int .i64 0, .int .i64 sq, .int .i64 0, .int .i64 op, .int .i64 mode, .string ckey, .string value, .int .u32 flags, .int .i64 exp, .bool false, .int .u64 tok, .bool hasCas, .int .u64 delta, .int .u64 0, .bool false, .bool false, .int .i64 0, .int .i64 recache, .bool false, .int .i64 st, .string ak, .int .u32 afl, .string av, .int .i64 0, .int .u64 aca, .int .i64 ala, .bool false, .bool false, .int .u64 num, .bool false, .bool false, .bool false, .slice none 0 0] 136, wAR wb (.slice ia im ic) cas mb, mapT mb n o, r0] W3) := hid J3
  clear J3 HJ1 hW3 hS5 e34 HLw HH e1 S0 HJ
  go_loopw [30] (fun i wr => i = .int .i64 0 ∧ wr = W3) (fun _ _ => 0)
  case atStart => exact ⟨rfl, rfl⟩
  case round =>
    obtain ⟨rfl, hr⟩ := hrel
    have hr2 := hr.symm
    subst hr2
    have k0 : W3.cell? ⟨E, 0, none⟩ = some (.int .i64 1) := cA (HJ7.out.get 2 rfl) 0
    go_wp2_with (fail)
    go_upto_region 18 with fail
    have HAp : Hid (∀ W', Below W3.heap.size W3 W' → Calls prog 51 #[.agg #[.slice la ln lc, .int .u64 cas, .int .i64 0], .int .i64 1, .agg #[.int .i64 op, .int .i64 mode, .string ckey, .string value, .int .u32 flags, .int .i64 exp, .bool false, .int .u64 tok, .bool hasCas, .int .u64 delta, .int .u64 0, .bool false, .bool false, .int .i64 0, .int .i64 recache, .bool false], .int .i64 472] W' fun e w'' => ∃ g cap, e = .returned (.tuple #[.agg #[.slice (some ⟨g, 0, none⟩) 1 cap, .int .u64 cas2, .int .i64 0], .agg #[.int .i64 st, .string ak, .int .u32 afl, .string av, .int .i64 0, .int .u64 aca, .int .i64 ala, .bool false, .bool false, .int .u64 num, .bool false, .bool false, .bool false]]) ∧ Made (rowI g cap ky fl2 v2 ca2 la2) W' w'') := hid (fun W' hb => HAP.out W' ((HJ7.out.below hb).get 1 rfl))
    obtain ⟨Q, hQ⟩ : ∃ Q, W3.heap.size = Q := ⟨_, rfl⟩
    clear k0 HAP
    have F1 := hid (Go.Proofs.YtboehbfagnocpaaGreatDoor.fl1 hQ)
    have F2 := hid (Go.Proofs.YtboehbfagnocpaaGreatDoor.fl2 hQ)
    have F3 := hid (Go.Proofs.YtboehbfagnocpaaGreatDoor.fl3 hQ)
    have F4 := hid (Go.Proofs.YtboehbfagnocpaaGreatDoor.fl4 hQ)
    have HS : Hid (∀ w', Below W3.heap.size W3 w' → w'.cell? ⟨S5, 0, none⟩ = some (.slice la ln lc) ∧ w'.cell? ⟨S5, 1, none⟩ = some (.int .u64 cas) ∧ w'.cell? ⟨S5, 2, none⟩ = some (.int .i64 0) ∧ w'.cell? ⟨E, 1, none⟩ = some (.int .i64 1) ∧ w'.cell? ⟨E, 5, none⟩ = some (.int .i64 op) ∧ w'.cell? ⟨E, 6, none⟩ = some (.int .i64 mode) ∧ w'.cell? ⟨E, 7, none⟩ = some (.string ckey) ∧ w'.cell? ⟨E, 8, none⟩ = some (.string value) ∧ w'.cell? ⟨E, 9, none⟩ = some (.int .u32 flags) ∧ w'.cell? ⟨E, 10, none⟩ = some (.int .i64 exp) ∧ w'.cell? ⟨E, 11, none⟩ = some (.bool false) ∧ w'.cell? ⟨E, 12, none⟩ = some (.int .u64 tok) ∧ w'.cell? ⟨E, 13, none⟩ = some (.bool hasCas) ∧ w'.cell? ⟨E, 14, none⟩ = some (.int .u64 delta) ∧ w'.cell? ⟨E, 15, none⟩ = some (.int .u64 0) ∧ w'.cell? ⟨E, 16, none⟩ = some (.bool false) ∧ w'.cell? ⟨E, 17, none⟩ = some (.bool false) ∧ w'.cell? ⟨E, 18, none⟩ = some (.int .i64 0) ∧ w'.cell? ⟨E, 19, none⟩ = some (.int .i64 recache) ∧ w'.cell? ⟨E, 20, none⟩ = some (.bool false) ∧ w'.cell? ⟨wb, 5, none⟩ = some (.int .i64 472)) := hid (fun w' hb => by
      have h0 := (HJ7.out.below hb).get 0 rfl
      have h1 := (HJ7.out.below hb).get 2 rfl
      have h2 : (cAt wb (wA (.slice ia im ic) cas mb) 246).R w' := (HJ7.out.below hb).get 3 rfl
      exact ⟨cA h0 0, cA h0 1, cA h0 2, cA h1 1, cA h1 5, cA h1 6, cA h1 7, cA h1 8, cA h1 9, cA h1 10, cA h1 11, cA h1 12, cA h1 13, cA h1 14, cA h1 15, cA h1 16, cA h1 17, cA h1 18, cA h1 19, cA h1 20, cA h2 5⟩)
    go_cut [9, 10] from 54 to 65 (fun s9 s10 wx => ∃ g cap A B, s9 = .pointer (some ⟨A, 0, none⟩) ∧ s10 = .pointer (some ⟨B, 0, none⟩) ∧ Hid (Hav (many [wAR wb (.slice ia im ic) cas mb, mapT mb n o, r0]).B w ([cAt B #[.int .i64 st, .string ak, .int .u32 afl, .string av, .int .i64 0, .int .u64 aca, .int .i64 ala, .bool false, .bool false, .int .u64 num, .bool false, .bool false, .bool false] 52, cAt A #[.slice (some ⟨g, 0, none⟩) 1 cap, .int .u64 cas2, .int .i64 0] 121, rowI g cap ky fl2 v2 ca2 la2] ++ [cAt S5 #[.slice la ln lc, .int .u64 cas, .int .i64 0] 121, r1, cAt E #[.int .i64 1, .int .i64 1, .int .i64 0, .int .i64 sq, .int .i64 0, .int .i64 op, .int .i64 mode, .string ckey, .string value, .int .u32 flags, .int .i64 exp, .bool false, .int .u64 tok, .bool hasCas, .int .u64 delta, .int .u64 0, .bool false, .bool false, .int .i64 0, .int .i64 recache, .bool false, .int .i64 st, .string ak, .int .u32 afl, .string av, .int .i64 0, .int .u64 aca, .int .i64 ala, .bool false, .bool false, .int .u64 num, .bool false, .bool false, .bool false, .slice none 0 0] 136, wAR wb (.slice ia im ic) cas mb, mapT mb n o, r0]) wx))
    case first =>
      go_region_held3 (fun w' => w'.cell? ⟨S5, 0, none⟩ = some (.slice la ln lc) ∧ w'.cell? ⟨S5, 1, none⟩ = some (.int .u64 cas) ∧ w'.cell? ⟨S5, 2, none⟩ = some (.int .i64 0) ∧ w'.cell? ⟨E, 1, none⟩ = some (.int .i64 1) ∧ w'.cell? ⟨E, 5, none⟩ = some (.int .i64 op) ∧ w'.cell? ⟨E, 6, none⟩ = some (.int .i64 mode) ∧ w'.cell? ⟨E, 7, none⟩ = some (.string ckey) ∧ w'.cell? ⟨E, 8, none⟩ = some (.string value) ∧ w'.cell? ⟨E, 9, none⟩ = some (.int .u32 flags) ∧ w'.cell? ⟨E, 10, none⟩ = some (.int .i64 exp) ∧ w'.cell? ⟨E, 11, none⟩ = some (.bool false) ∧ w'.cell? ⟨E, 12, none⟩ = some (.int .u64 tok) ∧ w'.cell? ⟨E, 13, none⟩ = some (.bool hasCas) ∧ w'.cell? ⟨E, 14, none⟩ = some (.int .u64 delta) ∧ w'.cell? ⟨E, 15, none⟩ = some (.int .u64 0) ∧ w'.cell? ⟨E, 16, none⟩ = some (.bool false) ∧ w'.cell? ⟨E, 17, none⟩ = some (.bool false) ∧ w'.cell? ⟨E, 18, none⟩ = some (.int .i64 0) ∧ w'.cell? ⟨E, 19, none⟩ = some (.int .i64 recache) ∧ w'.cell? ⟨E, 20, none⟩ = some (.bool false) ∧ w'.cell? ⟨wb, 5, none⟩ = some (.int .i64 472)) (first | exact HS.out _ (by first | (go_grown; done) | (go_grown <;> first | omega | (simp; omega))) | fail) (first
        | (go_at_call 51; refine (HAp.out _ (by go_grown)).mono ?_; rintro e w4 ⟨g, cap, rfl, hm4⟩; have HM4 := hid hm4; (first
             | ((with_reducible (have kk := F1.out w4 hm4.bel)); obtain ⟨_, _, _, _, _, _⟩ := F1.out (w4.alloc (.cells az 52)) (hm4.bel.alloc hm4.bel.size _); obtain ⟨_, _, _, _, _, _⟩ := kk; have r0 := (((HJ7.out).cells sz 121).drew).made hm4; (try simp only [World.size_alloc] at r0); rw [hQ] at r0; have r1 := r0.turn 1 rfl (cl_sets _ 121 [.slice (some ⟨g, 0, none⟩) 1 cap, .int .u64 cas2, .int .i64 0] 0 _ _ (r0.get 1 rfl)); rw [(show setsV 0 [.slice (some ⟨g, 0, none⟩) 1 cap, .int .u64 cas2, .int .i64 0] #[.slice none 0 0, .int .u64 0, .int .i64 0] = #[.slice (some ⟨g, 0, none⟩) 1 cap, .int .u64 cas2, .int .i64 0] by simp [setsV])] at r1; simp only [setsW, List.set] at r1; have hHR := hav_c ((r1).cells #[.int .i64 st, .string ak, .int .u32 afl, .string av, .int .i64 0, .int .u64 aca, .int .i64 ala, .bool false, .bool false, .int .u64 num, .bool false, .bool false, .bool false] 52); (try simp only [World.size_alloc, World.size_setCell] at hHR); have HR := hid hHR; clear hHR; clear r0 r1; have q4 : Q < w4.heap.size := (by have h := hm4.bel.size; simp only [World.size_drew, World.size_alloc] at h; omega); have q5 : ¬ Q = w4.heap.size := (by omega); have q6 : ¬ w4.heap.size = Q := (by omega))
             | ((with_reducible (have kk := F2.out w4 hm4.bel)); obtain ⟨_, _, _, _, _, _, _, _, _, _, _, _, _, _, _, _, _, _, _, _, _, _, _, _, _, _⟩ := F2.out (w4.alloc (.cells sz 121)) (hm4.bel.alloc hm4.bel.size _); obtain ⟨_, _, _, _, _, _, _, _, _, _, _, _, _, _, _, _, _, _, _, _, _, _, _, _, _, _⟩ := kk; have r0 := (((HJ7.out).cells az 52).drew).made hm4; (try simp only [World.size_alloc] at r0); rw [hQ] at r0; have r2 := r0.turn 1 rfl (cl_sets _ 52 [.int .i64 st, .string ak, .int .u32 afl, .string av, .int .i64 0, .int .u64 aca, .int .i64 ala, .bool false, .bool false, .int .u64 num, .bool false, .bool false, .bool false] 0 _ _ (r0.get 1 rfl)); rw [(show setsV 0 [.int .i64 st, .string ak, .int .u32 afl, .string av, .int .i64 0, .int .u64 aca, .int .i64 ala, .bool false, .bool false, .int .u64 num, .bool false, .bool false, .bool false] #[.int .i64 0, .string ⟨#[]⟩, .int .u32 0, .string ⟨#[]⟩, .int .i64 0, .int .u64 0, .int .i64 0, .bool false, .bool false, .int .u64 0, .bool false, .bool false, .bool false] = #[.int .i64 st, .string ak, .int .u32 afl, .string av, .int .i64 0, .int .u64 aca, .int .i64 ala, .bool false, .bool false, .int .u64 num, .bool false, .bool false, .bool false] by simp [setsV])] at r2; simp only [setsW, List.set] at r2; have hHR := hav_d ((r2).cells #[.slice (some ⟨g, 0, none⟩) 1 cap, .int .u64 cas2, .int .i64 0] 121); (try simp only [World.size_alloc, World.size_setCell] at hHR); have HR := hid hHR; clear hHR; clear r0 r2; have q4 : Q < w4.heap.size := (by have h := hm4.bel.size; simp only [World.size_drew, World.size_alloc] at h; omega); have q5 : ¬ Q = w4.heap.size := (by omega); have q6 : ¬ w4.heap.size = Q := (by omega))
             | ((with_reducible (have kk := F3.out w4 hm4.bel)); obtain ⟨_, _, _, _, _, _, _, _, _, _, _, _, _, _, _, _, _, _, _, _, _, _, _, _, _, _, _, _, _, _, _, _⟩ := kk; have r0 := ((((HJ7.out).cells sz 121).cells az 52).drew).made hm4; (try simp only [World.size_alloc] at r0); rw [hQ] at r0; have r1 := r0.turn 2 rfl (cl_sets _ 121 [.slice (some ⟨g, 0, none⟩) 1 cap, .int .u64 cas2, .int .i64 0] 0 _ _ (r0.get 2 rfl)); rw [(show setsV 0 [.slice (some ⟨g, 0, none⟩) 1 cap, .int .u64 cas2, .int .i64 0] #[.slice none 0 0, .int .u64 0, .int .i64 0] = #[.slice (some ⟨g, 0, none⟩) 1 cap, .int .u64 cas2, .int .i64 0] by simp [setsV])] at r1; simp only [setsW, List.set] at r1; have r2 := r1.turn 1 rfl (cl_sets _ 52 [.int .i64 st, .string ak, .int .u32 afl, .string av, .int .i64 0, .int .u64 aca, .int .i64 ala, .bool false, .bool false, .int .u64 num, .bool false, .bool false, .bool false] 0 _ _ (r1.get 1 rfl)); rw [(show setsV 0 [.int .i64 st, .string ak, .int .u32 afl, .string av, .int .i64 0, .int .u64 aca, .int .i64 ala, .bool false, .bool false, .int .u64 num, .bool false, .bool false, .bool false] #[.int .i64 0, .string ⟨#[]⟩, .int .u32 0, .string ⟨#[]⟩, .int .i64 0, .int .u64 0, .int .i64 0, .bool false, .bool false, .int .u64 0, .bool false, .bool false, .bool false] = #[.int .i64 st, .string ak, .int .u32 afl, .string av, .int .i64 0, .int .u64 aca, .int .i64 ala, .bool false, .bool false, .int .u64 num, .bool false, .bool false, .bool false] by simp [setsV])] at r2; simp only [setsW, List.set] at r2; have hHR := hav_e r2; (try simp only [World.size_alloc, World.size_setCell] at hHR); have HR := hid hHR; clear hHR; clear r0 r1 r2; have q4 : Q < w4.heap.size := (by have h := hm4.bel.size; simp only [World.size_drew, World.size_alloc] at h; omega); have q5 : ¬ Q = w4.heap.size := (by omega); have q6 : ¬ w4.heap.size = Q := (by omega))
             | ((with_reducible (have kk := F4.out w4 hm4.bel)); obtain ⟨_, _, _, _, _, _, _, _, _, _, _, _, _, _, _, _, _, _, _, _, _, _, _, _, _, _, _, _, _, _, _, _⟩ := kk; have r0 := ((((HJ7.out).cells az 52).cells sz 121).drew).made hm4; (try simp only [World.size_alloc] at r0); rw [hQ] at r0; have r1 := r0.turn 1 rfl (cl_sets _ 121 [.slice (some ⟨g, 0, none⟩) 1 cap, .int .u64 cas2, .int .i64 0] 0 _ _ (r0.get 1 rfl)); rw [(show setsV 0 [.slice (some ⟨g, 0, none⟩) 1 cap, .int .u64 cas2, .int .i64 0] #[.slice none 0 0, .int .u64 0, .int .i64 0] = #[.slice (some ⟨g, 0, none⟩) 1 cap, .int .u64 cas2, .int .i64 0] by simp [setsV])] at r1; simp only [setsW, List.set] at r1; have r2 := r1.turn 2 rfl (cl_sets _ 52 [.int .i64 st, .string ak, .int .u32 afl, .string av, .int .i64 0, .int .u64 aca, .int .i64 ala, .bool false, .bool false, .int .u64 num, .bool false, .bool false, .bool false] 0 _ _ (r1.get 2 rfl)); rw [(show setsV 0 [.int .i64 st, .string ak, .int .u32 afl, .string av, .int .i64 0, .int .u64 aca, .int .i64 ala, .bool false, .bool false, .int .u64 num, .bool false, .bool false, .bool false] #[.int .i64 0, .string ⟨#[]⟩, .int .u32 0, .string ⟨#[]⟩, .int .i64 0, .int .u64 0, .int .i64 0, .bool false, .bool false, .int .u64 0, .bool false, .bool false, .bool false] = #[.int .i64 st, .string ak, .int .u32 afl, .string av, .int .i64 0, .int .u64 aca, .int .i64 ala, .bool false, .bool false, .int .u64 num, .bool false, .bool false, .bool false] by simp [setsV])] at r2; simp only [setsW, List.set] at r2; have hHR := hav_f r2; (try simp only [World.size_alloc, World.size_setCell] at hHR); have HR := hid hHR; clear hHR; clear r0 r1 r2; have q4 : Q < w4.heap.size := (by have h := hm4.bel.size; simp only [World.size_drew, World.size_alloc] at h; omega); have q5 : ¬ Q = w4.heap.size := (by omega); have q6 : ¬ w4.heap.size = Q := (by omega))
             | (have r0 := ((HJ7.out).drew).made hm4; have hHR := hav_a ((((r0).cells #[.slice (some ⟨g, 0, none⟩) 1 cap, .int .u64 cas2, .int .i64 0] 121)).cells #[.int .i64 st, .string ak, .int .u32 afl, .string av, .int .i64 0, .int .u64 aca, .int .i64 ala, .bool false, .bool false, .int .u64 num, .bool false, .bool false, .bool false] 52); (try simp only [World.size_alloc, World.size_setCell] at hHR); have HR := hid hHR; clear hHR; have hHR2 := hav_b ((((r0).cells #[.int .i64 st, .string ak, .int .u32 afl, .string av, .int .i64 0, .int .u64 aca, .int .i64 ala, .bool false, .bool false, .int .u64 num, .bool false, .bool false, .bool false] 52)).cells #[.slice (some ⟨g, 0, none⟩) 1 cap, .int .u64 cas2, .int .i64 0] 121); (try simp only [World.size_alloc, World.size_setCell] at hHR2); have HR2 := hid hHR2; clear hHR2; clear r0; skip)); have hb4 : Below W3.heap.size W3 w4 := Below.trans (by go_grown) (hm4.bel.mono (by first | (simp; done) | (simp; omega))); have hsz4 := hb4.size; have hne1 : ¬ w4.heap.size = w4.heap.size + 1 := (by omega); have hne2 : ¬ w4.heap.size + 1 = w4.heap.size := (by omega); have G1 := ((Made.cells w4 sz 121).below (bA _ (.cells az 52))).here; have G2 := ((Made.cells w4 az 52).below (bA _ (.cells sz 121))).here; obtain ⟨_, _, _, _, _, _⟩ := caf3' G1; obtain ⟨_, _, _, _, _, _, _, _, _, _, _, _, _, _, _, _, _, _, _, _, _, _, _, _, _, _⟩ := caf13' G2; clear G1 G2; clear hm4))
      all_goals (go_wp2_with fail)
      all_goals go_meet
      all_goals first
        | ((with_reducible refine ⟨g, cap, w4.heap.size, w4.heap.size + 1, rfl, rfl, ?_⟩); exact HR)
        | ((with_reducible refine ⟨g, cap, w4.heap.size + 1, w4.heap.size, rfl, rfl, ?_⟩); exact HR2)
        | ((with_reducible refine ⟨g, cap, _, _, rfl, rfl, ?_⟩); exact HR)
        | fail
    case rest =>
      obtain ⟨g, cap, A, B, rfl, rfl, hJ⟩ := hcut
      clear HAp HS F1 F2 F3 F4
      have HlE := hid (range_at 0 (hJ.out.get 5 rfl) [.int .i64 1, .int .i64 1, .int .i64 0, .int .i64 sq, .int .i64 0, .int .i64 op, .int .i64 mode, .string ckey, .string value, .int .u32 flags, .int .i64 exp, .bool false, .int .u64 tok, .bool hasCas, .int .u64 delta, .int .u64 0, .bool false, .bool false, .int .i64 0, .int .i64 recache, .bool false, .int .i64 st, .string ak, .int .u32 afl, .string av, .int .i64 0, .int .u64 aca, .int .i64 ala, .bool false, .bool false, .int .u64 num, .bool false, .bool false, .bool false, .slice none 0 0] rfl)
      have HNx := hid (next_ok (op := op) (mode := mode) (ckey := ckey) (value := value) (flags := flags) (exp := exp) (tok := tok) (hasCas := hasCas) (delta := delta) (recache := recache) (st := st) (ak := ak) (afl := afl) (av := av) (aca := aca) (ala := ala) (num := num) HHO.out.1 (hJ.out.get 6 rfl) (hJ.out.get 7 rfl))
      go_wp2_with (first
        | (go_at_call 214; refine HNx.out.mono ?_; rintro e w5 ⟨rfl, hb5⟩
           have J5 := hJ.out.below hb5
           have HJ5 := hid J5
           have e21 : w5.cell? ⟨E, 21, none⟩ = some (.int .i64 st) := cA (J5.get 5 rfl) 21
           have HlA := hid (range_at 21 (J5.get 5 rfl) [.int .i64 st, .string ak, .int .u32 afl, .string av, .int .i64 0, .int .u64 aca, .int .i64 ala, .bool false, .bool false, .int .u64 num, .bool false, .bool false, .bool false] rfl)
           have HlB := hid (range_at 0 (J5.get 0 rfl) [.int .i64 st, .string ak, .int .u32 afl, .string av, .int .i64 0, .int .u64 aca, .int .i64 ala, .bool false, .bool false, .int .u64 num, .bool false, .bool false, .bool false] rfl)
           have qe := qE.out w5
           have qn := qN.out w5
           have hst0 : (st == 0) = false := by have := HS0.out; simpa using this
           have hst12 : ¬ st = 12 := HS12.out
           have hst12b : (st == 12) = false := by simpa using hst12
           obtain ⟨a0, a1, a2⟩ : ca3 w5 A (.slice (some ⟨g, 0, none⟩) 1 cap) (.int .u64 cas2) (.int .i64 0) := ca3' (J5.get 1 rfl)
           obtain ⟨s0, z0, s1, z1, s2, z2⟩ : caf3 w5 S5 (.slice la ln lc) (.int .u64 cas) (.int .i64 0) := caf3' (J5.get 3 rfl)
           clear J5 hb5 HlE)
        | (refine wpList_load_mid rfl 136 _ rfl E 0 (by rfl) [.int .i64 1, .int .i64 1, .int .i64 0, .int .i64 sq, .int .i64 0, .int .i64 op, .int .i64 mode, .string ckey, .string value, .int .u32 flags, .int .i64 exp, .bool false, .int .u64 tok, .bool hasCas, .int .u64 delta, .int .u64 0, .bool false, .bool false, .int .i64 0, .int .i64 recache, .bool false, .int .i64 st, .string ak, .int .u32 afl, .string av, .int .i64 0, .int .u64 aca, .int .i64 ala, .bool false, .bool false, .int .u64 num, .bool false, .bool false, .bool false, .slice none 0 0] _ HlE.out underlying136 rfl szE ?_)
        | (refine wpList_load_mid rfl 52 _ rfl E 21 (by rfl) [.int .i64 st, .string ak, .int .u32 afl, .string av, .int .i64 0, .int .u64 aca, .int .i64 ala, .bool false, .bool false, .int .u64 num, .bool false, .bool false, .bool false] _ HlA.out underlying52 rfl szA ?_)
        | (refine wpList_load_mid rfl 52 _ rfl B 0 (by rfl) [.int .i64 st, .string ak, .int .u32 afl, .string av, .int .i64 0, .int .u64 aca, .int .i64 ala, .bool false, .bool false, .int .u64 num, .bool false, .bool false, .bool false] _ HlB.out underlying52 rfl szA ?_))
      go_upto_region 28 with fail
      have hs := cl_sets S5 121 [.slice (some ⟨g, 0, none⟩) 1 cap, .int .u64 cas2, .int .i64 0] 0 _ _ (HJ5.out.get 3 rfl)
      rw [show setsV 0 [.slice (some ⟨g, 0, none⟩) 1 cap, .int .u64 cas2, .int .i64 0] #[.slice la ln lc, .int .u64 cas, .int .i64 0] = #[.slice (some ⟨g, 0, none⟩) 1 cap, .int .u64 cas2, .int .i64 0] by simp [setsV]] at hs
      have J6 := HJ5.out.turn 3 rfl hs
      simp only [setsW, List.set] at J6
      obtain ⟨W6, hW6⟩ : ∃ W6, ((w5.setCell ⟨S5, 0, none⟩ (.slice (some ⟨g, 0, none⟩) 1 cap)).setCell ⟨S5, 1, none⟩ (.int .u64 cas2)).setCell ⟨S5, 2, none⟩ (.int .i64 0) = W6 := ⟨_, rfl⟩
      rw [hW6] at J6
      rw [hW6]
      clear hW6 hs HJ5 e21 qe qn hst0 hst12 hst12b a0 a1 a2 s0 s1 s2 z0 z1 z2 HlA HlB
      have HJ6 := hid J6
      obtain ⟨w7, hmu, t7⟩ := mapT_put (w := W6.drew) (J6.drew.get 7 rfl) sq (by have := HHO.out.2; unfold maxLen; omega)
      have HJ7' := hid (J6.drew.turn 7 rfl t7)
      have S0 : W6.drew.cell? ⟨wb, 4, none⟩ = some (.map (some mb)) ∧ W6.drew.cell? ⟨E, 2, none⟩ = some (.int .i64 0) ∧ W6.drew.cell? ⟨E, 3, none⟩ = some (.int .i64 sq) ∧ W6.drew.cell? ⟨E, 4, none⟩ = some (.int .i64 0) := ⟨cA (show (cAt wb (wA (.slice ia im ic) cas mb) 246).R W6.drew from J6.drew.get 6 rfl) 4, cA (J6.drew.get 5 rfl) 2, cA (J6.drew.get 5 rfl) 3, cA (J6.drew.get 5 rfl) 4⟩
      have S7 : w7.cell? ⟨wb, 4, none⟩ = some (.map (some mb)) ∧ w7.cell? ⟨E, 2, none⟩ = some (.int .i64 0) ∧ w7.cell? ⟨E, 3, none⟩ = some (.int .i64 sq) ∧ w7.cell? ⟨E, 4, none⟩ = some (.int .i64 0) := ⟨cA (show (cAt wb (wA (.slice ia im ic) cas mb) 246).R w7 from HJ7'.out.get 6 rfl) 4, cA (HJ7'.out.get 5 rfl) 2, cA (HJ7'.out.get 5 rfl) 3, cA (HJ7'.out.get 5 rfl) 4⟩
      clear J6 t7
      go_region_held3 (fun w' => w'.cell? ⟨wb, 4, none⟩ = some (.map (some mb)) ∧ w'.cell? ⟨E, 2, none⟩ = some (.int .i64 0) ∧ w'.cell? ⟨E, 3, none⟩ = some (.int .i64 sq) ∧ w'.cell? ⟨E, 4, none⟩ = some (.int .i64 0)) (first | exact S0 | exact S7) (fail)
      clear S0 S7 hmu
      go_upto_region 29 with fail
      have J7 := HJ7'.out
      have h6 : (cAt wb (wA (.slice ia im ic) cas mb) 246).R w7 := J7.get 6 rfl
      have ta := cl_sets wb 246 [.slice (some ⟨g, 0, none⟩) 1 cap, .int .u64 cas2, .int .i64 0] 0 _ _ h6
      rw [show setsV 0 [.slice (some ⟨g, 0, none⟩) 1 cap, .int .u64 cas2, .int .i64 0] (wA (.slice ia im ic) cas mb) = wA (.slice (some ⟨g, 0, none⟩) 1 cap) cas2 mb by simp [setsV, wA]] at ta
      simp only [setsW] at ta
      have Ja := J7.turn 6 rfl ta
      have tb := cl_set ta.here 3 (.int .i64 1)
      rw [show (wA (.slice (some ⟨g, 0, none⟩) 1 cap) cas2 mb).setIfInBounds 3 (.int .i64 1) = wA (.slice (some ⟨g, 0, none⟩) 1 cap) cas2 mb by simp [wA]] at tb
      have Jb := Ja.turn 6 rfl tb
      have K0 : w7.drew.cell? ⟨S5, 0, none⟩ = some (.slice (some ⟨g, 0, none⟩) 1 cap) ∧ w7.drew.cell? ⟨S5, 1, none⟩ = some (.int .u64 cas2) ∧ w7.drew.cell? ⟨S5, 2, none⟩ = some (.int .i64 0) ∧ w7.drew.cell? ⟨E, 1, none⟩ = some (.int .i64 1) := ⟨cA (J7.drew.get 3 rfl) 0, cA (J7.drew.get 3 rfl) 1, cA (J7.drew.get 3 rfl) 2, cA (J7.drew.get 5 rfl) 1⟩
      have HKa := hid (And.intro (show _ = some (Value.slice (some ⟨g, 0, none⟩) 1 cap) from cA (Ja.drew.get 3 rfl) 0) (And.intro (show _ = some (Value.int .u64 cas2) from cA (Ja.drew.get 3 rfl) 1) (And.intro (show _ = some (Value.int .i64 0) from cA (Ja.drew.get 3 rfl) 2) (show _ = some (Value.int .i64 1) from cA (Ja.drew.get 5 rfl) 1))))
      have HE1 := hid (Jb.drew.sel (L2 := [wAR wb (.slice (some ⟨g, 0, none⟩) 1 cap) cas2 mb, mapT mb (n + 1) (some sq), rowI g cap ky fl2 v2 ca2 la2]) [6, 7, 2] (by decide) rfl).shut
      have b0 : w7.cell? ⟨wb, 0, none⟩ = some (.slice ia im ic) := cA h6 0
      have y0 := cZ h6 0
      have b1 : w7.cell? ⟨wb, 1, none⟩ = some (.int .u64 cas) := cA h6 1
      have y1 := cZ h6 1
      have b2 : w7.cell? ⟨wb, 2, none⟩ = some (.int .i64 0) := cA h6 2
      have y2 := cZ h6 2
      have b3 : w7.cell? ⟨wb, 3, none⟩ = some (.int .i64 1) := cA h6 3
      have y3 := cZ h6 3
      have b0' : w7.drew.cell? ⟨wb, 0, none⟩ = some (.slice ia im ic) := b0
      have y0' : w7.drew.frozen? ⟨wb, 0, none⟩ = false := y0
      clear Ja Jb ta tb J7 h6
      refine wp_region_E (fun w' => w'.cell? ⟨S5, 0, none⟩ = some (.slice (some ⟨g, 0, none⟩) 1 cap) ∧ w'.cell? ⟨S5, 1, none⟩ = some (.int .u64 cas2) ∧ w'.cell? ⟨S5, 2, none⟩ = some (.int .i64 0) ∧ w'.cell? ⟨E, 1, none⟩ = some (.int .i64 1)) 10 (by kernel_rfl) K0 (fun hHeld => ?_)
      refine wfE 0 rfl ?_
      (try simp only [lzP, lzA, lzS])
      refine wfE 1 rfl ?_
      (try simp only [lzP, lzA, lzS])
      refine wkE 2 rfl ?_
      (try simp only [lzP, lzA, lzS])
      refine wfE 3 rfl ?_
      (try simp only [lzP, lzA, lzS])
      refine wkE 4 rfl ?_
      (try simp only [lzP, lzA, lzS])
      refine wfE 5 rfl ?_
      (try simp only [lzP, lzA, lzS])
      refine wfE 6 rfl ?_
      (try simp only [lzP, lzA, lzS])
      refine wpAnyE_ready (rs := [7]) (by as_aux_lemma => kernel_rfl) (by simp) ?_
      refine AllReadyE.cons (o := _) rfl (fun K hK => ?_) AllReadyE.nil
      rw [if_pos (by as_aux_lemma => rfl)]
      (try simp only [lzA])
      go_simp
      refine hK.out _ _ HKa.out (fun hS7 => ?_)
      clear hK K
      (try simp only [lzP, lzA, lzS])
      refine wfE 8 rfl ?_
      (try simp only [lzP, lzA, lzS])
      refine wfE 9 rfl ?_
      (try simp only [lzP, lzA, lzS])
      refine wpAnyE_ready (rs := [10]) (by as_aux_lemma => kernel_rfl) (by simp) ?_
      refine AllReadyE.last (o := _) rfl (fun K hK => ?_)
      rw [if_pos (by as_aux_lemma => rfl)]
      (try simp only [lzA])
      go_simp
      refine hK.out _ _ trivial (fun _ => ?_)
      clear hK K
      (try simp only [lzP, lzA, lzS])
      refine wpAnyE_done (by as_aux_lemma => kernel_rfl) ?_ _
      all_goals (go_wp2_with fail)
      all_goals go_ret
      all_goals exact ⟨rfl, g, cap, HE1.out⟩
end Go.Proofs.YtboehbfagnocpaaGreatDoor
