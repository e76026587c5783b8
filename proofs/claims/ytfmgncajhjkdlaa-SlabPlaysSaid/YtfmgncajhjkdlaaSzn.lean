/- ambryref05.New: contract. -/
import Derived.Test.YtfmgncajhjkdlaaArp
import Derived.Test.YtfmgncajhjkdlaaSzm
namespace Go.Proofs.Ytfmgncajhjkdlaa
open Go.RowKit Go.PlainAid
set_option linter.unusedVariables false
set_option linter.unusedSimpArgs false

def SzPost (p f : Int) (w : World) (e : Ending) (w' : World) : Prop :=
  ∃ v, e = .returned (.tuple #[v, .int .i64 (M.errno p f)]) ∧ w'.ownsRow w.heap.size 3 1 v (M.row p f).length ((M.row p f).map (.int .i64)) ∧ Below w.heap.size w w'

theorem szPost_good {p f : Int} (h : ¬ M.Bad p f) {w w' : World} {v : Value} {n : Nat} {l : List Int} (hr : M.row p f = l) (hn : l.length = n)
    (hown : w'.ownsRow w.heap.size 3 1 v n (l.map (.int .i64))) (hb : Below w.heap.size w w') : SzPost p f w (.returned (.tuple #[v, .int .i64 0])) w' := by
  subst hr hn
  exact ⟨v, by rw [show M.errno p f = 0 by unfold M.errno; rw [if_neg h]], hown, hb⟩

def lenV : Value → Nat | .slice _ n _ => n | _ => 0

set_option maxHeartbeats 400000 in
theorem refNew_good (p f : Int) (w : World) (h : ¬ M.Bad p f) : Calls Try.prog 19 #[.int .i64 p, .int .i64 f] w (SzPost p f w) := by
  have hb : 512 ≤ p ∧ p ≤ 65536 ∧ p % 8 = 0 ∧ 105 ≤ f ∧ f ≤ 400 := by unfold M.Bad at h; omega
  obtain ⟨h1, h2, h3, h4, h5⟩ := hb
  have h3' : (p % 8 != 0) = false := by simp [h3]
  have H3 := Lib.hid h3
  clear h3
  go_enter Try.func19, Try.ntmps19
  go_wp2
  go_loopw [6, 7] (fun v n wr => ∃ (ad : Option Addr) (cap k : Nat) (pre : List Int) (x : Int), v = .slice ad k cap ∧ n = .int .i64 x ∧ k ≤ 62 ∧ pre.length = k ∧ wr.ownsRow w.heap.size 3 1 (.slice ad k cap) k (pre.map (.int .i64)) ∧ 64 ≤ x ∧ x ≤ 200000 ∧ pre ++ M.gen f (p / 2) (62 - k) x = M.gen f (p / 2) 62 64 ∧ Below w.heap.size w wr) (fun v _ _ => 62 - lenV v)
  case atStart =>
    exact ⟨none, 0, 0, [], 64, rfl, rfl, by omega, rfl, World.ownsRow_nil _ _ _ _, by omega, by omega, rfl, Below.refl _ _⟩
  case round =>
    obtain ⟨ad, cap, k, pre, x, rfl, rfl, hk, hpl, hown, hx0, hx1, hgen, hbel⟩ := hrel
    have hsz := hbel.size
    have Hgen := Lib.hid hgen
    have Hpl := Lib.hid hpl
    clear hgen hpl
    by_cases hxp : x ≤ p / 2
    · by_cases hlt : k < 62
      · have hm := M.mulf x f h4 h5 (by omega)
        go_wp2_with (at_builtin; go_must (refine wp_appI w wr rfl _ _ rfl w.heap.size (.slice ad k cap) k pre x rfl hown rfl hbel (by omega) hsz ?_); intro g' cap' w' hown' hbel')
        go_loop [8] (fun m => ∃ y : Int, m = .int .i64 y ∧ x * f / 100 ≤ y ∧ y ≤ (x * f / 100 + 7) / 8 * 8) (fun m => ((x * f / 100 + 7) / 8 * 8 - intOf m).toNat)
        case atStart => exact ⟨_, rfl, by omega, by omega⟩
        case round =>
          obtain ⟨y, rfl, hy1, hy2⟩ := hrel
          by_cases hy : y % 8 = 0
          · have hy' : (y % 8 != 0) = false := by simp [hy]
            have hye : y = (x * f / 100 + 7) / 8 * 8 := by omega
            have hst : M.step f x = max (x + 8) y := by rw [hye]; rfl
            have hif : (if y < x + 8 then x + 8 else y) = M.step f x := by rw [hst]; split <;> omega
            have hs1 : M.step f x ≤ 200000 := by rw [hst]; omega
            have hs2 := M.step_ge f x
            clear hst hye hy
            go_wp2
            go_roundw
            case rel =>
              refine ⟨_, cap', k + 1, pre ++ [x], M.step f x, rfl, rfl, by omega, by simp [Hpl.out], hown', by omega, by omega, ?_, hbel'⟩
              rw [← Hgen.out, show 62 - k = (62 - (k + 1)) + 1 by omega, M.gen_pos _ _ _ _ hxp]
              simp
            case measure => simp [lenV]; omega
          · have hy' : (y % 8 != 0) = true := by simp [hy]
            go_wp2
            go_round
            case rel => exact ⟨_, rfl, by omega, by omega⟩
            case measure => simp [intOf]; omega
      · go_wp2_with (at_builtin; go_must (refine wp_appI w wr rfl _ _ rfl w.heap.size (.slice ad k cap) k pre p rfl hown rfl hbel (by omega) hsz ?_); intro g' cap' w' hown' hbel')
        go_ret2
        refine szPost_good h (l := pre ++ [p]) ?_ (by simp [Hpl.out]) hown' hbel'
        unfold M.row; rw [if_neg h, ← Hgen.out, show 62 - k = 0 by omega, M.gen]; simp
    · go_wp2_with (at_builtin; go_must (refine wp_appI w wr rfl _ _ rfl w.heap.size (.slice ad k cap) k pre p rfl hown rfl hbel (by omega) hsz ?_); intro g' cap' w' hown' hbel')
      go_ret2
      refine szPost_good h (l := pre ++ [p]) ?_ (by simp [Hpl.out]) hown' hbel'
      unfold M.row; rw [if_neg h, ← Hgen.out, M.gen_neg _ _ _ _ (by omega)]; simp
end Go.Proofs.Ytfmgncajhjkdlaa
