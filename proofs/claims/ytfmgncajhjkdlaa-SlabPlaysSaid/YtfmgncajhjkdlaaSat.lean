/- SlabApart's walk: aids. -/
import Derived.Test.YtfmgncajhjkdlaaSaw
import Derived.Deep.CutRange
import Derived.Deep.Cut
import Derived.Deep.CutBlock
import Derived.Deep.RegionHeld3
import Derived.Deep.AppendLies
namespace Go.Proofs.Ytfmgncajhjkdlaa
open Go.RowKit Go.PlainAid
open SP
set_option linter.unusedVariables false
set_option linter.unusedSimpArgs false

/-- append at a step of a region that draws, by its run -/
theorem step_app_run {ops : Array Oper} {o : Oper} {a : Act} {w : World} {K : Act → World → Prop} {Q : Exit → Act → World → Prop} {E : Prop} (hgd : o.guard = none) (s x : Operand) (t : TypeId)
    (ho : o.op = .call { callee := .builtin .append, args := #[s, x], argTypes := #[t, t] }) (v vx v' : Value) (w' : World) (hs : a.eval s = v) (hx : a.eval x = vx)
    (hr : (Builtin.append_ #[t, t] o.type #[v, vx]).run Try.prog w = .ok v' w') (h : K (a.put o.dst v') w') :
    if Region.wanted o (yielded ops a.tmps) = true then Oper.wp Try.prog o a w K Q else E := by
  have hw : Region.wanted o (yielded ops a.tmps) = true := by simp [Region.wanted, hgd]
  rw [if_pos hw]
  unfold Oper.wp execOp
  simp only [ho, resolve, invoke, builtin, Sem.run_bind, Sem.run_pure, Result.andThen_ok, List.map_toArray, List.map_cons, List.map_nil, hs, hx, hr]
  exact h
theorem step_appI {ops : Array Oper} {o : Oper} {a : Act} {w : World} {K : Act → World → Prop} {Q : Exit → Act → World → Prop} {E : Prop} (hgd : o.guard = none) (s x : Operand)
    (ho : o.op = .call { callee := .builtin .append, args := #[s, x], argTypes := #[22, 22] }) (base : Nat) (v vx : Value) (n : Nat) (xs ys : List Int) (hs : a.eval s = v) (hx : a.eval x = vx)
    (hown : w.ownsRow base 3 1 v n (xs.map (.int .i64))) (hr : RI w vx ys) (hn : n + ys.length ≤ 10000000000) (hbase : base ≤ w.heap.size)
    (h : ∀ v' w', w'.ownsRow base 3 1 v' (n + ys.length) ((xs ++ ys).map (.int .i64)) → Below base w w' → K (a.put o.dst v') w') :
    if Region.wanted o (yielded ops a.tmps) = true then Oper.wp Try.prog o a w K Q else E := by
  obtain ⟨v', w', h1, h2, h3, h4⟩ := run_appRI w o.type base v vx n xs ys hown hr hn hbase
  exact step_app_run hgd s x _ ho v vx v' w' hs hx h1 (h v' w' h2 h3)
theorem step_appB {ops : Array Oper} {o : Oper} {a : Act} {w : World} {K : Act → World → Prop} {Q : Exit → Act → World → Prop} {E : Prop} (hgd : o.guard = none) (s x : Operand)
    (ho : o.op = .call { callee := .builtin .append, args := #[s, x], argTypes := #[46, 46] }) (base : Nat) (v vx : Value) (n : Nat) (xs ys : List Int) (hs : a.eval s = v) (hx : a.eval x = vx)
    (hown : w.ownsRow base 5 1 v n (xs.map (.int .u8))) (hr : RB w vx ys) (hn : n + ys.length ≤ 10000000000) (hbase : base ≤ w.heap.size)
    (h : ∀ v' w', w'.ownsRow base 5 1 v' (n + ys.length) ((xs ++ ys).map (.int .u8)) → Below base w w' → K (a.put o.dst v') w') :
    if Region.wanted o (yielded ops a.tmps) = true then Oper.wp Try.prog o a w K Q else E := by
  obtain ⟨v', w', h1, h2, h3, h4⟩ := run_app w o.type base v vx n xs ys hown hr (by omega) hbase
  exact step_app_run hgd s x _ ho v vx v' w' hs hx h1 (h v' w' h2 h3)

theorem ri_cut {w : World} {base h N cap : Nat} {l : List Int} (ho : w.ownsRow base 3 1 (.slice (some ⟨h, 0, none⟩) N cap) N (l.map (.int .i64))) (off n c : Nat) (A : Addr) (hA : n = 0 ∨ A = ⟨h, off, none⟩) (hfit : off + n ≤ N) : RI w (.slice (some A) n c) ((l.drop off).take n) := by
  have hl : l.length = N := by simpa using ho.1
  have hlen : ((l.drop off).take n).length = n := by simp; omega
  refine ⟨some A, c, by rw [hlen], fun hne => ?_⟩
  rcases hA with rfl | rfl
  · exact absurd (by simp) hne
  · refine ⟨h, off, rfl, fun i hi => ?_⟩
    rw [hlen] at hi
    rw [ho.cellAt (off + i) (by omega)]
    rw [List.getElem?_take, if_pos hi, List.getElem?_drop]
    simp [show off + i < l.length by omega]
theorem below_new (w : World) (e : TypeId) : Below w.heap.size w (w.drew.alloc (.cells #[] e)) := ((Below.refl _ w).drew).alloc (Nat.le_refl _) _
theorem cutI_head {w : World} {g n c : Nat} {l : List Int} (ho : w.ownsRow 0 3 1 (.slice (some ⟨g, 0, none⟩) n c) n (l.map (.int .i64))) {k : Nat} (hk : k < n) : RI (w.drew.alloc (.cells #[] 3)) (.slice (some ⟨g, 0, none⟩) k c) (l.take k) := by
  have := ri_cut (own_belowB ho (below_new w 3)) 0 k c ⟨g, 0, none⟩ (.inr rfl) (by omega)
  simpa using this
theorem cutI_tail {w X : World} {g n c : Nat} {l : List Int} (ho : w.ownsRow 0 3 1 (.slice (some ⟨g, 0, none⟩) n c) n (l.map (.int .i64))) {k : Nat} (hk : k < n) (hb : Below w.heap.size w X) : RI X (.slice (if c = k + 1 then some ⟨g, 0, none⟩ else some ⟨g, k + 1, none⟩) (n - (k + 1)) (c - (k + 1))) (l.drop (k + 1)) := by
  have hl : l.length = n := by simpa using ho.1
  have hc := own_cap ho
  have h2 : (l.drop (k + 1)).take (n - (k + 1)) = l.drop (k + 1) := List.take_of_length_le (by simp; omega)
  split
  · have := ri_cut (own_belowB ho hb) (k + 1) (n - (k + 1)) (c - (k + 1)) ⟨g, 0, none⟩ (.inl (by omega)) (by omega)
    rwa [h2] at this
  · have := ri_cut (own_belowB ho hb) (k + 1) (n - (k + 1)) (c - (k + 1)) ⟨g, k + 1, none⟩ (.inr rfl) (by omega)
    rwa [h2] at this
theorem cutB_head {w : World} {g n c : Nat} {l : List Int} (ho : w.ownsRow 0 5 1 (.slice (some ⟨g, 0, none⟩) n c) n (l.map (.int .u8))) {k : Nat} (hk : k < n) : RB (w.drew.alloc (.cells #[] 5)) (.slice (some ⟨g, 0, none⟩) k c) (l.take k) := by
  have := rb_cut (own_belowB ho (below_new w 5)) 0 k c ⟨g, 0, none⟩ (.inr rfl) (by omega)
  simpa using this
theorem cutB_tail {w X : World} {g n c : Nat} {l : List Int} (ho : w.ownsRow 0 5 1 (.slice (some ⟨g, 0, none⟩) n c) n (l.map (.int .u8))) {k : Nat} (hk : k < n) (hb : Below w.heap.size w X) : RB X (.slice (if c = k + 1 then some ⟨g, 0, none⟩ else some ⟨g, k + 1, none⟩) (n - (k + 1)) (c - (k + 1))) (l.drop (k + 1)) := by
  have hl : l.length = n := by simpa using ho.1
  have hc := own_cap ho
  have h2 : (l.drop (k + 1)).take (n - (k + 1)) = l.drop (k + 1) := List.take_of_length_le (by simp; omega)
  split
  · have := rb_cut (own_belowB ho hb) (k + 1) (n - (k + 1)) (c - (k + 1)) ⟨g, 0, none⟩ (.inl (by omega)) (by omega)
    rwa [h2] at this
  · have := rb_cut (own_belowB ho hb) (k + 1) (n - (k + 1)) (c - (k + 1)) ⟨g, k + 1, none⟩ (.inr rfl) (by omega)
    rwa [h2] at this
theorem own_toI {w : World} {base n : Nat} {v : Value} {l : List Int} {m : Nat} {l' : List Int} (h : w.ownsRow base 3 1 v n (l.map (.int .i64))) (hn : n = m) (hl : l = l') : w.ownsRow base 3 1 v m (l'.map (.int .i64)) := by subst hn hl; exact h
theorem own_toB {w : World} {base n : Nat} {v : Value} {l : List Int} {m : Nat} {l' : List Int} (h : w.ownsRow base 5 1 v n (l.map (.int .u8))) (hn : n = m) (hl : l = l') : w.ownsRow base 5 1 v m (l'.map (.int .u8)) := by subst hn hl; exact h
theorem cut_len {α : Type} (l : List α) {k n : Nat} (hl : l.length = n) (hk : k < n) : (l.take k).length = k ∧ (l.drop (k + 1)).length = n - (k + 1) ∧ (l.take k ++ l.drop (k + 1)).length = n - 1 := by
  simp
  omega
theorem grown_of_below {w w' : World} (h : Below w.heap.size w w') (row : Option Nat) : w.grownBy w' row := ⟨h.os, h.tape, h.output, h.size, fun i hi _ => h.block i hi⟩
theorem own_ge {w : World} {base n : Nat} {e : TypeId} {v : Value} {xs : List Value} (h : w.ownsRow base e 1 v n xs) : ∀ b, v.ownBlock = some b → base ≤ b := fun b hb => (own_cells h hb).choose_spec.2.2.1
section
variable {w0 : World} {Y : Nat → Prop} {sb : Nat} {zs : List Int} {vz : Value} {w : World} {π : Pi} {L : Nat} {hs : List Nat} {vh : Value} {ms : List Int} {vm : Value}
theorem AW.heldNew (h : AW w0 Y sb zs vz w π L hs vh ms vm) {w' : World} {hs' : List Nat} {vh' : Value} (hb : Below w.heap.size w w') (ho : w'.ownsRow w.heap.size 3 1 vh' hs'.length ((asI hs').map (.int .i64))) :
    AW w0 Y sb zs vz w' π L hs' vh' ms vm := h.held (grown_of_below hb _) (own_zero ho) (fun b hx => .inr (own_ge ho b hx))
theorem AW.marksNew (h : AW w0 Y sb zs vz w π L hs vh ms vm) {w' : World} {ms' : List Int} {vm' : Value} (hb : Below w.heap.size w w') (ho : w'.ownsRow w.heap.size 5 1 vm' ms'.length (ms'.map (.int .u8))) :
    AW w0 Y sb zs vz w' π L hs vh ms' vm' := h.marks (grown_of_below hb _) (own_zero ho) (fun b hx => .inr (own_ge ho b hx))
theorem AW.heldPush (h : AW w0 Y sb zs vz w π L hs vh ms vm) {X w' : World} {g' cap' n d H : Nat} (hX : Below w.heap.size w X) (hg : X.grownBy w' vh.ownBlock) (ho : w'.ownsRow 0 3 1 (.slice (some ⟨g', 0, none⟩) (n + 1) cap') (n + 1) ((asI hs).map (.int .i64) ++ [.int .i64 (d : Int)])) (hn : hs.length = n) (hat : vh.ownBlock = some g' ∨ g' = H) (hH : X.heap.size = H) :
    AW w0 Y sb zs vz w' π L (hs ++ [d]) (.slice (some ⟨g', 0, none⟩) (n + 1) cap') ms vm := by
  refine (h.below hX).held hg ?_ (fun b hb => ?_)
  · rw [show (hs ++ [d]).length = n + 1 by simp [hn], show (asI (hs ++ [d])).map (Value.int .i64) = (asI hs).map (.int .i64) ++ [.int .i64 (d : Int)] by unfold asI; simp]
    exact ho
  · have e : g' = b := by simpa [Value.ownBlock] using hb
    subst e
    rcases hat with h1 | h1
    · exact .inl h1
    · exact .inr (by omega)
theorem AW.marksPush (h : AW w0 Y sb zs vz w π L hs vh ms vm) {X w' : World} {g' cap' n H : Nat} {m : Int} (hX : Below w.heap.size w X) (hg : X.grownBy w' vm.ownBlock) (ho : w'.ownsRow 0 5 1 (.slice (some ⟨g', 0, none⟩) (n + 1) cap') (n + 1) (ms.map (.int .u8) ++ [.int .u8 m])) (hn : ms.length = n) (hat : vm.ownBlock = some g' ∨ g' = H) (hH : X.heap.size = H) :
    AW w0 Y sb zs vz w' π L hs vh (ms ++ [m]) (.slice (some ⟨g', 0, none⟩) (n + 1) cap') := by
  refine (h.below hX).marks hg ?_ (fun b hb => ?_)
  · rw [show (ms ++ [m]).length = n + 1 by simp [hn], show (ms ++ [m]).map (Value.int .u8) = ms.map (.int .u8) ++ [.int .u8 m] by simp]
    exact ho
  · have e : g' = b := by simpa [Value.ownBlock] using hb
    subst e
    rcases hat with h1 | h1
    · exact .inl h1
    · exact .inr (by omega)
theorem AW.hcap (h : AW w0 Y sb zs vz w π L hs vh ms vm) {n : Nat} (hn : hs.length = n) : w.ownsRow 0 3 1 vh n ((asI hs).map (.int .i64)) := by rw [← hn]; exact h.h
theorem AW.mcap (h : AW w0 Y sb zs vz w π L hs vh ms vm) {n : Nat} (hn : ms.length = n) : w.ownsRow 0 5 1 vm n (ms.map (.int .u8)) := by rw [← hn]; exact h.m
theorem AW.zcap (h : AW w0 Y sb zs vz w π L hs vh ms vm) {n : Nat} (hn : zs.length = n) : w.ownsRow 0 3 1 vz n (zs.map (.int .i64)) := by rw [← hn]; exact h.z
theorem AW.drew (h : AW w0 Y sb zs vz w π L hs vh ms vm) : AW w0 Y sb zs vz w.drew π L hs vh ms vm := h.below (below_drewN (Below.refl _ w) 1)
end
theorem asI_cut (hs : List Nat) (k : Nat) : asI (hs.take k ++ hs.drop (k + 1)) = (asI hs).take k ++ (asI hs).drop (k + 1) := by
  unfold asI
  simp [List.map_take, List.map_drop]
theorem asI_len (hs : List Nat) : (asI hs).length = hs.length := by simp [asI]
theorem held_le {π : Pi} {L : Nat} (h : Wf π L) (h3 : π.ow.length = 3) {c : Nat} (hu : usedP π (c : Int) = true) : c < 12288 := by
  have := (fits_nat h hu).2.2.2.1
  omega
/-- the chunk that Alloc tells is one of the class's size -/
theorem alF_size {π : Pi} {L c p i : Nat} (hw : Wf (alS π c) L) (hf : AlF π c p i) : (((alS π c).sz[c]?.getD 0 : Int)) = (zOf (alS π c) (p * 4096 + i) : Nat) ∧ usedP (alS π c) ((p * 4096 + i : Nat) : Int) = true := by
  have hu : usedP (alS π c) ((p * 4096 + i : Nat) : Int) = true := by rw [hf.used, if_pos rfl]
  obtain ⟨x, hx, hi⟩ := hf.pg
  have hps := hw.page_some hx
  have hsz := hw.szP hx
  have e1 : (p * 4096 + i) / 4096 = p := by omega
  refine ⟨?_, hu⟩
  unfold zOf
  rw [e1]
  have e2 : szP (alS π c) p = (alS π c).sz[c]?.getD 0 := by unfold szP; rw [hf.own]
  rw [← e2]
  omega
theorem alOk_two {π : Pi} {c : Nat} (h : c < π.sz.length) : alOk π c = 0 ∨ alOk π c = 5 := by
  unfold alOk
  split
  · omega
  · split
    · exact .inr rfl
    · exact .inl rfl
theorem alS_no {π : Pi} {c : Int} (h : alOk π c ≠ 0) : alS π c = π := by
  unfold alS
  rw [if_neg h]
theorem frS_un {π : Pi} {c : Int} (h : usedP π c = false) : frS π c = π := by
  unfold frS
  rw [h]
  rfl
theorem tmod_nat {y : Int} {n : Nat} (hy : 0 ≤ y) (hn : 0 < n) : ∃ k : Nat, y.tmod (n : Int) = k ∧ k < n := by
  have h1 : y.tmod (n : Int) = y % n := Int.tmod_eq_emod_of_nonneg hy
  have h2 := Int.emod_nonneg y (show (n : Int) ≠ 0 by omega)
  have h3 := Int.emod_lt_of_pos y (show (0 : Int) < n by omega)
  exact ⟨(y % n).toNat, by omega, by omega⟩
theorem own_byte {w : World} {base g N cap : Nat} {r : List Int} (h : w.ownsRow base 5 1 (.slice (some ⟨g, 0, none⟩) N cap) N (r.map (.int .u8))) (i : Nat) (hi : i < N) : w.cell? ⟨g, i, none⟩ = some (.int .u8 (r[i]?.getD 0)) := by
  have hl : r.length = N := by simpa using h.1
  rw [h.cellAt i (by omega)]
  simp [show i < r.length by omega]
/-- a row of bytes that is being filled, made behind world W -/
structure FB (W w : World) (g z t : Nat) (m : Int) : Prop where
  be : Below W.heap.size W w
  own : w.ownsRow 0 5 1 (.slice (some ⟨g, 0, none⟩) z z) z ((List.replicate t m ++ List.replicate (z - t) 0).map (.int .u8))
  ge : W.heap.size ≤ g
theorem fill_next (m : Int) {t z : Nat} (h : t < z) : (List.replicate t m ++ List.replicate (z - t) (0 : Int)).set t m = List.replicate (t + 1) m ++ List.replicate (z - (t + 1)) 0 := by
  rw [List.set_append_right _ _ (by simp), List.length_replicate, Nat.sub_self, show z - t = (z - (t + 1)) + 1 by omega, List.replicate_succ, List.set_cons_zero, List.replicate_succ']
  simp
theorem FB.made {W w : World} {z : Nat} {m : Int} (ho : w.ownsRow W.heap.size 5 1 (.slice (some ⟨W.heap.size, 0, none⟩) z z) z (madeCells (Value.int .u8 0).cells (z * 1)).toList) (hg : W.grownBy w none) : FB W w W.heap.size z 0 m := by
  have hrep : (madeCells (Value.int .u8 0).cells (z * 1)).toList = (List.replicate z (0 : Int)).map (.int .u8) := by
    rw [Nat.mul_one]; exact (toList_madeCells_one _ z).trans (by simp)
  rw [hrep] at ho
  exact ⟨(Below.refl _ _).grown hg (Nat.le_refl _) (fun _ h => by cases h), by simpa using own_zero ho, Nat.le_refl _⟩
theorem FB.set {W w : World} {g z t : Nat} {m : Int} (h : FB W w g z t m) (ht : t < z) : FB W (w.setCell ⟨g, t, none⟩ (.int .u8 m)) g z (t + 1) m := by
  have h1 := (h.own.stored t (.int .u8 m)).1
  rw [← List.map_set, fill_next m ht] at h1
  exact ⟨Tch.below h.be (Tch.setCell w g t _) h.be.size (fun b hb => by have := h.ge; omega), h1, h.ge⟩
theorem FB.whole {W w : World} {g z : Nat} {m : Int} (h : FB W w g z z m) : w.ownsRow 0 5 1 (.slice (some ⟨g, 0, none⟩) z z) z ((List.replicate z m).map (.int .u8)) := by
  have := h.own
  rwa [Nat.sub_self, List.replicate_zero, List.append_nil] at this
theorem FB.rb {W w w' : World} {g z : Nat} {m : Int} {Y : Nat → Prop} (h : FB W w g z z m) (hY : ∀ b, Y b → b < W.heap.size) (ht : Tch Y w w') : RB w' (.slice (some ⟨g, 0, none⟩) z z) (List.replicate z m) := by
  have h1 := own_tchB h.whole ht (fun b hb hx => by
    have e : g = b := by simpa [Value.ownBlock] using hb
    have := hY b hx
    have := h.ge
    omega)
  have := rb_cut h1 0 z z ⟨g, 0, none⟩ (.inr rfl) (by omega)
  simpa using this
theorem FB.be0 {W w : World} {g z t : Nat} {m : Int} (h : FB W w g z t m) : ¬ w.heap.size ≤ g := fun hx => by
  obtain ⟨_, _, _, _, h2⟩ := own_cells h.own (b := g) rfl
  omega
end Go.Proofs.Ytfmgncajhjkdlaa
