/- both Decodes at every slice of bytes; append of bytes that are read. -/
import Derived.Test.YtiammgeahogdoaaY
import Derived.Deep.DeepAppendWide
namespace Go.Proofs.Ytiammgeahogdoaa
open Go.RowKit Go.PlainAid
set_option linter.unusedVariables false
set_option linter.unusedSimpArgs false

theorem decode_all (l : List Int) (a : Option Addr) (n cap : Nat) (w : World) (hr : RB w (.slice a n cap) l) (hcap : n ≤ cap) (hcm : cap ≤ maxLen) (hb : P.Bytes l) :
    Calls Try.prog 14 #[.slice a n cap] w (DecPost l w) := by
  obtain ⟨a', cap', e, hc⟩ := hr
  simp only [Value.slice.injEq] at e
  obtain ⟨rfl, hln, rfl⟩ := e
  by_cases h40 : n < 40
  · exact decode_len _ _ _ l w hln.symm h40
  obtain ⟨bk, o, rfl, hcc⟩ := hc (by intro h; rw [h] at hln; simp at hln; omega)
  rw [← hln] at hcc
  by_cases hbits : (3 : Int) < l[1]?.getD 0 ∨ l[2]?.getD 0 ≠ 0 ∨ l[3]?.getD 0 ≠ 0
  · exact decode_bits bk o n cap l w hln.symm (by omega) hcap hcm hb hcc hbits
  have h1 : l[1]?.getD 0 ≤ 3 := by omega
  have h2 : l[2]?.getD 0 = 0 := by omega
  have h3 : l[3]?.getD 0 = 0 := by omega
  obtain ⟨kz, hkz⟩ := Int.eq_ofNat_of_zero_le (hb.at 0).1
  obtain ⟨vz, hvz⟩ := Int.eq_ofNat_of_zero_le (P.num_bound _ ((hb.drop 8).take 8)).1
  have hx : (if cap = 40 then (some ⟨bk, o, none⟩ : Option Addr) else some ⟨bk, o + 40, none⟩) = some ⟨bk, if cap = 40 then o else o + 40, none⟩ := by split <;> rfl
  by_cases hfit : (65536 : Int) < vz ∨ (n : Int) - 40 < (kz : Int) + vz
  · exact decode_fit bk o n cap kz _ vz l w hln.symm (by omega) hcap hcm hb hcc h1 h2 h3 hx hkz hvz hfit
  generalize hxx : (if cap = 40 then o else o + 40) = x at hx
  have hy : (if cap - 40 = kz then (some ⟨bk, x, none⟩ : Option Addr) else some ⟨bk, x + kz, none⟩) = some ⟨bk, if cap - 40 = kz then x else x + kz, none⟩ := by split <;> rfl
  refine decode_head bk o n cap kz vz x _ l w hln.symm (by omega) hcap hcm hb hcc h1 h2 h3 hx hy ?_ ?_ hkz hvz (by omega) (by omega)
  · by_cases h : cap = 40
    · exact .inl (by omega)
    · exact .inr (by rw [← hxx, if_neg h])
  · by_cases h : cap = 40
    · exact .inl (by omega)
    · rw [if_neg h] at hxx
      by_cases h' : cap - 40 = kz
      · exact .inl (by omega)
      · exact .inr (by rw [if_neg h', ← hxx]; omega)

theorem refDecode_all (l : List Int) (a : Option Addr) (n cap : Nat) (w : World) (hr : RB w (.slice a n cap) l) (hcap : n ≤ cap) (hcm : cap ≤ maxLen) (hb : P.Bytes l) :
    Calls Try.prog 15 #[.slice a n cap] w (DecPost l w) := by
  obtain ⟨a', cap', e, hc⟩ := hr
  simp only [Value.slice.injEq] at e
  obtain ⟨rfl, hln, rfl⟩ := e
  by_cases h40 : n < 40
  · exact refDecode_len _ _ _ l w hln.symm h40
  obtain ⟨bk, o, rfl, hcc⟩ := hc (by intro h; rw [h] at hln; simp at hln; omega)
  rw [← hln] at hcc
  obtain ⟨kz, hkz⟩ := Int.eq_ofNat_of_zero_le (hb.at 0).1
  obtain ⟨vz, hvz⟩ := Int.eq_ofNat_of_zero_le (P.num_bound _ ((hb.drop 8).take 8)).1
  have hx : (if cap = 40 then (some ⟨bk, o, none⟩ : Option Addr) else some ⟨bk, o + 40, none⟩) = some ⟨bk, if cap = 40 then o else o + 40, none⟩ := by split <;> rfl
  by_cases hfit : (3 : Int) < P.num (sub l 1 3) ∨ (65536 : Int) < vz ∨ (n : Int) - 40 < (kz : Int) + vz
  · exact refDecode_no bk o n cap kz _ vz l w hln.symm (by omega) hcap hcm hb hcc hkz rfl hvz hfit
  have hn3 := num3 (l := l) (by omega)
  have b1 := hb.at 1
  have b2 := hb.at 2
  have b3 := hb.at 3
  have h1 : l[1]?.getD 0 ≤ 3 := by omega
  have h2 : l[2]?.getD 0 = 0 := by omega
  have h3 : l[3]?.getD 0 = 0 := by omega
  generalize hxx : (if cap = 40 then o else o + 40) = x at hx
  have hy : (if cap = 40 + kz then (some ⟨bk, o, none⟩ : Option Addr) else some ⟨bk, o + (40 + kz), none⟩) = some ⟨bk, if cap = 40 + kz then o else o + (40 + kz), none⟩ := by split <;> rfl
  refine refDecode_yes bk o n cap kz vz x _ l w hln.symm (by omega) hcap hcm hb hcc h1 h2 h3 hx hy ?_ ?_ hkz hvz (by omega) (by omega)
  · by_cases h : cap = 40
    · exact .inl (by omega)
    · exact .inr (by rw [← hxx, if_neg h])
  · by_cases h : cap = 40 + kz
    · exact .inl (by omega)
    · exact .inr (by rw [if_neg h])

theorem run_app_none (w : World) (ty : TypeId) (base : Nat) (v : Value) (n c : Nat) (xs : List Value) (hown : w.ownsRow base 5 1 v n xs) : (Builtin.append_ #[27, 27] ty #[v, .slice none 0 c]).run Try.prog w = .ok v w := by
  obtain ⟨i0, hi, hz0, hz1, hz2⟩ := info_parts Try.info5
  rcases hown.2 with ⟨rfl, rfl⟩ | ⟨g, cap, cur, rfl, _, _, hnc, _⟩
  · simp [Builtin.append_, run_underlying Try.underlying27, sizeOf, typeInfo, hi, Builtin.lenOf, Builtin.firstCells]
  · simp [Builtin.append_, run_underlying Try.underlying27, sizeOf, typeInfo, hi, Builtin.lenOf, Builtin.firstCells, hnc, storeCells]

theorem run_app (w : World) (ty : TypeId) (base : Nat) (v x : Value) (n : Nat) (xs ys : List Int) (hown : w.ownsRow base 5 1 v n (xs.map (.int .u8))) (hr : RB w x ys)
    (h63 : n + ys.length ≤ 200000000000000) (hbase : base ≤ w.heap.size) :
    ∃ v' w', (Builtin.append_ #[27, 27] ty #[v, x]).run Try.prog w = .ok v' w' ∧ w'.ownsRow base 5 1 v' (n + ys.length) ((xs ++ ys).map (.int .u8)) ∧ Below base w w' ∧ (v' = .slice none 0 0 → v = .slice none 0 0) := by
  obtain ⟨i0, hi, hz0, hz1, hz2⟩ := info_parts Try.info5
  obtain ⟨a, c, rfl, hc⟩ := hr
  cases a with
  | none =>
    have hy : ys = [] := by
      cases ys with
      | nil => rfl
      | cons y ys => obtain ⟨b, o, h, _⟩ := hc (by simp); cases h
    subst hy
    exact ⟨v, w, run_app_none w ty base v n c _ hown, by simpa using hown, Below.refl _ _, fun h => h⟩
  | some ad =>
    obtain ⟨v', w', hrun, ho, hg, hiff⟩ := run_append_own_wide (P := Try.prog) w base 27 ty 5 i0 (.int .u8 0) 1 1 Try.underlying27 hi hz0 hz1 hz2 rfl (by decide) v n _ hown ad ys.length c (ys.map (.int .u8)) (by simp) (by
        intro j u hj
        have hjl : j < ys.length := by have := (List.getElem?_eq_some_iff.1 hj).1; simpa using this
        obtain ⟨b, o, e, hcc⟩ := hc (by intro h; rw [h] at hjl; simp at hjl)
        obtain rfl := Option.some.inj e
        have := hcc j hjl
        have hadd : (⟨b, o, none⟩ : Addr).add j = ⟨b, o + j, none⟩ := by unfold Addr.add; split <;> simp_all
        rw [hadd, this]
        simp [hjl] at hj ⊢
        exact hj) (by
        intro u hu
        obtain ⟨z, _, rfl⟩ := List.mem_map.1 hu
        rfl) (by unfold maxLen; omega) (by omega) hbase
    exact ⟨v', w', hrun, by simpa using ho, (Below.refl _ _).grown hg hbase (fun k hk => (hown.lt k hk).1), fun h => (hiff.1 h).1⟩

/-- append of bytes that are read to a row of the call's own -/
theorem wp_appR {ops : Array Oper} {rest : List Oper} {o : Oper} {a : Act} {Q : Exit → Act → World → Prop} (w0 w : World) (hgd : o.guard = none) (s x : Operand)
    (ho : o.op = .call { callee := .builtin .append, args := #[s, x], argTypes := #[27, 27] }) (base : Nat) (v vx : Value) (n : Nat) (xs ys : List Int)
    (hs : a.eval s = v) (hown : w.ownsRow base 5 1 v n (xs.map (.int .u8))) (hx : a.eval x = vx) (hr : RB w vx ys)
    (hbel : Below base w0 w) (hn : n + ys.length ≤ 200000000000000) (hbase : base ≤ w.heap.size)
    (h : ∀ v' w', w'.ownsRow base 5 1 v' (n + ys.length) ((xs ++ ys).map (.int .u8)) → Below base w0 w' → (v' = .slice none 0 0 → v = .slice none 0 0) → wpList Try.prog ops Q rest (a.put o.dst v') w') :
    wpList Try.prog ops Q (o :: rest) a w := by
  obtain ⟨v', w', hrun, h2, h3, h4⟩ := run_app w o.type base v vx n xs ys hown hr hn hbase
  refine wpList_plain hgd fun _ hK => ?_
  unfold Oper.wp execOp
  simp only [ho, resolve, invoke, builtin, Sem.run_bind, Sem.run_pure, Result.andThen_ok, List.map_toArray, List.map_cons, List.map_nil, hs, hx, hrun]
  exact hK _ _ (h v' w' h2 (hbel.trans h3) h4)

theorem own_new (w : World) : (w.alloc (.cells #[] 5)).ownsRow w.heap.size 5 1 (.slice (some ⟨w.heap.size, 0, none⟩) 0 0) 0 (([] : List Int).map (.int .u8)) :=
  World.ownsRow_lit w #[] 0 (Nat.le_refl _) (by decide) (by simp)
end Go.Proofs.Ytiammgeahogdoaa
