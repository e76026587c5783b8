/- Tsz, Tsv, Tsw, Trx. -/
import Derived.Test.YtboehbfagnocpaaGreatDoorUay
set_option linter.unusedVariables false
set_option linter.unusedSimpArgs false
set_option maxRecDepth 100000
open Go.Proofs.Tryz
open Go.Lib (hid)
namespace Go.Proofs.YtboehbfagnocpaaGreatDoor.SZ
open Go.RowKit Go.PlainAid
namespace M
def step (f x : Int) : Int := max (x + 8) ((x * f / 100 + 7) / 8 * 8)
def gen (f h : Int) : Nat → Int → List Int
  | 0, _ => []
  | n + 1, x => if x ≤ h then x :: gen f h n (step f x) else []
def Bad (p f : Int) : Prop := p < 512 ∨ 65536 < p ∨ p % 8 ≠ 0 ∨ f < 105 ∨ 400 < f
instance (p f : Int) : Decidable (Bad p f) := by unfold Bad; infer_instance
def row (p f : Int) : List Int := if Bad p f then [] else gen f (p / 2) 62 64 ++ [p]
def errno (p f : Int) : Int := if Bad p f then 1 else 0
theorem mulf (x f : Int) (hf : 105 ≤ f) (hf' : f ≤ 400) (hx : 0 ≤ x) : x * 105 ≤ x * f ∧ x * f ≤ x * 400 :=
  ⟨Int.mul_le_mul_of_nonneg_left hf hx, Int.mul_le_mul_of_nonneg_left hf' hx⟩
theorem step_ge (f x : Int) : x + 8 ≤ step f x := by unfold step; omega
theorem gen_pos (f h : Int) (n : Nat) (x : Int) (hx : x ≤ h) : gen f h (n + 1) x = x :: gen f h n (step f x) := by rw [gen, if_pos hx]
theorem gen_neg (f h : Int) (n : Nat) (x : Int) (hx : ¬ x ≤ h) : gen f h n x = [] := by
  cases n with
  | zero => rfl
  | succ n => rw [gen, if_neg hx]
theorem gen_start (f h : Int) (hh : 64 ≤ h) : gen f h 62 64 = 64 :: gen f h 61 (step f 64) := gen_pos f h 61 64 hh
end M
theorem i64_and7 (n : Int) : bits .and .i64 n 7 = n % 8 := by
  have h127 : (BitVec.ofInt 64 7).toNat = 2 ^ 3 - 1 := by decide
  have key : (BitVec.ofInt 64 n &&& BitVec.ofInt 64 7).toNat = (n % ((2 ^ 64 : Nat) : Int)).toNat % 2 ^ 3 := by
    rw [BitVec.toNat_and, BitVec.toNat_ofInt, h127, Nat.and_two_pow_sub_one_eq_mod]
  show IntKind.i64.wrap ((BitVec.ofInt 64 n &&& BitVec.ofInt 64 7).toNat : Nat) = n % 8
  rw [key, IntKind.wrap_i64]
  omega
theorem and_m8 (n : Nat) (h : n < 9223372036854775808) : n &&& 18446744073709551608 = n / 8 * 8 := by
  apply Nat.eq_of_testBit_eq
  intro i
  rw [Nat.testBit_and]
  match i with
  | 0 => simp [Nat.testBit_zero]; omega
  | 1 => rw [Nat.testBit_succ, Nat.testBit_succ, Nat.testBit_succ]; simp [Nat.testBit_zero]; omega
  | 2 => rw [Nat.testBit_succ, Nat.testBit_succ, Nat.testBit_succ, Nat.testBit_succ, Nat.testBit_succ, Nat.testBit_succ]; simp [Nat.testBit_zero]; omega
  | i + 3 =>
    simp only [Nat.testBit_succ]
    have e1 : n / 8 * 8 / 2 / 2 / 2 = n / 8 := by omega
    have e2 : n / 2 / 2 / 2 = n / 8 := by omega
    have e3 : 18446744073709551608 / 2 / 2 / 2 = 2 ^ 61 - 1 := by decide
    rw [e1, e2, e3, Nat.testBit_two_pow_sub_one]
    by_cases hi : i < 61
    · simp [hi]
    · have : n / 8 < 2 ^ i := Nat.lt_of_lt_of_le (show n / 8 < 2 ^ 61 by omega) (Nat.pow_le_pow_right (by decide) (by omega))
      simp [hi, Nat.testBit_lt_two_pow this]
theorem i64_andNot7 (n : Nat) (h : n < 9223372036854775808) : bits .andNot .i64 (n : Int) 7 = ((n / 8 * 8 : Nat) : Int) := by
  show IntKind.i64.wrap ((BitVec.ofInt 64 (n : Int) &&& ~~~BitVec.ofInt 64 7).toNat : Int) = _
  have h1 : (~~~BitVec.ofInt 64 7).toNat = 18446744073709551608 := by decide
  have h2 : (BitVec.ofInt 64 (n : Int)).toNat = n := by
    rw [BitVec.ofInt_natCast, BitVec.toNat_ofNat]; exact Nat.mod_eq_of_lt (by omega)
  rw [BitVec.toNat_and, h1, h2, and_m8 n h, IntKind.wrap_i64]
  omega
theorem i64_andNot7' (n : Int) (h0 : 0 ≤ n) (h : n < 9223372036854775808) : bits .andNot .i64 n 7 = n / 8 * 8 := by
  obtain ⟨m, rfl⟩ := Int.eq_ofNat_of_zero_le h0
  rw [i64_andNot7 m (by omega)]; omega
theorem Tryz.info3 : (prog.info? 3).map (fun i => (i.zero, i.size, i.bytes)) = some (some (.int .i64 0), 1, 8) := by kernel_rfl
def NewPost (p f : Int) (w : World) (e : Ending) (w' : World) : Prop :=
  ∃ v, e = .returned (.tuple #[v, .int .i64 (M.errno p f)]) ∧ w'.ownsRow w.heap.size 3 1 v (M.row p f).length ((M.row p f).map (.int .i64)) ∧ Below w.heap.size w w'
theorem wp_app1 {ops : Array Oper} {rest : List Oper} {o : Oper} {a : Act} {Q : Exit → Act → World → Prop} (w0 w : World) (hgd : o.guard = none) (s x : Operand)
    (ho : o.op = .call { callee := .builtin .append, args := #[s, x], argTypes := #[39, 39] }) (base : Nat) (v : Value) (n : Nat) (xs : List Int) (u : Int)
    (hs : a.eval s = v) (hown : w.ownsRow base 3 1 v n (xs.map (.int .i64))) (hx : a.eval x = .slice (some ⟨w.heap.size, 0, none⟩) 1 1)
    (hbel : Below base w0 w) (hn : n < 1000000000000) (hbase : base ≤ w.heap.size)
    (h : ∀ g cap w', w'.ownsRow base 3 1 (.slice (some ⟨g, 0, none⟩) (n + 1) cap) (n + 1) ((xs ++ [u]).map (.int .i64)) → Below base w0 w' → wpList prog ops Q rest (a.put o.dst (.slice (some ⟨g, 0, none⟩) (n + 1) cap)) w') :
    wpList prog ops Q (o :: rest) a (w.alloc (.cells #[.int .i64 u] 3)) := by
  obtain ⟨i0, hi, hz0, hz1, hz2⟩ := info_parts Tryz.info3
  refine wpList_append_own _ hgd s x 39 ho base 3 i0 (.int .i64 0) 1 8 underlying39 hi hz0 hz1 hz2 rfl (by decide) v n _ hs (hown.alloc _) ⟨w.heap.size, 0, none⟩ 1 1 [.int .i64 u] hx rfl ?_ ?_ ?_ ?_ ?_ ?_
  · intro j y hj
    match j, hj with
    | 0, hj => simp at hj; subst hj; simp [Addr.add]
  · intro y hy; simp at hy; subst hy; rfl
  · unfold maxLen; omega
  · omega
  · simp; omega
  · intro v' w' hown' hgrow hiff
    have hb' : Below base w0 w' := (hbel.alloc hbase _).grown hgrow (by simp; omega) (fun k hk => (hown.lt k hk).1)
    rcases hown'.2 with ⟨rfl, h0⟩ | ⟨g, cap, cur, rfl, _⟩
    · omega
    · exact h g cap w' (by simpa using hown') hb'
theorem newPost_good {p f : Int} (h : ¬ M.Bad p f) {w w' : World} {v : Value} {n : Nat} {l : List Int} (hr : M.row p f = l) (hn : l.length = n)
    (hown : w'.ownsRow w.heap.size 3 1 v n (l.map (.int .i64))) (hb : Below w.heap.size w w') : NewPost p f w (.returned (.tuple #[v, .int .i64 0])) w' := by
  subst hr hn
  exact ⟨v, by rw [show M.errno p f = 0 by unfold M.errno; rw [if_neg h]], hown, hb⟩
def lenV : Value → Nat | .slice _ n _ => n | _ => 0
set_option maxHeartbeats 400000 in
theorem new_good (p f : Int) (w : World) (h : ¬ M.Bad p f) : Calls prog 42 #[.int .i64 p, .int .i64 f] w (NewPost p f w) := by
  have hb : 512 ≤ p ∧ p ≤ 65536 ∧ p % 8 = 0 ∧ 105 ≤ f ∧ f ≤ 400 := by unfold M.Bad at h; omega
  obtain ⟨h1, h2, h3, h4, h5⟩ := hb
  have e7 := i64_and7 p
  have h3' : (p % 8 != 0) = false := by simp [h3]
  have H3 := hid h3
  clear h3
  go_enter func42, ntmps42
  go_wp2
  go_loopw [6] (fun v wr => ∃ (g cap k : Nat) (pre : List Int) (x : Int), v = .slice (some ⟨g, 0, none⟩) (k + 1) cap ∧ k ≤ 61 ∧ pre.length = k ∧ wr.ownsRow w.heap.size 3 1 (.slice (some ⟨g, 0, none⟩) (k + 1) cap) (k + 1) ((pre ++ [x]).map (.int .i64)) ∧ 64 ≤ x ∧ x ≤ p / 2 ∧ pre ++ x :: M.gen f (p / 2) (61 - k) (M.step f x) = M.gen f (p / 2) 62 64 ∧ Below w.heap.size w wr) (fun v _ => 62 - lenV v)
  case atStart =>
    exact ⟨_, _, 0, [], 64, rfl, by omega, rfl, World.ownsRow_lit w #[.int .i64 64] 1 (Nat.le_refl _) (by unfold maxLen; omega) rfl, by omega, by omega, (M.gen_start f _ (by omega)).symm, (Below.refl _ _).alloc (Nat.le_refl _) _⟩
  case round =>
    obtain ⟨g, cap, k, pre, x, rfl, hk, hpl, hown, hx0, hx1, hgen, hbel⟩ := hrel
    have hsz := hbel.size
    have hlast := hown.cellAt k (by omega)
    have hlast2 : wr.cell? ⟨g, k, none⟩ = some (.int .i64 x) := by rw [hlast]; simp [← hpl]
    clear hlast
    have hm := M.mulf x f h4 h5 (by omega)
    have hao := i64_andNot7' (x * f / 100 + 7) (by omega) (by omega)
    have hst : M.step f x = max (x + 8) ((x * f / 100 + 7) / 8 * 8) := rfl
    have hif : (if x + 8 < (x * f / 100 + 7) / 8 * 8 then (x * f / 100 + 7) / 8 * 8 else x + 8) = M.step f x := by rw [hst]; split <;> omega
    have hs1 : M.step f x ≤ 200000 := by rw [hst]; omega
    have hs2 := M.step_ge f x
    clear hst
    have Hgen := hid hgen
    have Hpl := hid hpl
    clear hgen hpl
    by_cases hlt : k < 61
    · by_cases hbr : p / 2 < M.step f x
      · go_wp2_with (at_builtin; go_must (refine wp_app1 w wr rfl _ _ rfl w.heap.size (.slice (some ⟨g, 0, none⟩) (k + 1) cap) (k + 1) (pre ++ [x]) p rfl hown rfl hbel (by omega) (by omega) ?_); intro g' cap' w' hown' hbel')
        go_ret2
        refine newPost_good h (l := pre ++ [x] ++ [p]) ?_ (by simp [Hpl.out]) hown' hbel'
        unfold M.row; rw [if_neg h, ← Hgen.out, M.gen_neg _ _ _ _ (by omega)]
      · go_wp2_with (at_builtin; refine wp_app1 w wr rfl _ _ rfl w.heap.size (.slice (some ⟨g, 0, none⟩) (k + 1) cap) (k + 1) (pre ++ [x]) (M.step f x) rfl hown rfl hbel (by omega) (by omega) ?_; intro g' cap' w' hown' hbel')
        go_roundw
        case rel =>
          refine ⟨g', cap', k + 1, pre ++ [x], M.step f x, rfl, by omega, by simp [Hpl.out], hown', by omega, by omega, ?_, hbel'⟩
          rw [← Hgen.out, show 61 - k = (61 - (k + 1)) + 1 by omega, M.gen_pos _ _ _ _ (by omega)]
          simp
        case measure => simp [lenV]; omega
    · go_wp2_with (at_builtin; refine wp_app1 w wr rfl _ _ rfl w.heap.size (.slice (some ⟨g, 0, none⟩) (k + 1) cap) (k + 1) (pre ++ [x]) p rfl hown rfl hbel (by omega) (by omega) ?_; intro g' cap' w' hown' hbel')
      go_ret2
      refine newPost_good h (l := pre ++ [x] ++ [p]) ?_ (by simp [Hpl.out]) hown' hbel'
      unfold M.row; rw [if_neg h, ← Hgen.out, show 61 - k = 0 by omega, M.gen]
theorem row512 : M.row 512 200 = zs := by decide +kernel
end Go.Proofs.YtboehbfagnocpaaGreatDoor.SZ
namespace Go.Proofs.YtboehbfagnocpaaGreatDoor
open Go.RowKit Go.PlainAid
open SP
open PM (Cd An Sd Vl)
abbrev Mac := PM.St Sd Cd An
def cdM (key : ByteArray) : Cd → Cm
  | .get => { cm0 with op := 1, key := key, recache := -1 }
  | .set fl v => { cm0 with op := 2, key := key, value := vlB v, flags := fl, recache := -1 }
  | .cas t v => { cm0 with op := 2, key := key, value := vlB v, cas := t, hasCas := true, recache := -1 }
  | .incr d => { cm0 with op := 3, key := key, delta := d, recache := -1 }
def itC (key : ByteArray) : Option PM.It → List Value
  | none => [.string ⟨#[]⟩, .int .u32 0, .string ⟨#[]⟩, .int .i64 0, .int .u64 0, .int .i64 0, .bool false, .bool false]
  | some x => [.string key, .int .u32 x.fl, .string (vlB x.v), .int .i64 0, .int .u64 x.cas, .int .i64 x.last, .bool false, .bool false]
def anC (key : ByteArray) (a : An) : List Value := .int .i64 a.st :: (itC key a.it ++ [.int .u64 a.num, .bool false, .bool false, .bool false])
def anV (key : ByteArray) (a : An) : Value := .agg (anC key a).toArray
def evC (key : ByteArray) (e : PM.Ev Cd An) : List Value := [.int .i64 1, .int .i64 1, .int .i64 e.of, .int .i64 e.seq, .int .i64 0] ++ (cdM key e.cmd).vs.toList ++ anC key e.ans ++ [.slice none 0 0]
def crlf : ByteArray := ⟨#[13, 10]⟩
def txC (key : ByteArray) : Cd → ByteArray
  | .get => ⟨#[103, 101, 116, 32]⟩ ++ key ++ crlf
  | .set fl v => ⟨#[115, 101, 116, 32]⟩ ++ key ++ ⟨#[32]⟩ ++ dec fl ++ ⟨#[32, 48, 32]⟩ ++ dec (vlB v).size ++ crlf ++ vlB v ++ crlf
  | .cas t v => ⟨#[99, 97, 115, 32]⟩ ++ key ++ ⟨#[32, 48, 32, 48, 32]⟩ ++ dec (vlB v).size ++ ⟨#[32]⟩ ++ dec t ++ crlf ++ vlB v ++ crlf
  | .incr d => ⟨#[105, 110, 99, 114, 32]⟩ ++ key ++ ⟨#[32]⟩ ++ dec d ++ crlf
def txS (key : ByteArray) : List Cd → ByteArray
  | [] => ⟨#[]⟩
  | c :: l => txC key c ++ txS key l
def rpC (key : ByteArray) : Cd × An → ByteArray
  | (.get, a) => match a.it with
    | none => ⟨#[69, 78, 68, 13, 10]⟩
    | some x => ⟨#[86, 65, 76, 85, 69, 32]⟩ ++ key ++ ⟨#[32]⟩ ++ dec x.fl ++ ⟨#[32]⟩ ++ dec (vlB x.v).size ++ crlf ++ vlB x.v ++ ⟨#[13, 10, 69, 78, 68, 13, 10]⟩
  | (.incr _, a) => if a.st = 6 then dec a.num ++ crlf else ⟨#[78, 79, 84, 95, 70, 79, 85, 78, 68, 13, 10]⟩
  | (_, a) => if a.st = 2 then ⟨#[83, 84, 79, 82, 69, 68, 13, 10]⟩ else if a.st = 4 then ⟨#[69, 88, 73, 83, 84, 83, 13, 10]⟩ else ⟨#[78, 79, 84, 95, 70, 79, 85, 78, 68, 13, 10]⟩
def rpS (key : ByteArray) : List (Cd × An) → ByteArray
  | [] => ⟨#[]⟩
  | x :: l => rpC key x ++ rpS key l
theorem ba_nil (x : ByteArray) : x ++ (⟨#[]⟩ : ByteArray) = x := ByteArray.ext (by simp [ByteArray.data_append])
theorem nil_ba (x : ByteArray) : (⟨#[]⟩ : ByteArray) ++ x = x := ByteArray.ext (by simp [ByteArray.data_append])
theorem rpS_snoc (key : ByteArray) (l : List (Cd × An)) (x : Cd × An) : rpS key (l ++ [x]) = rpS key l ++ rpC key x := by
  induction l with
  | nil => simp only [List.nil_append, rpS, ba_nil, nil_ba]
  | cons y l ih => simp only [List.cons_append, rpS, ih, ByteArray.append_assoc]
theorem txS_append (key : ByteArray) (l m : List Cd) : txS key (l ++ m) = txS key l ++ txS key m := by
  induction l with
  | nil => simp only [List.nil_append, txS, nil_ba]
  | cons y l ih => simp only [List.cons_append, txS, ih, ByteArray.append_assoc]
structure Wl where
  (b cb cc : Nat)
  (av hv : Value)
def wkC (l : Wl) (k : PM.Wk Cd An) : Array Value := #[.int .i64 1, .slice (some ⟨l.cb, 0, none⟩) 1 l.cc, .bool false, .bool false, .string ⟨#[]⟩, .string ⟨#[]⟩, .int .i64 0, .bool false, .string ⟨#[]⟩, .slice none 0 0, .string ⟨#[]⟩, .int .i64 k.of, .int .i64 k.seq, .int .i64 0, l.av, .int .i64 k.ph, l.hv]
def wkR (key : ByteArray) (l : Wl) : Option (PM.Wk Cd An) → Res
  | none => emp
  | some k => many [cAt l.b (wkC l k) 143, rowAt (.slice (some ⟨l.cb, 0, none⟩) 1 l.cc) 56 16 1 (cdM key k.cmd).vs.toList,
      rowAt l.av 52 13 (if k.ph = 2 then 1 else 0) (if k.ph = 2 then anC key k.ans else []), rowAt l.hv 3 1 (if k.ph = 0 then 0 else 1) (if k.ph = 0 then [] else [.int .i64 0])]
def stsR (sx : Nat) (f : Nat → Int) : Res := cAt sx (lst 18 (fun k => Value.int .u64 (f k))).toArray 156
structure Pl where
  (b mv sx clb clc wlb wlc slb slc : Nat)
  el : Value
  sn : Nat → Int
  (cb nb : Nat → Nat)
  wp : Nat → Wl
  m : SM
section
variable (key : ByteArray) (h : Int) (bk nw ns nc : Nat) (p : Pl) (s : Mac)
def svC : Array Value := #[.pointer (some ⟨p.m.s, 0, none⟩), .pointer (some ⟨p.mv, 0, none⟩), .pointer (some ⟨p.sx, 0, none⟩), .int .i64 1, .slice (some ⟨p.clb, 0, none⟩) nc p.clc, .slice (some ⟨p.wlb, 0, none⟩) nw p.wlc, .slice (some ⟨p.slb, 0, none⟩) ns p.slc, p.el]
def wkV (w : Nat) : Value := match s.wk w with
  | none => .pointer none
  | some _ => .pointer (some ⟨(p.wp w).b, 0, none⟩)
def hold : Option Nat → Int
  | none => -1
  | some w => w
def stV (j : Nat) : Value := .int .i64 (if j = 0 then hold s.holder else -1)
def clR (c : Nat) : Res := (cAt (p.cb c) #[.pointer (some ⟨p.nb c, 0, none⟩), .int .i64 (s.seq c), .bool (s.busy c)] 86).and (cnR (p.nb c) (txS key (s.q c)) (rpS key (s.out c)))
def svL : List Res := [
  cAt p.b (svC nw ns nc p) 81,
  rowAt (.slice (some ⟨p.clb, 0, none⟩) nc p.clc) 82 1 nc (lst nc (fun c => .pointer (some ⟨p.cb c, 0, none⟩))),
  rowAt (.slice (some ⟨p.wlb, 0, none⟩) nw p.wlc) 140 1 nw (lst nw (wkV p s)),
  rowAt (.slice (some ⟨p.slb, 0, none⟩) ns p.slc) 3 1 ns (lst ns (stV s)),
  rowAt p.el 136 35 s.ev.length (s.ev.flatMap (evC key)),
  stoR key h bk p.m s.data,
  stsR p.sx p.sn,
  fam nc (clR key p s),
  fam nw (fun w => wkR key (p.wp w) (s.wk w))]
def svR : Res := many (svL key h bk nw ns nc p s)
end
end Go.Proofs.YtboehbfagnocpaaGreatDoor
namespace Go.Proofs.YtboehbfagnocpaaGreatDoor
open Go.RowKit Go.PlainAid Go.Shelf
open SP
open PM (Cd An Sd Vl upd upd_same upd_ne)
section
variable {key : ByteArray} {h : Int} {bk nw ns nc : Nat} {p : Pl} {s s' : Mac} {w w' : World} {c : Nat}
theorem client_ok (hR : (svR key h bk nw ns nc p s).R w) (hc : c < nc) :
    Calls prog 40 #[.pointer (some ⟨p.b, 0, none⟩), .int .i64 c] w fun e w' => e = .returned (.pointer (some ⟨p.cb c, 0, none⟩)) ∧ w = w' := by
  have H := Hav.open hR
  have a4 : w.cell? ⟨p.b, 4, none⟩ = some (.slice (some ⟨p.clb, 0, none⟩) nc p.clc) := cA (H.get 0 rfl) 4
  have r0 : w.cell? ⟨p.clb, c, none⟩ = some (.pointer (some ⟨p.cb c, 0, none⟩)) := by rw [row_at (H.get 1 rfl) c (by rw [lst_len]; exact hc), lst_get hc]
  have h1 : ¬ (nc : Int) ≤ c := by omega
  have h2 : (c : Int) < nc := by omega
  clear H hR
  go_enter func40, ntmps40
  go_wp2
  go_ret
  exact ⟨rfl, rfl⟩
theorem sv_conn (hR : (svR key h bk nw ns nc p s).R w) (hc : c < nc) (h1 : ∀ d, d ≠ c → s'.q d = s.q d ∧ s'.out d = s.out d)
    (h2 : s'.busy = s.busy ∧ s'.seq = s.seq ∧ s'.wk = s.wk ∧ s'.holder = s.holder ∧ s'.data = s.data ∧ s'.ev = s.ev)
    (t : Turn (cnR (p.nb c) (txS key (s.q c)) (rpS key (s.out c))) (cnR (p.nb c) (txS key (s'.q c)) (rpS key (s'.out c))) w w') : Turn (svR key h bk nw ns nc p s) (svR key h bk nw ns nc p s') w w' := by
  have H := Hav.open hR
  have g7 : (fam nc (clR key p s)).R w := H.get 7 rfl
  have t1 := fam_turn g7 hc (t.right (fam_get g7 hc))
  obtain ⟨q, busy, seq, out, wk, holder, data, ev⟩ := s
  obtain ⟨q', busy', seq', out', wk', holder', data', ev'⟩ := s'
  obtain ⟨e1, e2, e3, e4, e5, e6⟩ := h2
  dsimp only at e1 e2 e3 e4 e5 e6 h1 t t1
  subst e1 e2 e3 e4 e5 e6
  have e : ∀ r, r = (cAt (p.cb c) #[.pointer (some ⟨p.nb c, 0, none⟩), .int .i64 (seq' c), .bool (busy' c)] 86).and (cnR (p.nb c) (txS key (q' c)) (rpS key (out' c))) → upd (clR key p ⟨q, busy', seq', out, wk', holder', data', ev'⟩) c r = clR key p ⟨q', busy', seq', out', wk', holder', data', ev'⟩ := fun r hr => by
    funext d
    by_cases e : d = c
    · subst e; rw [upd_same, hr]; rfl
    · rw [upd_ne _ _ e]
      unfold clR
      dsimp only
      rw [(h1 d e).1, (h1 d e).2]
  rw [e _ rfl] at t1
  exact (H.turn 7 rfl t1).shut
theorem sfeed_ok {x : Cd} {b : ByteArray} (hR : (svR key h bk nw ns nc p s).R w) (hc : c < nc) (hx : txC key x = b) (hs : (txS key (s.q c)).size + b.size ≤ 70000) :
    Calls prog 12 #[.pointer (some ⟨p.b, 0, none⟩), .int .i64 c, .string b] w fun e w' => e = .returned (.int .i64 b.size) ∧ Turn (svR key h bk nw ns nc p s) (svR key h bk nw ns nc p (PM.fd s c x)) w w' := by
  have H := Hav.open hR
  have HC := hid (client_ok hR hc)
  have g7 : (fam nc (clR key p s)).R w := H.get 7 rfl
  have k0 : w.cell? ⟨p.cb c, 0, none⟩ = some (.pointer (some ⟨p.nb c, 0, none⟩)) := cA (fam_get g7 hc).1 0
  have HF := hid (feed_ok (fam_get g7 hc).2.1 hs)
  have HT := hid (fun w' t => sv_conn (s' := PM.fd s c x) (w' := w') hR hc (fun d e => ⟨upd_ne _ _ e, rfl⟩) ⟨rfl, rfl, rfl, rfl, rfl, rfl⟩ t)
  have e1 : txS key ((PM.fd s c x).q c) = txS key (s.q c) ++ b := by
    show txS key (upd s.q c _ c) = _
    rw [upd_same, txS_append, ← hx]
    simp only [txS, ba_nil]
  rw [e1] at HT
  clear H hR g7 e1
  go_enter func12, ntmps12
  go_wp2_with (first
    | (go_at_call 40; refine HC.out.mono ?_; rintro e w1 ⟨rfl, rfl⟩)
    | (go_at_call 41; refine HF.out.mono ?_; rintro e w1 ⟨rfl, ht⟩))
  go_ret
  exact ⟨rfl, HT.out _ ht⟩
theorem swrite_ok {n : Int} (hR : (svR key h bk nw ns nc p s).R w) (hc : c < nc) (hn : ((rpS key (s.out c)).size : Int) ≤ n) :
    Calls prog 29 #[.pointer (some ⟨p.b, 0, none⟩), .int .i64 c, .int .i64 n] w fun e w' => e = .returned (.string (rpS key (s.out c))) ∧ Turn (svR key h bk nw ns nc p s) (svR key h bk nw ns nc p (PM.wr s c)) w w' := by
  have H := Hav.open hR
  have HC := hid (client_ok hR hc)
  have g7 : (fam nc (clR key p s)).R w := H.get 7 rfl
  have k0 : w.cell? ⟨p.cb c, 0, none⟩ = some (.pointer (some ⟨p.nb c, 0, none⟩)) := cA (fam_get g7 hc).1 0
  have HF := hid (write_ok (fam_get g7 hc).2.1 hn)
  have HT := hid (fun w' t => sv_conn (s' := PM.wr s c) (w' := w') hR hc (fun d e => ⟨rfl, upd_ne _ _ e⟩) ⟨rfl, rfl, rfl, rfl, rfl, rfl⟩ t)
  have e1 : rpS key ((PM.wr s c).out c) = ⟨#[]⟩ := by
    show rpS key (upd s.out c [] c) = _
    rw [upd_same]; rfl
  rw [e1] at HT
  clear H hR g7 e1 hn
  go_enter func29, ntmps29
  go_wp2_with (first
    | (go_at_call 40; refine HC.out.mono ?_; rintro e w1 ⟨rfl, rfl⟩)
    | (go_at_call 78; refine HF.out.mono ?_; rintro e w1 ⟨rfl, ht⟩))
  go_ret
  exact ⟨rfl, HT.out _ ht⟩
end
end Go.Proofs.YtboehbfagnocpaaGreatDoor
namespace Go.Proofs.YtboehbfagnocpaaGreatDoor
open Go.RowKit Go.PlainAid Go.Shelf
def ansF (st : Int) (ak : ByteArray) (afl : Int) (av : ByteArray) (aca ala num : Int) : Array Value := #[.int .i64 st, .string ak, .int .u32 afl, .string av, .int .i64 0, .int .u64 aca, .int .i64 ala, .bool false, .bool false, .int .u64 num, .bool false, .bool false, .bool false]
def stTx (st : Int) : ByteArray := if st = 2 then ⟨#[83, 84, 79, 82, 69, 68]⟩ else if st = 4 then ⟨#[69, 88, 73, 83, 84, 83]⟩ else ⟨#[78, 79, 84, 95, 70, 79, 85, 78, 68]⟩
theorem status_ok {st : Int} (hs : st = 2 ∨ st = 4 ∨ st = 5) (ak : ByteArray) (afl : Int) (av : ByteArray) (aca ala num : Int) (w : World) :
    Calls prog 260 #[.agg (ansF st ak afl av aca ala num)] w fun e w' => e = .returned (.string (stTx st)) ∧ Below w.heap.size w w' := by
  unfold ansF
  rcases hs with rfl | rfl | rfl
  · go_enter func260, ntmps260
    go_wp2
    go_ret
    exact ⟨rfl, bA _ _⟩
  · go_enter func260, ntmps260
    go_wp2
    go_ret
    exact ⟨rfl, bA _ _⟩
  · go_enter func260, ntmps260
    go_wp2
    go_ret
    exact ⟨rfl, bA _ _⟩
theorem reply_store {st : Int} (hs : st = 2 ∨ st = 4 ∨ st = 5) {ak av : ByteArray} {afl aca ala num : Int} {cb cc ab ac : Nat} {w : World} (hc : w.cell? ⟨cb, 0, none⟩ = some (.int .i64 2))
    (ha : (rowAt (.slice (some ⟨ab, 0, none⟩) 1 ac) 52 13 1 (ansF st ak afl av aca ala num).toList).R w) :
    Calls prog 205 #[reqV 1 (.slice (some ⟨cb, 0, none⟩) 1 cc) false false, .slice (some ⟨ab, 0, none⟩) 1 ac] w fun e w' => e = .returned (.string (stTx st ++ ⟨#[13, 10]⟩)) ∧ Below w.heap.size w w' := by
  have hcl := cell_lt hc
  have J := (Hav.start ha).cells #[.int .i64 1, .slice (some ⟨cb, 0, none⟩) 1 cc, .bool false, .bool false, .string ⟨#[]⟩, .string ⟨#[]⟩, .int .i64 0, .bool false, .string ⟨#[]⟩, .slice none 0 0, .string ⟨#[]⟩] 33
  have hb := bA w (.cells #[.int .i64 1, .slice (some ⟨cb, 0, none⟩) 1 cc, .bool false, .bool false, .string ⟨#[]⟩, .string ⟨#[]⟩, .int .i64 0, .bool false, .string ⟨#[]⟩, .slice none 0 0, .string ⟨#[]⟩] 33)
  have c0 := (hb.cell (p := ⟨cb, 0, none⟩) hcl).trans hc
  obtain ⟨N, hN⟩ : ∃ N, w.heap.size = N := ⟨_, rfl⟩
  obtain ⟨W, hW⟩ : ∃ W, w.alloc (.cells #[.int .i64 1, .slice (some ⟨cb, 0, none⟩) 1 cc, .bool false, .bool false, .string ⟨#[]⟩, .string ⟨#[]⟩, .int .i64 0, .bool false, .string ⟨#[]⟩, .slice none 0 0, .string ⟨#[]⟩] 33) = W := ⟨_, rfl⟩
  rw [hN, hW] at J
  rw [hW] at c0 hb
  have HS := hid (fun w' => status_ok hs ak afl av aca ala num w')
  have hz : (stTx st).size + (⟨#[13, 10]⟩ : ByteArray).size ≤ 100 := by rcases hs with rfl | rfl | rfl <;> decide
  have HW := hid hW
  have HB := hid hb
  obtain ⟨r0, r1, r2, r3, r4, r5, r6, r7, r8, r9, r10⟩ : ca11 W N (.int .i64 1) (.slice (some ⟨cb, 0, none⟩) 1 cc) (.bool false) (.bool false) (.string ⟨#[]⟩) (.string ⟨#[]⟩) (.int .i64 0) (.bool false) (.string ⟨#[]⟩) (.slice none 0 0) (.string ⟨#[]⟩) := ca11' (J.get 0 rfl)
  obtain ⟨a0, a1, a2, a3, a4, a5, a6, a7, a8, a9, a10, a11, a12⟩ : ra13 W ab (.int .i64 st) (.string ak) (.int .u32 afl) (.string av) (.int .i64 0) (.int .u64 aca) (.int .i64 ala) (.bool false) (.bool false) (.int .u64 num) (.bool false) (.bool false) (.bool false) := ra13' (J.get 1 rfl)
  unfold ansF at HS
  clear J hc ha hcl hW hb
  unfold reqV
  go_enter func205, ntmps205
  go_upto_region 1 with fail
  rw [HW.out]
  clear HW hN
  go_wp2_with (go_at_call 260; refine (HS.out _).mono ?_; rintro e w1 ⟨rfl, hb1⟩)
  go_ret
  exact ⟨rfl, HB.out.trans (hb1.mono HB.out.size)⟩
end Go.Proofs.YtboehbfagnocpaaGreatDoor
