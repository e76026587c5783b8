/- Tcd. -/
import Derived.Test.YtboehbfagnocpaaGreatDoorUbv
import Derived.Test.YtboehbfagnocpaaGreatDoorUbx
set_option linter.unusedVariables false
set_option linter.unusedSimpArgs false
set_option maxRecDepth 100000
open Go.Proofs.Tryz
open Go.Lib (hid)
namespace Go.Proofs.YtboehbfagnocpaaGreatDoor
open Go.RowKit Go.PlainAid Go.Shelf
open SP
open PM (Cd An Sd Vl)
theorem do_all {key : ByteArray} {h : Int} {bk nw ns nc : Nat} (hk : KeyI key h bk) : DoAll key h bk nw ns nc := fun p s w wi k hR hw hkk hp ho hnn htok hi hx hd hni hev =>
  sdoit_ok hk hR hw hkk hp ho hnn htok hi hx hd hni hev
theorem new_okn {key : ByteArray} {h : Int} {bk : Nat} : NewOk key h bk 0 4 4 5 := fun w => new_44 false rfl w
theorem new_ok1 {key : ByteArray} {h : Int} {bk : Nat} : NewOk key h bk 0 1 1 9 := fun w => new_11 false rfl w
theorem ev_ok {key : ByteArray} {h : Int} {bk : Nat} : EvOk key h bk := fun p s w he hR => events_ok he hR
theorem topcounts_walk {w : World} {a : Option Addr} {n cap d : Nat} {nn : Int} {l : List Int} (hp : RI w (.slice a n cap) l) (hl : l.length = n) (hd : d < 18446744073709551616) (hT : Tab w) :
    Calls prog 6 #[.int .i64 nn, .slice a n cap, .int .u64 d] w fun e w' => e = .returned (.bool true) ∧ Below w.heap.size w w' :=
  counts_walk key_n (.inl rfl) (do_all key_n) (fun w => works_ok key_k (do_all key_k) new_ok1 ev_ok check_ok w) (fun w => town_ok (.inl rfl) new_okn w) hp hl hd hT
end Go.Proofs.YtboehbfagnocpaaGreatDoor
