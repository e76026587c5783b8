import Derived.Test.YtboehbfagnocpaaGreatDoorKaa
import Derived.Test.YtboehbfagnocpaaGreatDoorKab
import Derived.Test.YtboehbfagnocpaaGreatDoorKac
import Derived.Shelf.Strings.SlTrimAscii
import Derived.Lib.SmallJoins
set_option linter.unusedVariables false
set_option linter.unusedSimpArgs false
set_option maxRecDepth 100000
set_option maxHeartbeats 40000000
open Go.Proofs.Tryz
open Go.Lib (hid)
namespace Go.Proofs.YtboehbfagnocpaaGreatDoor
open Go.RowKit Go.PlainAid
def Hy(key:ByteArray)(h:Int):Prop:=∀w,Calls prog 17 #[.string key] w λe w'=>e=.returned (.int .u64 h)/\w=w'
theorem Vu:IntKind.u64.wrap (bits .xor .u64 14695981039346656037 107*1099511628211)=12638198195671924106:=by decide+kernel
theorem Rp:Hy ⟨#[107]⟩ 12638198195671924106:=by
 intro w;have f:=Vu;go_enter func17,ntmps17;go_wp2
 go_loop [3,7] (λh i=>(h=.int .u64 14695981039346656037/\i=.int .i64 0)\/(h=.int .u64 12638198195671924106/\i=.int .i64 1)) (λ_ i=>1-(intOf i).toNat)
 case atStart=>exact .inl ⟨rfl,rfl⟩
 case round=>
  rcases hrel with ⟨rfl,rfl⟩|⟨rfl,rfl⟩
  ·go_wp2
   go_round
   case rel=>exact .inr ⟨by first|rfl|(go_num;done)|(rw[f])|skip,rfl⟩
   case measure=>simp[intOf]
  ·go_wp2
   go_ret;exact⟨rfl,rfl⟩
theorem Rq(w:World):Calls prog 112 #[.int .u64 12638198195671924106,.int .i64 2] w λe w'=>e=.returned (.int .i64 2)/\w=w':=by
 have f1:bits .and .u64 12638198195671924106 3=2:=by decide+kernel
 go_enter func112,ntmps112;go_wp2
 go_ret;exact⟨rfl,rfl⟩
theorem Vv(w:World):Calls prog 210 #[.int .u64 12638198195671924106,.int .i64 4] w λe w'=>e=.returned (.int .i64 0)/\w=w':=by
 go_enter func210,ntmps210;go_wp2
 go_ret;exact⟨rfl,rfl⟩
theorem Vw(w:World):Calls prog 210 #[.int .u64 12638198195671924106,.int .i64 1] w λe w'=>e=.returned (.int .i64 0)/\w=w':=by
 go_enter func210,ntmps210;go_wp2
 go_ret;exact⟨rfl,rfl⟩
structure gu(key:ByteArray)(h:Int)(b:Nat):Prop where
 hash:Hy key h
 Zp:∀w,Calls prog 112 #[.int .u64 h,.int .i64 2] w λe w'=>e=.returned (.int .i64 b)/\w=w'
 st4:∀w,Calls prog 210 #[.int .u64 h,.int .i64 4] w λe w'=>e=.returned (.int .i64 0)/\w=w'
 st1:∀w,Calls prog 210 #[.int .u64 h,.int .i64 1] w λe w'=>e=.returned (.int .i64 0)/\w=w'
 bl:b<4
 size:key.size=1
 aO:I8.aO key=true
theorem Cn:gu ⟨#[107]⟩ 12638198195671924106 2:=⟨Rp,Rq,Vv,Vw,by decide,by decide,by decide+kernel⟩
def rG(tb rb n:Nat):aT:=aG tb #[.int .i64 2,.slice none 0 0,.slice (some ⟨rb,0,none⟩) 4 4,.int .i64 0,.int .i64 n] 188
def pM(rb b:Nat)(x:Value):aT:=aG rb ((#[.pointer none,.pointer none,.pointer none,.pointer none]:Array Value).setIfInBounds b x) 211
def H7(eb:Nat)(key:ByteArray)(h n:Int):aT:=aG eb #[.string key,.int .u64 h,.int .i64 n,.pointer none] 213
def jH(tb rb b:Nat):aT:=(rG tb rb 0).and (pM rb b (.pointer none))
def DY(tb rb b eb:Nat)(key:ByteArray)(h n:Int):aT:=(rG tb rb 1).and ((pM rb b (.pointer (some ⟨eb,0,none⟩))).and (H7 eb key h n))
theorem lG{key:ByteArray}{h:Int}{b:Nat}(hk:gu key h b){w:World}{tb rb n:Nat}(ht:(rG tb rb n).R w):
 Calls prog 230 #[.pointer (some ⟨tb,0,none⟩),.int .u64 h] w λe w'=>e=.returned (.pointer (some ⟨rb,b,none⟩))/\∃m,w'=w.drewN m:=by
 have c0:w.cell? ⟨tb,0,none⟩=some (.int .i64 2):=cA ht 0;have c1:w.cell? ⟨tb,1,none⟩=some (.slice none 0 0):=cA ht 1;have c2:w.cell? ⟨tb,2,none⟩=some (.slice (some ⟨rb,0,none⟩) 4 4):=cA ht 2;have HB:Hid (∀m,Calls prog 112 #[.int .u64 h,.int .i64 2] (w.drewN m) λe w'=>e=.returned (.int .i64 b)/\w'=w.drewN m):=hid (λm=>(hk.Zp (w.drewN m)).mono (λ_ _ h=>⟨h.1,h.2.symm⟩));have hb:(b:Int)<4:=by have:=hk.bl;omega
 clear hk ht;have qT:∀(w:World) (a:Option Addr) (n c n' c':Nat),(binOp .neq 186 (.slice a n c) (.slice none n' c')).run prog w=.ok (.bool (!a.isNone)) w:=λw a n c n' c'=>run_neq_slice_nil_any w _ _ a n c n' c' underlying186
 go_enter func230,ntmps230;go_wp2_with (fail)
 go_quiet ((go_at_call 112;exact Calls.quiet_of_same (HB.out _)))
 go_wp2
 go_ret;exact⟨rfl,_,rfl⟩
theorem uj{rb b:Nat}{x:Value}{w:World}(h:(pM rb b x).R w)(hb:b<4):w.cell? ⟨rb,b,none⟩=some x:=by
 have:=cA h b;rw[this,Array.getElem?_setIfInBounds];simp[hb]
theorem H8{key:ByteArray}{h:Int}{b:Nat}(hk:gu key h b){w:World}{tb rb n:Nat}(ht:(rG tb rb n).R w)(hb:(pM rb b (.pointer none)).R w):
 Calls prog 179 #[.pointer (some ⟨tb,0,none⟩),.string key] w λe w'=>e=.returned (.pointer (some ⟨rb,b,none⟩))/\∃m,w'=w.drewN m:=by
 have HH:=hid hk.hash;have HB:=hid (lG hk ht);have k0:=uj hb hk.bl;clear hk ht hb;go_enter func179,ntmps179
 go_wp2_with (first
  |(go_at_call 17;refine(HH.out _).mono ?_;rintro e w' ⟨rfl,rfl⟩)
  |(go_at_call 230;refine HB.out.mono ?_;rintro e w' ⟨rfl,m,rfl⟩))
 have k1:(w.drewN m).cell? ⟨rb,b,none⟩=some (.pointer none):=k0;go_loop [5] (λp=>p=.pointer (some ⟨rb,b,none⟩)) (λ_=>0)
 case atStart=>rfl
 case round=>
  obtain rfl:=hrel;go_wp2
  go_ret;exact⟨rfl,_,rfl⟩
theorem Rt{key:ByteArray}{h:Int}{b:Nat}(hk:gu key h b){w:World}{tb rb n eb:Nat}{m0:Int}(ht:(rG tb rb n).R w)(hb:(pM rb b (.pointer (some ⟨eb,0,none⟩))).R w)(he:(H7 eb key h m0).R w):
 Calls prog 179 #[.pointer (some ⟨tb,0,none⟩),.string key] w λe w'=>e=.returned (.pointer (some ⟨rb,b,none⟩))/\∃m,w'=w.drewN m:=by
 have HH:=hid hk.hash;have HB:=hid (lG hk ht);have k0:=uj hb hk.bl;have e0:w.cell? ⟨eb,0,none⟩=some (.string key):=cA he 0;have hs:(key.toList == key.toList)=true:=by simp
 clear hk ht hb he;go_enter func179,ntmps179
 go_wp2_with (first
  |(go_at_call 17;refine(HH.out _).mono ?_;rintro e w' ⟨rfl,rfl⟩)
  |(go_at_call 230;refine HB.out.mono ?_;rintro e w' ⟨rfl,m,rfl⟩))
 have k1:(w.drewN m).cell? ⟨rb,b,none⟩=some (.pointer (some ⟨eb,0,none⟩)):=k0;have e1:(w.drewN m).cell? ⟨eb,0,none⟩=some (.string key):=e0;go_loop [5] (λp=>p=.pointer (some ⟨rb,b,none⟩)) (λ_=>0)
 case atStart=>rfl
 case round=>
  obtain rfl:=hrel;go_wp2
  go_ret;exact⟨rfl,_,rfl⟩
theorem Qb{key:ByteArray}{h:Int}{b:Nat}(hk:gu key h b){w:World}{tb rb:Nat}(ht:(jH tb rb b).R w):
 Calls prog 115 #[.pointer (some ⟨tb,0,none⟩),.string key] w λe w'=>e=.returned (.tuple #[.int .i64 0,.bool false])/\∃m,w'=w.drewN m:=by
 have HB:=hid (H8 hk ht.1 ht.2.1);have k0:=uj ht.2.1 hk.bl;clear hk ht;go_enter func115,ntmps115;go_wp2_with (fail)
 refine HB.out.mono ?_;rintro e w' ⟨rfl,m,rfl⟩;have k1:(w.drewN m).cell? ⟨rb,b,none⟩=some (.pointer none):=k0;go_wp2
 go_ret2;exact⟨rfl,_,rfl⟩
theorem Vx{key:ByteArray}{h:Int}{b:Nat}(hk:gu key h b){w:World}{tb rb eb:Nat}{n:Int}(ht:(DY tb rb b eb key h n).R w):
 Calls prog 115 #[.pointer (some ⟨tb,0,none⟩),.string key] w λe w'=>e=.returned (.tuple #[.int .i64 n,.bool true])/\∃m,w'=w.drewN m:=by
 have HB:=hid (Rt hk ht.1 ht.2.1.1 ht.2.1.2.1);have k0:=uj ht.2.1.1 hk.bl;have e0:w.cell? ⟨eb,2,none⟩=some (.int .i64 n):=cA ht.2.1.2.1 2;clear hk ht;go_enter func115,ntmps115;go_wp2_with (fail)
 refine HB.out.mono ?_;rintro e w' ⟨rfl,m,rfl⟩;have k1:(w.drewN m).cell? ⟨rb,b,none⟩=some (.pointer (some ⟨eb,0,none⟩)):=k0;have e1:(w.drewN m).cell? ⟨eb,2,none⟩=some (.int .i64 n):=e0;go_wp2
 go_ret2;exact⟨rfl,_,rfl⟩
theorem yw{w:World}{tb rb n:Nat}(ht:(rG tb rb n).R w):
 Calls prog 53 #[.pointer (some ⟨tb,0,none⟩)] w λe w'=>e=.returned (.bool false)/\w=w':=by
 have c1:w.cell? ⟨tb,1,none⟩=some (.slice none 0 0):=cA ht 1;have qT:∀(w:World) (a:Option Addr) (n c n' c':Nat),(binOp .eql 186 (.slice a n c) (.slice none n' c')).run prog w=.ok (.bool (a.isNone)) w:=λw a n c n' c'=>Lib.run_eql_slice_nil w _ _ a n c n' c' underlying186
 clear ht;go_enter func53,ntmps53;go_wp2
 go_ret;exact⟨rfl,rfl⟩
theorem H9{rb b:Nat}{x:Value}{w:World}(h:(pM rb b x).R w)(y:Value):ag (pM rb b x) (pM rb b y) w (w.setCell ⟨rb,b,none⟩ y):=by
 have h1:=ai h b y;have e:((#[.pointer none,.pointer none,.pointer none,.pointer none]:Array Value).setIfInBounds b x).setIfInBounds b y=(#[.pointer none,.pointer none,.pointer none,.pointer none]:Array Value).setIfInBounds b y:=by
  apply Array.ext_getElem?;intro i;simp only[Array.getElem?_setIfInBounds,Array.size_setIfInBounds];split<;>rfl
 rw[e] at h1;exact h1
theorem H_{w:World}{tb rb b:Nat}{key:ByteArray}{h n:Int}(ht:(jH tb rb b).R w)(m a:Nat):
 ag (jH tb rb b) (DY tb rb b w.heap.size key h n) w
  (((((w.drewN m).alloc (.cells #[.string key,.int .u64 h,.int .i64 n,.pointer none] 213)).setCell ⟨rb,b,none⟩ (.pointer (some ⟨w.heap.size,0,none⟩))).setCell ⟨tb,4,none⟩ (.int .i64 1)).drewN a):=by
 obtain⟨W1,hW1⟩:∃W1,W1=(w.drewN m).alloc (.cells #[.string key,.int .u64 h,.int .i64 n,.pointer none] 213):=⟨_,rfl⟩;have hb1:Below w.heap.size w W1:=by rw[hW1];exact(below_drewN' w m).alloc (Nat.le_refl _) _
 have he:(H7 w.heap.size key h n).R W1:=by rw[hW1];exact heap_alloc_new (w.drewN m) _
 have hl1:tb<w.heap.size:=(rG tb rb 0).lt ht.1 rfl;have hl2:rb<w.heap.size:=(pM rb b (.pointer none)).lt ht.2.1 rfl;have hne:tb≠rb:=λe=>ht.2.2 tb rfl e
 have h1:=(jH tb rb b).keep ht (aP.of_below (λ_=>False) hb1) (λ_ _ x=>x);rw[<-hW1];have t2:=(H9 h1.2.1 (.pointer (some ⟨w.heap.size,0,none⟩)));have hT2:=(rG tb rb 0).keep h1.1 t2.bL (λx hx hy=>hne (hx.symm.trans hy));have hE2:=(H7 w.heap.size key h n).keep he t2.bL (λx hx hy=>by have e1:x=w.heap.size:=hx;have e2:x=rb:=hy;omega);have t3:=ai hT2 4 (.int .i64 1);have hB3:=(pM rb b (.pointer (some ⟨w.heap.size,0,none⟩))).keep t2.here t3.bL (λx hx hy=>hne (by have e1:x=rb:=hx;have e2:x=tb:=hy;omega));have hE3:=(H7 w.heap.size key h n).keep hE2 t3.bL (λx hx hy=>by have e1:x=w.heap.size:=hx;have e2:x=tb:=hy;omega);have ht1:aP (jH tb rb b).B w W1:=aP.of_below _ hb1
 have all:aP (jH tb rb b).B w ((W1.setCell ⟨rb,b,none⟩ (.pointer (some ⟨w.heap.size,0,none⟩))).setCell ⟨tb,4,none⟩ (.int .i64 1)):=
  (ht1.trans t2.bL (λx hx=> .inl (.inr hx))).trans t3.bL (λx hx=> .inl (.inl hx))
 have hfin:(DY tb rb b w.heap.size key h n).R ((W1.setCell ⟨rb,b,none⟩ (.pointer (some ⟨w.heap.size,0,none⟩))).setCell ⟨tb,4,none⟩ (.int .i64 1)):=by
  refine⟨t3.here,⟨hB3,hE3,λx hx hy=>?_⟩,λx hx hy=>?_⟩
  ·have e1:x=rb:=hx;have e2:x=w.heap.size:=hy;omega
  ·have e1:x=tb:=hx;rcases hy with e2|e2
   ·have e2:x=rb:=e2;omega
   ·have e2:x=w.heap.size:=e2;omega
 refine ag.drewN ⟨hfin,all,λx hx=>?_⟩ a
 ·rcases hx with e|e|e
  ·exact .inl (.inl e)
  ·exact .inl (.inr e)
  ·have e:x=w.heap.size:=e;exact .inr (by omega)
theorem Vy{key:ByteArray}{h:Int}{b:Nat}(hk:gu key h b){w:World}{tb rb:Nat}(ht:(jH tb rb b).R w)(n:Int):
 Calls prog 195 #[.pointer (some ⟨tb,0,none⟩),.string key,.int .i64 n] w λe w'=>e=.returned (.tuple #[])/\∃eb,ag (jH tb rb b) (DY tb rb b eb key h n) w w':=by
 have HF:=hid (H8 hk ht.1 ht.2.1);have HH:=hid hk.hash;have HB:=hid (λm=>lG hk (w:=w.drewN m) ((rG tb rb 0).keep ht.1 ((aP.refl (λ_=>False) w).drewN m) (λ_ _ x=>x)));have HT:=hid (λm a=>H_ (key:=key) (h:=h) (n:=n) ht m a);have k0:=uj ht.2.1 hk.bl;have Hb:=hid hk.bl;have c1:w.cell? ⟨tb,1,none⟩=some (.slice none 0 0):=cA ht.1 1;have c2:w.cell? ⟨tb,2,none⟩=some (.slice (some ⟨rb,0,none⟩) 4 4):=cA ht.1 2;have c4:w.cell? ⟨tb,4,none⟩=some (.int .i64 0):=cA ht.1 4;have f1:=cZ ht.2.1 b;have f2:=cZ ht.1 4;have hl1:tb<w.heap.size:=(rG tb rb 0).lt ht.1 rfl;have hl2:rb<w.heap.size:=(pM rb b (.pointer none)).lt ht.2.1 rfl;have hne:¬tb=rb:=λe=>ht.2.2 tb rfl e
 have hne2:¬rb=tb:=λe=>ht.2.2 tb rfl e.symm
 have Zg:¬tb=w.heap.size:=by omega
 have adW:¬rb=w.heap.size:=by omega
 have qT:∀(w:World) (a:Option Addr) (n c n' c':Nat),(binOp .eql 186 (.slice a n c) (.slice none n' c')).run prog w=.ok (.bool (a.isNone)) w:=λw a n c n' c'=>Lib.run_eql_slice_nil w _ _ a n c n' c' underlying186
 have HFt:=hid ht;clear hk ht;go_enter func195,ntmps195;go_wp2_with (fail)
 refine HF.out.mono ?_;rintro e w' ⟨rfl,m,rfl⟩;have k1:(w.drewN m).cell? ⟨rb,b,none⟩=some (.pointer none):=k0;go_wp2_with (go_at_call 17;refine(HH.out _).mono ?_;rintro e w' ⟨rfl,rfl⟩)
 refine(HB.out m).mono ?_;rintro e w' ⟨rfl,a,e2⟩;have e3:w'=w.drewN (m+a):=e2.trans (by rw[World.drewN_drewN]);subst e3;clear e2 k1;obtain⟨W,hW⟩:∃W,w.drewN (m+a)=W:=⟨_,rfl⟩;rw[hW];obtain⟨W2,hW2⟩:∃W2,W.alloc (.cells #[.string key,.int .u64 h,.int .i64 n,.pointer none] 213)=W2:=⟨_,rfl⟩;have HT2:Hid (∀x,ag (jH tb rb b) (DY tb rb b w.heap.size key h n) w (((W2.setCell ⟨rb,b,none⟩ (.pointer (some ⟨w.heap.size,0,none⟩))).setCell ⟨tb,4,none⟩ (.int .i64 1)).drewN x)):=hid (λx=>by rw[<-hW2,<-hW];exact HT.out (m+a) x);have h2:(jH tb rb b).R W2:=(jH tb rb b).keep HFt.out (T:=λ_=>False) (aP.of_below _ (by rw[<-hW2,<-hW];exact(below_drewN' w (m+a)).alloc (Nat.le_refl _) _)) (λ_ _ x=>x);have hWs:W.heap.size=w.heap.size:=by rw[<-hW];rfl
 have k1:W.cell? ⟨rb,b,none⟩=some (.pointer none):=by rw[<-hW];exact k0
 have k2:=uj h2.2.1 Hb.out;have d1:W2.cell? ⟨tb,1,none⟩=some (.slice none 0 0):=cA h2.1 1;have d2:W2.cell? ⟨tb,2,none⟩=some (.slice (some ⟨rb,0,none⟩) 4 4):=cA h2.1 2;have d4:W2.cell? ⟨tb,4,none⟩=some (.int .i64 0):=cA h2.1 4;have g1:=cZ h2.2.1 b;have g2:=cZ h2.1 4;have g0:2*(1:Int)=2:=rfl;clear h2 HFt hW HT HB HF HH k0 c1 c2 c4 f1 f2;go_wp2_with (fail)
 go_quiet (fail)
 go_wp2
 go_end0;exact⟨rfl,_,HT2.out _⟩
theorem DZ(z:Value):madeCells #[z] 4= #[z,z,z,z]:=by
 have h:=toList_madeCells_one z 4;apply Array.ext';exact h
def Co(b:Nat)(w:World)(e:Ending)(w':World):Prop:=∃tb rb,e=.returned (.pointer (some ⟨tb,0,none⟩))/\(jH tb rb b).R w'/\Below w.heap.size w w'/\w.heap.size<=tb/\w.heap.size<=rb
theorem Tryz.Vz:(prog.info? 211).map (λi=>(i.zero,i.size,i.bytes))=some (some (.pointer none),1,8):=by kernel_rfl
theorem D5(b:Nat)(w:World):Calls prog 45 #[] w (Co b w):=by
 have hmk:∀w:World,(Instr.makeSlice 186 (.int .i64 4) (.int .i64 4)).run prog w=.ok (.slice (some ⟨w.heap.size,0,none⟩) 4 4) (w.alloc (.cells #[.pointer none,.pointer none,.pointer none,.pointer none] 211)):=
  λw=>by rw[<-DZ];exact run_make_row' (P:=prog) 186 211 (.pointer none) 8 underlying186 Tryz.Vz rfl .i64 .i64 4 (by decide) (by decide) w
 go_enter func45,ntmps45;go_wp2
 go_ret;have e1:(aG w.heap.size #[.pointer none,.pointer none,.pointer none,.pointer none] 211).R (w.alloc (.cells #[.pointer none,.pointer none,.pointer none,.pointer none] 211)):=aA w _ _;have e2:=(aG w.heap.size #[.pointer none,.pointer none,.pointer none,.pointer none] 211).keep e1 (aP.of_below (λ_=>False) (bA _ (.cells #[.int .i64 2,.slice none 0 0,.slice (some ⟨w.heap.size,0,none⟩) 4 4,.int .i64 0,.int .i64 0] 188))) (λ_ _ x=>x);have hb0:(#[.pointer none,.pointer none,.pointer none,.pointer none]:Array Value).setIfInBounds b (.pointer none)= #[.pointer none,.pointer none,.pointer none,.pointer none]:=by
  apply Array.ext_getElem?;intro i;rw[Array.getElem?_setIfInBounds];split
  ·rename_i h;subst h;split
   ·rename_i h;have h:b<4:=h;rcases(by omega:b=0\/b=1\/b=2\/b=3) with rfl|rfl|rfl|rfl<;>rfl
   ·rename_i h;have h:¬b<4:=h;exact(Array.getElem?_eq_none (by show 4<=b;omega)).symm
  ·rfl
 refine⟨w.heap.size+1,w.heap.size,rfl,⟨?_,?_,λx hx hy=>?_⟩,((Below.refl _ _).alloc (Nat.le_refl _) _).alloc (by simp) _,by omega,Nat.le_refl _⟩
 ·have:=aA (w.alloc (.cells #[.pointer none,.pointer none,.pointer none,.pointer none] 211)) #[.int .i64 2,.slice none 0 0,.slice (some ⟨w.heap.size,0,none⟩) 4 4,.int .i64 0,.int .i64 0] 188;unfold rG;simpa using this
 ·unfold pM;rw[hb0];exact e2
 ·have e1:x=w.heap.size+1:=hx;have e2:x=w.heap.size:=hy;omega
def k0:Lit:=.int .i64 0
theorem Ru(w:World):(zeroValue 3).run prog w=.ok (.int .i64 0) w:=by
 have h:(prog.info? 3).map (λi=>i.zero)=some (some (.int .i64 0)):=by kernel_rfl
 obtain⟨i,hi,hz⟩:=Option.map_eq_some_iff.1 h;simp[zeroValue,typeInfo,hi,hz]
def jU(mb N:Nat)(o:Option Int):aT where
 R w:=∃D:DataW Unit,w.ownsMap prog 3 (plainElem prog 3) mb N D/\Maps.has D k0=o.isSome/\∀v,o=some v->D.atKey k0 (.lit (.int .i64 0))=.lit (.int .i64 v)
 B x:=x=mb
 keep:=by
  rintro w w' T ⟨D,⟨es,clock,h1,h2⟩,hD⟩ ht hd;exact⟨D,⟨es,clock,(ht.block _ (Array.getElem?_eq_some_iff.1 h1).1 (hd _ rfl)).trans h1,h2⟩,hD⟩
 lt:=by
  rintro w b ⟨D,ho,_⟩ rfl;exact ho.lt
theorem wf0(v:Int)(h: -9223372036854775808<=v/\v<=9223372036854775807):(Lit.int .i64 v).wf=true:=by
 simp[Lit.wf,IntKind.min,IntKind.max,IntKind.signed,IntKind.bits];omega
theorem ja{w:World}{mb N:Nat}{o:Option Int}(h:(jU mb N o).R w):
 (Instr.lookup 264 (.map (some mb)) (.int .i64 0) true).run prog w=.ok (.tuple #[.int .i64 (o.getD 0),.bool o.isSome]) w:=by
 obtain⟨D,ho,hh,hv⟩:=h;obtain⟨v,ps,hrun,he⟩:=ho.look_ok zX underlying264 (Ru w) (plainElem_int underlying3 (by decide)) (Maps.keyOf_int_mk underlying3 (a:=0) (by decide));rw[hrun,show Maps.has D (.int .i64 0)=o.isSome from hh];obtain⟨a,rfl,hz,_⟩:=plainElem_int_inv underlying3 he;simp only[Prod.mk.injEq] at hz;cases o with
 |none=>
  rw[Maps.atKey_of_not_has (show Maps.has D (.int .i64 0)=false from hh)] at hz;simp only[DataW.lit.injEq,Lit.int.injEq,true_and] at hz;rw[<-hz.1];rfl
 |some x=>
  rw[show D.atKey (.int .i64 0) (.lit (.int .i64 0))=.lit (.int .i64 x) from hv x rfl] at hz;simp only[DataW.lit.injEq,Lit.int.injEq,true_and] at hz;rw[<-hz.1];rfl
theorem nM{w:World}{mb N:Nat}{o:Option Int}(h:(jU mb N o).R w)(v:Int)(hv: -9223372036854775808<=v/\v<=9223372036854775807)(hN:N<maxLen):
 ∃w',(Instr.mapUpdate 264 (.map (some mb)) (.int .i64 0) (.int .i64 v)).run prog w=.ok () w'/\ag (jU mb N o) (jU mb (N+1) (some v)) w w':=by
 obtain⟨D,ho,hh,_⟩:=h;obtain⟨w',hrun,ho',hg⟩:=ho.update zX underlying264 hN (Maps.keyOf_int_mk underlying3 (a:=0) (by decide)) (plainElem_int underlying3 (wf0 v hv));refine⟨w',hrun,⟨_,ho',?_,λx hx=>?_⟩,(aP.bC hg).mono (λb hb=>by injection hb with hb;exact hb.symm),λb hb=> .inl hb⟩
 ·exact Maps.has_put_same ho.isMap (by trivial) _
 ·cases hx;exact Maps.atKey_put_same ho.isMap (by trivial) _ _
theorem D6{w:World}{mb N:Nat}{o:Option Int}(h:(jU mb N o).R w)(ty:TypeId):
 ∃w',(Builtin.delete_ #[264,3] ty #[.map (some mb),.int .i64 0]).run prog w=.ok (.tuple #[]) w'/\ag (jU mb N o) (jU mb N none) w w':=by
 obtain⟨D,ho,hh,_⟩:=h;obtain⟨w',hrun,ho',hmt⟩:=ho.drop zX underlying264 (Maps.keyOf_int_mk underlying3 (a:=0) (by decide)) ty;refine⟨_,hrun,⟨_,ho',?_,λx hx=>by cases hx⟩,(aP.bC hmt.grown).mono (λb hb=>by injection hb with hb;exact hb.symm),λb hb=> .inl hb⟩;exact Maps.has_del_same
theorem D7(w:World):(jU w.heap.size 0 none).R (w.alloc (.map #[] 0)):=
 ⟨.map [],World.ownsMap_made w _ _ _,rfl,λv h=>by cases h⟩
structure Elem(T E size bytes:Nat):Prop where
 ht:prog.underlying T=some (.slice E)
 hi:∃z,(prog.info? E).map (λi=>(i.zero,i.size,i.bytes))=some (some z,size,bytes)/\z.cells.size=size
 pos:0<size
section
variable{T E size bytes:Nat}{W:World}{v:Value}{n:Nat}{xs:List Value}{vs:Array Value}
theorem yx{w':World}{g cap:Nat}(hr:(rowAt v E size n xs).R W)(ho:w'.ownsRow 0 E size (.slice (some ⟨g,0,none⟩) (n+1) cap) (n+1) (xs ++ vs.toList))(hg:(W.alloc (.cells vs E)).grownBy w' v.ownBlock)(hn:v.ownBlock=some g\/g=W.heap.size+1):
 ag (rowAt v E size n xs) (rowAt (.slice (some ⟨g,0,none⟩) (n+1) cap) E size (n+1) (xs ++ vs.toList)) W w':=by
 refine⟨ho,(aP.of_below _ (bA W (.cells vs E))).trans (aP.bC hg) (λi hi=> .inl hi),λb hb=>?_⟩;have hb:some g=some b:=hb;cases hb;rcases hn with h|h
 ·exact .inl h
 ·exact .inr (by omega)
theorem Cq(W:World)(vs:Array Value)(E:Nat):∀j u,vs.toList[j]?=some u->(W.alloc (.cells vs E)).cell? ((⟨W.heap.size,0,none⟩:Addr).add j)=some u:=
 World.news_of_block (heap_alloc_new W _)
theorem fT{ops:Array Oper}{rest:List Oper}{o:Oper}{a:Act}{Q:Exit->Act->World->Prop}(X:Elem T E size bytes)(hgd:o.guard=none)(s x:Operand)
 (ho:o.op=.call {callee:=.builtin .append,args:=#[s,x],argTypes:=#[T,T]}) (hs:a.eval s=v) (hr:(rowAt v E size n xs).R W)
 (hx:a.eval x=.slice (some ⟨W.heap.size,0,none⟩) 1 1) (hvs:vs.size=size) (h1:∀u∈vs.toList,u.oneCell'=true) (hn:n+1<=100000000) (hb:bytes<=100000)
 (h:∀g cap w',ag (rowAt v E size n xs) (rowAt (.slice (some ⟨g,0,none⟩) (n+1) cap) E size (n+1) (xs ++ vs.toList)) W w'->wpList prog ops Q rest (a.put o.dst (.slice (some ⟨g,0,none⟩) (n+1) cap)) w'):
 wpList prog ops Q (o :: rest) a (W.alloc (.cells vs E)):=by
 obtain⟨z,hi,hzs⟩:=X.hi;obtain⟨i0,hi0,hz0,hz1,hz2⟩:=info_parts hi;refine wpList_append_lies (W.alloc (.cells vs E)) hgd s x T ho 0 E i0 z size bytes X.ht hi0 hz0 hz1 hz2 hzs X.pos v n xs hs (World.ownsRow.alloc hr _) ⟨W.heap.size,0,none⟩ 1 1 vs.toList hx (by simpa using hvs) (Cq W vs E) h1 (by omega) (by unfold maxLen;omega) ?_ (Nat.zero_le _) (W.heap.size+1) (by simp) ?_
 ·have:(n+1)*bytes<=100000000*100000:=Nat.mul_le_mul hn hb;omega
 ·intro g cap w' ho' hg hnw hlt;exact h g cap w' (yx hr ho' hg hnw)
theorem jb{ops:Array Oper}{o:Oper}{a:Act}{K:Act->World->Prop}{Q:Exit->Act->World->Prop}{F:Prop}(X:Elem T E size bytes)(hgd:o.guard=none)(s x:Operand)
 (ho:o.op=.call {callee:=.builtin .append,args:=#[s,x],argTypes:=#[T,T]}) (hs:a.eval s=v) (hr:(rowAt v E size n xs).R W)
 (hx:a.eval x=.slice (some ⟨W.heap.size,0,none⟩) 1 1) (hvs:vs.size=size) (h1:∀u∈vs.toList,u.oneCell'=true) (hn:n+1<=100000000) (hb:bytes<=100000)
 (h:∀g cap w',ag (rowAt v E size n xs) (rowAt (.slice (some ⟨g,0,none⟩) (n+1) cap) E size (n+1) (xs ++ vs.toList)) W w'->K (a.put o.dst (.slice (some ⟨g,0,none⟩) (n+1) cap)) w'):
 if Region.wanted o (yielded ops a.tmps)=true then Oper.wp prog o a (W.alloc (.cells vs E)) K Q else F:=by
 obtain⟨z,hi,hzs⟩:=X.hi;obtain⟨i0,hi0,hz0,hz1,hz2⟩:=info_parts hi;refine step_append_lies (W.alloc (.cells vs E)) hgd s x T ho 0 E i0 z size bytes X.ht hi0 hz0 hz1 hz2 hzs X.pos v n xs hs (World.ownsRow.alloc hr _) ⟨W.heap.size,0,none⟩ 1 1 vs.toList hx (by simpa using hvs) (Cq W vs E) h1 (by omega) (by unfold maxLen;omega) ?_ (Nat.zero_le _) (W.heap.size+1) (by simp) ?_
 ·have:(n+1)*bytes<=100000000*100000:=Nat.mul_le_mul hn hb;omega
 ·intro g cap w' ho' hg hnw hlt;exact h g cap w' (yx hr ho' hg hnw)
end
theorem aB{g n cap E size:Nat}{xs:List Value}{w:World}(h:(rowAt (.slice (some ⟨g,0,none⟩) n cap) E size n xs).R w)(i:Nat)(hi:i<xs.length):w.cell? ⟨g,i,none⟩=xs[i]?:=by
 have h':w.ownsRow 0 E size (.slice (some ⟨g,0,none⟩) n cap) n xs:=h;exact h'.cellAt i (by rw[<-h'.1];exact hi)
theorem bn{g n cap E size:Nat}{xs:List Value}{w:World}(h:(rowAt (.slice (some ⟨g,0,none⟩) n cap) E size n xs).R w)(i:Nat):w.frozen? ⟨g,i,none⟩=false:=by
 have h':w.ownsRow 0 E size (.slice (some ⟨g,0,none⟩) n cap) n xs:=h;exact h'.frozenAt i
theorem aM{g n cap E size:Nat}{xs:List Value}{w:World}(h:(rowAt (.slice (some ⟨g,0,none⟩) n cap) E size n xs).R w)(i:Nat)(v:Value):
 ag (rowAt (.slice (some ⟨g,0,none⟩) n cap) E size n xs) (rowAt (.slice (some ⟨g,0,none⟩) n cap) E size n (xs.set i v)) w (w.setCell ⟨g,i,none⟩ v):=by
 have h':w.ownsRow 0 E size (.slice (some ⟨g,0,none⟩) n cap) n xs:=h;obtain⟨h1,h2⟩:=h'.stored i v;exact⟨h1,(aP.bC h2).mono (λb hb=>hb),λb hb=> .inl hb⟩
theorem nN:Elem 265 269 4 32:=⟨underlying265,⟨.agg #[.int .i64 0,.int .i64 0,.int .i64 0,.int .i64 0],by kernel_rfl,by kernel_rfl⟩,by decide⟩
theorem Ia:Elem 39 3 1 8:=⟨underlying39,⟨.int .i64 0,by kernel_rfl,by kernel_rfl⟩,by decide⟩
def ints(l:List Int):List Value:=l.map (.int .i64)
def rwA(rb lb lc nb mb K rn:Nat)(fv:Value):aT:=aG rb #[.slice (some ⟨lb,0,none⟩) K lc,fv,.map (some mb),.slice (some ⟨nb,0,none⟩) rn rn] 267
def rwL(lb lc K:Nat)(ls:List Int):aT:=rowAt (.slice (some ⟨lb,0,none⟩) K lc) 269 4 K (ints ls)
def XL(fv:Value)(fs:List Int):aT:=rowAt fv 3 1 fs.length (ints fs)
def rwN(nb rn:Nat)(ns:List Int):aT:=rowAt (.slice (some ⟨nb,0,none⟩) rn rn) 3 1 rn (ints ns)
def dB(rb lb lc nb mb K rn:Nat)(fv:Value)(ls fs ns:List Int)(N:Nat)(o:Option Int):aT:=
 five (rwA rb lb lc nb mb K rn fv) (rwL lb lc K ls) (XL fv fs) (rwN nb rn ns) (jU mb N o)
theorem NB{w:World}{rb lb lc nb mb K rn:Nat}{fv:Value}{ls fs ns:List Int}{N:Nat}(h:(dB rb lb lc nb mb K rn fv ls fs ns N none).R w):
 Calls prog 394 #[.pointer (some ⟨rb,0,none⟩),.int .i64 0] w λe w'=>e=.returned (.bool false)/\w=w':=by
 have c2:w.cell? ⟨rb,2,none⟩=some (.map (some mb)):=cA h.1 2;have hl:=ja (aD.r4 h);simp only[Option.getD_none,Option.isSome_none] at hl;clear h;go_enter func394,ntmps394;go_wp2
 go_ret;exact⟨rfl,rfl⟩
theorem Cr{w:World}{rb lb lc nb mb K rn:Nat}{fv:Value}{ls fs ns:List Int}{N:Nat}{o:Option Int}(h:(dB rb lb lc nb mb K rn fv ls fs ns N o).R w)(hr:0<rn):
 Calls prog 398 #[.pointer (some ⟨rb,0,none⟩),.int .i64 0] w λe w'=>e=.returned (.bool true)/\w=w':=by
 have c3:w.cell? ⟨rb,3,none⟩=some (.slice (some ⟨nb,0,none⟩) rn rn):=cA h.1 3;have h1:(0:Int)<(rn:Int):=by omega
 clear h;go_enter func398,ntmps398;go_wp2
 go_ret;exact⟨rfl,rfl⟩
theorem Rw{w:World}{rb lb lc nb mb K rn:Nat}{fv:Value}{ls fs ns:List Int}{N:Nat}(h:(dB rb lb lc nb mb K rn fv ls fs ns N none).R w):
 Calls prog 395 #[.pointer (some ⟨rb,0,none⟩),.int .i64 0] w λe w'=>e=.returned (.int .i64 (-1))/\w=w':=by
 have c2:w.cell? ⟨rb,2,none⟩=some (.map (some mb)):=cA h.1 2;have hl:=ja (aD.r4 h);simp only[Option.getD_none,Option.isSome_none] at hl;clear h;go_enter func395,ntmps395;go_wp2
 go_ret;exact⟨rfl,rfl⟩
theorem Zq{w:World}{rb lb lc nb mb N:Nat}(h:(dB rb lb lc nb mb 3 3 (.slice none 0 0) [-1,0,0,0,-1,1,1,1,-1,2,2,2] [] [0,0,0] N none).R w)(hN:N<=1000000):
 Calls prog 399 #[.pointer (some ⟨rb,0,none⟩),.int .i64 0,.int .i64 0,.int .i64 0] w λe w'=>e=.returned (.tuple #[])/\
  ∃lb' Ib,ag (dB rb lb lc nb mb 3 3 (.slice none 0 0) [-1,0,0,0,-1,1,1,1,-1,2,2,2] [] [0,0,0] N none) (dB rb lb' Ib nb mb 4 3 (.slice none 0 0) [-1,0,3,3,-1,1,1,1,-1,2,2,2,0,0,0,0] [] [1,0,0] (N+1) (some 3)) w w':=by
 have H:=hid h;have c0:w.cell? ⟨rb,0,none⟩=some (.slice (some ⟨lb,0,none⟩) 3 lc):=cA h.1 0;have c1:w.cell? ⟨rb,1,none⟩=some (.slice none 0 0):=cA h.1 1;clear h;go_enter func399,ntmps399
 go_wp2_with (first
  |(at_builtin;go_must (refine fT nN rfl _ _ rfl rfl (aD.r1 H.out) rfl rfl (by decide) (by omega) (by omega) ?_);intro g cap w2 ht2
    have T2:=hid (aD.t1 H.out ht2);obtain⟨w3,e3⟩:∃w3,w2.setCell ⟨rb,0,none⟩ (.slice (some ⟨g,0,none⟩) 4 cap)=w3:=⟨_,rfl⟩;have t3:=aD.t0 T2.out.here (ai (aD.r0 T2.out.here) 0 (.slice (some ⟨g,0,none⟩) 4 cap));have f2:=cZ (aD.r0 T2.out.here) 0;have g0:w2.cell? ⟨rb,0,none⟩=some (.slice (some ⟨lb,0,none⟩) 3 lc):=cA (aD.r0 T2.out.here) 0;rw[e3] at t3;have T3:=hid t3;have d0:w3.cell? ⟨rb,0,none⟩=some (.slice (some ⟨g,0,none⟩) 4 cap):=cA (aD.r0 t3.here) 0;have lf:=bn (aD.r1 t3.here);have l3:w3.cell? ⟨g,3,none⟩=some (.int .i64 0):=aB (aD.r1 t3.here) 3 (by decide);have lf3:=lf 3;have NC:w3.cell? ⟨g,12,none⟩=some (.int .i64 0):=aB (aD.r1 t3.here) 12 (by decide);have lf12:=lf 12;have ND:w3.cell? ⟨g,13,none⟩=some (.int .i64 0):=aB (aD.r1 t3.here) 13 (by decide);have lf13:=lf 13;have NF:w3.cell? ⟨g,14,none⟩=some (.int .i64 0):=aB (aD.r1 t3.here) 14 (by decide);have lf14:=lf 14;have NG:w3.cell? ⟨g,15,none⟩=some (.int .i64 0):=aB (aD.r1 t3.here) 15 (by decide);have lf15:=lf 15;clear ht2 t3 c0 c1 lf))
 obtain⟨w4,e4⟩:∃w4,((((w3.setCell ⟨g,12,none⟩ (.int .i64 0)).setCell ⟨g,13,none⟩ (.int .i64 0)).setCell ⟨g,14,none⟩ (.int .i64 0)).setCell ⟨g,15,none⟩ (.int .i64 0))=w4:=⟨_,rfl⟩;rw[e4];have t12:=aD.t1 T3.out.here (aM (aD.r1 T3.out.here) 12 (.int .i64 0));have t13:=t12.trans (aD.t1 t12.here (aM (aD.r1 t12.here) 13 (.int .i64 0)));have t14:=t13.trans (aD.t1 t13.here (aM (aD.r1 t13.here) 14 (.int .i64 0)));have t15:=t14.trans (aD.t1 t14.here (aM (aD.r1 t14.here) 15 (.int .i64 0)));rw[e4] at t15;have T4:=hid t15;have d0':w4.cell? ⟨rb,0,none⟩=some (.slice (some ⟨g,0,none⟩) 4 cap):=cA (aD.r0 t15.here) 0;have m2:w4.cell? ⟨g,2,none⟩=some (.int .i64 0):=aB (aD.r1 t15.here) 2 (by decide);have m3:w4.cell? ⟨g,3,none⟩=some (.int .i64 0):=aB (aD.r1 t15.here) 3 (by decide);have n2:=bn (aD.r1 t15.here) 2;have n3:=bn (aD.r1 t15.here) 3;have u3:=aD.t1 t15.here (aM (aD.r1 t15.here) 3 (.int .i64 3));have u2:=aD.t1 u3.here (aM (aD.r1 u3.here) 2 (.int .i64 3));have d1':(w4.setCell ⟨g,3,none⟩ (.int .i64 3)).cell? ⟨rb,0,none⟩=some (.slice (some ⟨g,0,none⟩) 4 cap):=cA (aD.r0 u3.here) 0;have Qc:((w4.setCell ⟨g,3,none⟩ (.int .i64 3)).setCell ⟨g,2,none⟩ (.int .i64 3)).cell? ⟨rb,0,none⟩=some (.slice (some ⟨g,0,none⟩) 4 cap):=cA (aD.r0 u2.here) 0;have U:=hid (u3.trans u2);clear u3 u2;clear t12 t13 t14 t15 e4 d0 e3 f2 g0 l3 lf3 NC lf12 ND lf13 NF lf14 NG lf15;go_region_held3 (λw'=>w'.cell? ⟨rb,0,none⟩=some (.slice (some ⟨g,0,none⟩) 4 cap)) (first|exact d0'|exact d1'|exact Qc) (fail)
 rename_i hHeld;obtain⟨w5,e5⟩:∃w5,((w4.setCell ⟨g,3,none⟩ (.int .i64 3)).setCell ⟨g,2,none⟩ (.int .i64 3)).drew=w5:=⟨_,rfl⟩;have u5:=U.out.drew;rw[e5] at u5⊢;have r2:w5.cell? ⟨rb,2,none⟩=some (.map (some mb)):=cA (aD.r0 u5.here) 2;obtain⟨w6,hmu,t6⟩:=nM (aD.r4 u5.here) 3 (by omega) (by unfold maxLen;omega);have u6:=u5.trans (aD.t4 u5.here t6);have r3:w6.cell? ⟨rb,3,none⟩=some (.slice (some ⟨nb,0,none⟩) 3 3):=cA (aD.r0 u6.here) 3;have q0:w6.cell? ⟨nb,0,none⟩=some (.int .i64 0):=aB (aD.r3 u6.here) 0 (by decide);have qf:=bn (aD.r3 u6.here) 0;have u7:=u6.trans (aD.t3 u6.here (aM (aD.r3 u6.here) 0 (.int .i64 1)));have U7:=hid (((T2.out.trans T3.out).trans T4.out).trans u7);clear t6 u5 u6 u7 e5 T2 T3 T4 U H d0' d1' Qc m2 m3 n2 n3 hHeld;go_wp2
 go_end0;exact⟨rfl,_,_,U7.out⟩
theorem Rx{w:World}{rb lb lc nb mb N:Nat}(h:(dB rb lb lc nb mb 1 1 (.slice none 0 0) [-1,0,0,0] [] [0] N none).R w)(hN:N<=1000000):
 Calls prog 399 #[.pointer (some ⟨rb,0,none⟩),.int .i64 0,.int .i64 0,.int .i64 0] w λe w'=>e=.returned (.tuple #[])/\
  ∃lb' Ib,ag (dB rb lb lc nb mb 1 1 (.slice none 0 0) [-1,0,0,0] [] [0] N none) (dB rb lb' Ib nb mb 2 1 (.slice none 0 0) [-1,0,1,1,0,0,0,0] [] [1] (N+1) (some 1)) w w':=by
 have H:=hid h;have c0:w.cell? ⟨rb,0,none⟩=some (.slice (some ⟨lb,0,none⟩) 1 lc):=cA h.1 0;have c1:w.cell? ⟨rb,1,none⟩=some (.slice none 0 0):=cA h.1 1;clear h;go_enter func399,ntmps399
 go_wp2_with (first
  |(at_builtin;go_must (refine fT nN rfl _ _ rfl rfl (aD.r1 H.out) rfl rfl (by decide) (by omega) (by omega) ?_);intro g cap w2 ht2
    have T2:=hid (aD.t1 H.out ht2);obtain⟨w3,e3⟩:∃w3,w2.setCell ⟨rb,0,none⟩ (.slice (some ⟨g,0,none⟩) 2 cap)=w3:=⟨_,rfl⟩;have t3:=aD.t0 T2.out.here (ai (aD.r0 T2.out.here) 0 (.slice (some ⟨g,0,none⟩) 2 cap));have f2:=cZ (aD.r0 T2.out.here) 0;have g0:w2.cell? ⟨rb,0,none⟩=some (.slice (some ⟨lb,0,none⟩) 1 lc):=cA (aD.r0 T2.out.here) 0;rw[e3] at t3;have T3:=hid t3;have d0:w3.cell? ⟨rb,0,none⟩=some (.slice (some ⟨g,0,none⟩) 2 cap):=cA (aD.r0 t3.here) 0;have lf:=bn (aD.r1 t3.here);have l3:w3.cell? ⟨g,3,none⟩=some (.int .i64 0):=aB (aD.r1 t3.here) 3 (by decide);have lf3:=lf 3;have l4:w3.cell? ⟨g,4,none⟩=some (.int .i64 0):=aB (aD.r1 t3.here) 4 (by decide);have lf4:=lf 4;have l5:w3.cell? ⟨g,5,none⟩=some (.int .i64 0):=aB (aD.r1 t3.here) 5 (by decide);have lf5:=lf 5;have l6:w3.cell? ⟨g,6,none⟩=some (.int .i64 0):=aB (aD.r1 t3.here) 6 (by decide);have lf6:=lf 6;have l7:w3.cell? ⟨g,7,none⟩=some (.int .i64 0):=aB (aD.r1 t3.here) 7 (by decide);have lf7:=lf 7;clear ht2 t3 c0 c1 lf))
 obtain⟨w4,e4⟩:∃w4,((((w3.setCell ⟨g,4,none⟩ (.int .i64 0)).setCell ⟨g,5,none⟩ (.int .i64 0)).setCell ⟨g,6,none⟩ (.int .i64 0)).setCell ⟨g,7,none⟩ (.int .i64 0))=w4:=⟨_,rfl⟩;rw[e4];have t4:=aD.t1 T3.out.here (aM (aD.r1 T3.out.here) 4 (.int .i64 0));have t5:=t4.trans (aD.t1 t4.here (aM (aD.r1 t4.here) 5 (.int .i64 0)));have t6:=t5.trans (aD.t1 t5.here (aM (aD.r1 t5.here) 6 (.int .i64 0)));have t7:=t6.trans (aD.t1 t6.here (aM (aD.r1 t6.here) 7 (.int .i64 0)));rw[e4] at t7;have T4:=hid t7;have d0':w4.cell? ⟨rb,0,none⟩=some (.slice (some ⟨g,0,none⟩) 2 cap):=cA (aD.r0 t7.here) 0;have m2:w4.cell? ⟨g,2,none⟩=some (.int .i64 0):=aB (aD.r1 t7.here) 2 (by decide);have m3:w4.cell? ⟨g,3,none⟩=some (.int .i64 0):=aB (aD.r1 t7.here) 3 (by decide);have n2:=bn (aD.r1 t7.here) 2;have n3:=bn (aD.r1 t7.here) 3;have u3:=aD.t1 t7.here (aM (aD.r1 t7.here) 3 (.int .i64 1));have u2:=aD.t1 u3.here (aM (aD.r1 u3.here) 2 (.int .i64 1));have d1':(w4.setCell ⟨g,3,none⟩ (.int .i64 1)).cell? ⟨rb,0,none⟩=some (.slice (some ⟨g,0,none⟩) 2 cap):=cA (aD.r0 u3.here) 0;have Qc:((w4.setCell ⟨g,3,none⟩ (.int .i64 1)).setCell ⟨g,2,none⟩ (.int .i64 1)).cell? ⟨rb,0,none⟩=some (.slice (some ⟨g,0,none⟩) 2 cap):=cA (aD.r0 u2.here) 0;have U:=hid (u3.trans u2);clear u3 u2;clear t4 t5 t6 t7 e4 d0 e3 f2 g0 l3 lf3 l4 lf4 l5 lf5 l6 lf6 l7 lf7;go_region_held3 (λw'=>w'.cell? ⟨rb,0,none⟩=some (.slice (some ⟨g,0,none⟩) 2 cap)) (first|exact d0'|exact d1'|exact Qc) (fail)
 rename_i hHeld;obtain⟨w5,e5⟩:∃w5,((w4.setCell ⟨g,3,none⟩ (.int .i64 1)).setCell ⟨g,2,none⟩ (.int .i64 1)).drew=w5:=⟨_,rfl⟩;have u5:=U.out.drew;rw[e5] at u5⊢;have r2:w5.cell? ⟨rb,2,none⟩=some (.map (some mb)):=cA (aD.r0 u5.here) 2;obtain⟨w6,hmu,t6⟩:=nM (aD.r4 u5.here) 1 (by omega) (by unfold maxLen;omega);have u6:=u5.trans (aD.t4 u5.here t6);have r3:w6.cell? ⟨rb,3,none⟩=some (.slice (some ⟨nb,0,none⟩) 1 1):=cA (aD.r0 u6.here) 3;have q0:w6.cell? ⟨nb,0,none⟩=some (.int .i64 0):=aB (aD.r3 u6.here) 0 (by decide);have qf:=bn (aD.r3 u6.here) 0;have u7:=u6.trans (aD.t3 u6.here (aM (aD.r3 u6.here) 0 (.int .i64 1)));have U7:=hid (((T2.out.trans T3.out).trans T4.out).trans u7);clear t6 u5 u6 u7 e5 T2 T3 T4 U H d0' d1' Qc m2 m3 n2 n3 hHeld;go_wp2
 go_end0;exact⟨rfl,_,_,U7.out⟩
theorem Ic{w:World}{rb lb lc nb mb N:Nat}(h:(dB rb lb lc nb mb 1 1 (.slice none 0 0) [-1,0,0,0] [] [0] N none).R w)(hN:N<=1000000):
 Calls prog 396 #[.pointer (some ⟨rb,0,none⟩),.int .i64 0,.int .i64 0] w λe w'=>e=.returned (.bool true)/\
  ∃lb' Ib,ag (dB rb lb lc nb mb 1 1 (.slice none 0 0) [-1,0,0,0] [] [0] N none) (dB rb lb' Ib nb mb 2 1 (.slice none 0 0) [-1,0,1,1,0,0,0,0] [] [1] (N+1) (some 1)) w w':=by
 have HH:=hid (Cr h (by omega));have HT:=hid (NB h);have HP:=hid (Rx h hN);clear h;go_enter func396,ntmps396
 go_wp2_with (first
  |(go_at_call 398;refine HH.out.mono ?_;rintro e w' ⟨rfl,rfl⟩)
  |(go_at_call 394;refine HT.out.mono ?_;rintro e w' ⟨rfl,rfl⟩)
  |(go_at_call 399;refine HP.out.mono ?_;rintro e w' ⟨rfl,lb',Ib,ht⟩))
 go_ret;exact⟨rfl,_,_,ht⟩
theorem NH{w:World}{rb lb lc nb mb N:Nat}{fv:Value}(h:(dB rb lb lc nb mb 2 1 fv [-1,0,1,1,0,0,0,0] [] [1] N (some 1)).R w):
 Calls prog 394 #[.pointer (some ⟨rb,0,none⟩),.int .i64 0] w λe w'=>e=.returned (.bool true)/\
  ∃fb fc,ag (dB rb lb lc nb mb 2 1 fv [-1,0,1,1,0,0,0,0] [] [1] N (some 1)) (dB rb lb lc nb mb 2 1 (.slice (some ⟨fb,0,none⟩) 1 fc) [-1,0,0,0,0,0,0,0] [1] [0] N none) w w':=by
 have H:=hid h;have c0:w.cell? ⟨rb,0,none⟩=some (.slice (some ⟨lb,0,none⟩) 2 lc):=cA h.1 0;have c2:w.cell? ⟨rb,2,none⟩=some (.map (some mb)):=cA h.1 2;have hl:=ja (aD.r4 h);simp only[Option.getD_some,Option.isSome_some] at hl;have l4:w.cell? ⟨lb,4,none⟩=some (.int .i64 0):=aB (aD.r1 h) 4 (by decide);have l5:w.cell? ⟨lb,5,none⟩=some (.int .i64 0):=aB (aD.r1 h) 5 (by decide);have l6:w.cell? ⟨lb,6,none⟩=some (.int .i64 0):=aB (aD.r1 h) 6 (by decide);have l7:w.cell? ⟨lb,7,none⟩=some (.int .i64 0):=aB (aD.r1 h) 7 (by decide);clear h;go_enter func394,ntmps394;go_wp2
 obtain⟨W,hW⟩:∃W,w.alloc (.cells #[.int .i64 0,.int .i64 0,.int .i64 0,.int .i64 0] 269)=W:=⟨_,rfl⟩;have t0:=(ag.rfl' H.out).alloc (.cells #[.int .i64 0,.int .i64 0,.int .i64 0,.int .i64 0] 269);have bx:=aA w #[.int .i64 0,.int .i64 0,.int .i64 0,.int .i64 0] 269;rw[hW] at t0 bx⊢;have T0:=hid t0;obtain⟨X,hX⟩:∃X,w.heap.size=X:=⟨_,rfl⟩;rw[hX] at bx⊢;have u3:=aD.t1 t0.here (aM (aD.r1 t0.here) 3 (.int .i64 0));have u2:=aD.t1 u3.here (aM (aD.r1 u3.here) 2 (.int .i64 0));have Zr:∀b,(dB rb lb lc nb mb 2 1 fv [-1,0,1,1,0,0,0,0] [] [1] N (some 1)).B b->b<X:=λb hb=>by rw[<-hX];exact aT.lt _ H.out hb
 have hlX:lb<X:=Zr lb (.inr (.inl rfl));have XM:=(aG X #[.int .i64 0,.int .i64 0,.int .i64 0,.int .i64 0] 269).keep bx (aM (aD.r1 t0.here) 3 (.int .i64 0)).bL (λb hb hx=>by have e1:b=X:=hb;have e2:some lb=some b:=hx;cases e2;omega);have XN:=(aG X #[.int .i64 0,.int .i64 0,.int .i64 0,.int .i64 0] 269).keep XM (aM (aD.r1 u3.here) 2 (.int .i64 0)).bL (λb hb hx=>by have e1:b=X:=hb;have e2:some lb=some b:=hx;cases e2;omega);have S0:W.cell? ⟨rb,0,none⟩=some (.slice (some ⟨lb,0,none⟩) 2 lc)/\W.cell? ⟨X,2,none⟩=some (.int .i64 0)/\W.cell? ⟨X,3,none⟩=some (.int .i64 0):=⟨cA (aD.r0 t0.here) 0,cA bx 2,cA bx 3⟩;have S1:(W.setCell ⟨lb,3,none⟩ (.int .i64 0)).cell? ⟨rb,0,none⟩=some (.slice (some ⟨lb,0,none⟩) 2 lc)/\(W.setCell ⟨lb,3,none⟩ (.int .i64 0)).cell? ⟨X,2,none⟩=some (.int .i64 0)/\(W.setCell ⟨lb,3,none⟩ (.int .i64 0)).cell? ⟨X,3,none⟩=some (.int .i64 0):=⟨cA (aD.r0 u3.here) 0,cA XM 2,cA XM 3⟩;have S2:((W.setCell ⟨lb,3,none⟩ (.int .i64 0)).setCell ⟨lb,2,none⟩ (.int .i64 0)).cell? ⟨rb,0,none⟩=some (.slice (some ⟨lb,0,none⟩) 2 lc)/\((W.setCell ⟨lb,3,none⟩ (.int .i64 0)).setCell ⟨lb,2,none⟩ (.int .i64 0)).cell? ⟨X,2,none⟩=some (.int .i64 0)/\((W.setCell ⟨lb,3,none⟩ (.int .i64 0)).setCell ⟨lb,2,none⟩ (.int .i64 0)).cell? ⟨X,3,none⟩=some (.int .i64 0):=⟨cA (aD.r0 u2.here) 0,cA XN 2,cA XN 3⟩;have m2:W.cell? ⟨lb,2,none⟩=some (.int .i64 1):=aB (aD.r1 t0.here) 2 (by decide);have m3:W.cell? ⟨lb,3,none⟩=some (.int .i64 1):=aB (aD.r1 t0.here) 3 (by decide);have n2:=bn (aD.r1 t0.here) 2;have n3:=bn (aD.r1 t0.here) 3;have U:=hid (u3.trans u2);have BX:=hid XN;have HXb:=hid Zr;clear u3 u2 t0 bx XM XN c0 c2 hl l4 l5 l6 l7 hW Zr;go_region_held3 (λw'=>w'.cell? ⟨rb,0,none⟩=some (.slice (some ⟨lb,0,none⟩) 2 lc)/\w'.cell? ⟨X,2,none⟩=some (.int .i64 0)/\w'.cell? ⟨X,3,none⟩=some (.int .i64 0)) (first|exact S0|exact S1|exact S2) (fail)
 rename_i hHeld;clear hHeld S0 S1 S2 m2 m3 n2 n3;obtain⟨w5,e5⟩:∃w5,((W.setCell ⟨lb,3,none⟩ (.int .i64 0)).setCell ⟨lb,2,none⟩ (.int .i64 0)).drew=w5:=⟨_,rfl⟩;have u5:=U.out.drew;have b5:=(aG X #[.int .i64 0,.int .i64 0,.int .i64 0,.int .i64 0] 269).keep BX.out ((aP.refl (λ_=>False) _).drewN 1) (λ_ _ x=>x);rw[show World.drewN ((W.setCell ⟨lb,3,none⟩ (.int .i64 0)).setCell ⟨lb,2,none⟩ (.int .i64 0)) 1=w5 from e5] at b5;rw[e5] at u5⊢;have U5:=hid u5;have B5:=hid b5;have r1:w5.cell? ⟨rb,1,none⟩=some fv:=cA (aD.r0 u5.here) 1;clear u5 b5 e5 U BX
 go_wp2_with (first
  |(at_builtin;go_must (refine fT Ia rfl _ _ rfl rfl (aD.r2 U5.out.here) rfl rfl (by decide) (by decide) (by omega) ?_);intro fb fc w6 Zt
    have t6:=U5.out.trans (aD.t2 U5.out.here Zt);obtain⟨w7,e7⟩:∃w7,w6.setCell ⟨rb,1,none⟩ (.slice (some ⟨fb,0,none⟩) 1 fc)=w7:=⟨_,rfl⟩;have v7:=ai (aD.r0 t6.here) 1 (.slice (some ⟨fb,0,none⟩) 1 fc);have t7:=t6.trans (aD.t0 t6.here v7);have g1:w6.cell? ⟨rb,1,none⟩=some fv:=cA (aD.r0 t6.here) 1;have gf:=cZ (aD.r0 t6.here) 1)
  |fail)
 have hrX:rb<X:=HXb.out rb (.inl rfl);have b6:=(aG X #[.int .i64 0,.int .i64 0,.int .i64 0,.int .i64 0] 269).keep B5.out Zt.bL (λb hb hx=>by have e1:b=X:=hb;have:=HXb.out b (.inr (.inr (.inl hx)));omega);have b7:=(aG X #[.int .i64 0,.int .i64 0,.int .i64 0,.int .i64 0] 269).keep b6 v7.bL (λb hb hx=>by have e1:b=X:=hb;have e2:b=rb:=hx;omega);rw[e7] at t7 b7;have T7:=hid (T0.out.trans t7);have q0:w7.cell? ⟨nb,0,none⟩=some (.int .i64 1):=aB (aD.r3 t7.here) 0 (by decide);have S0:w7.drew.cell? ⟨rb,3,none⟩=some (.slice (some ⟨nb,0,none⟩) 1 1)/\w7.drew.cell? ⟨X,1,none⟩=some (.int .i64 0)/\w7.drew.cell? ⟨nb,0,none⟩=some (.int .i64 1):=⟨cA (aD.r0 t7.here) 3,cA b7 1,q0⟩;have qf:=bn (aD.r3 t7.drew.here) 0;have t8:=t7.drew.trans (aD.t3 t7.drew.here (aM (aD.r3 t7.drew.here) 0 (.int .i64 0)));have T8:=hid (T0.out.trans t8);have q0':=S0.2.2;have hw0:IntKind.i64.wrap 0=0:=by decide
 clear t8 t7 b7 b6 v7 e7 t6 g1 gf Zt T7 U5 B5 q0;refine aQ (λw'=>w'.cell? ⟨rb,3,none⟩=some (.slice (some ⟨nb,0,none⟩) 1 1)/\w'.cell? ⟨X,1,none⟩=some (.int .i64 0)/\w'.cell? ⟨nb,0,none⟩=some (.int .i64 1)) 10 (by kernel_rfl) S0 (λhHeld=>?_);refine bM 0 rfl ?_;refine bM 1 rfl ?_;refine bM 2 rfl ?_;refine bM 3 rfl ?_;refine bM 4 rfl ?_;refine bM 5 rfl ?_;refine bM 6 rfl ?_;refine bM 7 rfl ?_;refine bM 8 rfl ?_;refine bM 9 rfl ?_;(try simp only[lz])
 refine aC (rs:=[10]) (by as_aux_lemma=>kernel_rfl) (by simp) ?_;refine ax.last (o:=_) rfl (λK hK=>?_);rw[if_pos (by as_aux_lemma=>rfl)];(try simp only[gI])
 go_simp;refine hK.out _ _ trivial (λ_=>?_);clear hK K;(try simp only[lz])
 refine aN (by as_aux_lemma=>kernel_rfl) ?_ _;clear hHeld S0 q0' qf;obtain⟨w9,e9⟩:∃w9,(w7.setCell ⟨nb,0,none⟩ (.int .i64 0)).drew=w9:=⟨_,rfl⟩;have u9:=T8.out;rw[show (w7.drew.setCell ⟨nb,0,none⟩ (.int .i64 0))=w9 from e9] at u9;rw[e9];have r2:w9.cell? ⟨rb,2,none⟩=some (.map (some mb)):=cA (aD.r0 u9.here) 2;obtain⟨w10,hdl,hd⟩:=D6 (aD.r4 u9.here) 0;have u10:=u9.trans (aD.t4 u9.here hd);have U10:=hid u10;clear u9 u10 e9 T8 hd;go_wp2
 go_ret;exact⟨rfl,fb,fc,U10.out⟩
theorem Ie{w:World}{fb fc:Nat}(h:(XL (.slice (some ⟨fb,0,none⟩) 1 fc) [1]).R w):ag (XL (.slice (some ⟨fb,0,none⟩) 1 fc) [1]) (XL (.slice (some ⟨fb,0,none⟩) 0 fc) []) w w:=
 ⟨xn h,aP.refl _ _,λ_ h=> .inl h⟩
theorem Ry{w:World}{rb g cap nb mb N fb fc:Nat}(h:(dB rb g cap nb mb 2 1 (.slice (some ⟨fb,0,none⟩) 1 fc) [-1,0,0,0,0,0,0,0] [1] [0] N none).R w)(hN:N<=1000000):
 Calls prog 399 #[.pointer (some ⟨rb,0,none⟩),.int .i64 0,.int .i64 0,.int .i64 0] w λe w'=>e=.returned (.tuple #[])/\
  ag (dB rb g cap nb mb 2 1 (.slice (some ⟨fb,0,none⟩) 1 fc) [-1,0,0,0,0,0,0,0] [1] [0] N none) (dB rb g cap nb mb 2 1 (.slice (some ⟨fb,0,none⟩) 0 fc) [-1,0,1,1,0,0,0,0] [] [1] (N+1) (some 1)) w w':=by
 have H:=hid h;have c0:w.cell? ⟨rb,0,none⟩=some (.slice (some ⟨g,0,none⟩) 2 cap):=cA h.1 0;have c1:w.cell? ⟨rb,1,none⟩=some (.slice (some ⟨fb,0,none⟩) 1 fc):=cA h.1 1;have c2:w.cell? ⟨fb,0,none⟩=some (.int .i64 1):=aB (aD.r2 h) 0 (by decide);have cz:=cZ (aD.r0 (ag.rfl' h).drew.here) 1;have hw0:IntKind.i64.wrap 0=0:=by decide
 have hw1:(IntKind.i64.wrap 0).toNat=0:=by decide
 have hfc:1<=fc:=(lY (aD.r2 h)).1;have Zu:(1:Int)<=fc:=by omega
 have Zv:(0:Int)<=fc:=by omega
 have Zw:¬(0:Nat)=fc:=by omega
 have Zx:¬fc=(0:Nat):=by omega
 clear h;go_enter func399,ntmps399;go_wp2
 refine aQ (λw'=>w'.cell? ⟨rb,1,none⟩=some (.slice (some ⟨fb,0,none⟩) 1 fc)/\w'.cell? ⟨fb,0,none⟩=some (.int .i64 1)) 19 (by kernel_rfl) ⟨c1,c2⟩ (λhHeld=>?_);refine bM 0 rfl ?_;refine bM 1 rfl ?_;refine bM 2 rfl ?_;refine bM 3 rfl ?_;refine bM 4 rfl ?_;refine bM 5 rfl ?_;refine bM 6 rfl ?_;refine bM 7 rfl ?_;refine bM 8 rfl ?_;refine bM 9 rfl ?_;refine bM 10 rfl ?_;refine bM 11 rfl ?_;refine bM 12 rfl ?_;refine bM 13 rfl ?_;refine bM 14 rfl ?_;refine bM 15 rfl ?_;refine bM 16 rfl ?_;refine bY 17 rfl ?_;refine bM 18 rfl ?_;(try simp only[lz])
 refine aC (rs:=[19]) (by as_aux_lemma=>kernel_rfl) (by simp) ?_;refine ax.last (o:=_) rfl (λK hK=>?_);rw[if_pos (by as_aux_lemma=>rfl)];(try simp only[gI])
 go_simp;refine hK.out _ _ trivial (λ_=>?_);clear hK K;(try simp only[lz])
 refine aN (by as_aux_lemma=>kernel_rfl) ?_ _;clear hHeld;obtain⟨w3,e3⟩:∃w3,(w.setCell ⟨rb,1,none⟩ (.slice (some ⟨fb,0,none⟩) 0 fc)).drew=w3:=⟨_,rfl⟩;have t1:=(ag.rfl' H.out).drew;have t2:=t1.trans (aD.t0 t1.here (ai (aD.r0 t1.here) 1 (.slice (some ⟨fb,0,none⟩) 0 fc)));have t3:=t2.trans (aD.t2 t2.here (Ie (aD.r2 t2.here)));rw[show (w.drew.setCell ⟨rb,1,none⟩ (.slice (some ⟨fb,0,none⟩) 0 fc))=w3 from e3] at t3;rw[e3];have T3:=hid t3;have d0:w3.cell? ⟨rb,0,none⟩=some (.slice (some ⟨g,0,none⟩) 2 cap):=cA (aD.r0 t3.here) 0;have lf:=bn (aD.r1 t3.here);have l3:w3.cell? ⟨g,3,none⟩=some (.int .i64 0):=aB (aD.r1 t3.here) 3 (by decide);have lf3:=lf 3;have l4:w3.cell? ⟨g,4,none⟩=some (.int .i64 0):=aB (aD.r1 t3.here) 4 (by decide);have lf4:=lf 4;have l5:w3.cell? ⟨g,5,none⟩=some (.int .i64 0):=aB (aD.r1 t3.here) 5 (by decide);have lf5:=lf 5;have l6:w3.cell? ⟨g,6,none⟩=some (.int .i64 0):=aB (aD.r1 t3.here) 6 (by decide);have lf6:=lf 6;have l7:w3.cell? ⟨g,7,none⟩=some (.int .i64 0):=aB (aD.r1 t3.here) 7 (by decide);have lf7:=lf 7;clear t1 t2 t3 e3 c0 c1 c2 cz lf hw0 hw1 hfc Zu Zv Zw Zx;go_wp2
 obtain⟨w4,e4⟩:∃w4,((((w3.setCell ⟨g,4,none⟩ (.int .i64 0)).setCell ⟨g,5,none⟩ (.int .i64 0)).setCell ⟨g,6,none⟩ (.int .i64 0)).setCell ⟨g,7,none⟩ (.int .i64 0))=w4:=⟨_,rfl⟩;rw[e4];have t4:=aD.t1 T3.out.here (aM (aD.r1 T3.out.here) 4 (.int .i64 0));have t5:=t4.trans (aD.t1 t4.here (aM (aD.r1 t4.here) 5 (.int .i64 0)));have t6:=t5.trans (aD.t1 t5.here (aM (aD.r1 t5.here) 6 (.int .i64 0)));have t7:=t6.trans (aD.t1 t6.here (aM (aD.r1 t6.here) 7 (.int .i64 0)));rw[e4] at t7;have T4:=hid t7;have d0':w4.cell? ⟨rb,0,none⟩=some (.slice (some ⟨g,0,none⟩) 2 cap):=cA (aD.r0 t7.here) 0;have m2:w4.cell? ⟨g,2,none⟩=some (.int .i64 0):=aB (aD.r1 t7.here) 2 (by decide);have m3:w4.cell? ⟨g,3,none⟩=some (.int .i64 0):=aB (aD.r1 t7.here) 3 (by decide);have n2:=bn (aD.r1 t7.here) 2;have n3:=bn (aD.r1 t7.here) 3;have u3:=aD.t1 t7.here (aM (aD.r1 t7.here) 3 (.int .i64 1));have u2:=aD.t1 u3.here (aM (aD.r1 u3.here) 2 (.int .i64 1));have d1':(w4.setCell ⟨g,3,none⟩ (.int .i64 1)).cell? ⟨rb,0,none⟩=some (.slice (some ⟨g,0,none⟩) 2 cap):=cA (aD.r0 u3.here) 0;have Qc:((w4.setCell ⟨g,3,none⟩ (.int .i64 1)).setCell ⟨g,2,none⟩ (.int .i64 1)).cell? ⟨rb,0,none⟩=some (.slice (some ⟨g,0,none⟩) 2 cap):=cA (aD.r0 u2.here) 0;have U:=hid (u3.trans u2);clear u3 u2;clear t4 t5 t6 t7 e4 d0 l3 lf3 l4 lf4 l5 lf5 l6 lf6 l7 lf7;go_region_held3 (λw'=>w'.cell? ⟨rb,0,none⟩=some (.slice (some ⟨g,0,none⟩) 2 cap)) (first|exact d0'|exact d1'|exact Qc) (fail)
 rename_i hHeld;obtain⟨w5,e5⟩:∃w5,((w4.setCell ⟨g,3,none⟩ (.int .i64 1)).setCell ⟨g,2,none⟩ (.int .i64 1)).drew=w5:=⟨_,rfl⟩;have u5:=U.out.drew;rw[e5] at u5⊢;have r2:w5.cell? ⟨rb,2,none⟩=some (.map (some mb)):=cA (aD.r0 u5.here) 2;obtain⟨w6,hmu,t6⟩:=nM (aD.r4 u5.here) 1 (by omega) (by unfold maxLen;omega);have u6:=u5.trans (aD.t4 u5.here t6);have r3:w6.cell? ⟨rb,3,none⟩=some (.slice (some ⟨nb,0,none⟩) 1 1):=cA (aD.r0 u6.here) 3;have q0:w6.cell? ⟨nb,0,none⟩=some (.int .i64 0):=aB (aD.r3 u6.here) 0 (by decide);have qf:=bn (aD.r3 u6.here) 0;have u7:=u6.trans (aD.t3 u6.here (aM (aD.r3 u6.here) 0 (.int .i64 1)));have U7:=hid ((T3.out.trans T4.out).trans u7);clear t6 u5 u6 u7 e5 T3 T4 U H d0' d1' Qc m2 m3 n2 n3 hHeld;go_wp2
 go_end0;exact⟨rfl,U7.out⟩
theorem Ig{w:World}{rb lb lc nb mb N:Nat}{fv:Value}(h:(dB rb lb lc nb mb 2 1 fv [-1,0,1,1,0,0,0,0] [] [1] N (some 1)).R w)(hN:N<=1000000):
 Calls prog 396 #[.pointer (some ⟨rb,0,none⟩),.int .i64 0,.int .i64 0] w λe w'=>e=.returned (.bool true)/\
  ∃T_,ag (dB rb lb lc nb mb 2 1 fv [-1,0,1,1,0,0,0,0] [] [1] N (some 1)) (dB rb lb lc nb mb 2 1 T_ [-1,0,1,1,0,0,0,0] [] [1] (N+1) (some 1)) w w':=by
 have HH:=hid (Cr h (by omega));have HT:=hid (NH h);clear h;go_enter func396,ntmps396
 go_wp2_with (first
  |(go_at_call 398;refine HH.out.mono ?_;rintro e w' ⟨rfl,rfl⟩)
  |(go_at_call 394;refine HT.out.mono ?_;rintro e w' ⟨rfl,fb,fc,ht⟩)
  |(go_at_call 399;refine(Ry ht.here hN).mono ?_;rintro e w'' ⟨rfl,ht'⟩))
 go_ret;exact⟨rfl,_,ht.trans ht'⟩
theorem NI{w:World}{rb lb lc nb mb K rn:Nat}{fv:Value}{ls fs ns:List Int}{N k:Nat}(h:(dB rb lb lc nb mb K rn fv ls fs ns N (some k)).R w)(hk:4*k+1<ls.length)(hK:k<K)(h0:ls[4*k+1]?=some 0):
 Calls prog 395 #[.pointer (some ⟨rb,0,none⟩),.int .i64 0] w λe w'=>e=.returned (.int .i64 0)/\w=w':=by
 have c0:w.cell? ⟨rb,0,none⟩=some (.slice (some ⟨lb,0,none⟩) K lc):=cA h.1 0;have c2:w.cell? ⟨rb,2,none⟩=some (.map (some mb)):=cA h.1 2;have hl:=ja (aD.r4 h);simp only[Option.getD_some,Option.isSome_some] at hl;have l1:w.cell? ⟨lb,k*4+1,none⟩=some (.int .i64 0):=by
  have:=aB (aD.r1 h) (4*k+1) (by simp[ints];exact hk);rw[Nat.mul_comm k 4,this];simp[ints,h0]
 have h1:(0:Int)<=(k:Int):=by omega
 have h2:(k:Int)<(K:Int):=by omega
 clear h hk h0;go_enter func395,ntmps395;go_wp2
 go_ret;exact⟨rfl,rfl⟩
structure Made(r:aT)(w w':World):Prop where
 here:r.R w'
 bel:Below w.heap.size w w'
 lo:∀b,r.B b->w.heap.size<=b
theorem Made.turn{r r':aT}{w w' w'':World}(h:Made r w w')(t:ag r r' w' w''):Made r' w w'':=
 ⟨t.here,t.bL.below h.bel h.bel.size (λb hb=>h.lo b hb),λb hb=>(t.nu b hb).elim (h.lo b) (Nat.le_trans h.bel.size)⟩
theorem Made.below{r:aT}{w w' w'':World}(h:Made r w w')(hb:Below w'.heap.size w' w''):Made r w w'':=h.turn ((ag.rfl' h.here).below hb)
theorem Made.drew{r:aT}{w w':World}(h:Made r w w'):Made r w w'.drew:=h.turn (ag.rfl' h.here).drew
theorem Made.and{r s:aT}{w w' w'':World}(h:Made r w w')(k:Made s w' w''):Made (r.and s) w w'':=
 ⟨⟨r.keep h.here (aP.of_below (λ_=>False) k.bel) (λ_ _ x=>x),k.here,λb hb hx=>by have:=r.lt h.here hb;have:=k.lo b hx;omega⟩,h.bel.trans (k.bel.mono h.bel.size),
   λb hb=>hb.elim (h.lo b) (λx=>Nat.le_trans h.bel.size (k.lo b x))⟩
theorem Made.cells(w:World)(vs:Array Value)(t:TypeId):Made (aG w.heap.size vs t) w (w.alloc (.cells vs t)):=⟨aA w vs t,bA w _,λb hb=>by have e:b=w.heap.size:=hb;omega⟩
theorem mK(w:World)(vs:Array Value)(t:TypeId)(n:Nat)(h:vs.size=n)(hm:n<=maxLen):Made (rowAt (.slice (some ⟨w.heap.size,0,none⟩) n n) t 1 n vs.toList) w (w.alloc (.cells vs t)):=by
 refine⟨⟨by simp[h],.inr ⟨w.heap.size,n,vs,rfl,Nat.zero_le _,heap_alloc_new w _,Nat.le_refl _,hm,by simp[h],by rw[Nat.mul_one,<-h,<-Array.length_toList,List.take_length]⟩⟩,bA w _,λb hb=>?_⟩;have e:some w.heap.size=some b:=hb;cases e;exact Nat.le_refl _
theorem eu(w:World)(t:TypeId)(s:Nat):(rowAt (.slice none 0 0) t s 0 []).R w:=World.ownsRow_nil _ _ _ _
theorem Made.conv{r r':aT}{w w':World}(h:Made r w w')(hR:r.R w'->r'.R w')(hB:∀b,r'.B b->r.B b):Made r' w w':=⟨hR h.here,h.bel,λb hb=>h.lo b (hB b hb)⟩
theorem Ih{A B C D E:aT}{w:World}(h:((E.and D).and A).R w)(hb:B.R w)(hc:C.R w)(nb:∀b,¬B.B b)(nc:∀b,¬C.B b):(five A B C D E).R w:=
 ⟨h.2.1,⟨hb,⟨hc,⟨h.1.2.1,h.1.1,λb x y=>h.1.2.2 b y x⟩,λb x=>absurd x (nc b)⟩,λb x=>absurd x (nb b)⟩,
  λb x y=>by
   rcases y with y|y|y|y
   ·exact nb b y
   ·exact nc b y
   ·exact h.2.2 b (.inr y) x
   ·exact h.2.2 b (.inl y) x⟩
def Ii:Nat->List Int
 |0=>[]
 |n+1=>Ii n ++ [(-1:Int),(n:Int),(n:Int),(n:Int)]
def Cs(rb nb mb n j:Nat)(lv:Value):aT:=
 five (aG rb #[lv,.slice none 0 0,.map (some mb),.slice (some ⟨nb,0,none⟩) n n] 267) (rowAt lv 269 4 j (ints (Ii j))) (rowAt (.slice none 0 0) 3 1 0 []) (rwN nb n (List.replicate n 0)) (jU mb 0 none)
theorem Tryz.info3:(prog.info? 3).map (λi=>(i.zero,i.size,i.bytes))=some (some (.int .i64 0),1,8):=by kernel_rfl
theorem Ij(z:Value)(n:Nat):(madeCells #[z] n).toList=List.replicate n z:=toList_madeCells_one z n
theorem Ik(n:Nat)(h1:1<=n)(h8:n<=8)(w:World):Calls prog 91 #[.int .i64 n] w λe w'=>
 ∃rb nb mb lv,e=.returned (.pointer (some ⟨rb,0,none⟩))/\Made (Cs rb nb mb n n lv) w w':=by
 have hmk:∀w:World,(Instr.makeSlice 39 (.int .i64 n) (.int .i64 n)).run prog w=.ok (.slice (some ⟨w.heap.size,0,none⟩) n n) (w.alloc (.cells (madeCells #[.int .i64 0] n) 3)):=
  λw=>run_make_row' (P:=prog) 39 3 (.int .i64 0) 8 underlying39 Tryz.info3 rfl .i64 .i64 n (by omega) (by omega) w
 have m0:=D7 w;have M0:Made (jU w.heap.size 0 none) w (w.alloc (.map #[] 0)):=⟨m0,bA w _,λb hb=>by have e:b=w.heap.size:=hb;omega⟩;have hz:(madeCells #[.int .i64 0] n).size=n:=by rw[<-Array.length_toList,Ij];simp
 have M1:=M0.and (mK (w.alloc (.map #[] 0)) (madeCells #[.int .i64 0] n) 3 n hz (by unfold maxLen;omega));have M2:=M1.and (Made.cells _ #[.slice none 0 0,.slice none 0 0,.map (some w.heap.size),.slice (some ⟨w.heap.size+1,0,none⟩) n n] 267);simp only[World.size_alloc] at M2;have hmm:∀w:World,(Instr.makeMap 264 none).run prog w=.ok (.map (some w.heap.size)) (w.alloc (.map #[] 0)):=λw=>by rfl
 have hG:Made (Cs (w.heap.size+2) (w.heap.size+1) w.heap.size n 0 (.slice none 0 0)) w (((w.alloc (.map #[] 0)).alloc (.cells (madeCells #[.int .i64 0] n) 3)).alloc (.cells #[.slice none 0 0,.slice none 0 0,.map (some w.heap.size),.slice (some ⟨w.heap.size+1,0,none⟩) n n] 267)):=by
  refine M2.conv (λh=>Ih ?_ (eu _ _ _) (eu _ _ _) (λb hb=>by cases hb) (λb hb=>by cases hb)) (λb hb=>?_)
  ·rw[Ij,<-List.map_replicate (f:=Value.int .i64),<-ints] at h;exact h
  ·rcases hb with hb|hb|hb|hb|hb
   ·exact .inr hb
   ·cases hb
   ·cases hb
   ·exact .inl (.inr hb)
   ·exact .inl (.inl hb)
 have hi1:(1:Int)<=n:=by omega
 have hi8:(n:Int)<=8:=by omega
 have HG:=hid hG;clear M0 M1 M2 m0 hG;go_enter func91,ntmps91;go_wp2
 generalize hW:((w.alloc (.map #[] 0)).alloc (.cells (madeCells #[.int .i64 0] n) 3)).alloc (.cells #[.slice none 0 0,.slice none 0 0,.map (some w.heap.size),.slice (some ⟨w.heap.size+1,0,none⟩) n n] 267)=W at*;obtain⟨mb,hmb⟩:∃mb,w.heap.size=mb:=⟨_,rfl⟩;obtain⟨nb,hnb⟩:∃nb,w.heap.size+1=nb:=⟨_,rfl⟩;obtain⟨rb,hrb⟩:∃rb,w.heap.size+2=rb:=⟨_,rfl⟩;rw[hrb,hnb,hmb] at HG;rw[hrb];clear hW hrb hnb hmb hmk hmm hz;go_loopw [17] (λi wr=> ∃(j:Nat) (lv:Value),j<=n/\i=.int .i64 j/\Made (Cs rb nb mb n j lv) w wr) (λi _=>n-(intOf i).toNat)
 case atStart=>exact⟨0,_,Nat.zero_le _,rfl,HG.out⟩
 case round=>
  obtain⟨j,lv,hj,rfl,hm⟩:=hrel;have HM:=hid hm;by_cases hlt:j<n
  ·have c0:wr.cell? ⟨rb,0,none⟩=some lv:=cA (aD.r0 hm.here) 0;have f0:=cZ (aD.r0 hm.here) 0;clear hm
   go_wp2_with (first
    |(at_builtin;go_must (refine fT nN rfl _ _ rfl rfl (aD.r1 HM.out.here) rfl rfl (by simp[Value.oneCell']) (by omega) (by omega) ?_);intro g cap w2 ht2
      have t2:=aD.t1 HM.out.here ht2;have t3:=t2.trans (aD.t0 t2.here (ai (aD.r0 t2.here) 0 (.slice (some ⟨g,0,none⟩) (j+1) cap)));have T3:=hid t3;have g0:w2.cell? ⟨rb,0,none⟩=some lv:=cA (aD.r0 t2.here) 0;have gf:=cZ (aD.r0 t2.here) 0;clear t2 t3 ht2))
   go_roundw;case rel=>
    refine⟨j+1,.slice (some ⟨g,0,none⟩) (j+1) cap,by omega,by go_num,?_⟩;have h:=HM.out.turn T3.out;unfold Cs;rw[show ints (Ii (j+1))=ints (Ii j) ++ (#[Value.int .i64 (-1),Value.int .i64 ↑j,Value.int .i64 ↑j,Value.int .i64 ↑j]).toList by simp[ints,Ii]];exact h
   case measure=>simp[intOf];omega
  ·have hjn:j=n:=by omega
   clear hm;go_wp2
   go_ret;subst hjn;exact⟨rb,nb,mb,_,rfl,HM.out⟩
theorem Il{w:World}{lv:Value}{j:Nat}{xs:List Value}(h:(rowAt lv 269 4 j xs).R w)(hj:0<j):∃lb lc,lv=.slice (some ⟨lb,0,none⟩) j lc:=by
 rcases h.2 with ⟨rfl,hx⟩|⟨g,cap,cur,rfl,_⟩
 ·have:=h.1;simp_all
 ·exact⟨g,cap,rfl⟩
theorem D8(w:World):Calls prog 91 #[.int .i64 1] w λe w'=>
 ∃rb lb lc nb mb,e=.returned (.pointer (some ⟨rb,0,none⟩))/\Made (dB rb lb lc nb mb 1 1 (.slice none 0 0) [-1,0,0,0] [] [0] 0 none) w w':=
 (Ik 1 (by decide) (by decide) w).mono λe w' ⟨rb,nb,mb,lv,he,hm⟩=>by
  obtain⟨lb,lc,rfl⟩:=Il (aD.r1 hm.here) (by decide);exact⟨rb,lb,lc,nb,mb,he,hm⟩
open Go.RowKit Go.PlainAid Go.Shelf
def lH:ByteArray:=⟨#[48,49,50,51,52,53,54,55,56,57]⟩
theorem uk(s:ByteArray)(w:World)(hs:s.size<=1000):Calls prog 272 #[.string s,.string lH] w λe w'=>e=.returned (.string ⟨(Lib.trimS s.data.toList lH.data.toList).toArray⟩)/\Below w.heap.size w w':=
 Any.strings_Trim_laid Tryz.Nf (by kernel_rfl) s lH w (by omega) (by decide) (ascii_of_all (by decide))
structure Dg(s:ByteArray)(k:Nat):Prop where
 trim:Lib.trimS s.data.toList lH.data.toList= []
 pos:0<s.size
 le:s.size<=k
theorem rH{s:ByteArray}{k:Nat}(h:Dg s k)(hk:k<=100)(w:World):Calls prog 226 #[.string s,.int .i64 k] w λe w'=>e=.returned (.bool true)/\Below w.heap.size w w':=by
 have h1:=(W2.bu h.pos).1;have h2:(s.size:Int)<=(k:Int):=by have:=h.le;omega
 have HT:=hid (uk s w (by have:=h.le;omega));rw[h.trim] at HT;clear h;go_enter func226,ntmps226
 go_wp2_with (first
  |(go_at_call 272;refine HT.out.mono ?_;rintro e w1 ⟨rfl,hb⟩))
 go_ret;exact⟨rfl,hb⟩
theorem um{s:ByteArray}{u:Nat}(h:Dg s 20)(hu:Lib.parseUintB 64 s.data.toList=.ok u)(w:World):Calls prog 173 #[.string s] w λe w'=>e=.returned (.tuple #[.int .u64 u,.bool true])/\Below w.heap.size w w':=by
 have HD:=hid (rH h (by decide) w);have HP:=hid (λw'=>Tryz.strconv_ParseUint_10_at64_ok s (by have:=h.le;omega) u hu w');clear h hu;go_enter func173,ntmps173
 go_wp2_with (first
  |(go_at_call 226;refine HD.out.mono ?_;rintro e w1 ⟨rfl,hb⟩)
  |(go_at_call 227;refine(HP.out _).mono ?_;rintro e w2 ⟨rfl,hb2⟩))
 go_ret2;refine⟨rfl,?_⟩;rcases hb2 with rfl|rfl
 ·exact hb
 ·exact hb.trans (Joins.below_bytesWorld _ _ _ _ hb.size)
theorem Au{s:ByteArray}{u:Int}(h:Dg s 19)(ht:Lib.trimPrefix s.data.toList [45]=s.data.toList)(hu:Lib.parseIntB 64 s.data.toList=.ok u)(w:World):Calls prog 360 #[.string s] w λe w'=>e=.returned (.tuple #[.int .i64 u,.bool true])/\Below w.heap.size w w':=by
 have HD:=hid (rH h (by decide) w);have HX:=hid (Tryz.strings_TrimPrefix s ⟨#[45]⟩ w);rw[show (⟨#[45]⟩:ByteArray).data.toList= [45] from rfl,ht,show (⟨s.data.toList.toArray⟩:ByteArray)=s from rfl] at HX;have HP:=hid (λw'=>Tryz.strconv_ParseInt_10_at64_ok s (by have:=h.le;omega) u hu w');clear h hu ht;go_enter func360,ntmps360
 go_wp2_with (first
  |(go_at_call 363;refine HX.out.mono ?_;rintro e w1 ⟨rfl,rfl⟩)
  |(go_at_call 226;refine HD.out.mono ?_;rintro e w1 ⟨rfl,hb⟩)
  |(go_at_call 364;refine(HP.out _).mono ?_;rintro e w2 ⟨rfl,hb2⟩))
 go_ret2;refine⟨rfl,?_⟩;rcases hb2 with rfl|⟨t,rfl⟩
 ·exact hb
 ·exact hb.trans (Joins.below_bytesWorld _ _ _ _ hb.size)
def dec(n:Nat):ByteArray:=⟨(Lib.decDigits n).toArray⟩
theorem D9{n:Nat}(h:n<100)(w:World):Calls prog 141 #[.int .u64 n,.int .i64 10] w λe w'=>e=.returned (.string (dec n))/\w'=w:=by
 have HS:=hid (Tryz.internal_strconv_small n h w);have h1:(n:Int)<100:=by omega
 have h2:IntKind.i64.wrap (n:Int)=n:=by rw[IntKind.wrap_i64];omega
 go_enter func141,ntmps141
 go_wp2_with (first
  |(go_at_call 198;refine HS.out.mono ?_;rintro e w1 ⟨rfl,rfl⟩))
 go_ret;exact⟨rfl,rfl⟩
theorem rJ{n:Nat}(h:n<100)(w:World):Calls prog 27 #[.int .u64 n] w λe w'=>e=.returned (.string (dec n))/\w'=w:=by
 have HS:=hid (D9 h w);have HF:Hid (Calls prog 77 #[.int .u64 n,.int .i64 10] w λe w'=>e=.returned (.string (dec n))/\w'=w):=by
  refine hid ?_;go_enter func77,ntmps77
  go_wp2_with (first
   |(go_at_call 141;refine HS.out.mono ?_;rintro e w1 ⟨rfl,rfl⟩))
  go_ret;exact⟨rfl,rfl⟩
 go_enter func27,ntmps27
 go_wp2_with (first
  |(go_at_call 77;refine HF.out.mono ?_;rintro e w1 ⟨rfl,rfl⟩))
 go_ret;exact⟨rfl,rfl⟩
theorem ag.fresh{r r':aT}{w w' w'':World}{T:Nat->Prop}(h:ag r r' w w')(t:aP T w' w'')(hn:∀b,T b->w.heap.size<=b/\¬r'.B b):ag r r' w w'':=
 ⟨r'.keep h.here t (λb hb hx=>(hn b hx).2 hb),h.bL.trans t (λb hb=> .inr (hn b hb).1),λb hb=>h.nu b hb⟩
def aS(b:Nat):Nat->List Value->World->World
 |_,[],w=>w
 |i,v :: l,w=>aS b (i+1) l (w.setCell ⟨b,i,none⟩ v)
def aR:Nat->List Value->Array Value->Array Value
 |_,[],a=>a
 |i,v :: l,a=>aR (i+1) l (a.setIfInBounds i v)
theorem aK(b:Nat)(t:TypeId):∀(l:List Value) (i:Nat) (vs:Array Value) (w:World),(aG b vs t).R w->ag (aG b vs t) (aG b (aR i l vs) t) w (aS b i l w)
 | [],_,_,_,h=>ag.rfl' h
 |v :: l,i,_,_,h=>(ai h i v).trans (aK b t l (i+1) _ _ (ai h i v).here)
theorem fO(f:ByteArray)(w:World):Calls prog 344 #[.bool true,.string f] w λe w'=>e=.returned (.tuple #[])/\w=w':=by
 go_enter func344,ntmps344;go_wp2
 go_end0;exact⟨rfl,rfl⟩
theorem bO{w:World}{lb n cap:Nat}{a:Option Addr}(h:w.cell? ⟨lb,1,none⟩=some (.slice a n cap))(lo hi:Nat)(h1:lo<=n)(h2:n<=hi):
 Calls prog 342 #[.pointer (some ⟨lb,0,none⟩),.int .i64 lo,.int .i64 hi] w λe w'=>e=.returned (.tuple #[])/\w=w':=by
 have h3:(lo:Int)<=n:=by omega
 have h4:(n:Int)<=hi:=by omega
 go_enter func342,ntmps342
 go_wp2_with (first
  |(go_at_call 344;refine(fO _ _).mono ?_;rintro e w1 ⟨rfl,rfl⟩))
 go_end0;exact⟨rfl,rfl⟩
theorem Rz{w:World}{lb wb o n cap:Nat}{last:ByteArray}(h:w.cell? ⟨lb,1,none⟩=some (.slice (some ⟨wb,o,none⟩) (n+1) cap))(hl:w.cell? ⟨wb,o+n,none⟩=some (.string last))
 (hb:(last.toList == [110,111,114,101,112,108,121])=false) (hn:n<=1000000):
 Calls prog 347 #[.pointer (some ⟨lb,0,none⟩)] w λe w'=>e=.returned (.tuple #[])/\w=w':=by
 have h3:(0:Int)<(n:Int)+1:=by omega
 have h4:IntKind.i64.wrap ((n:Int)+1-1)=n:=by rw[IntKind.wrap_i64];omega
 have h5:IntKind.i64.wrap ((n:Int))=n:=by rw[IntKind.wrap_i64];omega
 go_enter func347,ntmps347;go_wp2
 go_end0;exact⟨rfl,rfl⟩
theorem Av{s:ByteArray}{u:Int}(h:Dg s 19)(ht:Lib.trimPrefix s.data.toList [45]=s.data.toList)(hu:Lib.parseIntB 64 s.data.toList=.ok u)(h1: -1099511627776<=u)(h2:u<=1099511627776)(w:World):
 Calls prog 348 #[.string s] w λe w'=>e=.returned (.tuple #[.int .i64 u,.bool true])/\Below w.heap.size w w':=by
 have HP:=hid (Au h ht hu w);clear h ht hu;go_enter func348,ntmps348
 go_wp2_with (first
  |(go_at_call 360;refine HP.out.mono ?_;rintro e w1 ⟨rfl,hb⟩))
 go_ret2;exact⟨rfl,hb⟩
theorem nO(w:World):Calls prog 350 #[] w λe w'=>e=.returned (.slice (some ⟨w.heap.size,0,none⟩) 5 5)/\
 w'=w.alloc (.cells #[.string ⟨#[115,101,116]⟩,.string ⟨#[97,100,100]⟩,.string ⟨#[114,101,112,108,97,99,101]⟩,.string ⟨#[97,112,112,101,110,100]⟩,.string ⟨#[112,114,101,112,101,110,100]⟩] 9):=by
 go_enter func350,ntmps350;go_wp2
 go_ret;exact⟨rfl,rfl⟩
structure Cm where
 (op mode:Int)
 (key value:ByteArray)
 (flags exp aF:Int)
 ah:Bool
 (delta aj:Int)
def Cm.vs(c:Cm):Array Value:=#[.int .i64 c.op,.int .i64 c.mode,.string c.key,.string c.value,.int .u32 c.flags,.int .i64 c.exp,.bool false,.int .u64 c.aF,.bool c.ah,.int .u64 c.delta,.int .u64 0,.bool false,.bool false,.int .i64 0,.int .i64 c.aj,.bool false]
def dR(kind:Int)(cs:Value)(quiet tokens:Bool):Value:=.agg #[.int .i64 kind,cs,.bool quiet,.bool tokens,.string ⟨#[]⟩,.string ⟨#[]⟩,.int .i64 0,.bool false,.string ⟨#[]⟩,.slice none 0 0,.string ⟨#[]⟩]
def aH:Array Value:=#[.int .i64 0,.slice none 0 0,.bool false,.bool false,.string ⟨#[]⟩,.string ⟨#[]⟩,.int .i64 0,.bool false,.string ⟨#[]⟩,.slice none 0 0,.string ⟨#[]⟩]
def uo(cs:Value)(q:Bool):List Value:=[.int .i64 1,cs,.bool q,.bool false,.string ⟨#[]⟩,.string ⟨#[]⟩,.int .i64 0,.bool false,.string ⟨#[]⟩,.slice none 0 0,.string ⟨#[]⟩]
theorem lI(cs:Value)(q:Bool):aR 0 (uo cs q) aH= #[.int .i64 1,cs,.bool q,.bool false,.string ⟨#[]⟩,.string ⟨#[]⟩,.int .i64 0,.bool false,.string ⟨#[]⟩,.slice none 0 0,.string ⟨#[]⟩]:=by
 simp[aR,uo,aH]
theorem iw{fn:Func}{k:Nat}(hres:fn.results= #[.cell k 33]){R:Ending->World->Prop}{tmps:Array Value}{W:World}{N:Nat}{v0 v1 v2 v3 v4 v5 v6 v7 v8 v9 v10:Value}
 (h2:tmps.getD k undef=.pointer (some ⟨N,0,none⟩)) (hb:(aG N #[v0,v1,v2,v3,v4,v5,v6,v7,v8,v9,v10] 33).R W)
 (hR:R (.returned (.agg #[v0,v1,v2,v3,v4,v5,v6,v7,v8,v9,v10])) W):
 bodyPost prog fn R .ret {tmps:=tmps,defers:=[]} W:=by
 refine bodyPost_ret (v:=.agg #[v0,v1,v2,v3,v4,v5,v6,v7,v8,v9,v10]) ?_ rfl hR;have h2':tmps[k]?.getD undef=.pointer (some ⟨N,0,none⟩):=by simpa using h2
 have x0:W.cell? ⟨N,0,none⟩=some v0:=cA hb 0;have x1:W.cell? ⟨N,1,none⟩=some v1:=cA hb 1;have x2:W.cell? ⟨N,2,none⟩=some v2:=cA hb 2;have x3:W.cell? ⟨N,3,none⟩=some v3:=cA hb 3;have x4:W.cell? ⟨N,4,none⟩=some v4:=cA hb 4;have x5:W.cell? ⟨N,5,none⟩=some v5:=cA hb 5;have x6:W.cell? ⟨N,6,none⟩=some v6:=cA hb 6;have x7:W.cell? ⟨N,7,none⟩=some v7:=cA hb 7;have x8:W.cell? ⟨N,8,none⟩=some v8:=cA hb 8;have x9:W.cell? ⟨N,9,none⟩=some v9:=cA hb 9;have lJ:W.cell? ⟨N,10,none⟩=some v10:=cA hb 10;simp[results,hres,go_sem,h2',x0,x1,x2,x3,x4,x5,x6,x7,x8,x9,lJ]
theorem bX{fn:Func}{k m:Nat}(hres:fn.results= #[.cell k 33,.tmp m]){R:Ending->World->Prop}{tmps:Array Value}{W:World}{N:Nat}{vm v0 v1 v2 v3 v4 v5 v6 v7 v8 v9 v10:Value}
 (h2:tmps.getD k undef=.pointer (some ⟨N,0,none⟩)) (hm:tmps.getD m undef=vm) (hb:(aG N #[v0,v1,v2,v3,v4,v5,v6,v7,v8,v9,v10] 33).R W)
 (hR:R (.returned (.tuple #[.agg #[v0,v1,v2,v3,v4,v5,v6,v7,v8,v9,v10],vm])) W):
 bodyPost prog fn R .ret {tmps:=tmps,defers:=[]} W:=by
 refine bodyPost_ret (v:=.tuple #[.agg #[v0,v1,v2,v3,v4,v5,v6,v7,v8,v9,v10],vm]) ?_ rfl hR;have h2':tmps[k]?.getD undef=.pointer (some ⟨N,0,none⟩):=by simpa using h2
 have h3':tmps[m]?.getD undef=vm:=by simpa using hm
 have x0:W.cell? ⟨N,0,none⟩=some v0:=cA hb 0;have x1:W.cell? ⟨N,1,none⟩=some v1:=cA hb 1;have x2:W.cell? ⟨N,2,none⟩=some v2:=cA hb 2;have x3:W.cell? ⟨N,3,none⟩=some v3:=cA hb 3;have x4:W.cell? ⟨N,4,none⟩=some v4:=cA hb 4;have x5:W.cell? ⟨N,5,none⟩=some v5:=cA hb 5;have x6:W.cell? ⟨N,6,none⟩=some v6:=cA hb 6;have x7:W.cell? ⟨N,7,none⟩=some v7:=cA hb 7;have x8:W.cell? ⟨N,8,none⟩=some v8:=cA hb 8;have x9:W.cell? ⟨N,9,none⟩=some v9:=cA hb 9;have lJ:W.cell? ⟨N,10,none⟩=some v10:=cA hb 10;simp[results,hres,go_sem,h2',h3',x0,x1,x2,x3,x4,x5,x6,x7,x8,x9,lJ]
theorem Im{w:World}{lb cb cap:Nat}{q:Bool}{c:Cm}(h:(rowAt (.slice (some ⟨cb,0,none⟩) 1 cap) 56 16 1 c.vs.toList).R w)(hq:w.cell? ⟨lb,4,none⟩=some (.bool q))(hne:lb≠cb):
 Calls prog 345 #[.pointer (some ⟨lb,0,none⟩),.slice (some ⟨cb,0,none⟩) 1 cap] w λe w'=>e=.returned (dR 1 (.slice (some ⟨cb,0,none⟩) 1 cap) q false)/\
  ag (rowAt (.slice (some ⟨cb,0,none⟩) 1 cap) 56 16 1 c.vs.toList) (rowAt (.slice (some ⟨cb,0,none⟩) 1 cap) 56 16 1 {c with aj:=-1}.vs.toList) w w':=by
 have t0:=(ag.rfl' h).alloc (.cells aH 33);have hc:1<=cap:=(lY h).1;have hl:cb<w.heap.size:=(rowAt (.slice (some ⟨cb,0,none⟩) 1 cap) 56 16 1 c.vs.toList).lt h rfl;have B0:=aA w aH 33;have t1:=t0.trans (aM t0.here 14 (.int .i64 (-1)));have e1:c.vs.toList.set 14 (.int .i64 (-1))= {c with aj:=-1}.vs.toList:=rfl;rw[e1] at t1;have c14:(w.alloc (.cells aH 33)).cell? ⟨cb,14,none⟩=some (.int .i64 c.aj):=aB t0.here 14 (by simp[Cm.vs]);have f14:=bn t0.here 14;have hlq:lb<w.heap.size:=by
  rcases Nat.lt_or_ge lb w.heap.size with h1|h1
  ·exact h1
  ·simp[World.cell?,Array.getElem?_eq_none h1] at hq
 have hq1:(w.alloc (.cells aH 33)).cell? ⟨lb,4,none⟩=some (.bool q):=((bA w _).cell (p:=⟨lb,4,none⟩) hlq).trans hq;have hq2:((w.alloc (.cells aH 33)).setCell ⟨cb,14,none⟩ (.int .i64 (-1))).cell? ⟨lb,4,none⟩=some (.bool q):=by
  rw[World.cell?_setCell_other _ _ _ _ (by simp)];exact hq1
 have B1:=(aG w.heap.size aH 33).keep B0 (aM t0.here 14 (.int .i64 (-1))).bL (λb hb hx=>by have e1:b=w.heap.size:=hb;have e2:some cb=some b:=hx;cases e2;omega);have T1:=hid t1;obtain⟨N,hN⟩:∃N,w.heap.size=N:=⟨_,rfl⟩;obtain⟨W,hW⟩:∃W,w.alloc (.cells aH 33)=W:=⟨_,rfl⟩;rw[hN] at hl hlq B1 B0;rw[hW] at T1 c14 f14 hq1 hq2 B1 B0;clear t0 t1 e1 h hq;go_enter func345,ntmps345;go_wp2
 try rw[hN]
 rw[show w.alloc (.cells #[.int .i64 0,.slice none 0 0,.bool false,.bool false,.string ⟨#[]⟩,.string ⟨#[]⟩,.int .i64 0,.bool false,.string ⟨#[]⟩,.slice none 0 0,.string ⟨#[]⟩] 33)=W from hW];have HN:=hid hN;clear hW hN;go_loopw [8] (λi wr=>(i=.int .i64 0/\wr=W)\/(i=.int .i64 1/\wr=W.setCell ⟨cb,14,none⟩ (.int .i64 (-1)))) (λi _=>1-(intOf i).toNat)
 case atStart=>exact .inl ⟨rfl,rfl⟩
 case round=>
  rcases hrel with ⟨rfl,hr⟩|⟨rfl,hr⟩
  ·subst hr;clear hq1 hq2;go_wp2
   go_roundw;case rel=>exact .inr ⟨by first|rfl|trivial|simp,by first|rfl|trivial|simp⟩
   case measure=>simp[intOf]
  ·subst hr;clear hq1 c14 f14;obtain⟨W1,hW1⟩:∃W1,W.setCell ⟨cb,14,none⟩ (.int .i64 (-1))=W1:=⟨_,rfl⟩;rw[hW1] at hq2 B1 T1⊢;clear hW1;have k0:W1.cell? ⟨N,0,none⟩=some (.int .i64 0):=cA B1 0;have l0:=cZ B1 0;have k1:W1.cell? ⟨N,1,none⟩=some (.slice none 0 0):=cA B1 1;have l1:=cZ B1 1;have k2:W1.cell? ⟨N,2,none⟩=some (.bool false):=cA B1 2;have l2:=cZ B1 2;have k3:W1.cell? ⟨N,3,none⟩=some (.bool false):=cA B1 3;have l3:=cZ B1 3;have k4:W1.cell? ⟨N,4,none⟩=some (.string ⟨#[]⟩):=cA B1 4;have l4:=cZ B1 4;have k5:W1.cell? ⟨N,5,none⟩=some (.string ⟨#[]⟩):=cA B1 5;have l5:=cZ B1 5;have k6:W1.cell? ⟨N,6,none⟩=some (.int .i64 0):=cA B1 6;have l6:=cZ B1 6;have k7:W1.cell? ⟨N,7,none⟩=some (.bool false):=cA B1 7;have l7:=cZ B1 7;have k8:W1.cell? ⟨N,8,none⟩=some (.string ⟨#[]⟩):=cA B1 8;have l8:=cZ B1 8;have k9:W1.cell? ⟨N,9,none⟩=some (.slice none 0 0):=cA B1 9;have l9:=cZ B1 9;have k10:W1.cell? ⟨N,10,none⟩=some (.string ⟨#[]⟩):=cA B1 10;have l10:=cZ B1 10;have s1:=aK N 33 (uo (.slice (some ⟨cb,0,none⟩) 1 cap) q) 0 _ W1 B1;obtain⟨W2,hW2⟩:∃W2,aS N 0 (uo (.slice (some ⟨cb,0,none⟩) 1 cap) q) W1=W2:=⟨_,rfl⟩;rw[hW2,lI] at s1;simp only[aS,uo] at hW2;have S1:=hid s1;have HW2:=hid hW2;clear s1 B1 hW2;go_wp2
   rw[HW2.out];refine iw (N:=N) rfl rfl S1.out.here ⟨rfl,T1.out.fresh S1.out.bL (λb hb=>?_)⟩;have e1:b=N:=hb;subst e1;have hN:=HN.out;exact⟨by omega,λh=>by have e2:some cb=some b:=h;cases e2;omega⟩
theorem Inv.old{w0 w:World}{L:List aT}(h:Inv w0 L w){p:Addr}(hp:p.block<w0.heap.size):w.cell? p=w0.cell? p:=h.bel.cell hp
theorem aL{w:World}{b i:Nat}{v:Value}(h:w.cell? ⟨b,i,none⟩=some v):b<w.heap.size:=by
 rcases Nat.lt_or_ge b w.heap.size with h1|h1
 ·exact h1
 ·simp[World.cell?,Array.getElem?_eq_none h1] at h
theorem rM:Elem 30 56 16 136:=⟨underlying30,⟨.agg #[.int .i64 0,.int .i64 0,.string ⟨#[]⟩,.string ⟨#[]⟩,.int .u32 0,.int .i64 0,.bool false,.int .u64 0,.bool false,.int .u64 0,.int .u64 0,.bool false,.bool false,.int .i64 0,.int .i64 0,.bool false],by kernel_rfl,by kernel_rfl⟩,by decide⟩
def D_:Cm:=⟨0,0,⟨#[]⟩,⟨#[]⟩,0,0,0,false,0,0⟩
theorem NJ{w:World}{lb wb cap:Nat}{key:ByteArray}(h0:w.cell? ⟨lb,0,none⟩=some (.string ⟨#[103,101,116]⟩))(h1:w.cell? ⟨lb,1,none⟩=some (.slice (some ⟨wb,1,none⟩) 1 cap))(h4:w.cell? ⟨lb,4,none⟩=some (.bool false))
 (hk:w.cell? ⟨wb,1,none⟩=some (.string key)) (hkey:W2.aO key=true) (hks:key.size<=250):
 Calls prog 318 #[.pointer (some ⟨lb,0,none⟩)] w λe w'=> ∃cb cc,e=.returned (dR 1 (.slice (some ⟨cb,0,none⟩) 1 cc) false false)/\
  Made (rowAt (.slice (some ⟨cb,0,none⟩) 1 cc) 56 16 1 {D_ with op:=1,key:=key,aj:=-1}.vs.toList) w w':=by
 have l1:=aL h0;have l2:=aL hk;have i1:=(Inv.start w).new (aA w aH 33) (bA w _) (λb hb=>by have e:b=w.heap.size:=hb;omega);have i3:=i1.new (aA _ {D_ with op:=1}.vs 56) (bA _ _) (λb hb=>by have e:b=(w.alloc (.cells aH 33)).heap.size:=hb;omega);simp only[World.size_alloc] at i3;have HP:=hid (λw'=>Tryz.strings_HasPrefix ⟨#[103,101,116]⟩ ⟨#[103,97,116]⟩ w');have HK:=hid (λw'=>W2.dI key w' (by unfold maxLen;omega));rw[hkey] at HK;go_enter func318,ntmps318
 go_wp2_with (first
  |(go_at_call 294;refine(HP.out _).mono ?_;rintro e w1 ⟨rfl,rfl⟩)
  |(go_at_call 344;refine(fO _ _).mono ?_;rintro e w1 ⟨rfl,rfl⟩))
 obtain⟨N,hN⟩:∃N,w.heap.size=N:=⟨_,rfl⟩;obtain⟨W,hW⟩:∃W,(w.alloc (.cells aH 33)).alloc (.cells {D_ with op:=1}.vs 56)=W:=⟨_,rfl⟩;rw[hW] at i3;have hW':=hW;simp only[aH,Cm.vs,D_] at hW';rw[hW'];rw[hN] at i3 l1 l2⊢;have I3:=hid i3;clear hW hW' i1 i3;go_loopw [5,41] (λall i wr=>(i=.int .i64 0/\all=.slice none 0 0/\wr=W)\/(i=.int .i64 1/\∃g gc,all=.slice (some ⟨g,0,none⟩) 1 gc/\Hid (Inv w [rowAt (.slice (some ⟨g,0,none⟩) 1 gc) 56 16 1 {D_ with op:=1,key:=key}.vs.toList,aG (N+1) {D_ with op:=1,key:=key}.vs 56,aG N aH 33] wr))) (λ_ i _=>1-(intOf i).toNat)
 case atStart=>exact .inl ⟨rfl,rfl,rfl⟩
 case round=>
  rcases hrel with ⟨rfl,rfl,hr⟩|⟨rfl,g,gc,rfl,hI⟩
  ·subst hr;have k0:wr.cell? ⟨N+1,0,none⟩=some (.int .i64 1):=cA (I3.out.get 0 rfl) 0;have k1:wr.cell? ⟨N+1,1,none⟩=some (.int .i64 0):=cA (I3.out.get 0 rfl) 1;have k2:wr.cell? ⟨N+1,2,none⟩=some (.string ⟨#[]⟩):=cA (I3.out.get 0 rfl) 2;have k3:wr.cell? ⟨N+1,3,none⟩=some (.string ⟨#[]⟩):=cA (I3.out.get 0 rfl) 3;have k4:wr.cell? ⟨N+1,4,none⟩=some (.int .u32 0):=cA (I3.out.get 0 rfl) 4;have k5:wr.cell? ⟨N+1,5,none⟩=some (.int .i64 0):=cA (I3.out.get 0 rfl) 5;have k6:wr.cell? ⟨N+1,6,none⟩=some (.bool false):=cA (I3.out.get 0 rfl) 6;have k7:wr.cell? ⟨N+1,7,none⟩=some (.int .u64 0):=cA (I3.out.get 0 rfl) 7;have k8:wr.cell? ⟨N+1,8,none⟩=some (.bool false):=cA (I3.out.get 0 rfl) 8;have k9:wr.cell? ⟨N+1,9,none⟩=some (.int .u64 0):=cA (I3.out.get 0 rfl) 9;have k10:wr.cell? ⟨N+1,10,none⟩=some (.int .u64 0):=cA (I3.out.get 0 rfl) 10;have k11:wr.cell? ⟨N+1,11,none⟩=some (.bool false):=cA (I3.out.get 0 rfl) 11;have k12:wr.cell? ⟨N+1,12,none⟩=some (.bool false):=cA (I3.out.get 0 rfl) 12;have k13:wr.cell? ⟨N+1,13,none⟩=some (.int .i64 0):=cA (I3.out.get 0 rfl) 13;have k14:wr.cell? ⟨N+1,14,none⟩=some (.int .i64 0):=cA (I3.out.get 0 rfl) 14;have k15:wr.cell? ⟨N+1,15,none⟩=some (.bool false):=cA (I3.out.get 0 rfl) 15;have f2:=cZ (I3.out.get 0 rfl) 2;have kk:wr.cell? ⟨wb,1,none⟩=some (.string key):=(I3.out.old (p:=⟨wb,1,none⟩) (by rw[hN];exact l2)).trans hk;have i4:=I3.out.turn 0 rfl (ai (I3.out.get 0 rfl) 2 (.string key));have I4:=hid i4;have hsz:(wr.setCell ⟨N+1,2,none⟩ (.string key)).heap.size=wr.heap.size:=by simp
   clear i4
   go_wp2_with (first
    |(go_at_call 164;refine(HK.out _).mono ?_;rintro e w1 ⟨rfl,rfl⟩)
    |(go_at_call 344;refine(fO _ _).mono ?_;rintro e w1 ⟨rfl,rfl⟩)
    |(at_builtin;go_must (refine fT rM rfl _ _ rfl rfl (eu _ _ _) (by rw[hsz];rfl) rfl (by simp[Value.oneCell']) (by omega) (by omega) ?_);intro g gc w2 ht2
      have m2:=(Made.mk (eu _ _ _) (Below.refl _ _) (λb hb=>by cases hb)).turn ht2;have i5:=I4.out.new m2.here m2.bel m2.lo;have I5:=hid i5;clear i5 m2 ht2))
   go_roundw;case rel=>exact .inr ⟨by first|rfl|trivial|simp,g,gc,by first|rfl|trivial|simp,I5⟩
   case measure=>simp[intOf]
  ·have m0:wr.cell? ⟨lb,0,none⟩=some (.string ⟨#[103,101,116]⟩):=(hI.out.old (p:=⟨lb,0,none⟩) (by rw[hN];exact l1)).trans h0;have m4:wr.cell? ⟨lb,4,none⟩=some (.bool false):=(hI.out.old (p:=⟨lb,4,none⟩) (by rw[hN];exact l1)).trans h4;have hgN:N<=g:=by rw[<-hN];exact hI.out.lo _ (.head _) g rfl
   have HD:=hid (Im (hI.out.get 0 rfl) m4 (by omega));have HS:=hid (λw'=>Tryz.strings_HasSuffix ⟨#[103,101,116]⟩ ⟨#[115]⟩ w' (by decide));have XO:Lib.hasSuffix [103,101,116] [115]=false:=by decide
   go_wp2_with (first
    |(go_at_call 345;refine HD.out.mono ?_;rintro e w1 ⟨rfl,ht⟩
      have i5:=hI.out.turn 0 rfl ht;have m11:∀o,(w1.alloc o).cell? ⟨lb,0,none⟩=some (.string ⟨#[103,101,116]⟩):=λo=>((i5.below (bA w1 o)).old (p:=⟨lb,0,none⟩) (by rw[hN];exact l1)).trans h0
      have hb1:∀o,(aG N aH 33).R (w1.alloc o):=λo=>(i5.below (bA w1 o)).get 2 rfl
      have n0:∀o,(w1.alloc o).cell? ⟨N,0,none⟩=some (.int .i64 0):=λo=>cA (hb1 o) 0
      have f0:∀o,(w1.alloc o).frozen? ⟨N,0,none⟩=false:=λo=>cZ (hb1 o) 0
      have n1:∀o,(w1.alloc o).cell? ⟨N,1,none⟩=some (.slice none 0 0):=λo=>cA (hb1 o) 1
      have f1:∀o,(w1.alloc o).frozen? ⟨N,1,none⟩=false:=λo=>cZ (hb1 o) 1
      have n2:∀o,(w1.alloc o).cell? ⟨N,2,none⟩=some (.bool false):=λo=>cA (hb1 o) 2
      have f2:∀o,(w1.alloc o).frozen? ⟨N,2,none⟩=false:=λo=>cZ (hb1 o) 2
      have n3:∀o,(w1.alloc o).cell? ⟨N,3,none⟩=some (.bool false):=λo=>cA (hb1 o) 3
      have f3:∀o,(w1.alloc o).frozen? ⟨N,3,none⟩=false:=λo=>cZ (hb1 o) 3
      have n4:∀o,(w1.alloc o).cell? ⟨N,4,none⟩=some (.string ⟨#[]⟩):=λo=>cA (hb1 o) 4
      have f4:∀o,(w1.alloc o).frozen? ⟨N,4,none⟩=false:=λo=>cZ (hb1 o) 4
      have n5:∀o,(w1.alloc o).cell? ⟨N,5,none⟩=some (.string ⟨#[]⟩):=λo=>cA (hb1 o) 5
      have f5:∀o,(w1.alloc o).frozen? ⟨N,5,none⟩=false:=λo=>cZ (hb1 o) 5
      have n6:∀o,(w1.alloc o).cell? ⟨N,6,none⟩=some (.int .i64 0):=λo=>cA (hb1 o) 6
      have f6:∀o,(w1.alloc o).frozen? ⟨N,6,none⟩=false:=λo=>cZ (hb1 o) 6
      have n7:∀o,(w1.alloc o).cell? ⟨N,7,none⟩=some (.bool false):=λo=>cA (hb1 o) 7
      have f7:∀o,(w1.alloc o).frozen? ⟨N,7,none⟩=false:=λo=>cZ (hb1 o) 7
      have n8:∀o,(w1.alloc o).cell? ⟨N,8,none⟩=some (.string ⟨#[]⟩):=λo=>cA (hb1 o) 8
      have f8:∀o,(w1.alloc o).frozen? ⟨N,8,none⟩=false:=λo=>cZ (hb1 o) 8
      have n9:∀o,(w1.alloc o).cell? ⟨N,9,none⟩=some (.slice none 0 0):=λo=>cA (hb1 o) 9
      have f9:∀o,(w1.alloc o).frozen? ⟨N,9,none⟩=false:=λo=>cZ (hb1 o) 9
      have n10:∀o,(w1.alloc o).cell? ⟨N,10,none⟩=some (.string ⟨#[]⟩):=λo=>cA (hb1 o) 10
      have f10:∀o,(w1.alloc o).frozen? ⟨N,10,none⟩=false:=λo=>cZ (hb1 o) 10
      have he:∀(o:Obj) (tmps:Array Value),tmps.getD 2 undef=.pointer (some ⟨N,0,none⟩)->bodyPost prog f318 (λe w'=> ∃cb cc,e=.returned (dR 1 (.slice (some ⟨cb,0,none⟩) 1 cc) false false)/\
       Made (rowAt (.slice (some ⟨cb,0,none⟩) 1 cc) 56 16 1 {D_ with op:=1,key:=key,aj:=-1}.vs.toList) w w') .ret {tmps:=tmps,defers:=[]} (aS N 0 (uo (.slice (some ⟨g,0,none⟩) 1 gc) false) (w1.alloc o)):=λo tmps h2=>by
       have hs:=aK N 33 (uo (.slice (some ⟨g,0,none⟩) 1 gc) false) 0 _ (w1.alloc o) (hb1 o);have i6:=(i5.below (bA w1 o)).turn 2 rfl hs;rw[lI] at hs;exact iw (N:=N) rfl h2 hs.here ⟨g,gc,rfl,i6.get 0 rfl,i6.bel,i6.lo _ (.head _)⟩
      simp only[aS,uo] at he;have HE:=hid he;clear hb1 i5 ht he;simp only[dR])
    |(go_at_call 346;refine(HS.out _).mono ?_;rintro e w2 ⟨rfl,rfl⟩))
   exact HE.out _ _ rfl
structure aJ(D:Nat->Prop)(w0:World)(L:List aT)(w:World):Prop where
 all:∀r∈L,r.R w
 ap:L.Pairwise (λ(r s:aT)=> ∀b:Nat,r.B b->¬s.B b)
 lo:∀r∈L,∀b,r.B b->D b\/w0.heap.size<=b
 bL:aP D w0 w
def many(L:List aT):aT where
 R w:=(∀r∈L,r.R w)/\L.Pairwise (λ(r s:aT)=> ∀b:Nat,r.B b->¬s.B b)
 B b:=∃r∈L,r.B b
 keep h ht hd:=⟨λr hr=>r.keep (h.1 r hr) ht (λb hb=>hd b ⟨r,hr,hb⟩),h.2⟩
 lt h hx:=by
  obtain⟨r,hr,hb⟩:=hx;exact r.lt (h.1 r hr) hb
section
variable{D:Nat->Prop}{w0 w w':World}{L:List aT}
theorem aJ.open(h:(many L).R w):aJ (many L).B w L w:=⟨h.1,h.2,λr hr b hb=> .inl ⟨r,hr,hb⟩,aP.refl _ _⟩
theorem aJ.start{r:aT}(h:r.R w):aJ r.B w [r] w:=⟨λs hs=>by rw[List.mem_singleton.1 hs];exact h,List.pairwise_singleton _ _,λs hs b hb=> .inl (by rw[List.mem_singleton.1 hs] at hb;exact hb),aP.refl _ _⟩
theorem aJ.shut{r:aT}(h:aJ r.B w0 L w):ag r (many L) w0 w:=⟨⟨h.all,h.ap⟩,h.bL,λb hb=>by obtain⟨s,hs,hx⟩:=hb;exact h.lo s hs b hx⟩
theorem aJ.one{r s:aT}(h:aJ r.B w0 [s] w):ag r s w0 w:=⟨h.all s (.head _),h.bL,λb hb=>h.lo s (.head _) b hb⟩
theorem aJ.get(h:aJ D w0 L w)(i:Nat){r:aT}(hi:L[i]?=some r):r.R w:=h.all r (List.mem_of_getElem? hi)
theorem aJ.below(h:aJ D w0 L w)(hb:Below w.heap.size w w'):aJ D w0 L w':=
 ⟨λr hr=>r.keep (h.all r hr) (aP.of_below (λ_=>False) hb) (λ_ _ x=>x),h.ap,h.lo,h.bL.trans (aP.of_below (λ_=>False) hb) (λ_ x=>x.elim)⟩
theorem aJ.drewN(h:aJ D w0 L w)(n:Nat):aJ D w0 L (w.drewN n):=h.below (below_drewN' w n)
theorem aJ.drew(h:aJ D w0 L w):aJ D w0 L w.drew:=h.drewN 1
theorem aJ.alloc(h:aJ D w0 L w)(o:Obj):aJ D w0 L (w.alloc o):=h.below (bA w o)
theorem aJ.old(h:aJ D w0 L w){p:Addr}(hp:p.block<w0.heap.size)(hd:¬D p.block):w.cell? p=w0.cell? p:=by
 have:=h.bL.block p.block hp hd;simp[World.cell?,this]
theorem aJ.turn(h:aJ D w0 L w)(i:Nat){r r':aT}(hi:L[i]?=some r)(ht:ag r r' w w'):aJ D w0 (L.set i r') w':=by
 have hil:i<L.length:=(List.getElem?_eq_some_iff.1 hi).1;have DD:L[i]=r:=(List.getElem?_eq_some_iff.1 hi).2;have hap:=List.pairwise_iff_getElem.1 h.ap;have hapart:∀j (hj:j<L.length),j≠i->∀b,r.B b->¬(L[j]).B b:=λj hj hne b hb hx=>by
  rcases Nat.lt_or_gt_of_ne hne with h1|h1
  ·exact hap j i hj hil h1 b hx (by rw[DD];exact hb)
  ·exact hap i j hil hj h1 b (by rw[DD];exact hb) hx
 have hnew:∀j (hj:j<L.length),j≠i->∀b,r'.B b->¬(L[j]).B b:=λj hj hne b hb hx=>by
  rcases ht.nu b hb with h1|h1
  ·exact hapart j hj hne b h1 hx
  ·have:=(L[j]).lt (h.all _ (List.getElem_mem hj)) hx;omega
 refine⟨λs hs=>?_,List.pairwise_iff_getElem.2 λa b ha hb hab=>?_,λs hs=>?_,h.bL.trans ht.bL (λb hb=>h.lo r (List.mem_of_getElem? hi) b hb)⟩
 ·obtain⟨j,hj,rfl⟩:=List.mem_iff_getElem.1 hs;rw[List.length_set] at hj;by_cases e:i=j
  ·subst e;rw[List.getElem_set_self];exact ht.here
  ·rw[List.getElem_set_ne e];exact(L[j]).keep (h.all _ (List.getElem_mem hj)) ht.bL (λb hb hx=>hapart j hj (λe2=>e e2.symm) b hx hb)
 ·rw[List.length_set] at ha hb;intro x hx hy;by_cases e1:i=a
  ·subst e1;rw[List.getElem_set_self] at hx;rw[List.getElem_set_ne (by omega)] at hy;exact hnew b hb (by omega) x hx hy
  ·rw[List.getElem_set_ne e1] at hx;by_cases e2:i=b
   ·subst e2;rw[List.getElem_set_self] at hy;exact hnew a ha (by omega) x hy hx
   ·rw[List.getElem_set_ne e2] at hy;exact hap a b ha hb hab x hx hy
 ·obtain⟨j,hj,rfl⟩:=List.mem_iff_getElem.1 hs;rw[List.length_set] at hj;intro b hb;by_cases e:i=j
  ·subst e;rw[List.getElem_set_self] at hb;rcases ht.nu b hb with h1|h1
   ·exact h.lo r (List.mem_of_getElem? hi) b h1
   ·exact .inr (Nat.le_trans h.bL.size h1)
  ·rw[List.getElem_set_ne e] at hb;exact h.lo _ (List.getElem_mem hj) b hb
theorem aJ.new(h:aJ D w0 L w){r:aT}(hr:r.R w')(hb:Below w.heap.size w w')(hn:∀b,r.B b->w.heap.size<=b):aJ D w0 (r :: L) w':=by
 have h2:=h.below hb;refine⟨λs hs=>?_,List.pairwise_cons.2 ⟨λs hs b hb1 hx=>?_,h.ap⟩,λs hs b hb1=>?_,h2.bL⟩
 ·rcases List.mem_cons.1 hs with rfl|h1
  ·exact hr
  ·exact h2.all s h1
 ·have:=s.lt (h.all s hs) hx;have:=hn b hb1;omega
 ·rcases List.mem_cons.1 hs with rfl|h1
  ·exact .inr (Nat.le_trans h.bL.size (hn b hb1))
  ·exact h.lo s h1 b hb1
theorem aJ.made(h:aJ D w0 L w){r:aT}(m:Made r w w'):aJ D w0 (r :: L) w':=h.new m.here m.bel m.lo
theorem aJ.cells(h:aJ D w0 L w)(vs:Array Value)(t:TypeId):aJ D w0 (aG w.heap.size vs t :: L) (w.alloc (.cells vs t)):=h.made (Made.cells w vs t)
theorem aJ.sub(h:aJ D w0 L w){M:List aT}(hm:M.Sublist L):aJ D w0 M w:=
 ⟨λr hr=>h.all r (hm.subset hr),h.ap.sublist hm,λr hr=>h.lo r (hm.subset hr),h.bL⟩
theorem aJ.perm(h:aJ D w0 L w){M:List aT}(hm:M.Perm L):aJ D w0 M w:=
 ⟨λr hr=>h.all r (hm.subset hr),(hm.pairwise_iff (λhab b hb hx=>hab b hx hb)).2 h.ap,λr hr=>h.lo r (hm.subset hr),h.bL⟩
theorem aJ.apart(h:aJ D w0 L w){i j:Nat}{r s:aT}(hi:L[i]?=some r)(hj:L[j]?=some s)(hne:i≠j)(b:Nat)(hb:r.B b):¬s.B b:=by
 obtain⟨h1,e1⟩:=List.getElem?_eq_some_iff.1 hi;obtain⟨h2,e2⟩:=List.getElem?_eq_some_iff.1 hj;have hap:=List.pairwise_iff_getElem.1 h.ap;rcases Nat.lt_or_gt_of_ne hne with hl|hl
 ·have:=hap i j h1 h2 hl b;rw[e1,e2] at this;exact this hb
 ·have:=hap j i h2 h1 hl b;rw[e1,e2] at this;exact λhs=>this hs hb
end
open Go.Shelf Go.RowKit Go.PlainAid
theorem Io:(prog.info? 366).map (·.size)=some 2:=by kernel_rfl
theorem RA:liesAt prog prog.depth 366 (2 / prog.cellsOf 366) 0 366 1=true:=by kernel_rfl
theorem Aw:(prog.info? 5).map (λi=>(i.zero,i.size,i.bytes))=some (some (.int .u8 0),1,1):=by kernel_rfl
theorem rO(b:Nat)(w:World)(h0:w.cell? ⟨b,0,none⟩=some (.pointer (some ⟨b,0,none⟩))):
 Calls prog 295 #[.pointer (some ⟨b,0,none⟩)] w λe w'=>e=.returned (.tuple #[])/\w'=w:=by
 obtain⟨j,hj,_⟩:=Option.map_eq_some_iff.1 Io;go_enter func295,ntmps295;go_wp2
 rw[Lib.run_neq_ptr_same w _ underlying364 hj];go_wp2
 go_end0;exact⟨rfl,rfl⟩
theorem pO(b:Nat)(w:World)(h0:w.cell? ⟨b,0,none⟩=some (.pointer none))(hsh:w.shape? b=some (366,2))(hfz:w.frozen? ⟨b,0,none⟩=false):
 Calls prog 295 #[.pointer (some ⟨b,0,none⟩)] w λe w'=>e=.returned (.tuple #[])/\w'=w.setCell ⟨b,0,none⟩ (.pointer (some ⟨b,0,none⟩)):=by
 obtain⟨j,hj,hjs⟩:=Option.map_eq_some_iff.1 Io;go_enter func295,ntmps295;go_wp2
 rw[Lib.run_to_unsafe w ⟨b,0,none⟩ underlying364 underlying420 hj (by rw[hjs];decide) hsh (Nat.zero_lt_succ 1)];simp only[Result.andThen];rw[Oper.upon_value];go_wp2
 rw[run_callFunc_extern func323 (by kernel_rfl) (by kernel_rfl) (by kernel_rfl) (e:=Extern.AbiNoEscape.same) (by kernel_rfl)];rw[Lib.run_noEscape];simp only[Result.andThen];rw[Oper.upon_value];go_wp2
 rw[Lib.run_from_unsafe w ⟨b,0,none⟩ underlying420 underlying364 hj hsh RA];simp only[Result.andThen];rw[Oper.upon_value];go_wp2
 go_end0;exact⟨rfl,rfl⟩
theorem kV(B b:Nat)(bs:List Value)(w:World)(h:Lib.IsBuilder 366 5 B b bs w):
 Calls prog 295 #[.pointer (some ⟨b,0,none⟩)] w λe w'=>e=.returned (.tuple #[])/\(Lib.BuilderAt 366 5 B b (.pointer (some ⟨b,0,none⟩)) bs w'/\Below B w w'):=by
 rcases h with h|h
 ·refine(pO b w h.cell0 h.shape h.frozen0).mono ?_;rintro e w' ⟨rfl,rfl⟩;exact⟨rfl,h.used _,(Below.refl B w).setCell (p:=⟨b,0,none⟩) h.1 _⟩
 ·refine(rO b w h.cell0).mono ?_;rintro e w' ⟨rfl,rfl⟩;exact⟨rfl,h,Below.refl B _⟩
theorem jB(B b:Nat)(bs:List Value)(s:ByteArray)(w:World)(h:Lib.IsBuilder 366 5 B b bs w)(hlen:bs.length+s.size<=1000000000)(hpos:0<s.size)(hBw:B<=w.heap.size):
 Calls prog 261 #[.pointer (some ⟨b,0,none⟩),.string s] w λe w'=>e=.returned (.tuple #[.int .i64 s.size,.nilIface])/\(Lib.IsBuilder 366 5 B b (bs ++ Lib.strCells s) w'/\Below B w w'):=by
 obtain⟨i0,hi,hz0,hz1,hz2⟩:=info_parts Aw;go_enter func261,ntmps261;go_wp2_with (go_at_call 295;refine(kV B b bs _ h).mono ?_)
 rintro e w1 ⟨rfl,h1,hb1⟩;obtain⟨hB,v,hbk,hown,hne⟩:=h1;have c0:w1.cell? ⟨b,0,none⟩=some (.pointer (some ⟨b,0,none⟩)):=by rw[Lib.cell_of_heap hbk];rfl
 have c1:w1.cell? ⟨b,1,none⟩=some v:=by rw[Lib.cell_of_heap hbk];rfl
 go_wp2_with (at_builtin;go_must (refine Lib.wpList_append_own_string _ rfl _ _ 118 9 rfl B 5 i0 underlying118 underlying9 hi hz0 hz1 hz2 v bs.length bs rfl hown s rfl ?c3 ?c4 ?c5 ?_))
 case c3=>unfold maxLen;omega
 case c4=>omega
 case c5=>have:=hb1.size;omega
 intro v' w2 hown' hgrow _;have hlt:b<w1.heap.size:=by
  rcases Nat.lt_or_ge b w1.heap.size with h'|h'
  ·exact h'
  ·simp[Array.getElem?_eq_none h'] at hbk
 have hb2:w2.heap[b]?=some (.cells #[.pointer (some ⟨b,0,none⟩),v] 366 (0,0)):=by
  rw[hgrow.block b hlt (λe=>hne e.symm)];exact hbk
 have d0:w2.cell? ⟨b,0,none⟩=some (.pointer (some ⟨b,0,none⟩)):=by rw[Lib.cell_of_heap hb2];rfl
 have d1:w2.cell? ⟨b,1,none⟩=some v:=by rw[Lib.cell_of_heap hb2];rfl
 have f1:w2.frozen? ⟨b,1,none⟩=false:=Lib.frozen_of_heap hb2 1;obtain⟨g,cap,rfl⟩:∃g cap,v'=.slice (some ⟨g,0,none⟩) (bs.length+s.size) cap:=by
  rcases hown'.2 with ⟨_,h0⟩|⟨g,cap,cur,hv,_⟩
  ·omega
  ·exact⟨g,cap,hv⟩
 go_wp2
 go_ret2;refine⟨rfl,.inr ?_,?_⟩
 ·exact Lib.BuilderAt.put (T:=366) (e:=5) hB hb2 (bs':=bs ++ Lib.strCells s) (by simpa[Lib.strCells_length] using hown') (by decide)
 ·exact(hb1.grown hgrow (by have:=hb1.size;omega) (λk hk=>(hown.lt k hk).1)).setCell (p:=⟨b,1,none⟩) hB _
abbrev RD(rb lb lc nb mb N:Nat):aT:=dB rb lb lc nb mb 1 1 (.slice none 0 0) [-1,0,0,0] [] [0] N none
abbrev Ip(rb lb lc nb mb N:Nat)(fv:Value):aT:=dB rb lb lc nb mb 2 1 fv [-1,0,1,1,0,0,0,0] [] [1] N (some 1)
def ifA(rb:Nat):Value:=.iface 171 (.agg #[.pointer (some ⟨rb,0,none⟩)])
theorem Ea{w:World}{rb lb lc nb mb N:Nat}(h:(RD rb lb lc nb mb N).R w)(hN:N<=1000000)(x:Int):
 Calls prog 390 #[.agg #[.pointer (some ⟨rb,0,none⟩)],.int .i64 0,.int .u64 x] w λe w'=>e=.returned (.bool true)/\∃lb' Ib,ag (RD rb lb lc nb mb N) (Ip rb lb' Ib nb mb (N+1) (.slice none 0 0)) w w':=by
 have ha:=(ag.rfl' h).alloc (.cells #[.pointer (some ⟨rb,0,none⟩)] 171);have hc:=cA (aA w #[.pointer (some ⟨rb,0,none⟩)] 171) 0;have HR:=hid (Rw ha.here);have HF:=hid (Ic ha.here hN);have HA:=hid ha;clear h ha;go_enter func390,ntmps390
 go_wp2_with (first
  |(go_at_call 395;refine HR.out.mono ?_;rintro e w1 ⟨rfl,rfl⟩)
  |(go_at_call 396;refine HF.out.mono ?_;rintro e w1 ⟨rfl,lb',Ib,ht⟩))
 go_ret;exact⟨rfl,_,_,HA.out.trans ht⟩
theorem yz{w:World}{rb lb lc nb mb N:Nat}{fv:Value}(h:(Ip rb lb lc nb mb N fv).R w)(hN:N<=1000000):
 Calls prog 392 #[.agg #[.pointer (some ⟨rb,0,none⟩)],.int .i64 0] w λe w'=>e=.returned (.bool true)/\∃T_,ag (Ip rb lb lc nb mb N fv) (Ip rb lb lc nb mb (N+1) T_) w w':=by
 have ha:=(ag.rfl' h).alloc (.cells #[.pointer (some ⟨rb,0,none⟩)] 171);have hc:=cA (aA w #[.pointer (some ⟨rb,0,none⟩)] 171) 0;have HR:=hid (NI ha.here (by decide) (by decide) rfl);have HF:=hid (Ig ha.here hN);have HA:=hid ha;clear h ha;go_enter func392,ntmps392
 go_wp2_with (first
  |(go_at_call 395;refine HR.out.mono ?_;rintro e w1 ⟨rfl,rfl⟩)
  |(go_at_call 396;refine HF.out.mono ?_;rintro e w1 ⟨rfl,T_,ht⟩))
 go_ret;exact⟨rfl,_,HA.out.trans ht⟩
theorem Eb(w:World)(v:Value)(hv:v.cells.size=1)(n:Int):Calls prog 388 #[.agg #[v],.int .i64 n] w λe w'=>e=.returned (.tuple #[])/\Below w.heap.size w w':=by
 go_enter func388,ntmps388;go_wp2
 go_end0;exact⟨rfl,bA _ _⟩
structure PS where
 (Iq held:Bool)
 (pb rb lb lc nb mb sb ab N M:Nat)
 fv:Value
def PS.rows(s:PS):aT:=match s.held with
 |false=>RD s.rb s.lb s.lc s.nb s.mb s.N
 |true=>Ip s.rb s.lb s.lc s.nb s.mb s.N s.fv
def PS.v(s:PS):Value:=ifA s.rb
def mM(s:PS):aT:=(aG s.pb #[s.v] 175).and s.rows
def PS.num(s:PS):Nat:=s.N+s.M
theorem NK(k:Bool)(hk0:k=false)(w:World):Calls prog 44 #[.int .i64 (if k then 1 else 0)] w λe w'=> ∃s:PS,s.Iq=k/\s.held=false/\s.num=0/\e=.returned (.pointer (some ⟨s.pb,0,none⟩))/\Made (mM s) w w':=by
 subst hk0;simp only[Bool.false_eq_true,if_false];have HR:=hid (D8);go_enter func44,ntmps44
 go_wp2_with (first
  |(go_at_call 91;refine(HR.out _).mono ?_;rintro e w1 ⟨rb,lb,lc,nb,mb,rfl,h1⟩))
 go_ret;have h2:=h1.and (Made.cells _ #[ifA rb] 175);exact⟨⟨false,false,w1.heap.size,rb,lb,lc,nb,mb,0,0,0,0,.slice none 0 0⟩,rfl,rfl,rfl,rfl,h2.conv (λh=>⟨h.2.1,h.1,λb x y=>h.2.2 b y x⟩) (λb hb=>hb.elim .inr .inl)⟩
theorem NL{w:World}{s:PS}(h:(mM s).R w)(n:Int):Calls prog 237 #[.pointer (some ⟨s.pb,0,none⟩),.int .i64 n] w λe w'=>e=.returned (.tuple #[])/\Below w.heap.size w w':=by
 have c0:w.cell? ⟨s.pb,0,none⟩=some s.v:=cA h.1 0;clear h;obtain⟨Iq,held,pb,rb,lb,lc,nb,mb,sb,ab,N,M,fv⟩:=s;dsimp only at c0⊢;replace c0:w.cell? ⟨pb,0,none⟩=some (.iface 171 (.agg #[.pointer (some ⟨rb,0,none⟩)])):=c0;go_enter func237,ntmps237
 go_wp2_with (first
  |(go_at_call 388;refine(Eb _ _ rfl _).mono ?_;rintro e w1 ⟨rfl,hb⟩))
 go_end0;exact⟨rfl,hb⟩
theorem NM{w:World}{s:PS}(h:(mM s).R w)(hh:s.held=false)(hN:s.num<=1000000)(x:Int):Calls prog 196 #[.pointer (some ⟨s.pb,0,none⟩),.int .i64 0,.int .u64 x] w λe w'=>
 e=.returned (.bool true)/\∃s':PS,s'.Iq=s.Iq/\s'.held=true/\s'.pb=s.pb/\s'.num=s.num+1/\ag (mM s) (mM s') w w':=by
 have c0:w.cell? ⟨s.pb,0,none⟩=some s.v:=cA h.1 0;have H:=hid h;have h2:=h.2.1;clear h;obtain⟨Iq,held,pb,rb,lb,lc,nb,mb,sb,ab,N,M,fv⟩:=s;simp only[PS.num] at hN hh;subst hh;dsimp only at c0⊢;replace c0:w.cell? ⟨pb,0,none⟩=some (.iface 171 (.agg #[.pointer (some ⟨rb,0,none⟩)])):=c0;have HF:=hid (Ea (lb:=lb) (lc:=lc) (nb:=nb) (mb:=mb) (N:=N) h2 (by omega) x);clear h2;go_enter func196,ntmps196
 go_wp2_with (first
  |(go_at_call 390;refine HF.out.mono ?_;rintro e w1 ⟨rfl,lb',Ib,ht⟩))
 go_ret;refine⟨rfl,⟨Iq,true,pb,rb,lb',Ib,nb,mb,sb,ab,N+1,M,.slice none 0 0⟩,rfl,rfl,rfl,?_,ht.right H.out⟩;simp only[PS.num];omega
theorem Ec{w:World}{s:PS}(h:(mM s).R w)(hh:s.held=true)(hN:s.num<=1000000):Calls prog 123 #[.pointer (some ⟨s.pb,0,none⟩),.int .i64 0] w λe w'=>
 e=.returned (.bool true)/\∃s':PS,s'.Iq=s.Iq/\s'.held=true/\s'.pb=s.pb/\s'.num=s.num+1/\ag (mM s) (mM s') w w':=by
 have c0:w.cell? ⟨s.pb,0,none⟩=some s.v:=cA h.1 0;have H:=hid h;have h2:=h.2.1;clear h;obtain⟨Iq,held,pb,rb,lb,lc,nb,mb,sb,ab,N,M,fv⟩:=s;simp only[PS.num] at hN hh;subst hh;dsimp only at c0⊢;replace c0:w.cell? ⟨pb,0,none⟩=some (.iface 171 (.agg #[.pointer (some ⟨rb,0,none⟩)])):=c0;have HF:=hid (yz (lb:=lb) (lc:=lc) (nb:=nb) (mb:=mb) (N:=N) (fv:=fv) h2 (by omega));clear h2;go_enter func123,ntmps123
 go_wp2_with (first
  |(go_at_call 392;refine HF.out.mono ?_;rintro e w1 ⟨rfl,T_,ht⟩))
 go_ret;refine⟨rfl,⟨Iq,true,pb,rb,lb,lc,nb,mb,sb,ab,N+1,M,T_⟩,rfl,rfl,rfl,?_,ht.right H.out⟩;simp only[PS.num];omega
def emp:aT:=⟨λ_=>True,λ_=>False,λ_ _ _=>trivial,λ_ h=>h.elim⟩
def gy(c:Nat)(gm out:ByteArray):aT:=aG c #[.string gm,.string out,.int .i64 0,.bool false] 160
theorem Ir{w:World}{c:Nat}{gm out s:ByteArray}(h:(gy c gm out).R w)(hs:out.size+s.size<=70000):
 Calls prog 143 #[.pointer (some ⟨c,0,none⟩),.string s] w λe w'=>e=.returned (.tuple #[])/\ag (gy c gm out) (gy c gm (out ++ s)) w w':=by
 have k1:w.cell? ⟨c,1,none⟩=some (.string out):=cA h 1;have f1:=cZ h 1;have HT:=hid (ai h 1 (.string (out ++ s)));clear h;go_enter func143,ntmps143;go_wp2_with (fail)
 go_end0;exact⟨rfl,HT.out⟩
theorem yA{w:World}{c:Nat}{gm out:ByteArray}{n:Int}(h:(gy c gm out).R w)(hn:(out.size:Int)<=n):
 Calls prog 78 #[.pointer (some ⟨c,0,none⟩),.int .i64 n] w λe w'=>e=.returned (.string out)/\ag (gy c gm out) (gy c gm ⟨#[]⟩) w w':=by
 have k1:w.cell? ⟨c,1,none⟩=some (.string out):=cA h 1;have f1:=cZ h 1;have HT:=hid (ai h 1 (.string ⟨#[]⟩));have m1:max (0:Int) n=n:=by omega
 have m2:min n (out.size:Int)=out.size:=by omega
 have x1:out.extract 0 out.size=out:=by simp
 clear h;go_enter func78,ntmps78;go_wp2
 go_ret;exact⟨rfl,HT.out⟩
theorem Ct{w:World}{c:Nat}{gm out s:ByteArray}(h:(gy c gm out).R w)(hs:gm.size+s.size<=70000):
 Calls prog 41 #[.pointer (some ⟨c,0,none⟩),.string s] w λe w'=>e=.returned (.int .i64 s.size)/\ag (gy c gm out) (gy c (gm ++ s) out) w w':=by
 have k0:w.cell? ⟨c,0,none⟩=some (.string gm):=cA h 0;have k2:w.cell? ⟨c,2,none⟩=some (.int .i64 0):=cA h 2;have k3:w.cell? ⟨c,3,none⟩=some (.bool false):=cA h 3;have f0:=cZ h 0;have f2:=cZ h 2;have m1:min (0:Int) s.size=0:=by omega
 have e1:IntKind.i64.wrap (70000-(gm.size:Int))=70000-(gm.size:Int):=by rw[IntKind.wrap_i64];omega
 have m2:min (s.size:Int) (70000-(gm.size:Int))=s.size:=by omega
 have x1:s.extract 0 s.size=s:=by simp
 have w0:IntKind.i64.wrap 0=0:=by decide
 have w1:IntKind.i64.wrap ((s.size:Int))=s.size:=by rw[IntKind.wrap_i64];omega
 have h2:=ai h 2 (.int .i64 0);have HT:=hid ((h2.trans (ai h2.here 0 (.string (gm ++ s)))).drew);have k02:(w.setCell ⟨c,2,none⟩ (.int .i64 0)).cell? ⟨c,0,none⟩=some (.string gm):=cA h2.here 0;clear h h2;go_enter func41,ntmps41;go_wp2_with (fail)
 go_upto_region 8 with (fail)
 go_region_with (fail)
 all_goals (go_wp2_with fail)
 all_goals go_ret
 all_goals exact⟨by simp[w1],HT.out⟩
abbrev LP(w:World)(b:Nat)(v0 v1 v2:Value):Prop:=w.cell? ⟨b,0,none⟩=some v0/\w.cell? ⟨b,1,none⟩=some v1/\w.cell? ⟨b,2,none⟩=some v2
theorem vw{w:World}{b:Nat}{vs:Array Value}{t:TypeId}{v0 v1 v2:Value}(h:(aG b vs t).R w)(e:vs= #[v0,v1,v2]:=by rfl):LP w b v0 v1 v2:=by
 subst e;exact⟨cA h 0,cA h 1,cA h 2⟩
abbrev VA(w:World)(b:Nat)(v0 v1 v2 v3:Value):Prop:=w.cell? ⟨b,0,none⟩=some v0/\w.cell? ⟨b,1,none⟩=some v1/\w.cell? ⟨b,2,none⟩=some v2/\w.cell? ⟨b,3,none⟩=some v3
theorem NN{w:World}{b:Nat}{vs:Array Value}{t:TypeId}{v0 v1 v2 v3:Value}(h:(aG b vs t).R w)(e:vs= #[v0,v1,v2,v3]:=by rfl):VA w b v0 v1 v2 v3:=by
 subst e;exact⟨cA h 0,cA h 1,cA h 2,cA h 3⟩
abbrev ca8(w:World)(b:Nat)(v0 v1 v2 v3 v4 v5 v6 v7:Value):Prop:=w.cell? ⟨b,0,none⟩=some v0/\w.cell? ⟨b,1,none⟩=some v1/\w.cell? ⟨b,2,none⟩=some v2/\w.cell? ⟨b,3,none⟩=some v3/\w.cell? ⟨b,4,none⟩=some v4/\w.cell? ⟨b,5,none⟩=some v5/\w.cell? ⟨b,6,none⟩=some v6/\w.cell? ⟨b,7,none⟩=some v7
theorem Ed{w:World}{b:Nat}{vs:Array Value}{t:TypeId}{v0 v1 v2 v3 v4 v5 v6 v7:Value}(h:(aG b vs t).R w)(e:vs= #[v0,v1,v2,v3,v4,v5,v6,v7]:=by rfl):ca8 w b v0 v1 v2 v3 v4 v5 v6 v7:=by
 subst e;exact⟨cA h 0,cA h 1,cA h 2,cA h 3,cA h 4,cA h 5,cA h 6,cA h 7⟩
abbrev nP(w:World)(b:Nat)(v0 v1 v2 v3 v4 v5 v6 v7 v8 v9 v10:Value):Prop:=w.cell? ⟨b,0,none⟩=some v0/\w.cell? ⟨b,1,none⟩=some v1/\w.cell? ⟨b,2,none⟩=some v2/\w.cell? ⟨b,3,none⟩=some v3/\w.cell? ⟨b,4,none⟩=some v4/\w.cell? ⟨b,5,none⟩=some v5/\w.cell? ⟨b,6,none⟩=some v6/\w.cell? ⟨b,7,none⟩=some v7/\w.cell? ⟨b,8,none⟩=some v8/\w.cell? ⟨b,9,none⟩=some v9/\w.cell? ⟨b,10,none⟩=some v10
theorem jC{w:World}{b:Nat}{vs:Array Value}{t:TypeId}{v0 v1 v2 v3 v4 v5 v6 v7 v8 v9 v10:Value}(h:(aG b vs t).R w)(e:vs= #[v0,v1,v2,v3,v4,v5,v6,v7,v8,v9,v10]:=by rfl):nP w b v0 v1 v2 v3 v4 v5 v6 v7 v8 v9 v10:=by
 subst e;exact⟨cA h 0,cA h 1,cA h 2,cA h 3,cA h 4,cA h 5,cA h 6,cA h 7,cA h 8,cA h 9,cA h 10⟩
abbrev rP(w:World)(b:Nat)(v0 v1 v2 v3 v4 v5 v6 v7 v8 v9 v10 v11 v12:Value):Prop:=w.cell? ⟨b,0,none⟩=some v0/\w.cell? ⟨b,1,none⟩=some v1/\w.cell? ⟨b,2,none⟩=some v2/\w.cell? ⟨b,3,none⟩=some v3/\w.cell? ⟨b,4,none⟩=some v4/\w.cell? ⟨b,5,none⟩=some v5/\w.cell? ⟨b,6,none⟩=some v6/\w.cell? ⟨b,7,none⟩=some v7/\w.cell? ⟨b,8,none⟩=some v8/\w.cell? ⟨b,9,none⟩=some v9/\w.cell? ⟨b,10,none⟩=some v10/\w.cell? ⟨b,11,none⟩=some v11/\w.cell? ⟨b,12,none⟩=some v12
theorem kW{w:World}{b:Nat}{vs:Array Value}{t:TypeId}{v0 v1 v2 v3 v4 v5 v6 v7 v8 v9 v10 v11 v12:Value}(h:(aG b vs t).R w)(e:vs= #[v0,v1,v2,v3,v4,v5,v6,v7,v8,v9,v10,v11,v12]:=by rfl):rP w b v0 v1 v2 v3 v4 v5 v6 v7 v8 v9 v10 v11 v12:=by
 subst e;exact⟨cA h 0,cA h 1,cA h 2,cA h 3,cA h 4,cA h 5,cA h 6,cA h 7,cA h 8,cA h 9,cA h 10,cA h 11,cA h 12⟩
abbrev vB(w:World)(b:Nat)(v0 v1 v2 v3 v4 v5 v6 v7 v8 v9 v10 v11 v12 v13 v14 v15:Value):Prop:=w.cell? ⟨b,0,none⟩=some v0/\w.cell? ⟨b,1,none⟩=some v1/\w.cell? ⟨b,2,none⟩=some v2/\w.cell? ⟨b,3,none⟩=some v3/\w.cell? ⟨b,4,none⟩=some v4/\w.cell? ⟨b,5,none⟩=some v5/\w.cell? ⟨b,6,none⟩=some v6/\w.cell? ⟨b,7,none⟩=some v7/\w.cell? ⟨b,8,none⟩=some v8/\w.cell? ⟨b,9,none⟩=some v9/\w.cell? ⟨b,10,none⟩=some v10/\w.cell? ⟨b,11,none⟩=some v11/\w.cell? ⟨b,12,none⟩=some v12/\w.cell? ⟨b,13,none⟩=some v13/\w.cell? ⟨b,14,none⟩=some v14/\w.cell? ⟨b,15,none⟩=some v15
theorem oM{w:World}{b:Nat}{vs:Array Value}{t:TypeId}{v0 v1 v2 v3 v4 v5 v6 v7 v8 v9 v10 v11 v12 v13 v14 v15:Value}(h:(aG b vs t).R w)(e:vs= #[v0,v1,v2,v3,v4,v5,v6,v7,v8,v9,v10,v11,v12,v13,v14,v15]:=by rfl):vB w b v0 v1 v2 v3 v4 v5 v6 v7 v8 v9 v10 v11 v12 v13 v14 v15:=by
 subst e;exact⟨cA h 0,cA h 1,cA h 2,cA h 3,cA h 4,cA h 5,cA h 6,cA h 7,cA h 8,cA h 9,cA h 10,cA h 11,cA h 12,cA h 13,cA h 14,cA h 15⟩
abbrev vC(w:World)(b:Nat)(v0 v1 v2:Value):Prop:=w.cell? ⟨b,0,none⟩=some v0/\w.frozen? ⟨b,0,none⟩=false/\w.cell? ⟨b,1,none⟩=some v1/\w.frozen? ⟨b,1,none⟩=false/\w.cell? ⟨b,2,none⟩=some v2/\w.frozen? ⟨b,2,none⟩=false
theorem jD{w:World}{b:Nat}{vs:Array Value}{t:TypeId}{v0 v1 v2:Value}(h:(aG b vs t).R w)(e:vs= #[v0,v1,v2]:=by rfl):vC w b v0 v1 v2:=by
 subst e;exact⟨cA h 0,cZ h 0,cA h 1,cZ h 1,cA h 2,cZ h 2⟩
abbrev Iu(w:World)(b:Nat)(v0 v1 v2 v3:Value):Prop:=w.cell? ⟨b,0,none⟩=some v0/\w.frozen? ⟨b,0,none⟩=false/\w.cell? ⟨b,1,none⟩=some v1/\w.frozen? ⟨b,1,none⟩=false/\w.cell? ⟨b,2,none⟩=some v2/\w.frozen? ⟨b,2,none⟩=false/\w.cell? ⟨b,3,none⟩=some v3/\w.frozen? ⟨b,3,none⟩=false
theorem Cu{w:World}{b:Nat}{vs:Array Value}{t:TypeId}{v0 v1 v2 v3:Value}(h:(aG b vs t).R w)(e:vs= #[v0,v1,v2,v3]:=by rfl):Iu w b v0 v1 v2 v3:=by
 subst e;exact⟨cA h 0,cZ h 0,cA h 1,cZ h 1,cA h 2,cZ h 2,cA h 3,cZ h 3⟩
abbrev VB(w:World)(b:Nat)(v0 v1 v2 v3 v4:Value):Prop:=w.cell? ⟨b,0,none⟩=some v0/\w.frozen? ⟨b,0,none⟩=false/\w.cell? ⟨b,1,none⟩=some v1/\w.frozen? ⟨b,1,none⟩=false/\w.cell? ⟨b,2,none⟩=some v2/\w.frozen? ⟨b,2,none⟩=false/\w.cell? ⟨b,3,none⟩=some v3/\w.frozen? ⟨b,3,none⟩=false/\w.cell? ⟨b,4,none⟩=some v4/\w.frozen? ⟨b,4,none⟩=false
theorem VC{w:World}{b:Nat}{vs:Array Value}{t:TypeId}{v0 v1 v2 v3 v4:Value}(h:(aG b vs t).R w)(e:vs= #[v0,v1,v2,v3,v4]:=by rfl):VB w b v0 v1 v2 v3 v4:=by
 subst e;exact⟨cA h 0,cZ h 0,cA h 1,cZ h 1,cA h 2,cZ h 2,cA h 3,cZ h 3,cA h 4,cZ h 4⟩
abbrev NP(w:World)(b:Nat)(v0 v1 v2 v3 v4 v5 v6 v7:Value):Prop:=w.cell? ⟨b,0,none⟩=some v0/\w.frozen? ⟨b,0,none⟩=false/\w.cell? ⟨b,1,none⟩=some v1/\w.frozen? ⟨b,1,none⟩=false/\w.cell? ⟨b,2,none⟩=some v2/\w.frozen? ⟨b,2,none⟩=false/\w.cell? ⟨b,3,none⟩=some v3/\w.frozen? ⟨b,3,none⟩=false/\w.cell? ⟨b,4,none⟩=some v4/\w.frozen? ⟨b,4,none⟩=false/\w.cell? ⟨b,5,none⟩=some v5/\w.frozen? ⟨b,5,none⟩=false/\w.cell? ⟨b,6,none⟩=some v6/\w.frozen? ⟨b,6,none⟩=false/\w.cell? ⟨b,7,none⟩=some v7/\w.frozen? ⟨b,7,none⟩=false
theorem Iw{w:World}{b:Nat}{vs:Array Value}{t:TypeId}{v0 v1 v2 v3 v4 v5 v6 v7:Value}(h:(aG b vs t).R w)(e:vs= #[v0,v1,v2,v3,v4,v5,v6,v7]:=by rfl):NP w b v0 v1 v2 v3 v4 v5 v6 v7:=by
 subst e;exact⟨cA h 0,cZ h 0,cA h 1,cZ h 1,cA h 2,cZ h 2,cA h 3,cZ h 3,cA h 4,cZ h 4,cA h 5,cZ h 5,cA h 6,cZ h 6,cA h 7,cZ h 7⟩
abbrev gU(w:World)(b:Nat)(v0 v1 v2 v3 v4 v5 v6 v7 v8 v9 v10:Value):Prop:=w.cell? ⟨b,0,none⟩=some v0/\w.frozen? ⟨b,0,none⟩=false/\w.cell? ⟨b,1,none⟩=some v1/\w.frozen? ⟨b,1,none⟩=false/\w.cell? ⟨b,2,none⟩=some v2/\w.frozen? ⟨b,2,none⟩=false/\w.cell? ⟨b,3,none⟩=some v3/\w.frozen? ⟨b,3,none⟩=false/\w.cell? ⟨b,4,none⟩=some v4/\w.frozen? ⟨b,4,none⟩=false/\w.cell? ⟨b,5,none⟩=some v5/\w.frozen? ⟨b,5,none⟩=false/\w.cell? ⟨b,6,none⟩=some v6/\w.frozen? ⟨b,6,none⟩=false/\w.cell? ⟨b,7,none⟩=some v7/\w.frozen? ⟨b,7,none⟩=false/\w.cell? ⟨b,8,none⟩=some v8/\w.frozen? ⟨b,8,none⟩=false/\w.cell? ⟨b,9,none⟩=some v9/\w.frozen? ⟨b,9,none⟩=false/\w.cell? ⟨b,10,none⟩=some v10/\w.frozen? ⟨b,10,none⟩=false
theorem au{w:World}{b:Nat}{vs:Array Value}{t:TypeId}{v0 v1 v2 v3 v4 v5 v6 v7 v8 v9 v10:Value}(h:(aG b vs t).R w)(e:vs= #[v0,v1,v2,v3,v4,v5,v6,v7,v8,v9,v10]:=by rfl):gU w b v0 v1 v2 v3 v4 v5 v6 v7 v8 v9 v10:=by
 subst e;exact⟨cA h 0,cZ h 0,cA h 1,cZ h 1,cA h 2,cZ h 2,cA h 3,cZ h 3,cA h 4,cZ h 4,cA h 5,cZ h 5,cA h 6,cZ h 6,cA h 7,cZ h 7,cA h 8,cZ h 8,cA h 9,cZ h 9,cA h 10,cZ h 10⟩
abbrev iy(w:World)(b:Nat)(v0 v1 v2 v3 v4 v5 v6 v7 v8 v9 v10 v11 v12:Value):Prop:=w.cell? ⟨b,0,none⟩=some v0/\w.frozen? ⟨b,0,none⟩=false/\w.cell? ⟨b,1,none⟩=some v1/\w.frozen? ⟨b,1,none⟩=false/\w.cell? ⟨b,2,none⟩=some v2/\w.frozen? ⟨b,2,none⟩=false/\w.cell? ⟨b,3,none⟩=some v3/\w.frozen? ⟨b,3,none⟩=false/\w.cell? ⟨b,4,none⟩=some v4/\w.frozen? ⟨b,4,none⟩=false/\w.cell? ⟨b,5,none⟩=some v5/\w.frozen? ⟨b,5,none⟩=false/\w.cell? ⟨b,6,none⟩=some v6/\w.frozen? ⟨b,6,none⟩=false/\w.cell? ⟨b,7,none⟩=some v7/\w.frozen? ⟨b,7,none⟩=false/\w.cell? ⟨b,8,none⟩=some v8/\w.frozen? ⟨b,8,none⟩=false/\w.cell? ⟨b,9,none⟩=some v9/\w.frozen? ⟨b,9,none⟩=false/\w.cell? ⟨b,10,none⟩=some v10/\w.frozen? ⟨b,10,none⟩=false/\w.cell? ⟨b,11,none⟩=some v11/\w.frozen? ⟨b,11,none⟩=false/\w.cell? ⟨b,12,none⟩=some v12/\w.frozen? ⟨b,12,none⟩=false
theorem dM{w:World}{b:Nat}{vs:Array Value}{t:TypeId}{v0 v1 v2 v3 v4 v5 v6 v7 v8 v9 v10 v11 v12:Value}(h:(aG b vs t).R w)(e:vs= #[v0,v1,v2,v3,v4,v5,v6,v7,v8,v9,v10,v11,v12]:=by rfl):iy w b v0 v1 v2 v3 v4 v5 v6 v7 v8 v9 v10 v11 v12:=by
 subst e;exact⟨cA h 0,cZ h 0,cA h 1,cZ h 1,cA h 2,cZ h 2,cA h 3,cZ h 3,cA h 4,cZ h 4,cA h 5,cZ h 5,cA h 6,cZ h 6,cA h 7,cZ h 7,cA h 8,cZ h 8,cA h 9,cZ h 9,cA h 10,cZ h 10,cA h 11,cZ h 11,cA h 12,cZ h 12⟩
abbrev iA(w:World)(b:Nat)(v0 v1 v2 v3 v4 v5 v6 v7 v8 v9 v10 v11 v12 v13 v14 v15:Value):Prop:=w.cell? ⟨b,0,none⟩=some v0/\w.frozen? ⟨b,0,none⟩=false/\w.cell? ⟨b,1,none⟩=some v1/\w.frozen? ⟨b,1,none⟩=false/\w.cell? ⟨b,2,none⟩=some v2/\w.frozen? ⟨b,2,none⟩=false/\w.cell? ⟨b,3,none⟩=some v3/\w.frozen? ⟨b,3,none⟩=false/\w.cell? ⟨b,4,none⟩=some v4/\w.frozen? ⟨b,4,none⟩=false/\w.cell? ⟨b,5,none⟩=some v5/\w.frozen? ⟨b,5,none⟩=false/\w.cell? ⟨b,6,none⟩=some v6/\w.frozen? ⟨b,6,none⟩=false/\w.cell? ⟨b,7,none⟩=some v7/\w.frozen? ⟨b,7,none⟩=false/\w.cell? ⟨b,8,none⟩=some v8/\w.frozen? ⟨b,8,none⟩=false/\w.cell? ⟨b,9,none⟩=some v9/\w.frozen? ⟨b,9,none⟩=false/\w.cell? ⟨b,10,none⟩=some v10/\w.frozen? ⟨b,10,none⟩=false/\w.cell? ⟨b,11,none⟩=some v11/\w.frozen? ⟨b,11,none⟩=false/\w.cell? ⟨b,12,none⟩=some v12/\w.frozen? ⟨b,12,none⟩=false/\w.cell? ⟨b,13,none⟩=some v13/\w.frozen? ⟨b,13,none⟩=false/\w.cell? ⟨b,14,none⟩=some v14/\w.frozen? ⟨b,14,none⟩=false/\w.cell? ⟨b,15,none⟩=some v15/\w.frozen? ⟨b,15,none⟩=false
theorem bV{w:World}{b:Nat}{vs:Array Value}{t:TypeId}{v0 v1 v2 v3 v4 v5 v6 v7 v8 v9 v10 v11 v12 v13 v14 v15:Value}(h:(aG b vs t).R w)(e:vs= #[v0,v1,v2,v3,v4,v5,v6,v7,v8,v9,v10,v11,v12,v13,v14,v15]:=by rfl):iA w b v0 v1 v2 v3 v4 v5 v6 v7 v8 v9 v10 v11 v12 v13 v14 v15:=by
 subst e;exact⟨cA h 0,cZ h 0,cA h 1,cZ h 1,cA h 2,cZ h 2,cA h 3,cZ h 3,cA h 4,cZ h 4,cA h 5,cZ h 5,cA h 6,cZ h 6,cA h 7,cZ h 7,cA h 8,cZ h 8,cA h 9,cZ h 9,cA h 10,cZ h 10,cA h 11,cZ h 11,cA h 12,cZ h 12,cA h 13,cZ h 13,cA h 14,cZ h 14,cA h 15,cZ h 15⟩
abbrev Qd(w:World)(b:Nat)(v0 v1 v2 v3 v4 v5 v6 v7:Value):Prop:=w.cell? ⟨b,0,none⟩=some v0/\w.cell? ⟨b,1,none⟩=some v1/\w.cell? ⟨b,2,none⟩=some v2/\w.cell? ⟨b,3,none⟩=some v3/\w.cell? ⟨b,4,none⟩=some v4/\w.cell? ⟨b,5,none⟩=some v5/\w.cell? ⟨b,6,none⟩=some v6/\w.cell? ⟨b,7,none⟩=some v7
theorem Ay{w:World}{b:Nat}{n c E z:Nat}{vs:List Value}{v0 v1 v2 v3 v4 v5 v6 v7:Value}(h:(rowAt (.slice (some ⟨b,0,none⟩) n c) E z n vs).R w)(e:vs= [v0,v1,v2,v3,v4,v5,v6,v7]:=by rfl):Qd w b v0 v1 v2 v3 v4 v5 v6 v7:=by
 subst e;exact⟨aB h 0 (by simp),aB h 1 (by simp),aB h 2 (by simp),aB h 3 (by simp),aB h 4 (by simp),aB h 5 (by simp),aB h 6 (by simp),aB h 7 (by simp)⟩
abbrev RF(w:World)(b:Nat)(v0 v1 v2 v3 v4 v5 v6 v7 v8 v9 v10 v11 v12:Value):Prop:=w.cell? ⟨b,0,none⟩=some v0/\w.cell? ⟨b,1,none⟩=some v1/\w.cell? ⟨b,2,none⟩=some v2/\w.cell? ⟨b,3,none⟩=some v3/\w.cell? ⟨b,4,none⟩=some v4/\w.cell? ⟨b,5,none⟩=some v5/\w.cell? ⟨b,6,none⟩=some v6/\w.cell? ⟨b,7,none⟩=some v7/\w.cell? ⟨b,8,none⟩=some v8/\w.cell? ⟨b,9,none⟩=some v9/\w.cell? ⟨b,10,none⟩=some v10/\w.cell? ⟨b,11,none⟩=some v11/\w.cell? ⟨b,12,none⟩=some v12
theorem Qe{w:World}{b:Nat}{n c E z:Nat}{vs:List Value}{v0 v1 v2 v3 v4 v5 v6 v7 v8 v9 v10 v11 v12:Value}(h:(rowAt (.slice (some ⟨b,0,none⟩) n c) E z n vs).R w)(e:vs= [v0,v1,v2,v3,v4,v5,v6,v7,v8,v9,v10,v11,v12]:=by rfl):RF w b v0 v1 v2 v3 v4 v5 v6 v7 v8 v9 v10 v11 v12:=by
 subst e;exact⟨aB h 0 (by simp),aB h 1 (by simp),aB h 2 (by simp),aB h 3 (by simp),aB h 4 (by simp),aB h 5 (by simp),aB h 6 (by simp),aB h 7 (by simp),aB h 8 (by simp),aB h 9 (by simp),aB h 10 (by simp),aB h 11 (by simp),aB h 12 (by simp)⟩
abbrev RG(w:World)(b:Nat)(v0 v1 v2 v3 v4 v5 v6 v7:Value):Prop:=w.cell? ⟨b,0,none⟩=some v0/\w.frozen? ⟨b,0,none⟩=false/\w.cell? ⟨b,1,none⟩=some v1/\w.frozen? ⟨b,1,none⟩=false/\w.cell? ⟨b,2,none⟩=some v2/\w.frozen? ⟨b,2,none⟩=false/\w.cell? ⟨b,3,none⟩=some v3/\w.frozen? ⟨b,3,none⟩=false/\w.cell? ⟨b,4,none⟩=some v4/\w.frozen? ⟨b,4,none⟩=false/\w.cell? ⟨b,5,none⟩=some v5/\w.frozen? ⟨b,5,none⟩=false/\w.cell? ⟨b,6,none⟩=some v6/\w.frozen? ⟨b,6,none⟩=false/\w.cell? ⟨b,7,none⟩=some v7/\w.frozen? ⟨b,7,none⟩=false
theorem Qf{w:World}{b:Nat}{n c E z:Nat}{vs:List Value}{v0 v1 v2 v3 v4 v5 v6 v7:Value}(h:(rowAt (.slice (some ⟨b,0,none⟩) n c) E z n vs).R w)(e:vs= [v0,v1,v2,v3,v4,v5,v6,v7]:=by rfl):RG w b v0 v1 v2 v3 v4 v5 v6 v7:=by
 subst e;exact⟨aB h 0 (by simp),bn h 0,aB h 1 (by simp),bn h 1,aB h 2 (by simp),bn h 2,aB h 3 (by simp),bn h 3,aB h 4 (by simp),bn h 4,aB h 5 (by simp),bn h 5,aB h 6 (by simp),bn h 6,aB h 7 (by simp),bn h 7⟩
def fD{α:Type}(n:Nat)(f:Nat->α):List α:=(List.range n).map f
section
variable{α:Type}{n i:Nat}{f g:Nat->α}
theorem eB:(fD n f).length=n:=by simp[fD]
theorem bP(h:i<n):(fD n f)[i]?=some (f i):=by simp[fD,List.getElem?_range h]
theorem gz(x:α):(fD n f).set i x=fD n (PM.upd f i x):=by
 apply List.ext_getElem?;intro j;rw[List.getElem?_set];by_cases hj:j<n
 ·by_cases e:i=j
  ·subst e;rw[if_pos rfl,bP hj,if_pos (by rw[eB];exact hj),PM.upd_same]
  ·rw[if_neg e,bP hj,bP hj,PM.upd_ne _ _ (λe2=>e e2.symm)]
 ·have h1:(fD n f)[j]?=none:=List.getElem?_eq_none (by rw[eB];omega);have h2:(fD n (PM.upd f i x))[j]?=none:=List.getElem?_eq_none (by rw[eB];omega);rw[h1,h2];by_cases e:i=j
  ·subst e;rw[if_pos rfl,if_neg (by rw[eB];exact hj)]
  ·rw[if_neg e]
theorem rQ:fD (n+1) f=fD n f ++ [f n]:=by simp[fD,List.range_succ]
theorem gV(h:∀j,j<n->f j=g j):fD n f=fD n g:=by
 unfold fD;exact List.map_congr_left (λj hj=>h j (List.mem_range.1 hj))
end
def gp(n:Nat)(f:Nat->aT):aT:=many (fD n f)
section
variable{n i:Nat}{f:Nat->aT}{w w':World}{r':aT}
theorem bz(h:(gp n f).R w)(hi:i<n):(f i).R w:=h.1 _ (List.mem_of_getElem? (bP hi))
theorem fo(h:(gp n f).R w)(hi:i<n)(t:ag (f i) r' w w'):ag (gp n f) (gp n (PM.upd f i r')) w w':=by
 have h1:=((aJ.open h).turn i (bP hi) t).shut;rw[gz] at h1;exact h1
theorem Iy(w:World):(gp 0 f).R w:=⟨λr hr=>by simp[fD] at hr,by simp[fD]⟩
theorem RH(h:(gp n f).R w)(hr:(f n).R w)(ha:∀b,(gp n f).B b->¬(f n).B b):(gp (n+1) f).R w:=by
 unfold gp;rw[rQ];refine⟨λr hr'=>?_,List.pairwise_append.2 ⟨h.2,List.pairwise_singleton _ _,λr hr' s hs b hb hx=>?_⟩⟩
 ·rcases List.mem_append.1 hr' with h1|h1
  ·exact h.1 r h1
  ·rw[List.mem_singleton.1 h1];exact hr
 ·rw[List.mem_singleton.1 hs] at hx;exact ha b ⟨r,hr',hb⟩ hx
end
section
variable{D:Nat->Prop}{w0 w w':World}{L:List aT}{i n:Nat}{r r' a x:aT}{f:Nat->aT}
theorem ag.conv(h:r.R w)(hR:r.R w->r'.R w)(hB:∀b,r'.B b->r.B b):ag r r' w w:=⟨hR h,aP.refl _ _,λb hb=> .inl (hB b hb)⟩
theorem aJ.Iz(h:aJ D w0 L w)(i:Nat)(hi:L[i]?=some (many [a,x])):aJ D w0 (x :: L.set i a) w:=by
 have hil:i<L.length:=(List.getElem?_eq_some_iff.1 hi).1;have DD:L[i]=many [a,x]:=(List.getElem?_eq_some_iff.1 hi).2;have hR:=h.get i hi;have hra:a.R w:=hR.1 a (.head _);have hrx:x.R w:=hR.1 x (.tail _ (.head _));have hax:∀b,a.B b->¬x.B b:=(List.pairwise_cons.1 hR.2).1 x (.head _);have hap:=List.pairwise_iff_getElem.1 h.ap;have hne:∀j (hj:j<L.length),j≠i->∀b,(a.B b\/x.B b)->¬(L[j]).B b:=λj hj hne b hb hx=>by
  have hb':(many [a,x]).B b:=hb.elim (λh=>⟨a,.head _,h⟩) (λh=>⟨x,.tail _ (.head _),h⟩);rcases Nat.lt_or_gt_of_ne hne with h1|h1
  ·exact hap j i hj hil h1 b hx (by rw[DD];exact hb')
  ·exact hap i j hil hj h1 b (by rw[DD];exact hb') hx
 refine⟨λs hs=>?_,List.pairwise_cons.2 ⟨λs hs b hb hx=>?_,List.pairwise_iff_getElem.2 λj k hj hk hjk=>?_⟩,λs hs b hb=>?_,h.bL⟩
 ·rcases List.mem_cons.1 hs with rfl|h1
  ·exact hrx
  ·rcases List.mem_or_eq_of_mem_set h1 with h2|rfl
   ·exact h.all s h2
   ·exact hra
 ·obtain⟨j,hj,rfl⟩:=List.mem_iff_getElem.1 hs;rw[List.length_set] at hj;by_cases e:i=j
  ·subst e;rw[List.getElem_set_self] at hx;exact hax b hx hb
  ·rw[List.getElem_set_ne e] at hx;exact hne j hj (λe2=>e e2.symm) b (.inr hb) hx
 ·rw[List.length_set] at hj hk;intro b hx hy;by_cases e1:i=j
  ·subst e1;rw[List.getElem_set_self] at hx;rw[List.getElem_set_ne (by omega)] at hy;exact hne k hk (by omega) b (.inl hx) hy
  ·rw[List.getElem_set_ne e1] at hx;by_cases e2:i=k
   ·subst e2;rw[List.getElem_set_self] at hy;exact hne j hj (by omega) b (.inl hy) hx
   ·rw[List.getElem_set_ne e2] at hy;exact hap j k hj hk hjk b hx hy
 ·rcases List.mem_cons.1 hs with rfl|h1
  ·exact h.lo _ (List.mem_of_getElem? hi) b ⟨s,.tail _ (.head _),hb⟩
  ·rcases List.mem_or_eq_of_mem_set h1 with h2|rfl
   ·exact h.lo s h2 b hb
   ·exact h.lo _ (List.mem_of_getElem? hi) b ⟨s,.head _,hb⟩
theorem aJ.group(h:aJ D w0 (x :: L) w):aJ D w0 [many L,x] w:=by
 have hp:=List.pairwise_cons.1 h.ap;refine⟨λs hs=>?_,List.pairwise_cons.2 ⟨λs hs b hb hx=>?_,List.pairwise_singleton _ _⟩,λs hs b hb=>?_,h.bL⟩
 ·rcases List.mem_cons.1 hs with rfl|h1
  ·exact⟨λt ht=>h.all t (.tail _ ht),hp.2⟩
  ·rw[List.mem_singleton.1 h1];exact h.all x (.head _)
 ·rw[List.mem_singleton.1 hs] at hx;obtain⟨t,ht,hb⟩:=hb;exact hp.1 t ht b hx hb
 ·rcases List.mem_cons.1 hs with rfl|h1
  ·obtain⟨t,ht,hb⟩:=hb;exact h.lo t (.tail _ ht) b hb
  ·rw[List.mem_singleton.1 h1] at hb;exact h.lo x (.head _) b hb
theorem NQ(h:(gp n f).R w)(hi:i<n)(t:ag (f i) (many [a,x]) w w'):ag (gp n f) (many [gp n (PM.upd f i a),x]) w w':=by
 have h1:=((aJ.open h).turn i (bP hi) t).Iz i (by rw[gz,bP hi,PM.upd_same]);rw[List.set_set,gz] at h1;exact h1.group.shut
theorem aJ.pull(h:aJ D w0 L w)(i:Nat)(hi:L[i]?=some r)(t:ag r (many [a,x]) w w'):aJ D w0 (x :: L.set i a) w':=by
 have hil:i<L.length:=(List.getElem?_eq_some_iff.1 hi).1;have h1:=(h.turn i hi t).Iz i (by rw[List.getElem?_set_self hil]);rw[List.set_set] at h1;exact h1
theorem NR{s:aT}(h:(s.and r).R w)(t:ag r (many [a,x]) w w'):ag (s.and r) (many [s.and a,x]) w w':=by
 have t1:=t.right h;refine t1.trans (ag.conv t1.here (λk=>?_) (λb hb=>?_))
 ·have hax:∀b,a.B b->¬x.B b:=(List.pairwise_cons.1 k.2.1.2).1 x (.head _);refine⟨λu hu=>?_,List.pairwise_cons.2 ⟨λu hu b hb hx=>?_,List.pairwise_singleton _ _⟩⟩
  ·rcases List.mem_cons.1 hu with rfl|hu
   ·exact⟨k.1,k.2.1.1 a (.head _),λb hb hx=>k.2.2 b hb ⟨a,.head _,hx⟩⟩
   ·rw[List.mem_singleton.1 hu];exact k.2.1.1 x (.tail _ (.head _))
  ·rw[List.mem_singleton.1 hu] at hx;rcases hb with hb|hb
   ·exact k.2.2 b hb ⟨x,.tail _ (.head _),hx⟩
   ·exact hax b hb hx
 ·obtain⟨u,hu,hb⟩:=hb;rcases List.mem_cons.1 hu with rfl|hu
  ·exact hb.imp_right (λh=>⟨a,.head _,h⟩)
  ·rw[List.mem_singleton.1 hu] at hb;exact .inr ⟨x,.tail _ (.head _),hb⟩
end
section
variable{D:Nat->Prop}{w0 w w':World}{L:List aT}{i n:Nat}{r r' r1 a x:aT}{f:Nat->aT}
theorem aJ.push(h:aJ D w0 (x :: L) w)(i:Nat)(hi:L[i]?=some a)(hR:a.R w->x.R w->(∀b,a.B b->¬x.B b)->r'.R w)(hB:∀b,r'.B b->a.B b\/x.B b):aJ D w0 (L.set i r') w:=by
 have hil:i<L.length:=(List.getElem?_eq_some_iff.1 hi).1;have DD:L[i]=a:=(List.getElem?_eq_some_iff.1 hi).2;have hp:=List.pairwise_cons.1 h.ap;have hap:=List.pairwise_iff_getElem.1 hp.2;have hra:a.R w:=h.all a (.tail _ (List.mem_of_getElem? hi));have hrx:x.R w:=h.all x (.head _);have hne:∀j (hj:j<L.length),j≠i->∀b,r'.B b->¬(L[j]).B b:=λj hj hne b hb hx=>by
  rcases hB b hb with h1|h1
  ·rcases Nat.lt_or_gt_of_ne hne with h2|h2
   ·exact hap j i hj hil h2 b hx (by rw[DD];exact h1)
   ·exact hap i j hil hj h2 b (by rw[DD];exact h1) hx
  ·exact hp.1 _ (List.getElem_mem hj) b h1 hx
 refine⟨λs hs=>?_,List.pairwise_iff_getElem.2 λj k hj hk hjk=>?_,λs hs b hb=>?_,h.bL⟩
 ·rcases List.mem_or_eq_of_mem_set hs with h2|rfl
  ·exact h.all s (.tail _ h2)
  ·exact hR hra hrx (λb hb hx=>hp.1 a (List.mem_of_getElem? hi) b hx hb)
 ·rw[List.length_set] at hj hk;intro b hx hy;by_cases e1:i=j
  ·subst e1;rw[List.getElem_set_self] at hx;rw[List.getElem_set_ne (by omega)] at hy;exact hne k hk (by omega) b hx hy
  ·rw[List.getElem_set_ne e1] at hx;by_cases e2:i=k
   ·subst e2;rw[List.getElem_set_self] at hy;exact hne j hj (by omega) b hy hx
   ·rw[List.getElem_set_ne e2] at hy;exact hap j k hj hk hjk b hx hy
 ·rcases List.mem_or_eq_of_mem_set hs with h2|rfl
  ·exact h.lo s (.tail _ h2) b hb
  ·rcases hB b hb with h1|h1
   ·exact h.lo a (.tail _ (List.mem_of_getElem? hi)) b h1
   ·exact h.lo x (.head _) b h1
theorem IA(hi:i<n)(hR:(f i).R w->x.R w->(∀b,(f i).B b->¬x.B b)->r1.R w)(hB:∀b,r1.B b->(f i).B b\/x.B b):
 ((gp n f).R w->x.R w->(∀b,(gp n f).B b->¬x.B b)->(gp n (PM.upd f i r1)).R w)/\∀b,(gp n (PM.upd f i r1)).B b->(gp n f).B b\/x.B b:=by
 have hmem:∀s∈fD n (PM.upd f i r1),s∈fD n f\/s=r1:=λs hs=>by
  rw[<-gz] at hs;exact List.mem_or_eq_of_mem_set hs
 have hf:f i∈fD n f:=List.mem_of_getElem? (bP hi);refine⟨λh hx ha=>?_,λb hb=>?_⟩
 ·have H:aJ (λb=>(gp n f).B b\/x.B b) w (x :: fD n f) w:=⟨λs hs=>by
   rcases List.mem_cons.1 hs with rfl|h1
   ·exact hx
   ·exact h.1 s h1,List.pairwise_cons.2 ⟨λs hs b hb hy=>ha b ⟨s,hs,hy⟩ hb,h.2⟩,λs hs b hb=>by
   rcases List.mem_cons.1 hs with rfl|h1
   ·exact .inl (.inr hb)
   ·exact .inl (.inl ⟨s,h1,hb⟩),aP.refl _ _⟩
  have H2:=H.push i (bP hi) hR hB;rw[gz] at H2;exact⟨H2.all,H2.ap⟩
 ·obtain⟨s,hs,hb⟩:=hb;rcases hmem s hs with h1|rfl
  ·exact .inl ⟨s,h1,hb⟩
  ·rcases hB b hb with h1|h1
   ·exact .inl ⟨f i,hf,h1⟩
   ·exact .inr h1
end
end Go.Proofs.YtboehbfagnocpaaGreatDoor
