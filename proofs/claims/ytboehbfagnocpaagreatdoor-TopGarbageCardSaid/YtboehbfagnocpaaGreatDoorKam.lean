import Derived.Test.YtboehbfagnocpaaGreatDoorKak
import Derived.Test.YtboehbfagnocpaaGreatDoorKae
set_option linter.unusedVariables false
set_option linter.unusedSimpArgs false
set_option maxRecDepth 100000
set_option maxHeartbeats 40000000
open Go.Proofs.Tryz
open Go.Lib (hid)
namespace Go.Proofs.YtboehbfagnocpaaGreatDoor
open Go.RowKit Go.PlainAid Go.Shelf
structure X6(lb wb n cap:Nat)(name behind:ByteArray)(ws:List ByteArray)(w:World):Prop where
 c0:w.cell? ⟨lb,0,none⟩=some (.string name)
 c1:w.cell? ⟨lb,1,none⟩=some (.slice (some ⟨wb,1,none⟩) n cap)
 c2:w.cell? ⟨lb,2,none⟩=some (.string behind)
 c3:w.cell? ⟨lb,3,none⟩=some (.int .i64 0)
 c4:w.cell? ⟨lb,4,none⟩=some (.bool false)
 ws:∀i x,ws[i]?=some x->w.cell? ⟨wb,1+i,none⟩=some (.string x)
theorem X6.below{lb wb n cap:Nat}{name behind:ByteArray}{ws:List ByteArray}{w w':World}(h:X6 lb wb n cap name behind ws w)(hb:Below w.heap.size w w'):X6 lb wb n cap name behind ws w':=
 ⟨(hb.cell (p:=⟨lb,0,none⟩) (aL h.c0)).trans h.c0,(hb.cell (p:=⟨lb,1,none⟩) (aL h.c1)).trans h.c1,(hb.cell (p:=⟨lb,2,none⟩) (aL h.c2)).trans h.c2,(hb.cell (p:=⟨lb,3,none⟩) (aL h.c3)).trans h.c3,(hb.cell (p:=⟨lb,4,none⟩) (aL h.c4)).trans h.c4,
   λi x hi=>(hb.cell (p:=⟨wb,1+i,none⟩) (aL (h.ws i x hi))).trans (h.ws i x hi)⟩
structure LnN(fl ex ln:ByteArray)(f n:Nat)(x:Int):Prop where
 dl:Dg ln 20
 pl:Lib.parseUintB 64 ln.data.toList=.ok n
 df:Dg fl 20
 pf:Lib.parseUintB 64 fl.data.toList=.ok f
 de:Dg ex 19
 te:Lib.trimPrefix ex.data.toList [45]=ex.data.toList
 pe:Lib.parseIntB 64 ex.data.toList=.ok x
 hf:f<=4294967295
 hn:n<=1000
 h1: -1099511627776<=x
 h2:x<=1099511627776
def V_:List ByteArray:=[⟨#[115,101,116]⟩,⟨#[97,100,100]⟩,⟨#[114,101,112,108,97,99,101]⟩,⟨#[97,112,112,101,110,100]⟩,⟨#[112,114,101,112,101,110,100]⟩]
theorem oo(x:ByteArray){W:World}{M:Nat}(h:(aG M #[.string ⟨#[115,101,116]⟩,.string ⟨#[97,100,100]⟩,.string ⟨#[114,101,112,108,97,99,101]⟩,.string ⟨#[97,112,112,101,110,100]⟩,.string ⟨#[112,114,101,112,101,110,100]⟩] 9).R W):Calls prog 349 #[.slice (some ⟨M,0,none⟩) 5 5,.string x] W λe w'=>e=.returned (.int .i64 (Lib.idxOfS V_ x))/\w'=W:=
 Tryz.slices_Index_string M 0 5 5 V_ x W (by decide) (by decide) (λj hj=>by
  rw[Nat.zero_add];have:=cA h j;rw[this];have hj:j<5:=hj;rcases(by omega:j=0\/j=1\/j=2\/j=3\/j=4) with rfl|rfl|rfl|rfl|rfl<;>rfl)
theorem OT:Lib.idxOfS V_ ⟨#[115,101,116]⟩=0:=by decide+kernel
theorem oq(w:World)(vs:Array Value)(E size:Nat)(h:vs.size=size):Made (rowAt (.slice (some ⟨w.heap.size,0,none⟩) 1 1) E size 1 vs.toList) w (w.alloc (.cells vs E)):=
 ⟨⟨by simp[h],.inr ⟨w.heap.size,1,vs,rfl,Nat.zero_le _,heap_alloc_new w _,Nat.le_refl _,by decide,by omega,by rw[Nat.one_mul,<-h,<-Array.length_toList,List.take_length]⟩⟩,bA w _,λb hb=>by have e:some w.heap.size=some b:=hb;cases e;exact Nat.le_refl _⟩
theorem EW{w:World}{lb wb cap f n:Nat}{x:Int}{key fl ex ln behind:ByteArray}(hL:(aG lb #[.string ⟨#[115,101,116]⟩,.slice (some ⟨wb,1,none⟩) 4 cap,.string behind,.int .i64 0,.bool false] 395).R w)(hws:∀i x,[key,fl,ex,ln][i]?=some x->w.cell? ⟨wb,1+i,none⟩=some (.string x))(hn:LnN fl ex ln f n x)(hkey:W2.aO key=true)(hks:key.size<=250)
 (hlast:(ln.toList == [110,111,114,101,112,108,121])=false) (hb:n+2<=behind.size) (TV:behind.size<=100000) (hs:Lib.hasSuffix (behind.extract 0 (n+2)).data.toList [13,10]=true):
 Calls prog 319 #[.pointer (some ⟨lb,0,none⟩)] w λe w'=> ∃g,e=.returned (.tuple #[dR 1 (.slice (some ⟨g,0,none⟩) 1 1) false false,.bool false])/\
  ag (aG lb #[.string ⟨#[115,101,116]⟩,.slice (some ⟨wb,1,none⟩) 4 cap,.string behind,.int .i64 0,.bool false] 395)
   (many [aG lb #[.string ⟨#[115,101,116]⟩,.slice (some ⟨wb,1,none⟩) 4 cap,.string behind,.int .i64 (n+2:Nat),.bool false] 395,
    rowAt (.slice (some ⟨g,0,none⟩) 1 1) 56 16 1 {D_ with op:=2,key:=key,flags:=f,exp:=x,value:=⟨(Lib.trimSuffix (behind.extract 0 (n+2)).data.toList [13,10]).toArray⟩,aj:=-1}.vs.toList]) w w':=by
 have h:X6 lb wb 4 cap ⟨#[115,101,116]⟩ behind [key,fl,ex,ln] w:=⟨cA hL 0,cA hL 1,cA hL 2,cA hL 3,cA hL 4,hws⟩;have I0:=(aJ.start hL).cells aH 33;obtain⟨N,hN⟩:∃N,w.heap.size=N:=⟨_,rfl⟩;have B0:=bA w (.cells aH 33);obtain⟨W0,hW0⟩:∃W0,w.alloc (.cells aH 33)=W0:=⟨_,rfl⟩;rw[hW0] at B0 I0;rw[hN] at I0;have J0:=hid I0;clear I0 hL hws;have H0:=hid (h.below B0);have a0:=H0.out.c0;have a1:=H0.out.c1;have w3:W0.cell? ⟨wb,4,none⟩=some (.string ln):=H0.out.ws 3 ln rfl;have HO:=hid (Rz (n:=3) H0.out.c1 (H0.out.ws 3 ln rfl) hlast (by decide));have HC:=hid (bO H0.out.c1 4 4 (by decide) (by decide));have EX:=hid (λw'=>um hn.dl hn.pl w');have Jy:=hid (λw'=>um hn.df hn.pf w');have HP3:=hid (λw'=>Av hn.de hn.te hn.pe hn.h1 hn.h2 w');obtain⟨u,hu⟩:∃u:Int,(n:Int)=u:=⟨_,rfl⟩;obtain⟨v,hv⟩:∃v:Int,(f:Int)=v:=⟨_,rfl⟩;have hnn:u<=1073741824:=by have:=hn.hn;omega
 have LW:=hid (And.intro hb TV);rw[hu] at EX;rw[hv] at Jy;have B0':=hid B0;have HU:=hid (And.intro hu hv);have EY:=hid hn;have Wd:=hid hks;have yX:=hid hkey;have We:=hid hs;clear h B0 hu hv hn hb TV hks hs hkey;go_enter func319,ntmps319;go_wp2_with (fail)
 rw[show w.alloc (.cells #[.int .i64 0,.slice none 0 0,.bool false,.bool false,.string ⟨#[]⟩,.string ⟨#[]⟩,.int .i64 0,.bool false,.string ⟨#[]⟩,.slice none 0 0,.string ⟨#[]⟩] 33)=W0 from hW0];clear hW0
 go_wp2_with (first
  |(go_at_call 347;refine HO.out.mono ?_;rintro e w1 ⟨rfl,rfl⟩)
  |(go_at_call 342;refine HC.out.mono ?_;rintro e w1 ⟨rfl,rfl⟩))
 go_at_call 173;refine(EX.out _).mono ?_;rintro e w1 ⟨rfl,hb1⟩;have H1:=hid (H0.out.below hb1);have b1:=H1.out.c1;have x1:w1.cell? ⟨wb,2,none⟩=some (.string fl):=H1.out.ws 1 fl rfl;have HB1:=hid hb1;clear hb1
 go_wp2_with (first
  |(go_at_call 344;refine(fO _ _).mono ?_;rintro e w1 ⟨rfl,rfl⟩))
 go_at_call 173;refine(Jy.out _).mono ?_;rintro e w2 ⟨rfl,hb2⟩;have H2:=hid (H1.out.below hb2);have b2:=H2.out.c1;have x2:w2.cell? ⟨wb,3,none⟩=some (.string ex):=H2.out.ws 2 ex rfl;have HB2:=hid (HB1.out.trans (hb2.mono HB1.out.size));clear hb2 HB1 x1 b1 H1;go_wp2_with (fail)
 go_at_call 348;refine(HP3.out _).mono ?_;rintro e w4 ⟨rfl,hb3⟩;have H4:=hid (H2.out.below hb3);have gF:=hid (HB2.out.trans (hb3.mono HB2.out.size));clear hb3 HB2 x2 b2 H2;go_wp2_with (fail)
 have q0:=H4.out.c0;have q1:=H4.out.c1;have qk:w4.cell? ⟨wb,1,none⟩=some (.string key):=H4.out.ws 0 key rfl
 have HQ:Hid (∀w',Below w4.heap.size w4 w'->w'.cell? ⟨lb,0,none⟩=some (.string ⟨#[115,101,116]⟩)/\w'.cell? ⟨lb,1,none⟩=some (.slice (some ⟨wb,1,none⟩) 4 cap)/\w'.cell? ⟨wb,1,none⟩=some (.string key)):=
  hid (λw' hb=>⟨(H4.out.below hb).c0,(H4.out.below hb).c1,(H4.out.below hb).ws 0 key rfl⟩)
 have HI0:∀(V W':World),Below (V.heap.size+1) (V.alloc (.cells #[.string ⟨#[115,101,116]⟩,.string ⟨#[97,100,100]⟩,.string ⟨#[114,101,112,108,97,99,101]⟩,.string ⟨#[97,112,112,101,110,100]⟩,.string ⟨#[112,114,101,112,101,110,100]⟩] 9)) W'->Calls prog 349 #[.slice (some ⟨V.heap.size,0,none⟩) 5 5,.string ⟨#[115,101,116]⟩] W' λe w'=>e=.returned (.int .i64 0)/\w'=W':=
  (λV W' hb=>by
   have hm:=(Made.cells V #[.string ⟨#[115,101,116]⟩,.string ⟨#[97,100,100]⟩,.string ⟨#[114,101,112,108,97,99,101]⟩,.string ⟨#[97,112,112,101,110,100]⟩,.string ⟨#[112,114,101,112,101,110,100]⟩] 9).below (by simpa using hb);have:=oo ⟨#[115,101,116]⟩ hm.here;rw[OT] at this;exact this)
 have Qp:=hid (HI0 w4 _ (Below.refl _ _).drew);have Kj:=hid (λo:Obj=>HI0 (w4.alloc o) _ (Below.refl _ _).drew);have Qq:=hid (λo:Obj=>HI0 w4 _ ((Below.refl _ _).alloc (by simp) o).drew);simp only[World.size_alloc] at Kj;have HM:=hid (λW:World=>nO W);clear HI0;have MA:=λo:Obj=>(((Made.cells (w4.alloc o) #[.int .i64 2,.int .i64 0,.string key,.string ⟨#[]⟩,.int .u32 (IntKind.u32.wrap v),.int .i64 x,.bool false,.int .u64 0,.bool false,.int .u64 0,.int .u64 0,.bool false,.bool false,.int .i64 0,.int .i64 0,.bool false] 56).drew).here)
 simp only[World.size_alloc] at MA;have MB:=λo:Obj=>(((Made.cells w4 #[.int .i64 2,.int .i64 0,.string key,.string ⟨#[]⟩,.int .u32 (IntKind.u32.wrap v),.int .i64 x,.bool false,.int .u64 0,.bool false,.int .u64 0,.int .u64 0,.bool false,.bool false,.int .i64 0,.int .i64 0,.bool false] 56).below (bA _ o)).drew.here)
 have HMA:=hid MA;have HMB:=hid MB;clear MA MB;go_upto_region 10 with fail
 go_cut [11] from 63 to 80 (λs11 wx=> ∃cb,s11=.pointer (some ⟨cb,0,none⟩)/\Hid (Made (aG cb {D_ with op:=2,key:=key,flags:=IntKind.u32.wrap v,exp:=x}.vs 56) w4 wx))
 case first=>
  go_region_held3 (λw'=>w'.cell? ⟨lb,0,none⟩=some (.string ⟨#[115,101,116]⟩)/\w'.cell? ⟨lb,1,none⟩=some (.slice (some ⟨wb,1,none⟩) 4 cap)/\w'.cell? ⟨wb,1,none⟩=some (.string key)) (first|exact HQ.out _ (by go_grown)|fail) (first
   |(go_at_call 350;refine(HM.out _).mono ?_;rintro e w5 ⟨rfl,rfl⟩)
   |(go_at_call 349;(first|(with_reducible refine Qp.out.mono ?_)|(with_reducible refine(Kj.out _).mono ?_)|(with_reducible refine(Qq.out _).mono ?_));rintro e w6 ⟨rfl,rfl⟩))
  all_goals (go_wp2_with fail)
  all_goals (go_meet;refine⟨_,rfl,hid ⟨?_,by go_grown,λb hb=>?_⟩⟩)
  all_goals first
   |exact HMA.out _
   |exact HMB.out _
   |(have e1:b=w4.heap.size+1:=hb;omega)
   |(have e1:b=w4.heap.size:=hb;omega)
 case rest=>
  obtain⟨cb,rfl,hcut⟩:=hcut;have hu1:u<=1000:=by have:=EY.out.hn;have:=HU.out.1;omega
  have hu0:0<=u:=by have:=HU.out.1;omega
  have hv1:v<=4294967295:=by have:=EY.out.hf;have:=HU.out.2;omega
  have hv0:0<=v:=by have:=HU.out.2;omega
  have J1:=hid (((J0.out.below gF.out).made hcut.out));have HX:=hid (H4.out.below hcut.out.bel);have e1:IntKind.u32.wrap v=v:=by rw[IntKind.wrap_u32];omega
  have e2:IntKind.i64.wrap u=u:=by rw[IntKind.wrap_i64];omega
  have e3:IntKind.i64.wrap (u+2)=u+2:=by rw[IntKind.wrap_i64];omega
  rw[e1] at J1;have z2:wc.cell? ⟨cb,2,none⟩=some (.string key):=cA (J1.out.get 0 rfl) 2;have y2:=HX.out.c2;have y3:=HX.out.c3;have yf:=cZ (J1.out.get 2 rfl) 3;have g1:¬v > 4294967295:=by omega
  have g2:¬u > 65536:=by omega
  have g3:¬(behind.size:Int)<u+2:=by have:=LW.out.1;have:=HU.out.1;omega
  have HK:=hid (λw'=>W2.dI key w' (by have:=Wd.out;unfold maxLen;omega));rw[yX.out] at HK;clear H4 gF J0 Qp Kj Qq HM HQ H0 HMA HMB hcut EX Jy HP3 HO HC;have E5:=hid (λw'=>Tryz.strings_CutSuffix (behind.extract 0 (u+2).toNat) ⟨#[13,10]⟩ w' (by have:=LW.out;simp;omega));have e4:(u+2).toNat=n+2:=by have:=HU.out.1;omega
  have e5:Lib.hasSuffix (behind.extract 0 (u+2).toNat).data.toList [13,10]=true:=by rw[e4];exact We.out
  have HE4:=hid e4;rw[show (⟨#[13,10]⟩:ByteArray).data.toList= [13,10] from rfl] at E5;obtain⟨val,hval⟩:∃val:ByteArray,⟨(Lib.trimSuffix (behind.extract 0 (u+2).toNat).data.toList [13,10]).toArray⟩=val:=⟨_,rfl⟩;rw[e5,hval] at E5;have HV:=hid hval;clear e4 e5 hval;obtain⟨k0,c0,k1,c1,k2,c2,k3,c3,k4,c4,k5,c5,k6,c6,k7,c7,k8,c8,k9,c9,k10,c10,k11,c11,k12,c12,k13,c13,k14,c14,k15,c15⟩:iA wc cb (.int .i64 2) (.int .i64 0) (.string key) (.string ⟨#[]⟩) (.int .u32 v) (.int .i64 x) (.bool false) (.int .u64 0) (.bool false) (.int .u64 0) (.int .u64 0) (.bool false) (.bool false) (.int .i64 0) (.int .i64 0) (.bool false):=bV (J1.out.get 0 rfl);have hne:¬cb=lb:=λe=>J1.out.apart (i:=0) (j:=2) rfl rfl (by decide) cb rfl e
  have hne2:¬lb=cb:=λe=>hne e.symm
  have J2:=J1.out.turn 2 rfl (ai (J1.out.get 2 rfl) 3 (.int .i64 (u+2)));have J3:=J2.turn 0 rfl (ai (J2.get 0 rfl) 3 (.string val));have J4:=J3.made (oq _ #[.int .i64 2,.int .i64 0,.string key,.string val,.int .u32 v,.int .i64 x,.bool false,.int .u64 0,.bool false,.int .u64 0,.int .u64 0,.bool false,.bool false,.int .i64 0,.int .i64 0,.bool false] 56 16 rfl);have hsz:((wc.setCell ⟨lb,3,none⟩ (.int .i64 (u+2))).setCell ⟨cb,3,none⟩ (.string val)).heap.size=wc.heap.size:=by simp
  rw[hsz] at J4;have HD:=hid (Im (c:={D_ with op:=2,key:=key,flags:=v,exp:=x,value:=val}) (J4.get 0 rfl) (cA (J4.get 3 rfl) 4) (by have:=aL y2;omega));have J5:=hid J4;clear J2 J3 J4
  go_wp2_with (first
   |(go_at_call 164;refine(HK.out _).mono ?_;rintro e w6 ⟨rfl,rfl⟩)
   |(go_at_call 316;refine(E5.out _).mono ?_;rintro e w6 ⟨rfl,rfl⟩)
   |(go_at_call 345;refine HD.out.mono ?_;rintro e w1 ⟨rfl,ht⟩
     have J6:=J5.out.turn 0 rfl ht;have hb1:(aG N aH 33).R w1:=J6.get 2 rfl;obtain⟨n0,p0,n1,p1,n2,p2,n3,p3,n4,p4,n5,p5,n6,p6,n7,p7,n8,p8,n9,p9,n10,bE⟩:gU w1 N (.int .i64 0) (.slice none 0 0) (.bool false) (.bool false) (.string ⟨#[]⟩) (.string ⟨#[]⟩) (.int .i64 0) (.bool false) (.string ⟨#[]⟩) (.slice none 0 0) (.string ⟨#[]⟩):=au (hb1);have J7:=hid J6;clear J6 ht hb1;simp only[dR]))
  have hs:=aK N 33 (uo (.slice (some ⟨wc.heap.size,0,none⟩) 1 1) false) 0 _ w1 (J7.out.get 2 rfl);have J8:=(J7.out.turn 2 rfl hs);rw[lI] at hs;simp only[aS,uo] at hs J8;simp only[List.set] at J8;obtain⟨hu,hv⟩:=HU.out;subst hu hv;have hval:=HV.out;rw[HE4.out] at hval;subst hval;refine bX (N:=N) rfl rfl rfl hs.here ⟨_,rfl,?_⟩;exact((J8.sub (.cons_cons _ (.cons _ (.cons _ (.cons_cons _ .slnil))))).perm (.swap _ _ _)).shut
theorem Kk(rb mb:Nat)(w:World):CallsD prog 317 #[.pointer (some ⟨rb,0,none⟩),.pointer (some ⟨mb,0,none⟩)] .returning w λe u' w'=>e=.returned (.tuple #[])/\u'=.returning/\w'=w:=by
 refine callsD_of_wpS func317 rfl λc₀ cs hu=>?_
 apply wpS_seq;apply wpS_region;simp[wpOpsS,go_sem,recoverD,hu,ntmps317,Exit.thenS];refine wpS_of_wp ?_;rw[show (#[.pointer (some ⟨rb,0,none⟩),.pointer (some ⟨mb,0,none⟩)] ++ (Array.replicate 11 undef).setIfInBounds 3 Value.nilIface:Array Value)= #[.pointer (some ⟨rb,0,none⟩),.pointer (some ⟨mb,0,none⟩),undef,undef,undef,.nilIface,undef,undef,undef,undef,undef,undef,undef] from rfl];go_wp2
 cases c₀;simp_all[bodyPostS,results,results317]
theorem uE{R:Ending->World->Prop}{tmps:Array Value}{W:World}{rb mb:Nat}{v0 v1 v2 v3 v4 v5 v6 v7 v8 v9 v10 vm:Value}(hk:tmps.getD 2 undef=.pointer (some ⟨rb,0,none⟩))(hm:tmps.getD 3 undef=.pointer (some ⟨mb,0,none⟩))
 (hb:(aG rb #[v0,v1,v2,v3,v4,v5,v6,v7,v8,v9,v10] 33).R W) (hc:W.cell? ⟨mb,0,none⟩=some vm)
 (hR:R (.returned (.tuple #[.agg #[v0,v1,v2,v3,v4,v5,v6,v7,v8,v9,v10],vm])) W):
 bodyPostD prog f292 R .ret {tmps:=tmps,defers:=[{target:=.fn (.func 317) #[.pointer (some ⟨rb,0,none⟩),.pointer (some ⟨mb,0,none⟩)],args:=#[]}]} W:=by
 have h2':tmps[2]?.getD undef=.pointer (some ⟨rb,0,none⟩):=by simpa using hk
 have h3':tmps[3]?.getD undef=.pointer (some ⟨mb,0,none⟩):=by simpa using hm
 obtain⟨x0,x1,x2,x3,x4,x5,x6,x7,x8,x9,lJ⟩:nP W rb v0 v1 v2 v3 v4 v5 v6 v7 v8 v9 v10:=jC (hb);refine leaves_cons (f:=317) (args:=#[.pointer (some ⟨rb,0,none⟩),.pointer (some ⟨mb,0,none⟩)]) (by simp) (by simp[go_sem]) ?_;refine(Kk rb mb W).mono ?_;rintro e u' w'' ⟨rfl,rfl,rfl⟩;simpa[Leaves,settle,results,results292,go_sem,h2',h3',x0,x1,x2,x3,x4,x5,x6,x7,x8,x9,lJ,hc] using hR
theorem yY{r r':aT}{w w1:World}{N:Nat}{cs:Value}{R:Ending->World->Prop}(J:aJ r.B w [aG (N+1) #[.bool false] 4,aG N aH 33,r'] w1)
 (hR:∀w',ag r r' w w'->R (.returned (.tuple #[dR 1 cs false false,.bool false])) w') (tmps:Array Value) (hk:tmps.getD 2 undef=.pointer (some ⟨N,0,none⟩)) (hm:tmps.getD 3 undef=.pointer (some ⟨N+1,0,none⟩)):
 bodyPostD prog f292 R .ret {tmps:=tmps,defers:=[{target:=.fn (.func 317) #[.pointer (some ⟨N,0,none⟩),.pointer (some ⟨N+1,0,none⟩)],args:=#[]}]}
  ((aS N 0 (uo cs false) w1).setCell ⟨N+1,0,none⟩ (.bool false)):=by
 have hs:=aK N 33 (uo cs false) 0 _ w1 (J.get 1 rfl);have J1:=J.turn 1 rfl hs;have J2:=J1.turn 0 rfl (ai (J1.get 0 rfl) 0 (.bool false));have h1:=J2.get 1 rfl;rw[lI] at h1;refine uE (rb:=N) (mb:=N+1) hk hm h1 (cA (J2.get 0 rfl) 0) (hR _ ?_);exact(J2.sub (.cons _ (.cons _ (List.Sublist.refl _)))).one
theorem ag.fE{r:aT}{w w':World}(h:ag emp r w w'):Made r w w':=⟨h.here,h.bL.below (Below.refl _ _) (Nat.le_refl _) (λb hb=>hb.elim),λb hb=>(h.nu b hb).elim (λx=>x.elim) id⟩
theorem Kl{w:World}{lb wb cap:Nat}{r:aT}{r':Nat->Nat->aT}(hr:r.R w)(h0:w.cell? ⟨lb,0,none⟩=some (.string ⟨#[103,101,116]⟩))
 (HG:∀W,Below w.heap.size w W->Calls prog 318 #[.pointer (some ⟨lb,0,none⟩)] W λe w'=> ∃cb cc,e=.returned (dR 1 (.slice (some ⟨cb,0,none⟩) 1 cc) false false)/\ag r (r' cb cc) W w'):
 Calls prog 292 #[.pointer (some ⟨lb,0,none⟩)] w λe w'=> ∃cb cc,e=.returned (.tuple #[dR 1 (.slice (some ⟨cb,0,none⟩) 1 cc) false false,.bool false])/\ag r (r' cb cc) w w':=by
 have Sz:∀(fn:Fn) (first cap:Array Value) (w:World),(Instr.makeFunc fn first cap).run prog w=.ok (.func fn first cap) w:=λ_ _ _ _=>rfl
 have J0:=((aJ.start hr).cells aH 33).cells #[.bool false] 4;simp only[World.size_alloc] at J0;have hb0:Below w.heap.size w ((w.alloc (.cells aH 33)).alloc (.cells #[.bool false] 4)):=(bA w _).alloc (by simp) _;have HC:=hid (HG _ hb0);have a0:=(hb0.cell (p:=⟨lb,0,none⟩) (aL h0)).trans h0;obtain⟨N,hN⟩:∃N,w.heap.size=N:=⟨_,rfl⟩;obtain⟨W,hW⟩:∃W,(w.alloc (.cells aH 33)).alloc (.cells #[.bool false] 4)=W:=⟨_,rfl⟩;rw[hW] at J0 HC a0;rw[hN] at J0;have JJ:=hid J0;simp only[aH] at hW;clear J0 HG hb0 h0 hr;go_enter_defers func292,ntmps292
 go_wp2_with (go_at_call 318;refine HC.out.mono ?_;rintro e w1 ⟨cb,cc,rfl,ht⟩
              have J1:=JJ.out.turn 2 rfl ht;obtain⟨n0,p0,n1,p1,n2,p2,n3,p3,n4,p4,n5,p5,n6,p6,n7,p7,n8,p8,n9,p9,n10,bE⟩:gU w1 N (.int .i64 0) (.slice none 0 0) (.bool false) (.bool false) (.string ⟨#[]⟩) (.string ⟨#[]⟩) (.int .i64 0) (.bool false) (.string ⟨#[]⟩) (.slice none 0 0) (.string ⟨#[]⟩):=au (J1.get 1 rfl);have m0:w1.cell? ⟨N+1,0,none⟩=some (.bool false):=cA (J1.get 0 rfl) 0;have mf:=cZ (J1.get 0 rfl) 0;have hE:=λtmps=>yY (cs:=.slice (some ⟨cb,0,none⟩) 1 cc) (R:=λe w'=> ∃cb cc,e=.returned (.tuple #[dR 1 (.slice (some ⟨cb,0,none⟩) 1 cc) false false,.bool false])/\ag r (r' cb cc) w w') J1 (λw' h=>⟨cb,cc,rfl,h⟩) tmps
              simp only[aS,uo] at hE;have HE:=hid hE;clear J1 hE ht;simp only[dR])
 exact HE.out _ rfl rfl
theorem Km{w:World}{lb wb cap:Nat}{r:aT}{r':Nat->Nat->aT}(hr:r.R w)(h0:w.cell? ⟨lb,0,none⟩=some (.string ⟨#[115,101,116]⟩))
 (HG:∀W,Below w.heap.size w W->Calls prog 319 #[.pointer (some ⟨lb,0,none⟩)] W λe w'=> ∃cb cc,e=.returned (.tuple #[dR 1 (.slice (some ⟨cb,0,none⟩) 1 cc) false false,.bool false])/\ag r (r' cb cc) W w'):
 Calls prog 292 #[.pointer (some ⟨lb,0,none⟩)] w λe w'=> ∃cb cc,e=.returned (.tuple #[dR 1 (.slice (some ⟨cb,0,none⟩) 1 cc) false false,.bool false])/\ag r (r' cb cc) w w':=by
 have Sz:∀(fn:Fn) (first cap:Array Value) (w:World),(Instr.makeFunc fn first cap).run prog w=.ok (.func fn first cap) w:=λ_ _ _ _=>rfl
 have J0:=((aJ.start hr).cells aH 33).cells #[.bool false] 4;simp only[World.size_alloc] at J0;have hb0:Below w.heap.size w ((w.alloc (.cells aH 33)).alloc (.cells #[.bool false] 4)):=(bA w _).alloc (by simp) _;have HC:=hid (HG _ hb0);have a0:=(hb0.cell (p:=⟨lb,0,none⟩) (aL h0)).trans h0;obtain⟨N,hN⟩:∃N,w.heap.size=N:=⟨_,rfl⟩;obtain⟨W,hW⟩:∃W,(w.alloc (.cells aH 33)).alloc (.cells #[.bool false] 4)=W:=⟨_,rfl⟩;rw[hW] at J0 HC a0;rw[hN] at J0;have JJ:=hid J0;simp only[aH] at hW;clear J0 HG hb0 h0 hr;go_enter_defers func292,ntmps292
 go_wp2_with (go_at_call 319;refine HC.out.mono ?_;rintro e w1 ⟨cb,cc,rfl,ht⟩
              have J1:=JJ.out.turn 2 rfl ht;obtain⟨n0,p0,n1,p1,n2,p2,n3,p3,n4,p4,n5,p5,n6,p6,n7,p7,n8,p8,n9,p9,n10,bE⟩:gU w1 N (.int .i64 0) (.slice none 0 0) (.bool false) (.bool false) (.string ⟨#[]⟩) (.string ⟨#[]⟩) (.int .i64 0) (.bool false) (.string ⟨#[]⟩) (.slice none 0 0) (.string ⟨#[]⟩):=au (J1.get 1 rfl);have m0:w1.cell? ⟨N+1,0,none⟩=some (.bool false):=cA (J1.get 0 rfl) 0;have mf:=cZ (J1.get 0 rfl) 0;have hE:=λtmps=>yY (cs:=.slice (some ⟨cb,0,none⟩) 1 cc) (R:=λe w'=> ∃cb cc,e=.returned (.tuple #[dR 1 (.slice (some ⟨cb,0,none⟩) 1 cc) false false,.bool false])/\ag r (r' cb cc) w w') J1 (λw' h=>⟨cb,cc,rfl,h⟩) tmps
              simp only[aS,uo] at hE;have HE:=hid hE;clear J1 hE ht;simp only[dR])
 exact HE.out _ rfl rfl
def Wh(name:ByteArray)(wb n cap:Nat)(behind:ByteArray)(used:Nat):Array Value:=#[.string name,.slice (some ⟨wb,1,none⟩) n cap,.string behind,.int .i64 used,.bool false]
theorem E8{ln:ByteArray}{Y w':World}{e:Ending}(h:W2.kG ln Y e w'){xs:List ByteArray}{k:Nat}(hw:(W2.P.words ln).map W2.P.mk=xs)(hk:xs.length=k+1):
 ∃wb cap,e=.returned (.slice (some ⟨wb,0,none⟩) (k+1) cap)/\k+1<=cap/\cap<=maxLen/\Made (rowAt (.slice (some ⟨wb,0,none⟩) (k+1) cap) 9 1 (k+1) (xs.map .string)) Y w':=by
 obtain⟨v,rfl,ho,hb⟩:=h;have e1:(W2.P.words ln).map (λl=>Value.string (W2.P.mk l))=xs.map .string:=by rw[<-hw,List.map_map];rfl
 have e2:(W2.P.words ln).length=k+1:=by rw[<-hk,<-hw,List.length_map]
 rw[e1,e2] at ho;rcases ho.2 with ⟨_,h0⟩|⟨g,cap,cur,rfl,h2,h3,h4,h5,h6,h7⟩
 ·omega
 ·exact⟨g,cap,rfl,h4,h5,qV ho,hb,λb hx=>(ho.lt b hx).1⟩
theorem yZ{b ln name:ByteArray}{ws:List ByteArray}{n used:Nat}{row:Nat->Nat->aT}(hln:W2.aX b=ln)(hn:W2.b_ b=n)(h1:1<=n)(hnb:n<=b.size)(hb:b.size<=2000)(hl:ln.size<=2000)(hu:used<=2000)
 (hw:(W2.P.words ln).map W2.P.mk=name :: ws) (hws:1<=ws.length)
 (HR:∀(W:World) (lb wb cap:Nat),(aG lb (Wh name wb ws.length cap (b.extract n b.size) 0) 395).R W->(∀i x,ws[i]?=some x->W.cell? ⟨wb,1+i,none⟩=some (.string x))->
  Calls prog 292 #[.pointer (some ⟨lb,0,none⟩)] W λe w'=> ∃cb cc,e=.returned (.tuple #[dR 1 (.slice (some ⟨cb,0,none⟩) 1 cc) false false,.bool false])/\
   ag (aG lb (Wh name wb ws.length cap (b.extract n b.size) 0) 395) (many [aG lb (Wh name wb ws.length cap (b.extract n b.size) used) 395,row cb cc]) W w') (w:World):
 Calls prog 251 #[.string b] w λe w'=> ∃cb cc,e=.returned (.tuple #[dR 1 (.slice (some ⟨cb,0,none⟩) 1 cc) false false,.int .i64 (n+used:Nat)])/\Made (row cb cc) w w':=by
 have J0:=(aJ.none w).cells aH 33;obtain⟨N,hN⟩:∃N,w.heap.size=N:=⟨_,rfl⟩;obtain⟨W,hW⟩:∃W,w.alloc (.cells aH 33)=W:=⟨_,rfl⟩;rw[hN,hW] at J0;have HJ:=hid J0;have HL:=hid (λw'=>W2.gP b w' (by unfold maxLen;omega));unfold W2.dL at HL;rw[hln,hn] at HL;have HS:=hid (λw'=>W2.kH ln w' (by omega));have hm:min (b.size:Int) 2048=b.size:=by omega
 have hx:b.extract 0 b.size=b:=by simp
 have g1:¬(n:Int)=0:=by omega
 have X7:((n:Int) == 0)=false:=by simpa using g1
 have g2:(n:Int)<=b.size:=by omega
 have HRR:=hid HR;have HH:=hid (And.intro hb (And.intro hnb (And.intro hu (And.intro hws hw))));simp only[aH] at hW;clear J0 HR hln hn hw hl hb;go_enter func251,ntmps251;go_wp2_with (go_at_call 246;refine(HL.out _).mono ?_;rintro e w1 ⟨rfl,m,rfl⟩)
 obtain⟨Y,hY⟩:∃Y,W.drewN m=Y:=⟨_,rfl⟩;have SS:Hid (aJ (λ_=>False) w _ Y):=hid (by rw[<-hY];exact HJ.out.drewN m);rw[hY];clear hY HL hW hN HJ;obtain⟨k,hk⟩:∃k,ws.length=k:=⟨_,rfl⟩
 have HS2:Hid (∀W',Below Y.heap.size Y W'->Calls prog 288 #[.string ln] W' λe w'=> ∃wb cap,e=.returned (.slice (some ⟨wb,0,none⟩) (k+1) cap)/\k+1<=cap/\cap<=maxLen/\Made (rowAt (.slice (some ⟨wb,0,none⟩) (k+1) cap) 9 1 (k+1) ((name :: ws).map .string)) W' w'):=
  hid (λW' hb=>(HS.out W').mono (λe w' h=>E8 h HH.out.2.2.2.2 (by simp[hk])))
 go_upto_region 8 with fail
 go_cut [7] from 34 to 40 (λs7 wx=> ∃L wb cap,s7=.pointer (some ⟨L,0,none⟩)/\k+1<=cap/\cap<=maxLen/\Hid (aJ (λ_=>False) w [aG L #[.string ⟨#[]⟩,.slice (some ⟨wb,0,none⟩) (k+1) cap,.string (b.extract n b.size),.int .i64 0,.bool false] 395,rowAt (.slice (some ⟨wb,0,none⟩) (k+1) cap) 9 1 (k+1) ((name :: ws).map .string),aG N aH 33] wx))
 case first=>
  go_region_with ((go_at_call 288;refine(HS2.out _ (by go_grown)).mono ?_;rintro e w2 ⟨wb,cap,rfl,hc1,hc2,hm2⟩;have pJ:=hid hm2;clear hm2))
  all_goals (go_wp2_with fail)
  have hfin:=((SS.out.drew).made pJ.out).cells #[.string ⟨#[]⟩,.slice (some ⟨wb,0,none⟩) (k+1) cap,.string (b.extract n b.size),.int .i64 0,.bool false] 395;simp only[lz];go_meet;exact⟨_,_,_,rfl,hc1,hc2,hid hfin⟩
 case rest=>
  obtain⟨L,wb,cap,rfl,hc1,hc2,hJ⟩:=hcut;obtain⟨l0,f0,l1,f1,l2,f2,l3,f3,l4,f4⟩:VB wc L (.string ⟨#[]⟩) (.slice (some ⟨wb,0,none⟩) (k+1) cap) (.string (b.extract n b.size)) (.int .i64 0) (.bool false):=VC (hJ.out.get 0 rfl);have x0:wc.cell? ⟨wb,0,none⟩=some (.string name):=aB (hJ.out.get 1 rfl) 0 (by simp);have i1:(0:Int)<(k:Int)+1:=by omega
  have i2:(1:Int)<=(k:Int)+1:=by omega
  have i3:((k:Int)+1).toNat=k+1:=by omega
  have i4:¬cap=1:=by have:=HH.out.2.2.2.1;omega
  have i5:¬1=cap:=λe=>i4 e.symm
  have i6:¬(k:Int)+1=0:=by omega
  have i6b:((k:Int)+1 == 0)=false:=by simpa using i6
  have hLw:¬L=wb:=λe=>hJ.out.apart (i:=0) (j:=1) rfl rfl (by decide) L rfl (by rw[e];rfl)
  go_wp2_with (fail)
  go_upto_region 11 with fail
  go_cut [] from 49 to 65 (λwx=>wx=((wc.setCell ⟨L,0,none⟩ (.string name)).setCell ⟨L,1,none⟩ (.slice (some ⟨wb,1,none⟩) k (cap-1))).drew)
  case first=>
   go_region_with (fail)
   all_goals (go_wp2_with fail)
   all_goals (go_meet;rfl)
  case rest=>
   obtain rfl:=hcut;obtain⟨Z,hZ⟩:∃Z,((wc.setCell ⟨L,0,none⟩ (.string name)).setCell ⟨L,1,none⟩ (.slice (some ⟨wb,1,none⟩) k (cap-1))).drew=Z:=⟨_,rfl⟩;have j1:=hJ.out.turn 0 rfl (ai (hJ.out.get 0 rfl) 0 (.string name));have j2:=(j1.turn 0 rfl (ai (j1.get 0 rfl) 1 (.slice (some ⟨wb,1,none⟩) k (cap-1)))).drew;rw[hZ] at j2;rw[hZ];have hl0:(aG L (Wh name wb ws.length (cap-1) (b.extract n b.size) 0) 395).R Z:=by rw[hk];exact j2.get 0 rfl
   have Wi:=hid (HRR.out Z L wb (cap-1) hl0 (λi x hi=>by
    have h:=aB (j2.get 1 rfl) (1+i) (by have h1:=(List.getElem?_eq_some_iff.1 hi).1;simp;omega);rw[h,Nat.add_comm 1 i];simp[hi]))
   have j2':aJ (λ_=>False) w [aG L (Wh name wb ws.length (cap-1) (b.extract n b.size) 0) 395,rowAt (.slice (some ⟨wb,0,none⟩) (k+1) cap) 9 1 (k+1) ((name :: ws).map .string),aG N aH 33] Z:=by rw[hk];exact j2
   have HJ2:=hid j2';clear j1 j2 j2' hl0 hZ l0 l1 l2 l3 l4 f0 f1 f2 f3 f4 x0 hJ HRR SS HS HS2;go_wp2_with (fail)
   go_at_call 292;refine Wi.out.mono ?_;rintro e w9 ⟨cb,cc,rfl,ht⟩;have j3:=HJ2.out.turn 0 rfl ht;have j4:=j3.cells #[.int .i64 1,.slice (some ⟨cb,0,none⟩) 1 cc,.bool false,.bool false,.string ⟨#[]⟩,.string ⟨#[]⟩,.int .i64 0,.bool false,.string ⟨#[]⟩,.slice none 0 0,.string ⟨#[]⟩] 33;obtain⟨X,hX⟩:∃X,w9.heap.size=X:=⟨_,rfl⟩;obtain⟨V,hV⟩:∃V,w9.alloc (.cells #[.int .i64 1,.slice (some ⟨cb,0,none⟩) 1 cc,.bool false,.bool false,.string ⟨#[]⟩,.string ⟨#[]⟩,.int .i64 0,.bool false,.string ⟨#[]⟩,.slice none 0 0,.string ⟨#[]⟩] 33)=V:=⟨_,rfl⟩;rw[hX,hV] at j4;have HV:=hid hV;have vQ:=hid j4;clear j3 j4 ht hV HJ2 Wi;simp only[dR];go_upto_region 13 with fail
   rw[HV.out];clear HV hX;have hl1:=(aJ.open (vQ.out.get 1 rfl)).get 0 rfl;have u3:V.cell? ⟨L,3,none⟩=some (.int .i64 used):=cA hl1 3;obtain⟨x0,x1,x2,x3,x4,x5,x6,x7,x8,x9,lJ⟩:nP V X (.int .i64 1) (.slice (some ⟨cb,0,none⟩) 1 cc) (.bool false) (.bool false) (.string ⟨#[]⟩) (.string ⟨#[]⟩) (.int .i64 0) (.bool false) (.string ⟨#[]⟩) (.slice none 0 0) (.string ⟨#[]⟩):=jC (vQ.out.get 0 rfl);obtain⟨r0,t0,r1,t1,r2,t2,r3,t3,r4,t4,r5,t5,r6,t6,r7,t7,r8,t8,r9,t9,nY,t10⟩:gU V N (.int .i64 0) (.slice none 0 0) (.bool false) (.bool false) (.string ⟨#[]⟩) (.string ⟨#[]⟩) (.int .i64 0) (.bool false) (.string ⟨#[]⟩) (.slice none 0 0) (.string ⟨#[]⟩):=au (vQ.out.get 3 rfl);have y1:¬X=N:=λe=>vQ.out.apart (i:=0) (j:=3) rfl rfl (by decide) X rfl e
   have y2:¬N=X:=λe=>y1 e.symm
   have y3:¬L=N:=λe=>vQ.out.apart (i:=1) (j:=3) rfl rfl (by decide) L ⟨_,.head _,rfl⟩ e
   have y4:¬N=L:=λe=>y3 e.symm
   have hs:=aK N 33 (uo (.slice (some ⟨cb,0,none⟩) 1 cc) false) 0 _ _ (vQ.out.get 3 rfl);have k1:=(vQ.out.turn 3 rfl hs).drew;have h2:=k1.get 3 rfl;rw[lI] at h2;have h3:=(k1.fE 1 rfl).conv (r':=row cb cc) (λh=>(aJ.open h).get 1 rfl) (λb hb=>⟨_,.tail _ (.head _),hb⟩);simp only[aS,uo] at h2 h3;have HE:=hid (And.intro h2 h3);have hsum:IntKind.i64.wrap ((n:Int)+(used:Int))=((n+used:Nat):Int):=by have h:=HH.out;rw[IntKind.wrap_i64];omega
   clear hs k1 h2 h3 hl1 vQ;go_wp2_with (fail)
   go_region_with (fail)
   all_goals (go_wp2_with fail)
   all_goals (try simp only[lz])
   all_goals refine bX (N:=N) (vm:=.int .i64 (n+used:Nat)) (v0:=.int .i64 1) (v1:=.slice (some ⟨cb,0,none⟩) 1 cc) (v2:=.bool false) (v3:=.bool false) (v4:=.string ⟨#[]⟩) (v5:=.string ⟨#[]⟩) (v6:=.int .i64 0) (v7:=.bool false) (v8:=.string ⟨#[]⟩) (v9:=.slice none 0 0) (v10:=.string ⟨#[]⟩) rfl rfl (by first|rfl|simp[hsum]) ?_ ⟨cb,cc,rfl,?_⟩
   all_goals first
    |with_reducible exact HE.out.1
    |with_reducible exact HE.out.2
    |fail
structure X8(b ln nm:ByteArray)(n:Nat):Prop where
 lt:W2.aX b=ln
 ln':W2.b_ b=n
 n1:1<=n
 nb:n<=b.size
 b2:b.size<=2000
 l2:ln.size<=2000
 tr:∀w,Calls prog 248 #[.string ln,.string ⟨#[32]⟩] w λe w'=>e=.returned (.string ln)/\w'=w
 cu:∃r f,W2.cutV 32 ln=.tuple #[.string nm,.string r,.bool f]
 nm2:¬(nm.size:Int)=2
theorem uF{b ln nm:ByteArray}{n used:Nat}{row:Nat->Nat->aT}(h:X8 b ln nm n)
 (HP:∀w:World,Calls prog 251 #[.string b] w λe w'=> ∃cb cc,e=.returned (.tuple #[dR 1 (.slice (some ⟨cb,0,none⟩) 1 cc) false false,.int .i64 (n+used:Nat)])/\Made (row cb cc) w w') (w:World):
 Calls prog 202 #[.string b] w λe w'=> ∃cb cc,e=.returned (.tuple #[dR 1 (.slice (some ⟨cb,0,none⟩) 1 cc) false false,.int .i64 (n+used:Nat)])/\Made (row cb cc) w w':=by
 have J0:=(aJ.none w).cells aH 33;obtain⟨N,hN⟩:∃N,w.heap.size=N:=⟨_,rfl⟩;obtain⟨W,hW⟩:∃W,w.alloc (.cells aH 33)=W:=⟨_,rfl⟩;rw[hN,hW] at J0;have HJ:=hid J0;have hb2:=h.b2;have hl2:=h.l2;have HL:=hid (λw'=>W2.gP b w' (by unfold maxLen;omega));unfold W2.dL at HL;rw[h.lt,h.ln'] at HL;have HT:=hid h.tr;obtain⟨rr,ff,Qa⟩:=h.cu;have HC:=hid (λw'=>W2.kF 32 ln w' (by unfold maxLen;omega));rw[Qa] at HC;have hm:min (b.size:Int) 2048=b.size:=by omega
 have hx:b.extract 0 b.size=b:=by simp
 have g1:=h.nm2;have X7:((nm.size:Int) == 2)=false:=by simpa using g1
 have E9:=hid HP;simp only[aH] at hW;clear J0 HP Qa h hb2 hl2;go_enter func202,ntmps202
 go_wp2_with (first
  |(go_at_call 246;refine(HL.out _).mono ?_;rintro e w1 ⟨rfl,m,rfl⟩)
  |(go_at_call 248;refine(HT.out _).mono ?_;rintro e w1 ⟨rfl,rfl⟩)
  |(go_at_call 247;refine(HC.out _).mono ?_;rintro e w1 ⟨rfl,m2,rfl⟩))
 go_at_call 251;refine(E9.out _).mono ?_;rintro e w1 ⟨cb,cc,rfl,hm1⟩;have J1:=(HJ.out.drewN (m+m2)).made hm1;obtain⟨r0,t0,r1,t1,r2,t2,r3,t3,r4,t4,r5,t5,r6,t6,r7,t7,r8,t8,r9,t9,nY,t10⟩:gU w1 N (.int .i64 0) (.slice none 0 0) (.bool false) (.bool false) (.string ⟨#[]⟩) (.string ⟨#[]⟩) (.int .i64 0) (.bool false) (.string ⟨#[]⟩) (.slice none 0 0) (.string ⟨#[]⟩):=au (J1.get 1 rfl);have hs:=aK N 33 (uo (.slice (some ⟨cb,0,none⟩) 1 cc) false) 0 _ _ (J1.get 1 rfl);have k1:=J1.turn 1 rfl hs;have h2:=k1.get 1 rfl;rw[lI] at h2;have h3:=k1.fE 0 rfl;simp only[aS,uo] at h2 h3;have HE:=hid (And.intro h2 h3);clear hs k1 h2 h3 J1 HJ hm1 hN hW;simp only[dR];go_wp2_with (fail)
 exact bX (N:=N) (vm:=.int .i64 (n+used:Nat)) (v0:=.int .i64 1) (v1:=.slice (some ⟨cb,0,none⟩) 1 cc) (v2:=.bool false) (v3:=.bool false) (v4:=.string ⟨#[]⟩) (v5:=.string ⟨#[]⟩) (v6:=.int .i64 0) (v7:=.bool false) (v8:=.string ⟨#[]⟩) (v9:=.slice none 0 0) (v10:=.string ⟨#[]⟩) rfl rfl rfl HE.out.1 ⟨cb,cc,rfl,HE.out.2⟩
theorem C9{b out:ByteArray}{n used c:Nat}{row:Nat->Nat->aT}{w:World}(h:(gy c b out).R w)(ho:out.size<=60000)(hb:b.size<=2000)(hu:n+used<=b.size)
 (HP:∀w:World,Calls prog 202 #[.string b] w λe w'=> ∃cb cc,e=.returned (.tuple #[dR 1 (.slice (some ⟨cb,0,none⟩) 1 cc) false false,.int .i64 (n+used:Nat)])/\Made (row cb cc) w w'):
 Calls prog 142 #[.pointer (some ⟨c,0,none⟩)] w λe w'=> ∃cb cc,e=.returned (.tuple #[dR 1 (.slice (some ⟨cb,0,none⟩) 1 cc) false false,.bool true])/\
  ag (gy c b out) (many [gy c (b.extract (n+used) b.size) out,row cb cc]) w w':=by
 have J0:=(aJ.start h).cells aH 33;obtain⟨N,hN⟩:∃N,w.heap.size=N:=⟨_,rfl⟩;obtain⟨W,hW⟩:∃W,w.alloc (.cells aH 33)=W:=⟨_,rfl⟩;rw[hN,hW] at J0;have k0:W.cell? ⟨c,0,none⟩=some (.string b):=cA (J0.get 1 rfl) 0;have k1:W.cell? ⟨c,1,none⟩=some (.string out):=cA (J0.get 1 rfl) 1;have k3:W.cell? ⟨c,3,none⟩=some (.bool false):=cA (J0.get 1 rfl) 3;have g0:¬(100000:Int)<=out.size:=by omega
 have HJ:=hid J0;have E9:=hid HP;obtain⟨q,hq⟩:∃q,n+used=q:=⟨_,rfl⟩;rw[hq] at E9 hu⊢;simp only[aH] at hW;clear J0 HP h ho hq;go_enter func142,ntmps142;go_wp2_with (fail)
 go_at_call 202;refine(E9.out _).mono ?_;rintro e w1 ⟨cb,cc,rfl,hm1⟩;have J1:=HJ.out.made hm1;have J2:=J1.cells #[.int .i64 1,.slice (some ⟨cb,0,none⟩) 1 cc,.bool false,.bool false,.string ⟨#[]⟩,.string ⟨#[]⟩,.int .i64 0,.bool false,.string ⟨#[]⟩,.slice none 0 0,.string ⟨#[]⟩] 33;obtain⟨X,hX⟩:∃X,w1.heap.size=X:=⟨_,rfl⟩;obtain⟨V,hV⟩:∃V,w1.alloc (.cells #[.int .i64 1,.slice (some ⟨cb,0,none⟩) 1 cc,.bool false,.bool false,.string ⟨#[]⟩,.string ⟨#[]⟩,.int .i64 0,.bool false,.string ⟨#[]⟩,.slice none 0 0,.string ⟨#[]⟩] 33)=V:=⟨_,rfl⟩;rw[hX,hV] at J2;have HV:=hid hV;have HJ2:=hid J2;clear J1 J2 hm1 hV E9 HJ hW hN k0 k1 k3;simp only[dR];go_upto_region 4 with fail
 rw[HV.out];clear HV hX;obtain⟨x0,x1,x2,x3,x4,x5,x6,x7,x8,x9,lJ⟩:nP V X (.int .i64 1) (.slice (some ⟨cb,0,none⟩) 1 cc) (.bool false) (.bool false) (.string ⟨#[]⟩) (.string ⟨#[]⟩) (.int .i64 0) (.bool false) (.string ⟨#[]⟩) (.slice none 0 0) (.string ⟨#[]⟩):=jC (HJ2.out.get 0 rfl);obtain⟨r0,t0,r1,t1,r2,t2,r3,t3,r4,t4,r5,t5,r6,t6,r7,t7,r8,t8,r9,t9,nY,t10⟩:gU V N (.int .i64 0) (.slice none 0 0) (.bool false) (.bool false) (.string ⟨#[]⟩) (.string ⟨#[]⟩) (.int .i64 0) (.bool false) (.string ⟨#[]⟩) (.slice none 0 0) (.string ⟨#[]⟩):=au (HJ2.out.get 2 rfl);obtain⟨k0,f0,k1,f1,k2,f2,k3,f3⟩:Iu V c (.string b) (.string out) (.int .i64 0) (.bool false):=Cu (HJ2.out.get 3 rfl);have y1:¬X=N:=λe=>HJ2.out.apart (i:=0) (j:=2) rfl rfl (by decide) X rfl e
 have y2:¬N=X:=λe=>y1 e.symm
 have y3:¬X=c:=λe=>HJ2.out.apart (i:=0) (j:=3) rfl rfl (by decide) X rfl e
 have y4:¬c=X:=λe=>y3 e.symm
 have y5:¬c=N:=λe=>HJ2.out.apart (i:=3) (j:=2) rfl rfl (by decide) c rfl e
 have y6:¬N=c:=λe=>y5 e.symm
 have e1:IntKind.i64.wrap ((b.size:Int)-(q:Int))=(b.size:Int)-(q:Int):=by rw[IntKind.wrap_i64];omega
 have e2:min (0:Int) ((b.size:Int)-(q:Int))=0:=by omega
 have e3:IntKind.i64.wrap ((q:Int))=q:=by rw[IntKind.wrap_i64];omega
 have e4:IntKind.i64.wrap 0=0:=by decide
 have e5:(q:Int)<=b.size:=by omega
 go_wp2_with (fail)
 go_quiet (fail)
 obtain⟨Y,hY⟩:∃Y,V.drewN nq=Y:=⟨_,rfl⟩;have K1:=HJ2.out.drewN nq;rw[hY] at K1⊢;have HK:=hid K1;clear K1 hY HJ2 x0 x1 x2 x3 x4 x5 x6 x7 x8 x9 lJ r0 r1 r2 r3 r4 r5 r6 r7 r8 r9 nY t0 t1 t2 t3 t4 t5 t6 t7 t8 t9 t10 k0 k1 k2 k3 f0 f1 f2 f3;have x6:Y.cell? ⟨X,6,none⟩=some (.int .i64 0):=cA (HK.out.get 0 rfl) 6;obtain⟨k0,f0,k1,f1,k2,f2,k3,f3⟩:Iu Y c (.string b) (.string out) (.int .i64 0) (.bool false):=Cu (HK.out.get 3 rfl);go_upto_region 7 with fail
 go_cut [] from 42 to 59 (λwx=>wx=((Y.setCell ⟨c,0,none⟩ (.string (b.extract q b.size))).setCell ⟨c,2,none⟩ (.int .i64 0)).drew)
 case first=>
  go_region_with (fail)
  all_goals (go_wp2_with fail)
  all_goals (go_meet;rfl)
 case rest=>
  obtain rfl:=hcut;obtain⟨Z,hZ⟩:∃Z,((Y.setCell ⟨c,0,none⟩ (.string (b.extract q b.size))).setCell ⟨c,2,none⟩ (.int .i64 0)).drew=Z:=⟨_,rfl⟩;have j1:=HK.out.turn 3 rfl (ai (HK.out.get 3 rfl) 0 (.string (b.extract q b.size)));have j2:=(j1.turn 3 rfl (ai (j1.get 3 rfl) 2 (.int .i64 0))).drew;rw[hZ] at j2;rw[hZ];have HL:=hid j2;clear j1 j2 hZ HK x6 k0 k1 k2 k3 f0 f1 f2 f3;obtain⟨x0,x1,x2,x3,x4,x5,x6,x7,x8,x9,lJ⟩:nP Z X (.int .i64 1) (.slice (some ⟨cb,0,none⟩) 1 cc) (.bool false) (.bool false) (.string ⟨#[]⟩) (.string ⟨#[]⟩) (.int .i64 0) (.bool false) (.string ⟨#[]⟩) (.slice none 0 0) (.string ⟨#[]⟩):=jC (HL.out.get 0 rfl);obtain⟨r0,t0,r1,t1,r2,t2,r3,t3,r4,t4,r5,t5,r6,t6,r7,t7,r8,t8,r9,t9,nY,t10⟩:gU Z N (.int .i64 0) (.slice none 0 0) (.bool false) (.bool false) (.string ⟨#[]⟩) (.string ⟨#[]⟩) (.int .i64 0) (.bool false) (.string ⟨#[]⟩) (.slice none 0 0) (.string ⟨#[]⟩):=au (HL.out.get 2 rfl);have hs:=aK N 33 (uo (.slice (some ⟨cb,0,none⟩) 1 cc) false) 0 _ _ (HL.out.get 2 rfl);have k1:=HL.out.turn 2 rfl hs;have h2:=k1.get 2 rfl;rw[lI] at h2;have h3:=(((k1.sub (.cons _ (.cons_cons _ (.cons _ (List.Sublist.refl _))))).perm (.swap _ _ _))).shut;simp only[aS,uo] at h2 h3;have HE:=hid (And.intro h2 h3);clear hs k1 h2 h3 HL;go_wp2_with (fail)
  exact bX (N:=N) (vm:=.bool true) (v0:=.int .i64 1) (v1:=.slice (some ⟨cb,0,none⟩) 1 cc) (v2:=.bool false) (v3:=.bool false) (v4:=.string ⟨#[]⟩) (v5:=.string ⟨#[]⟩) (v6:=.int .i64 0) (v7:=.bool false) (v8:=.string ⟨#[]⟩) (v9:=.slice none 0 0) (v10:=.string ⟨#[]⟩) rfl rfl rfl HE.out.1 ⟨cb,cc,rfl,HE.out.2⟩
def Qr:Value:=.agg #[.int .i64 0,.slice none 0 0,.bool false,.bool false,.string ⟨#[]⟩,.string ⟨#[]⟩,.int .i64 0,.bool false,.string ⟨#[]⟩,.slice none 0 0,.string ⟨#[]⟩]
theorem Kn(w:World):Calls prog 246 #[.string ⟨#[]⟩] w λe w'=>e=.returned (.tuple #[.string ⟨#[]⟩,.int .i64 0])/\∃n,w'=w.drewN n:=by
 have h:=W2.gP ⟨#[]⟩ w (by decide);unfold W2.dL at h;rw[show W2.aX ⟨#[]⟩=⟨#[]⟩ by decide+kernel,show W2.b_ ⟨#[]⟩=0 by decide+kernel] at h;exact h
theorem OU(w:World):Calls prog 251 #[.string ⟨#[]⟩] w λe w'=>e=.returned (.tuple #[Qr,.int .i64 0])/\Below w.heap.size w w':=by
 have h0:=aA w aH 33;have hb:=bA w (.cells aH 33);obtain⟨N,hN⟩:∃N,w.heap.size=N:=⟨_,rfl⟩;obtain⟨W,hW⟩:∃W,w.alloc (.cells aH 33)=W:=⟨_,rfl⟩;rw[hW] at h0 hb;rw[hN] at h0;have HL:=hid (λw'=>Kn w');have H0:=hid (And.intro h0 hb);simp only[aH] at hW;clear h0 hb;go_enter func251,ntmps251;go_upto_region 3 with (go_at_call 246;refine(HL.out _).mono ?_;rintro e w1 ⟨rfl,m,rfl⟩)
 have J1:=(aG N aH 33).keep H0.out.1 ((aP.refl (λ_=>False) W).drewN m) (λ_ _ x=>x);have hb1:Below w.heap.size w (W.drewN m):=by have h:=H0.out.2;exact⟨h.1,h.2,h.3,h.4,h.5⟩
 obtain⟨Y,hY⟩:∃Y,W.drewN m=Y:=⟨_,rfl⟩;rw[hY] at J1 hb1⊢;clear hY hW H0 HL;obtain⟨r0,t0,r1,t1,r2,t2,r3,t3,r4,t4,r5,t5,r6,t6,r7,t7,r8,t8,r9,t9,nY,t10⟩:gU Y N (.int .i64 0) (.slice none 0 0) (.bool false) (.bool false) (.string ⟨#[]⟩) (.string ⟨#[]⟩) (.int .i64 0) (.bool false) (.string ⟨#[]⟩) (.slice none 0 0) (.string ⟨#[]⟩):=au (J1);have hs:=aK N 33 [.int .i64 0,.slice none 0 0,.bool false,.bool false,.string ⟨#[]⟩,.string ⟨#[]⟩,.int .i64 0,.bool false,.string ⟨#[]⟩,.slice none 0 0,.string ⟨#[]⟩] 0 _ _ J1;have h2:=hs.here;rw[show aR 0 [.int .i64 0,.slice none 0 0,.bool false,.bool false,.string ⟨#[]⟩,.string ⟨#[]⟩,.int .i64 0,.bool false,.string ⟨#[]⟩,.slice none 0 0,.string ⟨#[]⟩] aH= #[.int .i64 0,.slice none 0 0,.bool false,.bool false,.string ⟨#[]⟩,.string ⟨#[]⟩,.int .i64 0,.bool false,.string ⟨#[]⟩,.slice none 0 0,.string ⟨#[]⟩] by simp[aR,aH]] at h2;have h3:=hs.bL.below hb1 hb1.size (λb hx=>by have e:b=N:=hx;omega);simp only[aS] at h2 h3;have HE:=hid (And.intro h2 h3);clear hs h2 h3 J1 hb1;go_wp2_with (fail)
 exact bX (N:=N) (vm:=.int .i64 0) (v0:=.int .i64 0) (v1:=.slice none 0 0) (v2:=.bool false) (v3:=.bool false) (v4:=.string ⟨#[]⟩) (v5:=.string ⟨#[]⟩) (v6:=.int .i64 0) (v7:=.bool false) (v8:=.string ⟨#[]⟩) (v9:=.slice none 0 0) (v10:=.string ⟨#[]⟩) rfl rfl rfl HE.out.1 ⟨rfl,HE.out.2⟩
theorem Ko(w:World):Calls prog 202 #[.string ⟨#[]⟩] w λe w'=>e=.returned (.tuple #[Qr,.int .i64 0])/\Below w.heap.size w w':=by
 have J0:=(aJ.none w).cells aH 33;obtain⟨N,hN⟩:∃N,w.heap.size=N:=⟨_,rfl⟩;obtain⟨W,hW⟩:∃W,w.alloc (.cells aH 33)=W:=⟨_,rfl⟩;rw[hN,hW] at J0;have HJ:=hid J0;have HL:=hid (λw'=>Kn w');have HT:=hid (λw'=>Tryz.strings_TrimLeft_one ⟨#[]⟩ 32 (by decide) w');rw[show (⟨(Lib.trimLeftB (⟨#[]⟩:ByteArray).data.toList 32).toArray⟩:ByteArray)=⟨#[]⟩ by decide+kernel] at HT;have HC:=hid (λw'=>W2.kF 32 ⟨#[]⟩ w' (by decide));rw[W2.vg (c:=32) (s:=⟨#[]⟩) (by decide+kernel)] at HC;have HP:=hid (λw'=>OU w');unfold Qr at HP;simp only[aH] at hW;clear J0;unfold Qr;go_enter func202,ntmps202
 go_wp2_with (first
  |(go_at_call 246;refine(HL.out _).mono ?_;rintro e w1 ⟨rfl,m,rfl⟩)
  |(go_at_call 248;refine(HT.out _).mono ?_;rintro e w1 ⟨rfl,rfl⟩)
  |(go_at_call 247;refine(HC.out _).mono ?_;rintro e w1 ⟨rfl,m2,rfl⟩))
 go_at_call 251;refine(HP.out _).mono ?_;rintro e w1 ⟨rfl,hb1⟩;have J1:=(HJ.out.drewN (m+m2)).below hb1;obtain⟨r0,t0,r1,t1,r2,t2,r3,t3,r4,t4,r5,t5,r6,t6,r7,t7,r8,t8,r9,t9,nY,t10⟩:gU w1 N (.int .i64 0) (.slice none 0 0) (.bool false) (.bool false) (.string ⟨#[]⟩) (.string ⟨#[]⟩) (.int .i64 0) (.bool false) (.string ⟨#[]⟩) (.slice none 0 0) (.string ⟨#[]⟩):=au (J1.get 0 rfl);have hs:=aK N 33 [.int .i64 0,.slice none 0 0,.bool false,.bool false,.string ⟨#[]⟩,.string ⟨#[]⟩,.int .i64 0,.bool false,.string ⟨#[]⟩,.slice none 0 0,.string ⟨#[]⟩] 0 _ _ (J1.get 0 rfl);have k1:=J1.turn 0 rfl hs;have h2:=k1.get 0 rfl;rw[show aR 0 [.int .i64 0,.slice none 0 0,.bool false,.bool false,.string ⟨#[]⟩,.string ⟨#[]⟩,.int .i64 0,.bool false,.string ⟨#[]⟩,.slice none 0 0,.string ⟨#[]⟩] aH= #[.int .i64 0,.slice none 0 0,.bool false,.bool false,.string ⟨#[]⟩,.string ⟨#[]⟩,.int .i64 0,.bool false,.string ⟨#[]⟩,.slice none 0 0,.string ⟨#[]⟩] by simp[aR,aH]] at h2;have h3:=(k1.fE 0 rfl).bel;simp only[aS] at h2 h3;have HE:=hid (And.intro h2 h3);clear hs k1 h2 h3 J1 HJ hb1 hN hW;go_wp2_with (fail)
 exact bX (N:=N) (vm:=.int .i64 0) (v0:=.int .i64 0) (v1:=.slice none 0 0) (v2:=.bool false) (v3:=.bool false) (v4:=.string ⟨#[]⟩) (v5:=.string ⟨#[]⟩) (v6:=.int .i64 0) (v7:=.bool false) (v8:=.string ⟨#[]⟩) (v9:=.slice none 0 0) (v10:=.string ⟨#[]⟩) rfl rfl rfl HE.out.1 ⟨rfl,HE.out.2⟩
theorem SV{out:ByteArray}{c:Nat}{w:World}(h:(gy c ⟨#[]⟩ out).R w)(ho:out.size<=60000):
 Calls prog 142 #[.pointer (some ⟨c,0,none⟩)] w λe w'=>e=.returned (.tuple #[Qr,.bool false])/\Below w.heap.size w w':=by
 have J0:=(aJ.none w).cells aH 33;have hbw:=bA w (.cells aH 33);obtain⟨N,hN⟩:∃N,w.heap.size=N:=⟨_,rfl⟩;obtain⟨W,hW⟩:∃W,w.alloc (.cells aH 33)=W:=⟨_,rfl⟩;rw[hN,hW] at J0;rw[hW] at hbw;have hc:=(gy c ⟨#[]⟩ out).keep h (aP.of_below (λ_=>False) hbw) (λ_ _ x=>x);have k0:W.cell? ⟨c,0,none⟩=some (.string ⟨#[]⟩):=cA hc 0;have k1:W.cell? ⟨c,1,none⟩=some (.string out):=cA hc 1;have k3:W.cell? ⟨c,3,none⟩=some (.bool false):=cA hc 3;have g0:¬(100000:Int)<=out.size:=by omega
 have HJ:=hid J0;have E9:=hid (λw'=>Ko w');unfold Qr at E9;simp only[aH] at hW;clear J0 h ho hc hbw;unfold Qr;go_enter func142,ntmps142;go_wp2_with (fail)
 go_at_call 202;refine(E9.out _).mono ?_;rintro e w1 ⟨rfl,hb1⟩;have J1:=HJ.out.below hb1;have J2:=J1.cells #[.int .i64 0,.slice none 0 0,.bool false,.bool false,.string ⟨#[]⟩,.string ⟨#[]⟩,.int .i64 0,.bool false,.string ⟨#[]⟩,.slice none 0 0,.string ⟨#[]⟩] 33;obtain⟨X,hX⟩:∃X,w1.heap.size=X:=⟨_,rfl⟩;obtain⟨V,hV⟩:∃V,w1.alloc (.cells #[.int .i64 0,.slice none 0 0,.bool false,.bool false,.string ⟨#[]⟩,.string ⟨#[]⟩,.int .i64 0,.bool false,.string ⟨#[]⟩,.slice none 0 0,.string ⟨#[]⟩] 33)=V:=⟨_,rfl⟩;rw[hX,hV] at J2;have HJ2:=hid J2;have HV:=hid hV;clear J1 J2 hb1 E9 HJ hN k0 k1 k3 hV hW g0;go_upto_region 4 with fail
 rw[HV.out];clear HV;have x0:V.cell? ⟨X,0,none⟩=some (.int .i64 0):=cA (HJ2.out.get 0 rfl) 0;clear hX;obtain⟨r0,t0,r1,t1,r2,t2,r3,t3,r4,t4,r5,t5,r6,t6,r7,t7,r8,t8,r9,t9,nY,t10⟩:gU V N (.int .i64 0) (.slice none 0 0) (.bool false) (.bool false) (.string ⟨#[]⟩) (.string ⟨#[]⟩) (.int .i64 0) (.bool false) (.string ⟨#[]⟩) (.slice none 0 0) (.string ⟨#[]⟩):=au (HJ2.out.get 1 rfl);have hs:=aK N 33 [.int .i64 0,.slice none 0 0,.bool false,.bool false,.string ⟨#[]⟩,.string ⟨#[]⟩,.int .i64 0,.bool false,.string ⟨#[]⟩,.slice none 0 0,.string ⟨#[]⟩] 0 _ _ (HJ2.out.get 1 rfl);have k1:=HJ2.out.turn 1 rfl hs;have h2:=k1.get 1 rfl;rw[show aR 0 [.int .i64 0,.slice none 0 0,.bool false,.bool false,.string ⟨#[]⟩,.string ⟨#[]⟩,.int .i64 0,.bool false,.string ⟨#[]⟩,.slice none 0 0,.string ⟨#[]⟩] aH= #[.int .i64 0,.slice none 0 0,.bool false,.bool false,.string ⟨#[]⟩,.string ⟨#[]⟩,.int .i64 0,.bool false,.string ⟨#[]⟩,.slice none 0 0,.string ⟨#[]⟩] by simp[aR,aH]] at h2;have h3:=(k1.fE 1 rfl).bel;simp only[aS] at h2 h3;have HE:=hid (And.intro h2 h3);clear hs k1 h2 h3 HJ2;go_wp2_with (fail)
 exact bX (N:=N) (vm:=.bool false) (v0:=.int .i64 0) (v1:=.slice none 0 0) (v2:=.bool false) (v3:=.bool false) (v4:=.string ⟨#[]⟩) (v5:=.string ⟨#[]⟩) (v6:=.int .i64 0) (v7:=.bool false) (v8:=.string ⟨#[]⟩) (v9:=.slice none 0 0) (v10:=.string ⟨#[]⟩) rfl rfl rfl HE.out.1 ⟨rfl,HE.out.2⟩
open SP
open PM (Cd An Sd Vl upd upd_same upd_ne)
theorem Made.from{r:aT}{w W W':World}(hb:Below w.heap.size w W)(m:Made r W W'):Made r w W':=⟨m.here,hb.trans (m.bel.mono hb.size),λb h=>Nat.le_trans hb.size (m.lo b h)⟩
theorem Kq{key:ByteArray}{h:Int}{bk ns:Nat}(hk:gu key h bk)(hns:ns=4\/ns=1){sb sc:Nat}{a:Option Addr}{w:World}(c6:w.cell? ⟨sb,6,none⟩=some (.slice a ns sc)){c:Cm}(hck:c.key=key)(hop:c.op=1\/c.op=2\/c.op=3):
 Calls prog 145 #[.pointer (some ⟨sb,0,none⟩),.agg c.vs] w λe w'=> ∃g,e=.returned (.slice (some ⟨g,0,none⟩) 1 1)/\Made (rowAt (.slice (some ⟨g,0,none⟩) 1 1) 3 1 1 [.int .i64 0]) w w':=by
 obtain⟨op,mode,aI,value,flags,exp,tok,ah,delta,aj⟩:=c;dsimp only at hck hop;subst hck;have hcl:=aL c6;have hb:=bA w (.cells (Cm.vs ⟨op,mode,aI,value,flags,exp,tok,ah,delta,aj⟩) 56);have hA:=aA w (Cm.vs ⟨op,mode,aI,value,flags,exp,tok,ah,delta,aj⟩) 56;have s6:=(hb.cell (p:=⟨sb,6,none⟩) hcl).trans c6;obtain⟨N,hN⟩:∃N,w.heap.size=N:=⟨_,rfl⟩;obtain⟨W,hW⟩:∃W,w.alloc (.cells (Cm.vs ⟨op,mode,aI,value,flags,exp,tok,ah,delta,aj⟩) 56)=W:=⟨_,rfl⟩;rw[hN,hW] at hA;rw[hW] at hb s6;have k0:W.cell? ⟨N,0,none⟩=some (.int .i64 op):=cA hA 0;have k2:W.cell? ⟨N,2,none⟩=some (.string aI):=cA hA 2;have HH:=hid hk.hash;have HT:Hid (∀w',Calls prog 210 #[.int .u64 h,.int .i64 ns] w' λe w''=>e=.returned (.int .i64 0)/\w'=w''):=hid (by
  rcases hns with rfl|rfl
  ·exact hk.st4
  ·exact hk.st1)
 have g6:(op !=6)=true:=by simp;omega
 have HB:=hid hb;have HW:=hid hW;unfold Cm.vs at HW;dsimp only at HW;clear hk hb hA hcl c6 hW hop hns;unfold Cm.vs;dsimp only;go_enter func145,ntmps145;go_upto_region 1 with fail
 rw[HW.out];clear HW hN;go_wp2_with (fail)
 have HQ:Hid (∀w',Below W.heap.size W w'->w'.cell? ⟨N,2,none⟩=some (.string aI)/\w'.cell? ⟨sb,6,none⟩=some (.slice a ns sc)):=hid (λw' hb=>⟨(hb.cell (p:=⟨N,2,none⟩) (aL k2)).trans k2,(hb.cell (p:=⟨sb,6,none⟩) (aL s6)).trans s6⟩)
 go_region_held3 (λw'=>w'.cell? ⟨N,2,none⟩=some (.string aI)/\w'.cell? ⟨sb,6,none⟩=some (.slice a ns sc)) (first|exact⟨k2,s6⟩|exact HQ.out _ (by go_grown)|fail) (first
  |(go_at_call 17;refine(HH.out _).mono ?_;rintro e w1 ⟨rfl,rfl⟩)
  |(go_at_call 210;refine(HT.out _).mono ?_;rintro e w1 ⟨rfl,rfl⟩))
 all_goals (go_wp2_with fail)
 all_goals go_ret
 all_goals exact⟨_,rfl,Made.from HB.out (oq W #[.int .i64 0] 3 1 rfl).drew⟩
theorem mZ{v:Vl}(h:PM.TY v):(eX v).size<=20:=by
 cases v with
 |txt b=>exact h
theorem Bf(key:ByteArray)(x:Cd):(lV key x).key=key/\((lV key x).op=1\/(lV key x).op=2\/(lV key x).op=3):=by
 cases x<;>exact⟨rfl,by simp[lV]⟩
def vT(key:ByteArray)(l:Wl)(k:PM.Wk Cd An):List aT:=[aG l.b (vL l k) 143,rowAt (.slice (some ⟨l.cb,0,none⟩) 1 l.cc) 56 16 1 (lV key k.cmd).vs.toList,
 rowAt l.av 52 13 (if k.ph=2 then 1 else 0) (if k.ph=2 then Ov key k.ans else []),rowAt l.hv 3 1 (if k.ph=0 then 0 else 1) (if k.ph=0 then [] else [.int .i64 0])]
section
variable{key:ByteArray}{h:Int}{bk nw ns nc:Nat}{p:Pl}{s s':uC}{w w':World}{c:Nat}
theorem vU(hR:(dZ key h bk nw ns nc p s).R w)(hb:Below w.heap.size w w'):(dZ key h bk nw ns nc p s).R w':=(dZ key h bk nw ns nc p s).keep hR (aP.of_below (λ_=>False) hb) (λ_ _ x=>x)
theorem C_(hR:(dZ key h bk nw ns nc p s).R w){wi:Nat}(hw:wi<nw){k:PM.Wk Cd An}(hkk:s.wk wi=some k):aJ (many (vT key (p.wp wi) k)).B w (vT key (p.wp wi) k) w:=by
 have g8:(gp nw (λw=>o_ key (p.wp w) (s.wk w))).R w:=(aJ.open hR).get 8 rfl;have hwk:(o_ key (p.wp wi) (s.wk wi)).R w:=bz g8 hw;rw[hkk] at hwk;exact aJ.open hwk
theorem Kr(hR:(rowAt (.slice (some ⟨p.pq,0,none⟩) ns p.FT) 3 1 ns (fD ns (LZ s))).R w){x:Int}(hh:s'.holder=none/\x= -1\/∃v:Nat,s'.holder=some v/\x=v):
 ag (rowAt (.slice (some ⟨p.pq,0,none⟩) ns p.FT) 3 1 ns (fD ns (LZ s))) (rowAt (.slice (some ⟨p.pq,0,none⟩) ns p.FT) 3 1 ns (fD ns (LZ s'))) w (w.setCell ⟨p.pq,0,none⟩ (.int .i64 x)):=by
 have t:=aM hR 0 (.int .i64 x);have e:(fD ns (LZ s)).set 0 (.int .i64 x)=fD ns (LZ s'):=by
  rw[gz];refine gV (λj _=>?_);by_cases e:j=0
  ·subst e;rw[upd_same];unfold LZ;rw[if_pos rfl];rcases hh with ⟨h1,rfl⟩|⟨v,h1,rfl⟩<;>rw[h1]<;>rfl
  ·rw[upd_ne _ _ e];unfold LZ;rw[if_neg e,if_neg e]
 rw[e] at t;exact t
theorem E_{A B C E x:aT}(hR:(many [A,B,C,E]).R w)(hx:x.R w)(ha:∀b,(many [A,B,C,E]).B b->¬x.B b):(many [A,B,C,x]).R w:=by
 have hp:=hR.2;simp only[List.pairwise_cons,List.mem_cons,List.not_mem_nil,or_false,forall_eq_or_imp,forall_eq] at hp;obtain⟨⟨h1,h2,h3⟩,⟨h4,h5⟩,h6,_⟩:=hp;refine⟨λr hr=>?_,?_⟩
 ·simp only[List.mem_cons,List.not_mem_nil,or_false] at hr;rcases hr with rfl|rfl|rfl|rfl
  ·exact hR.1 _ (.head _)
  ·exact hR.1 _ (.tail _ (.head _))
  ·exact hR.1 _ (.tail _ (.tail _ (.head _)))
  ·exact hx
 ·simp only[List.pairwise_cons,List.mem_cons,List.not_mem_nil,or_false,forall_eq_or_imp,forall_eq];exact⟨⟨h1,h2,λb hb=>ha b ⟨A,.head _,hb⟩⟩,⟨h4,λb hb=>ha b ⟨B,.tail _ (.head _),hb⟩⟩,λb hb=>ha b ⟨C,.tail _ (.tail _ (.head _)),hb⟩,λ_ h=>h.elim,List.Pairwise.nil⟩
theorem Kt{wi:Nat}{k k':PM.Wk Cd An}{l':Wl}{ho:Option Nat}(hkk:s.wk wi=some k)(hb:l'.b=(p.wp wi).b):fD nw (tH {p with wp:=upd p.wp wi l'} {s with holder:=ho,wk:=upd s.wk wi (some k')})=fD nw (tH p s):=by
 refine gV (λj _=>?_);unfold tH;dsimp only;by_cases e:j=wi
 ·subst e;rw[upd_same,upd_same,hkk];dsimp only;rw[hb]
 ·rw[upd_ne _ _ e,upd_ne _ _ e]
theorem Bg{wi:Nat}{o:Option (PM.Wk Cd An)}{l':Wl}:(λv=>o_ key (upd p.wp wi l' v) (upd s.wk wi o v))=upd (λv=>o_ key (p.wp v) (s.wk v)) wi (o_ key l' o):=by
 funext j;by_cases e:j=wi
 ·subst e;rw[upd_same,upd_same,upd_same]
 ·rw[upd_ne _ _ e,upd_ne _ _ e,upd_ne _ _ e]
theorem Ku{wi:Nat}{f:Nat->aT}{x r1:aT}{D:Nat->Prop}{L:List aT}(hJ:aJ D w (x :: L) w'){i:Nat}(hi:L[i]?=some (gp nw f))(hw:wi<nw)(hR:(f wi).R w'->x.R w'->(∀b,(f wi).B b->¬x.B b)->r1.R w')(hB:∀b,r1.B b->(f wi).B b\/x.B b):aJ D w (L.set i (gp nw (upd f wi r1))) w':=by
 have hp:=IA (n:=nw) (f:=f) (i:=wi) (w:=w') hw hR hB;exact hJ.push i hi hp.1 hp.2
theorem OV(hk:gu key h bk)(hns:ns=4\/ns=1)(hR:(dZ key h bk nw ns nc p s).R w){wi:Nat}(hw:wi<nw){k:PM.Wk Cd An}(hkk:s.wk wi=some k)(hp:k.ph=0):
 Calls prog 80 #[.pointer (some ⟨p.b,0,none⟩),.int .i64 wi,.pointer (some ⟨(p.wp wi).b,0,none⟩)] w λe w'=>
  e=.returned (.bool (!s.holder.isSome))/\∃p':Pl,p'.b=p.b/\p'.m=p.m/\ag (dZ key h bk nw ns nc p s) (dZ key h bk nw ns nc p' (if s.holder.isSome then s else PM.lock s wi k)) w w':=by
 obtain⟨l,hl⟩:∃l,p.wp wi=l:=⟨_,rfl⟩;have HF:Hid (∀w',Below w.heap.size w w'->aJ (many (vT key l k)).B w' (vT key l k) w'):=hid (λw' hb=>by rw[<-hl];exact C_ (vU hR hb) hw hkk);have hcd:=Bf key k.cmd;obtain⟨c,hc⟩:∃c,lV key k.cmd=c:=⟨_,rfl⟩
 have HN:Hid (∀w',Below w.heap.size w w'->Calls prog 145 #[.pointer (some ⟨p.b,0,none⟩),.agg c.vs] w' λe w''=> ∃g,e=.returned (.slice (some ⟨g,0,none⟩) 1 1)/\Made (rowAt (.slice (some ⟨g,0,none⟩) 1 1) 3 1 1 [.int .i64 0]) w' w''):=
  hid (λw' hb=>Kq hk hns (cA ((aJ.open (vU hR hb)).get 0 rfl) 6) (by rw[<-hc];exact hcd.1) (by rw[<-hc];exact hcd.2))
 have HC:Hid (∀w',Below w.heap.size w w'->∀j u,c.vs.toList[j]?=some u->w'.cell? ⟨l.cb,j,none⟩=some u):=hid (λw' hb j u hj=>by
  have h1:=(HF.out w' hb).get 1 rfl;rw[hc] at h1;rw[aB h1 j (List.getElem?_eq_some_iff.1 hj).1];exact hj)
 obtain⟨op,mode,aI,value,flags,exp,tok,ah,delta,aj⟩:=c;have HS:Hid (∀w',Below w.heap.size w w'->w'.cell? ⟨l.b,1,none⟩=some (.slice (some ⟨l.cb,0,none⟩) 1 l.cc)/\w'.cell? ⟨l.b,13,none⟩=some (.int .i64 0)/\w'.cell? ⟨l.cb,0,none⟩=some (.int .i64 op)/\w'.cell? ⟨l.cb,1,none⟩=some (.int .i64 mode)/\w'.cell? ⟨l.cb,2,none⟩=some (.string aI)/\w'.cell? ⟨l.cb,3,none⟩=some (.string value)/\w'.cell? ⟨l.cb,4,none⟩=some (.int .u32 flags)/\w'.cell? ⟨l.cb,5,none⟩=some (.int .i64 exp)/\w'.cell? ⟨l.cb,6,none⟩=some (.bool false)/\w'.cell? ⟨l.cb,7,none⟩=some (.int .u64 tok)/\w'.cell? ⟨l.cb,8,none⟩=some (.bool ah)/\w'.cell? ⟨l.cb,9,none⟩=some (.int .u64 delta)/\w'.cell? ⟨l.cb,10,none⟩=some (.int .u64 0)/\w'.cell? ⟨l.cb,11,none⟩=some (.bool false)/\w'.cell? ⟨l.cb,12,none⟩=some (.bool false)/\w'.cell? ⟨l.cb,13,none⟩=some (.int .i64 0)/\w'.cell? ⟨l.cb,14,none⟩=some (.int .i64 aj)/\w'.cell? ⟨l.cb,15,none⟩=some (.bool false)):=hid (λw' hb=>by
  have h0:=(HF.out w' hb).get 0 rfl;have hC:=HC.out w' hb;exact⟨cA h0 1,cA h0 13,hC 0 _ rfl,hC 1 _ rfl,hC 2 _ rfl,hC 3 _ rfl,hC 4 _ rfl,hC 5 _ rfl,hC 6 _ rfl,hC 7 _ rfl,hC 8 _ rfl,hC 9 _ rfl,hC 10 _ rfl,hC 11 _ rfl,hC 12 _ rfl,hC 13 _ rfl,hC 14 _ rfl,hC 15 _ rfl⟩)
 have hn0:(0:Int)<ns:=by rcases hns with rfl|rfl<;>decide
 have H:=hid (aJ.open hR);have SX:=hid (And.intro hw (And.intro hkk (And.intro hp hl)));have S0:=HS.out w (Below.refl _ _);unfold Cm.vs at HN;dsimp only at HN;rw[hl];clear hR hw hkk hp hl hcd hns hk HC;go_enter func80,ntmps80;go_wp2_with (fail)
 go_cut [7] from 12 to 24 (λs7 wx=> ∃g,s7=.slice (some ⟨g,0,none⟩) 1 1/\Hid (Made (rowAt (.slice (some ⟨g,0,none⟩) 1 1) 3 1 1 [.int .i64 0]) w wx))
 case first=>
  go_region_held3 (λw'=>w'.cell? ⟨l.b,1,none⟩=some (.slice (some ⟨l.cb,0,none⟩) 1 l.cc)/\w'.cell? ⟨l.b,13,none⟩=some (.int .i64 0)/\w'.cell? ⟨l.cb,0,none⟩=some (.int .i64 op)/\w'.cell? ⟨l.cb,1,none⟩=some (.int .i64 mode)/\w'.cell? ⟨l.cb,2,none⟩=some (.string aI)/\w'.cell? ⟨l.cb,3,none⟩=some (.string value)/\w'.cell? ⟨l.cb,4,none⟩=some (.int .u32 flags)/\w'.cell? ⟨l.cb,5,none⟩=some (.int .i64 exp)/\w'.cell? ⟨l.cb,6,none⟩=some (.bool false)/\w'.cell? ⟨l.cb,7,none⟩=some (.int .u64 tok)/\w'.cell? ⟨l.cb,8,none⟩=some (.bool ah)/\w'.cell? ⟨l.cb,9,none⟩=some (.int .u64 delta)/\w'.cell? ⟨l.cb,10,none⟩=some (.int .u64 0)/\w'.cell? ⟨l.cb,11,none⟩=some (.bool false)/\w'.cell? ⟨l.cb,12,none⟩=some (.bool false)/\w'.cell? ⟨l.cb,13,none⟩=some (.int .i64 0)/\w'.cell? ⟨l.cb,14,none⟩=some (.int .i64 aj)/\w'.cell? ⟨l.cb,15,none⟩=some (.bool false)) (first|exact S0|exact HS.out _ iF.out|exact HS.out _ (Below.refl _ _).drew) (first
   |(go_at_call 145;refine(HN.out _ (by first|exact(Below.refl _ _).drew|exact Below.refl _ _)).mono ?_;rintro e w6 ⟨g,rfl,hm6⟩;have hbb:Below w.heap.size w w6:=Below.trans (by first|exact(Below.refl _ _).drew|exact Below.refl _ _) (hm6.bel.mono (Nat.le_refl _));have iF:=hid hbb;have Xx:=hid hm6;clear hm6 hbb))
  all_goals (go_wp2_with fail)
  all_goals (go_meet;exact⟨g,rfl,hid (Made.from (by exact(Below.refl _ _).drew) Xx.out)⟩)
 case rest=>
  obtain⟨g,rfl,hm⟩:=hcut;have J1:=H.out.made hm.out;have g0:wc.cell? ⟨g,0,none⟩=some (.int .i64 0):=aB (J1.get 0 rfl) 0 (by decide);have b6:wc.cell? ⟨p.b,6,none⟩=some (.slice (some ⟨p.pq,0,none⟩) ns p.FT):=cA (J1.get 1 rfl) 6;have t0:wc.cell? ⟨p.pq,0,none⟩=some (.int .i64 (hold s.holder)):=by rw[aB (J1.get 4 rfl) 0 (by rw[eB];omega),bP (by omega)];rfl
  clear S0 HS HN;have kM:=hid J1;clear J1;cases hh:s.holder with
  |some v=>
   rw[hh] at t0;have t0':wc.cell? ⟨p.pq,0,none⟩=some (.int .i64 (v:Nat)):=t0;have hv:(0:Int)<=(v:Nat):=by omega
   clear t0 SX;have HE:Hid (ag (dZ key h bk nw ns nc p s) (dZ key h bk nw ns nc p s) w wc):=hid (kM.out.sub (.cons _ (List.Sublist.refl _))).shut;clear kM HF H;go_wp2_with (fail)
   go_loopw [27] (λi wr=>i=.int .i64 0/\wr=wc) (λ_ _=>0)
   case atStart=>exact⟨rfl,rfl⟩
   case round=>
    obtain⟨rfl,hr⟩:=hrel;subst hr;go_wp2_with (fail)
    all_goals go_ret
    all_goals exact⟨rfl,p,rfl,rfl,HE.out⟩
  |none=>
   rw[hh] at t0;have t0':wc.cell? ⟨p.pq,0,none⟩=some (.int .i64 (-1)):=t0;clear t0;have tf:=bn (kM.out.get 4 rfl) 0;have J2:=kM.out.turn 4 rfl (Kr (s':=PM.lock s wi k) (x:=wi) (kM.out.get 4 rfl) (.inr ⟨wi,rfl,rfl⟩));obtain⟨w2,hw2⟩:∃w2,wc.setCell ⟨p.pq,0,none⟩ (.int .i64 wi)=w2:=⟨_,rfl⟩;rw[hw2] at J2;have HJ2:=hid J2;have HW2:=hid hw2;clear J2 hw2 kM HF H;go_wp2_with (fail)
   go_loopw [27] (λi wr=>(i=.int .i64 0/\wr=wc)\/(i=.int .i64 1/\wr=wc)) (λi _=>1-(intOf i).toNat)
   case atStart=>exact .inl ⟨rfl,rfl⟩
   case round=>
    rcases hrel with ⟨rfl,hr⟩|⟨rfl,hr⟩
    ·subst hr;go_wp2_with (fail)
     go_roundw;case rel=>exact .inr ⟨by first|rfl|trivial|simp,by first|rfl|trivial|simp⟩
     case measure=>simp[intOf]
    ·subst hr;go_wp2_with (fail)
     go_loopw [42] (λi wr2=>(i=.int .i64 0/\wr2=wr)\/(i=.int .i64 1/\wr2=w2)) (λi _=>1-(intOf i).toNat)
     case atStart=>exact .inl ⟨rfl,rfl⟩
     case round=>
      rcases hrel with ⟨rfl,hr2⟩|⟨rfl,hr2⟩
      ·subst hr2;go_wp2_with (fail)
       go_roundw;case rel=>exact .inr ⟨by first|rfl|trivial|simp,HW2.out⟩
       case measure=>simp[intOf]
      ·subst hr2;clear g0 b6 t0' tf HW2;obtain⟨hw,hkk,hp,hl⟩:=SX.out;have g9:(gp nw (λw=>o_ key (p.wp w) (s.wk w))).R wr:=HJ2.out.get 9 rfl;have hwk:(o_ key (p.wp wi) (s.wk wi)).R wr:=bz g9 hw;rw[hkk,hl] at hwk;have HK:aJ (many (vT key l k)).B wr (vT key l k) wr:=aJ.open hwk;have hf:∀i,wr.frozen? ⟨l.b,i,none⟩=false:=λi=>cZ (HK.get 0 rfl) i
       have f15:=hf 15;have f16:=hf 16;have c16:wr.cell? ⟨l.b,16,none⟩=some l.hv:=cA (HK.get 0 rfl) 16;have c15:wr.cell? ⟨l.b,15,none⟩=some (.int .i64 k.ph):=cA (HK.get 0 rfl) 15;have t1:=ai (HK.get 0 rfl) 16 (.slice (some ⟨g,0,none⟩) 1 1);have t2:=t1.trans (ai t1.here 15 (.int .i64 1));obtain⟨l',hl'⟩:∃l':Wl,l'= {l with hv:=.slice (some ⟨g,0,none⟩) 1 1}:=⟨_,rfl⟩;have ec:((vL l k).setIfInBounds 16 (.slice (some ⟨g,0,none⟩) 1 1)).setIfInBounds 15 (.int .i64 1)=vL l' {k with ph:=1}:=by rw[hl'];simp[vL]
       rw[ec] at t2;have t3:=(HK.turn 0 rfl t2).shut;have t4:ag (o_ key (p.wp wi) (s.wk wi)) (many ((vT key l k).set 0 (aG l.b (vL l' {k with ph:=1}) 143))) wr ((wr.setCell ⟨l.b,16,none⟩ (.slice (some ⟨g,0,none⟩) 1 1)).setCell ⟨l.b,15,none⟩ (.int .i64 1)):=by rw[hkk,hl];exact t3
       have J3:=HJ2.out.turn 9 rfl (fo g9 hw t4);have J4:=Ku (r1:=o_ key l' (some {k with ph:=1})) J3 (i:=8) rfl hw (λhR hx ha=>by
        subst hl';rw[upd_same] at hR ha;have h5:=E_ hR hx ha;rw[if_neg (by omega),if_neg (by omega)] at h5;exact h5) (λb hb=>by
        rw[upd_same];subst hl';obtain⟨r,hr,hb⟩:=hb;simp only[List.mem_cons,List.not_mem_nil,or_false] at hr;rcases hr with rfl|rfl|rfl|rfl
        ·exact .inl ⟨_,.head _,hb⟩
        ·exact .inl ⟨_,.tail _ (.head _),hb⟩
        ·refine .inl ⟨_,.tail _ (.tail _ (.head _)),?_⟩;exact hb
        ·exact .inr hb)
       rw[PM.kC,<-Bg] at J4;have hrow:=Kt (nw:=nw) (p:=p) (s:=s) (l':=l') (k':={k with ph:=1}) (ho:=some wi) hkk (by rw[hl',hl]);have HE:Hid (ag (dZ key h bk nw ns nc p s) (dZ key h bk nw ns nc {p with wp:=upd p.wp wi l'} (PM.lock s wi k)) w ((wr.setCell ⟨l.b,16,none⟩ (.slice (some ⟨g,0,none⟩) 1 1)).setCell ⟨l.b,15,none⟩ (.int .i64 1))):=hid (by
        have h6:=J4.shut;show ag _ (many (FU key h bk nw ns nc {p with wp:=upd p.wp wi l'} (PM.lock s wi k))) w _;unfold FU;rw[show fD nw (tH {p with wp:=upd p.wp wi l'} (PM.lock s wi k))=fD nw (tH p s) from hrow];exact h6)
       clear J4 hrow J3 t4 t3 t2 t1 HK hwk g9 HJ2;go_wp2_with (fail)
       all_goals go_ret
       all_goals exact⟨rfl,{p with wp:=upd p.wp wi l'},rfl,rfl,HE.out⟩
end
structure Nx(key:ByteArray)(x:Cd):Prop where
 next:∀(rest:List Cd) (out:ByteArray) (c:Nat) (w:World),(iD key (x :: rest)).size<=2000->out.size<=60000->(gy c (iD key (x :: rest)) out).R w->
  Calls prog 142 #[.pointer (some ⟨c,0,none⟩)] w λe w'=> ∃cb cc,e=.returned (.tuple #[dR 1 (.slice (some ⟨cb,0,none⟩) 1 cc) false false,.bool true])/\
   ag (gy c (iD key (x :: rest)) out) (many [gy c (iD key rest) out,rowAt (.slice (some ⟨cb,0,none⟩) 1 cc) 56 16 1 (lV key x).vs.toList]) w w'
section
variable{key:ByteArray}{h:Int}{bk nw ns nc:Nat}{p:Pl}{s s':uC}{w w':World}{c:Nat}
theorem Kv{A B:aT}{E E2 z z2:Nat}(hR:(many [A,B]).R w):(many [A,B,rowAt (.slice none 0 0) E z 0 [],rowAt (.slice none 0 0) E2 z2 0 []]).R w:=by
 have hab:=(List.pairwise_cons.1 hR.2).1 B (.head _);have hn:∀(E z b:Nat),¬(rowAt (.slice none 0 0) E z 0 []).B b:=λE z b hb=>by
  have e:(none:Option Nat)=some b:=hb;cases e
 refine⟨λr hr=>?_,?_⟩
 ·simp only[List.mem_cons,List.not_mem_nil,or_false] at hr;rcases hr with rfl|rfl|rfl|rfl
  ·exact hR.1 _ (.head _)
  ·exact hR.1 _ (.tail _ (.head _))
  ·exact eu _ _ _
  ·exact eu _ _ _
 ·simp only[List.pairwise_cons,List.mem_cons,List.not_mem_nil,or_false,forall_eq_or_imp,forall_eq];exact⟨⟨hab,λb _=>hn _ _ b,λb _=>hn _ _ b⟩,⟨λb _=>hn _ _ b,λb _=>hn _ _ b⟩,λb _=>hn _ _ b,λ_ h=>h.elim,List.Pairwise.nil⟩
theorem Bh{A B:aT}{E E2 z z2 b:Nat}(hb:(many [A,B,rowAt (.slice none 0 0) E z 0 [],rowAt (.slice none 0 0) E2 z2 0 []]).B b):(many [A,B]).B b:=by
 have hn:∀(E z b:Nat),¬(rowAt (.slice none 0 0) E z 0 []).B b:=λE z b hb=>by
  have e:(none:Option Nat)=some b:=hb;cases e
 obtain⟨r,hr,hb⟩:=hb;simp only[List.mem_cons,List.not_mem_nil,or_false] at hr;rcases hr with rfl|rfl|rfl|rfl
 ·exact⟨_,.head _,hb⟩
 ·exact⟨_,.tail _ (.head _),hb⟩
 ·exact absurd hb (hn _ _ b)
 ·exact absurd hb (hn _ _ b)
theorem Fa{x:Cd}{rest:List Cd}(hN:Nx key x)(hR:(dZ key h bk nw ns nc p s).R w)(hc:c<nc){wi:Nat}(hw:wi<nw)(hwk:s.wk wi=none)(hb:s.busy c=false)(hq:s.q c=x :: rest)(ho:(jK key (s.out c)).size<=60000)(hz:(iD key (x :: rest)).size<=2000)(hs:s.seq c<=1000000):
 Calls prog 79 #[.pointer (some ⟨p.b,0,none⟩),.int .i64 wi,.int .i64 c] w λe w'=>e=.returned (.bool true)/\∃p':Pl,p'.b=p.b/\p'.m=p.m/\ag (dZ key h bk nw ns nc p s) (dZ key h bk nw ns nc p' (PM.take PM.Ad s wi c x rest)) w w':=by
 have HC:=hid (om hR hc);have H:=aJ.open hR;have g7:(gp nc (kN key p s)).R w:=H.get 7 rfl;have k2:w.cell? ⟨p.cb c,2,none⟩=some (.bool false):=by rw[<-hb];exact cA (bz g7 hc).1 2
 have k0:w.cell? ⟨p.cb c,0,none⟩=some (.pointer (some ⟨p.nb c,0,none⟩)):=cA (bz g7 hc).1 0;have hcn:=(bz g7 hc).2.1;rw[hq] at hcn;have OW:=hid (hN.next rest _ _ _ hz ho hcn);have HH:=hid H;have HW:=hid (And.intro hc (And.intro hw (And.intro hwk (And.intro hb (And.intro hq hs)))));clear hR g7 hcn hc hw hwk hb hq ho hz hs H hN;unfold dR at OW;go_enter func79,ntmps79;go_wp2_with (go_at_call 40;refine HC.out.mono ?_;rintro e w1 ⟨rfl,rfl⟩)
 go_at_call 142;refine OW.out.mono ?_;rintro e w1 ⟨cb,cc,rfl,ht⟩;obtain⟨hc,hw,hwk,hb,hq,hs⟩:=HW.out;have g7:=HH.out.get 7 rfl;have ht':ag (gy (p.nb c) (iD key (s.q c)) (jK key (s.out c))) (many [gy (p.nb c) (iD key rest) (jK key (s.out c)),rowAt (.slice (some ⟨cb,0,none⟩) 1 cc) 56 16 1 (lV key x).vs.toList]) w w1:=by rw[hq];exact ht
 have J1:=HH.out.pull 7 rfl (NQ g7 hc (NR (bz g7 hc) ht'));have J2:=J1.cells #[.int .i64 1,.slice (some ⟨cb,0,none⟩) 1 cc,.bool false,.bool false,.string ⟨#[]⟩,.string ⟨#[]⟩,.int .i64 0,.bool false,.string ⟨#[]⟩,.slice none 0 0,.string ⟨#[]⟩] 33;obtain⟨X,hX⟩:∃X,w1.heap.size=X:=⟨_,rfl⟩;obtain⟨V,hV⟩:∃V,w1.alloc (.cells #[.int .i64 1,.slice (some ⟨cb,0,none⟩) 1 cc,.bool false,.bool false,.string ⟨#[]⟩,.string ⟨#[]⟩,.int .i64 0,.bool false,.string ⟨#[]⟩,.slice none 0 0,.string ⟨#[]⟩] 33)=V:=⟨_,rfl⟩;rw[hX,hV] at J2;have HV:=hid hV;have HJ2:=hid J2;clear J1 J2 ht ht' g7 k2 k0 hV OW HC HH;go_upto_region 7 with fail
 rw[HV.out];clear HV hX;have g9:=HJ2.out.get 9 rfl;have hcl:=bz g9 hc;rw[upd_same] at hcl;have k1:V.cell? ⟨p.cb c,1,none⟩=some (.int .i64 (s.seq c)):=cA hcl.1 1;have f1:=cZ hcl.1 1;have e1:IntKind.i64.wrap ((s.seq c:Int)+1)=(s.seq c:Int)+1:=by rw[IntKind.wrap_i64];omega
 have t3:=ai hcl.1 1 (.int .i64 ((s.seq c:Int)+1));have t4:ag (upd (kN key p s) c ((aG (p.cb c) #[.pointer (some ⟨p.nb c,0,none⟩),.int .i64 (s.seq c),.bool (s.busy c)] 86).and (gy (p.nb c) (iD key rest) (jK key (s.out c)))) c) ((aG (p.cb c) #[.pointer (some ⟨p.nb c,0,none⟩),.int .i64 ((s.seq c:Int)+1),.bool (s.busy c)] 86).and (gy (p.nb c) (iD key rest) (jK key (s.out c)))) V (V.setCell ⟨p.cb c,1,none⟩ (.int .i64 ((s.seq c:Int)+1))):=by
  rw[upd_same];exact t3.left hcl
 have J3:=HJ2.out.turn 9 rfl (fo g9 hc t4);rw[PM.kC] at J3;go_upto_region 8 with fail
 obtain⟨V2,hV2⟩:∃V2,V.setCell ⟨p.cb c,1,none⟩ (.int .i64 ((s.seq c:Int)+1))=V2:=⟨_,rfl⟩;rw[hV2] at J3;rw[hV2];have vP:=hid J3;clear J3 t3 t4 hcl g9 k1 f1 hV2 HJ2;have HS:Hid (∀w',Below V2.heap.size V2 w'->w'.cell? ⟨X,0,none⟩=some (.int .i64 1)/\w'.cell? ⟨X,1,none⟩=some (.slice (some ⟨cb,0,none⟩) 1 cc)/\w'.cell? ⟨X,2,none⟩=some (.bool false)/\w'.cell? ⟨X,3,none⟩=some (.bool false)/\w'.cell? ⟨X,4,none⟩=some (.string ⟨#[]⟩)/\w'.cell? ⟨X,5,none⟩=some (.string ⟨#[]⟩)/\w'.cell? ⟨X,6,none⟩=some (.int .i64 0)/\w'.cell? ⟨X,7,none⟩=some (.bool false)/\w'.cell? ⟨X,8,none⟩=some (.string ⟨#[]⟩)/\w'.cell? ⟨X,9,none⟩=some (.slice none 0 0)/\w'.cell? ⟨X,10,none⟩=some (.string ⟨#[]⟩)/\w'.cell? ⟨p.cb c,1,none⟩=some (.int .i64 ((s.seq c:Int)+1))):=hid (λw' hb=>by
  have J:=vP.out.below hb;have hcl:=bz (J.get 9 rfl) hc;rw[upd_same] at hcl;exact⟨cA (J.get 0 rfl) 0,cA (J.get 0 rfl) 1,cA (J.get 0 rfl) 2,cA (J.get 0 rfl) 3,cA (J.get 0 rfl) 4,cA (J.get 0 rfl) 5,cA (J.get 0 rfl) 6,cA (J.get 0 rfl) 7,cA (J.get 0 rfl) 8,cA (J.get 0 rfl) 9,cA (J.get 0 rfl) 10,cA hcl.1 1⟩)
 have S0:=HS.out V2.drew (below_drewN' V2 1);have S1:=HS.out _ (bA V2 (.cells #[.int .i64 1,.slice (some ⟨cb,0,none⟩) 1 cc,.bool false,.bool false,.string ⟨#[]⟩,.string ⟨#[]⟩,.int .i64 0,.bool false,.string ⟨#[]⟩,.slice none 0 0,.string ⟨#[]⟩,.int .i64 c,.int .i64 ((s.seq c:Int)+1),.int .i64 0,.slice none 0 0,.int .i64 0,.slice none 0 0] 143)).drew;go_region_held3 (λw'=>w'.cell? ⟨X,0,none⟩=some (.int .i64 1)/\w'.cell? ⟨X,1,none⟩=some (.slice (some ⟨cb,0,none⟩) 1 cc)/\w'.cell? ⟨X,2,none⟩=some (.bool false)/\w'.cell? ⟨X,3,none⟩=some (.bool false)/\w'.cell? ⟨X,4,none⟩=some (.string ⟨#[]⟩)/\w'.cell? ⟨X,5,none⟩=some (.string ⟨#[]⟩)/\w'.cell? ⟨X,6,none⟩=some (.int .i64 0)/\w'.cell? ⟨X,7,none⟩=some (.bool false)/\w'.cell? ⟨X,8,none⟩=some (.string ⟨#[]⟩)/\w'.cell? ⟨X,9,none⟩=some (.slice none 0 0)/\w'.cell? ⟨X,10,none⟩=some (.string ⟨#[]⟩)/\w'.cell? ⟨p.cb c,1,none⟩=some (.int .i64 ((s.seq c:Int)+1))) (first|with_reducible exact S0|with_reducible exact S1|exact HS.out _ (Below.refl _ _)|exact HS.out _ (bA _ _).drew|fail) (fail)
 rename_i hHeld;clear hHeld S0 S1 HS;have J4:=(vP.out.cells #[.int .i64 1,.slice (some ⟨cb,0,none⟩) 1 cc,.bool false,.bool false,.string ⟨#[]⟩,.string ⟨#[]⟩,.int .i64 0,.bool false,.string ⟨#[]⟩,.slice none 0 0,.string ⟨#[]⟩,.int .i64 c,.int .i64 ((s.seq c:Int)+1),.int .i64 0,.slice none 0 0,.int .i64 0,.slice none 0 0] 143).drew;obtain⟨M,hM⟩:∃M,V2.heap.size=M:=⟨_,rfl⟩;obtain⟨Y,hY⟩:∃Y,(V2.alloc (.cells #[.int .i64 1,.slice (some ⟨cb,0,none⟩) 1 cc,.bool false,.bool false,.string ⟨#[]⟩,.string ⟨#[]⟩,.int .i64 0,.bool false,.string ⟨#[]⟩,.slice none 0 0,.string ⟨#[]⟩,.int .i64 c,.int .i64 ((s.seq c:Int)+1),.int .i64 0,.slice none 0 0,.int .i64 0,.slice none 0 0] 143)).drew=Y:=⟨_,rfl⟩;rw[hM,hY] at J4;rw[hM,hY];clear hM hY vP;have g9:=J4.get 10 rfl;have hcl:=bz g9 hc;rw[upd_same] at hcl;have x0:Y.cell? ⟨X,0,none⟩=some (.int .i64 1):=cA (J4.get 1 rfl) 0;have k2:Y.cell? ⟨p.cb c,2,none⟩=some (.bool (s.busy c)):=cA hcl.1 2;have f2:=cZ hcl.1 2;have t5:=ai hcl.1 2 (.bool true);have t6:ag (upd (kN key p s) c ((aG (p.cb c) #[.pointer (some ⟨p.nb c,0,none⟩),.int .i64 ((s.seq c:Int)+1),.bool (s.busy c)] 86).and (gy (p.nb c) (iD key rest) (jK key (s.out c)))) c) ((aG (p.cb c) #[.pointer (some ⟨p.nb c,0,none⟩),.int .i64 ((s.seq c:Int)+1),.bool true] 86).and (gy (p.nb c) (iD key rest) (jK key (s.out c)))) Y (Y.setCell ⟨p.cb c,2,none⟩ (.bool true)):=by
  rw[upd_same];exact t5.left hcl
 have J5:=J4.turn 10 rfl (fo g9 hc t6);rw[PM.kC] at J5;go_upto_region 13 with fail
 obtain⟨Z,hZ⟩:∃Z,Y.setCell ⟨p.cb c,2,none⟩ (.bool true)=Z:=⟨_,rfl⟩;rw[hZ] at J5;rw[hZ];have b5:Z.cell? ⟨p.b,5,none⟩=some (.slice (some ⟨p.lh,0,none⟩) nw p.zK):=cA (J5.get 3 rfl) 5;have r5:Z.cell? ⟨p.lh,wi,none⟩=some (tH p s wi):=by rw[aB (J5.get 5 rfl) wi (by rw[eB];exact hw),bP hw]
 have z5:=bn (J5.get 5 rfl) wi;have n5:(wi:Int)<nw:=by omega
 have J6:=J5.turn 5 rfl (aM (J5.get 5 rfl) wi (.pointer (some ⟨M,0,none⟩)));obtain⟨l',hl'⟩:∃l':Wl,l'=⟨M,cb,cc,.slice none 0 0,.slice none 0 0⟩:=⟨_,rfl⟩;have hrow:(fD nw (tH p s)).set wi (.pointer (some ⟨M,0,none⟩))=fD nw (tH {p with wp:=upd p.wp wi l'} (PM.take PM.Ad s wi c x rest)):=by
  rw[gz];refine gV (λj _=>?_);unfold tH PM.take;dsimp only;by_cases e:j=wi
  ·subst e;rw[upd_same,upd_same,upd_same,hl']
  ·rw[upd_ne _ _ e,upd_ne _ _ e,upd_ne _ _ e]
 rw[hrow] at J6;have J7:=(J6.sub (.cons_cons _ (.cons _ (List.Sublist.refl _)))).join;have J8:=Ku (r1:=o_ key l' (some ⟨c,s.seq c+1,x,0,PM.Ad⟩)) J7 (i:=8) rfl hw (λ_ hx _=>by
  subst hl';exact Kv hx) (λb hb=>by
  subst hl';exact .inr (Bh hb))
 rw[<-Bg] at J8;have e7:upd (kN key p s) c ((aG (p.cb c) #[.pointer (some ⟨p.nb c,0,none⟩),.int .i64 ((s.seq c:Int)+1),.bool true] 86).and (gy (p.nb c) (iD key rest) (jK key (s.out c))))=kN key {p with wp:=upd p.wp wi l'} (PM.take PM.Ad s wi c x rest):=by
  funext j;unfold PM.take kN;dsimp only;by_cases e:j=c
  ·subst e;rw[upd_same,upd_same,upd_same,upd_same];rfl
  ·rw[upd_ne _ _ e,upd_ne _ _ e,upd_ne _ _ e,upd_ne _ _ e]
 have HE:Hid (ag (dZ key h bk nw ns nc p s) (dZ key h bk nw ns nc {p with wp:=upd p.wp wi l'} (PM.take PM.Ad s wi c x rest)) w (Z.setCell ⟨p.lh,wi,none⟩ (.pointer (some ⟨M,0,none⟩)))):=hid (by
  have h6:=J8.shut;rw[e7] at h6;exact h6)
 clear J8 J7 J6 J5 J4 hrow e7 t5 t6 hcl g9;go_wp2_with (fail)
 all_goals go_ret
 all_goals exact⟨rfl,{p with wp:=upd p.wp wi l'},rfl,rfl,HE.out⟩
end
open PM (Cd An Sd Vl)
theorem Bi{b:ByteArray}{pre tail:List UInt8}(hb:W2.P.sl b=pre ++ 10 :: tail)(h10:(10:UInt8)∉pre):W2.aX b=W2.P.mk (Lib.trimSuffix pre [13])/\W2.b_ b=(pre.length+1:Nat):=by
 have hm:(10:UInt8)∈W2.P.sl b:=by rw[hb];simp
 have hu:W2.P.upto 10 (W2.P.sl b)=pre:=by rw[hb];exact(W2.P.ry h10).1
 unfold W2.aX W2.b_;rw[if_pos hm,if_pos hm,hu];exact⟨rfl,rfl⟩
theorem Kw{b:ByteArray}{pre tail:List UInt8}{ln nm:ByteArray}{n:Nat}(hb:W2.P.sl b=pre ++ 10 :: tail)(h10:(10:UInt8)∉pre)(hl:W2.P.mk (Lib.trimSuffix pre [13])=ln)(hn:pre.length+1=n)(hsz:b.size<=2000)
 (htr:Lib.trimLeftB ln.data.toList 32=ln.data.toList) (hnm:W2.P.mk (W2.P.upto 32 (W2.P.sl ln))=nm) (aaf:¬(nm.size:Int)=2) (hl2:ln.size<=2000):X8 b ln nm n:=by
 obtain⟨h1,h2⟩:=Bi hb h10;have hlen:b.size=pre.length+1+tail.length:=by
  have:=congrArg List.length hb;rw[W2.P.bS] at this;simp at this;omega
 refine⟨by rw[h1,hl],by rw[h2,hn],by omega,by omega,hsz,hl2,λw=>?_,?_,aaf⟩
 ·have h3:=Tryz.strings_TrimLeft_one ln 32 (by decide) w;rw[htr] at h3;exact h3
 ·unfold W2.cutV;rw[hnm];exact⟨_,_,rfl⟩
theorem vW(a c:ByteArray):(a ++ c).extract a.size (a ++ c).size=c:=by
 refine ByteArray.ext (Array.toList_inj.1 ?_);rw[ByteArray.data_extract,ByteArray.size_append,ByteArray.data_append,Array.toList_extract,Array.toList_append];have h1:a.size=a.data.toList.length:=rfl;have h2:c.size=c.data.toList.length:=rfl;rw[h1,h2,List.extract_eq_take_drop];simp;exact List.take_of_length_le (Nat.le_of_eq h2.symm)
theorem y_{r row:aT}{w w':World}(hr:r.R w)(m:Made row w w'):ag r (many [r,row]) w w':=(((aJ.start hr).made m).perm (.swap _ _ _)).shut
theorem SY{key:ByteArray}{kc:UInt8}(hkd:key=⟨#[kc]⟩)(hkb:W2.aO key=true)(h10:(10:UInt8)∉[103,101,116,32,kc,13])(hw:(W2.P.words ⟨#[103,101,116,32,kc]⟩).map W2.P.mk= [⟨#[103,101,116]⟩,⟨#[kc]⟩])
 (htr:Lib.trimLeftB [103,101,116,32,kc] 32= [103,101,116,32,kc]) (XO:Lib.trimSuffix [103,101,116,32,kc,13] [13]= [103,101,116,32,kc]) (hup:W2.P.upto 32 [103,101,116,32,kc]= [103,101,116]):Nx key .get:=by
 subst hkd;refine⟨λrest out c w hz ho h=>?_⟩;obtain⟨R,hR⟩:∃R,iD ⟨#[kc]⟩ rest=R:=⟨_,rfl⟩;have hb:iD ⟨#[kc]⟩ (.get :: rest)=⟨#[103,101,116,32,kc,13,10]⟩ ++ R:=by
  show LX ⟨#[kc]⟩ .get ++ iD ⟨#[kc]⟩ rest=_;rw[hR];rfl
 rw[hb] at h hz⊢;rw[hR];obtain⟨b,hbb⟩:∃b,(⟨#[103,101,116,32,kc,13,10]⟩ ++ R:ByteArray)=b:=⟨_,rfl⟩;have hsl:W2.P.sl b= [103,101,116,32,kc,13] ++ 10 :: R.data.toList:=by rw[<-hbb];unfold W2.P.sl;rw[ByteArray.data_append];simp
 have hsz:b.size=7+R.size:=by rw[<-hbb,ByteArray.size_append];rfl
 have hex:b.extract (7+0) b.size=R:=by rw[<-hbb];exact vW _ R
 rw[hbb] at h hz⊢;have hrq:X8 b ⟨#[103,101,116,32,kc]⟩ ⟨#[103,101,116]⟩ 7:=Kw hsl h10 (by rw[XO];rfl) rfl hz htr (by show W2.P.mk (W2.P.upto 32 [103,101,116,32,kc])=_;rw[hup];rfl) (by decide) (by show (5:Nat)<=2000;decide);have hnx:=C9 (used:=0) (row:=λcb cc=>rowAt (.slice (some ⟨cb,0,none⟩) 1 cc) 56 16 1 (lV ⟨#[kc]⟩ .get).vs.toList) h ho hz (by omega) (λW=>uF hrq (λW=>yZ (used:=0) (ws:=[⟨#[kc]⟩]) (name:=⟨#[103,101,116]⟩) hrq.lt hrq.ln' (by decide) (by omega) hz (by show (5:Nat)<=2000;decide) (by decide) hw (Nat.le_refl 1) (λV lb wb cap hl hws=>by
  have h0:=cA hl 0;have h1:=cA hl 1;have h4:=cA hl 4;have hk:=hws 0 _ rfl;refine Kl (wb:=wb) (cap:=cap) hl h0 (λV' hb'=>?_);have hl':=aT.keep _ hl (aP.of_below (λ_=>False) hb') (λ_ _ x=>x);refine(NJ (cA hl' 0) (cA hl' 1) (cA hl' 4) ((hb'.cell (p:=⟨wb,1,none⟩) (aL hk)).trans hk) hkb (by show (1:Nat)<=250;decide)).mono ?_;rintro e w' ⟨cb,cc,rfl,m⟩;exact⟨cb,cc,rfl,y_ hl' m⟩) W) W)
 rw[hex] at hnx;exact hnx
theorem Ky:Nx ⟨#[107]⟩ .get:=SY (kc:=107) rfl (by decide+kernel) (by decide) (by decide+kernel) (by decide+kernel) (by decide+kernel) (by decide+kernel)
theorem S9{key:ByteArray}{kc fc vc:UInt8}{f:Nat}{v:Vl}(hkd:key=⟨#[kc]⟩)(hkb:W2.aO key=true)(htx:LX key (.set f v)=⟨#[115,101,116,32,kc,32,fc,32,48,32,49,13,10,vc,13,10]⟩)(hv:eX v=⟨#[vc]⟩)
 (h10:(10:UInt8)∉[115,101,116,32,kc,32,fc,32,48,32,49,13]) (hw:(W2.P.words ⟨#[115,101,116,32,kc,32,fc,32,48,32,49]⟩).map W2.P.mk= [⟨#[115,101,116]⟩,⟨#[kc]⟩,⟨#[fc]⟩,⟨#[48]⟩,⟨#[49]⟩])
 (htr:Lib.trimLeftB [115,101,116,32,kc,32,fc,32,48,32,49] 32= [115,101,116,32,kc,32,fc,32,48,32,49]) (XO:Lib.trimSuffix [115,101,116,32,kc,32,fc,32,48,32,49,13] [13]= [115,101,116,32,kc,32,fc,32,48,32,49]) (hup:W2.P.upto 32 [115,101,116,32,kc,32,fc,32,48,32,49]= [115,101,116])
 (hn:LnN ⟨#[fc]⟩ ⟨#[48]⟩ ⟨#[49]⟩ f 1 0) (hs1:Lib.hasSuffix [vc,13,10] [13,10]=true) (hs2:Lib.trimSuffix [vc,13,10] [13,10]= [vc]):Nx key (.set f v):=by
 subst hkd;refine⟨λrest out c w hz ho h=>?_⟩;obtain⟨R,hR⟩:∃R,iD ⟨#[kc]⟩ rest=R:=⟨_,rfl⟩;have hb:iD ⟨#[kc]⟩ (.set f v :: rest)=⟨#[115,101,116,32,kc,32,fc,32,48,32,49,13,10,vc,13,10]⟩ ++ R:=by
  show LX ⟨#[kc]⟩ (.set f v) ++ iD ⟨#[kc]⟩ rest=_;rw[hR,htx]
 rw[hb] at h hz⊢;rw[hR];obtain⟨b,hbb⟩:∃b,(⟨#[115,101,116,32,kc,32,fc,32,48,32,49,13,10,vc,13,10]⟩ ++ R:ByteArray)=b:=⟨_,rfl⟩;have hsl:W2.P.sl b= [115,101,116,32,kc,32,fc,32,48,32,49,13] ++ 10 :: ([vc,13,10] ++ R.data.toList):=by rw[<-hbb];unfold W2.P.sl;rw[ByteArray.data_append];simp
 have hsz:b.size=16+R.size:=by rw[<-hbb,ByteArray.size_append];rfl
 have hex:b.extract (13+3) b.size=R:=by rw[<-hbb];exact vW _ R
 have hbe:b.extract 13 b.size=⟨#[vc,13,10]⟩ ++ R:=by
  rw[<-hbb,show (⟨#[115,101,116,32,kc,32,fc,32,48,32,49,13,10,vc,13,10]⟩ ++ R:ByteArray)=⟨#[115,101,116,32,kc,32,fc,32,48,32,49,13,10]⟩ ++ (⟨#[vc,13,10]⟩ ++ R) from ByteArray.ext (by rw[ByteArray.data_append,ByteArray.data_append,ByteArray.data_append,<-Array.append_assoc];rfl)];exact vW _ _
 have hb3:((⟨#[vc,13,10]⟩ ++ R:ByteArray).extract 0 (1+2)).data.toList= [vc,13,10]:=by
  rw[ByteArray.data_extract,ByteArray.data_append,Array.toList_extract,Array.toList_append,List.extract_eq_take_drop];simp
 rw[hbb] at h hz⊢;have hrq:X8 b ⟨#[115,101,116,32,kc,32,fc,32,48,32,49]⟩ ⟨#[115,101,116]⟩ 13:=Kw hsl h10 (by rw[XO];rfl) rfl hz htr (by show W2.P.mk (W2.P.upto 32 [115,101,116,32,kc,32,fc,32,48,32,49])=_;rw[hup];rfl) (by decide) (by show (11:Nat)<=2000;decide);have hnx:=C9 (used:=3) (row:=λcb cc=>rowAt (.slice (some ⟨cb,0,none⟩) 1 cc) 56 16 1 (lV ⟨#[kc]⟩ (.set f v)).vs.toList) h ho hz (by omega) (λW=>uF hrq (λW=>yZ (used:=3) (ws:=[⟨#[kc]⟩,⟨#[fc]⟩,⟨#[48]⟩,⟨#[49]⟩]) (name:=⟨#[115,101,116]⟩) hrq.lt hrq.ln' (by decide) (by omega) hz (by show (11:Nat)<=2000;decide) (by decide) hw (by show 1<=4;decide) (λV lb wb cap hl hws=>by
  have h0:=cA hl 0;refine Km (wb:=wb) (cap:=cap) hl h0 (λV' hb'=>?_);have hl':=aT.keep _ hl (aP.of_below (λ_=>False) hb') (λ_ _ x=>x);rw[hbe] at hl'⊢;refine(EW (lb:=lb) (wb:=wb) (cap:=cap) hl' (λi y hy=>(hb'.cell (p:=⟨wb,1+i,none⟩) (aL (hws i y hy))).trans (hws i y hy)) hn hkb (by show (1:Nat)<=250;decide) (by decide+kernel) (by rw[ByteArray.size_append];show 3<=3+R.size;omega) (by rw[ByteArray.size_append];show 3+R.size<=100000;omega) (by rw[hb3];exact hs1)).mono ?_;rintro e w' ⟨g,rfl,t⟩;rw[hb3,hs2] at t;refine⟨g,1,rfl,?_⟩;have e1:(lV ⟨#[kc]⟩ (.set f v)).vs=({D_ with op:=2,key:=⟨#[kc]⟩,flags:=f,exp:=0,value:=⟨[vc].toArray⟩,aj:=-1}:Cm).vs:=by
   unfold lV;dsimp only;rw[hv];rfl
  rw[e1];exact t) W) W)
 rw[hex] at hnx;exact hnx
theorem ln3:LnN ⟨#[51]⟩ ⟨#[48]⟩ ⟨#[49]⟩ 3 1 0:=⟨⟨by decide+kernel,by decide,by decide⟩,by kernel_rfl,⟨by decide+kernel,by decide,by decide⟩,by kernel_rfl,⟨by decide+kernel,by decide,by decide⟩,by decide+kernel,by kernel_rfl,by decide,by decide,by decide,by decide⟩
theorem Kz:Nx ⟨#[107]⟩ (.set 3 PM.vV):=S9 (kc:=107) (fc:=51) (vc:=118) rfl (by decide+kernel) (by decide+kernel) rfl (by decide) (by decide+kernel) (by decide+kernel) (by decide+kernel) (by decide+kernel) ln3 (by decide+kernel) (by decide+kernel)
def FV:ByteArray:=⟨#[86,65,76,85,69]⟩
def jJ(key v:ByteArray)(fl:Nat):ByteArray:=W2.eT [FV,key,dec fl,dec v.size] ++ ⟨#[13,10]⟩ ++ v ++ ⟨#[13,10]⟩
theorem IsB.below{T E:TypeId}{B b:Nat}{bs:List Value}{w w':World}(h:Lib.IsBuilder T E B b bs w)(hb:Below w.heap.size w w'):Lib.IsBuilder T E B b bs w':=by
 rcases h with ⟨h1,v,h2,h3,h4⟩|⟨h1,v,h2,h3,h4⟩
 ·exact .inl ⟨h1,v,(hb.5 b (Array.getElem?_eq_some_iff.1 h2).1).trans h2,W2.own_below h3 hb,h4⟩
 ·exact .inr ⟨h1,v,(hb.5 b (Array.getElem?_eq_some_iff.1 h2).1).trans h2,W2.own_below h3 hb,h4⟩
theorem vX:∀n,n<100->(dec n).size<=2:=by decide+kernel
theorem uG{key v:ByteArray}{fl:Nat}(hfl:fl<100)(hv:v.size<=20)(hk:key.size=1):(jJ key v fl).size<=200:=by
 have h1:=vX fl hfl;have h2:=vX v.size (by omega);have h3:FV.size=5:=rfl;have h4:=W2.rC [FV,key,dec fl,dec v.size];simp only[W2.mr] at h4;unfold jJ;simp only[ByteArray.size_append];show (W2.eT _).size+2+v.size+2<=200;omega
theorem uH{ab ac fl:Nat}{key v:ByteArray}{aU aV num:Int}{w:World}(hfl:fl<100)(hv:v.size<=20)(hk:key.size=1)
 (ha:(rowAt (.slice (some ⟨ab,0,none⟩) 1 ac) 52 13 1 (iK 1 key fl v aU aV num).toList).R w):
 Calls prog 259 #[.slice (some ⟨ab,0,none⟩) 1 ac,.bool false] w λe w'=>e=.returned (.string (jJ key v fl ++ ⟨#[69,78,68,13,10]⟩))/\Below w.heap.size w w':=by
 have J:=(aJ.start ha).cells #[.pointer none,.slice none 0 0] 366;have hB:=Lib.fresh_isBuilder 366 5 w;have hbW:=bA w (.cells #[.pointer none,.slice none 0 0] 366);obtain⟨b,hb⟩:∃b,w.heap.size=b:=⟨_,rfl⟩;obtain⟨W,hW⟩:∃W,w.alloc (.cells #[.pointer none,.slice none 0 0] 366)=W:=⟨_,rfl⟩;have hsz:W.heap.size=b+1:=by rw[<-hW];simp[hb]
 rw[hb,hW] at J hB hbW;obtain⟨a0,a1,a2,a3,a4,a5,a6,a7,a8,a9,EH,Ju,a12⟩:RF W ab (.int .i64 1) (.string key) (.int .u32 fl) (.string v) (.int .i64 0) (.int .u64 aU) (.int .i64 aV) (.bool false) (.bool false) (.int .u64 num) (.bool false) (.bool false) (.bool false):=Qe (J.get 1 rfl);have HB:=hid hB;have OX:=hid hbW;have Wm:=hid hsz;have HT1:=hid (λw'=>rJ hfl w');have HT2:=hid (λw'=>rJ (n:=v.size) (by omega) w');have e1:IntKind.u64.wrap (fl:Int)=fl:=by rw[IntKind.wrap_u64];omega
 have e2:IntKind.u64.wrap (v.size:Int)=v.size:=by rw[IntKind.wrap_u64];omega
 have HV:=hid (And.intro hfl (And.intro hv hk));have X9:=hid hb;clear J hB hbW ha hfl hv hk hsz;rw[hb];go_enter func259,ntmps259;go_wp2_with (fail)
 try rw[hb]
 try rw[hW]
 clear hW hb;go_loopw [12] (λi wr=>(i=.int .i64 0/\wr=W)\/(i=.int .i64 1/\Hid (Lib.IsBuilder 366 5 b b (Lib.strCells (jJ key v fl)) wr)/\Hid (Below b w wr))) (λi _=>1-(intOf i).toNat)
 case atStart=>exact .inl ⟨rfl,rfl⟩
 case round=>
  rcases hrel with ⟨rfl,hr⟩|⟨rfl,hB2,hb2⟩
  ·subst hr;go_upto_region 7 with fail
   obtain⟨W1,hW1⟩:∃W1,wr.alloc (.cells #[.int .i64 1,.string key,.int .u32 fl,.string v,.int .i64 0,.int .u64 aU,.int .i64 aV,.bool false,.bool false,.int .u64 num,.bool false,.bool false,.bool false] 52)=W1:=⟨_,rfl⟩;have hs1:W1.heap.size=wr.heap.size+1:=by rw[<-hW1];simp
   have hb1:Below wr.heap.size wr W1:=by rw[<-hW1];exact bA _ _
   have c1:=aA W1 #[.string key,.int .u32 fl,.string v,.int .i64 0,.int .u64 aU,.int .i64 aV,.bool false,.bool false] 50;have hb2:=bA W1 (.cells #[.string key,.int .u32 fl,.string v,.int .i64 0,.int .u64 aU,.int .i64 aV,.bool false,.bool false] 50);obtain⟨X,hX⟩:∃X,W1.alloc (.cells #[.string key,.int .u32 fl,.string v,.int .i64 0,.int .u64 aU,.int .i64 aV,.bool false,.bool false] 50)=X:=⟨_,rfl⟩;obtain⟨xb,hxb⟩:∃xb,wr.heap.size+1=xb:=⟨_,rfl⟩;rw[hW1,hX,hxb];rw[hX,hs1,hxb] at c1;rw[hX] at hb2;have hbX:Below wr.heap.size wr X:=hb1.trans (hb2.mono hb1.size);have X_:Hid (Lib.IsBuilder 366 5 b b [] X/\Below b w X):=hid ⟨IsB.below HB.out hbX,OX.out.trans (hbX.mono (by have:=Wm.out;omega))⟩;have x0:X.cell? ⟨xb,0,none⟩=some (.string key):=cA c1 0;have x1:X.cell? ⟨xb,1,none⟩=some (.int .u32 fl):=cA c1 1;have x2:X.cell? ⟨xb,2,none⟩=some (.string v):=cA c1 2;have HX:Hid (∀w',Below X.heap.size X w'->w'.cell? ⟨xb,0,none⟩=some (.string key)/\w'.cell? ⟨xb,1,none⟩=some (.int .u32 fl)/\w'.cell? ⟨xb,2,none⟩=some (.string v)):=hid (λw' hb=>by
    have h:=(aG xb #[.string key,.int .u32 fl,.string v,.int .i64 0,.int .u64 aU,.int .i64 aV,.bool false,.bool false] 50).keep c1 (aP.of_below (λ_=>False) hb) (λ_ _ x=>x);exact⟨cA h 0,cA h 1,cA h 2⟩)
   have MR:=hid (mK X #[.string FV,.string key,.string (dec fl),.string (dec v.size)] 9 4 rfl (by decide));clear hW1 hX hs1 hb1 hb2 c1 hbX hxb a0 a1 a2 a3 a4 a5 a6 a7 a8 a9 EH Ju a12 HB OX
   go_region_held3 (λw'=>w'.cell? ⟨xb,0,none⟩=some (.string key)/\w'.cell? ⟨xb,1,none⟩=some (.int .u32 fl)/\w'.cell? ⟨xb,2,none⟩=some (.string v)) (first|exact⟨x0,x1,x2⟩|exact HX.out _ (by go_grown)|fail) (first
    |(go_at_call 27;(first|(with_reducible refine(HT1.out _).mono ?_)|(with_reducible refine(HT2.out _).mono ?_));rintro e w1 ⟨rfl,rfl⟩))
   rename_i hHeld;have MY:=MR.out.drew;obtain⟨R,hR⟩:∃R,X.heap.size=R:=⟨_,rfl⟩;obtain⟨Y,hY⟩:∃Y,(X.alloc (.cells #[.string FV,.string key,.string (dec fl),.string (dec v.size)] 9)).drew=Y:=⟨_,rfl⟩;rw[hY,hR] at MY;rw[show (X.alloc (.cells #[.string ⟨#[86,65,76,85,69]⟩,.string key,.string (dec fl),.string (dec v.size)] 9)).drew=Y from hY,hR];have hzs:W2.mr [FV,key,dec fl,dec v.size]<=100:=by
    obtain⟨h1,h2,h3⟩:=HV.out;have:=vX fl h1;have:=vX v.size (by omega);have:FV.size=5:=rfl;simp only[W2.mr];omega
   have hjz:=W2.rC [FV,key,dec fl,dec v.size];have hrs:W2.RS Y (.slice (some ⟨R,0,none⟩) 4 4) [FV,key,dec fl,dec v.size]:=W2.G7 (base:=0) MY.here
   have HJo:Hid (∀W',Below Y.heap.size Y W'->Calls prog 293 #[.slice (some ⟨R,0,none⟩) 4 4] W' λe w'=>e=.returned (.string (W2.eT [FV,key,dec fl,dec v.size]))/\Below W'.heap.size W' w'):=
    hid (λW' hb=>W2.yo (W2.RS.below hrs hb) (by decide) (by omega))
   obtain⟨j,hj⟩:∃j,W2.eT [FV,key,dec fl,dec v.size]=j:=⟨_,rfl⟩;rw[hj] at HJo hjz;have Ai:=HV.out.2.1;have z1:j.size+(⟨#[13,10]⟩:ByteArray).size<=300:=by show j.size+2<=300;omega
   have z2:(j ++ ⟨#[13,10]⟩).size+v.size<=300:=by rw[ByteArray.size_append];show j.size+2+v.size<=300;omega
   have z3:(j ++ ⟨#[13,10]⟩ ++ v).size+(⟨#[13,10]⟩:ByteArray).size<=300:=by rw[ByteArray.size_append,ByteArray.size_append];show j.size+2+v.size+2<=300;omega
   have hl:j ++ ⟨#[13,10]⟩ ++ v ++ ⟨#[13,10]⟩=jJ key v fl:=by unfold jJ;rw[hj]
   have HL:=hid hl;have z4:(jJ key v fl).size<=400/\0<(jJ key v fl).size:=by
    rw[<-hl];simp only[ByteArray.size_append];show j.size+2+v.size+2<=400/\0<j.size+2+v.size+2;omega
   have HYB:Hid (∀W',Below Y.heap.size Y W'->Lib.IsBuilder 366 5 b b [] W'/\Below b w W'):=hid (λW' hb=>by
    have hsz:=X_.out.2.size;have hwb:=X9.out;have h1:=MY.bel.trans (hb.mono MY.bel.size);exact⟨IsB.below X_.out.1 h1,X_.out.2.trans (h1.mono (by omega))⟩)
   have Gt:Hid (∀W',Below Y.heap.size Y W'->Calls prog 261 #[.pointer (some ⟨b,0,none⟩),.string (jJ key v fl)] W' λe w'=>e=.returned (.tuple #[.int .i64 (jJ key v fl).size,.nilIface])/\(Lib.IsBuilder 366 5 b b (Lib.strCells (jJ key v fl)) w'/\Below b w w')):=hid (λW' hb=>by
    obtain⟨h1,h2⟩:=HYB.out W' hb;have h3:=h2.size;have hwb:=X9.out;refine(jB b b [] (jJ key v fl) W' h1 (by simp;omega) z4.2 (by omega)).mono ?_;rintro e w' ⟨rfl,h4,h5⟩;exact⟨rfl,by simpa using h4,h2.trans h5⟩)
   have HX2:Hid (∀w',Below Y.heap.size Y w'->w'.cell? ⟨xb,2,none⟩=some (.string v)):=hid (λw' hb=>(HX.out w' (MY.bel.trans (hb.mono MY.bel.size))).2.2);have y2:Y.cell? ⟨xb,2,none⟩=some (.string v):=HX2.out Y (Below.refl _ _);clear hHeld MR HX X_ x0 x1 x2 MY hrs hY hR hzs hjz hj Ai hl z4;go_wp2_with (fail)
   go_region_with (first
    |(go_at_call 293;refine(HJo.out _ (by go_grown)).mono ?_;rintro e w4 ⟨rfl,hb4⟩;have hbb:Below Y.heap.size Y w4:=Below.trans (by go_grown) (hb4.mono (by simp));have gF:=hid hbb;have y4:=HX2.out w4 hbb;clear hb4 hbb)
    |(rw[HL.out];go_at_call 261;refine(Gt.out _ (by exact gF.out)).mono ?_;rintro e w5 ⟨rfl,h5,hb5⟩;have H5:=hid h5;have Ya:=hid hb5;clear h5 hb5))
   all_goals (go_wp2_with fail)
   all_goals go_roundw
   all_goals first
    |exact .inr ⟨by first|rfl|trivial|simp,H5,Ya⟩
    |simp[intOf]
  ·have c0:=hb2;have Gt:Hid (Calls prog 261 #[.pointer (some ⟨b,0,none⟩),.string ⟨#[69,78,68,13,10]⟩] wr λe w'=>e=.returned (.tuple #[.int .i64 (5:Nat),.nilIface])/\(Lib.IsBuilder 366 5 b b (Lib.byteCells (jJ key v fl ++ ⟨#[69,78,68,13,10]⟩).data.toList) w'/\Below b w w')):=hid (by
    have h3:=hb2.out.size;have hwb:=X9.out;refine(jB b b _ ⟨#[69,78,68,13,10]⟩ wr hB2.out ?_ (by decide) (by omega)).mono ?_
    ·rw[Lib.strCells_length];have:=uG HV.out.1 HV.out.2.1 HV.out.2.2;show _+5<=_;omega
    ·rintro e w' ⟨rfl,h4,h5⟩;refine⟨rfl,?_,hb2.out.trans h5⟩;simpa[Lib.strCells,Lib.byteCells,ByteArray.data_append] using h4)
   have aag:Hid (∀W',Lib.IsBuilder 366 5 b b (Lib.byteCells (jJ key v fl ++ ⟨#[69,78,68,13,10]⟩).data.toList) W'/\Below b w W'->Calls prog 262 #[.pointer (some ⟨b,0,none⟩)] W' λe w'=>e=.returned (.string (jJ key v fl ++ ⟨#[69,78,68,13,10]⟩))/\Below b w w'):=hid (λW' h=>by
    have h3:=h.2.size;have hwb:=X9.out;refine(Tryz.Builder_String_any b b _ W' h.1 (by omega)).mono ?_;rintro e w' ⟨rfl,h4⟩;exact⟨rfl,h.2.trans h4⟩)
   clear hb2 hB2 c0
   go_wp2_with (first
    |(go_at_call 261;refine Gt.out.mono ?_;rintro e w5 ⟨rfl,h5⟩;have H5:=hid h5;clear h5)
    |(go_at_call 262;refine(aag.out _ H5.out).mono ?_;rintro e w6 ⟨rfl,h6⟩))
   go_ret;exact⟨rfl,h6⟩
theorem Fb{fl:Nat}{key v:ByteArray}{aU aV num:Int}{cb cc ab ac:Nat}{w:World}(hfl:fl<100)(hv:v.size<=20)(hk:key.size=1)(hc:w.cell? ⟨cb,0,none⟩=some (.int .i64 1))
 (ha:(rowAt (.slice (some ⟨ab,0,none⟩) 1 ac) 52 13 1 (iK 1 key fl v aU aV num).toList).R w):
 Calls prog 205 #[dR 1 (.slice (some ⟨cb,0,none⟩) 1 cc) false false,.slice (some ⟨ab,0,none⟩) 1 ac] w λe w'=>e=.returned (.string (jJ key v fl ++ ⟨#[69,78,68,13,10]⟩))/\Below w.heap.size w w':=by
 have hcl:=aL hc;have J:=(aJ.start ha).cells #[.int .i64 1,.slice (some ⟨cb,0,none⟩) 1 cc,.bool false,.bool false,.string ⟨#[]⟩,.string ⟨#[]⟩,.int .i64 0,.bool false,.string ⟨#[]⟩,.slice none 0 0,.string ⟨#[]⟩] 33;have hb:=bA w (.cells #[.int .i64 1,.slice (some ⟨cb,0,none⟩) 1 cc,.bool false,.bool false,.string ⟨#[]⟩,.string ⟨#[]⟩,.int .i64 0,.bool false,.string ⟨#[]⟩,.slice none 0 0,.string ⟨#[]⟩] 33);have c0:=(hb.cell (p:=⟨cb,0,none⟩) hcl).trans hc;obtain⟨N,hN⟩:∃N,w.heap.size=N:=⟨_,rfl⟩;obtain⟨W,hW⟩:∃W,w.alloc (.cells #[.int .i64 1,.slice (some ⟨cb,0,none⟩) 1 cc,.bool false,.bool false,.string ⟨#[]⟩,.string ⟨#[]⟩,.int .i64 0,.bool false,.string ⟨#[]⟩,.slice none 0 0,.string ⟨#[]⟩] 33)=W:=⟨_,rfl⟩;rw[hN,hW] at J;rw[hW] at c0 hb;have HV:=hid (λm=>uH (w:=W.drewN m) hfl hv hk ((J.drewN m).get 1 rfl));have HV0:=hid (uH (w:=W) hfl hv hk (J.get 1 rfl));have HW:=hid hW;have HB:=hid hb;obtain⟨r0,r1,r2,r3,r4,r5,r6,r7,r8,r9,nY⟩:nP W N (.int .i64 1) (.slice (some ⟨cb,0,none⟩) 1 cc) (.bool false) (.bool false) (.string ⟨#[]⟩) (.string ⟨#[]⟩) (.int .i64 0) (.bool false) (.string ⟨#[]⟩) (.slice none 0 0) (.string ⟨#[]⟩):=jC (J.get 0 rfl);clear J hc ha hcl hW hb;unfold dR;go_enter func205,ntmps205;go_upto_region 1 with fail
 rw[HW.out];clear HW hN;go_wp2_with (go_at_call 259;refine HV0.out.mono ?_;rintro e w1 ⟨rfl,hb1⟩)
 go_ret;exact⟨rfl,HB.out.trans (hb1.mono HB.out.size)⟩
theorem row_one{av:Value}{E sz:Nat}{xs:List Value}{w:World}(h:(rowAt av E sz 1 xs).R w):∃ab ac,av=.slice (some ⟨ab,0,none⟩) 1 ac:=by
 rcases h.2 with ⟨_,h0⟩|⟨g,cap,cur,rfl,_⟩
 ·omega
 ·exact⟨g,cap,rfl⟩
theorem S_(a b c d:ByteArray):W2.eT [a,b,c,d]=a ++ ⟨#[32]⟩ ++ b ++ ⟨#[32]⟩ ++ c ++ ⟨#[32]⟩ ++ d:=by
 have h1:W2.eT [a,b,c,d]=W2.eT [a,b,c] ++ ⟨#[32]⟩ ++ d:=by rw[show [a,b,c,d]= [a,b,c] ++ [d] from rfl,W2.iV,if_neg (by simp)]
 have h2:W2.eT [a,b,c]=W2.eT [a,b] ++ ⟨#[32]⟩ ++ c:=by rw[show [a,b,c]= [a,b] ++ [c] from rfl,W2.iV,if_neg (by simp)]
 have h3:W2.eT [a,b]=W2.eT [a] ++ ⟨#[32]⟩ ++ b:=by rw[show [a,b]= [a] ++ [b] from rfl,W2.iV,if_neg (by simp)]
 have h4:W2.eT [a]=a:=by rw[show [a]= [] ++ [a] from rfl,W2.iV,if_pos rfl]
 rw[h1,h2,h3,h4]
theorem KA(key:ByteArray)(x:PM.It)(st num:Nat):jJ key (eX x.v) x.fl ++ ⟨#[69,78,68,13,10]⟩=LY key (.get,⟨st,some x,num⟩):=by
 unfold jJ LY;dsimp only;rw[S_];refine ByteArray.ext ?_;simp only[ByteArray.data_append,FV,crlf];simp[Array.append_assoc]
theorem KC{key:ByteArray}{x:Cd}{a:An}(hk:key.size=1)(ha:PM.UW x a):(LY key (x,a)).size<=300:=by
 obtain⟨st,it,num⟩:=a;obtain⟨h1,h3⟩:=ha;cases x with
 |get=>
  cases it with
  |none=>cases h1.2
  |some y=>
   obtain⟨h4,h5⟩:=h3 y rfl;rw[<-KA key y st num,ByteArray.size_append];have:=uG (key:=key) h5 (mZ h4) hk;show _+5<=300;omega
 |set fl v=>show (8:Nat)<=300;decide
section
variable{key:ByteArray}{w:World}
theorem OY{x:Cd}{a:An}{cb cc ab ac:Nat}(hks:key.size=1)(ha:PM.UW x a)(hc:w.cell? ⟨cb,0,none⟩=some (.int .i64 (lV key x).op))
 (hr:(rowAt (.slice (some ⟨ab,0,none⟩) 1 ac) 52 13 1 (Ov key a)).R w):
 Calls prog 205 #[dR 1 (.slice (some ⟨cb,0,none⟩) 1 cc) false false,.slice (some ⟨ab,0,none⟩) 1 ac] w λe w'=>e=.returned (.string (LY key (x,a)))/\Below w.heap.size w w':=by
 obtain⟨st,it,num⟩:=a;obtain⟨h1,h3⟩:=ha;cases x with
 |get=>
  obtain⟨e1,e2⟩:=h1;dsimp only at e1 e2;subst e1;cases it with
  |none=>cases e2
  |some y=>
   obtain⟨h4,h5⟩:=h3 y rfl;have hrep:=Fb (key:=key) (v:=eX y.v) (fl:=y.fl) (aU:=y.aF) (aV:=y.last) (num:=num) (cc:=cc) h5 (mZ h4) hks hc hr;rw[KA key y 1 num] at hrep;exact hrep
 |set fl v=>
  have e1:st=2:=h1;subst e1;cases it with
  |none=>exact pz (st:=((2:Nat):Int)) (cc:=cc) (.inl rfl) (ak:=⟨#[]⟩) (av:=⟨#[]⟩) (aZ:=0) (aU:=0) (aV:=0) (num:=num) hc hr
  |some y=>exact pz (st:=((2:Nat):Int)) (cc:=cc) (.inl rfl) (ak:=key) (av:=eX y.v) (aZ:=y.fl) (aU:=y.aF) (aV:=y.last) (num:=num) hc hr
end
section
variable{key:ByteArray}{w:World}
theorem Fe{l:Wl}{k:PM.Wk Cd An}{sb:Nat}{vs:Array Value}(hks:key.size=1)(ha:PM.UW k.cmd k.ans)(hc:(aG l.b vs 143).R w)(hvs:∀j,j<=10\/j=14->vs[j]?=(vL l k)[j]?)
 (hcm:(rowAt (.slice (some ⟨l.cb,0,none⟩) 1 l.cc) 56 16 1 (lV key k.cmd).vs.toList).R w) (h2:(rowAt l.av 52 13 1 (Ov key k.ans)).R w):
 Calls prog 144 #[.pointer (some ⟨sb,0,none⟩),.pointer (some ⟨l.b,0,none⟩)] w λe w'=>e=.returned (.string (LY key (k.cmd,k.ans)))/\Below w.heap.size w w':=by
 obtain⟨ab,ac,Uk⟩:=row_one h2;have HR:Hid (∀w',Below w.heap.size w w'->Calls prog 205 #[dR 1 (.slice (some ⟨l.cb,0,none⟩) 1 l.cc) false false,.slice (some ⟨ab,0,none⟩) 1 ac] w' λe w''=>e=.returned (.string (LY key (k.cmd,k.ans)))/\Below w'.heap.size w' w''):=hid (λw' hb=>by
  have h1:=aT.keep _ hcm (aP.of_below (λ_=>False) hb) (λ_ _ x=>x);have h3:=aT.keep _ h2 (aP.of_below (λ_=>False) hb) (λ_ _ x=>x);rw[Uk] at h3;refine OY hks ha ?_ h3;rw[aB h1 0 (by show 0<16;decide)];rfl)
 have HF:Hid (∀w',Below w.heap.size w w'->w'.cell? ⟨l.b,0,none⟩=some (.int .i64 1)/\w'.cell? ⟨l.b,1,none⟩=some (.slice (some ⟨l.cb,0,none⟩) 1 l.cc)/\w'.cell? ⟨l.b,2,none⟩=some (.bool false)/\w'.cell? ⟨l.b,3,none⟩=some (.bool false)/\w'.cell? ⟨l.b,4,none⟩=some (.string ⟨#[]⟩)/\w'.cell? ⟨l.b,5,none⟩=some (.string ⟨#[]⟩)/\w'.cell? ⟨l.b,6,none⟩=some (.int .i64 0)/\w'.cell? ⟨l.b,7,none⟩=some (.bool false)/\w'.cell? ⟨l.b,8,none⟩=some (.string ⟨#[]⟩)/\w'.cell? ⟨l.b,9,none⟩=some (.slice none 0 0)/\w'.cell? ⟨l.b,10,none⟩=some (.string ⟨#[]⟩)/\w'.cell? ⟨l.b,14,none⟩=some (.slice (some ⟨ab,0,none⟩) 1 ac)):=hid (λw' hb=>by
  have h0:=aT.keep _ hc (aP.of_below (λ_=>False) hb) (λ_ _ x=>x);have hq:∀j,j<=10\/j=14->w'.cell? ⟨l.b,j,none⟩=(vL l k)[j]?:=λj hj=>(cA h0 j).trans (hvs j hj)
  exact⟨hq 0 (by omega),hq 1 (by omega),hq 2 (by omega),hq 3 (by omega),hq 4 (by omega),hq 5 (by omega),hq 6 (by omega),hq 7 (by omega),hq 8 (by omega),hq 9 (by omega),hq 10 (by omega),by rw[<-Uk];exact hq 14 (by omega)⟩)
 have S0:=HF.out w (Below.refl _ _);obtain⟨f0,f1,f2,f3,f4,f5,f6,f7,f8,f9,f10,f14⟩:=S0;have S0:=HF.out w (Below.refl _ _);unfold dR at HR;clear h2 Uk hc hvs hcm ha;go_enter func144,ntmps144;go_wp2_with (fail)
 go_region_held3 (λw'=>w'.cell? ⟨l.b,0,none⟩=some (.int .i64 1)/\w'.cell? ⟨l.b,1,none⟩=some (.slice (some ⟨l.cb,0,none⟩) 1 l.cc)/\w'.cell? ⟨l.b,2,none⟩=some (.bool false)/\w'.cell? ⟨l.b,3,none⟩=some (.bool false)/\w'.cell? ⟨l.b,4,none⟩=some (.string ⟨#[]⟩)/\w'.cell? ⟨l.b,5,none⟩=some (.string ⟨#[]⟩)/\w'.cell? ⟨l.b,6,none⟩=some (.int .i64 0)/\w'.cell? ⟨l.b,7,none⟩=some (.bool false)/\w'.cell? ⟨l.b,8,none⟩=some (.string ⟨#[]⟩)/\w'.cell? ⟨l.b,9,none⟩=some (.slice none 0 0)/\w'.cell? ⟨l.b,10,none⟩=some (.string ⟨#[]⟩)/\w'.cell? ⟨l.b,14,none⟩=some (.slice (some ⟨ab,0,none⟩) 1 ac)) (first|exact S0|exact HF.out _ iF.out|exact HF.out _ (Below.refl _ _).drew) (first
  |(go_at_call 205;refine(HR.out _ (by first|exact(Below.refl _ _).drew|exact Below.refl _ _)).mono ?_;rintro e w6 ⟨rfl,hb6⟩;have hbb:Below w.heap.size w w6:=Below.trans (by first|exact(Below.refl _ _).drew|exact Below.refl _ _) (hb6.mono (Nat.le_refl _));have iF:=hid hbb;clear hb6 hbb))
 all_goals (go_wp2_with fail)
 all_goals go_ret
 all_goals exact⟨rfl,iF.out⟩
end
section
variable{key:ByteArray}{h:Int}{bk nw ns nc:Nat}{p:Pl}{s s':uC}{w w':World}{c:Nat}
theorem KD{wi:Nat}:(fD nw (tH p s)).set wi (.pointer none)=fD nw (tH p {s with wk:=upd s.wk wi none}):=by
 rw[gz];refine gV (λj _=>?_);unfold tH;dsimp only;by_cases e:j=wi
 ·subst e;rw[upd_same,upd_same]
 ·rw[upd_ne _ _ e,upd_ne _ _ e]
theorem KE(hk:gu key h bk)(hns:1<=ns)(hR:(dZ key h bk nw ns nc p s).R w){wi:Nat}(hw:wi<nw){k:PM.Wk Cd An}(hkk:s.wk wi=some k)(hp:k.ph=2)(hof:k.of<nc)(ha:PM.UW k.cmd k.ans)(hout:(jK key (s.out k.of)).size<=60000):
 Calls prog 82 #[.pointer (some ⟨p.b,0,none⟩),.int .i64 wi,.pointer (some ⟨(p.wp wi).b,0,none⟩)] w λe w'=>
  e=.returned (.tuple #[])/\ag (dZ key h bk nw ns nc p s) (dZ key h bk nw ns nc p (PM.leave s wi k)) w w':=by
 obtain⟨l,hl⟩:∃l,p.wp wi=l:=⟨_,rfl⟩;have HW0:=C_ hR hw hkk;rw[hl] at HW0;have Wn:=HW0.get 3 rfl;rw[if_neg (by omega),if_neg (by omega)] at Wn;obtain⟨g,gc,hg⟩:=row_one Wn;rw[hg] at Wn;have g0:w.cell? ⟨g,0,none⟩=some (.int .i64 0):=aB Wn 0 (by decide);have c16:w.cell? ⟨l.b,16,none⟩=some (.slice (some ⟨g,0,none⟩) 1 gc):=by rw[<-hg];exact cA (HW0.get 0 rfl) 16
 have H:=aJ.open hR;have b6:w.cell? ⟨p.b,6,none⟩=some (.slice (some ⟨p.pq,0,none⟩) ns p.FT):=cA (H.get 0 rfl) 6;have t0:w.cell? ⟨p.pq,0,none⟩=some (.int .i64 (hold s.holder)):=by rw[aB (H.get 3 rfl) 0 (by rw[eB];omega),bP (by omega)];rfl
 have tf:=bn (H.get 3 rfl) 0;have hn0:(0:Int)<ns:=by omega
 -- the stripe let go
 have J1:=H.turn 3 rfl (Kr (s':=PM.leave s wi k) (x:=-1) (H.get 3 rfl) (.inl ⟨rfl,rfl⟩));obtain⟨w1,hw1⟩:∃w1,w.setCell ⟨p.pq,0,none⟩ (.int .i64 (-1))=w1:=⟨_,rfl⟩;rw[hw1] at J1;have kM:=hid J1;have HW1:=hid hw1;have SX:=hid (And.intro hw (And.intro hkk (And.intro hp (And.intro hl (And.intro hof (And.intro ha (And.intro hout hk)))))));rw[hl];clear hR hw hkk hp hl hof ha hout hk H J1 hw1 HW0 Wn;go_enter func82,ntmps82;go_wp2_with (fail)
 go_loopw [14] (λi wr=>(i=.int .i64 0/\wr=w)\/(i=.int .i64 1/\wr=w1)) (λi _=>1-(intOf i).toNat)
 case atStart=>exact .inl ⟨rfl,rfl⟩
 case round=>
  rcases hrel with ⟨rfl,hr⟩|⟨rfl,hr⟩
  ·subst hr;go_wp2_with (fail)
   go_roundw;case rel=>exact .inr ⟨by first|rfl|trivial|simp,HW1.out⟩
   case measure=>simp[intOf]
  ·subst hr;clear g0 c16 b6 t0 tf HW1;obtain⟨hw,hkk,hp,hl,hof,ha,hout,hk⟩:=SX.out;have g8:(gp nw (λw=>o_ key (p.wp w) (s.wk w))).R wr:=kM.out.get 8 rfl;have hwk:(o_ key (p.wp wi) (s.wk wi)).R wr:=bz g8 hw;rw[hkk,hl] at hwk;have HK:aJ (many (vT key l k)).B wr (vT key l k) wr:=aJ.open hwk;have c15:wr.cell? ⟨l.b,15,none⟩=some (.int .i64 k.ph):=cA (HK.get 0 rfl) 15;have f15:=cZ (HK.get 0 rfl) 15;have c13:wr.cell? ⟨l.b,13,none⟩=some (.int .i64 0):=cA (HK.get 0 rfl) 13;have f13:=cZ (HK.get 0 rfl) 13;have t1:=ai (HK.get 0 rfl) 15 (.int .i64 0);have t2:=t1.trans (ai t1.here 13 (.int .i64 1));have K2:=HK.turn 0 rfl t2;have t4:ag (o_ key (p.wp wi) (s.wk wi)) (many ((vT key l k).set 0 (aG l.b (((vL l k).setIfInBounds 15 (.int .i64 0)).setIfInBounds 13 (.int .i64 1)) 143))) wr ((wr.setCell ⟨l.b,15,none⟩ (.int .i64 0)).setCell ⟨l.b,13,none⟩ (.int .i64 1)):=by rw[hkk,hl];exact K2.shut
   have J3:=kM.out.turn 8 rfl (fo g8 hw t4);go_upto_region 7 with fail
   obtain⟨w3,hw3⟩:∃w3,(wr.setCell ⟨l.b,15,none⟩ (.int .i64 0)).setCell ⟨l.b,13,none⟩ (.int .i64 1)=w3:=⟨_,rfl⟩;rw[hw3] at J3 K2;rw[hw3];obtain⟨L,hL⟩:∃L,(((FU key h bk nw ns nc p s).set 3 (rowAt (.slice (some ⟨p.pq,0,none⟩) ns p.FT) 3 1 ns (fD ns (LZ (PM.leave s wi k))))).set 8 (gp nw (upd (λw=>o_ key (p.wp w) (s.wk w)) wi (many ((vT key l k).set 0 (aG l.b (((vL l k).setIfInBounds 15 (.int .i64 0)).setIfInBounds 13 (.int .i64 1)) 143))))))=L:=⟨_,rfl⟩;rw[hL] at J3;have hL7:L[7]?=some (gp nc (kN key p s)):=by rw[<-hL];rfl
   have hL0:L[0]?=some (aG p.b (svC nw ns nc p) 81):=by rw[<-hL];rfl
   have hL1:L[1]?=some (rowAt (.slice (some ⟨p.lN,0,none⟩) nc p.nz) 82 1 nc (fD nc (λc=> .pointer (some ⟨p.cb c,0,none⟩)))):=by rw[<-hL];rfl
   have HL:=hid (And.intro hL7 (And.intro hL0 (And.intro hL1 hL)));have w13:w3.cell? ⟨l.b,13,none⟩=some (.int .i64 1):=cA (K2.get 0 rfl) 13;have w01:w3.cell? ⟨l.b,1,none⟩=some (.slice (some ⟨l.cb,0,none⟩) 1 l.cc):=cA (K2.get 0 rfl) 1;have w11:w3.cell? ⟨l.b,11,none⟩=some (.int .i64 k.of):=cA (K2.get 0 rfl) 11;have b4:w3.cell? ⟨p.b,4,none⟩=some (.slice (some ⟨p.lN,0,none⟩) nc p.nz):=cA (J3.get 0 hL0) 4;have r4:w3.cell? ⟨p.lN,k.of,none⟩=some (.pointer (some ⟨p.cb k.of,0,none⟩)):=by rw[aB (J3.get 1 hL1) k.of (by rw[eB];exact hof),bP hof]
   have n1:(k.of:Int)<nc:=by omega
   have Xv:=hid (λw' (hb:Below w3.heap.size w3 w')=>K2.below hb);have vP:=hid J3;clear c15 f15 c13 f13 t1 t2 t4 K2 J3 HK hwk g8 kM hL hL7 hL0 hL1 hw3;go_quiet (fail)
   obtain⟨q1,hq1⟩:∃n,n=nq:=⟨_,rfl⟩;rw[<-hq1];clear hq1;go_wp2_with (fail)
   go_quiet (fail)
   obtain⟨w4,hw4⟩:∃w4,(w3.drewN q1).drewN nq=w4:=⟨_,rfl⟩;have J4:=(vP.out.drewN q1).drewN nq;have K4:=Xv.out ((w3.drewN q1).drewN nq) ((below_drewN' w3 q1).trans (below_drewN' (w3.drewN q1) nq));rw[hw4] at J4 K4;rw[hw4];have vQ:=hid J4;have HK4:=hid (λw' (hb:Below w4.heap.size w4 w')=>K4.below hb);clear J4 K4 hw4 vP Xv w13 w01 w11 b4 r4;have HS:Hid (∀w',Below w4.heap.size w4 w'->w'.cell? ⟨p.cb k.of,0,none⟩=some (.pointer (some ⟨p.nb k.of,0,none⟩))):=hid (λw' hb=>cA (bz ((vQ.out.below hb).get 7 HL.out.1) hof).1 0);have vR:Hid (∀w',Below w4.heap.size w4 w'->Calls prog 144 #[.pointer (some ⟨p.b,0,none⟩),.pointer (some ⟨l.b,0,none⟩)] w' λe w''=>e=.returned (.string (LY key (k.cmd,k.ans)))/\Below w'.heap.size w' w''):=hid (λw' hb=>by
    have K:=HK4.out w' hb;have h2:=K.get 2 rfl;rw[if_pos hp,if_pos hp] at h2;exact Fe hk.size ha (K.get 0 rfl) (λj hj=>by
     rw[Array.getElem?_setIfInBounds_ne (by omega),Array.getElem?_setIfInBounds_ne (by omega)]) (K.get 1 rfl) h2)
   have hrz:=KC hk.size ha;obtain⟨tx,htx⟩:∃tx,LY key (k.cmd,k.ans)=tx:=⟨_,rfl⟩;rw[htx] at vR hrz;have Yb:Hid (∀w',Below w4.heap.size w4 w'->Calls prog 143 #[.pointer (some ⟨p.nb k.of,0,none⟩),.string tx] w' λe w''=>e=.returned (.tuple #[])/\aJ (dZ key h bk nw ns nc p s).B w (L.set 7 (gp nc (upd (kN key p s) k.of ((aG (p.cb k.of) #[.pointer (some ⟨p.nb k.of,0,none⟩),.int .i64 (s.seq k.of),.bool (s.busy k.of)] 86).and (gy (p.nb k.of) (iD key (s.q k.of)) (jK key (s.out k.of) ++ tx)))))) w''):=hid (λw' hb=>by
    have J:=vQ.out.below hb;have g7:=J.get 7 HL.out.1;have hcl:=bz g7 hof;refine(Ir hcl.2.1 (by omega)).mono ?_;rintro e w'' ⟨rfl,t⟩;exact⟨rfl,J.turn 7 HL.out.1 (fo g7 hof (t.right hcl))⟩)
   have HTX:=hid htx;have S0:=HS.out w4 (Below.refl _ _);have hL7:(L.set 7 (gp nc (upd (kN key p s) k.of ((aG (p.cb k.of) #[.pointer (some ⟨p.nb k.of,0,none⟩),.int .i64 (s.seq k.of),.bool (s.busy k.of)] 86).and (gy (p.nb k.of) (iD key (s.q k.of)) (jK key (s.out k.of) ++ tx))))))[7]?=some (gp nc (upd (kN key p s) k.of ((aG (p.cb k.of) #[.pointer (some ⟨p.nb k.of,0,none⟩),.int .i64 (s.seq k.of),.bool (s.busy k.of)] 86).and (gy (p.nb k.of) (iD key (s.q k.of)) (jK key (s.out k.of) ++ tx))))):=List.getElem?_set_self (List.getElem?_eq_some_iff.1 HL.out.1).1;obtain⟨L2,hL2⟩:∃L2,L.set 7 (gp nc (upd (kN key p s) k.of ((aG (p.cb k.of) #[.pointer (some ⟨p.nb k.of,0,none⟩),.int .i64 (s.seq k.of),.bool (s.busy k.of)] 86).and (gy (p.nb k.of) (iD key (s.q k.of)) (jK key (s.out k.of) ++ tx)))))=L2:=⟨_,rfl⟩;rw[hL2] at Yb hL7;have HL2:=hid (And.intro hL7 hL2);have HZ:Hid (∀w',aJ (dZ key h bk nw ns nc p s).B w L2 w'->w'.cell? ⟨p.cb k.of,0,none⟩=some (.pointer (some ⟨p.nb k.of,0,none⟩))):=hid (λw' J=>by
    have g:=bz (J.get 7 HL2.out.1) hof;rw[upd_same] at g;exact cA g.1 0)
   clear hL2 hL7 htx hrz;go_upto_region 9 with fail
   go_cut [] from 56 to 63 (λwx=>Hid (aJ (dZ key h bk nw ns nc p s).B w L2 wx))
   case first=>
    go_region_held3 (λw'=>w'.cell? ⟨p.cb k.of,0,none⟩=some (.pointer (some ⟨p.nb k.of,0,none⟩))) (first|exact S0|exact HZ.out _ eF.out|exact HS.out _ iF.out|exact HS.out _ (Below.refl _ _).drew) (first
     |(go_at_call 144;refine(vR.out _ (by first|exact(Below.refl _ _).drew|exact Below.refl _ _)).mono ?_;rintro e w6 ⟨rfl,hb6⟩;have hbb:Below w4.heap.size w4 w6:=Below.trans (by first|exact(Below.refl _ _).drew|exact Below.refl _ _) (hb6.mono (Nat.le_refl _));have iF:=hid hbb;have z6:=HS.out w6 hbb;clear hb6 hbb)
     |(go_at_call 143;refine(Yb.out _ iF.out).mono ?_;rintro e w7 ⟨rfl,Wo⟩;have eF:=hid Wo;clear Wo))
    all_goals (go_wp2_with fail)
    all_goals (go_meet;exact eF)
   case rest=>
    have J7:=hcut.out;have g7:=J7.get 7 HL2.out.1;have hcl:=bz g7 hof;rw[upd_same] at hcl;have d2:wc.cell? ⟨p.cb k.of,2,none⟩=some (.bool (s.busy k.of)):=cA hcl.1 2;have e2:=cZ hcl.1 2;have t8:=ai hcl.1 2 (.bool false);have t9:ag (upd (kN key p s) k.of ((aG (p.cb k.of) #[.pointer (some ⟨p.nb k.of,0,none⟩),.int .i64 (s.seq k.of),.bool (s.busy k.of)] 86).and (gy (p.nb k.of) (iD key (s.q k.of)) (jK key (s.out k.of) ++ tx))) k.of) ((aG (p.cb k.of) #[.pointer (some ⟨p.nb k.of,0,none⟩),.int .i64 (s.seq k.of),.bool false] 86).and (gy (p.nb k.of) (iD key (s.q k.of)) (jK key (s.out k.of) ++ tx))) wc (wc.setCell ⟨p.cb k.of,2,none⟩ (.bool false)):=by
     rw[upd_same];exact t8.left hcl
    have J8:=J7.turn 7 HL2.out.1 (fo g7 hof t9);rw[PM.kC] at J8;go_upto_region 11 with fail
    obtain⟨w8,hw8⟩:∃w8,wc.setCell ⟨p.cb k.of,2,none⟩ (.bool false)=w8:=⟨_,rfl⟩;rw[hw8] at J8;rw[hw8];obtain⟨L3,hL3⟩:∃L3,L2.set 7 (gp nc (upd (kN key p s) k.of ((aG (p.cb k.of) #[.pointer (some ⟨p.nb k.of,0,none⟩),.int .i64 (s.seq k.of),.bool false] 86).and (gy (p.nb k.of) (iD key (s.q k.of)) (jK key (s.out k.of) ++ tx)))))=L3:=⟨_,rfl⟩;rw[hL3] at J8;have hL:=HL.out.2.2.2;have hL2:=HL2.out.2;subst hL;have h2':L3[2]?=some (rowAt (.slice (some ⟨p.lh,0,none⟩) nw p.zK) 140 1 nw (fD nw (tH p s))):=by rw[<-hL3,<-hL2];rfl
    have h0':L3[0]?=some (aG p.b (svC nw ns nc p) 81):=by rw[<-hL3,<-hL2];rfl
    have b5:w8.cell? ⟨p.b,5,none⟩=some (.slice (some ⟨p.lh,0,none⟩) nw p.zK):=cA (J8.get 0 h0') 5;have r5:w8.cell? ⟨p.lh,wi,none⟩=some (tH p s wi):=by rw[aB (J8.get 2 h2') wi (by rw[eB];exact hw),bP hw]
    have z5:=bn (J8.get 2 h2') wi;have n5:(wi:Int)<nw:=by omega
    have J9:=J8.turn 2 h2' (aM (J8.get 2 h2') wi (.pointer none));rw[KD] at J9;have h8':(L3.set 2 (rowAt (.slice (some ⟨p.lh,0,none⟩) nw p.zK) 140 1 nw (fD nw (tH p {s with wk:=upd s.wk wi none}))))[8]?=some (gp nw (upd (λw=>o_ key (p.wp w) (s.wk w)) wi (many ((vT key l k).set 0 (aG l.b (((vL l k).setIfInBounds 15 (.int .i64 0)).setIfInBounds 13 (.int .i64 1)) 143))))):=by rw[<-hL3,<-hL2];rfl
    have g10:=J9.get 8 h8';have Qs:=J9.turn 8 h8' (fo g10 hw (ag.conv (r':=emp) (bz g10 hw) (λ_=>trivial) (λb hb=>hb.elim)));rw[PM.kC] at Qs;have HE:Hid (ag (dZ key h bk nw ns nc p s) (dZ key h bk nw ns nc p (PM.leave s wi k)) w (w8.setCell ⟨p.lh,wi,none⟩ (.pointer none))):=hid (by
     have h6:=Qs.shut;have e7:upd (kN key p s) k.of ((aG (p.cb k.of) #[.pointer (some ⟨p.nb k.of,0,none⟩),.int .i64 (s.seq k.of),.bool false] 86).and (gy (p.nb k.of) (iD key (s.q k.of)) (jK key (s.out k.of) ++ tx)))=kN key p (PM.leave s wi k):=by
      funext j;unfold PM.leave kN;dsimp only;by_cases e:j=k.of
      ·subst e;rw[upd_same,upd_same,upd_same,JO,HTX.out]
      ·rw[upd_ne _ _ e,upd_ne _ _ e,upd_ne _ _ e]
     have e8:upd (λw=>o_ key (p.wp w) (s.wk w)) wi emp=λv=>o_ key (p.wp v) ((PM.leave s wi k).wk v):=by
      funext j;unfold PM.leave;dsimp only;by_cases e:j=wi
      ·subst e;rw[upd_same,upd_same];rfl
      ·rw[upd_ne _ _ e,upd_ne _ _ e]
     rw[e8,<-hL3,<-hL2,e7] at h6;exact h6)
    clear Qs J9 J8 J7 g7 hcl t8 t9 g10;go_wp2_with (fail)
    all_goals go_end0
    all_goals exact⟨rfl,HE.out⟩
end
section
variable{key:ByteArray}{h:Int}{bk nw ns nc:Nat}{p:Pl}{s s':uC}{w w':World}{c wi:Nat}
structure Wj(key:ByteArray)(nc:Nat)(s:uC)(wi c:Nat):Prop where
 who:∀k,s.wk wi=some k->k.of<nc/\k.ph<=2/\PM.TZ k.cmd/\(k.ph=2->PM.UW k.cmd k.ans/\(jK key (s.out k.of)).size<=60000)/\(k.ph=1->(s.data.it=none↔∃fl v,k.cmd=.set fl v))
 tk:s.wk wi=none->s.busy c=false/\∃x rest,s.q c=x :: rest/\Nx key x
 qs:(iD key (s.q c)).size<=2000
 out:(jK key (s.out c)).size<=60000
 seq:s.seq c<=1000
 ev:s.ev.length<=1000
 tok:s.data.tok<1000000
 it:∀y,s.data.it=some y->PM.UU s.data.tok y
def g_(key:ByteArray)(h:Int)(bk nw ns nc:Nat)(p:Pl)(s:uC)(wi c:Nat)(w:World)(e:Ending)(w':World):Prop:=
 e=.returned (.bool (PM.work PM.jA PM.Ad s wi c).1)/\∃p':Pl,p'.b=p.b/\dO key p'.m (PM.work PM.jA PM.Ad s wi c).2.data/\
  p'.m.ps.num<=p.m.ps.num+1/\ag (dZ key h bk nw ns nc p s) (dZ key h bk nw ns nc p' (PM.work PM.jA PM.Ad s wi c).2) w w'
theorem qz{e:Ending}(KF:PM.work PM.jA PM.Ad s wi c=(true,s'))(he:e=.returned (.bool true))
 (hp:∃p':Pl,p'.b=p.b/\p'.m.ps.num<=p.m.ps.num+1/\dO key p'.m s'.data/\ag (dZ key h bk nw ns nc p s) (dZ key h bk nw ns nc p' s') w w'):g_ key h bk nw ns nc p s wi c w e w':=by
 unfold g_;rw[KF];obtain⟨p',h1,h2,h3,h4⟩:=hp;exact⟨he,p',h1,h3,h2,h4⟩
theorem Ta{e:Ending}(KF:PM.work PM.jA PM.Ad s wi c=(false,s))(ho:dO key p.m s.data)(he:e=.returned (.bool false))(ht:∃p':Pl,p'.b=p.b/\p'.m=p.m/\ag (dZ key h bk nw ns nc p s) (dZ key h bk nw ns nc p' s) w w'):g_ key h bk nw ns nc p s wi c w e w':=by
 unfold g_;rw[KF];obtain⟨p',h1,h2,h3⟩:=ht;exact⟨he,p',h1,by rw[h2];exact ho,by rw[h2];omega,h3⟩
theorem KG(hR:(dZ key h bk nw ns nc p s).R w)(hW:Wj key nc s wi c)(ho:dO key p.m s.data)(hw:wi<nw)(hc:c<nc)(hwk:s.wk wi=none):
 Calls prog 79 #[.pointer (some ⟨p.b,0,none⟩),.int .i64 wi,.int .i64 c] w (g_ key h bk nw ns nc p s wi c w):=by
 obtain⟨hb,x,rest,hqq,hx⟩:=hW.tk hwk;have hsz:=hW.qs;rw[hqq] at hsz;refine(Fa hx hR hc hw hwk hb hqq hW.out (by omega) (by have:=hW.seq;omega)).mono (λe w' hh=>?_);obtain⟨he,p',h1,h2,h3⟩:=hh;exact qz (by unfold PM.work;rw[hwk,hb,hqq]) he ⟨p',h1,by rw[h2];omega,by rw[h2];exact ho,h3⟩
theorem KH(hk:gu key h bk)(hns:ns=4\/ns=1)(hR:(dZ key h bk nw ns nc p s).R w)(ho:dO key p.m s.data)(hw:wi<nw){k:PM.Wk Cd An}(hkk:s.wk wi=some k)(hp:k.ph=0):
 Calls prog 80 #[.pointer (some ⟨p.b,0,none⟩),.int .i64 wi,.pointer (some ⟨(p.wp wi).b,0,none⟩)] w (g_ key h bk nw ns nc p s wi c w):=by
 refine(OV hk hns hR hw hkk hp).mono (λe w' hh=>?_);obtain⟨he,p',h1,h2,h3⟩:=hh;cases hh:s.holder with
 |some v=>
  rw[hh] at he h3;exact Ta (by unfold PM.work;rw[hkk];dsimp only;rw[if_pos hp,hh];rfl) ho he ⟨p',h1,h2,h3⟩
 |none=>
  rw[hh] at he h3;exact qz (s':=PM.lock s wi k) (by unfold PM.work;rw[hkk];dsimp only;rw[if_pos hp,hh];rfl) he ⟨p',h1,by rw[h2];omega,by rw[h2];exact ho,h3⟩
def Tc(key:ByteArray)(h:Int)(bk nw ns nc:Nat)(p:Pl)(s:uC)(wi:Nat)(k:PM.Wk Cd An)(w:World)(e:Ending)(w':World):Prop:=
 e=.returned (.tuple #[])/\∃p':Pl,p'.b=p.b/\p'.m.ps.num<=p.m.ps.num+1/\dO key p'.m (PM.jA s.data k.cmd).1/\ag (dZ key h bk nw ns nc p s) (dZ key h bk nw ns nc p' (PM.qX PM.jA s wi k)) w w'
theorem Ff(hR:(dZ key h bk nw ns nc p s).R w)(hW:Wj key nc s wi c)(ho:dO key p.m s.data)(hw:wi<nw)(hc:c<nc)(hwk:s.wk wi=none):
 Calls prog 30 #[.pointer (some ⟨p.b,0,none⟩),.int .i64 wi,.int .i64 c] w (g_ key h bk nw ns nc p s wi c w):=by
 have HT:=hid (KG hR hW ho hw hc hwk);have H:=aJ.open hR;have a5:w.cell? ⟨p.b,5,none⟩=some (.slice (some ⟨p.lh,0,none⟩) nw p.zK):=cA (H.get 0 rfl) 5;have r0:w.cell? ⟨p.lh,wi,none⟩=some (.pointer none):=by rw[aB (H.get 2 rfl) wi (by rw[eB];exact hw),bP hw];unfold tH;rw[hwk]
 have h1:¬(nw:Int)<=wi:=by omega
 have h2:(wi:Int)<nw:=by omega
 clear H hR hW ho hc hwk;go_enter func30,ntmps30;go_wp2_with (go_at_call 79;refine HT.out.mono ?_;rintro e w1 ⟨rfl,hh⟩)
 go_ret;exact⟨rfl,hh⟩
theorem Fg(hk:gu key h bk)(hns:ns=4\/ns=1)(hR:(dZ key h bk nw ns nc p s).R w)(hW:Wj key nc s wi c)(ho:dO key p.m s.data)(hw:wi<nw){k:PM.Wk Cd An}(hkk:s.wk wi=some k)
 (L6:k.ph=1->Calls prog 81 #[.pointer (some ⟨p.b,0,none⟩),.pointer (some ⟨(p.wp wi).b,0,none⟩)] w (Tc key h bk nw ns nc p s wi k w)):
 Calls prog 30 #[.pointer (some ⟨p.b,0,none⟩),.int .i64 wi,.int .i64 c] w (g_ key h bk nw ns nc p s wi c w):=by
 have H:=aJ.open hR;have a5:w.cell? ⟨p.b,5,none⟩=some (.slice (some ⟨p.lh,0,none⟩) nw p.zK):=cA (H.get 0 rfl) 5;have r0:w.cell? ⟨p.lh,wi,none⟩=some (.pointer (some ⟨(p.wp wi).b,0,none⟩)):=by rw[aB (H.get 2 rfl) wi (by rw[eB];exact hw),bP hw];unfold tH;rw[hkk]
 have k15:w.cell? ⟨(p.wp wi).b,15,none⟩=some (.int .i64 k.ph):=cA ((C_ hR hw hkk).get 0 rfl) 15;have h1:¬(nw:Int)<=wi:=by omega
 have h2:(wi:Int)<nw:=by omega
 have hwho:=hW.who k hkk;rcases(by have:=hwho.2.1;omega:k.ph=0\/k.ph=1\/k.ph=2) with hp|hp|hp
 ·rw[hp] at k15;have Wp:w.cell? ⟨(p.wp wi).b,15,none⟩=some (.int .i64 0):=k15;have HT:=hid (KH (c:=c) hk hns hR ho hw hkk hp);clear k15 H hR hW ho hkk L6 hwho hk hns;go_enter func30,ntmps30;go_wp2_with (go_at_call 80;refine HT.out.mono ?_;rintro e w1 ⟨rfl,hh⟩)
  go_ret;exact⟨rfl,hh⟩
 ·rw[hp] at k15;have Wp:w.cell? ⟨(p.wp wi).b,15,none⟩=some (.int .i64 1):=k15;have HT:=hid (L6 hp)
  have HF:Hid (∀w1,(∃p':Pl,p'.b=p.b/\p'.m.ps.num<=p.m.ps.num+1/\dO key p'.m (PM.jA s.data k.cmd).1/\ag (dZ key h bk nw ns nc p s) (dZ key h bk nw ns nc p' (PM.qX PM.jA s wi k)) w w1)->g_ key h bk nw ns nc p s wi c w (.returned (.bool true)) w1):=
   hid (λw1 hh=>qz (s':=PM.qX PM.jA s wi k) (by unfold PM.work;rw[hkk];dsimp only;rw[if_neg (by omega),if_pos hp]) rfl hh)
  clear k15 H hR hW ho hkk L6 hwho hk hns;unfold Tc at HT;go_enter func30,ntmps30;go_wp2_with (go_at_call 81;refine HT.out.mono ?_;rintro e w1 ⟨rfl,hh⟩)
  go_ret;exact HF.out _ hh
 ·rw[hp] at k15;have Wp:w.cell? ⟨(p.wp wi).b,15,none⟩=some (.int .i64 2):=k15;have hga:=hwho.2.2.2.1 hp;have HT:=hid (KE hk (by rcases hns with rfl|rfl<;>decide) hR hw hkk hp hwho.1 hga.1 hga.2)
  have HF:Hid (∀w1,ag (dZ key h bk nw ns nc p s) (dZ key h bk nw ns nc p (PM.leave s wi k)) w w1->g_ key h bk nw ns nc p s wi c w (.returned (.bool true)) w1):=
   hid (λw1 hh=>qz (s':=PM.leave s wi k) (by unfold PM.work;rw[hkk];dsimp only;rw[if_neg (by omega),if_neg (by omega)]) rfl ⟨p,rfl,by omega,ho,hh⟩)
  clear k15 H hR hW ho hkk L6 hwho hk hns hga;go_enter func30,ntmps30;go_wp2_with (go_at_call 82;refine HT.out.mono ?_;rintro e w1 ⟨rfl,hh⟩)
  go_ret;exact HF.out _ hh
end
section
variable{key:ByteArray}{h:Int}{bk nw ns nc:Nat}{p:Pl}{s t:uC}{w0 w w':World}{c wi N:Nat}
def KI(key:ByteArray)(h:Int)(bk nw ns nc:Nat):Prop:=∀(p:Pl) (s:uC) (w:World) (wi:Nat) (k:PM.Wk Cd An),(dZ key h bk nw ns nc p s).R w->wi<nw->s.wk wi=some k->k.ph=1->dO key p.m s.data->p.m.ps.num<=1000000->s.data.tok<1000000->
 (∀y,s.data.it=some y->PM.UU s.data.tok y)->PM.TZ k.cmd->(s.data.it=none↔∃fl v,k.cmd=.set fl v)->s.ev.length<=1000->
 Calls prog 81 #[.pointer (some ⟨p.b,0,none⟩),.pointer (some ⟨(p.wp wi).b,0,none⟩)] w (Tc key h bk nw ns nc p s wi k w)
def Sat(key:ByteArray)(h:Int)(bk nw ns nc:Nat)(p:Pl)(s:uC)(w:World)(N:Nat)(t:uC)(w':World):Prop:=
 ∃p':Pl,p'.b=p.b/\dO key p'.m t.data/\p'.m.ps.num<=N/\ag (dZ key h bk nw ns nc p s) (dZ key h bk nw ns nc p' t) w w'
theorem Sat.work(hk:gu key h bk)(hns:ns=4\/ns=1)(Yc:KI key h bk nw ns nc)(hS:Sat key h bk nw ns nc p s w N t w')(hW:Wj key nc t wi c)(hN:N<=1000000)(hw:wi<nw)(hc:c<nc):
 Calls prog 30 #[.pointer (some ⟨p.b,0,none⟩),.int .i64 wi,.int .i64 c] w' λe w''=>e=.returned (.bool (PM.work PM.jA PM.Ad t wi c).1)/\Sat key h bk nw ns nc p s w (N+1) (PM.work PM.jA PM.Ad t wi c).2 w'':=by
 obtain⟨p',h1,h2,h3,h4⟩:=hS;have hP:Calls prog 30 #[.pointer (some ⟨p'.b,0,none⟩),.int .i64 wi,.int .i64 c] w' (g_ key h bk nw ns nc p' t wi c w'):=by
  cases hwk:t.wk wi with
  |none=>exact Ff h4.here hW h2 hw hc hwk
  |some k=>
   refine Fg hk hns h4.here hW h2 hw hwk (λhp=>?_);have hwho:=hW.who k hwk;exact Yc p' t w' wi k h4.here hw hwk hp h2 (by omega) hW.tok hW.it hwho.2.2.1 (hwho.2.2.2.2 hp) hW.ev
 rw[h1] at hP;refine hP.mono (λe w'' hh=>?_);obtain⟨g1,p'',g2,g3,g4,g5⟩:=hh;exact⟨g1,p'',g2.trans h1,g3,by omega,h4.trans g5⟩
theorem Sat.write{n:Int}(hS:Sat key h bk nw ns nc p s w N t w')(hc:c<nc)(hn:((jK key (t.out c)).size:Int)<=n):
 Calls prog 29 #[.pointer (some ⟨p.b,0,none⟩),.int .i64 c,.int .i64 n] w' λe w''=>e=.returned (.string (jK key (t.out c)))/\Sat key h bk nw ns nc p s w N (PM.wr t c) w'':=by
 obtain⟨p',h1,h2,h3,h4⟩:=hS;have hP:=EK h4.here hc hn;rw[h1] at hP;exact hP.mono (λe w'' hh=>⟨hh.1,p',h1,h2,h3,h4.trans hh.2⟩)
theorem Sat.made(hm:Made (dZ key h bk nw ns nc p s) w0 w)(hS:Sat key h bk nw ns nc p s w N t w'):Below w0.heap.size w0 w':=by
 obtain⟨p',h1,h2,h3,h4⟩:=hS;exact(hm.turn h4).bel
end
def qs2:uC:=PM.fd (PM.fd PM.nk 0 (.set 3 PM.vV)) 0 .get
def vY(i:Nat):uC:=PM.works PM.jA PM.Ad qs2 (List.replicate i (0,0))
theorem KJ(i:Nat):(PM.work PM.jA PM.Ad (vY i) 0 0).2=vY (i+1):=by
 unfold vY;rw[List.replicate_succ',PM.Ac]
theorem OZ:∀i,i<8->(PM.work PM.jA PM.Ad (vY i) 0 0).1=true:=by decide+kernel
def Qt:PM.Ev Cd An:=⟨0,1,.set 3 PM.vV,⟨2,some ⟨3,PM.vV,1,0⟩,0⟩⟩
def Qu:PM.Ev Cd An:=⟨0,2,.get,⟨1,some ⟨3,PM.vV,1,1⟩,0⟩⟩
theorem O0:(vY 8).out 0= [(.set 3 PM.vV,⟨2,some ⟨3,PM.vV,1,0⟩,0⟩),(.get,⟨1,some ⟨3,PM.vV,1,1⟩,0⟩)]:=rfl
theorem za:jK ⟨#[107]⟩ ((vY 8).out 0)=⟨#[83,84,79,82,69,68,13,10,86,65,76,85,69,32,107,32,51,32,49,13,10,118,13,10,69,78,68,13,10]⟩:=by
 rw[O0];decide+kernel
theorem KL:LX ⟨#[107]⟩ (.set 3 PM.vV) ++ LX ⟨#[107]⟩ .get=⟨#[115,101,116,32,107,32,51,32,48,32,49,13,10,118,13,10,103,101,116,32,107,13,10]⟩:=by decide+kernel
theorem Da:PM.TY PM.vV:=by show (⟨#[118]⟩:ByteArray).size<=20;decide
theorem Td(i:Nat)(hi:i<8):Wj ⟨#[107]⟩ 1 (vY i) 0 0:=by
 have ho:∀i,i<8->(jK ⟨#[107]⟩ ((vY i).out 0)).size<=60000:=by decide+kernel
 have hq:∀i,i<8->(iD ⟨#[107]⟩ ((vY i).q 0)).size<=2000:=by decide+kernel
 have hs:∀i,i<8->(vY i).seq 0<=1000:=by decide+kernel
 have he:∀i,i<8->(vY i).ev.length<=1000:=by decide+kernel
 have ht:∀i,i<8->(vY i).data.tok<1000000:=by decide+kernel
 have h3:PM.TZ (.set 3 PM.vV):=⟨by decide,Da⟩;have hv:∀{x:PM.It} {y:PM.It} {t:Nat},x=⟨3,PM.vV,1,t⟩->some x=some y->PM.TY y.v/\y.fl<100:=λe1 e2=>by cases e2;subst e1;exact⟨Da,by show 3<100;decide⟩
 have h0:=ho i hi;refine⟨?_,?_,hq i hi,h0,hs i hi,he i hi,ht i hi,?_⟩<;>clear hq hs he ht ho
 ·rcases(by omega:i=0\/i=1\/i=2\/i=3\/i=4\/i=5\/i=6\/i=7) with rfl|rfl|rfl|rfl|rfl|rfl|rfl|rfl
  ·intro k e;cases e
  ·intro k e;cases e;exact⟨by decide,by decide,h3,λh=>(by cases h),λh=>(by cases h)⟩
  ·intro k e;cases e;exact⟨by decide,by decide,h3,λh=>(by cases h),λ_=>⟨λ_=>⟨_,_,rfl⟩,λ_=>rfl⟩⟩
  ·intro k e;cases e;exact⟨by decide,by decide,h3,λ_=>⟨⟨rfl,λy e=>hv rfl e⟩,h0⟩,λh=>(by cases h)⟩
  ·intro k e;cases e
  ·intro k e;cases e;exact⟨by decide,by decide,trivial,λh=>(by cases h),λh=>(by cases h)⟩
  ·intro k e;cases e;exact⟨by decide,by decide,trivial,λh=>(by cases h),λ_=>⟨λh=>(by cases h),λ⟨_,_,h⟩=>(by cases h)⟩⟩
  ·intro k e;cases e;exact⟨by decide,by decide,trivial,λ_=>⟨⟨⟨rfl,rfl⟩,λy e=>hv rfl e⟩,h0⟩,λh=>(by cases h)⟩
 ·rcases(by omega:i=0\/i=1\/i=2\/i=3\/i=4\/i=5\/i=6\/i=7) with rfl|rfl|rfl|rfl|rfl|rfl|rfl|rfl
  all_goals intro e
  all_goals first
   |(cases e;done)
   |exact⟨rfl,_,_,rfl,Kz⟩
   |exact⟨rfl,_,_,rfl,Ky⟩
 ·rcases(by omega:i=0\/i=1\/i=2\/i=3\/i=4\/i=5\/i=6\/i=7) with rfl|rfl|rfl|rfl|rfl|rfl|rfl|rfl
  all_goals intro y e
  all_goals first
   |(cases e;done)
   |(cases e;exact⟨Da,by decide,by decide,by decide⟩)
section
variable{key:ByteArray}{h:Int}{bk nw ns nc:Nat}{p:Pl}{s t:uC}{w w':World}{c wi N:Nat}{x y:Cd}
theorem KM:PM.fd (PM.fd s c x) c y= {s with q:=upd s.q c (s.q c ++ [x,y])}:=by
 unfold PM.fd;dsimp only;rw[PM.kC,upd_same,List.append_assoc];rfl
theorem Fh{b:ByteArray}(hR:(dZ key h bk nw ns nc p s).R w)(hc:c<nc)(hx:LX key x ++ LX key y=b)(hs:(iD key (s.q c)).size+b.size<=70000):
 Calls prog 12 #[.pointer (some ⟨p.b,0,none⟩),.int .i64 c,.string b] w λe w'=>e=.returned (.int .i64 b.size)/\ag (dZ key h bk nw ns nc p s) (dZ key h bk nw ns nc p (PM.fd (PM.fd s c x) c y)) w w':=by
 have H:=aJ.open hR;have HC:=hid (om hR hc);have g7:(gp nc (kN key p s)).R w:=H.get 7 rfl;have k0:w.cell? ⟨p.cb c,0,none⟩=some (.pointer (some ⟨p.nb c,0,none⟩)):=cA (bz g7 hc).1 0;have HF:=hid (Ct (bz g7 hc).2.1 hs);have HT:=hid (λw' t=>CU (s':=PM.fd (PM.fd s c x) c y) (w':=w') hR hc (λd e=>⟨by rw[KM];exact upd_ne _ _ e,rfl⟩) ⟨rfl,rfl,rfl,rfl,rfl,rfl⟩ t);have e1:iD key ((PM.fd (PM.fd s c x) c y).q c)=iD key (s.q c) ++ b:=by
  rw[KM];show iD key (upd s.q c _ c)=_;rw[upd_same,Bb,<-hx];simp only[iD,JM]
 rw[e1] at HT;clear H hR g7 e1;go_enter func12,ntmps12
 go_wp2_with (first
  |(go_at_call 40;refine HC.out.mono ?_;rintro e w1 ⟨rfl,rfl⟩)
  |(go_at_call 41;refine HF.out.mono ?_;rintro e w1 ⟨rfl,ht⟩))
 go_ret;exact⟨rfl,HT.out _ ht⟩
theorem Sat.Wq{b:ByteArray}(hS:Sat key h bk nw ns nc p s w N t w')(hc:c<nc)(hx:LX key x ++ LX key y=b)(hs:(iD key (t.q c)).size+b.size<=70000):
 Calls prog 12 #[.pointer (some ⟨p.b,0,none⟩),.int .i64 c,.string b] w' λe w''=>e=.returned (.int .i64 b.size)/\Sat key h bk nw ns nc p s w N (PM.fd (PM.fd t c x) c y) w'':=by
 obtain⟨p',h1,h2,h3,h4⟩:=hS;have hP:=Fh h4.here hc hx hs;rw[h1] at hP;exact hP.mono (λe w'' hh=>⟨hh.1,p',h1,h2,h3,h4.trans hh.2⟩)
end
section
variable{key:ByteArray}{h:Int}{bk:Nat}
def KN(key:ByteArray)(h:Int)(bk:Nat)(kv:Int)(nw ns:Nat)(every:Int):Prop:=∀w,Calls prog 9 #[.agg #[.int .i64 1,.int .i64 512,.int .i64 200,.int .i64 kv],.int .i64 nw,.int .i64 ns,.int .i64 every] w λe w'=>
 ∃p:Pl,e=.returned (.tuple #[.pointer (some ⟨p.b,0,none⟩),.int .i64 0])/\EJ p.m/\p.m.ps.num=0/\Made (many (SA key h bk nw ns 0 p (.slice none 0 0))) w w'
def pX(key:ByteArray)(h:Int)(bk nw ns n b:Nat)(w w':World):Prop:=∃(p:Pl) (cv:Value),p.b=b/\EJ p.m/\p.m.ps.num=0/\(0<n->cv=.slice (some ⟨p.lN,0,none⟩) n p.nz)/\Made (many (SA key h bk nw ns n p cv)) w w'
theorem pX.open'{nw ns n b:Nat}{w w':World}(hS:pX key h bk nw ns n b w w')(hn:n<8):Calls prog 10 #[.pointer (some ⟨b,0,none⟩)] w' λe w''=>e=.returned (.int .i64 n)/\pX key h bk nw ns (n+1) b w w'':=by
 obtain⟨p,cv,h1,h2,h3,h4,h5⟩:=hS;have h6:=OA h5.here hn;rw[h1] at h6;refine h6.mono (λe w'' hh=>?_);obtain⟨g1,p',g2,g3,g4⟩:=hh;exact⟨g1,p',_,g2,by rw[g3];exact h2,by rw[g3];exact h3,λ_=>rfl,h5.turn g4⟩
theorem pX.sv{nw ns n b:Nat}{w w':World}(hS:pX key h bk nw ns n b w w')(hn:0<n):∃p:Pl,p.b=b/\dO key p.m PM.UT/\p.m.ps.num=0/\Made (dZ key h bk nw ns n p PM.nk) w w':=by
 obtain⟨p,cv,h1,h2,h3,h4,h5⟩:=hS;have h6:=h4 hn;subst h6;exact⟨p,h1,h2,h3,h5⟩
def Wt(key:ByteArray)(h:Int)(bk:Nat):Prop:=∀(p:Pl) (s:uC) (w:World),s.ev= [Qt,Qu]->(dZ key h bk 1 1 1 p s).R w->Calls prog 25 #[.pointer (some ⟨p.b,0,none⟩)] w λe w'=> ∃g cap,e=.returned (.slice (some ⟨g,0,none⟩) 2 cap)/\Made (rowAt (.slice (some ⟨g,0,none⟩) 2 cap) 136 35 2 (f_ key Qt ++ f_ key Qu)) w w'
def Qv(key:ByteArray):Prop:=∀(g cap:Nat) (w:World),(rowAt (.slice (some ⟨g,0,none⟩) 2 cap) 136 35 2 (f_ key Qt ++ f_ key Qu)).R w->Calls prog 31 #[.slice (some ⟨g,0,none⟩) 2 cap,.int .i64 472] w λe w'=>e=.returned (.int .i64 (-1))/\Below w.heap.size w w'
theorem KO(hk:gu ⟨#[107]⟩ h bk)(Yc:KI ⟨#[107]⟩ h bk 1 1 1)(Wu:KN ⟨#[107]⟩ h bk 0 1 1 9)(hEv:Wt ⟨#[107]⟩ h bk)(hCh:Qv ⟨#[107]⟩)(w:World):Calls prog 8 #[] w λe w'=>e=.returned (.bool true)/\Below w.heap.size w w':=by
 have HN:=hid Wu;have HO:Hid (∀(b:Nat) (w':World),pX ⟨#[107]⟩ h bk 1 1 0 b w w'->Calls prog 10 #[.pointer (some ⟨b,0,none⟩)] w' λe w''=>e=.returned (.int .i64 0)/\pX ⟨#[107]⟩ h bk 1 1 1 b w w''):=hid (λb w' hS=>hS.open' (by omega))
 have HF:Hid (∀(p:Pl) (w2 w3:World),Sat ⟨#[107]⟩ h bk 1 1 1 p PM.nk w2 0 PM.nk w3->Calls prog 12 #[.pointer (some ⟨p.b,0,none⟩),.int .i64 0,.string ⟨#[115,101,116,32,107,32,51,32,48,32,49,13,10,118,13,10,103,101,116,32,107,13,10]⟩] w3 λe w4=>e=.returned (.int .i64 23)/\Sat ⟨#[107]⟩ h bk 1 1 1 p PM.nk w2 0 (vY 0) w4):=
  hid (λp w2 w3 hs=>Sat.Wq (c:=0) (x:=.set 3 PM.vV) (y:=.get) hs (by decide) KL (by decide))
 have HW:Hid (∀(p:Pl) (w2 w3:World) (i:Nat),i<8->Sat ⟨#[107]⟩ h bk 1 1 1 p PM.nk w2 i (vY i) w3->Calls prog 30 #[.pointer (some ⟨p.b,0,none⟩),.int .i64 0,.int .i64 0] w3 λe w4=>e=.returned (.bool true)/\Sat ⟨#[107]⟩ h bk 1 1 1 p PM.nk w2 (i+1) (vY (i+1)) w4):=
  hid (λp w2 w3 i hi hs=>by
   have h1:=Sat.work (wi:=0) (c:=0) hk (.inr rfl) Yc hs (Td i hi) (by omega) (by decide) (by decide);rw[OZ i hi,KJ] at h1;exact h1)
 have HX:Hid (∀(p:Pl) (w2 w3:World),Sat ⟨#[107]⟩ h bk 1 1 1 p PM.nk w2 8 (vY 8) w3->Calls prog 29 #[.pointer (some ⟨p.b,0,none⟩),.int .i64 0,.int .i64 999] w3 λe w4=>e=.returned (.string ⟨#[83,84,79,82,69,68,13,10,86,65,76,85,69,32,107,32,51,32,49,13,10,118,13,10,69,78,68,13,10]⟩)/\Sat ⟨#[107]⟩ h bk 1 1 1 p PM.nk w2 8 (PM.wr (vY 8) 0) w4):=
  hid (λp w2 w3 hs=>by
   have h1:=Sat.write (c:=0) (n:=999) hs (by decide) (by rw[za];decide);rw[za] at h1;exact h1)
 have HE:Hid (∀(p:Pl) (w2 w3:World),Made (dZ ⟨#[107]⟩ h bk 1 1 1 p PM.nk) w w2->Sat ⟨#[107]⟩ h bk 1 1 1 p PM.nk w2 8 (PM.wr (vY 8) 0) w3->Calls prog 25 #[.pointer (some ⟨p.b,0,none⟩)] w3 λe w4=> ∃g cap,e=.returned (.slice (some ⟨g,0,none⟩) 2 cap)/\(rowAt (.slice (some ⟨g,0,none⟩) 2 cap) 136 35 2 (f_ ⟨#[107]⟩ Qt ++ f_ ⟨#[107]⟩ Qu)).R w4/\Below w.heap.size w w4):=
  hid (λp w2 w3 hm hs=>by
   obtain⟨p',h1,h2,h3,h4⟩:=hs;have h5:=(Sat.made hm ⟨p',h1,h2,h3,h4⟩);have h6:=hEv p' _ w3 rfl h4.here;rw[h1] at h6;exact h6.mono (λe w4 hh=>by
    obtain⟨g,cap,g1,g2⟩:=hh;exact⟨g,cap,g1,g2.here,h5.trans (g2.bel.mono h5.size)⟩))
 have HC:=hid hCh;clear hk Yc Wu hEv hCh;go_enter func8,ntmps8
 go_wp2_with (first
  |(go_at_call 9;refine(HN.out _).mono ?_;rintro e w1 ⟨p0,rfl,h1,h2,h3⟩;have HS:Hid (pX ⟨#[107]⟩ h bk 1 1 0 p0.b w w1):=hid ⟨p0,_,rfl,h1,h2,λh=>absurd h (by omega),h3⟩;clear h1 h2 h3)
  |(go_at_call 10;refine(HO.out _ _ HS.out).mono ?_;rintro e w2 ⟨rfl,h1⟩
    obtain⟨p,e1,e2,e3,e4⟩:=h1.sv (by omega);have HM:=hid e4;have Qj:Hid (Sat ⟨#[107]⟩ h bk 1 1 1 p PM.nk w2 0 PM.nk w2):=hid ⟨p,rfl,e2,by rw[e3];exact Nat.le_refl _,ag.rfl' e4.here⟩;rw[<-e1];clear e1 e2 e3 e4 h1 HS)
  |(go_at_call 12;refine(HF.out _ _ _ Qj.out).mono ?_;rintro e w3 ⟨rfl,hs1⟩;have LH:=hid hs1;clear hs1))
 clear HN HO HF Qj;go_loopw [3] (λi wr=> ∃n:Nat,n<=8/\i=.int .i64 n/\Hid (Sat ⟨#[107]⟩ h bk 1 1 1 p PM.nk w2 n (vY n) wr)) (λi _=>8-(intOf i).toNat)
 case atStart=>exact⟨0,by omega,rfl,LH⟩
 case round=>
  obtain⟨n,hn,rfl,hs⟩:=hrel;by_cases h8:n<8
  ·have h9:(n:Int)<8:=by omega
   have Wv:=hid (HW.out p w2 wr n h8 hs.out);go_wp2_with (go_at_call 30;refine Wv.out.mono ?_;rintro e w4 ⟨rfl,h1⟩;have H1:=hid h1;clear h1)
   go_roundw;case rel=>exact⟨n+1,by omega,by first|rfl|simp,H1⟩
   case measure=>simp[intOf];omega
  ·obtain rfl:n=8:=by omega
   have HXn:=hid (HX.out p w2 wr hs.out)
   go_wp2_with (first
    |(go_at_call 29;refine HXn.out.mono ?_;rintro e w4 ⟨rfl,h1⟩;have Te:=hid (HE.out p w2 w4 HM.out h1);clear h1)
    |(go_at_call 25;refine Te.out.mono ?_;rintro e w5 ⟨g,cap,rfl,h1,h2⟩;have HCn:=hid (HC.out g cap w5 h1);have HB:=hid h2;clear h1 h2)
    |(go_at_call 31;refine HCn.out.mono ?_;rintro e w6 ⟨rfl,h1⟩))
   go_ret;exact⟨by first|rfl|simp,HB.out.trans (h1.mono HB.out.size)⟩
end
def Fj(k:Int)(t mt:ByteArray):Value:=.agg #[.int .i64 k,.slice none 0 0,.bool false,.bool false,.string t,.string ⟨#[]⟩,.int .i64 0,.bool false,.string mt,.slice none 0 0,.string ⟨#[]⟩]
theorem Db{b out t mt:ByteArray}{k:Int}{q c:Nat}{w:World}(hk:¬k=0)(h:(gy c b out).R w)(ho:out.size<=60000)(hb:b.size<=6000)(hu:q<=b.size)
 (HP:∀W,Below w.heap.size w W->Calls prog 202 #[.string b] W λe w'=>e=.returned (.tuple #[Fj k t mt,.int .i64 q])/\Below W.heap.size W w'):
 Calls prog 142 #[.pointer (some ⟨c,0,none⟩)] w λe w'=>e=.returned (.tuple #[Fj k t mt,.bool true])/\ag (gy c b out) (gy c (b.extract q b.size) out) w w':=by
 have J0:=(aJ.start h).cells aH 33;have E9:=hid (HP _ (bA w (.cells aH 33)));obtain⟨N,hN⟩:∃N,w.heap.size=N:=⟨_,rfl⟩;obtain⟨W,hW⟩:∃W,w.alloc (.cells aH 33)=W:=⟨_,rfl⟩;rw[hN,hW] at J0;rw[hW] at E9;have k0:W.cell? ⟨c,0,none⟩=some (.string b):=cA (J0.get 1 rfl) 0;have k1:W.cell? ⟨c,1,none⟩=some (.string out):=cA (J0.get 1 rfl) 1;have k3:W.cell? ⟨c,3,none⟩=some (.bool false):=cA (J0.get 1 rfl) 3;have g0:¬(100000:Int)<=out.size:=by omega
 have kb:(k == 0)=false:=by simp[hk]
 have HJ:=hid J0;simp only[aH] at hW;clear J0 HP h ho;go_enter func142,ntmps142;go_wp2_with (fail)
 go_at_call 202;refine E9.out.mono ?_;rintro e w1 ⟨rfl,hm1⟩;have J2:=(HJ.out.below hm1).cells #[.int .i64 k,.slice none 0 0,.bool false,.bool false,.string t,.string ⟨#[]⟩,.int .i64 0,.bool false,.string mt,.slice none 0 0,.string ⟨#[]⟩] 33;obtain⟨X,hX⟩:∃X,w1.heap.size=X:=⟨_,rfl⟩;obtain⟨V,hV⟩:∃V,w1.alloc (.cells #[.int .i64 k,.slice none 0 0,.bool false,.bool false,.string t,.string ⟨#[]⟩,.int .i64 0,.bool false,.string mt,.slice none 0 0,.string ⟨#[]⟩] 33)=V:=⟨_,rfl⟩;rw[hX,hV] at J2;have HV:=hid hV;have HJ2:=hid J2;clear J2 hm1 hV E9 HJ hW hN k0 k1 k3;simp only[Fj];go_upto_region 4 with fail
 rw[HV.out];clear HV hX;obtain⟨x0,x1,x2,x3,x4,x5,x6,x7,x8,x9,lJ⟩:nP V X (.int .i64 k) (.slice none 0 0) (.bool false) (.bool false) (.string t) (.string ⟨#[]⟩) (.int .i64 0) (.bool false) (.string mt) (.slice none 0 0) (.string ⟨#[]⟩):=jC (HJ2.out.get 0 rfl);obtain⟨r0,t0,r1,t1,r2,t2,r3,t3,r4,t4,r5,t5,r6,t6,r7,t7,r8,t8,r9,t9,nY,t10⟩:gU V N (.int .i64 0) (.slice none 0 0) (.bool false) (.bool false) (.string ⟨#[]⟩) (.string ⟨#[]⟩) (.int .i64 0) (.bool false) (.string ⟨#[]⟩) (.slice none 0 0) (.string ⟨#[]⟩):=au (HJ2.out.get 1 rfl);obtain⟨k0,f0,k1,f1,k2,f2,k3,f3⟩:Iu V c (.string b) (.string out) (.int .i64 0) (.bool false):=Cu (HJ2.out.get 2 rfl);have y1:¬X=N:=λe=>HJ2.out.apart (i:=0) (j:=1) rfl rfl (by decide) X rfl e
 have y2:¬N=X:=λe=>y1 e.symm
 have y3:¬X=c:=λe=>HJ2.out.apart (i:=0) (j:=2) rfl rfl (by decide) X rfl e
 have y4:¬c=X:=λe=>y3 e.symm
 have y5:¬c=N:=λe=>HJ2.out.apart (i:=2) (j:=1) rfl rfl (by decide) c rfl e
 have y6:¬N=c:=λe=>y5 e.symm
 have e1:IntKind.i64.wrap ((b.size:Int)-(q:Int))=(b.size:Int)-(q:Int):=by rw[IntKind.wrap_i64];omega
 have e2:min (0:Int) ((b.size:Int)-(q:Int))=0:=by omega
 have e3:IntKind.i64.wrap ((q:Int))=q:=by rw[IntKind.wrap_i64];omega
 have e4:IntKind.i64.wrap 0=0:=by decide
 have e5:(q:Int)<=b.size:=by omega
 go_wp2_with (fail)
 go_quiet (fail)
 obtain⟨Y,hY⟩:∃Y,V.drewN nq=Y:=⟨_,rfl⟩;have K1:=HJ2.out.drewN nq;rw[hY] at K1⊢;have HK:=hid K1;clear K1 hY HJ2 x0 x1 x2 x3 x4 x5 x6 x7 x8 x9 lJ r0 r1 r2 r3 r4 r5 r6 r7 r8 r9 nY t0 t1 t2 t3 t4 t5 t6 t7 t8 t9 t10 k0 k1 k2 k3 f0 f1 f2 f3;have x6:Y.cell? ⟨X,6,none⟩=some (.int .i64 0):=cA (HK.out.get 0 rfl) 6;obtain⟨k0,f0,k1,f1,k2,f2,k3,f3⟩:Iu Y c (.string b) (.string out) (.int .i64 0) (.bool false):=Cu (HK.out.get 2 rfl);go_upto_region 7 with fail
 go_cut [] from 42 to 59 (λwx=>wx=((Y.setCell ⟨c,0,none⟩ (.string (b.extract q b.size))).setCell ⟨c,2,none⟩ (.int .i64 0)).drew)
 case first=>
  go_region_with (fail)
  all_goals (go_wp2_with fail)
  all_goals (go_meet;rfl)
 case rest=>
  obtain rfl:=hcut;obtain⟨Z,hZ⟩:∃Z,((Y.setCell ⟨c,0,none⟩ (.string (b.extract q b.size))).setCell ⟨c,2,none⟩ (.int .i64 0)).drew=Z:=⟨_,rfl⟩;have j1:=HK.out.turn 2 rfl (ai (HK.out.get 2 rfl) 0 (.string (b.extract q b.size)));have j2:=(j1.turn 2 rfl (ai (j1.get 2 rfl) 2 (.int .i64 0))).drew;rw[hZ] at j2;rw[hZ];have HL:=hid j2;clear j1 j2 hZ HK x6 k0 k1 k2 k3 f0 f1 f2 f3;obtain⟨x0,x1,x2,x3,x4,x5,x6,x7,x8,x9,lJ⟩:nP Z X (.int .i64 k) (.slice none 0 0) (.bool false) (.bool false) (.string t) (.string ⟨#[]⟩) (.int .i64 0) (.bool false) (.string mt) (.slice none 0 0) (.string ⟨#[]⟩):=jC (HL.out.get 0 rfl);obtain⟨r0,t0,r1,t1,r2,t2,r3,t3,r4,t4,r5,t5,r6,t6,r7,t7,r8,t8,r9,t9,nY,t10⟩:gU Z N (.int .i64 0) (.slice none 0 0) (.bool false) (.bool false) (.string ⟨#[]⟩) (.string ⟨#[]⟩) (.int .i64 0) (.bool false) (.string ⟨#[]⟩) (.slice none 0 0) (.string ⟨#[]⟩):=au (HL.out.get 1 rfl);have hs:=aK N 33 [.int .i64 k,.slice none 0 0,.bool false,.bool false,.string t,.string ⟨#[]⟩,.int .i64 0,.bool false,.string mt,.slice none 0 0,.string ⟨#[]⟩] 0 aH _ (HL.out.get 1 rfl);have k1:=HL.out.turn 1 rfl hs;have h2:=k1.get 1 rfl;rw[show aR 0 [.int .i64 k,.slice none 0 0,.bool false,.bool false,.string t,.string ⟨#[]⟩,.int .i64 0,.bool false,.string mt,.slice none 0 0,.string ⟨#[]⟩] aH= #[.int .i64 k,.slice none 0 0,.bool false,.bool false,.string t,.string ⟨#[]⟩,.int .i64 0,.bool false,.string mt,.slice none 0 0,.string ⟨#[]⟩] by simp[aR,aH]] at h2;have h3:=(k1.sub (.cons _ (.cons _ (List.Sublist.refl _)))).one;simp only[aS] at h2 h3;have HE:=hid (And.intro h2 h3);clear hs k1 h2 h3 HL;go_wp2_with (fail)
  exact bX (N:=N) (vm:=.bool true) (v0:=.int .i64 k) (v1:=.slice none 0 0) (v2:=.bool false) (v3:=.bool false) (v4:=.string t) (v5:=.string ⟨#[]⟩) (v6:=.int .i64 0) (v7:=.bool false) (v8:=.string mt) (v9:=.slice none 0 0) (v10:=.string ⟨#[]⟩) rfl rfl rfl HE.out.1 ⟨rfl,HE.out.2⟩
theorem Bj(t:ByteArray)(w:World)(ht:t.size<=1000):Calls prog 205 #[Fj 2 t ⟨#[]⟩,.slice none 0 0] w λe w'=>e=.returned (.string (t ++ crlf))/\Below w.heap.size w w':=by
 unfold Fj crlf;have hh:t.size+(⟨#[13,10]⟩:ByteArray).size<=2000:=by show t.size+2<=2000;omega
 go_enter func205,ntmps205;go_wp2
 go_ret;exact⟨rfl,bA w _⟩
def Dc:ByteArray:=⟨#[77,78,13,10]⟩
theorem Ww{w:World}{g:Nat}(h:w.cell? ⟨g,0,none⟩=some (.string ⟨#[77,78]⟩)):Calls prog 252 #[.slice (some ⟨g,0,none⟩) 1 1] w λe w'=>e=.returned (.string Dc)/\Below w.heap.size w w':=by
 have HJ:=hid (W2.yo (w:=w) (a:=some ⟨g,0,none⟩) (n:=1) (cap:=1) (l:=[⟨#[77,78]⟩]) ⟨some ⟨g,0,none⟩,1,rfl,λ_=>⟨g,0,rfl,λi hi=>by
  have hi0:i=0:=by simp at hi;exact hi
  subst hi0;exact h⟩⟩ (by decide) (by decide))
 rw[show W2.eT [⟨#[77,78]⟩]=⟨#[77,78]⟩ from rfl] at HJ;go_enter func252,ntmps252;go_wp2_with (go_at_call 293;refine HJ.out.mono ?_;rintro e w1 ⟨rfl,hb⟩)
 go_ret;exact⟨rfl,hb⟩
def Tf:Value:=.agg #[.int .i64 0,.string ⟨#[]⟩,.int .u32 0,.string ⟨#[]⟩,.int .i64 0,.int .u64 0,.int .i64 0,.bool false,.bool false,.int .u64 0,.bool false,.bool false,.bool false]
theorem Fp(n:Int)(w:World):Calls prog 204 #[Fj 7 ⟨#[]⟩ ⟨#[109,110]⟩,Tf,.int .i64 n] w λe w'=>e=.returned (.string Dc)/\Below w.heap.size w w':=by
 unfold Fj Tf;have hbd:∀w:World,(Instr.build 358 #[(0,.agg #[.int .i64 7,.slice none 0 0,.bool false,.bool false,.string ⟨#[]⟩,.string ⟨#[]⟩,.int .i64 0,.bool false,.string ⟨#[109,110]⟩,.slice none 0 0,.string ⟨#[]⟩]),(1,.agg #[.int .i64 0,.string ⟨#[]⟩,.int .u32 0,.string ⟨#[]⟩,.int .i64 0,.int .u64 0,.int .i64 0,.bool false,.bool false,.int .u64 0,.bool false,.bool false,.bool false]),(2,.int .i64 n)]).run prog w=.ok (.agg #[.int .i64 7,.slice none 0 0,.bool false,.bool false,.string ⟨#[]⟩,.string ⟨#[]⟩,.int .i64 0,.bool false,.string ⟨#[109,110]⟩,.slice none 0 0,.string ⟨#[]⟩,.int .i64 0,.string ⟨#[]⟩,.int .u32 0,.string ⟨#[]⟩,.int .i64 0,.int .u64 0,.int .i64 0,.bool false,.bool false,.int .u64 0,.bool false,.bool false,.bool false,.int .i64 n]) w:=λw=>run_build w 358 _ _ (by kernel_rfl)
 have B0:=ae (aA w #[.int .i64 7,.slice none 0 0,.bool false,.bool false,.string ⟨#[]⟩,.string ⟨#[]⟩,.int .i64 0,.bool false,.string ⟨#[109,110]⟩,.slice none 0 0,.string ⟨#[]⟩] 33) (bA _ (.cells #[.int .i64 0,.string ⟨#[]⟩,.int .u32 0,.string ⟨#[]⟩,.int .i64 0,.int .u64 0,.int .i64 0,.bool false,.bool false,.int .u64 0,.bool false,.bool false,.bool false] 52));have B1:=aA (w.alloc (.cells #[.int .i64 7,.slice none 0 0,.bool false,.bool false,.string ⟨#[]⟩,.string ⟨#[]⟩,.int .i64 0,.bool false,.string ⟨#[109,110]⟩,.slice none 0 0,.string ⟨#[]⟩] 33)) #[.int .i64 0,.string ⟨#[]⟩,.int .u32 0,.string ⟨#[]⟩,.int .i64 0,.int .u64 0,.int .i64 0,.bool false,.bool false,.int .u64 0,.bool false,.bool false,.bool false] 52;have hb:=(bA w (.cells #[.int .i64 7,.slice none 0 0,.bool false,.bool false,.string ⟨#[]⟩,.string ⟨#[]⟩,.int .i64 0,.bool false,.string ⟨#[109,110]⟩,.slice none 0 0,.string ⟨#[]⟩] 33)).alloc (by simp) (.cells #[.int .i64 0,.string ⟨#[]⟩,.int .u32 0,.string ⟨#[]⟩,.int .i64 0,.int .u64 0,.int .i64 0,.bool false,.bool false,.int .u64 0,.bool false,.bool false,.bool false] 52);rw[World.size_alloc] at B1;obtain⟨N,hN⟩:∃N,w.heap.size=N:=⟨_,rfl⟩;obtain⟨W0,hW0⟩:∃W0,(w.alloc (.cells #[.int .i64 7,.slice none 0 0,.bool false,.bool false,.string ⟨#[]⟩,.string ⟨#[]⟩,.int .i64 0,.bool false,.string ⟨#[109,110]⟩,.slice none 0 0,.string ⟨#[]⟩] 33)).alloc (.cells #[.int .i64 0,.string ⟨#[]⟩,.int .u32 0,.string ⟨#[]⟩,.int .i64 0,.int .u64 0,.int .i64 0,.bool false,.bool false,.int .u64 0,.bool false,.bool false,.bool false] 52)=W0:=⟨_,rfl⟩;rw[hW0,hN] at B0 B1;rw[hW0] at hb;obtain⟨x0,x1,x2,x3,x4,x5,x6,x7,x8,x9,lJ⟩:nP W0 N (.int .i64 7) (.slice none 0 0) (.bool false) (.bool false) (.string ⟨#[]⟩) (.string ⟨#[]⟩) (.int .i64 0) (.bool false) (.string ⟨#[109,110]⟩) (.slice none 0 0) (.string ⟨#[]⟩):=jC (B0);obtain⟨y0,y1,y2,y3,y4,y5,y6,y7,y8,y9,Yd,y11,y12⟩:rP W0 (N+1) (.int .i64 0) (.string ⟨#[]⟩) (.int .u32 0) (.string ⟨#[]⟩) (.int .i64 0) (.int .u64 0) (.int .i64 0) (.bool false) (.bool false) (.int .u64 0) (.bool false) (.bool false) (.bool false):=kW (B1);have HB:=hid hb;have HB0:=hid B0;have HB1:=hid B1;have wL:=hid hW0;have Wm:=hid (show W0.heap.size=N+2 by rw[<-hW0,World.size_alloc,World.size_alloc,hN]);clear hW0 hb B0 B1;go_enter func204,ntmps204;go_upto_region 1 with (fail)
 try rw[hN]
 rw[wL.out];clear wL;have B2:=aA W0 #[.int .i64 0,.slice none 0 0,.bool false,.bool false,.string ⟨#[]⟩,.string ⟨#[]⟩,.int .i64 0,.bool false,.string ⟨#[]⟩,.slice none 0 0,.string ⟨#[]⟩,.int .i64 0,.string ⟨#[]⟩,.int .u32 0,.string ⟨#[]⟩,.int .i64 0,.int .u64 0,.int .i64 0,.bool false,.bool false,.int .u64 0,.bool false,.bool false,.bool false,.int .i64 0] 358;have QZ:W0.heap.size=N+2:=Wm.out;have E0:(W0.alloc (.cells #[.int .i64 0,.slice none 0 0,.bool false,.bool false,.string ⟨#[]⟩,.string ⟨#[]⟩,.int .i64 0,.bool false,.string ⟨#[]⟩,.slice none 0 0,.string ⟨#[]⟩,.int .i64 0,.string ⟨#[]⟩,.int .u32 0,.string ⟨#[]⟩,.int .i64 0,.int .u64 0,.int .i64 0,.bool false,.bool false,.int .u64 0,.bool false,.bool false,.bool false,.int .i64 0] 358)).setRow (N+2) #[.int .i64 7,.slice none 0 0,.bool false,.bool false,.string ⟨#[]⟩,.string ⟨#[]⟩,.int .i64 0,.bool false,.string ⟨#[109,110]⟩,.slice none 0 0,.string ⟨#[]⟩,.int .i64 0,.string ⟨#[]⟩,.int .u32 0,.string ⟨#[]⟩,.int .i64 0,.int .u64 0,.int .i64 0,.bool false,.bool false,.int .u64 0,.bool false,.bool false,.bool false,.int .i64 n]=W0.alloc (.cells #[.int .i64 7,.slice none 0 0,.bool false,.bool false,.string ⟨#[]⟩,.string ⟨#[]⟩,.int .i64 0,.bool false,.string ⟨#[109,110]⟩,.slice none 0 0,.string ⟨#[]⟩,.int .i64 0,.string ⟨#[]⟩,.int .u32 0,.string ⟨#[]⟩,.int .i64 0,.int .u64 0,.int .i64 0,.bool false,.bool false,.int .u64 0,.bool false,.bool false,.bool false,.int .i64 n] 358):=by rw[<-QZ];exact World.setRow_alloc_new W0 _ _ _
 have B3:=ae HB0.out (bA W0 (.cells #[.int .i64 7,.slice none 0 0,.bool false,.bool false,.string ⟨#[]⟩,.string ⟨#[]⟩,.int .i64 0,.bool false,.string ⟨#[109,110]⟩,.slice none 0 0,.string ⟨#[]⟩,.int .i64 0,.string ⟨#[]⟩,.int .u32 0,.string ⟨#[]⟩,.int .i64 0,.int .u64 0,.int .i64 0,.bool false,.bool false,.int .u64 0,.bool false,.bool false,.bool false,.int .i64 n] 358));have HB2:=hid (HB.out.trans ((bA W0 (.cells #[.int .i64 7,.slice none 0 0,.bool false,.bool false,.string ⟨#[]⟩,.string ⟨#[]⟩,.int .i64 0,.bool false,.string ⟨#[109,110]⟩,.slice none 0 0,.string ⟨#[]⟩,.int .i64 0,.string ⟨#[]⟩,.int .u32 0,.string ⟨#[]⟩,.int .i64 0,.int .u64 0,.int .i64 0,.bool false,.bool false,.int .u64 0,.bool false,.bool false,.bool false,.int .i64 n] 358)).mono HB.out.size));obtain⟨V0,a0⟩:∃V,W0.alloc (.cells #[.int .i64 0,.slice none 0 0,.bool false,.bool false,.string ⟨#[]⟩,.string ⟨#[]⟩,.int .i64 0,.bool false,.string ⟨#[]⟩,.slice none 0 0,.string ⟨#[]⟩,.int .i64 0,.string ⟨#[]⟩,.int .u32 0,.string ⟨#[]⟩,.int .i64 0,.int .u64 0,.int .i64 0,.bool false,.bool false,.int .u64 0,.bool false,.bool false,.bool false,.int .i64 0] 358)=V:=⟨_,rfl⟩;obtain⟨W,a1⟩:∃V,W0.alloc (.cells #[.int .i64 7,.slice none 0 0,.bool false,.bool false,.string ⟨#[]⟩,.string ⟨#[]⟩,.int .i64 0,.bool false,.string ⟨#[109,110]⟩,.slice none 0 0,.string ⟨#[]⟩,.int .i64 0,.string ⟨#[]⟩,.int .u32 0,.string ⟨#[]⟩,.int .i64 0,.int .u64 0,.int .i64 0,.bool false,.bool false,.int .u64 0,.bool false,.bool false,.bool false,.int .i64 n] 358)=V:=⟨_,rfl⟩;rw[a0,QZ] at B2;rw[a0,a1] at E0;rw[a1] at B3 HB2;have G0:W0.heap[N]?=some (.cells #[.int .i64 7,.slice none 0 0,.bool false,.bool false,.string ⟨#[]⟩,.string ⟨#[]⟩,.int .i64 0,.bool false,.string ⟨#[109,110]⟩,.slice none 0 0,.string ⟨#[]⟩] 33 (0,0)):=HB0.out;have G1:W0.heap[N+1]?=some (.cells #[.int .i64 0,.string ⟨#[]⟩,.int .u32 0,.string ⟨#[]⟩,.int .i64 0,.int .u64 0,.int .i64 0,.bool false,.bool false,.int .u64 0,.bool false,.bool false,.bool false] 52 (0,0)):=HB1.out;have G2:V0.heap[N+2]?=some (.cells #[.int .i64 0,.slice none 0 0,.bool false,.bool false,.string ⟨#[]⟩,.string ⟨#[]⟩,.int .i64 0,.bool false,.string ⟨#[]⟩,.slice none 0 0,.string ⟨#[]⟩,.int .i64 0,.string ⟨#[]⟩,.int .u32 0,.string ⟨#[]⟩,.int .i64 0,.int .u64 0,.int .i64 0,.bool false,.bool false,.int .u64 0,.bool false,.bool false,.bool false,.int .i64 0] 358 (0,0)):=B2;have E1:=hid E0;have k0:W.cell? ⟨N,0,none⟩=some (.int .i64 7):=cA B3 0;clear a1 B3 B2 E0 x0 x1 x2 x3 x4 x5 x6 x7 x8 x9 lJ y0 y1 y2 y3 y4 y5 y6 y7 y8 y9 Yd y11 y12
 go_upto_region 2 with (first
  |(refine wpList_load_row rfl 33 _ rfl N rfl 33 _ (0,0) _ G0 underlying33 rfl (by kernel_rfl) ?_)
  |(refine wpList_load_row rfl 52 _ rfl (N+1) rfl 52 _ (0,0) _ G1 underlying52 rfl (by kernel_rfl) ?_)
  |(refine wpList_store_row rfl 358 _ _ rfl (N+2) #[.int .i64 7,.slice none 0 0,.bool false,.bool false,.string ⟨#[]⟩,.string ⟨#[]⟩,.int .i64 0,.bool false,.string ⟨#[109,110]⟩,.slice none 0 0,.string ⟨#[]⟩,.int .i64 0,.string ⟨#[]⟩,.int .u32 0,.string ⟨#[]⟩,.int .i64 0,.int .u64 0,.int .i64 0,.bool false,.bool false,.int .u64 0,.bool false,.bool false,.bool false,.int .i64 n] rfl rfl 358 _ G2 (by kernel_rfl) rfl (by simp[Value.oneCell']) ?_;rw[E1.out]))
 clear hbd G0 G1 G2 a0;have HL:=hid (Ww (w:=W.alloc (.cells #[.string ⟨#[77,78]⟩] 9)) (g:=W.heap.size) (cA (aA W _ _) 0));go_wp2_with (go_at_call 252;refine HL.out.mono ?_;rintro e w1 ⟨rfl,hb1⟩)
 go_ret;exact⟨rfl,HB2.out.trans ((((bA W _).trans (hb1.mono (by simp))).mono HB2.out.size))⟩
def Tg(k:Int)(t mt:ByteArray)(sq:Int):Array Value:=#[.int .i64 k,.slice none 0 0,.bool false,.bool false,.string t,.string ⟨#[]⟩,.int .i64 0,.bool false,.string mt,.slice none 0 0,.string ⟨#[]⟩,.int .i64 0,.int .i64 sq,.int .i64 0,.slice none 0 0,.int .i64 0,.slice none 0 0]
def RpP(s:ByteArray)(w:World)(e:Ending)(w':World):Prop:=e=.returned (.string s)/\Below w.heap.size w w'
theorem Bl{M sb:Nat}{t:ByteArray}{sq:Int}{w:World}(h:(aG M (Tg 2 t ⟨#[]⟩ sq) 143).R w)(ht:t.size<=1000):Calls prog 144 #[.pointer (some ⟨sb,0,none⟩),.pointer (some ⟨M,0,none⟩)] w (RpP (t ++ crlf) w):=by
 have HR:=hid (λw'=>Bj t w' ht);have HF:Hid (∀w',Below w.heap.size w w'->w'.cell? ⟨M,0,none⟩=some (.int .i64 2)/\w'.cell? ⟨M,1,none⟩=some (.slice none 0 0)/\w'.cell? ⟨M,2,none⟩=some (.bool false)/\w'.cell? ⟨M,3,none⟩=some (.bool false)/\w'.cell? ⟨M,4,none⟩=some (.string t)/\w'.cell? ⟨M,5,none⟩=some (.string ⟨#[]⟩)/\w'.cell? ⟨M,6,none⟩=some (.int .i64 0)/\w'.cell? ⟨M,7,none⟩=some (.bool false)/\w'.cell? ⟨M,8,none⟩=some (.string ⟨#[]⟩)/\w'.cell? ⟨M,9,none⟩=some (.slice none 0 0)/\w'.cell? ⟨M,10,none⟩=some (.string ⟨#[]⟩)/\w'.cell? ⟨M,14,none⟩=some (.slice none 0 0)):=hid (λw' hb=>by
  have B:=ae h hb;exact⟨cA B 0,cA B 1,cA B 2,cA B 3,cA B 4,cA B 5,cA B 6,cA B 7,cA B 8,cA B 9,cA B 10,cA B 14⟩)
 have S0:=HF.out w (Below.refl _ _);obtain⟨f0,f1,f2,f3,f4,f5,f6,f7,f8,f9,f10,f14⟩:=S0;have S0:=HF.out w (Below.refl _ _);unfold Fj at HR;clear h;go_enter func144,ntmps144;go_wp2_with (fail)
 go_region_held3 (λw'=>w'.cell? ⟨M,0,none⟩=some (.int .i64 2)/\w'.cell? ⟨M,1,none⟩=some (.slice none 0 0)/\w'.cell? ⟨M,2,none⟩=some (.bool false)/\w'.cell? ⟨M,3,none⟩=some (.bool false)/\w'.cell? ⟨M,4,none⟩=some (.string t)/\w'.cell? ⟨M,5,none⟩=some (.string ⟨#[]⟩)/\w'.cell? ⟨M,6,none⟩=some (.int .i64 0)/\w'.cell? ⟨M,7,none⟩=some (.bool false)/\w'.cell? ⟨M,8,none⟩=some (.string ⟨#[]⟩)/\w'.cell? ⟨M,9,none⟩=some (.slice none 0 0)/\w'.cell? ⟨M,10,none⟩=some (.string ⟨#[]⟩)/\w'.cell? ⟨M,14,none⟩=some (.slice none 0 0)) (first|exact S0|exact HF.out _ iF.out|exact HF.out _ (Below.refl _ _).drew) (first
  |(go_at_call 205;refine(HR.out _).mono ?_;rintro e w6 ⟨rfl,hb6⟩;have hbb:Below w.heap.size w w6:=Below.trans (by first|exact(Below.refl _ _).drew|exact Below.refl _ _) (hb6.mono (Nat.le_refl _));have iF:=hid hbb;clear hb6 hbb))
 all_goals (go_wp2_with fail)
 all_goals go_ret
 all_goals exact⟨rfl,iF.out⟩
theorem Fq{M sb:Nat}{sq:Int}{w:World}(h:(aG M (Tg 7 ⟨#[]⟩ ⟨#[109,110]⟩ sq) 143).R w)(hs:w.cell? ⟨sb,3,none⟩=some (.int .i64 1)):Calls prog 144 #[.pointer (some ⟨sb,0,none⟩),.pointer (some ⟨M,0,none⟩)] w (RpP Dc w):=by
 have HR:=hid (λw'=>Fp 1 w');have hb0:=bA w (.cells #[.int .i64 0,.string ⟨#[]⟩,.int .u32 0,.string ⟨#[]⟩,.int .i64 0,.int .u64 0,.int .i64 0,.bool false,.bool false,.int .u64 0,.bool false,.bool false,.bool false] 52);have B0:=aA w #[.int .i64 0,.string ⟨#[]⟩,.int .u32 0,.string ⟨#[]⟩,.int .i64 0,.int .u64 0,.int .i64 0,.bool false,.bool false,.int .u64 0,.bool false,.bool false,.bool false] 52;have O1:w.cell? ⟨M,8,none⟩=some (.string ⟨#[109,110]⟩):=cA h 8;obtain⟨N,hN⟩:∃N,w.heap.size=N:=⟨_,rfl⟩;obtain⟨W,hW⟩:∃W,w.alloc (.cells #[.int .i64 0,.string ⟨#[]⟩,.int .u32 0,.string ⟨#[]⟩,.int .i64 0,.int .u64 0,.int .i64 0,.bool false,.bool false,.int .u64 0,.bool false,.bool false,.bool false] 52)=W:=⟨_,rfl⟩;rw[hW] at hb0 B0;rw[hN] at B0;have hM:=ae h hb0;have hs1:=(hb0.cell (p:=⟨sb,3,none⟩) (aL hs)).trans hs;have HF:Hid (∀w',Below W.heap.size W w'->w'.cell? ⟨M,0,none⟩=some (.int .i64 7)/\w'.cell? ⟨M,1,none⟩=some (.slice none 0 0)/\w'.cell? ⟨M,2,none⟩=some (.bool false)/\w'.cell? ⟨M,3,none⟩=some (.bool false)/\w'.cell? ⟨M,4,none⟩=some (.string ⟨#[]⟩)/\w'.cell? ⟨M,5,none⟩=some (.string ⟨#[]⟩)/\w'.cell? ⟨M,6,none⟩=some (.int .i64 0)/\w'.cell? ⟨M,7,none⟩=some (.bool false)/\w'.cell? ⟨M,8,none⟩=some (.string ⟨#[109,110]⟩)/\w'.cell? ⟨M,9,none⟩=some (.slice none 0 0)/\w'.cell? ⟨M,10,none⟩=some (.string ⟨#[]⟩)/\w'.cell? ⟨M,14,none⟩=some (.slice none 0 0)/\w'.cell? ⟨sb,3,none⟩=some (.int .i64 1)/\w'.cell? ⟨N,0,none⟩=some (.int .i64 0)/\w'.cell? ⟨N,1,none⟩=some (.string ⟨#[]⟩)/\w'.cell? ⟨N,2,none⟩=some (.int .u32 0)/\w'.cell? ⟨N,3,none⟩=some (.string ⟨#[]⟩)/\w'.cell? ⟨N,4,none⟩=some (.int .i64 0)/\w'.cell? ⟨N,5,none⟩=some (.int .u64 0)/\w'.cell? ⟨N,6,none⟩=some (.int .i64 0)/\w'.cell? ⟨N,7,none⟩=some (.bool false)/\w'.cell? ⟨N,8,none⟩=some (.bool false)/\w'.cell? ⟨N,9,none⟩=some (.int .u64 0)/\w'.cell? ⟨N,10,none⟩=some (.bool false)/\w'.cell? ⟨N,11,none⟩=some (.bool false)/\w'.cell? ⟨N,12,none⟩=some (.bool false)):=hid (λw' hb=>by
  have B:=ae hM hb;have A:=ae B0 hb;exact⟨cA B 0,cA B 1,cA B 2,cA B 3,cA B 4,cA B 5,cA B 6,cA B 7,cA B 8,cA B 9,cA B 10,cA B 14,(hb.cell (p:=⟨sb,3,none⟩) (aL hs1)).trans hs1,cA A 0,cA A 1,cA A 2,cA A 3,cA A 4,cA A 5,cA A 6,cA A 7,cA A 8,cA A 9,cA A 10,cA A 11,cA A 12⟩)
 have S0:=HF.out W (Below.refl _ _);obtain⟨f0,f1,f2,f3,f4,f5,f6,f7,f8,f9,f10,f14,s3,g0,g1,g2,g3,g4,g5,g6,g7,g8,g9,g10,g11,g12⟩:=S0;have S0:=HF.out W (Below.refl _ _);have HB:=hid hb0;unfold Fj Tf at HR;clear h hs hs1 hM B0 hb0;go_enter func144,ntmps144;go_upto_region 3 with (fail)
 try rw[hN]
 try rw[hW]
 clear hW O1;go_wp2_with (fail)
 go_region_held3 (λw'=>w'.cell? ⟨M,0,none⟩=some (.int .i64 7)/\w'.cell? ⟨M,1,none⟩=some (.slice none 0 0)/\w'.cell? ⟨M,2,none⟩=some (.bool false)/\w'.cell? ⟨M,3,none⟩=some (.bool false)/\w'.cell? ⟨M,4,none⟩=some (.string ⟨#[]⟩)/\w'.cell? ⟨M,5,none⟩=some (.string ⟨#[]⟩)/\w'.cell? ⟨M,6,none⟩=some (.int .i64 0)/\w'.cell? ⟨M,7,none⟩=some (.bool false)/\w'.cell? ⟨M,8,none⟩=some (.string ⟨#[109,110]⟩)/\w'.cell? ⟨M,9,none⟩=some (.slice none 0 0)/\w'.cell? ⟨M,10,none⟩=some (.string ⟨#[]⟩)/\w'.cell? ⟨M,14,none⟩=some (.slice none 0 0)/\w'.cell? ⟨sb,3,none⟩=some (.int .i64 1)/\w'.cell? ⟨N,0,none⟩=some (.int .i64 0)/\w'.cell? ⟨N,1,none⟩=some (.string ⟨#[]⟩)/\w'.cell? ⟨N,2,none⟩=some (.int .u32 0)/\w'.cell? ⟨N,3,none⟩=some (.string ⟨#[]⟩)/\w'.cell? ⟨N,4,none⟩=some (.int .i64 0)/\w'.cell? ⟨N,5,none⟩=some (.int .u64 0)/\w'.cell? ⟨N,6,none⟩=some (.int .i64 0)/\w'.cell? ⟨N,7,none⟩=some (.bool false)/\w'.cell? ⟨N,8,none⟩=some (.bool false)/\w'.cell? ⟨N,9,none⟩=some (.int .u64 0)/\w'.cell? ⟨N,10,none⟩=some (.bool false)/\w'.cell? ⟨N,11,none⟩=some (.bool false)/\w'.cell? ⟨N,12,none⟩=some (.bool false)) (first|exact S0|exact HF.out _ iF.out|exact HF.out _ (Below.refl _ _).drew) (first
  |(go_at_call 204;refine(HR.out _).mono ?_;rintro e w6 ⟨rfl,hb6⟩;have hbb:Below W.heap.size W w6:=Below.trans (by first|exact(Below.refl _ _).drew|exact Below.refl _ _) (hb6.mono (Nat.le_refl _));have iF:=hid hbb;clear hb6 hbb))
 all_goals (go_wp2_with fail)
 all_goals go_ret
 all_goals exact⟨rfl,HB.out.trans (iF.out.mono HB.out.size)⟩
end Go.Proofs.YtboehbfagnocpaaGreatDoor
