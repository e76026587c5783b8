import Derived.Test.YtboehbfagnocpaaGreatDoorKaf
import Derived.Test.YtboehbfagnocpaaGreatDoorKal
set_option linter.unusedVariables false
set_option linter.unusedSimpArgs false
set_option maxRecDepth 100000
set_option maxHeartbeats 40000000
open Go.Proofs.Tryz
open Go.Lib (hid)
namespace Go.Proofs.YtboehbfagnocpaaGreatDoor
open Go.RowKit Go.PlainAid Go.Shelf
def Fs(t:ByteArray):PanicEntry:={v:=.iface 417 (.string t),recovered:=false}
def jE(t:ByteArray):Ending:=.panicked [Fs t]
theorem dF(t:ByteArray)(w:World):Calls prog 344 #[.bool false,.string t] w λe w'=>e=jE t/\w=w':=by
 go_enter func344,ntmps344;go_wp2
 exact⟨rfl,rfl,rfl⟩
theorem O3(t:ByteArray)(w:World):(Instr.typeAssert (Value.iface 417 (.string t)) 20 417 true).run prog w=.ok (.tuple #[.string t,.bool true]) w:=by kernel_rfl
theorem Fu{rb mb:Nat}{t:ByteArray}{w:World}(hb:(aG rb aH 33).R w)(hm:(aG mb #[.bool false] 4).R w)(hne:¬rb=mb):
 CallsD prog 317 #[.pointer (some ⟨rb,0,none⟩),.pointer (some ⟨mb,0,none⟩)] (.panicking [Fs t]) w λe u' w'=>e=.returned (.tuple #[])/\u'=.panicking [{Fs t with recovered:=true}]/\
  ∃w1,Below w.heap.size w w1/\w'=(aS rb 0 (jI t 0) w1).setCell ⟨mb,0,none⟩ (.bool false):=by
 have hta:∀w,(Instr.typeAssert (Value.iface 417 (.string t)) 20 417 true).run prog w=.ok (.tuple #[.string t,.bool true]) w:=O3 t;have HB:=hid (λw'=>NZ t w');unfold cO at HB;have hne2:¬mb=rb:=λe=>hne e.symm
 have H1:=hid hb;have H2:=hid hm;clear hb hm;refine callsD_of_wpS func317 rfl λc₀ cs hu=>?_
 apply wpS_seq;apply wpS_region;simp[wpOpsS,go_sem,recoverD,hu,Fs,ntmps317,Exit.thenS];refine wpS_of_wp ?_;rw[show (#[.pointer (some ⟨rb,0,none⟩),.pointer (some ⟨mb,0,none⟩)] ++ (Array.replicate 11 undef).setIfInBounds 3 (Value.iface 417 (.string t)):Array Value)= #[.pointer (some ⟨rb,0,none⟩),.pointer (some ⟨mb,0,none⟩),undef,undef,undef,.iface 417 (.string t),undef,undef,undef,undef,undef,undef,undef] from rfl];go_wp2_with (go_at_call 291;refine(HB.out _).mono ?_;rintro e w1 ⟨rfl,hb1⟩;have B1:=ae H1.out hb1;obtain⟨n0,p0,n1,p1,n2,p2,n3,p3,n4,p4,n5,p5,n6,p6,n7,p7,n8,p8,n9,p9,n10,bE⟩:=au B1;have B2:=ae H2.out hb1;have m1:w1.cell? ⟨mb,0,none⟩=some (.bool false):=cA B2 0;have q1:=cZ B2 0;have HW1:=hid hb1;clear B1 B2 hb1)
 exact⟨rfl,_,rfl,.tuple #[],by simp[results,results317],rfl,rfl,w1,HW1.out,rfl⟩
abbrev O4(lb:Nat)(nm:ByteArray)(a:Option Addr)(n cap:Nat)(bh:ByteArray)(u:Int)(q:Bool):aT:=aG lb #[.string nm,.slice a n cap,.string bh,.int .i64 u,.bool q] 395
def bB(l:List ByteArray):List ByteArray:=if 1<=l.length/\GB.wd l (l.length-1)=GB.fu then l.take (l.length-1) else l
theorem j_(x:ByteArray)(l:List ByteArray):GB.off (x :: l)=x :: bB l:=by
 unfold GB.off bB;by_cases h:1<=l.length
 ·have e:GB.wd (x :: l) ((x :: l).length-1)=GB.wd l (l.length-1):=by
   unfold GB.wd;rw[List.length_cons,show l.length+1-1=(l.length-1)+1 by omega,List.getElem?_cons_succ]
  rw[e];by_cases h2:GB.wd l (l.length-1)=GB.fu
  ·rw[if_pos ⟨by rw[List.length_cons];omega,h2⟩,if_pos ⟨h,h2⟩,List.length_cons,show l.length+1-1=(l.length-1)+1 by omega,List.take_succ_cons]
  ·rw[if_neg (λx=>h2 x.2),if_neg (λx=>h2 x.2)]
 ·rw[if_neg (λx=>h (by have:=x.1;rw[List.length_cons] at this;omega)),if_neg (λx=>h x.1)]
theorem ze(l:List ByteArray):(bB l).length<=l.length:=by
 unfold bB;split
 ·rw[List.length_take];omega
 ·exact Nat.le_refl _
theorem De{l:List ByteArray}{i:Nat}(h:i<(bB l).length):GB.wd (bB l) i=GB.wd l i:=by
 unfold bB at h⊢;split
 ·rename_i h1;rw[if_pos h1] at h;exact Cw (by rw[List.length_take] at h;omega)
 ·rfl
structure pY(w:World)(lb b o n cap:Nat)(nm bh:ByteArray)(a:Option Addr)(q:Bool)(l:List ByteArray):Prop where
 ln:(O4 lb nm a n cap bh 0 q).R w
 ws:1<=n->a=some ⟨b,o,none⟩/\Ws w b o n l/\b≠lb
 len:l.length=n
 cap:n<=cap
 hn:n<=1000000
 sz:∀i,(GB.wd l i).size<=1000000
 er:Er w
 e5:5<lb
theorem pY.below{w w':World}{lb b o n cap:Nat}{nm bh:ByteArray}{a:Option Addr}{q:Bool}{l:List ByteArray}(h:pY w lb b o n cap nm bh a q l)(hb:Below w.heap.size w w'):pY w' lb b o n cap nm bh a q l:=
 ⟨ae h.ln hb,λh1=>⟨(h.ws h1).1,(h.ws h1).2.1.below hb,(h.ws h1).2.2⟩,h.len,h.cap,h.hn,h.sz,h.er.below hb,h.e5⟩
theorem Er.bL{T:Nat->Prop}{w w':World}(h:Er w)(ht:aP T w w')(hT:¬T 5):Er w':=by
 obtain⟨ev,h1,h2⟩:=h;refine⟨ev,?_,h2⟩;rw[<-h1];have:=ht.block 5 (aL h1) hT;unfold World.cell?;rw[this]
def jF(lb:Nat)(u:Int)(w w':World):Prop:=aP (λb=>b=lb) w w'/\w'.cell? ⟨lb,3,none⟩=some (.int .i64 u)
theorem jF.of{lb:Nat}{nm nm':ByteArray}{a a':Option Addr}{n n' cap cap':Nat}{bh bh':ByteArray}{u u':Int}{q q':Bool}{w w':World}(h:ag (O4 lb nm a n cap bh u q) (O4 lb nm' a' n' cap' bh' u' q') w w'):jF lb u' w w':=⟨h.bL,cA h.here 3⟩
theorem pY.turn{w w':World}{lb b o n m cap:Nat}{nm bh:ByteArray}{a:Option Addr}{q q':Bool}{l:List ByteArray}(h:pY w lb b o n cap nm bh a q l)(t:ag (O4 lb nm a n cap bh 0 q) (O4 lb nm a m cap bh 0 q') w w')(hm:(bB l).length=m):pY w' lb b o m cap nm bh a q' (bB l):=by
 have hl:=ze l;rw[hm,h.len] at hl;refine⟨t.here,λh1=>?_,hm,Nat.le_trans hl h.cap,Nat.le_trans hl h.hn,λi=>?_,h.er.bL t.bL (λe=>?_),h.e5⟩
 ·obtain⟨h2,h3,h4⟩:=h.ws (Nat.le_trans h1 hl);have h5:=h3.bL t.bL (λe=>h4 e);exact⟨h2,⟨h5.1,hm,λi hi=>by rw[De (by rw[hm];exact hi)];exact h5.2.2 i (Nat.lt_of_lt_of_le hi hl)⟩,h4⟩
 ·rcases Nat.lt_or_ge i (bB l).length with h1|h1
  ·rw[De h1];exact h.sz i
  ·unfold GB.wd;rw[List.getElem?_eq_none h1];exact Nat.zero_le _
 ·have e':(5:Nat)=lb:=e;have:=h.e5;omega
theorem dA{w:World}{lb n cap:Nat}{a:Option Addr}(h:w.cell? ⟨lb,1,none⟩=some (.slice a n cap))(lo hi:Nat)(h1:n<lo\/hi<n):
 Calls prog 342 #[.pointer (some ⟨lb,0,none⟩),.int .i64 lo,.int .i64 hi] w λe w'=>e=jE GB.bg/\w=w':=by
 by_cases h2:(lo:Int)<=n
 ·have h4:¬(n:Int)<=hi:=by omega
  go_enter func342,ntmps342
  go_wp2_with (first
   |(go_at_call 344;refine(dF _ _).mono ?_;rintro e w1 ⟨rfl,rfl⟩;unfold jE))
  exact⟨rfl,rfl,rfl⟩
 ·go_enter func342,ntmps342
  go_wp2_with (first
   |(go_at_call 344;refine(dF _ _).mono ?_;rintro e w1 ⟨rfl,rfl⟩;unfold jE))
  exact⟨rfl,rfl,rfl⟩
theorem Bn{w:World}{lb b o n cap i:Nat}{s:ByteArray}(h:w.cell? ⟨lb,1,none⟩=some (.slice (some ⟨b,o,none⟩) n cap))(hi:i<n)(hx:w.cell? ⟨b,o+i,none⟩=some (.string s))(hs:s.size<=1000000)(hk:W2.aO s=true):
 Calls prog 351 #[.pointer (some ⟨lb,0,none⟩),.int .i64 i] w λe w'=>e=.returned (.string s)/\w=w':=by
 have h3:(i:Int)<n:=by omega
 have HK:=hid (λw'=>W2.dI s w' (by unfold maxLen;omega));rw[hk] at HK;clear hk;go_enter func351,ntmps351
 go_wp2_with (first
  |(go_at_call 164;refine(HK.out _).mono ?_;rintro e w1 ⟨rfl,rfl⟩)
  |(go_at_call 344;refine(fO _ _).mono ?_;rintro e w1 ⟨rfl,rfl⟩))
 go_ret;exact⟨rfl,rfl⟩
theorem vZ{w:World}{lb b o n cap i:Nat}{s:ByteArray}(h:w.cell? ⟨lb,1,none⟩=some (.slice (some ⟨b,o,none⟩) n cap))(hi:i<n)(hx:w.cell? ⟨b,o+i,none⟩=some (.string s))(hs:s.size<=1000000)(hk:W2.aO s=false):
 Calls prog 351 #[.pointer (some ⟨lb,0,none⟩),.int .i64 i] w λe w'=>e=jE GB.bD/\w=w':=by
 have h3:(i:Int)<n:=by omega
 have HK:=hid (λw'=>W2.dI s w' (by unfold maxLen;omega));rw[hk] at HK;clear hk;go_enter func351,ntmps351
 go_wp2_with (first
  |(go_at_call 164;refine(HK.out _).mono ?_;rintro e w1 ⟨rfl,rfl⟩)
  |(go_at_call 344;refine(dF _ _).mono ?_;rintro e w1 ⟨rfl,rfl⟩;unfold jE))
 exact⟨rfl,rfl,rfl⟩
theorem O5{w:World}{lb b o n cap i:Nat}{s:ByteArray}(h:w.cell? ⟨lb,1,none⟩=some (.slice (some ⟨b,o,none⟩) n cap))(hi:i<n)(hx:w.cell? ⟨b,o+i,none⟩=some (.string s))(hs:s.size<=1000000)(hE:Er w)(hk:GB.sec s=true):
 Calls prog 343 #[.pointer (some ⟨lb,0,none⟩),.int .i64 i] w λe w'=> ∃v,e=.returned (.int .i64 v)/\Below w.heap.size w w':=by
 have h3:(i:Int)<n:=by omega
 have HX:=hid (mP s w hs hE);unfold pQ at HX;rw[show sc s.data.toList=true from hk] at HX;clear hk hE;go_enter func343,ntmps343
 go_wp2_with (first
  |(go_at_call 348;refine HX.out.mono ?_;rintro e w1 ⟨v,rfl,hb⟩)
  |(go_at_call 344;refine(fO _ _).mono ?_;rintro e w1 ⟨rfl,rfl⟩))
 go_ret;exact⟨v,rfl,hb⟩
theorem su{w:World}{lb b o n cap i:Nat}{s:ByteArray}(h:w.cell? ⟨lb,1,none⟩=some (.slice (some ⟨b,o,none⟩) n cap))(hi:i<n)(hx:w.cell? ⟨b,o+i,none⟩=some (.string s))(hs:s.size<=1000000)(hE:Er w)(hk:GB.sec s=false):
 Calls prog 343 #[.pointer (some ⟨lb,0,none⟩),.int .i64 i] w λe w'=>e=jE GB.mQ/\Below w.heap.size w w':=by
 have h3:(i:Int)<n:=by omega
 have HX:=hid (mP s w hs hE);unfold pQ at HX;rw[show sc s.data.toList=false from hk] at HX;clear hk hE;go_enter func343,ntmps343
 go_wp2_with (first
  |(go_at_call 348;refine HX.out.mono ?_;rintro e w1 ⟨v,rfl,hb⟩)
  |(go_at_call 344;refine(dF _ _).mono ?_;rintro e w1 ⟨rfl,rfl⟩;unfold jE))
 exact⟨rfl,rfl,hb⟩
def Qw(lb b o n cap:Nat)(nm bh:ByteArray)(a:Option Addr)(q:Bool)(l:List ByteArray)(m:Nat)(w:World)(e:Ending)(w':World):Prop:=
 e=.returned (.tuple #[])/\∃q',pY w' lb b o m cap nm bh a q' (bB l)/\ag (O4 lb nm a n cap bh 0 q) (O4 lb nm a m cap bh 0 q') w w'
theorem Bo{w:World}{lb b o n cap:Nat}{nm bh:ByteArray}{a:Option Addr}{q:Bool}{l:List ByteArray}(h:pY w lb b o n cap nm bh a q l):
 Calls prog 347 #[.pointer (some ⟨lb,0,none⟩)] w (Qw lb b o n cap nm bh a q l (bB l).length w):=by
 obtain⟨m,hm⟩:∃m,(bB l).length=m:=⟨_,rfl⟩;rw[hm];have HH:=hid h;have HM:=hid hm;have a1:w.cell? ⟨lb,1,none⟩=some (.slice a n cap):=cA h.ln 1;have f1:=cZ h.ln 1;have f4:=cZ h.ln 4;have a4:w.cell? ⟨lb,4,none⟩=some (.bool q):=cA h.ln 4;have hn:=h.hn;have hc:=h.cap;have hl:=h.len;rcases Nat.eq_zero_or_pos n with rfl|h1
 ·have hm0:m=0:=by have:=ze l;omega
  subst hm0;have h2:¬(0:Int)<((0:Nat):Int):=by omega
  clear h hm hl;go_enter func347,ntmps347;go_wp2
  go_end0;exact⟨rfl,q,HH.out.turn (ag.rfl' HH.out.ln) HM.out,ag.rfl' HH.out.ln⟩
 ·obtain⟨rfl,hw,hne⟩:=h.ws h1;obtain⟨k,rfl⟩:∃k,n=k+1:=⟨n-1,by omega⟩;have x1:=hw.2.2 k (by omega);have h3:(0:Int)<(k:Int)+1:=by omega
  have h4:IntKind.i64.wrap ((k:Int)+1-1)=k:=by rw[IntKind.wrap_i64];omega
  have h5:IntKind.i64.wrap (k:Int)=k:=by rw[IntKind.wrap_i64];omega
  have h6:(k:Int)<=cap:=by omega
  by_cases h2:GB.wd l k=GB.fu
  ·have hm0:m=k:=by rw[<-hm];unfold bB;rw[if_pos ⟨by omega,by rw[hl];exact h2⟩,List.length_take];omega
   subst hm0;rw[h2] at x1;unfold GB.fu at x1;have HT:=hid ((((ag.rfl' h.ln).set 1 (.slice (some ⟨b,o,none⟩) m cap)).set 4 (.bool true)));clear h hm hl h2 hw;go_enter func347,ntmps347;go_wp2
   go_end0;exact⟨rfl,true,HH.out.turn HT.out HM.out,HT.out⟩
  ·have hm0:m=k+1:=by rw[<-hm];unfold bB;rw[if_neg (λe=>h2 (by have:=e.2;rw[hl] at this;exact this)),hl]
   subst hm0;have hb:((GB.wd l k).toList == [110,111,114,101,112,108,121])=false:=by
    rw[show [110,111,114,101,112,108,121]=GB.fu.toList by rw[ByteArray.toList_eq];rfl,a_,decide_eq_false h2]
   clear h hm hl h2 hw;go_enter func347,ntmps347;go_wp2
   go_end0;exact⟨rfl,q,HH.out.turn (ag.rfl' HH.out.ln) HM.out,ag.rfl' HH.out.ln⟩
theorem iE(x:ByteArray)(l:List ByteArray):GB.wd (x :: l) 0=x:=rfl
theorem zg(x:ByteArray)(l:List ByteArray):GB.wd (x :: l) 1=GB.wd l 0:=rfl
theorem zh(x:ByteArray)(l:List ByteArray):GB.wd (x :: l) 2=GB.wd l 1:=rfl
theorem nb{b:Bool}(h:¬b=false):b=true:=by cases b<;>simp_all
theorem Df{nm t:ByteArray}{l:List ByteArray}{u:Nat}(h1:nm≠GB.bN)(h2:nm≠GB.fZ)(h3:nm≠GB.eD)(h:GB.short (nm :: l)=.bad t u):
 ((bB l).length≠2/\t=GB.bg/\u=0)\/((bB l).length=2/\W2.aO (GB.wd (bB l) 0)=false/\t=GB.bD/\u=0)\/
   ((bB l).length=2/\W2.aO (GB.wd (bB l) 0)=true/\((nm=GB.fw/\GB.sec (GB.wd (bB l) 1)=false/\t=GB.mQ/\u=0)\/(nm≠GB.fw/\GB.num (GB.wd (bB l) 1)=none/\t=GB.NU/\u=0))):=by
 unfold GB.short at h;simp only[j_,iE,zg,zh,List.length_cons] at h;rw[if_neg h1,if_neg h2,if_neg h3] at h;split at h
 ·cases h;exact .inl ⟨by omega,rfl,rfl⟩
 ·split at h
  ·rename_i hk;cases h;exact .inr (.inl ⟨by omega,hk,rfl,rfl⟩)
  ·rename_i hk;refine .inr (.inr ⟨by omega,nb hk,?_⟩);split at h
   ·rename_i hn;split at h
    ·rename_i hs;cases h;exact .inl ⟨hn,hs,rfl,rfl⟩
    ·cases h
   ·rename_i hn;split at h
    ·cases h
    ·rename_i hs;cases h;refine .inr ⟨hn,?_,rfl,rfl⟩;cases hv:GB.num (GB.wd (bB l) 1) with
     |none=>rfl
     |some v=>rw[hv] at hs;exact absurd rfl hs
theorem Fv{t:ByteArray}{l:List ByteArray}{u:Nat}(h:GB.short (GB.eD :: l)=.bad t u):
 (((bB l).length<1\/2<(bB l).length)/\t=GB.bg/\u=0)\/((1<=(bB l).length/\(bB l).length<=2)/\W2.aO (GB.wd (bB l) 0)=false/\t=GB.bD/\u=0)\/
   ((bB l).length=2/\W2.aO (GB.wd (bB l) 0)=true/\GB.wd (bB l) 1≠GB.zero/\t=GB.bD/\u=0):=by
 unfold GB.short at h;simp only[j_,iE,zg,zh,List.length_cons] at h;rw[if_neg (by decide),if_neg (by decide),if_pos trivial] at h;split at h
 ·split at h
  ·rename_i hk;cases h;exact .inr (.inl ⟨by omega,hk,rfl,rfl⟩)
  ·rename_i hk;split at h
   ·rename_i hz;cases h;exact .inr (.inr ⟨by omega,nb hk,hz.2,rfl,rfl⟩)
   ·cases h
 ·cases h;exact .inl ⟨by omega,rfl,rfl⟩
theorem zi{t:ByteArray}{l:List ByteArray}{u:Nat}(h:GB.short (GB.fZ :: l)=.bad t u):
 (1<(bB l).length/\t=GB.bg/\u=0)\/((bB l).length=1/\GB.sec (GB.wd (bB l) 0)=false/\t=GB.mQ/\u=0):=by
 unfold GB.short at h;simp only[j_,iE,zg,zh,List.length_cons] at h;rw[if_neg (by decide),if_pos trivial] at h;split at h
 ·split at h
  ·rename_i hk;cases h;exact .inr ⟨by omega,hk.2,rfl,rfl⟩
  ·cases h
 ·cases h;exact .inl ⟨by omega,rfl,rfl⟩
theorem Bq{t:ByteArray}{l:List ByteArray}{u:Nat}(h:GB.short (GB.bN :: l)=.bad t u):(bB l).length≠1/\t=GB.bg/\u=0:=by
 unfold GB.short at h;simp only[j_,iE,zg,zh,List.length_cons] at h;rw[if_pos trivial] at h;split at h
 ·cases h
 ·cases h;exact⟨by omega,rfl,rfl⟩
def zL(lb:Nat)(t:ByteArray)(w:World)(e:Ending)(w':World):Prop:=e=jE t/\jF lb 0 w w'
theorem pE{nm:ByteArray}{w:World}{lb b o n cap:Nat}{bh:ByteArray}{a:Option Addr}{q:Bool}{l:List ByteArray}{t:ByteArray}{u:Nat}(h:pY w lb b o n cap nm bh a q l)(hnm:nm=⟨#[105,110,99,114]⟩\/nm=⟨#[100,101,99,114]⟩)(hbad:GB.short (nm :: l)=.bad t u):
 Calls prog 320 #[.pointer (some ⟨lb,0,none⟩)] w (zL lb t w):=by
 rcases hnm with rfl|rfl
 all_goals
  have hx:=Df (by decide) (by decide) (by decide) hbad;have hb0:=bA w (.cells aH 33);obtain⟨W,hW⟩:∃W,w.alloc (.cells aH 33)=W:=⟨_,rfl⟩;rw[hW] at hb0;have hh:=h.below hb0;have T0:=hid ((ag.rfl' h.ln).below hb0);have a0:W.cell? ⟨lb,0,none⟩=some (.string _):=cA hh.ln 0;simp only[aH] at hW;have HO:=hid (Bo hh);obtain⟨l',hl'⟩:∃l',bB l=l':=⟨_,rfl⟩;obtain⟨m,hm0⟩:∃m,l'.length=m:=⟨_,rfl⟩;unfold Qw at HO;rw[hl',hm0] at HO hx;go_enter func320,ntmps320;go_upto_region 1 with (fail)
  try rw[hW]
  clear hW;go_wp2_with (fail)
  go_at_call 347;refine HO.out.mono ?_;rintro e w1 ⟨rfl,q1,h1,ht0⟩;have ht:=T0.out.trans ht0;clear ht0;have c1:w1.cell? ⟨lb,1,none⟩=some (.slice a m cap):=cA h1.ln 1;rcases hx with ⟨hm,rfl,rfl⟩|⟨hm,hk,rfl,rfl⟩|⟨hm,hk,hx⟩
  ·have HC:=hid (dA c1 2 2 (by omega))
   go_wp2_with (first
    |(go_at_call 342;refine HC.out.mono ?_;rintro e w2 ⟨rfl,rfl⟩;unfold jE))
   exact⟨rfl,rfl,jF.of ht⟩
  ·subst hm;obtain⟨rfl,hw,-⟩:=h1.ws (by omega);have x0:=hw.2.2 0 (by omega);have HC:=hid (bO c1 2 2 (by omega) (by omega));have HK:=hid (vZ c1 (by decide) x0 (h1.sz 0) hk)
   go_wp2_with (first
    |(go_at_call 342;refine HC.out.mono ?_;rintro e w2 ⟨rfl,rfl⟩)
    |(go_at_call 351;refine HK.out.mono ?_;rintro e w2 ⟨rfl,rfl⟩;unfold jE))
   exact⟨rfl,rfl,jF.of ht⟩
  ·rcases hx with ⟨hv,-⟩|⟨-,hv,rfl,rfl⟩
   ·exact absurd hv (by decide)
   subst hm;obtain⟨rfl,hw,-⟩:=h1.ws (by omega);have x0:=hw.2.2 0 (by omega);have HC:=hid (bO c1 2 2 (by omega) (by omega));have HK:=hid (Bn c1 (by decide) x0 (h1.sz 0) hk);have x1:=hw.2.2 1 (by decide);have HP:=hid (bK (GB.wd l' 1) w1 h1.er);unfold oN at HP;rw[show nm (GB.wd l' 1).data.toList=none from hv] at HP
   go_wp2_with (first
    |(go_at_call 342;refine HC.out.mono ?_;rintro e w2 ⟨rfl,rfl⟩)
    |(go_at_call 351;refine HK.out.mono ?_;rintro e w2 ⟨rfl,rfl⟩)
    |(go_at_call 173;refine HP.out.mono ?_;rintro e w2 ⟨rfl,hb2⟩)
    |(go_at_call 344;refine(dF _ _).mono ?_;rintro e w3 ⟨rfl,rfl⟩;unfold jE))
   exact⟨rfl,rfl,jF.of (ht.below hb2)⟩
theorem v_{w:World}{lb b o n cap:Nat}{bh:ByteArray}{a:Option Addr}{q:Bool}{l:List ByteArray}{t:ByteArray}{u:Nat}(h:pY w lb b o n cap ⟨#[116,111,117,99,104]⟩ bh a q l)(hbad:GB.short (GB.fw :: l)=.bad t u):
 Calls prog 320 #[.pointer (some ⟨lb,0,none⟩)] w (zL lb t w):=by
 have hx:=Df (by decide) (by decide) (by decide) hbad;have hb0:=bA w (.cells aH 33);obtain⟨W,hW⟩:∃W,w.alloc (.cells aH 33)=W:=⟨_,rfl⟩;rw[hW] at hb0;have hh:=h.below hb0;have T0:=hid ((ag.rfl' h.ln).below hb0);have a0:W.cell? ⟨lb,0,none⟩=some (.string ⟨#[116,111,117,99,104]⟩):=cA hh.ln 0;simp only[aH] at hW;have HO:=hid (Bo hh);obtain⟨l',hl'⟩:∃l',bB l=l':=⟨_,rfl⟩;obtain⟨m,hm0⟩:∃m,l'.length=m:=⟨_,rfl⟩;unfold Qw at HO;rw[hl',hm0] at HO hx;go_enter func320,ntmps320;go_upto_region 1 with (fail)
 try rw[hW]
 clear hW;go_wp2_with (fail)
 go_at_call 347;refine HO.out.mono ?_;rintro e w1 ⟨rfl,q1,h1,ht0⟩;have ht:=T0.out.trans ht0;clear ht0;have c1:w1.cell? ⟨lb,1,none⟩=some (.slice a m cap):=cA h1.ln 1;rcases hx with ⟨hm,rfl,rfl⟩|⟨hm,hk,rfl,rfl⟩|⟨hm,hk,hx⟩
 ·have HC:=hid (dA c1 2 2 (by omega))
  go_wp2_with (first
   |(go_at_call 342;refine HC.out.mono ?_;rintro e w2 ⟨rfl,rfl⟩;unfold jE))
  exact⟨rfl,rfl,jF.of ht⟩
 ·subst hm;obtain⟨rfl,hw,-⟩:=h1.ws (by omega);have x0:=hw.2.2 0 (by omega);have HC:=hid (bO c1 2 2 (by omega) (by omega));have HK:=hid (vZ c1 (by decide) x0 (h1.sz 0) hk)
  go_wp2_with (first
   |(go_at_call 342;refine HC.out.mono ?_;rintro e w2 ⟨rfl,rfl⟩)
   |(go_at_call 351;refine HK.out.mono ?_;rintro e w2 ⟨rfl,rfl⟩;unfold jE))
  exact⟨rfl,rfl,jF.of ht⟩
 ·rcases hx with ⟨-,hv,rfl,rfl⟩|⟨hv,-⟩
  rotate_left
  ·exact absurd rfl hv
  subst hm;obtain⟨rfl,hw,-⟩:=h1.ws (by omega);have x0:=hw.2.2 0 (by omega);have HC:=hid (bO c1 2 2 (by omega) (by omega));have HK:=hid (Bn c1 (by decide) x0 (h1.sz 0) hk);have HX:=hid (su c1 (i:=1) (by decide) (hw.2.2 1 (by decide)) (h1.sz 1) h1.er hv)
  go_wp2_with (first
   |(go_at_call 342;refine HC.out.mono ?_;rintro e w2 ⟨rfl,rfl⟩)
   |(go_at_call 351;refine HK.out.mono ?_;rintro e w2 ⟨rfl,rfl⟩)
   |(go_at_call 343;refine HX.out.mono ?_;rintro e w2 ⟨rfl,hb2⟩;unfold jE))
  exact⟨rfl,rfl,jF.of (ht.below hb2)⟩
theorem tJ{w:World}{lb b o n cap:Nat}{bh:ByteArray}{a:Option Addr}{q:Bool}{l:List ByteArray}{t:ByteArray}{u:Nat}(h:pY w lb b o n cap ⟨#[100,101,108,101,116,101]⟩ bh a q l)(hbad:GB.short (GB.eD :: l)=.bad t u):
 Calls prog 320 #[.pointer (some ⟨lb,0,none⟩)] w (zL lb t w):=by
 have hx:=Fv hbad;have hb0:=bA w (.cells aH 33);obtain⟨W,hW⟩:∃W,w.alloc (.cells aH 33)=W:=⟨_,rfl⟩;rw[hW] at hb0;have hh:=h.below hb0;have T0:=hid ((ag.rfl' h.ln).below hb0);have a0:W.cell? ⟨lb,0,none⟩=some (.string ⟨#[100,101,108,101,116,101]⟩):=cA hh.ln 0;simp only[aH] at hW;have HO:=hid (Bo hh);obtain⟨l',hl'⟩:∃l',bB l=l':=⟨_,rfl⟩;obtain⟨m,hm0⟩:∃m,l'.length=m:=⟨_,rfl⟩;unfold Qw at HO;rw[hl',hm0] at HO hx;go_enter func320,ntmps320;go_upto_region 1 with (fail)
 try rw[hW]
 clear hW;go_wp2_with (fail)
 go_at_call 347;refine HO.out.mono ?_;rintro e w1 ⟨rfl,q1,h1,ht0⟩;have ht:=T0.out.trans ht0;clear ht0;have c1:w1.cell? ⟨lb,1,none⟩=some (.slice a m cap):=cA h1.ln 1;rcases hx with ⟨hm,rfl,rfl⟩|⟨hm,hk,rfl,rfl⟩|⟨hm,hk,hz,rfl,rfl⟩
 ·have HC:=hid (dA c1 1 2 (by omega))
  go_wp2_with (first
   |(go_at_call 342;refine HC.out.mono ?_;rintro e w2 ⟨rfl,rfl⟩;unfold jE))
  exact⟨rfl,rfl,jF.of ht⟩
 ·obtain⟨rfl,hw,-⟩:=h1.ws (by omega);have x0:=hw.2.2 0 (by omega);have HC:=hid (bO c1 1 2 (by omega) (by omega));have HK:=hid (vZ c1 (i:=0) (by omega) x0 (h1.sz 0) hk)
  go_wp2_with (first
   |(go_at_call 342;refine HC.out.mono ?_;rintro e w2 ⟨rfl,rfl⟩)
   |(go_at_call 351;refine HK.out.mono ?_;rintro e w2 ⟨rfl,rfl⟩;unfold jE))
  exact⟨rfl,rfl,jF.of ht⟩
 ·subst hm;obtain⟨rfl,hw,-⟩:=h1.ws (by omega);have x0:=hw.2.2 0 (by omega);have HC:=hid (bO c1 1 2 (by omega) (by omega));have HK:=hid (Bn c1 (by decide) x0 (h1.sz 0) hk);have x1:=hw.2.2 1 (by decide);have hb:((GB.wd l' 1).toList == [48])=false:=by
   rw[show [48]=GB.zero.toList by rw[ByteArray.toList_eq];rfl,a_,decide_eq_false hz]
  go_wp2_with (first
   |(go_at_call 342;refine HC.out.mono ?_;rintro e w2 ⟨rfl,rfl⟩)
   |(go_at_call 351;refine HK.out.mono ?_;rintro e w2 ⟨rfl,rfl⟩)
   |(go_at_call 344;refine(dF _ _).mono ?_;rintro e w3 ⟨rfl,rfl⟩;unfold jE))
  exact⟨rfl,rfl,jF.of ht⟩
theorem wh{w:World}{lb b o n cap:Nat}{bh:ByteArray}{a:Option Addr}{q:Bool}{l:List ByteArray}{t:ByteArray}{u:Nat}(h:pY w lb b o n cap ⟨#[102,108,117,115,104,95,97,108,108]⟩ bh a q l)(hbad:GB.short (GB.fZ :: l)=.bad t u):
 Calls prog 320 #[.pointer (some ⟨lb,0,none⟩)] w (zL lb t w):=by
 have hx:=zi hbad;have hb0:=bA w (.cells aH 33);obtain⟨W,hW⟩:∃W,w.alloc (.cells aH 33)=W:=⟨_,rfl⟩;rw[hW] at hb0;have hh:=h.below hb0;have T0:=hid ((ag.rfl' h.ln).below hb0);have a0:W.cell? ⟨lb,0,none⟩=some (.string ⟨#[102,108,117,115,104,95,97,108,108]⟩):=cA hh.ln 0;simp only[aH] at hW;have HO:=hid (Bo hh);obtain⟨l',hl'⟩:∃l',bB l=l':=⟨_,rfl⟩;obtain⟨m,hm0⟩:∃m,l'.length=m:=⟨_,rfl⟩;unfold Qw at HO;rw[hl',hm0] at HO hx;go_enter func320,ntmps320;go_upto_region 1 with (fail)
 try rw[hW]
 clear hW;go_wp2_with (fail)
 go_at_call 347;refine HO.out.mono ?_;rintro e w1 ⟨rfl,q1,h1,ht0⟩;have ht:=T0.out.trans ht0;clear ht0;have c1:w1.cell? ⟨lb,1,none⟩=some (.slice a m cap):=cA h1.ln 1;rcases hx with ⟨hm,rfl,rfl⟩|⟨hm,hk,rfl,rfl⟩
 ·have HC:=hid (dA c1 0 1 (by omega))
  go_wp2_with (first
   |(go_at_call 342;refine HC.out.mono ?_;rintro e w2 ⟨rfl,rfl⟩;unfold jE))
  exact⟨rfl,rfl,jF.of ht⟩
 ·subst hm;obtain⟨rfl,hw,-⟩:=h1.ws (by omega);have HC:=hid (bO c1 0 1 (by omega) (by omega));have h2:=λo=>h1.below (bA w1 o)
  have c2:∀ob,(w1.alloc ob).cell? ⟨lb,1,none⟩=some (.slice (some ⟨b,o,none⟩) 1 cap):=λob=>cA (h2 ob).ln 1
  have HX:=hid (λo=>su (c2 o) (i:=0) (by decide) (((h2 o).ws (by omega)).2.1.2.2 0 (by omega)) ((h2 o).sz 0) (h2 o).er hk);clear h2
  go_wp2_with (first
   |(go_at_call 342;refine HC.out.mono ?_;rintro e w2 ⟨rfl,rfl⟩)
   |(go_at_call 343;refine(HX.out _).mono ?_;rintro e w2 ⟨rfl,hb2⟩;unfold jE))
  exact⟨rfl,rfl,jF.of ((ht.below (bA w1 _)).below hb2)⟩
theorem zk{w:World}{lb b o n cap:Nat}{bh:ByteArray}{a:Option Addr}{q:Bool}{l:List ByteArray}{t:ByteArray}{u:Nat}(h:pY w lb b o n cap ⟨#[118,101,114,98,111,115,105,116,121]⟩ bh a q l)(hbad:GB.short (GB.bN :: l)=.bad t u):
 Calls prog 320 #[.pointer (some ⟨lb,0,none⟩)] w (zL lb t w):=by
 have hx:=Bq hbad;have hb0:=bA w (.cells aH 33);obtain⟨W,hW⟩:∃W,w.alloc (.cells aH 33)=W:=⟨_,rfl⟩;rw[hW] at hb0;have hh:=h.below hb0;have T0:=hid ((ag.rfl' h.ln).below hb0);have a0:W.cell? ⟨lb,0,none⟩=some (.string ⟨#[118,101,114,98,111,115,105,116,121]⟩):=cA hh.ln 0;simp only[aH] at hW;have HO:=hid (Bo hh);obtain⟨l',hl'⟩:∃l',bB l=l':=⟨_,rfl⟩;obtain⟨m,hm0⟩:∃m,l'.length=m:=⟨_,rfl⟩;unfold Qw at HO;rw[hl',hm0] at HO hx;go_enter func320,ntmps320;go_upto_region 1 with (fail)
 try rw[hW]
 clear hW;go_wp2_with (fail)
 go_at_call 347;refine HO.out.mono ?_;rintro e w1 ⟨rfl,q1,h1,ht0⟩;have ht:=T0.out.trans ht0;clear ht0;have c1:w1.cell? ⟨lb,1,none⟩=some (.slice a m cap):=cA h1.ln 1;obtain⟨hm,rfl,rfl⟩:=hx;have HC:=hid (dA c1 1 1 (by omega))
 go_wp2_with (first
  |(go_at_call 342;refine HC.out.mono ?_;rintro e w2 ⟨rfl,rfl⟩;unfold jE))
 exact⟨rfl,rfl,jF.of ht⟩
theorem sw{w:World}{lb b o n cap:Nat}{bh:ByteArray}{a:Option Addr}{q:Bool}{l:List ByteArray}{t:ByteArray}{u:Nat}(h:pY w lb b o n cap ⟨#[118,101,114,115,105,111,110]⟩ bh a q l)(hbad:GB.plain (GB.dY :: l)=.bad t u):
 Calls prog 320 #[.pointer (some ⟨lb,0,none⟩)] w (zL lb t w):=by
 have hx:0<n/\t=GB.bg/\u=0:=by
  have hl:=h.len;unfold GB.plain at hbad;rw[iE,List.length_cons] at hbad;split at hbad
  ·cases hbad
  ·rename_i h1;split at hbad
   ·cases hbad
   ·rename_i h2;cases hbad;refine⟨?_,rfl,rfl⟩;rcases Nat.eq_zero_or_pos l.length with h3|h3
    ·exact absurd ⟨by first|exact .inl rfl|exact .inr rfl,by omega⟩ h1
    ·omega
 obtain⟨hm,rfl,rfl⟩:=hx;have hb0:=bA w (.cells aH 33);obtain⟨W,hW⟩:∃W,w.alloc (.cells aH 33)=W:=⟨_,rfl⟩;rw[hW] at hb0;have hh:=h.below hb0;have T0:=hid ((ag.rfl' h.ln).below hb0);have a0:W.cell? ⟨lb,0,none⟩=some (.string ⟨#[118,101,114,115,105,111,110]⟩):=cA hh.ln 0;simp only[aH] at hW;have HC:=hid (dA (cA hh.ln 1) 0 0 (by omega));clear hh h;go_enter func320,ntmps320;go_upto_region 1 with (fail)
 try rw[hW]
 clear hW
 go_wp2_with (first
  |(go_at_call 342;refine HC.out.mono ?_;rintro e w2 ⟨rfl,rfl⟩;unfold jE))
 exact⟨rfl,rfl,jF.of T0.out⟩
theorem zm{w:World}{lb b o n cap:Nat}{bh:ByteArray}{a:Option Addr}{q:Bool}{l:List ByteArray}{t:ByteArray}{u:Nat}(h:pY w lb b o n cap ⟨#[113,117,105,116]⟩ bh a q l)(hbad:GB.plain (GB.kX :: l)=.bad t u):
 Calls prog 320 #[.pointer (some ⟨lb,0,none⟩)] w (zL lb t w):=by
 have hx:0<n/\t=GB.bg/\u=0:=by
  have hl:=h.len;unfold GB.plain at hbad;rw[iE,List.length_cons] at hbad;split at hbad
  ·cases hbad
  ·rename_i h1;split at hbad
   ·cases hbad
   ·rename_i h2;cases hbad;refine⟨?_,rfl,rfl⟩;rcases Nat.eq_zero_or_pos l.length with h3|h3
    ·exact absurd ⟨by first|exact .inl rfl|exact .inr rfl,by omega⟩ h1
    ·omega
 obtain⟨hm,rfl,rfl⟩:=hx;have hb0:=bA w (.cells aH 33);obtain⟨W,hW⟩:∃W,w.alloc (.cells aH 33)=W:=⟨_,rfl⟩;rw[hW] at hb0;have hh:=h.below hb0;have T0:=hid ((ag.rfl' h.ln).below hb0);have a0:W.cell? ⟨lb,0,none⟩=some (.string ⟨#[113,117,105,116]⟩):=cA hh.ln 0;simp only[aH] at hW;have HC:=hid (dA (cA hh.ln 1) 0 0 (by omega));clear hh h;go_enter func320,ntmps320;go_upto_region 1 with (fail)
 try rw[hW]
 clear hW
 go_wp2_with (first
  |(go_at_call 342;refine HC.out.mono ?_;rintro e w2 ⟨rfl,rfl⟩;unfold jE))
 exact⟨rfl,rfl,jF.of T0.out⟩
theorem wm{w:World}{lb b o n cap:Nat}{bh:ByteArray}{a:Option Addr}{q:Bool}{l:List ByteArray}{t:ByteArray}{u:Nat}(h:pY w lb b o n cap ⟨#[115,116,97,116,115]⟩ bh a q l)(hbad:GB.plain (GB.gY :: l)=.bad t u):
 Calls prog 320 #[.pointer (some ⟨lb,0,none⟩)] w (zL lb t w):=by
 have hx:1<n/\t=GB.bg/\u=0:=by
  have hl:=h.len;unfold GB.plain at hbad;rw[iE,List.length_cons] at hbad;split at hbad
  ·cases hbad
  ·rename_i h1;split at hbad
   ·cases hbad
   ·rename_i h2;cases hbad;refine⟨?_,rfl,rfl⟩;rcases Nat.lt_or_ge 1 l.length with h3|h3
    ·omega
    ·exact absurd ⟨rfl,by omega⟩ h2
 obtain⟨hm,rfl,rfl⟩:=hx;have hb0:=bA w (.cells aH 33);obtain⟨W,hW⟩:∃W,w.alloc (.cells aH 33)=W:=⟨_,rfl⟩;rw[hW] at hb0;have hh:=h.below hb0;have T0:=hid ((ag.rfl' h.ln).below hb0);have a0:W.cell? ⟨lb,0,none⟩=some (.string ⟨#[115,116,97,116,115]⟩):=cA hh.ln 0;simp only[aH] at hW;have HC:=hid (dA (cA hh.ln 1) 0 1 (by omega));clear hh h;go_enter func320,ntmps320;go_upto_region 1 with (fail)
 try rw[hW]
 clear hW
 go_wp2_with (first
  |(go_at_call 342;refine HC.out.mono ?_;rintro e w2 ⟨rfl,rfl⟩;unfold jE))
 exact⟨rfl,rfl,jF.of T0.out⟩
theorem zn{w:World}{lb b o n cap:Nat}{nm bh:ByteArray}{a:Option Addr}{q:Bool}{l:List ByteArray}(h:pY w lb b o n cap nm bh a q l)(hn:∀x∈[GB.mR,GB.mU,GB.fw,GB.eD,GB.fZ,GB.bN,GB.dY,GB.kX,GB.gY],nm≠x):
 Calls prog 320 #[.pointer (some ⟨lb,0,none⟩)] w (zL lb GB.bg w):=by
 have hb0:=bA w (.cells aH 33);obtain⟨W,hW⟩:∃W,w.alloc (.cells aH 33)=W:=⟨_,rfl⟩;rw[hW] at hb0;have hh:=h.below hb0;have T0:=hid ((ag.rfl' h.ln).below hb0);have a0:W.cell? ⟨lb,0,none⟩=some (.string nm):=cA hh.ln 0;simp only[aH] at hW;have b0:(nm.toList == [105,110,99,114])=false:=by
  rw[show [105,110,99,114]=GB.mR.toList by rw[ByteArray.toList_eq];rfl,a_,decide_eq_false (hn _ (by simp))]
 have b1:(nm.toList == [100,101,99,114])=false:=by
  rw[show [100,101,99,114]=GB.mU.toList by rw[ByteArray.toList_eq];rfl,a_,decide_eq_false (hn _ (by simp))]
 have b2:(nm.toList == [116,111,117,99,104])=false:=by
  rw[show [116,111,117,99,104]=GB.fw.toList by rw[ByteArray.toList_eq];rfl,a_,decide_eq_false (hn _ (by simp))]
 have b3:(nm.toList == [100,101,108,101,116,101])=false:=by
  rw[show [100,101,108,101,116,101]=GB.eD.toList by rw[ByteArray.toList_eq];rfl,a_,decide_eq_false (hn _ (by simp))]
 have b4:(nm.toList == [102,108,117,115,104,95,97,108,108])=false:=by
  rw[show [102,108,117,115,104,95,97,108,108]=GB.fZ.toList by rw[ByteArray.toList_eq];rfl,a_,decide_eq_false (hn _ (by simp))]
 have b5:(nm.toList == [118,101,114,98,111,115,105,116,121])=false:=by
  rw[show [118,101,114,98,111,115,105,116,121]=GB.bN.toList by rw[ByteArray.toList_eq];rfl,a_,decide_eq_false (hn _ (by simp))]
 have b6:(nm.toList == [118,101,114,115,105,111,110])=false:=by
  rw[show [118,101,114,115,105,111,110]=GB.dY.toList by rw[ByteArray.toList_eq];rfl,a_,decide_eq_false (hn _ (by simp))]
 have b7:(nm.toList == [113,117,105,116])=false:=by
  rw[show [113,117,105,116]=GB.kX.toList by rw[ByteArray.toList_eq];rfl,a_,decide_eq_false (hn _ (by simp))]
 have b8:(nm.toList == [115,116,97,116,115])=false:=by
  rw[show [115,116,97,116,115]=GB.gY.toList by rw[ByteArray.toList_eq];rfl,a_,decide_eq_false (hn _ (by simp))]
 clear hn h hh;go_enter func320,ntmps320;go_upto_region 1 with (fail)
 try rw[hW]
 clear hW;go_wp2
 exact⟨rfl,rfl,jF.of T0.out⟩
theorem sD{l:List ByteArray}{t:ByteArray}{u:Nat}(h:GB.keysOf l=.bad t u):(l.length=0/\t=GB.bg/\u=0)\/(1<=l.length/\t=GB.bD/\u=0/\∃j,j<l.length/\W2.aO (GB.wd l j)=false):=by
 unfold GB.keysOf at h;split at h
 ·rename_i h1;cases h;exact .inl ⟨by rw[h1];rfl,rfl,rfl⟩
 ·rename_i h1;split at h
  ·cases h
  ·rename_i h2;cases h;refine .inr ⟨List.length_pos_iff.2 h1,rfl,rfl,?_⟩;have h3:l.all W2.aO=false:=by simpa using h2
   rw[List.all_eq_false] at h3;obtain⟨x,hx,hk⟩:=h3;obtain⟨j,hj,rfl⟩:=List.mem_iff_getElem.1 hx;refine⟨j,hj,?_⟩;unfold GB.wd;rw[List.getElem?_eq_getElem hj];simpa using hk
theorem KP{nm t:ByteArray}{l:List ByteArray}{u:Nat}(h:GB.gets (nm :: l)=.bad t u):
 u=0/\((GB.Eg nm=true/\((l.length<2/\t=GB.bg)\/(2<=l.length/\GB.sec (GB.wd l 0)=false/\t=GB.mQ)\/(2<=l.length/\GB.sec (GB.wd l 0)=true/\t=GB.bD/\∃j,1+j<l.length/\W2.aO (GB.wd l (1+j))=false)))\/
  (GB.Eg nm=false/\((l.length=0/\t=GB.bg)\/(1<=l.length/\t=GB.bD/\∃j,j<l.length/\W2.aO (GB.wd l j)=false)))):=by
 rw[show GB.gets (nm :: l)=if GB.Eg nm=true then (if l.length+1<3 then .bad GB.bg 0 else if GB.sec (GB.wd l 0)=false then .bad GB.mQ 0 else GB.keysOf (l.drop 1)) else GB.keysOf l from rfl] at h;split at h
 ·rename_i hg;split at h
  ·cases h;exact⟨rfl,.inl ⟨hg,.inl ⟨by omega,rfl⟩⟩⟩
  ·split at h
   ·rename_i hs;cases h;exact⟨rfl,.inl ⟨hg,.inr (.inl ⟨by omega,hs,rfl⟩)⟩⟩
   ·rename_i hs;rcases sD h with ⟨h1,h2,h3⟩|⟨h1,h2,h3,j,hj,hk⟩
    ·rw[List.length_drop] at h1;omega
    ·rw[List.length_drop] at hj;rw[kP] at hk;exact⟨h3,.inl ⟨hg,.inr (.inr ⟨by omega,nb hs,h2,j,by omega,hk⟩)⟩⟩
 ·rename_i hg;have hg':GB.Eg nm=false:=by simpa using hg
  rcases sD h with ⟨h1,h2,h3⟩|⟨h1,h2,h3,h4⟩
  ·exact⟨h3,.inr ⟨hg',.inl ⟨h1,h2⟩⟩⟩
  ·exact⟨h3,.inr ⟨hg',.inr ⟨h1,h2,h4⟩⟩⟩
def Wx(e:Int)(h:Bool)(k:ByteArray):Array Value:=#[.int .i64 1,.int .i64 0,.string k,.string ⟨#[]⟩,.int .u32 0,.int .i64 e,.bool h,.int .u64 0,.bool false,.int .u64 0,.int .u64 0,.bool false,.bool false,.int .i64 0,.int .i64 0,.bool false]
theorem KQ{w:World}{lb b o n cap:Nat}{nm bh:ByteArray}{a:Option Addr}{q:Bool}{l:List ByteArray}{t:ByteArray}{u:Nat}(h:pY w lb b o n cap nm bh a q l)(hget:GB.oP nm=true)(hbad:GB.gets (nm :: l)=.bad t u):
 Calls prog 318 #[.pointer (some ⟨lb,0,none⟩)] w (zL lb t w):=by
 obtain⟨g,hg⟩:∃g,GB.Eg nm=g:=⟨_,rfl⟩;have hpf:Lib.hasPrefix nm.data.toList [103,97,116]=g:=by
  rw[<-hg];have h2:nm=GB.yD\/nm=GB.jX\/nm=GB.nS\/nm=GB.gq:=of_decide_eq_true hget;rcases h2 with rfl|rfl|rfl|rfl<;>rfl
 have hx:=(KP hbad).2;rw[h.len,hg] at hx;have HX:=hid hx;have i1:=(Inv.start w).new (aA w aH 33) (bA w _) (λb hb=>by have e:b=w.heap.size:=hb;omega);have i3:=i1.new (aA _ (Wx 0 false ⟨#[]⟩) 56) (bA _ _) (λb hb=>by have e:b=(w.alloc (.cells aH 33)).heap.size:=hb;omega);simp only[World.size_alloc] at i3;have HP:=hid (λw'=>Tryz.strings_HasPrefix nm ⟨#[103,97,116]⟩ w');rw[show (⟨#[103,97,116]⟩:ByteArray).data.toList= [103,97,116] from rfl,hpf] at HP;obtain⟨N,hN⟩:∃N,w.heap.size=N:=⟨_,rfl⟩;obtain⟨W,hW⟩:∃W,(w.alloc (.cells aH 33)).alloc (.cells (Wx 0 false ⟨#[]⟩) 56)=W:=⟨_,rfl⟩;rw[hW] at i3;have HT:=hid (show∀w',Below w.heap.size w w'->jF lb 0 w w' from λw' hb=>jF.of ((ag.rfl' h.ln).below hb));have HH:=hid (show∀w',Below w.heap.size w w'->pY w' lb b o n cap nm bh a q l from λw' hb=>h.below hb);have hW1:=HH.out W i3.bel;have a0:=cA hW1.ln 0;have a1:=cA hW1.ln 1;simp only[aH,Wx] at hW;have wL:=hid hW;have EY:=hid hN;rw[hN] at i3;have I3:=hid i3;have hcap:=h.cap;have hn:=h.hn;clear hW i1 i3 hx hpf hbad hget hg h hW1;go_enter func318,ntmps318;go_upto_region 3 with (fail)
 try rw[hN]
 rw[wL.out];go_upto_if 18 with (go_at_call 294;refine(HP.out _).mono ?_;rintro e w1 ⟨rfl,hw1⟩;have hw1:=hw1.symm;subst hw1)
 go_cut [4] from 19 to 34 (λks wx=> ∃(p m c':Nat) (ea:Option Addr) (e:Int) (hh:Bool),ks=.slice ea m c'/\(1<=m->ea=some ⟨b,o+p,none⟩)/\p+m=n/\m<=c'/\Hid ((m=0/\t=GB.bg)\/(1<=m/\t=GB.bD/\∃j,j<m/\W2.aO (GB.wd l (p+j))=false))/\Hid (Inv w [aG (N+1) (Wx e hh ⟨#[]⟩) 56,aG N aH 33] wx))
 case first=>
  have FW:=HX.out;cases g
  ·rcases FW with ⟨h1,-⟩|⟨-,hx⟩
   ·cases h1
   have HE:=hid (show (n=0/\t=GB.bg)\/(1<=n/\t=GB.bD/\∃j,j<n/\W2.aO (GB.wd l (0+j))=false) from hx.imp id (λ⟨x1,x2,j,x3,x4⟩=>⟨x1,x2,j,x3,by rw[Nat.zero_add];exact x4⟩));have HA:=hid (λh1=>((HH.out w (Below.refl _ _)).ws h1).1);clear hx;go_wp2_with (fail)
   go_meet;exact⟨0,n,cap,a,0,false,rfl,HA.out,by omega,hcap,HE,I3⟩
  ·rcases FW with ⟨-,hx⟩|⟨h1,-⟩
   rotate_left
   ·cases h1
   rcases hx with ⟨h1,rfl⟩|⟨h1,hs,rfl⟩|⟨h1,hs,rfl,j,hj,hk⟩
   ·have HC:=hid (dA a1 2 n (by omega));go_wp2_with (go_at_call 342;refine HC.out.mono ?_;rintro e w2 ⟨rfl,rfl⟩;unfold jE)
    exact⟨rfl,rfl,HT.out _ I3.out.bel⟩
   ·have HC:=hid (bO a1 2 n (by omega) (by omega));have hW1:=HH.out W I3.out.bel;obtain⟨rfl,hw,-⟩:=hW1.ws (by omega);have HS:=hid (su a1 (i:=0) (by omega) (hw.2.2 0 (by omega)) (hW1.sz 0) hW1.er hs);clear hW1 hw hs
    go_wp2_with (first
     |(go_at_call 342;refine HC.out.mono ?_;rintro e w2 ⟨rfl,rfl⟩)
     |(go_at_call 343;refine HS.out.mono ?_;rintro e w2 ⟨rfl,hb2⟩;unfold jE))
    exact⟨rfl,rfl,HT.out _ (bR I3.out.bel.size I3.out.bel hb2)⟩
   ·have HC:=hid (bO a1 2 n (by omega) (by omega));have hW1:=HH.out W I3.out.bel;obtain⟨rfl,hw,-⟩:=hW1.ws (by omega);have HS:=hid (O5 a1 (i:=0) (by omega) (hw.2.2 0 (by omega)) (hW1.sz 0) hW1.er hs);have HK:=hid (And.intro hj hk);obtain⟨k,rfl⟩:∃k,n=k+2:=⟨n-2,by omega⟩;have z1:¬cap=1:=by omega
    have z2:¬1=cap:=by omega
    have z3:(1:Int)<=(k:Int)+2:=by omega
    clear hW1 hw hs hj hk
    go_wp2_with (first
     |(go_at_call 342;refine HC.out.mono ?_;rintro e w2 ⟨rfl,rfl⟩)
     |(go_at_call 343;refine HS.out.mono ?_;rintro e w2 ⟨v,rfl,hb2⟩
       have I4:=I3.out.below hb2;obtain⟨c0,f0,c1,f1,c2,f2,c3,f3,c4,f4,c5,f5,c6,f6,c7,f7,c8,f8,c9,f9,c10,f10,c11,f11,c12,f12,c13,f13,c14,f14,c15,f15⟩:=bV (I4.get 0 rfl);have I5:=I4.turn 0 rfl (ai (I4.get 0 rfl) 5 (.int .i64 v));have I6:=I5.turn 0 rfl (ai (I5.get 0 rfl) 6 (.bool true));have sJ:=hid I6;have y1:=cA (HH.out _ I6.bel).ln 1;clear I4 I5 I6 hb2))
    go_meet;exact⟨1,k+1,_,_,v,true,rfl,λ_=>rfl,by omega,by omega,hid (.inr ⟨by omega,by first|rfl|trivial,j,by have:=HK.out.1;omega,HK.out.2⟩),sJ⟩
 case rest=>
 obtain⟨p,m,c',ea,e,hh,rfl,Ul,hpm,hmc,HQ,HI⟩:=hcut;clear a0 a1 I3 HX HP;by_cases hm0:m=0
 ·subst hm0;go_wp2_with (go_at_call 344;refine(dF _ _).mono ?_;rintro e w1 ⟨rfl,rfl⟩;unfold jE)
  rcases HQ.out with ⟨-,rfl⟩|⟨h1,-⟩
  ·exact⟨rfl,rfl,HT.out _ HI.out.bel⟩
  ·exact absurd h1 (by decide)
 ·have aak:=Ul (by omega);subst aak;have VU:Hid (t=GB.bD/\∃j,j<m/\W2.aO (GB.wd l (p+j))=false):=by
   rcases HQ.out with ⟨h1,-⟩|⟨-,h2⟩
   ·exact absurd h1 hm0
   ·exact hid h2
  have m0:(0:Int)<m:=by omega
  have m0n:0<m:=by omega
  have hW1:=HH.out w (Below.refl _ _);have HA:=hid (hW1.ws (by omega)).2.1;have Wm:=hid hW1.sz;clear hW1 HQ Ul hm0;go_wp2_with (go_at_call 344;with_reducible refine(fO _ _).mono ?_;rintro e w1 ⟨rfl,rfl⟩)
  go_loopw [5,41] (λal i wr=> ∃j:Nat,j<=m/\i=.int .i64 j/\Hid (∀s,s<j->W2.aO (GB.wd l (p+s))=true)/\∃(ra:Option Addr) (rc:Nat) (xs:List Value) (kk:ByteArray),al=.slice ra j rc/\Hid (Inv w [rowAt (.slice ra j rc) 56 16 j xs,aG (N+1) (Wx e hh kk) 56,aG N aH 33] wr)) (λ_ i _=>m-(intOf i).toNat)
  case atStart=>exact⟨0,Nat.zero_le _,rfl,hid (λs hs=>absurd hs (Nat.not_lt_zero _)),none,0,[],_,rfl,hid (HI.out.new (eu _ _ _) (Below.refl _ _) (λb hb=>by cases hb))⟩
  case round=>
   obtain⟨j,hj,rfl,HU,ra,rc,xs,kk,rfl,HI3⟩:=hrel;by_cases hlt:j<m
   ·have kc:wr.cell? ⟨b,o+p+j,none⟩=some (.string (GB.wd l (p+j))):=by
     rw[Nat.add_assoc];exact(HA.out.below HI3.out.bel).2.2 (p+j) (by omega)
    obtain⟨y,hy⟩:∃y,GB.wd l (p+j)=y:=⟨_,rfl⟩;have HK:=hid (λw'=>W2.dI y w' (by rw[<-hy];have:=Wm.out (p+j);unfold maxLen;omega));rw[hy] at kc;have jm:(j:Int)<m:=by omega
    cases hv:W2.aO y
    ·rw[hv] at HK;have HE:=VU.out.1
     go_wp2_with (first
      |(go_at_call 164;refine(HK.out _).mono ?_;rintro e w1 ⟨rfl,rfl⟩)
      |(go_at_call 344;refine(dF _ _).mono ?_;rintro e w1 ⟨rfl,rfl⟩;unfold jE))
     subst HE;exact⟨rfl,rfl,HT.out _ HI3.out.bel⟩
    ·rw[hv] at HK;obtain⟨c0,f0,c1,f1,c2,f2,c3,f3,c4,f4,c5,f5,c6,f6,c7,f7,c8,f8,c9,f9,c10,f10,c11,f11,c12,f12,c13,f13,c14,f14,c15,f15⟩:=bV (HI3.out.get 1 rfl);have Z_:=hid (show∀s,s<j+1->W2.aO (GB.wd l (p+s))=true from λs hs=>by
      rcases Nat.lt_succ_iff_lt_or_eq.1 hs with h|rfl
      ·exact HU.out s h
      ·rw[hy];exact hv)
     have HI4:=hid (HI3.out.turn 1 rfl (ai (HI3.out.get 1 rfl) 2 (.string y)));have hsz:(wr.setCell ⟨N+1,2,none⟩ (.string y)).heap.size=wr.heap.size:=by simp
     have jl:j+1<=100000000:=by omega
     clear hv hy
     go_wp2_with (first
      |(go_at_call 164;refine(HK.out _).mono ?_;rintro e w1 ⟨rfl,rfl⟩)
      |(go_at_call 344;refine(fO _ _).mono ?_;rintro e w1 ⟨rfl,rfl⟩)
      |(at_builtin;go_must (refine fT rM rfl _ _ rfl rfl (HI4.out.get 0 rfl) (by rw[hsz];rfl) rfl (by simp[Value.oneCell']) jl (by omega) ?_);intro g gc w2 ht2;have mV:=hid (HI4.out.turn 0 rfl ht2);clear ht2))
     go_roundw;case rel=>exact⟨j+1,by omega,by go_num,Z_,some ⟨g,0,none⟩,gc,_,y,rfl,mV⟩
     case measure=>simp[intOf];omega
   ·obtain⟨-,j',hj',hk'⟩:=VU.out;have:=HU.out j' (by omega);rw[this] at hk';cases hk'
theorem eG(s:ByteArray):oN s=.tuple #[.int .u64 (((GB.num s).getD 0:Nat):Int),.bool (GB.num s).isSome]:=rfl
theorem ou(l:List UInt8)(c:UInt8):decide (0<=Lib.indexByte l c)=l.contains c:=by
 rw[Bool.eq_iff_iff,decide_eq_true_iff,List.contains_iff_exists_mem_beq];constructor
 ·intro h;obtain⟨o,ho⟩:∃o:Nat,Lib.indexByte l c=o:=⟨(Lib.indexByte l c).toNat,by omega⟩;exact⟨c,List.mem_of_getElem? (Lib.indexByte_some ho).1,by simp⟩
 ·rintro⟨x,hx,he⟩;rw[beq_iff_eq] at he;subst he;have h1:=Lib.indexByte_ge l c;rcases Int.lt_or_le (Lib.indexByte l c) 0 with h|h
  ·exfalso;obtain⟨k,hk,e⟩:=List.mem_iff_getElem.1 hx;exact Lib.indexByte_none (show Lib.indexByte l c= -1 by omega) k (by rw[List.getElem?_eq_getElem hk,e])
  ·exact h
theorem KR{s:ByteArray}(h:s.size=1):s=⟨#[GB.hd s]⟩:=by
 obtain⟨⟨l⟩⟩:=s;match l,h with
 | [x],_=>rfl
theorem Wy{b:Nat}{op:Int}{s:ByteArray}{w:World}(h:(bF b op).R w):Calls prog 358 #[.pointer (some ⟨b,0,none⟩),.string s] w (Jj b op (GB.cB (decide (op=3)) s) w):=by
 obtain⟨vs,⟨i1,s1,s2,i2,i3,b1,i4,b2,i5,i6,b3,b4,i7,i8,b5,rfl⟩,hc⟩:=h;have HC:=hid hc;by_cases h1:s.size=1
 ·have hs:=KR h1;obtain⟨x,hx⟩:∃x,GB.hd s=x:=⟨_,rfl⟩;have HF:=hid (show∀m,GB.cB m s=if m then [73,105,43,68,100,45].contains x else [83,115,69,101,82,114,65,97,80,112].contains x from λm=>by
   unfold GB.cB;rw[decide_eq_true h1,hx];rfl)
  rw[hx] at hs;subst hs;clear hx h1;obtain⟨k0,f0,k1,f1,k2,f2,k3,f3,k4,f4,k5,f5,k6,f6,k7,f7,k8,f8,k9,f9,k10,f10,k11,f11,k12,f12,k13,f13,k14,f14,k15,f15⟩:iA w b (.int .i64 op) (.int .i64 i1) (.string s1) (.string s2) (.int .u32 i2) (.int .i64 i3) (.bool b1) (.int .u64 i4) (.bool b2) (.int .u64 i5) (.int .u64 i6) (.bool b3) (.bool b4) (.int .i64 i7) (.int .i64 i8) (.bool b5):=bV (HC.out);by_cases h3:op=3
  ·have h3':(op == 3)=true:=by simp[h3]
   have H1:=hid (λw'=>Tryz.strings_Index_one ⟨#[73,105,43,68,100,45]⟩ x w');have HQ:=hid (show decide (0<=Lib.indexByte [73,105,43,68,100,45] x)=GB.cB (decide (op=3)) ⟨#[x]⟩ by
    rw[HF.out,ou,decide_eq_true h3];rfl)
   rw[show (⟨#[73,105,43,68,100,45]⟩:ByteArray).data.toList= [73,105,43,68,100,45] from rfl] at H1;obtain⟨i,hi⟩:∃i,Lib.indexByte [73,105,43,68,100,45] x=i:=⟨_,rfl⟩;rw[hi] at H1 HQ;clear h3 hi;go_enter func358,ntmps358;go_wp2_with (go_at_call 357;refine(H1.out _).mono ?_;rintro e w1 ⟨rfl,rfl⟩)
   go_ret;exact⟨ay HQ.out,bF.turn (ai HC.out 11 _) ⟨_,_,_,_,_,_,_,_,_,_,_,_,_,_,_,rfl⟩⟩
  ·have h3':(op == 3)=false:=by simp[h3]
   have H1:=hid (λw'=>Tryz.strings_Index_one ⟨#[83,115,69,101,82,114,65,97,80,112]⟩ x w');have HQ:=hid (show decide (0<=Lib.indexByte [83,115,69,101,82,114,65,97,80,112] x)=GB.cB (decide (op=3)) ⟨#[x]⟩ by
    rw[HF.out,ou,decide_eq_false h3];rfl)
   rw[show (⟨#[83,115,69,101,82,114,65,97,80,112]⟩:ByteArray).data.toList= [83,115,69,101,82,114,65,97,80,112] from rfl] at H1;obtain⟨i,hi⟩:∃i,Lib.indexByte [83,115,69,101,82,114,65,97,80,112] x=i:=⟨_,rfl⟩;rw[hi] at H1 HQ;clear h3 hi;go_enter func358,ntmps358;go_wp2_with (go_at_call 357;refine(H1.out _).mono ?_;rintro e w1 ⟨rfl,rfl⟩)
   go_ret;exact⟨ay HQ.out,bF.turn (ai HC.out 1 _) ⟨_,_,_,_,_,_,_,_,_,_,_,_,_,_,_,rfl⟩⟩
 ·have h1':¬(s.size:Int)=1:=by omega
  have h1b:((s.size:Int) !=1)=true:=by simp;omega
  have HQ:=hid (show GB.cB (decide (op=3)) s=false by unfold GB.cB;rw[decide_eq_false h1];rfl);clear h1;go_enter func358,ntmps358;go_wp2
  go_ret;exact⟨ay HQ.out.symm,bF.turn (ag.rfl' HC.out) ⟨_,_,_,_,_,_,_,_,_,_,_,_,_,_,_,rfl⟩⟩
theorem aal{b:Nat}{op:Int}{s:ByteArray}{fl:UInt8}{w:World}(h:(bF b op).R w)(hs:s.size<=1000000)(hE:Er w)(hb5:5<b):Calls prog 338 #[.pointer (some ⟨b,0,none⟩),.int .u8 (fl.toNat:Int),.string s] w (Jj b op (GB.arg (decide (op=3)) fl s) w):=by
 have HE:=hid (show∀W,ag (bF b op) (bF b op) w W->Er W from λW ht=>hE.bL ht.bL (λe=>by have e':5=b:=e;omega));have HP:=hid (λW (ht:ag (bF b op) (bF b op) w W)=>(bK s W (HE.out W ht)).mono (R':=λe w'=>e=.returned (oN s)/\ag (bF b op) (bF b op) w w') (λe w' ⟨h1,h2⟩=>⟨h1,ht.below h2⟩));have HS:=hid (λW (ht:ag (bF b op) (bF b op) w W)=>(IJ s W hs (HE.out W ht)).mono (R':=λe w'=> ∃v,e=.returned (.tuple #[.int .i64 v,.bool (sc s.data.toList)])/\ag (bF b op) (bF b op) w w') (λe w' ⟨v,h1,h2⟩=>⟨v,h1,ht.below h2⟩));have HH:=hid (ag.rfl' h);obtain⟨fi,hfi⟩:∃fi:Int,(fl.toNat:Int)=fi:=⟨_,rfl⟩;obtain⟨u,hu⟩:∃u,(((nm s.data.toList).getD 0:Nat):Int)=u:=⟨_,rfl⟩;have HF:=hid (λc:UInt8=>show fl=c↔fi=c.toNat by
  rw[<-hfi];constructor
  ·rintro rfl;rfl
  ·intro e;exact UInt8.toNat_inj.1 (by omega))
 have HU:=hid (show∀n,nm s.data.toList=some n->u=n from λn e=>by rw[<-hu,e];rfl);unfold oN at HP;rw[hu] at HP;rw[hfi];clear hfi hu hE;obtain⟨vs,⟨i1,s1,s2,i2,i3,b1,i4,b2,i5,i6,b3,b4,i7,i8,b5,rfl⟩,hc⟩:=h;have HC:=hid hc;obtain⟨k0,f0,k1,f1,k2,f2,k3,f3,k4,f4,k5,f5,k6,f6,k7,f7,k8,f8,k9,f9,k10,f10,k11,f11,k12,f12,k13,f13,k14,f14,k15,f15⟩:iA w b (.int .i64 op) (.int .i64 i1) (.string s1) (.string s2) (.int .u32 i2) (.int .i64 i3) (.bool b1) (.int .u64 i4) (.bool b2) (.int .u64 i5) (.int .u64 i6) (.bool b3) (.bool b4) (.int .i64 i7) (.int .i64 i8) (.bool b5):=bV (hc);clear hc;go_enter func338,ntmps338;by_cases Ew:fi=67
 ·have ZF:(fi == 67)=true:=by simp[Ew]
  have HQ:=hid (show GB.arg (decide (op=3)) fl s=(nm s.data.toList).isSome by rw[(HF.out 67).2 Ew];rfl);clear Ew HF
  go_wp2_with (first
   |(go_at_call 173;refine(HP.out _ (bF.turn ((ai HC.out 7 _).set 8 _) ⟨_,_,_,_,_,_,_,_,_,_,_,_,_,_,_,rfl⟩)).mono ?_;rintro e w2 ⟨rfl,ht2⟩
     obtain⟨_,⟨j1,z1,z2,j2,j3,y1,j4,y2,j5,j6,y3,y4,j7,j8,y5,rfl⟩,hc2⟩:=ht2.here;have yK:=hid hc2;have HT2:=hid ht2;obtain⟨l0,g0,l1,g1,l2,g2,l3,g3,l4,g4,l5,g5,l6,g6,l7,g7,l8,g8,l9,g9,l10,g10,Ti,g11,NC,g12,ND,g13,NF,g14,NG,g15⟩:iA w2 b (.int .i64 op) (.int .i64 j1) (.string z1) (.string z2) (.int .u32 j2) (.int .i64 j3) (.bool y1) (.int .u64 j4) (.bool y2) (.int .u64 j5) (.int .u64 j6) (.bool y3) (.bool y4) (.int .i64 j7) (.int .i64 j8) (.bool y5):=bV (hc2);clear hc2 ht2))
  go_ret;exact⟨ay (HQ.out.symm),HT2.out.trans (bF.turn (ai yK.out 7 _) ⟨_,_,_,_,_,_,_,_,_,_,_,_,_,_,_,rfl⟩)⟩
 have r67:(fi == 67)=false:=by simp[Ew]
 have t67:=hid (show¬fl=67 from λe=>Ew ((HF.out 67).1 e));clear Ew;by_cases Ex:fi=68
 ·have ZG:(fi == 68)=true:=by simp[Ex]
  have HQ:=hid (show GB.arg (decide (op=3)) fl s=(nm s.data.toList).isSome by rw[(HF.out 68).2 Ex];rfl);clear Ex HF
  go_wp2_with (first
   |(go_at_call 173;refine(HP.out _ (HH.out)).mono ?_;rintro e w2 ⟨rfl,ht2⟩
     obtain⟨_,⟨j1,z1,z2,j2,j3,y1,j4,y2,j5,j6,y3,y4,j7,j8,y5,rfl⟩,hc2⟩:=ht2.here;have yK:=hid hc2;have HT2:=hid ht2;obtain⟨l0,g0,l1,g1,l2,g2,l3,g3,l4,g4,l5,g5,l6,g6,l7,g7,l8,g8,l9,g9,l10,g10,Ti,g11,NC,g12,ND,g13,NF,g14,NG,g15⟩:iA w2 b (.int .i64 op) (.int .i64 j1) (.string z1) (.string z2) (.int .u32 j2) (.int .i64 j3) (.bool y1) (.int .u64 j4) (.bool y2) (.int .u64 j5) (.int .u64 j6) (.bool y3) (.bool y4) (.int .i64 j7) (.int .i64 j8) (.bool y5):=bV (hc2);clear hc2 ht2))
  go_ret;exact⟨ay (HQ.out.symm),HT2.out.trans (bF.turn (ai yK.out 9 _) ⟨_,_,_,_,_,_,_,_,_,_,_,_,_,_,_,rfl⟩)⟩
 have r68:(fi == 68)=false:=by simp[Ex]
 have t68:=hid (show¬fl=68 from λe=>Ex ((HF.out 68).1 e));clear Ex;by_cases Ey:fi=74
 ·have ZH:(fi == 74)=true:=by simp[Ey]
  have HQ:=hid (show GB.arg (decide (op=3)) fl s=(nm s.data.toList).isSome by rw[(HF.out 74).2 Ey];rfl);clear Ey HF
  go_wp2_with (first
   |(go_at_call 173;refine(HP.out _ (HH.out)).mono ?_;rintro e w2 ⟨rfl,ht2⟩
     obtain⟨_,⟨j1,z1,z2,j2,j3,y1,j4,y2,j5,j6,y3,y4,j7,j8,y5,rfl⟩,hc2⟩:=ht2.here;have yK:=hid hc2;have HT2:=hid ht2;obtain⟨l0,g0,l1,g1,l2,g2,l3,g3,l4,g4,l5,g5,l6,g6,l7,g7,l8,g8,l9,g9,l10,g10,Ti,g11,NC,g12,ND,g13,NF,g14,NG,g15⟩:iA w2 b (.int .i64 op) (.int .i64 j1) (.string z1) (.string z2) (.int .u32 j2) (.int .i64 j3) (.bool y1) (.int .u64 j4) (.bool y2) (.int .u64 j5) (.int .u64 j6) (.bool y3) (.bool y4) (.int .i64 j7) (.int .i64 j8) (.bool y5):=bV (hc2);clear hc2 ht2))
  go_ret;exact⟨ay (HQ.out.symm),HT2.out.trans (bF.turn (ai yK.out 10 _) ⟨_,_,_,_,_,_,_,_,_,_,_,_,_,_,_,rfl⟩)⟩
 have r74:(fi == 74)=false:=by simp[Ey]
 have t74:=hid (show¬fl=74 from λe=>Ey ((HF.out 74).1 e));clear Ey;by_cases Ez:fi=70
 ·have ZI:(fi == 70)=true:=by simp[Ez]
  have HQ:=hid (show GB.arg (decide (op=3)) fl s=(match nm s.data.toList with|some n=>decide (n<4294967296)|none=>false) by rw[(HF.out 70).2 Ez];rfl);clear Ez HF;cases hi:nm s.data.toList with
  |none=>
   rw[hi] at HQ HP;clear HU hi
   go_wp2_with (first
    |(go_at_call 173;refine(HP.out _ (HH.out)).mono ?_;rintro e w2 ⟨rfl,ht2⟩
      obtain⟨_,⟨j1,z1,z2,j2,j3,y1,j4,y2,j5,j6,y3,y4,j7,j8,y5,rfl⟩,hc2⟩:=ht2.here;have yK:=hid hc2;have HT2:=hid ht2;obtain⟨l0,g0,l1,g1,l2,g2,l3,g3,l4,g4,l5,g5,l6,g6,l7,g7,l8,g8,l9,g9,l10,g10,Ti,g11,NC,g12,ND,g13,NF,g14,NG,g15⟩:iA w2 b (.int .i64 op) (.int .i64 j1) (.string z1) (.string z2) (.int .u32 j2) (.int .i64 j3) (.bool y1) (.int .u64 j4) (.bool y2) (.int .u64 j5) (.int .u64 j6) (.bool y3) (.bool y4) (.int .i64 j7) (.int .i64 j8) (.bool y5):=bV (hc2);clear hc2 ht2))
   go_ret;exact⟨ay (HQ.out.symm),HT2.out.trans (bF.turn (ai yK.out 4 _) ⟨_,_,_,_,_,_,_,_,_,_,_,_,_,_,_,rfl⟩)⟩
  |some n=>
   rw[hi] at HQ HP;have hu:=HU.out n hi;subst hu;clear HU hi
   go_wp2_with (first
    |(go_at_call 173;refine(HP.out _ (HH.out)).mono ?_;rintro e w2 ⟨rfl,ht2⟩
      obtain⟨_,⟨j1,z1,z2,j2,j3,y1,j4,y2,j5,j6,y3,y4,j7,j8,y5,rfl⟩,hc2⟩:=ht2.here;have yK:=hid hc2;have HT2:=hid ht2;obtain⟨l0,g0,l1,g1,l2,g2,l3,g3,l4,g4,l5,g5,l6,g6,l7,g7,l8,g8,l9,g9,l10,g10,Ti,g11,NC,g12,ND,g13,NF,g14,NG,g15⟩:iA w2 b (.int .i64 op) (.int .i64 j1) (.string z1) (.string z2) (.int .u32 j2) (.int .i64 j3) (.bool y1) (.int .u64 j4) (.bool y2) (.int .u64 j5) (.int .u64 j6) (.bool y3) (.bool y4) (.int .i64 j7) (.int .i64 j8) (.bool y5):=bV (hc2);clear hc2 ht2))
   go_ret;exact⟨ay ((decide_eq_decide.2 (by omega)).trans HQ.out.symm),HT2.out.trans (bF.turn (ai yK.out 4 _) ⟨_,_,_,_,_,_,_,_,_,_,_,_,_,_,_,rfl⟩)⟩
 have r70:(fi == 70)=false:=by simp[Ez]
 have t70:=hid (show¬fl=70 from λe=>Ez ((HF.out 70).1 e));clear Ez;by_cases EA:fi=77
 ·have ZJ:(fi == 77)=true:=by simp[EA]
  have HQ:=hid (show GB.arg (decide (op=3)) fl s=GB.cB (decide (op=3)) s by rw[(HF.out 77).2 EA];rfl);clear EA HF;have HM:=hid (Wy (s:=s) HH.out.here);go_wp2_with (go_at_call 358;refine HM.out.mono ?_;rintro e w2 ⟨rfl,ht⟩;have HT2:=hid ht;clear ht)
  go_ret;exact⟨ay (HQ.out.symm),HT2.out⟩
 have r77:(fi == 77)=false:=by simp[EA]
 have t77:=hid (show¬fl=77 from λe=>EA ((HF.out 77).1 e));clear EA;by_cases EB:fi=78
 ·have ZK:(fi == 78)=true:=by simp[EB]
  have HQ:=hid (show GB.arg (decide (op=3)) fl s=sc s.data.toList by rw[(HF.out 78).2 EB];rfl);clear EB HF
  go_wp2_with (first
   |(go_at_call 359;refine(HS.out _ (bF.turn (ai HC.out 12 _) ⟨_,_,_,_,_,_,_,_,_,_,_,_,_,_,_,rfl⟩)).mono ?_;rintro e w2 ⟨v,rfl,ht2⟩
     obtain⟨_,⟨j1,z1,z2,j2,j3,y1,j4,y2,j5,j6,y3,y4,j7,j8,y5,rfl⟩,hc2⟩:=ht2.here;have yK:=hid hc2;have HT2:=hid ht2;obtain⟨l0,g0,l1,g1,l2,g2,l3,g3,l4,g4,l5,g5,l6,g6,l7,g7,l8,g8,l9,g9,l10,g10,Ti,g11,NC,g12,ND,g13,NF,g14,NG,g15⟩:iA w2 b (.int .i64 op) (.int .i64 j1) (.string z1) (.string z2) (.int .u32 j2) (.int .i64 j3) (.bool y1) (.int .u64 j4) (.bool y2) (.int .u64 j5) (.int .u64 j6) (.bool y3) (.bool y4) (.int .i64 j7) (.int .i64 j8) (.bool y5):=bV (hc2);clear hc2 ht2))
  go_ret;exact⟨ay (HQ.out.symm),HT2.out.trans (bF.turn (ai yK.out 13 _) ⟨_,_,_,_,_,_,_,_,_,_,_,_,_,_,_,rfl⟩)⟩
 have r78:(fi == 78)=false:=by simp[EB]
 have t78:=hid (show¬fl=78 from λe=>EB ((HF.out 78).1 e));clear EB;by_cases uy:fi=82
 ·have VO:(fi == 82)=true:=by simp[uy]
  have HQ:=hid (show GB.arg (decide (op=3)) fl s=sc s.data.toList by rw[(HF.out 82).2 uy];rfl);clear uy HF
  go_wp2_with (first
   |(go_at_call 359;refine(HS.out _ (HH.out)).mono ?_;rintro e w2 ⟨v,rfl,ht2⟩
     obtain⟨_,⟨j1,z1,z2,j2,j3,y1,j4,y2,j5,j6,y3,y4,j7,j8,y5,rfl⟩,hc2⟩:=ht2.here;have yK:=hid hc2;have HT2:=hid ht2;obtain⟨l0,g0,l1,g1,l2,g2,l3,g3,l4,g4,l5,g5,l6,g6,l7,g7,l8,g8,l9,g9,l10,g10,Ti,g11,NC,g12,ND,g13,NF,g14,NG,g15⟩:iA w2 b (.int .i64 op) (.int .i64 j1) (.string z1) (.string z2) (.int .u32 j2) (.int .i64 j3) (.bool y1) (.int .u64 j4) (.bool y2) (.int .u64 j5) (.int .u64 j6) (.bool y3) (.bool y4) (.int .i64 j7) (.int .i64 j8) (.bool y5):=bV (hc2);clear hc2 ht2))
  go_ret;exact⟨ay (HQ.out.symm),HT2.out.trans (bF.turn (ai yK.out 14 _) ⟨_,_,_,_,_,_,_,_,_,_,_,_,_,_,_,rfl⟩)⟩
 have r82:(fi == 82)=false:=by simp[uy]
 have t82:=hid (show¬fl=82 from λe=>uy ((HF.out 82).1 e));clear uy;by_cases ED:fi=84
 ·have ZM:(fi == 84)=true:=by simp[ED]
  have HQ:=hid (show GB.arg (decide (op=3)) fl s=sc s.data.toList by rw[(HF.out 84).2 ED];rfl);clear ED HF
  go_wp2_with (first
   |(go_at_call 359;refine(HS.out _ (bF.turn (ai HC.out 6 _) ⟨_,_,_,_,_,_,_,_,_,_,_,_,_,_,_,rfl⟩)).mono ?_;rintro e w2 ⟨v,rfl,ht2⟩
     obtain⟨_,⟨j1,z1,z2,j2,j3,y1,j4,y2,j5,j6,y3,y4,j7,j8,y5,rfl⟩,hc2⟩:=ht2.here;have yK:=hid hc2;have HT2:=hid ht2;obtain⟨l0,g0,l1,g1,l2,g2,l3,g3,l4,g4,l5,g5,l6,g6,l7,g7,l8,g8,l9,g9,l10,g10,Ti,g11,NC,g12,ND,g13,NF,g14,NG,g15⟩:iA w2 b (.int .i64 op) (.int .i64 j1) (.string z1) (.string z2) (.int .u32 j2) (.int .i64 j3) (.bool y1) (.int .u64 j4) (.bool y2) (.int .u64 j5) (.int .u64 j6) (.bool y3) (.bool y4) (.int .i64 j7) (.int .i64 j8) (.bool y5):=bV (hc2);clear hc2 ht2))
  go_ret;exact⟨ay (HQ.out.symm),HT2.out.trans (bF.turn (ai yK.out 5 _) ⟨_,_,_,_,_,_,_,_,_,_,_,_,_,_,_,rfl⟩)⟩
 have r84:(fi == 84)=false:=by simp[ED]
 have t84:=hid (show¬fl=84 from λe=>ED ((HF.out 84).1 e));clear ED;by_cases EC:fi=79
 ·have ZL:(fi == 79)=true:=by simp[EC]
  have HQ:=hid (show GB.arg (decide (op=3)) fl s=decide (1<=s.size/\s.size<=32) by rw[(HF.out 79).2 EC];rfl);clear EC HF;have he:=fJ s;by_cases z1:1<=s.size
  ·rw[decide_eq_false (show¬s.size=0 by omega)] at he;by_cases z2:s.size<=32
   ·rw[decide_eq_true (show 1<=s.size/\s.size<=32 from⟨z1,z2⟩)] at HQ;have z2':(s.size:Int)<=32:=by omega
    go_wp2
    go_ret;exact⟨ay (HQ.out.symm),bF.turn (ag.rfl' HC.out) ⟨_,_,_,_,_,_,_,_,_,_,_,_,_,_,_,rfl⟩⟩
   ·rw[decide_eq_false (show¬(1<=s.size/\s.size<=32) from λx=>z2 x.2)] at HQ;have z2':¬(s.size:Int)<=32:=by omega
    go_wp2
    go_ret;exact⟨ay (HQ.out.symm),bF.turn (ag.rfl' HC.out) ⟨_,_,_,_,_,_,_,_,_,_,_,_,_,_,_,rfl⟩⟩
  ·rw[decide_eq_true (show s.size=0 by omega)] at he;rw[decide_eq_false (show¬(1<=s.size/\s.size<=32) from λx=>z1 x.1)] at HQ;go_wp2
   go_ret;exact⟨ay (HQ.out.symm),bF.turn (ag.rfl' HC.out) ⟨_,_,_,_,_,_,_,_,_,_,_,_,_,_,_,rfl⟩⟩
 have r79:(fi == 79)=false:=by simp[EC]
 have t79:=hid (show¬fl=79 from λe=>EC ((HF.out 79).1 e));clear EC;have HQ:=hid (show GB.arg (decide (op=3)) fl s=s.toList.isEmpty by
  unfold GB.arg;rw[if_neg (λe=>e.elim t67.out (λe=>e.elim t68.out t74.out)),if_neg t70.out,if_neg t77.out,if_neg (λe=>e.elim t78.out (λe=>e.elim t82.out t84.out)),if_neg t79.out,fJ])
 clear HF t67 t68 t74 t70 t77 t78 t79 t82 t84;cases b5
 ·go_wp2
  all_goals go_ret
  all_goals exact⟨ay (HQ.out.symm),bF.turn (ai HC.out 15 _) ⟨_,_,_,_,_,_,_,_,_,_,_,_,_,_,_,rfl⟩⟩
 ·go_wp2
  all_goals go_ret
  all_goals exact⟨ay (HQ.out.symm),bF.turn (ai HC.out 15 _) ⟨_,_,_,_,_,_,_,_,_,_,_,_,_,_,_,rfl⟩⟩
end Go.Proofs.YtboehbfagnocpaaGreatDoor
