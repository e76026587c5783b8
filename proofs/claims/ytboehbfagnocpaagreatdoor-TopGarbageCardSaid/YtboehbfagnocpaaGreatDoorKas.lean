import Derived.Test.YtboehbfagnocpaaGreatDoorKai
import Derived.Test.YtboehbfagnocpaaGreatDoorKal
import Derived.Test.YtboehbfagnocpaaGreatDoorKaj
set_option linter.unusedVariables false
set_option linter.unusedSimpArgs false
set_option maxRecDepth 100000
set_option maxHeartbeats 40000000
open Go.Proofs.Tryz
open Go.Lib (hid)
namespace Go.Proofs.YtboehbfagnocpaaGreatDoor.GB
def sh(n:Nat):Rs->Rs
 | .other=> .other
 | .bad t u=> .bad t (n+u)
def wt(b:ByteArray):Rs:=if ln b=0\/2048<ln b then .other else if ws b= [] then .bad bg 0 else text (ws b) (b.extract (ln b) b.size)
end Go.Proofs.YtboehbfagnocpaaGreatDoor.GB
namespace Go.Proofs.YtboehbfagnocpaaGreatDoor
open Go.RowKit Go.PlainAid Go.Shelf
open W2 (RS)
def Rv(r:GB.Rs)(v:Value)(m:Int):Prop:=match r with
 | .bad t u=>v=cO t 0/\m=(u:Nat)
 | .other=>okV v
theorem Rv.shape{r:GB.Rs}{v:Value}{m:Int}(h:Rv r v m):∃(k:Int) (ca:Option Addr) (cn cc:Nat) (q tk:Bool) (s1 s2:ByteArray) (sk:Int) (cl:Bool) (s3:ByteArray) (fa:Option Addr) (fn fc:Nat) (s4:ByteArray),v=.agg #[.int .i64 k,.slice ca cn cc,.bool q,.bool tk,.string s1,.string s2,.int .i64 sk,.bool cl,.string s3,.slice fa fn fc,.string s4]:=by
 cases r with
 |other=>obtain⟨k,ca,cn,cc,q,tk,s1,s2,sk,cl,s3,fa,fn,fc,s4,rfl,_⟩:=h;exact⟨_,_,_,_,_,_,_,_,_,_,_,_,_,_,_,rfl⟩
 |bad t u=>obtain⟨rfl,_⟩:=h;exact⟨2,none,0,0,false,false,t,_,0,false,_,none,0,0,_,rfl⟩
theorem tq.rv{w w':World}{r:GB.Rs}{e:Ending}{n:Nat}(h:tq w r e w')(hu:∀t u,r=.bad t u->u=0):∃v,e=.returned v/\Rv (GB.sh n r) v n/\Below w.heap.size w w':=by
 obtain⟨hb,h⟩:=h;cases r with
 |other=>obtain⟨v,rfl,h⟩:=h;exact⟨v,rfl,h,hb⟩
 |bad t u=>exact⟨_,h,⟨rfl,by rw[hu t u rfl];rfl⟩,hb⟩
theorem fI.rv{w w':World}{r:GB.Rs}{e:Ending}(h:fI w r e w'):∃v m,e=.returned (.tuple #[v,.int .i64 m])/\Rv r v m/\Below w.heap.size w w':=by
 obtain⟨hb,h⟩:=h;cases r with
 |other=>obtain⟨v,m,rfl,h⟩:=h;exact⟨v,m,rfl,h,hb⟩
 |bad t u=>exact⟨_,_,h,⟨rfl,rfl⟩,hb⟩
theorem nb'{b:Bool}(h:¬b=true):b=false:=by cases b<;>simp_all
theorem ko{f:Func}{k j:Nat}(hres:f.results= #[.cell k 33,.tmp j]){tmps:Array Value}{w w1:World}{N:Nat}{r:GB.Rs}{m:Int}{v0 v1 v2 v3 v4 v5 v6 v7 v8 v9 v10:Value}
 (h2:tmps.getD k undef=.pointer (some ⟨N,0,none⟩)) (hm:tmps.getD j undef=.int .i64 m) (hN:w.heap.size=N) (hb:Below w.heap.size w w1) (hB:(aG N aH 33).R w1) (hr:Rv r (.agg #[v0,v1,v2,v3,v4,v5,v6,v7,v8,v9,v10]) m):
 bodyPost prog f (fI w r) .ret {tmps:=tmps,defers:=[]} (aS N 0 [v0,v1,v2,v3,v4,v5,v6,v7,v8,v9,v10] w1):=by
 cases r with
 |other=>exact gD hres h2 hm hN hb hB rfl hr
 |bad t u=>
  obtain⟨h,rfl⟩:=hr;simp[cO] at h;obtain⟨rfl,rfl,rfl,rfl,rfl,rfl,rfl,rfl,rfl,rfl,rfl⟩:=h;exact aY hres h2 hm rfl hN (Below.refl _ _) hb hB rfl
theorem K_(b:ByteArray)(w:World)(hb:b.size<=900000):Calls prog 39 #[.string b] w (fI w (GB.sh (GB.ln b) (GB.wt b))):=by
 obtain⟨R0,hR0⟩:∃R0,GB.sh (GB.ln b) (GB.wt b)=R0:=⟨_,rfl⟩;rw[hR0];have FX:=hid hR0;clear hR0;have HF:=hid (λw'=>Ki b w' (by omega));unfold FrP at HF;have hlt:=GB.eU b;have HS:=hid (λw'=>W2.iZ (W2.aX b) w' (by omega));have B0:=aA w aH 33;have hb0:=bA w (.cells aH 33);obtain⟨N,hN⟩:∃N,w.heap.size=N:=⟨_,rfl⟩;obtain⟨W,hW⟩:∃W,w.alloc (.cells aH 33)=W:=⟨_,rfl⟩;rw[hW,hN] at B0;rw[hW] at hb0;simp only[aH] at hW;have HB:=hid nT;unfold cO at HB;have HB0:=hid B0;have HW:=hid hb0;have HZ:=hid hb;clear B0 hb0;go_enter func39,ntmps39;go_wp2_with (fail)
 try rw[hW]
 clear hW;go_at_call 85;refine(HF.out _).mono ?_;rintro e w1 ⟨hb1,h1,h2⟩;by_cases hg:1<=GB.ln b/\GB.ln b<=2048
 rotate_left
 ·obtain⟨v,m,⟨k,ca,cn,cc,q,tk,s1,s2,sk,cl,s3,fa,fn,fc,s4,rfl,hok⟩,rfl⟩:=h2 hg;have HR:=hid (show Rv R0 (.agg #[.int .i64 k,.slice ca cn cc,.bool q,.bool tk,.string s1,.string s2,.int .i64 sk,.bool cl,.string s3,.slice fa fn fc,.string s4]) m by
   rw[<-FX.out,show GB.wt b=.other from if_pos (by omega)];exact⟨k,ca,cn,cc,q,tk,s1,s2,sk,cl,s3,fa,fn,fc,s4,rfl,hok⟩)
  have jv:=hid ((bR HW.out.size HW.out hb1).alloc (Nat.le_trans HW.out.size hb1.size) (.cells #[.int .i64 k,.slice ca cn cc,.bool q,.bool tk,.string s1,.string s2,.int .i64 sk,.bool cl,.string s3,.slice fa fn fc,.string s4] 33));have B1:=ae (ae HB0.out hb1) (bA w1 (.cells #[.int .i64 k,.slice ca cn cc,.bool q,.bool tk,.string s1,.string s2,.int .i64 sk,.bool cl,.string s3,.slice fa fn fc,.string s4] 33));obtain⟨n0,p0,n1,p1,n2,p2,n3,p3,n4,p4,n5,p5,n6,p6,n7,p7,n8,p8,n9,p9,n10,bE⟩:=au B1;have HB1:=hid B1;clear h1 h2 hb1 hok hg B1;go_wp2_with (fail)
  exact ko (N:=N) (v0:=.int .i64 k) (v1:=.slice ca cn cc) (v2:=.bool q) (v3:=.bool tk) (v4:=.string s1) (v5:=.string s2) (v6:=.int .i64 sk) (v7:=.bool cl) (v8:=.string s3) (v9:=.slice fa fn fc) (v10:=.string s4) rfl rfl rfl hN jv.out HB1.out HR.out
 ·obtain rfl:=h1 hg;obtain⟨n,hn⟩:∃n,GB.ln b=n:=⟨_,rfl⟩;have Sk:=hid (show GB.wt b=if GB.ws b= [] then .bad GB.bg 0 else GB.text (GB.ws b) (b.extract n b.size) by unfold GB.wt;rw[if_neg (by omega),hn]);have hnb:=GB.uq b;rw[hn] at hg hnb FX;unfold OQ;have hbb:=(bR HW.out.size HW.out hb1).alloc (Nat.le_trans HW.out.size hb1.size) (.cells aH 33);have B1:=ae (ae HB0.out hb1) (bA w1 (.cells aH 33));obtain⟨Y,hY⟩:∃Y,w1.alloc (.cells aH 33)=Y:=⟨_,rfl⟩;rw[hY] at hbb B1;simp only[aH] at hY;have WW:=hid hY;clear h1 h2 hb1 HF HB0 hY;go_upto_region 4 with fail
  rw[WW.out];clear WW;have hsz:∀i,(GB.wd (GB.ws b) i).size<=1000000:=GB.Cx (Nat.le_trans HZ.out (by decide));have hwl:=GB.rX b;have lW:Hid (∀W',Calls prog 37 #[.string (W2.aX b)] W' λe w'=> ∃a cap,e=.returned (.slice a (GB.ws b).length cap)/\(GB.ws b).length<=cap/\RS w' (.slice a (GB.ws b).length cap) (GB.ws b)/\Below W'.heap.size W' w'):=hid (λW'=>(HS.out W').mono (λe w' h=>iL h));obtain⟨l,hl⟩:∃l,GB.ws b=l:=⟨_,rfl⟩;rw[hl] at lW hsz hwl Sk;obtain⟨k,hk⟩:∃k,l.length=k:=⟨_,rfl⟩;rw[hk] at lW hwl;clear HS hl;go_wp2_with (fail)
  go_at_call 37;refine(lW.out _).mono ?_;rintro e w2 ⟨a,cap,rfl,hc,hrs,hb2⟩;have jv:=hid (bR hbb.size hbb hb2);have HB1:=hid (ae B1 hb2);clear lW hbb B1 hb2;rcases Nat.eq_zero_or_pos k with rfl|h0
  ·have HR:=hid (show GB.wt b=.bad GB.bg 0 by rw[Sk.out,if_pos (List.length_eq_zero_iff.1 hk)]);have BD:=hid (show R0=.bad GB.bg n by rw[<-FX.out,HR.out];rfl);clear hk hrs hsz;go_wp2_with (go_at_call 86;refine(HB.out _ _).mono ?_;rintro e w4 ⟨rfl,hb4⟩;have B4:=ae HB1.out hb4;obtain⟨n0,p0,n1,p1,n2,p2,n3,p3,n4,p4,n5,p5,n6,p6,n7,p7,n8,p8,n9,p9,n10,bE⟩:=au B4)
   exact aY (N:=N) (t:=GB.bg) (u:=n) rfl rfl rfl rfl hN jv.out hb4 B4 BD.out
  ·obtain⟨ab,ao,rfl,hab,hx0⟩:=RS.at' hrs (i:=0) h0;rw[Nat.add_zero] at hx0;have WX:=hid (show GB.wt b=GB.text l (b.extract n b.size) by rw[Sk.out,if_neg (λe=>by rw[e] at hk;simp at hk;omega)]);obtain⟨x,hx⟩:∃x,GB.wd l 0=x:=⟨_,rfl⟩;rw[hx] at hx0;have z0:(0:Int)<k:=by omega
   have z1:¬(k:Int)=0:=by omega
   have z2:((k:Int) == 0)=false:=by simp;omega
   have z3:(n:Int)<=b.size:=by omega
   have HG:=hid (EU hrs hc (by have:=HZ.out;omega) h0 hsz);have WY:=hid (λ(e:GB.iC x=true)=>Be hrs hc (by have:=HZ.out;omega) h0 (by rw[hx];exact e) hsz);have HST:=hid (Sj (B:=b.extract n b.size) hrs hc (by have:=HZ.out;omega) h0 hsz (by have:=HZ.out;simp;omega));have HX:=hid hx;have HK:=hid (And.intro hk h0);have HEX:=hid (show (b.extract n b.size).size<=1000000 by have:=HZ.out;simp;omega);have LW:=hid (And.intro hg hnb);have Tj:=hid (show k=2->w2.cell? ⟨ab,ao+1,none⟩=some (.string (GB.wd l 1)) from λe=>by
    obtain⟨b',o',e',_,hx'⟩:=RS.at' hrs (i:=1) (by omega);cases e';exact hx')
   clear hrs hsz hwl hk hx Sk hab;have HT:=hid (show GB.text l (b.extract n b.size)=if GB.oP x then GB.gets l else if GB.jh x then GB.store l (b.extract n b.size) else if GB.iC x then GB.short l else GB.plain l by unfold GB.text;rw[HX.out]);have hz0:=h0;have HR1:=hid (show R0=GB.sh n (GB.text l (b.extract n b.size)) by rw[<-FX.out,WX.out]);clear h0 WX FX;by_cases hgt:GB.oP x=true
   ·have HE:=hid (show GB.text l (b.extract n b.size)=GB.gets l by rw[HT.out,if_pos hgt]);have BD:=hid (HR1.out.trans (congrArg (GB.sh n) HE.out));have hn2:x=GB.yD\/x=GB.jX\/x=GB.nS\/x=GB.gq:=of_decide_eq_true hgt;clear HX HT HST WY;simp only[GB.yD,GB.jX,GB.nS,GB.gq] at hn2;rcases hn2 with rfl|rfl|rfl|rfl
    all_goals
     clear hgt;go_wp2_with (go_at_call 88;refine HG.out.mono ?_;rintro e w4 hr;obtain⟨v,rfl,iM,hb4⟩:=hr.rv (n:=n) (λt u=>GB.AR);obtain⟨k1,ca,cn,cc,q,tk,s1,s2,sk,cl,s3,fa,fn,fc,s4,rfl⟩:=iM.shape;have B4:=hid (ae HB1.out hb4);have HR:=hid iM;have gF:=hid (bR jv.out.size jv.out hb4);obtain⟨n0,p0,n1,p1,n2,p2,n3,p3,n4,p4,n5,p5,n6,p6,n7,p7,n8,p8,n9,p9,n10,bE⟩:=au B4.out;clear hr iM hb4)
     exact ko (N:=N) (v0:=.int .i64 k1) (v1:=.slice ca cn cc) (v2:=.bool q) (v3:=.bool tk) (v4:=.string s1) (v5:=.string s2) (v6:=.int .i64 sk) (v7:=.bool cl) (v8:=.string s3) (v9:=.slice fa fn fc) (v10:=.string s4) (w1:=w4) rfl rfl rfl hN gF.out B4.out (by rw[BD.out];exact HR.out)
   have hg0:GB.oP x=false:=nb' hgt;by_cases hst:GB.jh x=true
   ·have HE:=hid (show GB.text l (b.extract n b.size)=GB.store l (b.extract n b.size) by rw[HT.out,hg0,if_neg (by simp),if_pos hst]);have hn2:x=GB.AB\/x=GB.AJ\/x=GB.gW\/x=GB.jc\/x=GB.gX\/x=GB.gB:=of_decide_eq_true hst;obtain⟨r0,hr0⟩:∃r0,GB.store l (b.extract n b.size)=r0:=⟨_,rfl⟩;have HU:=hid (show∀t u,r0=.bad t u->u<=1000000 from λt u e=>Nat.le_trans (GB.Cz (hr0.trans e)) HEX.out);rw[hr0] at HST;have BD:=hid (show R0=GB.sh n r0 by rw[HR1.out,HE.out,hr0]);clear HX HT HG WY HE hg0 hgt hr0;simp only[GB.AB,GB.AJ,GB.gW,GB.jc,GB.gX,GB.gB] at hn2;rcases hn2 with rfl|rfl|rfl|rfl|rfl|rfl
    all_goals
     clear hst;go_upto_region 19 with fail
     go_upto_region 20 with (go_at_call 89;refine HST.out.mono ?_;rintro e w4 hr;obtain⟨v,m,rfl,iM,hb4⟩:=hr.rv;obtain⟨k1,ca,cn,cc,q,tk,s1,s2,sk,cl,s3,fa,fn,fc,s4,rfl⟩:=iM.shape;have La:=hid ((bR jv.out.size jv.out hb4).alloc (Nat.le_trans jv.out.size hb4.size) (.cells #[.int .i64 k1,.slice ca cn cc,.bool q,.bool tk,.string s1,.string s2,.int .i64 sk,.bool cl,.string s3,.slice fa fn fc,.string s4] 33));have B4:=hid (ae (ae HB1.out hb4) (bA w4 (.cells #[.int .i64 k1,.slice ca cn cc,.bool q,.bool tk,.string s1,.string s2,.int .i64 sk,.bool cl,.string s3,.slice fa fn fc,.string s4] 33)));have HR:=hid iM;obtain⟨n0,p0,n1,p1,n2,p2,n3,p3,n4,p4,n5,p5,n6,p6,n7,p7,n8,p8,n9,p9,n10,bE⟩:=au B4.out;clear hr iM hb4)
     by_cases hm:m<0
     ·have HRR:=hid (show Rv (GB.sh n r0) (.agg #[.int .i64 0,.slice none 0 0,.bool false,.bool false,.string ⟨#[]⟩,.string ⟨#[]⟩,.int .i64 0,.bool false,.string ⟨#[]⟩,.slice none 0 0,.string ⟨#[]⟩]) 0 by
       have h:=HR.out;cases r0 with
       |other=>exact⟨0,_,_,_,_,_,_,_,_,_,_,_,_,_,_,rfl,.inl (by decide)⟩
       |bad t u=>exact absurd hm (by have:=h.2;omega))
      go_wp2_with (fail)
      exact ko (N:=N) (v0:=.int .i64 0) (v1:=.slice none 0 0) (v2:=.bool false) (v3:=.bool false) (v4:=.string ⟨#[]⟩) (v5:=.string ⟨#[]⟩) (v6:=.int .i64 0) (v7:=.bool false) (v8:=.string ⟨#[]⟩) (v9:=.slice none 0 0) (v10:=.string ⟨#[]⟩) rfl rfl rfl hN La.out B4.out (by rw[BD.out];exact HRR.out)
     ·have HRR:=hid (show Rv (GB.sh n r0) (.agg #[.int .i64 k1,.slice ca cn cc,.bool q,.bool tk,.string s1,.string s2,.int .i64 sk,.bool cl,.string s3,.slice fa fn fc,.string s4]) (IntKind.i64.wrap ((n:Int)+m)) by
       have h:=HR.out;cases r0 with
       |other=>exact h
       |bad t u=>
        refine⟨h.1,?_⟩;have h1:=h.2;have h2:=HU.out t u rfl;have h3:=LW.out.1;rw[IntKind.wrap_i64];omega)
      go_wp2_with (fail)
      exact ko (N:=N) (v0:=.int .i64 k1) (v1:=.slice ca cn cc) (v2:=.bool q) (v3:=.bool tk) (v4:=.string s1) (v5:=.string s2) (v6:=.int .i64 sk) (v7:=.bool cl) (v8:=.string s3) (v9:=.slice fa fn fc) (v10:=.string s4) rfl rfl rfl hN La.out B4.out (by rw[BD.out];first|exact HRR.out|(rw[<-i64_is];exact HRR.out))
   have hs0:GB.jh x=false:=nb' hst;by_cases hsh:GB.iC x=true
   ·have HE:=hid (show GB.text l (b.extract n b.size)=GB.short l by rw[HT.out,hg0,hs0,if_neg (by simp),if_neg (by simp),if_pos hsh]);have BD:=hid (HR1.out.trans (congrArg (GB.sh n) HE.out));have hn2:x=GB.mR\/x=GB.mU\/x=GB.fw\/x=GB.eD\/x=GB.fZ\/x=GB.bN:=of_decide_eq_true hsh;have ZP:=hid (WY.out hsh);clear HX HT HG HST WY HE hg0 hgt hs0 hst;simp only[GB.mR,GB.mU,GB.fw,GB.eD,GB.fZ,GB.bN] at hn2;rcases hn2 with rfl|rfl|rfl|rfl|rfl|rfl
    all_goals
     clear hsh;go_wp2_with (go_at_call 90;refine ZP.out.mono ?_;rintro e w4 hr;obtain⟨v,rfl,iM,hb4⟩:=hr.rv (n:=n) (λt u=>GB.vH);obtain⟨k1,ca,cn,cc,q,tk,s1,s2,sk,cl,s3,fa,fn,fc,s4,rfl⟩:=iM.shape;have B4:=hid (ae HB1.out hb4);have HR:=hid iM;have gF:=hid (bR jv.out.size jv.out hb4);obtain⟨n0,p0,n1,p1,n2,p2,n3,p3,n4,p4,n5,p5,n6,p6,n7,p7,n8,p8,n9,p9,n10,bE⟩:=au B4.out;clear hr iM hb4)
     exact ko (N:=N) (v0:=.int .i64 k1) (v1:=.slice ca cn cc) (v2:=.bool q) (v3:=.bool tk) (v4:=.string s1) (v5:=.string s2) (v6:=.int .i64 sk) (v7:=.bool cl) (v8:=.string s3) (v9:=.slice fa fn fc) (v10:=.string s4) (w1:=w4) rfl rfl rfl hN gF.out B4.out (by rw[BD.out];exact HR.out)
   have tK:GB.iC x=false:=nb' hsh;have HR2:=hid (show R0=GB.sh n (GB.plain l) by rw[HR1.out,HT.out,hg0,hs0,tK,if_neg (by simp),if_neg (by simp),if_neg (by simp)]);have Tx:=hid (show GB.plain l=if (x=GB.dY\/x=GB.kX)/\k=1 then .other else if x=GB.gY/\k<=2 then .other else .bad GB.bg 0 by unfold GB.plain;rw[HX.out,HK.out.1]);clear HX HT HG HST WY HR1;by_cases fK:x=GB.dY
   ·by_cases k1:k=1
    ·have HE:=hid (show GB.plain l=.other by rw[Tx.out,if_pos ⟨by simp[fK],k1⟩]);subst k1 fK;simp only[GB.dY] at hx0;clear hgt hst hsh hg0 hs0 tK;obtain⟨n0,p0,n1,p1,n2,p2,n3,p3,n4,p4,n5,p5,n6,p6,n7,p7,n8,p8,n9,p9,n10,bE⟩:=au HB1.out;go_wp2_with (fail)
     exact ko (N:=N) (v0:=.int .i64 3) (v1:=.slice none 0 0) (v2:=.bool false) (v3:=.bool false) (v4:=.string ⟨#[]⟩) (v5:=.string ⟨#[]⟩) (v6:=.int .i64 0) (v7:=.bool false) (v8:=.string ⟨#[]⟩) (v9:=.slice none 0 0) (v10:=.string ⟨#[]⟩) rfl rfl rfl hN jv.out HB1.out (by rw[HR2.out,HE.out];exact⟨3,_,_,_,_,_,_,_,_,_,_,_,_,_,_,rfl,.inl (by decide)⟩)
    ·have HE:=hid (show GB.plain l=.bad GB.bg 0 by rw[Tx.out,if_neg (λh=>k1 h.2),if_neg (λh=>absurd (fK.symm.trans h.1) (by decide))]);have y1:¬(k:Int)=1:=by omega
     have y2:((k:Int) == 1)=false:=by simp;omega
     subst fK;simp only[GB.dY] at hx0;clear hgt hst hsh hg0 hs0 tK;go_wp2_with (go_at_call 86;refine(HB.out _ _).mono ?_;rintro e w4 ⟨rfl,hb4⟩;have B4:=ae HB1.out hb4;obtain⟨n0,p0,n1,p1,n2,p2,n3,p3,n4,p4,n5,p5,n6,p6,n7,p7,n8,p8,n9,p9,n10,bE⟩:=au B4)
     exact aY (N:=N) (t:=GB.bg) (u:=n) rfl rfl rfl rfl hN jv.out hb4 B4 (by rw[HR2.out,HE.out];rfl)
   by_cases lU:x=GB.kX
   ·by_cases k1:k=1
    ·have HE:=hid (show GB.plain l=.other by rw[Tx.out,if_pos ⟨by simp[lU],k1⟩]);subst k1 lU;simp only[GB.kX] at hx0;clear hgt hst hsh hg0 hs0 tK;obtain⟨n0,p0,n1,p1,n2,p2,n3,p3,n4,p4,n5,p5,n6,p6,n7,p7,n8,p8,n9,p9,n10,bE⟩:=au HB1.out;go_wp2_with (fail)
     exact ko (N:=N) (v0:=.int .i64 6) (v1:=.slice none 0 0) (v2:=.bool false) (v3:=.bool false) (v4:=.string ⟨#[]⟩) (v5:=.string ⟨#[]⟩) (v6:=.int .i64 0) (v7:=.bool true) (v8:=.string ⟨#[]⟩) (v9:=.slice none 0 0) (v10:=.string ⟨#[]⟩) rfl rfl rfl hN jv.out HB1.out (by rw[HR2.out,HE.out];exact⟨6,_,_,_,_,_,_,_,_,_,_,_,_,_,_,rfl,.inl (by decide)⟩)
    ·have HE:=hid (show GB.plain l=.bad GB.bg 0 by rw[Tx.out,if_neg (λh=>k1 h.2),if_neg (λh=>absurd (lU.symm.trans h.1) (by decide))]);have y1:¬(k:Int)=1:=by omega
     have y2:((k:Int) == 1)=false:=by simp;omega
     subst lU;simp only[GB.kX] at hx0;clear hgt hst hsh hg0 hs0 tK;go_wp2_with (go_at_call 86;refine(HB.out _ _).mono ?_;rintro e w4 ⟨rfl,hb4⟩;have B4:=ae HB1.out hb4;obtain⟨n0,p0,n1,p1,n2,p2,n3,p3,n4,p4,n5,p5,n6,p6,n7,p7,n8,p8,n9,p9,n10,bE⟩:=au B4)
     exact aY (N:=N) (t:=GB.bg) (u:=n) rfl rfl rfl rfl hN jv.out hb4 B4 (by rw[HR2.out,HE.out];rfl)
   by_cases Pp:x=GB.gY
   ·by_cases k1:k<=2
    ·have HE:=hid (show GB.plain l=.other by rw[Tx.out,if_neg (λh=>by rcases h.1 with e|e<;>exact absurd (Pp.symm.trans e) (by decide)),if_pos ⟨Pp,k1⟩]);by_cases k2:k=1
     ·subst k2 Pp;simp only[GB.gY] at hx0;clear hgt hst hsh hg0 hs0 tK;obtain⟨n0,p0,n1,p1,n2,p2,n3,p3,n4,p4,n5,p5,n6,p6,n7,p7,n8,p8,n9,p9,n10,bE⟩:=au HB1.out;go_wp2_with (fail)
      exact ko (N:=N) (v0:=.int .i64 5) (v1:=.slice none 0 0) (v2:=.bool false) (v3:=.bool false) (v4:=.string ⟨#[]⟩) (v5:=.string ⟨#[]⟩) (v6:=.int .i64 0) (v7:=.bool false) (v8:=.string ⟨#[]⟩) (v9:=.slice none 0 0) (v10:=.string ⟨#[]⟩) rfl rfl rfl hN jv.out HB1.out (by rw[HR2.out,HE.out];exact⟨5,_,_,_,_,_,_,_,_,_,_,_,_,_,_,rfl,.inl (by decide)⟩)
     ·obtain rfl:k=2:=by omega
      have hx1:=Tj.out rfl;subst Pp;simp only[GB.gY] at hx0;clear hgt hst hsh hg0 hs0 tK;obtain⟨n0,p0,n1,p1,n2,p2,n3,p3,n4,p4,n5,p5,n6,p6,n7,p7,n8,p8,n9,p9,n10,bE⟩:=au HB1.out;go_wp2_with (fail)
      exact ko (N:=N) (v0:=.int .i64 5) (v1:=.slice none 0 0) (v2:=.bool false) (v3:=.bool false) (v4:=.string ⟨#[]⟩) (v5:=.string (GB.wd l 1)) (v6:=.int .i64 0) (v7:=.bool false) (v8:=.string ⟨#[]⟩) (v9:=.slice none 0 0) (v10:=.string ⟨#[]⟩) rfl rfl rfl hN jv.out HB1.out (by rw[HR2.out,HE.out];exact⟨5,_,_,_,_,_,_,_,_,_,_,_,_,_,_,rfl,.inl (by decide)⟩)
    ·have HE:=hid (show GB.plain l=.bad GB.bg 0 by rw[Tx.out,if_neg (λh=>by rcases h.1 with e|e<;>exact absurd (Pp.symm.trans e) (by decide)),if_neg (λh=>k1 h.2)]);have y1:¬(k:Int)=1:=by omega
     have y2:((k:Int) == 1)=false:=by simp;omega
     have y3:¬(k:Int)=2:=by omega
     have y4:((k:Int) == 2)=false:=by simp;omega
     subst Pp;simp only[GB.gY] at hx0;clear hgt hst hsh hg0 hs0 tK;go_wp2_with (go_at_call 86;refine(HB.out _ _).mono ?_;rintro e w4 ⟨rfl,hb4⟩;have B4:=ae HB1.out hb4;obtain⟨n0,p0,n1,p1,n2,p2,n3,p3,n4,p4,n5,p5,n6,p6,n7,p7,n8,p8,n9,p9,n10,bE⟩:=au B4)
     exact aY (N:=N) (t:=GB.bg) (u:=n) rfl rfl rfl rfl hN jv.out hb4 B4 (by rw[HR2.out,HE.out];rfl)
   have HE:=hid (show GB.plain l=.bad GB.bg 0 by rw[Tx.out,if_neg (λh=>h.1.elim fK lU),if_neg (λh=>Pp h.1)]);have m1:=of_decide_eq_false hg0;have m2:=of_decide_eq_false hs0;have m3:=of_decide_eq_false tK;have b0:(x.toList == [103,101,116])=false:=by
    rw[show [103,101,116]=GB.yD.toList by rw[ByteArray.toList_eq];rfl,a_,decide_eq_false (λe=>m1 (by simp[e]))]
   have b1:(x.toList == [103,101,116,115])=false:=by
    rw[show [103,101,116,115]=GB.jX.toList by rw[ByteArray.toList_eq];rfl,a_,decide_eq_false (λe=>m1 (by simp[e]))]
   have b2:(x.toList == [103,97,116])=false:=by
    rw[show [103,97,116]=GB.nS.toList by rw[ByteArray.toList_eq];rfl,a_,decide_eq_false (λe=>m1 (by simp[e]))]
   have b3:(x.toList == [103,97,116,115])=false:=by
    rw[show [103,97,116,115]=GB.gq.toList by rw[ByteArray.toList_eq];rfl,a_,decide_eq_false (λe=>m1 (by simp[e]))]
   have b4:(x.toList == [115,101,116])=false:=by
    rw[show [115,101,116]=GB.AB.toList by rw[ByteArray.toList_eq];rfl,a_,decide_eq_false (λe=>m2 (by simp[e]))]
   have b5:(x.toList == [97,100,100])=false:=by
    rw[show [97,100,100]=GB.AJ.toList by rw[ByteArray.toList_eq];rfl,a_,decide_eq_false (λe=>m2 (by simp[e]))]
   have b6:(x.toList == [114,101,112,108,97,99,101])=false:=by
    rw[show [114,101,112,108,97,99,101]=GB.gW.toList by rw[ByteArray.toList_eq];rfl,a_,decide_eq_false (λe=>m2 (by simp[e]))]
   have b7:(x.toList == [97,112,112,101,110,100])=false:=by
    rw[show [97,112,112,101,110,100]=GB.jc.toList by rw[ByteArray.toList_eq];rfl,a_,decide_eq_false (λe=>m2 (by simp[e]))]
   have b8:(x.toList == [112,114,101,112,101,110,100])=false:=by
    rw[show [112,114,101,112,101,110,100]=GB.gX.toList by rw[ByteArray.toList_eq];rfl,a_,decide_eq_false (λe=>m2 (by simp[e]))]
   have b9:(x.toList == [99,97,115])=false:=by
    rw[show [99,97,115]=GB.gB.toList by rw[ByteArray.toList_eq];rfl,a_,decide_eq_false (λe=>m2 (by simp[e]))]
   have b10:(x.toList == [105,110,99,114])=false:=by
    rw[show [105,110,99,114]=GB.mR.toList by rw[ByteArray.toList_eq];rfl,a_,decide_eq_false (λe=>m3 (by simp[e]))]
   have b11:(x.toList == [100,101,99,114])=false:=by
    rw[show [100,101,99,114]=GB.mU.toList by rw[ByteArray.toList_eq];rfl,a_,decide_eq_false (λe=>m3 (by simp[e]))]
   have b12:(x.toList == [116,111,117,99,104])=false:=by
    rw[show [116,111,117,99,104]=GB.fw.toList by rw[ByteArray.toList_eq];rfl,a_,decide_eq_false (λe=>m3 (by simp[e]))]
   have b13:(x.toList == [100,101,108,101,116,101])=false:=by
    rw[show [100,101,108,101,116,101]=GB.eD.toList by rw[ByteArray.toList_eq];rfl,a_,decide_eq_false (λe=>m3 (by simp[e]))]
   have b14:(x.toList == [102,108,117,115,104,95,97,108,108])=false:=by
    rw[show [102,108,117,115,104,95,97,108,108]=GB.fZ.toList by rw[ByteArray.toList_eq];rfl,a_,decide_eq_false (λe=>m3 (by simp[e]))]
   have b15:(x.toList == [118,101,114,98,111,115,105,116,121])=false:=by
    rw[show [118,101,114,98,111,115,105,116,121]=GB.bN.toList by rw[ByteArray.toList_eq];rfl,a_,decide_eq_false (λe=>m3 (by simp[e]))]
   have b16:(x.toList == [118,101,114,115,105,111,110])=false:=by
    rw[show [118,101,114,115,105,111,110]=GB.dY.toList by rw[ByteArray.toList_eq];rfl,a_,decide_eq_false fK]
   have b17:(x.toList == [113,117,105,116])=false:=by
    rw[show [113,117,105,116]=GB.kX.toList by rw[ByteArray.toList_eq];rfl,a_,decide_eq_false lU]
   have b18:(x.toList == [115,116,97,116,115])=false:=by
    rw[show [115,116,97,116,115]=GB.gY.toList by rw[ByteArray.toList_eq];rfl,a_,decide_eq_false Pp]
   clear hgt hst hsh hg0 hs0 tK m1 m2 m3 fK lU Pp;go_wp2_with (go_at_call 86;refine(HB.out _ _).mono ?_;rintro e w4 ⟨rfl,hb4⟩;have B4:=ae HB1.out hb4;obtain⟨n0,p0,n1,p1,n2,p2,n3,p3,n4,p4,n5,p5,n6,p6,n7,p7,n8,p8,n9,p9,n10,bE⟩:=au B4)
   exact aY (N:=N) (t:=GB.bg) (u:=n) rfl rfl rfl rfl hN jv.out hb4 B4 (by rw[HR2.out,HE.out];rfl)
theorem Lb(b:ByteArray)(w:World)(hb:b.size<=900000)(hg:1<=GB.ln b/\GB.ln b<=2048)(hM:GB.vG (GB.wd (GB.ws b) 0)=true):Calls prog 38 #[.string b] w (fI w (GB.sh (GB.ln b) (GB.IP (GB.ws b) (b.extract (GB.ln b) b.size)))):=by
 obtain⟨R0,hR0⟩:∃R0,GB.sh (GB.ln b) (GB.IP (GB.ws b) (b.extract (GB.ln b) b.size))=R0:=⟨_,rfl⟩;rw[hR0];have FX:=hid hR0;clear hR0;have HF:=hid (λw'=>Ki b w' (by omega));unfold FrP at HF;have hlt:=GB.eU b;have HS:=hid (λw'=>W2.iZ (W2.aX b) w' (by omega));have B0:=aA w aH 33;have hb0:=bA w (.cells aH 33);obtain⟨N,hN⟩:∃N,w.heap.size=N:=⟨_,rfl⟩;obtain⟨W,hW⟩:∃W,w.alloc (.cells aH 33)=W:=⟨_,rfl⟩;rw[hW,hN] at B0;rw[hW] at hb0;simp only[aH] at hW;have HB:=hid nT;unfold cO at HB;have HB0:=hid B0;have HW:=hid hb0;have HZ:=hid hb;clear B0 hb0;go_enter func38,ntmps38;go_wp2_with (fail)
 try rw[hW]
 clear hW;go_at_call 85;refine(HF.out _).mono ?_;rintro e w1 ⟨hb1,h1,-⟩;obtain rfl:=h1 hg;obtain⟨n,hn⟩:∃n,GB.ln b=n:=⟨_,rfl⟩;have hnb:=GB.uq b;rw[hn] at hg hnb FX;unfold OQ;have hbb:=(bR HW.out.size HW.out hb1).alloc (Nat.le_trans HW.out.size hb1.size) (.cells aH 33);have B1:=ae (ae HB0.out hb1) (bA w1 (.cells aH 33));obtain⟨Y,hY⟩:∃Y,w1.alloc (.cells aH 33)=Y:=⟨_,rfl⟩;rw[hY] at hbb B1;simp only[aH] at hY;have WW:=hid hY;clear h1 hb1 HF HB0 hY;go_upto_region 4 with fail
 rw[WW.out];clear WW;have hsz:∀i,(GB.wd (GB.ws b) i).size<=1000000:=GB.Cx (Nat.le_trans HZ.out (by decide));have hmem:∀x,x∈GB.ws b->1<=x.size:=λx hx=>(GB.AQ hx).1
 have hwl:=GB.rX b;have lW:Hid (∀W',Calls prog 37 #[.string (W2.aX b)] W' λe w'=> ∃a cap,e=.returned (.slice a (GB.ws b).length cap)/\(GB.ws b).length<=cap/\RS w' (.slice a (GB.ws b).length cap) (GB.ws b)/\Below W'.heap.size W' w'):=hid (λW'=>(HS.out W').mono (λe w' h=>iL h));obtain⟨l,hl⟩:∃l,GB.ws b=l:=⟨_,rfl⟩;rw[hl] at lW hsz hwl hM hmem FX;obtain⟨k,hk⟩:∃k,l.length=k:=⟨_,rfl⟩;rw[hk] at lW hwl;clear HS hl;go_wp2_with (fail)
 go_at_call 37;refine(lW.out _).mono ?_;rintro e w2 ⟨a,cap,rfl,hc,hrs,hb2⟩;have jv:=hid (bR hbb.size hbb hb2);have HB1:=hid (ae B1 hb2);clear lW hbb B1 hb2;have h0:1<=k:=by
  rcases Nat.eq_zero_or_pos k with rfl|h
  ·rw[List.length_eq_zero_iff.1 hk] at hM;cases hM
  ·exact h
 obtain⟨ab,ao,rfl,hab,hx0⟩:=RS.at' hrs (i:=0) h0;rw[Nat.add_zero] at hx0;obtain⟨x,hx⟩:∃x,GB.wd l 0=x:=⟨_,rfl⟩;rw[hx] at hx0 hM;have z0:(0:Int)<k:=by omega
 have z1:¬(k:Int)=0:=by omega
 have z2:((k:Int) == 0)=false:=by simp;omega
 have z3:(n:Int)<=b.size:=by omega
 have wH:=hid (VT (B:=b.extract n b.size) hrs hc (by have:=HZ.out;omega) h0 hsz (λi hi=>hmem _ (List.mem_of_getElem? (i:=i) (by unfold GB.wd;rw[List.getElem?_eq_getElem (by omega)];rfl))) (by have:=HZ.out;simp;omega));have HEX:=hid (show (b.extract n b.size).size<=1000000 by have:=HZ.out;simp;omega);have LW:=hid (And.intro hg hnb);have Yl:=hid (show GB.IP l (b.extract n b.size)=if x=GB.zG then (if k=1 then .other else .bad GB.bg 0) else GB.read l (b.extract n b.size) by unfold GB.IP;rw[hx,hk]);have hM2:=GB.iI hM;clear hrs hsz hwl hk hx hab hmem hM h0;by_cases FO:x=GB.zG
 ·clear hM2;by_cases k1:k=1
  ·have BD:=hid (show R0=.other by rw[<-FX.out,Yl.out,if_pos FO,if_pos k1];rfl);subst FO k1;simp only[GB.zG] at hx0;obtain⟨n0,p0,n1,p1,n2,p2,n3,p3,n4,p4,n5,p5,n6,p6,n7,p7,n8,p8,n9,p9,n10,bE⟩:=au HB1.out;go_wp2_with (fail)
   exact ko (N:=N) (v0:=.int .i64 7) (v1:=.slice none 0 0) (v2:=.bool false) (v3:=.bool false) (v4:=.string ⟨#[]⟩) (v5:=.string ⟨#[]⟩) (v6:=.int .i64 0) (v7:=.bool false) (v8:=.string ⟨#[109,110]⟩) (v9:=.slice none 0 0) (v10:=.string ⟨#[]⟩) rfl rfl rfl hN jv.out HB1.out (by rw[BD.out];exact⟨7,_,_,_,_,_,_,_,_,_,_,_,_,_,_,rfl,.inl (by decide)⟩)
  ·have BD:=hid (show R0=.bad GB.bg n by rw[<-FX.out,Yl.out,if_pos FO,if_neg k1];rfl);have y1:¬(k:Int)=1:=by omega
   have y2:((k:Int) == 1)=false:=by simp;omega
   subst FO;simp only[GB.zG] at hx0;go_wp2_with (go_at_call 86;refine(HB.out _ _).mono ?_;rintro e w4 ⟨rfl,hb4⟩;have B4:=ae HB1.out hb4;obtain⟨n0,p0,n1,p1,n2,p2,n3,p3,n4,p4,n5,p5,n6,p6,n7,p7,n8,p8,n9,p9,n10,bE⟩:=au B4)
   exact aY (N:=N) (t:=GB.bg) (u:=n) rfl rfl rfl rfl hN jv.out hb4 B4 BD.out
 ·obtain⟨r0,hr0⟩:∃r0,GB.read l (b.extract n b.size)=r0:=⟨_,rfl⟩;have BD:=hid (show R0=GB.sh n r0 by rw[<-FX.out,Yl.out,if_neg FO,hr0]);have HU:=hid (show∀t u,r0=.bad t u->u<=1000000 from λt u e=>Nat.le_trans (GB.IY (hr0.trans e)) HEX.out);rw[hr0] at wH;have hn2:=hM2.resolve_left FO;clear hr0 Yl hM2 FO FX;simp only[GB.IM,GB.zH,GB.oO,GB.zI,GB.nU] at hn2;rcases hn2 with rfl|rfl|rfl|rfl|rfl
  all_goals
   go_upto_region 16 with fail
   go_upto_region 17 with (go_at_call 87;refine wH.out.mono ?_;rintro e w4 hr;obtain⟨v,m,rfl,iM,hb4⟩:=hr.rv;obtain⟨k1,ca,cn,cc,q,tk,s1,s2,sk,cl,s3,fa,fn,fc,s4,rfl⟩:=iM.shape;have La:=hid ((bR jv.out.size jv.out hb4).alloc (Nat.le_trans jv.out.size hb4.size) (.cells #[.int .i64 k1,.slice ca cn cc,.bool q,.bool tk,.string s1,.string s2,.int .i64 sk,.bool cl,.string s3,.slice fa fn fc,.string s4] 33));have B4:=hid (ae (ae HB1.out hb4) (bA w4 (.cells #[.int .i64 k1,.slice ca cn cc,.bool q,.bool tk,.string s1,.string s2,.int .i64 sk,.bool cl,.string s3,.slice fa fn fc,.string s4] 33)));have HR:=hid iM;obtain⟨n0,p0,n1,p1,n2,p2,n3,p3,n4,p4,n5,p5,n6,p6,n7,p7,n8,p8,n9,p9,n10,bE⟩:=au B4.out;clear hr iM hb4)
   by_cases hm:m<0
   ·have HRR:=hid (show Rv (GB.sh n r0) (.agg #[.int .i64 0,.slice none 0 0,.bool false,.bool false,.string ⟨#[]⟩,.string ⟨#[]⟩,.int .i64 0,.bool false,.string ⟨#[]⟩,.slice none 0 0,.string ⟨#[]⟩]) 0 by
     have h:=HR.out;cases r0 with
     |other=>exact⟨0,_,_,_,_,_,_,_,_,_,_,_,_,_,_,rfl,.inl (by decide)⟩
     |bad t u=>exact absurd hm (by have:=h.2;omega))
    go_wp2_with (fail)
    exact ko (N:=N) (v0:=.int .i64 0) (v1:=.slice none 0 0) (v2:=.bool false) (v3:=.bool false) (v4:=.string ⟨#[]⟩) (v5:=.string ⟨#[]⟩) (v6:=.int .i64 0) (v7:=.bool false) (v8:=.string ⟨#[]⟩) (v9:=.slice none 0 0) (v10:=.string ⟨#[]⟩) rfl rfl rfl hN La.out B4.out (by rw[BD.out];exact HRR.out)
   ·have HRR:=hid (show Rv (GB.sh n r0) (.agg #[.int .i64 k1,.slice ca cn cc,.bool q,.bool tk,.string s1,.string s2,.int .i64 sk,.bool cl,.string s3,.slice fa fn fc,.string s4]) (IntKind.i64.wrap ((n:Int)+m)) by
     have h:=HR.out;cases r0 with
     |other=>exact h
     |bad t u=>
      refine⟨h.1,?_⟩;have h1:=h.2;have h2:=HU.out t u rfl;have h3:=LW.out.1;rw[IntKind.wrap_i64];omega)
    go_wp2_with (fail)
    exact ko (N:=N) (v0:=.int .i64 k1) (v1:=.slice ca cn cc) (v2:=.bool q) (v3:=.bool tk) (v4:=.string s1) (v5:=.string s2) (v6:=.int .i64 sk) (v7:=.bool cl) (v8:=.string s3) (v9:=.slice fa fn fc) (v10:=.string s4) rfl rfl rfl hN La.out B4.out (by rw[BD.out];first|exact HRR.out|(rw[<-i64_is];exact HRR.out))
theorem Lc(b:ByteArray)(w:World)(hb:b.size<=900000):Calls prog 11 #[.string b] w (fI w (GB.sh (GB.ln b) (GB.whole b))):=by
 have HL:=hid (λw'=>W2.oQ b w' (by unfold maxLen;omega));unfold W2.dL at HL;rw[vS] at HL;have hlt:=GB.eU b;have HS:=hid (λw'=>W2.iZ (W2.aX b) w' (by omega));obtain⟨R0,hR0⟩:∃R0,GB.sh (GB.ln b) (GB.whole b)=R0:=⟨_,rfl⟩;rw[hR0];have hP0:GB.whole b=GB.wt b->∀w',Calls prog 39 #[.string b] w' (fI w' R0):=λe w'=>by rw[<-hR0,e];exact K_ b w' hb
 have hP1:(1<=GB.ln b/\GB.ln b<=2048)->GB.vG (GB.wd (GB.ws b) 0)=true->∀w',Calls prog 38 #[.string b] w' (fI w' R0):=λh1 h2 w'=>by
  rw[<-hR0,show GB.whole b=GB.IP (GB.ws b) (b.extract (GB.ln b) b.size) by
   unfold GB.whole;rw[if_neg (by omega),if_neg (λe=>by rw[e] at h2;cases h2),if_pos h2]]
  exact Lb b w' hb h1 h2
 have HP0:=hid hP0;have EX:=hid hP1;clear hP0 hP1 hR0;have B0:=aA w aH 33;have hb0:=bA w (.cells aH 33);obtain⟨N,hN⟩:∃N,w.heap.size=N:=⟨_,rfl⟩;obtain⟨W,hW⟩:∃W,w.alloc (.cells aH 33)=W:=⟨_,rfl⟩;rw[hW,hN] at B0;rw[hW] at hb0;simp only[aH] at hW;have HB:=hid nT;unfold cO at HB;have HB0:=hid B0;have HW:=hid hb0;have HZ:=hid hb;clear B0 hb0;have Pq:GB.vG (GB.wd (GB.ws b) 0)=false->GB.whole b=GB.wt b:=λh=>by
  unfold GB.whole GB.wt;rw[h];rfl
 have WZ:¬(1<=GB.ln b/\GB.ln b<=2048)->GB.whole b=GB.wt b:=λh=>by
  unfold GB.whole GB.wt;rw[if_pos (by omega),if_pos (by omega)]
 have wL:=hid (And.intro Pq WZ);have hwz:=GB.rX b;clear Pq WZ;go_enter func11,ntmps11;go_wp2_with (fail)
 try rw[hW]
 clear hW;go_at_call 36;refine(HL.out _).mono ?_;rintro e w1 ⟨rfl,dn,rfl⟩;obtain⟨n,hn⟩:∃n,GB.ln b=n:=⟨_,rfl⟩;have HY:=hid (bR HW.out.size HW.out (below_drewN' W dn));have BY:=hid (ae HB0.out (below_drewN' W dn));obtain⟨Y,hY⟩:∃Y,W.drewN dn=Y:=⟨_,rfl⟩;rw[hY] at HY BY;rw[hY];have HN:=hid hn;rw[hn];clear hY hn HL HB0 HW;by_cases hg:1<=n/\n<=2048
 ·have g1:(0:Int)<n:=by omega
  have g2:(n:Int)<=2048:=by omega
  have HG:=hid (show 1<=GB.ln b/\GB.ln b<=2048 by rw[HN.out];exact hg);clear hg;have lW:Hid (∀W',Calls prog 37 #[.string (W2.aX b)] W' λe w'=> ∃a cap,e=.returned (.slice a (GB.ws b).length cap)/\(GB.ws b).length<=cap/\RS w' (.slice a (GB.ws b).length cap) (GB.ws b)/\Below W'.heap.size W' w'):=hid (λW'=>(HS.out W').mono (λe w' h=>iL h));obtain⟨l,hl⟩:∃l,GB.ws b=l:=⟨_,rfl⟩;rw[hl] at lW wL hwz EX;obtain⟨k,hk⟩:∃k,l.length=k:=⟨_,rfl⟩;rw[hk] at lW hwz;clear HS hl;go_wp2_with (fail)
  go_at_call 37;refine(lW.out _).mono ?_;rintro e w2 ⟨a,cap,rfl,hc,hrs,hb2⟩;have jv:=hid (bR HY.out.size HY.out hb2);have HB1:=hid (ae BY.out hb2);clear lW HY BY hb2;rcases Nat.eq_zero_or_pos k with rfl|h0
  ·have hM:GB.vG (GB.wd l 0)=false:=by rw[List.length_eq_zero_iff.1 hk];decide
   have qB:=hid (HP0.out (wL.out.1 hM) w2);clear hk hrs hc;go_wp2_with (go_at_call 39;refine qB.out.mono ?_;rintro e w4 hr;obtain⟨v,m,rfl,iM,hb4⟩:=hr.rv;obtain⟨k1,ca,cn,cc,q,tk,s1,s2,sk,cl,s3,fa,fn,fc,s4,rfl⟩:=iM.shape;have B4:=hid (ae HB1.out hb4);have HR:=hid iM;have gF:=hid (bR jv.out.size jv.out hb4);obtain⟨n0,p0,n1,p1,n2,p2,n3,p3,n4,p4,n5,p5,n6,p6,n7,p7,n8,p8,n9,p9,n10,bE⟩:=au B4.out;clear hr iM hb4)
   exact ko (N:=N) (v0:=.int .i64 k1) (v1:=.slice ca cn cc) (v2:=.bool q) (v3:=.bool tk) (v4:=.string s1) (v5:=.string s2) (v6:=.int .i64 sk) (v7:=.bool cl) (v8:=.string s3) (v9:=.slice fa fn fc) (v10:=.string s4) (w1:=w4) rfl rfl rfl hN gF.out B4.out HR.out
  ·obtain⟨ab,ao,rfl,hab,hx0⟩:=RS.at' hrs (i:=0) h0;rw[Nat.add_zero] at hx0;obtain⟨x,hx⟩:∃x,GB.wd l 0=x:=⟨_,rfl⟩;rw[hx] at hx0 wL EX;have z0:(0:Int)<k:=by omega
   have z1:¬(k:Int)=0:=by omega
   clear hk hrs hc hx hab;by_cases hM:GB.vG x=true
   ·have qB:=hid (EX.out HG.out hM w2);have hn2:=GB.iI hM;clear wL EX hM;simp only[GB.zG,GB.IM,GB.zH,GB.oO,GB.zI,GB.nU] at hn2;rcases hn2 with rfl|rfl|rfl|rfl|rfl|rfl
    all_goals
     go_wp2_with (go_at_call 38;refine qB.out.mono ?_;rintro e w4 hr;obtain⟨v,m,rfl,iM,hb4⟩:=hr.rv;obtain⟨k1,ca,cn,cc,q,tk,s1,s2,sk,cl,s3,fa,fn,fc,s4,rfl⟩:=iM.shape;have B4:=hid (ae HB1.out hb4);have HR:=hid iM;have gF:=hid (bR jv.out.size jv.out hb4);obtain⟨n0,p0,n1,p1,n2,p2,n3,p3,n4,p4,n5,p5,n6,p6,n7,p7,n8,p8,n9,p9,n10,bE⟩:=au B4.out;clear hr iM hb4)
     exact ko (N:=N) (v0:=.int .i64 k1) (v1:=.slice ca cn cc) (v2:=.bool q) (v3:=.bool tk) (v4:=.string s1) (v5:=.string s2) (v6:=.int .i64 sk) (v7:=.bool cl) (v8:=.string s3) (v9:=.slice fa fn fc) (v10:=.string s4) (w1:=w4) rfl rfl rfl hN gF.out B4.out HR.out
   ·have hM0:GB.vG x=false:=nb' hM;have qB:=hid (HP0.out (wL.out.1 hM0) w2);have m1:=of_decide_eq_false hM0;have b0:(x.toList == [109,110])=false:=by
     rw[show [109,110]=GB.zG.toList by rw[ByteArray.toList_eq];rfl,a_,decide_eq_false (λe=>m1 (by simp[e]))]
    have b1:(x.toList == [109,101])=false:=by
     rw[show [109,101]=GB.IM.toList by rw[ByteArray.toList_eq];rfl,a_,decide_eq_false (λe=>m1 (by simp[e]))]
    have b2:(x.toList == [109,103])=false:=by
     rw[show [109,103]=GB.zH.toList by rw[ByteArray.toList_eq];rfl,a_,decide_eq_false (λe=>m1 (by simp[e]))]
    have b3:(x.toList == [109,115])=false:=by
     rw[show [109,115]=GB.oO.toList by rw[ByteArray.toList_eq];rfl,a_,decide_eq_false (λe=>m1 (by simp[e]))]
    have b4:(x.toList == [109,100])=false:=by
     rw[show [109,100]=GB.zI.toList by rw[ByteArray.toList_eq];rfl,a_,decide_eq_false (λe=>m1 (by simp[e]))]
    have b5:(x.toList == [109,97])=false:=by
     rw[show [109,97]=GB.nU.toList by rw[ByteArray.toList_eq];rfl,a_,decide_eq_false (λe=>m1 (by simp[e]))]
    clear wL EX hM hM0 m1;go_wp2_with (go_at_call 39;refine qB.out.mono ?_;rintro e w4 hr;obtain⟨v,m,rfl,iM,hb4⟩:=hr.rv;obtain⟨k1,ca,cn,cc,q,tk,s1,s2,sk,cl,s3,fa,fn,fc,s4,rfl⟩:=iM.shape;have B4:=hid (ae HB1.out hb4);have HR:=hid iM;have gF:=hid (bR jv.out.size jv.out hb4);obtain⟨n0,p0,n1,p1,n2,p2,n3,p3,n4,p4,n5,p5,n6,p6,n7,p7,n8,p8,n9,p9,n10,bE⟩:=au B4.out;clear hr iM hb4)
    exact ko (N:=N) (v0:=.int .i64 k1) (v1:=.slice ca cn cc) (v2:=.bool q) (v3:=.bool tk) (v4:=.string s1) (v5:=.string s2) (v6:=.int .i64 sk) (v7:=.bool cl) (v8:=.string s3) (v9:=.slice fa fn fc) (v10:=.string s4) (w1:=w4) rfl rfl rfl hN gF.out B4.out HR.out
 ·have qB:=hid (HP0.out (wL.out.2 (by rw[HN.out];exact hg)));clear wL EX;by_cases g1:(0:Int)<n
  ·have g2:¬(n:Int)<=2048:=by omega
   clear hg;go_wp2_with (go_at_call 39;refine(qB.out _).mono ?_;rintro e w4 hr;obtain⟨v,m,rfl,iM,hb4⟩:=hr.rv;obtain⟨k1,ca,cn,cc,q,tk,s1,s2,sk,cl,s3,fa,fn,fc,s4,rfl⟩:=iM.shape;have B4:=hid (ae BY.out hb4);have HR:=hid iM;have gF:=hid (bR HY.out.size HY.out hb4);obtain⟨n0,p0,n1,p1,n2,p2,n3,p3,n4,p4,n5,p5,n6,p6,n7,p7,n8,p8,n9,p9,n10,bE⟩:=au B4.out;clear hr iM hb4)
   exact ko (N:=N) (v0:=.int .i64 k1) (v1:=.slice ca cn cc) (v2:=.bool q) (v3:=.bool tk) (v4:=.string s1) (v5:=.string s2) (v6:=.int .i64 sk) (v7:=.bool cl) (v8:=.string s3) (v9:=.slice fa fn fc) (v10:=.string s4) (w1:=w4) rfl rfl rfl hN gF.out B4.out HR.out
  ·clear hg;go_wp2_with (go_at_call 39;refine(qB.out _).mono ?_;rintro e w4 hr;obtain⟨v,m,rfl,iM,hb4⟩:=hr.rv;obtain⟨k1,ca,cn,cc,q,tk,s1,s2,sk,cl,s3,fa,fn,fc,s4,rfl⟩:=iM.shape;have B4:=hid (ae BY.out hb4);have HR:=hid iM;have gF:=hid (bR HY.out.size HY.out hb4);obtain⟨n0,p0,n1,p1,n2,p2,n3,p3,n4,p4,n5,p5,n6,p6,n7,p7,n8,p8,n9,p9,n10,bE⟩:=au B4.out;clear hr iM hb4)
   exact ko (N:=N) (v0:=.int .i64 k1) (v1:=.slice ca cn cc) (v2:=.bool q) (v3:=.bool tk) (v4:=.string s1) (v5:=.string s2) (v6:=.int .i64 sk) (v7:=.bool cl) (v8:=.string s3) (v9:=.slice fa fn fc) (v10:=.string s4) (w1:=w4) rfl rfl rfl hN gF.out B4.out HR.out
end Go.Proofs.YtboehbfagnocpaaGreatDoor
