import Derived.Test.YtboehbfagnocpaaGreatDoorKaf
import Derived.Test.YtboehbfagnocpaaGreatDoorKag
import Derived.Test.YtboehbfagnocpaaGreatDoorKah
set_option linter.unusedVariables false
set_option linter.unusedSimpArgs false
set_option maxRecDepth 100000
set_option maxHeartbeats 40000000
open Go.Proofs.Tryz
open Go.Lib (hid)
namespace Go.Proofs.YtboehbfagnocpaaGreatDoor
open Go.RowKit Go.PlainAid Go.Shelf
open W2 (RS)
section
variable{T E size bytes:Nat}{W:World}{v:Value}{n m:Nat}{xs news:List Value}
theorem Ol{ops:Array Oper}{rest:List Oper}{o:Oper}{a:Act}{Q:Exit->Act->World->Prop}(X:Elem T E size bytes)(hgd:o.guard=none)(s x:Operand)(p:Addr)(c:Nat)
 (ho:o.op=.call {callee:=.builtin .append,args:=#[s,x],argTypes:=#[T,T]}) (hs:a.eval s=v) (hr:(rowAt v E size n xs).R W)
 (hx:a.eval x=.slice (some p) m c) (hl:news.length=m*size) (hnews:∀j u,news[j]?=some u->W.cell? (p.add j)=some u) (h1:∀u∈news,u.oneCell'=true) (hm:1<=m) (hn:n+m<=100000000) (hb:bytes<=100000)
 (h:∀g cap w',ag (rowAt v E size n xs) (rowAt (.slice (some ⟨g,0,none⟩) (n+m) cap) E size (n+m) (xs ++ news)) W w'->wpList prog ops Q rest (a.put o.dst (.slice (some ⟨g,0,none⟩) (n+m) cap)) w'):
 wpList prog ops Q (o :: rest) a W:=by
 obtain⟨z,hi,hzs⟩:=X.hi;obtain⟨i0,hi0,hz0,hz1,hz2⟩:=info_parts hi;refine wpList_append_lies W hgd s x T ho 0 E i0 z size bytes X.ht hi0 hz0 hz1 hz2 hzs X.pos v n xs hs hr p m c news hx (by omega) hnews h1 (by omega) (by unfold maxLen;omega) ?_ (Nat.zero_le _) W.heap.size rfl ?_
 ·have:(n+m)*bytes<=100000000*100000:=Nat.mul_le_mul hn hb;omega
 ·intro g cap w' ho' hg hnw hlt;refine h g cap w' ⟨ho',aP.bC hg,λb hb=>?_⟩;have hb:some g=some b:=hb;cases hb;rcases hnw with h2|h2
  ·exact .inl h2
  ·exact .inr (by omega)
end
theorem addr_add(b o j:Nat):(⟨b,o,none⟩:Addr).add j=⟨b,o+j,none⟩:=by
 unfold Addr.add;split
 ·rename_i h;subst h;rfl
 ·rfl
theorem bF.into{b:Nat}{op:Int}{vs vs':Array Value}{w w':World}(h:ag (aG b vs 56) (aG b vs' 56) w w')(hc:RX op vs'):ag (aG b vs 56) (bF b op) w w':=⟨⟨vs',hc,h.here⟩,h.bL,h.nu⟩
theorem bF.oW{b:Nat}{op:Int}{vs:Array Value}{w:World}(h:(aG b vs 56).R w):ag (bF b op) (aG b vs 56) w w:=⟨h,aP.refl _ _,λb hb=> .inl hb⟩
theorem AZ{w:World}{g n c:Nat}{F:List ByteArray}(h:(rowAt (.slice (some ⟨g,0,none⟩) n c) 9 1 n (F.map .string)).R w)(hl:F.length=n):Ws w g 0 n F:=by
 refine⟨(rowAt (.slice (some ⟨g,0,none⟩) n c) 9 1 n (F.map .string)).lt h rfl,hl,λi hi=>?_⟩;have h1:=aB h i (by rw[List.length_map,hl];exact hi);rw[Nat.zero_add,h1];unfold GB.wd;rw[List.getElem?_map,List.getElem?_eq_getElem (by rw[hl];exact hi)];rfl
theorem nZ(s:ByteArray):(B3.P.iW s).size<=s.size:=by
 unfold B3.P.iW;split
 ·rw[B3.P.iH,B3.P.gQ];have:=(B3.P.gT s).1;omega
 ·exact Nat.zero_le _
theorem JA{a b c:World}{n:Nat}(hn:n<=b.heap.size)(h:Below n a b)(k:Below b.heap.size b c):Below n a c:=h.trans (k.mono hn)
theorem Sq:Elem 31 9 1 16:=⟨underlying31,⟨.string ⟨#[]⟩,by kernel_rfl,by kernel_rfl⟩,by decide⟩
def oZ(nm key:ByteArray)(F:List ByteArray)(st:Bool)(m:Nat)(B:ByteArray):GB.Rs:=
 match GB.flags nm F with
 |some t=>if st then .other else .bad t 0
 |none=>if GB.iB key F then (if st then GB.chunk m B else .other) else (if st then .other else .bad GB.bD 0)
theorem A7{l:List ByteArray}{B:ByteArray}(h:l.length<2\/(GB.wd l 0=GB.oO/\l.length<3)):GB.read l B=.bad GB.bD 0:=by
 unfold GB.read;by_cases h1:l.length<2
 ·rw[if_pos h1]
 ·rcases h with h|⟨h2,h3⟩
  ·exact absurd h h1
  ·rw[if_neg h1,if_pos h2,if_pos h3]
theorem A8{l:List ByteArray}{B:ByteArray}(h1:¬l.length<2)(h2:GB.wd l 0≠GB.oO):GB.read l B=oZ (GB.wd l 0) (GB.wd l 1) (l.drop 2) false 0 B:=by
 unfold GB.read oZ;rw[if_neg h1,if_neg h2];cases GB.flags (GB.wd l 0) (l.drop 2)<;>simp
theorem A9{l:List ByteArray}{B:ByteArray}(h1:¬l.length<3)(h2:GB.wd l 0=GB.oO):GB.read l B=match nm (GB.wd l 2).data.toList with
 |none=> .bad GB.bD 0
 |some m=>if 1073741824<m then .bad GB.bD 0 else oZ (GB.wd l 0) (GB.wd l 1) (l.drop 3) true m B:=by
 unfold GB.read;rw[if_neg (by omega),if_pos h2,if_neg h1];unfold GB.num;cases nm (GB.wd l 2).data.toList with
 |none=>rfl
 |some m=>
  simp only;split
  ·rfl
  ·unfold oZ;cases GB.flags (GB.wd l 0) (l.drop 3)<;>simp
theorem JB{all:List UInt8}{math:Bool}:∀{l:List ByteArray} {seen:List UInt8} {t:ByteArray},GB.rW all math seen l=some t->t.toList.isEmpty=false:=by
 intro l;induction l with
 |nil=>intro seen t h;cases seen<;>cases h
 |cons f r ih=>
  intro seen t h;rw[GB.rW] at h;split at h
  ·cases h;rw[fJ];rfl
  ·split at h
   ·cases h;rw[fJ];rfl
   ·split at h
    ·cases h;rw[fJ];rfl
    ·exact ih h
def FP(nm key:ByteArray)(fa:Option Addr)(nf cf:Nat):Array Value:=#[.int .i64 1,.slice none 0 0,.bool false,.bool false,.string ⟨#[]⟩,.string ⟨#[]⟩,.int .i64 0,.bool false,.string nm,.slice fa nf cf,.string key]
theorem VT{w:World}{a:Option Addr}{n cap:Nat}{l:List ByteArray}{B:ByteArray}(h:RS w (.slice a n cap) l)(hc:n<=cap)(hn:n<=1000000)(h0:1<=n)(hsz:∀i,(GB.wd l i).size<=1000000)(h1:∀i,i<n->1<=(GB.wd l i).size)(hB:B.size<=1000000):
 Calls prog 87 #[.slice a n cap,.string B] w (fI w (GB.read l B)):=by
 obtain⟨b,o,rfl,hws⟩:=Ws.of h h0;have hl:=hws.2.1;have hx:=hws.2.2 0 h0;rw[Nat.add_zero] at hx;obtain⟨x,hx0⟩:∃x,GB.wd l 0=x:=⟨_,rfl⟩;rw[hx0] at hx;obtain⟨st,hst⟩:∃st,(x.toList == [109,115])=st:=⟨_,rfl⟩;have HST:=hid (show decide (x=GB.oO)=st by
  rw[<-hst,show [109,115]=GB.oO.toList by rw[ByteArray.toList_eq];rfl,a_])
 have Qj:=hid (show n<2\/(st=true/\n<3)->GB.read l B=.bad GB.bD 0 from λe=>A7 (by
  rw[hl,hx0];rcases e with e|⟨e,e2⟩
  ·exact .inl e
  ·exact .inr ⟨of_decide_eq_true (HST.out.trans e),e2⟩))
 have LH:=hid (show¬n<2->st=false->GB.read l B=oZ x (GB.wd l 1) (l.drop 2) false 0 B from λe1 e2=>by
  rw[<-hx0];exact A8 (by rw[hl];exact e1) (by rw[hx0];exact of_decide_eq_false (HST.out.trans e2)))
 have HS2:=hid (show¬n<3->st=true->GB.read l B=_ from λe1 e2=>A9 (by rw[hl];exact e1) (by rw[hx0];exact of_decide_eq_true (HST.out.trans e2)));rw[hx0] at HS2;have B0:=aA w aH 33;have hb0:=bA w (.cells aH 33);have I0:=(Inv.start w).new B0 hb0 (λb hb=>by have e:b=w.heap.size:=hb;omega);have hx1:=(hws.below hb0).2.2 0 h0;rw[hx0,Nat.add_zero] at hx1;obtain⟨N,hN⟩:∃N,w.heap.size=N:=⟨_,rfl⟩;obtain⟨W,hW⟩:∃W,w.alloc (.cells aH 33)=W:=⟨_,rfl⟩;rw[hW,hN] at I0;rw[hW] at hx1;simp only[aH] at hW;have HB:=hid nT;unfold cO at HB;have HI0:=hid I0;have LV:=hid hws;have HH:=hid (And.intro hsz h1);have hbN:b<N:=by rw[<-hN];exact hws.1
 have HX:=hid hx;have HY1:=hid (λ(h:1<n)=>hws.2.2 1 h);clear h hws hx hx0 B0 hb0 hsz h1 I0;go_enter func87,ntmps87;go_upto_region 2 with fail
 clear hW;go_cut [31] from 17 to 31 (λt wx=>t=.bool (decide (n<2\/(st=true/\n<3)))/\wx=W)
 case first=>
  by_cases z2:n<2
  ·have z2':(n:Int)<2:=by omega
   go_wp2_with (fail)
   go_meet;exact⟨by simp[z2],rfl⟩
  ·have z2':¬(n:Int)<2:=by omega
   cases st
   ·go_wp2_with (fail)
    go_meet;exact⟨by simp[z2],rfl⟩
   ·by_cases z3:n<3
    ·have z3':(n:Int)<3:=by omega
     go_wp2_with (fail)
     go_meet;exact⟨by simp[z3],rfl⟩
    ·have z3':¬(n:Int)<3:=by omega
     go_wp2_with (fail)
     go_meet;exact⟨by simp[z2,z3],rfl⟩
 case rest=>
  obtain⟨rfl,hwc⟩:=hcut;have hwc:=hwc.symm;subst hwc;by_cases hbad:n<2\/(st=true/\n<3)
  ·rw[decide_eq_true hbad];have HE:=hid (Qj.out hbad);go_wp2_with (go_at_call 86;refine(HB.out _ _).mono ?_;rintro e w4 ⟨rfl,hb1⟩;have B1:=ae (HI0.out.get 0 rfl) hb1;obtain⟨n0,p0,n1,p1,n2,p2,n3,p3,n4,p4,n5,p5,n6,p6,n7,p7,n8,p8,n9,p9,n10,bE⟩:=au B1)
   exact aY (N:=N) (t:=GB.bD) (u:=0) rfl rfl rfl rfl hN HI0.out.bel hb1 B1 HE.out
  ·rw[decide_eq_false hbad];have hn2:¬n<2:=λe=>hbad (.inl e)
   obtain⟨k,rfl⟩:∃k,n=k+2:=⟨n-2,by omega⟩;have LW:=hid hbad;have hy1:=(LV.out.below HI0.out.bel).2.2 1 (by omega);obtain⟨k1,hk1⟩:∃z,GB.wd l 1=z:=⟨_,rfl⟩;rw[hk1] at hy1 LH HS2;have FQ:=hid hk1;have HY:=hid (show w.cell? ⟨b,o+1,none⟩=some (.string k1) by rw[<-FQ.out];exact HY1.out (by omega));clear hk1 hbad HY1;have hx2:∀ob,(W.alloc ob).cell? ⟨b,o,none⟩=some (.string x):=λob=>((bA W ob).cell (p:=⟨b,o,none⟩) (aL hx1)).trans hx1
   have hy2:∀ob,(W.alloc ob).cell? ⟨b,o+1,none⟩=some (.string k1):=λob=>((bA W ob).cell (p:=⟨b,o+1,none⟩) (aL hy1)).trans hy1
   have c0:k+2<=cap:=hc;have q0:(0:Int)<(k:Int)+2:=by omega
   have q1:(1:Int)<(k:Int)+2:=by omega
   have q2:(2:Int)<=(k:Int)+2:=by omega
   go_upto_region 4 with (fail)
   have Om:=hid (show∀W' fa cf,Below W.heap.size W W'->Inv w [aG W'.heap.size (FP x k1 fa k cf) 33,aG N aH 33] (W'.alloc (.cells (FP x k1 fa k cf) 33)) from λW' fa cf hb=>
    (HI0.out.below hb).new (aA W' (FP x k1 fa k cf) 33) (bA _ _) (λb hb'=>by have e:b=W'.heap.size:=hb';have:=HI0.out.bel.size;have:=hb.size;omega))
   unfold FP at Om;go_cut [7] from 33 to 41 (λt7 wx=> ∃(R:Nat) (fa:Option Addr) (cf:Nat),t7=.pointer (some ⟨R,0,none⟩)/\Hid (1<=k->fa=some ⟨b,o+2,none⟩)/\Hid (Inv w [aG R (FP x k1 fa k cf) 33,aG N aH 33] wx))
   case first=>
    by_cases hcp:cap=2
    ·have k0:k=0:=by omega
     subst hcp;subst k0;go_region_with (fail)
     all_goals (go_wp2_with fail)
     all_goals go_meet
     all_goals (exact⟨_,_,_,rfl,hid (λe=>absurd e (by decide)),hid (Om.out _ _ _ (by go_grown)).drew⟩)
    ·have c2:¬2=cap:=λe=>hcp e.symm
     go_region_with (fail)
     all_goals (go_wp2_with fail)
     all_goals go_meet
     all_goals (exact⟨_,_,_,rfl,hid (λ_=>rfl),hid (Om.out _ _ _ (by go_grown)).drew⟩)
   case rest=>
    obtain⟨R,fa,cf,rfl,HFA,HI⟩:=hcut;clear hx1 hy1 hx2 hy2 Om HI0 c0;go_upto_if 42 with fail
    go_cut [8,9,10] from 42 to 62 (λt8 t9 t10 wx=> ∃(m q nf:Nat) (sk:Int) (fb:Option Addr) (cb:Nat),t8=.int .u64 (m:Nat)/\t9=.int .i64 sk/\Hid (sk=if st then (m:Int)+2 else 0)/\Hid (m<=1073741824/\(st=false->m=0)/\q+nf=k+2/\GB.read l B=oZ x k1 (l.drop q) st m B/\(1<=nf->fb=some ⟨b,o+q,none⟩))/\Hid (Inv w [aG R (FP x k1 fb nf cb) 33,aG N aH 33] wx))
    case first=>
     cases st
     ·go_wp2_with (fail)
      go_meet;exact⟨0,2,k,_,fa,cf,rfl,rfl,hid rfl,hid ⟨by omega,λ_=>rfl,by omega,LH.out hn2 (by simp),HFA.out⟩,HI⟩
     ·have QE:¬k+2<3:=λe=>LW.out (.inr ⟨rfl,e⟩)
      obtain⟨k,rfl⟩:∃j,k=j+1:=⟨k-1,by omega⟩;have y2:=(LV.out.below HI.out.bel).2.2 2 (by omega);have z2:=HH.out.1 2;obtain⟨k2,hk2⟩:∃z,GB.wd l 2=z:=⟨_,rfl⟩;rw[hk2] at y2 z2 HS2;have HP:=hid (λw'=>bQ k2 w' z2);unfold oN at HP;have LU:=hid (HS2.out QE (by simp));clear HS2 LH Qj z2 hk2;cases hp:nm k2.data.toList with
      |none=>
       rw[hp] at HP LU
       go_wp2_with (first
        |(go_at_call 152;refine(HP.out _).mono ?_;rintro e w1 ⟨rfl,rfl⟩)
        |(go_at_call 86;refine(HB.out _ _).mono ?_;rintro e w4 ⟨rfl,hb1⟩;have B1:=ae (HI.out.get 1 rfl) hb1;obtain⟨n0,p0,n1,p1,n2,p2,n3,p3,n4,p4,n5,p5,n6,p6,n7,p7,n8,p8,n9,p9,n10,bE⟩:=au B1))
       exact aY (N:=N) (t:=GB.bD) (u:=0) rfl rfl rfl rfl hN HI.out.bel hb1 B1 LU.out
      |some m=>
       rw[hp] at HP LU;by_cases hbig:1073741824<m
       ·have hbi:(1073741824:Int)<m:=by omega
        have HE:=hid (LU.out.trans (if_pos hbig))
        go_wp2_with (first
         |(go_at_call 152;refine(HP.out _).mono ?_;rintro e w1 ⟨rfl,rfl⟩)
         |(go_at_call 86;refine(HB.out _ _).mono ?_;rintro e w4 ⟨rfl,hb1⟩;have B1:=ae (HI.out.get 1 rfl) hb1;obtain⟨n0,p0,n1,p1,n2,p2,n3,p3,n4,p4,n5,p5,n6,p6,n7,p7,n8,p8,n9,p9,n10,bE⟩:=au B1))
        exact aY (N:=N) (t:=GB.bD) (u:=0) rfl rfl rfl rfl hN HI.out.bel hb1 B1 HE.out
       ·have hbi:¬(1073741824:Int)<m:=by omega
        have e1:IntKind.i64.wrap (m:Int)=m:=by rw[IntKind.wrap_i64];omega
        have e2:IntKind.i64.wrap ((m:Int)+2)=(m:Int)+2:=by rw[IntKind.wrap_i64];omega
        have HE:=hid (LU.out.trans (if_neg hbig));have HM:=hid hbig;obtain⟨r0,g0,r1,g1,r2,g2,r3,g3,r4,g4,r5,g5,r6,g6,r7,g7,r8,g8,r9,g9,nY,g10⟩:=au (HI.out.get 0 rfl);have c3:(3:Int)<=(k:Int)+1+2:=by omega
        clear hbig LU;by_cases hcp:cap=3
        ·have k0:k=0:=by omega
         subst hcp;subst k0;go_wp2_with (go_at_call 152;refine(HP.out _).mono ?_;rintro e w1 ⟨rfl,rfl⟩)
         go_meet;exact⟨m,3,0,_,_,_,rfl,rfl,hid rfl,hid ⟨Nat.le_of_not_lt HM.out,λe=>(by cases e),rfl,HE.out,λe=>absurd e (by decide)⟩,hid (HI.out.turn 0 rfl (ai (HI.out.get 0 rfl) 9 _))⟩
        ·have c4:¬3=cap:=λe=>hcp e.symm
         go_wp2_with (go_at_call 152;refine(HP.out _).mono ?_;rintro e w1 ⟨rfl,rfl⟩)
         go_meet;exact⟨m,3,k,_,_,_,rfl,rfl,hid rfl,hid ⟨Nat.le_of_not_lt HM.out,λe=>(by cases e),by omega,HE.out,λ_=>rfl⟩,hid (HI.out.turn 0 rfl (ai (HI.out.get 0 rfl) 9 _))⟩
    case rest=>
     obtain⟨m,q,nf,sk,fb,cb,rfl,rfl,Qk,HQ,HI2⟩:=hcut;clear HI HFA Qj LH HS2 LW;have tF:=hid (show (l.drop q).length=nf/\(∀i,i<nf->GB.wd (l.drop q) i=GB.wd l (q+i)) from⟨by have:=HQ.out.2.2.1;rw[List.length_drop,hl];omega,λi _=>by unfold GB.wd;rw[List.getElem?_drop]⟩);obtain⟨F,hF⟩:∃F,l.drop q=F:=⟨_,rfl⟩;rw[hF] at HQ tF;go_upto_region 14 with fail
     go_cut [] from 63 to 67 (λwx=> ∃(ga:Option Addr) (gc:Nat),Hid (Inv w [rowAt (.slice ga nf gc) 9 1 nf (F.map .string),aG R (FP x k1 ga nf gc) 33,aG N aH 33] wx))
     case first=>
      have M0:=nX wc 9 1;have I1:=HI2.out.new M0.here M0.bel M0.lo;have r9:∀ob,(wc.alloc ob).cell? ⟨R,9,none⟩=some (.slice fb nf cb):=λob=>cA ((HI2.out.below (bA wc ob)).get 0 rfl) 9
      have g9:∀ob,(wc.alloc ob).frozen? ⟨R,9,none⟩=false:=λob=>cZ ((HI2.out.below (bA wc ob)).get 0 rfl) 9
      have HI1:=hid I1;clear I1 M0;by_cases hnf:nf=0
      ·subst hnf;have hFe:F= []:=List.length_eq_zero_iff.1 tF.out.1;subst hFe;cases fb
       all_goals
        go_wp2_with (fail)
        go_meet;exact⟨_,_,hid (HI1.out.turn 1 rfl (ai (HI1.out.get 1 rfl) 9 _))⟩
      ·have VP:=HQ.out.2.2.2.2 (by omega);subst VP;have hnn:0+nf<=100000000:=by have:=HQ.out.2.2.1;omega
       have hn1:1<=nf:=by omega
       have HLN:=hid (show (F.map Value.string).length=nf*1 by rw[List.length_map,tF.out.1,Nat.mul_one]);have ZQ:=hid (show∀j u,(F.map Value.string)[j]?=some u->(wc.alloc (.cells #[] 9)).cell? ((⟨b,o+q,none⟩:Addr).add j)=some u from λj u hj=>by
        have hjl:j<nf:=by have:=(List.getElem?_eq_some_iff.1 hj).1;rw[List.length_map,tF.out.1] at this;exact this
        have h1:=((LV.out.below HI2.out.bel).below (bA wc (.cells #[] 9))).2.2 (q+j) (by have:=HQ.out.2.2.1;omega);rw[<-tF.out.2 j hjl] at h1;have h2:F[j]?=some (GB.wd F j):=by unfold GB.wd;rw[List.getElem?_eq_getElem (by rw[tF.out.1];exact hjl)];rfl
        rw[List.getElem?_map,h2] at hj;cases hj;rw[<-h1,addr_add,Nat.add_assoc])
       go_wp2_with (at_builtin;go_must (refine Ol Sq rfl _ _ ⟨b,o+q,none⟩ cb rfl rfl (HI1.out.get 0 rfl) rfl HLN.out ZQ.out (by simp[Value.oneCell']) hn1 hnn (by omega) ?_);intro g gc w2 ht2;have HI4:=hid (HI1.out.turn 0 rfl ht2);have r9':=cA (HI4.out.get 1 rfl) 9;have g9':=cZ (HI4.out.get 1 rfl) 9;clear ht2)
       go_meet;have h5:=HI4.out.turn 1 rfl (ai (HI4.out.get 1 rfl) 9 (.slice (some ⟨g,0,none⟩) nf gc));simp only[Nat.zero_add,List.nil_append] at h5;exact⟨some ⟨g,0,none⟩,gc,hid h5⟩
     case rest=>
      obtain⟨ga,gc,HI3⟩:=hcut;clear HI2 LV;have HR:=hid (show 1<=nf->∃gb,ga=some ⟨gb,0,none⟩ from λh=>by
       have h1:wc.ownsRow 0 9 1 (.slice ga nf gc) nf (F.map .string):=HI3.out.get 0 rfl;rcases h1.2 with ⟨h2,h3⟩|⟨g',cap',cur,h2,_⟩
       ·simp only[Value.slice.injEq] at h2;omega
       ·simp only[Value.slice.injEq] at h2;exact⟨g',h2.1⟩)
      have Ql:=hid (λw'=>rop x w');have x1:=(HI3.out.old (p:=⟨b,o,none⟩) (by rw[hN];exact hbN)).trans HX.out;have q0:(0:Int)<(k:Int)+2:=by omega
      go_upto_if 75 with (go_at_call 153;refine(Ql.out _).mono ?_;rintro e w1 ⟨rfl,rfl⟩)
      have Sr:=hid (HI3.out.new (aA wc #[.int .i64 (iJ x),.int .i64 0,.string ⟨#[]⟩,.string ⟨#[]⟩,.int .u32 0,.int .i64 0,.bool false,.int .u64 0,.bool false,.int .u64 0,.int .u64 0,.bool false,.bool false,.int .i64 0,.int .i64 (-1),.bool false] 56) (bA _ _) (λb hb=>by have e:b=wc.heap.size:=hb;have:=HI3.out.bel.size;omega));obtain⟨C,hC⟩:∃C,wc.heap.size=C:=⟨_,rfl⟩;obtain⟨V,hV⟩:∃V,wc.alloc (.cells #[.int .i64 (iJ x),.int .i64 0,.string ⟨#[]⟩,.string ⟨#[]⟩,.int .u32 0,.int .i64 0,.bool false,.int .u64 0,.bool false,.int .u64 0,.int .u64 0,.bool false,.bool false,.int .i64 0,.int .i64 (-1),.bool false] 56)=V:=⟨_,rfl⟩;rw[hC,hV] at Sr;rw[hC,hV];clear hC hV x1;go_cut [] from 68 to 76 (λwx=>Hid (Inv w [bF C (iJ x),rowAt (.slice ga nf gc) 9 1 nf (F.map .string),aG R (FP x k1 ga nf gc) 33,aG N aH 33] wx))
      case first=>
       obtain⟨c0,f0,c1,f1,c2,f2,c3,f3,c4,f4,c5,f5,c6,f6,c7,f7,c8,f8,c9,f9,c10,f10,c11,f11,c12,f12,c13,f13,c14,f14,c15,f15⟩:=bV (Sr.out.get 0 rfl);by_cases h3:iJ x=3
       ·have h3':(iJ x == 3)=true:=by simp[h3]
        clear h3;go_wp2_with (fail)
        go_meet;exact hid (Sr.out.turn 0 rfl (bF.into (ai (Sr.out.get 0 rfl) 9 _) ⟨_,_,_,_,_,_,_,_,_,_,_,_,_,_,_,rfl⟩))
       ·have h3':(iJ x == 3)=false:=by simp[h3]
        clear h3;go_wp2_with (fail)
        go_meet;exact hid (Sr.out.turn 0 rfl (bF.into (ag.rfl' (Sr.out.get 0 rfl)) ⟨_,_,_,_,_,_,_,_,_,_,_,_,_,_,_,rfl⟩))
      case rest=>
       clear Sr HI3;have HI4:=hcut;have ZR:=hid (show∀W',Below wc.heap.size wc W'->Calls prog 154 #[.string x,.slice ga nf gc,.pointer (some ⟨C,0,none⟩)] W' (RY C (iJ x) (pV (GB.flags x F)) W') from λW' hb=>by
        have I:=HI4.out.below hb;by_cases hnf:1<=nf
        ·obtain⟨gb,hgb⟩:=HR.out hnf;subst hgb;refine Jl (b:=gb) (o:=0) tF.out.1 (λ_=>⟨rfl,AZ (I.get 1 rfl) tF.out.1,λe=>?_⟩) (by have:=HQ.out.2.2.1;omega) (I.get 0 rfl) (λi hi=>?_) (λi=>?_)
         ·exact List.pairwise_iff_getElem.1 I.ap 0 1 (by simp) (by simp) (by omega) C rfl (by rw[<-e];rfl)
         ·rw[tF.out.2 i hi];exact HH.out.2 _ (by have:=HQ.out.2.2.1;omega)
         ·by_cases hi:i<nf
          ·rw[tF.out.2 i hi];exact HH.out.1 _
          ·unfold GB.wd;rw[List.getElem?_eq_none (by rw[tF.out.1];omega)];exact Nat.zero_le _
        ·refine Jl (b:=0) (o:=0) tF.out.1 (λe=>absurd e hnf) (by omega) (I.get 0 rfl) (λi hi=>by omega) (λi=>?_);unfold GB.wd;rw[List.getElem?_eq_none (by rw[tF.out.1];omega)];exact Nat.zero_le _)
       unfold RY at ZR;have x1:=(HI4.out.old (p:=⟨b,o,none⟩) (by rw[hN];exact hbN)).trans HX.out;have r9:wc.cell? ⟨R,9,none⟩=some (.slice ga nf gc):=cA (HI4.out.get 2 rfl) 9;go_upto_region 18 with (fail)
       go_cut [12] from 77 to 82 (λt wx=>t=.string (pV (GB.flags x F))/\Hid (Inv w [bF C (iJ x),rowAt (.slice ga nf gc) 9 1 nf (F.map .string),aG R (FP x k1 ga nf gc) 33,aG N aH 33] wx))
       case first=>
        go_region_with (go_at_call 154;refine(ZR.out _ (by go_grown)).mono ?_;rintro e w5 ⟨rfl,ht⟩;have HT:=hid ((HI4.out.below (by go_grown)).turn 0 rfl ht);clear ht)
        all_goals (go_wp2_with fail)
        all_goals go_meet
        all_goals (exact⟨rfl,HT⟩)
       case rest=>
        obtain⟨rfl,mV⟩:=hcut;clear HI4 ZR x1 r9;obtain⟨vs,⟨i1,s1,s2,i2,i3,b1,i4,b2,i5,i6,b3,b4,i7,i8,b5,rfl⟩,hc⟩:=mV.out.get 0 rfl;have sJ:=hid ((mV.out.turn 0 rfl (bF.oW hc)).turn 0 rfl (ai hc 2 (.string k1)));have y1:=(mV.out.old (p:=⟨b,o+1,none⟩) (by rw[hN];exact hbN)).trans HY.out;obtain⟨c0,f0,c1,f1,c2,f2,c3,f3,c4,f4,c5,f5,c6,f6,c7,f7,c8,f8,c9,f9,c10,f10,c11,f11,c12,f12,c13,f13,c14,f14,c15,f15⟩:=bV hc;have q1:(1:Int)<(k:Int)+2:=by omega
        go_upto_if 88 with (fail)
        obtain⟨X,hX⟩:∃X,wc.setCell ⟨C,2,none⟩ (.string k1)=X:=⟨_,rfl⟩;rw[hX] at sJ;rw[hX];clear hX y1 c0 f0 c1 f1 c2 f2 c3 f3 c4 f4 c5 f5 c6 f6 c7 f7 c8 f8 c9 f9 c10 f10 c11 f11 c12 f12 c13 f13 c14 f14 c15 f15 hc mV;go_cut [12,13,14,15] from 87 to 108 (λt12 t13 t14 t15 wx=> ∃t,t12=.string t/\Hid ((t=⟨#[]⟩/\GB.read l B=if st then GB.chunk m B else .other)\/(t.toList.isEmpty=false/\GB.read l B=if st then .other else .bad t 0))/\Hid (Inv w [bF C (iJ x),rowAt (.slice ga nf gc) 9 1 nf (F.map .string),aG R (FP x k1 ga nf gc) 33,aG N aH 33] wx))
        case first=>
         have wH:=hid HQ.out.2.2.2.1;obtain⟨T,hT⟩:∃T,pV (GB.flags x F)=T:=⟨_,rfl⟩;have hfl:(T=⟨#[]⟩/\GB.flags x F=none)\/(T.toList.isEmpty=false/\GB.flags x F=some T):=by
          rw[<-hT];cases h:GB.flags x F with
          |none=>exact .inl ⟨rfl,rfl⟩
          |some t=>exact .inr ⟨JB h,rfl⟩
         rw[hT];clear hT;have JC:=hid (show∀W',Below X.heap.size X W'->Inv w [bF C (iJ x),rowAt (.slice ga nf gc) 9 1 nf (F.map .string),aG R (FP x k1 ga nf gc) 33,aG N aH 33] W' from λW' hb=>(sJ.out.turn 0 rfl (bF.into (ag.rfl' (sJ.out.get 0 rfl)) ⟨_,_,_,_,_,_,_,_,_,_,_,_,_,_,_,rfl⟩)).below hb);have hbe:(T.toList == [])=T.toList.isEmpty:=by cases T.toList<;>rfl
         rcases hfl with ⟨rfl,hfl⟩|⟨hne,hfl⟩
         ·have he1:(⟨#[]⟩:ByteArray).toList.isEmpty=true:=by rw[fJ];rfl
          rw[he1];clear hbe he1;have XU:=hid (show GB.read l B=if GB.iB k1 F then (if st then GB.chunk m B else .other) else (if st then .other else .bad GB.bD 0) by rw[wH.out];unfold oZ;rw[hfl]);have ZT:=hid (show k1.size<=1000000 by rw[<-FQ.out];exact HH.out.1 1);have Oo:=hid (show Calls prog 155 #[.agg #[.int .i64 1,.slice none 0 0,.bool false,.bool false,.string ⟨#[]⟩,.string ⟨#[]⟩,.int .i64 0,.bool false,.string x,.slice ga nf gc,.string k1],.int .u8 98] X (Jm (F.any (λf=>GB.hd f == 98)) X) from by
           by_cases hnf:1<=nf
           ·obtain⟨gb,hgb⟩:=HR.out hnf;have hw:=sJ.out.get 1 rfl;subst hgb;exact CG _ _ _ _ _ _ _ _ _ _ 98 tF.out.1 (λ_=>⟨rfl,AZ hw tF.out.1⟩) (by have:=HQ.out.2.2.1;omega) (λi hi=>by rw[tF.out.2 i hi];exact HH.out.2 _ (by have:=HQ.out.2.2.1;omega))
           ·exact CG (b:=0) (o:=0) _ _ _ _ _ _ _ _ _ _ 98 tF.out.1 (λe=>absurd e hnf) (by omega) (λi hi=>by omega))
          unfold Jm at Oo;clear hfl;obtain⟨r0,g0,r1,g1,r2,g2,r3,g3,r4,g4,r5,g5,r6,g6,r7,g7,r8,g8,r9,g9,nY,g10⟩:=au (sJ.out.get 2 rfl);cases hq:F.any (λf=>GB.hd f == 98)
          ·rw[hq] at Oo;have HK:=hid (λw'=>W2.bZ k1 w' (by have:=ZT.out;unfold maxLen;omega));have Su:=hid (show GB.iB k1 F=W2.aO k1 by unfold GB.iB;rw[hq];rfl);clear hq;obtain⟨kb,hkb⟩:∃kb,W2.aO k1=kb:=⟨_,rfl⟩;rw[hkb] at HK Su;clear hkb;cases kb
           all_goals
            go_wp2_with (first
             |(go_at_call 155;refine Oo.out.mono ?_;rintro e w7 ⟨rfl,kT⟩;have c2:w7.cell? ⟨C,2,none⟩=some (.string k1):=cA ((sJ.out.below kT).get 0 rfl) 2;have FR:=hid kT;clear kT)
             |(go_at_call 157;refine(HK.out _).mono ?_;rintro e w1 ⟨rfl,rfl⟩))
            go_meet
           ·exact⟨_,rfl,hid (.inr ⟨by rw[fJ];rfl,by rw[XU.out,Su.out];rfl⟩),hid (JC.out _ FR.out)⟩
           ·exact⟨_,rfl,hid (.inl ⟨rfl,by rw[XU.out,Su.out];rfl⟩),hid (JC.out _ FR.out)⟩
          ·rw[hq] at Oo;have Su:=hid (show GB.iB k1 F=(B3.P.okD k1 && W2.aO (B3.P.iW k1)) by unfold GB.iB;rw[hq];rfl);have ZU:=hid (λw'=>B3.tu k1 w' (by have:=ZT.out;omega));unfold B3.dJ at ZU;have HK:=hid (λw'=>W2.bZ (B3.P.iW k1) w' (by have:=ZT.out;have:=nZ k1;unfold maxLen;omega));obtain⟨dk,hdk⟩:∃dk,B3.P.iW k1=dk:=⟨_,rfl⟩;obtain⟨od,hod⟩:∃od,B3.P.okD k1=od:=⟨_,rfl⟩;obtain⟨kb,hkb⟩:∃kb,W2.aO dk=kb:=⟨_,rfl⟩;rw[hdk,hod] at ZU;rw[hdk,hod,hkb] at Su;rw[hdk,hkb] at HK;clear hq hdk hod hkb;have q1:(1:Int)<(k:Int)+2:=by omega
           have hyl:=hbN;cases od<;>cases kb
           all_goals
            go_wp2_with (first
             |(go_at_call 155;refine Oo.out.mono ?_;rintro e w7 ⟨rfl,kT⟩;have y7:=((sJ.out.below kT).old (p:=⟨b,o+1,none⟩) (by rw[hN];exact hyl)).trans HY.out;have FR:=hid kT;clear kT)
             |(go_at_call 156;refine(ZU.out _).mono ?_;rintro e w8 ⟨rfl,DR⟩;have XV:=hid (Og FR.out DR);have c2:w8.cell? ⟨C,2,none⟩=some (.string k1):=cA ((sJ.out.below XV.out).get 0 rfl) 2;have f2:=cZ ((sJ.out.below XV.out).get 0 rfl) 2;clear DR)
             |(go_at_call 157;refine(HK.out _).mono ?_;rintro e w1 ⟨rfl,rfl⟩))
            go_meet;refine⟨_,rfl,hid ?_,hid ((sJ.out.below XV.out).turn 0 rfl (bF.into (ai ((sJ.out.below XV.out).get 0 rfl) 2 _) ⟨_,_,_,_,_,_,_,_,_,_,_,_,_,_,_,rfl⟩))⟩
            first
             |exact .inr ⟨by rw[fJ];rfl,by rw[XU.out,Su.out];rfl⟩
             |exact .inl ⟨rfl,by rw[XU.out,Su.out];rfl⟩
         ·have HR2:=hid (show GB.read l B=if st then .other else .bad T 0 by rw[wH.out];unfold oZ;rw[hfl]);have ZQ:=hid hne;rw[hne];clear hbe hne;go_wp2_with (fail)
          go_meet;exact⟨T,rfl,hid (.inr ⟨ZQ.out,HR2.out⟩),hid (JC.out _ (Below.refl _ _))⟩
        case rest=>
         obtain⟨t,rfl,HT,zJ⟩:=hcut;clear sJ HY;rcases HT.out with ⟨rfl,hread⟩|⟨hne,hread⟩
         ·have wH:=hid hread;have VU:=hid (show m<=1073741824/\(st=false->m=0) from⟨HQ.out.1,HQ.out.2.1⟩);clear hread HT;by_cases wG:65536<m
          ·have ZO:(65536:Int)<m:=by omega
           cases st
           ·have:=VU.out.2 rfl;omega
           ·have hsk:sk=(m:Int)+2:=Qk.out.trans (if_pos rfl);subst hsk;have HE:=hid (show GB.read l B=.other by rw[wH.out,if_pos rfl];unfold GB.chunk;rw[if_pos wG]);go_wp2_with (go_at_call 86;refine(HB.out _ _).mono ?_;rintro e w4 ⟨rfl,hb1⟩;have B1:=ae (zJ.out.get 3 rfl) hb1;have BO:=λo=>ae B1 (bA w4 o);obtain⟨n0,p0,n1,p1,n2,p2,n3,p3,n4,p4,n5,p5,n6,p6,n7,p7,n8,p8,n9,p9,n10,bE⟩:=Eh BO;have Jz:=hid BO;have gF:=hid (JA zJ.out.bel.size zJ.out.bel hb1);clear BO)
            exact gD (N:=N) rfl rfl rfl hN (gF.out.trans ((bA w4 _).mono gF.out.size)) (Jz.out _) HE.out ⟨2,_,_,_,_,_,_,_,_,_,_,_,_,_,_,rfl,.inr (.inl (by omega))⟩
          ·have ZO:¬(65536:Int)<m:=by omega
           by_cases hsh:(B.size:Int)<sk
           ·have HE:=hid (show GB.read l B=.other by
             rw[wH.out];have h:=Qk.out;cases st
             ·rfl
             ·rw[if_pos rfl] at h;rw[if_pos rfl];unfold GB.chunk;rw[if_neg wG,if_pos (by omega)])
            obtain⟨n0,p0,n1,p1,n2,p2,n3,p3,n4,p4,n5,p5,n6,p6,n7,p7,n8,p8,n9,p9,n10,bE⟩:=au (zJ.out.get 3 rfl);go_wp2_with (fail)
            exact gD (N:=N) (v0:=.int .i64 0) (v1:=.slice none 0 0) (v2:=.bool false) (v3:=.bool false) (v4:=.string ⟨#[]⟩) (v5:=.string ⟨#[]⟩) (v6:=.int .i64 0) (v7:=.bool false) (v8:=.string ⟨#[]⟩) (v9:=.slice none 0 0) (v10:=.string ⟨#[]⟩) rfl rfl rfl hN zJ.out.bel (zJ.out.get 3 rfl) HE.out ⟨0,_,_,_,_,_,_,_,_,_,_,_,_,_,_,rfl,.inl (by decide)⟩
           ·go_upto_region 36 with (fail)
            go_cut [134] from 122 to 134 (λt wx=>t=.bool (st && decide (¬GB.crlf B m))/\wx=wc)
            case first=>
             cases st
             ·go_wp2_with (fail)
              go_meet;exact⟨rfl,rfl⟩
             ·have h:sk=(m:Int)+2:=Qk.out.trans (if_pos rfl);have hsj:(m:Int)+2<=B.size:=by omega
              have hsk:((m:Int)+2).toNat=m+2:=by omega
              subst h;by_cases hcr:GB.crlf B m
              ·have HD:=hid (show (true && decide (¬GB.crlf B m))=false by rw[decide_eq_false (λx=>x hcr)];rfl);have hcb:((B.extract m (m+2)).toList == [13,10])=true:=by
                rw[show [13,10]=(⟨#[13,10]⟩:ByteArray).toList by rw[ByteArray.toList_eq],a_,decide_eq_true (show B.extract m (m+2)=⟨#[13,10]⟩ from hcr)]
               clear hcr;go_wp2_with (fail)
               go_meet;exact⟨by rw[HD.out],rfl⟩
              ·have HD:=hid (show (true && decide (¬GB.crlf B m))=true by rw[decide_eq_true hcr];rfl);have hcb:((B.extract m (m+2)).toList == [13,10])=false:=by
                rw[show [13,10]=(⟨#[13,10]⟩:ByteArray).toList by rw[ByteArray.toList_eq],a_,decide_eq_false (show¬B.extract m (m+2)=⟨#[13,10]⟩ from hcr)]
               clear hcr;go_wp2_with (fail)
               go_meet;exact⟨by rw[HD.out],rfl⟩
            case rest=>
             obtain⟨rfl,hwc⟩:=hcut;have hwc:=hwc.symm;subst hwc;obtain⟨bd,hbd⟩:∃bd,(st && decide (¬GB.crlf B m))=bd:=⟨_,rfl⟩;rw[hbd];cases bd
             ·have HE:=hid (show GB.read l B=.other by
               rw[wH.out];have h:=Qk.out;cases st
               ·rfl
               ·rw[if_pos rfl] at h;rw[if_pos rfl];unfold GB.chunk;rw[if_neg wG,if_neg (by omega),if_pos (by simpa using hbd)])
              have hmB:(m:Int)<=B.size:=by
               have h:=Qk.out;cases st
               ·have:=VU.out.2 rfl;omega
               ·rw[if_pos rfl] at h;omega
              clear hbd wH;obtain⟨vs,⟨i1,s1,s2,i2,i3,b1,i4,b2,i5,i6,b3,b4,i7,i8,b5,rfl⟩,hc⟩:=zJ.out.get 0 rfl;have f3:=cZ hc 3;have c3:wc.cell? ⟨C,3,none⟩=some (.string s2):=cA hc 3;have VV:=hid ((zJ.out.turn 0 rfl (bF.oW hc)).turn 0 rfl (ai hc 3 (.string (B.extract 0 m))));clear hc;go_upto_region 39 with (fail)
              obtain⟨V,hV⟩:∃V,wc.setCell ⟨C,3,none⟩ (.string (B.extract 0 m))=V:=⟨_,rfl⟩;rw[hV] at VV;rw[hV];clear hV f3 c3;obtain⟨c0,f0,c1,f1,c2,f2,c3,f3,c4,f4,c5,f5,c6,f6,c7,f7,c8,f8,c9,f9,c10,f10,c11,f11,c12,f12,c13,f13,c14,f14,c15,f15⟩:=bV (VV.out.get 0 rfl);have ZV:∀ob,(aG R (FP x k1 ga nf gc) 33).R (V.alloc ob):=λob=>(VV.out.below (bA V ob)).get 2 rfl
              have r1:∀ob,(V.alloc ob).cell? ⟨R,1,none⟩=some (.slice none 0 0):=λob=>cA (ZV ob) 1
              have g1:∀ob,(V.alloc ob).frozen? ⟨R,1,none⟩=false:=λob=>cZ (ZV ob) 1
              clear ZV;go_upto_region 40 with (fail)
              obtain⟨D,hD⟩:∃D,V.heap.size=D:=⟨_,rfl⟩;have HI9:=hid (λob V2 (h:(V.alloc ob).setCell ⟨R,1,none⟩ (.slice (some ⟨D,0,none⟩) 1 1)=V2)=>hid (by
               have h1:=(VV.out.below (bA V ob)).turn 2 rfl (ai ((VV.out.below (bA V ob)).get 2 rfl) 1 (.slice (some ⟨D,0,none⟩) 1 1));rw[h] at h1;exact h1))
              rw[hD];generalize hV2:(V.alloc _).setCell ⟨R,1,none⟩ (.slice (some ⟨D,0,none⟩) 1 1)=V2;have ZW:=HI9.out _ _ hV2;clear hV2 hD r1 g1 HI9;clear c0 f0 c1 f1 c2 f2 c3 f3 c4 f4 c5 f5 c6 f6 c7 f7 c8 f8 c9 f9 c10 f10 c11 f11 c12 f12 c13 f13 c14 f14 c15 f15;obtain⟨r0,g0,r1,g1,r2,g2,r3,g3,r4,g4,r5,g5,r6,g6,r7,g7,r8,g8,r9,g9,nY,g10⟩:=au (ZW.out.get 2 rfl);have Oo:=hid (show Calls prog 155 #[.agg #[.int .i64 1,.slice (some ⟨D,0,none⟩) 1 1,.bool false,.bool false,.string ⟨#[]⟩,.string ⟨#[]⟩,.int .i64 0,.bool false,.string x,.slice ga nf gc,.string k1],.int .u8 113] V2 (Jm (F.any (λf=>GB.hd f == 113)) V2) from by
               by_cases hnf:1<=nf
               ·obtain⟨gb,hgb⟩:=HR.out hnf;have hw:=ZW.out.get 1 rfl;subst hgb;exact CG _ _ _ _ _ _ _ _ _ _ 113 tF.out.1 (λ_=>⟨rfl,AZ hw tF.out.1⟩) (by have:=HQ.out.2.2.1;omega) (λi hi=>by rw[tF.out.2 i hi];exact HH.out.2 _ (by have:=HQ.out.2.2.1;omega))
               ·exact CG (b:=0) (o:=0) _ _ _ _ _ _ _ _ _ _ 113 tF.out.1 (λe=>absurd e hnf) (by omega) (λi hi=>by omega))
              unfold Jm at Oo;obtain⟨qb,hqb⟩:∃qb,F.any (λf=>GB.hd f == 113)=qb:=⟨_,rfl⟩;rw[hqb] at Oo;clear hqb;go_upto_region 41 with (go_at_call 155;refine Oo.out.mono ?_;rintro e w9 ⟨rfl,ny⟩;have XW:=hid (ZW.out.below ny);clear r0 g0 r1 g1 r2 g2 r3 g3 r4 g4 r5 g5 r6 g6 r7 g7 r8 g8 r9 g9 nY g10 ny;have r2:w9.cell? ⟨R,2,none⟩=some (.bool false):=cA (XW.out.get 2 rfl) 2;have g2:=cZ (XW.out.get 2 rfl) 2)
              have VW:=hid (XW.out.turn 2 rfl (ai (XW.out.get 2 rfl) 2 (.bool qb)));generalize hV3:w9.setCell ⟨R,2,none⟩ (.bool qb)=V3;rw[hV3] at VW;clear hV3 r2 g2;obtain⟨r0,g0,r1,g1,r2,g2,r3,g3,r4,g4,r5,g5,r6,g6,r7,g7,r8,g8,r9,g9,nY,g10⟩:=au (VW.out.get 2 rfl);obtain⟨n0,p0,n1,p1,n2,p2,n3,p3,n4,p4,n5,p5,n6,p6,n7,p7,n8,p8,n9,p9,n10,bE⟩:=au (VW.out.get 3 rfl);go_wp2_with (fail)
              exact gD (N:=N) (v0:=.int .i64 1) (v1:=.slice (some ⟨D,0,none⟩) 1 1) (v2:=.bool qb) (v3:=.bool false) (v4:=.string ⟨#[]⟩) (v5:=.string ⟨#[]⟩) (v6:=.int .i64 0) (v7:=.bool false) (v8:=.string x) (v9:=.slice ga nf gc) (v10:=.string k1) rfl rfl rfl hN VW.out.bel (VW.out.get 3 rfl) HE.out ⟨1,_,_,_,_,_,_,_,_,_,_,_,_,_,_,rfl,.inl (by decide)⟩
             ·have ZX:st=true:=by cases st<;>simp_all
              subst ZX;have hsk:sk=(m:Int)+2:=Qk.out.trans (if_pos rfl);subst hsk;have HE:=hid (show GB.read l B=.bad GB.nR (m+2) by
               rw[wH.out,if_pos rfl];unfold GB.chunk;rw[if_neg wG,if_neg (by omega),if_neg (by simpa using hbd)])
              clear hbd wH;go_wp2_with (go_at_call 86;refine(HB.out _ _).mono ?_;rintro e w4 ⟨rfl,hb1⟩;have B1:=ae (zJ.out.get 3 rfl) hb1;obtain⟨n0,p0,n1,p1,n2,p2,n3,p3,n4,p4,n5,p5,n6,p6,n7,p7,n8,p8,n9,p9,n10,bE⟩:=au B1)
              exact aY (N:=N) (t:=GB.nR) (u:=m+2) rfl rfl rfl (by omega) hN zJ.out.bel hb1 B1 HE.out
         ·have wH:=hid hread;go_upto_region 28 with (fail)
          have hbe:(t.toList == [])=false:=by
           rw[<-hne];cases t.toList<;>rfl
          clear hread HT;cases st
          ·have hsk:sk=0:=Qk.out.trans (if_neg (by simp));subst hsk;go_wp2_with (go_at_call 86;refine(HB.out _ _).mono ?_;rintro e w4 ⟨rfl,hb1⟩;have B1:=ae (zJ.out.get 3 rfl) hb1;have BO:=λo=>ae B1 (bA w4 o);obtain⟨n0,p0,n1,p1,n2,p2,n3,p3,n4,p4,n5,p5,n6,p6,n7,p7,n8,p8,n9,p9,n10,bE⟩:=Eh BO;have Jz:=hid BO;have gF:=hid (JA zJ.out.bel.size zJ.out.bel hb1);clear BO)
           exact aY (N:=N) (t:=t) (u:=0) rfl rfl rfl rfl hN gF.out (bA w4 _) (Jz.out _) (wH.out.trans (by simp))
          ·have hsk:sk=(m:Int)+2:=Qk.out.trans (if_pos rfl);subst hsk;go_wp2_with (go_at_call 86;refine(HB.out _ _).mono ?_;rintro e w4 ⟨rfl,hb1⟩;have B1:=ae (zJ.out.get 3 rfl) hb1;have BO:=λo=>ae B1 (bA w4 o);obtain⟨n0,p0,n1,p1,n2,p2,n3,p3,n4,p4,n5,p5,n6,p6,n7,p7,n8,p8,n9,p9,n10,bE⟩:=Eh BO;have Jz:=hid BO;have gF:=hid (JA zJ.out.bel.size zJ.out.bel hb1);clear BO)
           exact gD (N:=N) rfl rfl rfl hN (gF.out.trans ((bA w4 _).mono gF.out.size)) (Jz.out _) (wH.out.trans (by simp)) ⟨2,_,_,_,_,_,_,_,_,_,_,_,_,_,_,rfl,.inr (.inl (by omega))⟩
end Go.Proofs.YtboehbfagnocpaaGreatDoor
