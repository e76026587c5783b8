import Derived.Test.YtboehbfagnocpaaGreatDoorKag
set_option linter.unusedVariables false
set_option linter.unusedSimpArgs false
set_option maxRecDepth 100000
set_option maxHeartbeats 40000000
open Go.Proofs.Tryz
open Go.Lib (hid)
namespace Go.Proofs.YtboehbfagnocpaaGreatDoor
open Go.RowKit Go.PlainAid Go.Shelf
open W2 (RS)
theorem bR{a b c:World}{n:Nat}(hn:n<=b.heap.size)(h:Below n a b)(k:Below b.heap.size b c):Below n a c:=h.trans (k.mono hn)
theorem SQ{l:List ByteArray}(h:∀j,j<l.length->W2.aO (GB.wd l j)=true):l.all W2.aO=true:=by
 rw[List.all_eq_true];intro x hx;obtain⟨j,hj,rfl⟩:=List.mem_iff_getElem.1 hx;have:=h j hj;unfold GB.wd at this;rwa [List.getElem?_eq_getElem hj] at this
theorem Bc{l:List ByteArray}{j:Nat}(hj:j<l.length)(h:W2.aO (GB.wd l j)=false):l.all W2.aO=false:=by
 rw[List.all_eq_false];refine⟨l[j],List.getElem_mem hj,?_⟩;unfold GB.wd at h;rw[List.getElem?_eq_getElem hj] at h;simpa using h
theorem kP(l:List ByteArray)(q j:Nat):GB.wd (l.drop q) j=GB.wd l (q+j):=by
 unfold GB.wd;rw[List.getElem?_drop]
def OM(e:Int)(h:Bool):Array Value:=#[.int .i64 1,.int .i64 0,.string ⟨#[]⟩,.string ⟨#[]⟩,.int .u32 0,.int .i64 e,.bool h,.int .u64 0,.bool false,.int .u64 0,.int .u64 0,.bool false,.bool false,.int .i64 0,.int .i64 0,.bool false]
theorem OO{w:World}{a:Option Addr}{cap:Nat}{l:List ByteArray}(h:RS w (.slice a 1 cap) l)(hc:1<=cap):
 Calls prog 88 #[.slice a 1 cap] w (tq w (GB.gets l)):=by
 obtain⟨b,o,rfl,hb,hx⟩:=RS.at' h (i:=0) (by omega);rw[Nat.add_zero] at hx;obtain⟨x,hx0⟩:∃x,GB.wd l 0=x:=⟨_,rfl⟩;rw[hx0] at hx;have hl:=W2.RS.len h;have HS:=hid (show GB.gets l=.bad GB.bg 0 by
  unfold GB.gets;split
  ·rw[if_pos (by omega)]
  ·unfold GB.keysOf;rw[if_pos (List.drop_eq_nil_iff.2 (by omega))])
 have i1:=(Inv.start w).new (aA w aH 33) (bA w _) (λb hb=>by have e:b=w.heap.size:=hb;omega);have i3:=i1.new (aA _ (OM 0 false) 56) (bA _ _) (λb hb=>by have e:b=(w.alloc (.cells aH 33)).heap.size:=hb;omega);have hlt:b<w.heap.size:=hb;have hx1:=(i3.bel.cell (p:=⟨b,o,none⟩) hlt).trans hx;simp only[World.size_alloc] at i3;have HB:=hid nT;unfold cO at HB;obtain⟨N,hN⟩:∃N,w.heap.size=N:=⟨_,rfl⟩;obtain⟨W,hW⟩:∃W,(w.alloc (.cells aH 33)).alloc (.cells (OM 0 false) 56)=W:=⟨_,rfl⟩;rw[hW] at i3 hx1;have hW':=hW;simp only[aH,OM] at hW';have wL:=hid hW';clear hW';have B0:=hid (show (aG N aH 33).R W by rw[<-hN];exact i3.get 1 rfl);have HW:=hid i3.bel;clear hW i1 i3 h hl hb;have i5:(1:Int)<=cap:=by omega
 by_cases hcp:cap=1
 ·subst hcp;go_enter func88,ntmps88;go_upto_region 2 with (fail)
  rw[wL.out]
  go_wp2_with (first
   |(go_at_call 86;refine(HB.out _ _).mono ?_;rintro e w1 ⟨rfl,hb1⟩
     have B1:=ae B0.out hb1;obtain⟨n0,p0,n1,p1,n2,p2,n3,p3,n4,p4,n5,p5,n6,p6,n7,p7,n8,p8,n9,p9,n10,bE⟩:=au B1))
  all_goals (exact bU (N:=N) (t:=GB.bg) (u:=0) rfl rfl hN HW.out hb1 B1 HS.out)
 ·have i4:¬1=cap:=λe=>hcp e.symm
  have i6:(1:Int)<=cap:=by omega
  go_enter func88,ntmps88;go_upto_region 2 with (fail)
  rw[wL.out]
  go_wp2_with (first
   |(go_at_call 86;refine(HB.out _ _).mono ?_;rintro e w1 ⟨rfl,hb1⟩
     have B1:=ae B0.out hb1;obtain⟨n0,p0,n1,p1,n2,p2,n3,p3,n4,p4,n5,p5,n6,p6,n7,p7,n8,p8,n9,p9,n10,bE⟩:=au B1))
  all_goals (exact bU (N:=N) (t:=GB.bg) (u:=0) rfl rfl hN HW.out hb1 B1 HS.out)
def XY(a:Option Addr)(n c:Nat)(tk:Bool):Array Value:=#[.int .i64 1,.slice a n c,.bool false,.bool tk,.string ⟨#[]⟩,.string ⟨#[]⟩,.int .i64 0,.bool false,.string ⟨#[]⟩,.slice none 0 0,.string ⟨#[]⟩]
theorem OP{w:World}{a:Option Addr}{k cap:Nat}{l:List ByteArray}(h:RS w (.slice a (k+2) cap) l)(hc:k+2<=cap)(hn:k+2<=1000000)(hsz:∀i,(GB.wd l i).size<=1000000):
 Calls prog 88 #[.slice a (k+2) cap] w (tq w (GB.gets l)):=by
 obtain⟨b,o,rfl,hb,hx⟩:=RS.at' h (i:=0) (by omega);obtain⟨x,hx0⟩:∃x,GB.wd l 0=x:=⟨_,rfl⟩;rw[hx0,Nat.add_zero] at hx;have hl:=W2.RS.len h;have HA:=hid (λi (hi:i<k+2)=>show w.cell? ⟨b,o+i,none⟩=some (.string (GB.wd l i)) from by
  obtain⟨b',o',e',_,hx'⟩:=RS.at' h hi;cases e';exact hx')
 have i1:=(Inv.start w).new (aA w aH 33) (bA w _) (λb hb=>by have e:b=w.heap.size:=hb;omega);have i3:=i1.new (aA _ (OM 0 false) 56) (bA _ _) (λb hb=>by have e:b=(w.alloc (.cells aH 33)).heap.size:=hb;omega);have hlt:b<w.heap.size:=hb;have Z8:=hid hlt;have hx1:=(i3.bel.cell (p:=⟨b,o,none⟩) hlt).trans hx;have hy1:=(i3.bel.cell (p:=⟨b,o+1,none⟩) hlt).trans (HA.out 1 (by omega));simp only[World.size_alloc] at i3;have HB:=hid nT;unfold cO at HB;obtain⟨y,hy⟩:∃y,GB.wd l 1=y:=⟨_,rfl⟩;rw[hy] at hy1;have HX:=hid (λw'=>jW y w' (by rw[<-hy];exact hsz 1));unfold pQ at HX;have HKK:=hid (λi w'=>W2.bZ (GB.wd l i) w' (by have:=hsz i;unfold maxLen;omega));have Xo:=hid (show GB.Eg x=false->GB.gets l=GB.keysOf (l.drop 1) from λh1=>by unfold GB.gets;rw[hx0,h1];rfl);have HG2:=hid (show GB.Eg x=true->GB.gets l=(if k+2<3 then .bad GB.bg 0 else if sc y.data.toList=false then .bad GB.mQ 0 else GB.keysOf (l.drop 2)) from λh1=>by
  unfold GB.gets;rw[hx0,h1,hl,hy];rfl)
 have HL:=hid hl;obtain⟨N,hN⟩:∃N,w.heap.size=N:=⟨_,rfl⟩;obtain⟨W,hW⟩:∃W,(w.alloc (.cells aH 33)).alloc (.cells (OM 0 false) 56)=W:=⟨_,rfl⟩;rw[hW] at i3 hx1 hy1;simp only[aH,OM] at hW;have wL:=hid hW;clear hW;rw[hN] at i3 Z8;have I3:=hid i3;have i4:¬cap=1:=by omega
 have i5:¬cap=2\/k=0:=by omega
 have HX0:=hid hx;clear i1 i3 h hl hb hx hx0 hsz hy hlt;go_enter func88,ntmps88;go_upto_region 2 with (fail)
 rw[wL.out];go_upto_region 3 with (fail)
 go_cut [23] from 14 to 22 (λt wx=>t=.bool (GB.Eg x)/\wx=W)
 case first=>
  by_cases h1:x=GB.nS
  ·subst h1;simp only[GB.nS] at hx1;go_wp2_with (fail)
   go_meet;exact⟨by rw[show GB.Eg GB.nS=true by decide],rfl⟩
  ·have b1:(x.toList == [103,97,116])=false:=by
    rw[show [103,97,116]=GB.nS.toList by rw[ByteArray.toList_eq];rfl,a_,decide_eq_false h1]
   by_cases h2:x=GB.gq
   ·subst h2;simp only[GB.gq] at hx1;clear h1 b1;go_wp2_with (fail)
    go_meet;exact⟨by rw[show GB.Eg GB.gq=true by decide],rfl⟩
   ·have b2:(x.toList == [103,97,116,115])=false:=by
     rw[show [103,97,116,115]=GB.gq.toList by rw[ByteArray.toList_eq];rfl,a_,decide_eq_false h2]
    have HE:=hid (show GB.Eg x=false from decide_eq_false (λe=>e.elim h1 h2));clear h1 h2;go_wp2_with (fail)
    go_meet;exact⟨by rw[HE.out],rfl⟩
 case rest=>
 obtain⟨rfl,rfl⟩:=hcut;go_upto_if 23 with (fail)
 go_cut [4,5,6] from 11 to 42 (λks t5 t6 wx=> ∃(q m c':Nat) (e:Int) (hh:Bool),q+m=k+2/\1<=m/\ks=.slice (some ⟨b,o+q,none⟩) m c'/\Hid (GB.gets l=GB.keysOf (l.drop q))/\Hid (Inv w [aG (N+1) (OM e hh) 56,aG N aH 33] wx))
 case first=>
  cases hg:GB.Eg x
  ·have HE:=hid (Xo.out hg);go_wp2_with (fail)
   go_meet;exact⟨1,k+1,_,0,false,by omega,by omega,rfl,HE,I3⟩
  ·have HE:=hid (HG2.out hg);by_cases hk:k=0
   ·subst hk;go_wp2_with (go_at_call 86;refine(HB.out _ _).mono ?_;rintro e w1 ⟨rfl,hb1⟩;have B1:=ae (I3.out.get 1 rfl) hb1;obtain⟨n0,p0,n1,p1,n2,p2,n3,p3,n4,p4,n5,p5,n6,p6,n7,p7,n8,p8,n9,p9,n10,bE⟩:=au B1)
    exact bU (N:=N) (t:=GB.bg) (u:=0) rfl rfl hN I3.out.bel hb1 B1 (HE.out.trans (if_pos (by decide)))
   ·obtain⟨k,rfl⟩:∃j,k=j+1:=⟨k-1,by omega⟩;have c2:¬cap=2:=by omega
    cases hv:sc y.data.toList
    ·rw[hv] at HX HE
     go_wp2_with (first
      |(go_at_call 158;refine(HX.out _).mono ?_;rintro e w2 ⟨v,rfl,hb2⟩)
      |(go_at_call 86;refine(HB.out _ _).mono ?_;rintro e w1 ⟨rfl,hb1⟩;have B1:=ae ((I3.out.below hb2).get 1 rfl) hb1;obtain⟨n0,p0,n1,p1,n2,p2,n3,p3,n4,p4,n5,p5,n6,p6,n7,p7,n8,p8,n9,p9,n10,bE⟩:=au B1))
     exact bU (N:=N) (t:=GB.mQ) (u:=0) rfl rfl hN (bR I3.out.bel.size I3.out.bel hb2) hb1 B1 (HE.out.trans (by rw[if_neg (by omega),if_pos trivial]))
    ·rw[hv] at HX HE;go_wp2_with (go_at_call 158;refine(HX.out _).mono ?_;rintro e w2 ⟨v,rfl,hb2⟩;have I4:=I3.out.below hb2;have B2:=I4.get 1 rfl;obtain⟨c0,f0,c1,f1,c2,f2,c3,f3,c4,f4,c5,f5,c6,f6,c7,f7,c8,f8,c9,f9,c10,f10,c11,f11,c12,f12,c13,f13,c14,f14,c15,f15⟩:=bV (I4.get 0 rfl);have HI4:=hid I4;clear I4)
     go_meet;exact⟨2,k+1,_,_,true,by omega,by omega,rfl,hid (HE.out.trans (by rw[if_neg (by omega),if_neg (by simp)])),hid ((HI4.out.turn 0 rfl (ai (HI4.out.get 0 rfl) 5 _)).turn 0 rfl (ai ((HI4.out.turn 0 rfl (ai (HI4.out.get 0 rfl) 5 _)).get 0 rfl) 6 _))⟩
 case rest=>
  obtain⟨q,m,c',e,hh,hqm,hm,rfl,HQ,HI⟩:=hcut;have Z9:=(HI.out.old (p:=⟨b,o,none⟩) (by rw[hN];exact Z8.out)).trans HX0.out;have m0:¬(m:Int)=0:=by omega
  have m0b:((m:Int) == 0)=false:=by simpa using m0
  clear hx1 hy1 i4 i5 Xo HG2 I3 HX;go_upto_region 14 with fail
  go_cut [7] from 46 to 57 (λt7 wx=> ∃(R:Nat) (tk:Bool),t7=.pointer (some ⟨R,0,none⟩)/\Hid (Inv w [aG R (XY none 0 0 tk) 33,aG (N+1) (OM e hh) 56,aG N aH 33] wx))
  case first=>
   have Om:=hid (λtk=>HI.out.new (aA _ (XY none 0 0 tk) 33) (bA _ _) (λb hb=>by have e:b=wc.heap.size:=hb;have:=HI.out.bel.size;omega));simp only[XY] at Om;by_cases h1:x=GB.jX
   ·subst h1;simp only[GB.jX] at Z9;go_wp2_with (fail)
    go_meet;exact⟨_,true,rfl,hid (Om.out true)⟩
   ·have b1:(x.toList == [103,101,116,115])=false:=by
     rw[show [103,101,116,115]=GB.jX.toList by rw[ByteArray.toList_eq];rfl,a_,decide_eq_false h1]
    clear h1;by_cases h2:x=GB.gq
    ·subst h2;simp only[GB.gq] at Z9;clear b1;go_wp2_with (fail)
     go_meet;exact⟨_,true,rfl,hid (Om.out true)⟩
    ·have b2:(x.toList == [103,97,116,115])=false:=by
      rw[show [103,97,116,115]=GB.gq.toList by rw[ByteArray.toList_eq];rfl,a_,decide_eq_false h2]
     clear h2;go_wp2_with (fail)
     go_meet;exact⟨_,false,rfl,hid (Om.out false)⟩
  case rest=>
   obtain⟨R,tk,rfl,HI2⟩:=hcut;clear HI Z9 HX0;go_wp2_with (fail)
   go_loopw [8] (λi wr=> ∃j:Nat,j<=m/\i=.int .i64 j/\Hid (∀t,t<j->W2.aO (GB.wd l (q+t))=true)/\∃(ra:Option Addr) (rc:Nat) (xs:List Value),Hid (Inv w [rowAt (.slice ra j rc) 56 16 j xs,aG R (XY ra j rc tk) 33,aG (N+1) (OM e hh) 56,aG N aH 33] wr)) (λi _=>m-(intOf i).toNat)
   case atStart=>exact⟨0,Nat.zero_le _,rfl,hid (λt ht=>absurd ht (Nat.not_lt_zero _)),none,0,[],hid (HI2.out.new (eu _ _ _) (Below.refl _ _) (λb hb=>by cases hb))⟩
   case round=>
    obtain⟨j,hj,rfl,HU,ra,rc,xs,HI3⟩:=hrel;by_cases hlt:j<m
    ·have kc:wr.cell? ⟨b,o+q+j,none⟩=some (.string (GB.wd l (q+j))):=by
      rw[Nat.add_assoc];exact(HI3.out.old (p:=⟨b,o+(q+j),none⟩) (by rw[hN];exact Z8.out)).trans (HA.out (q+j) (by omega))
     obtain⟨y2,hy2⟩:∃y,GB.wd l (q+j)=y:=⟨_,rfl⟩;have HK:=hid (HKK.out (q+j));rw[hy2] at kc HK;have jm:(j:Int)<m:=by omega
     cases hv:W2.aO y2
     ·rw[hv] at HK
      go_wp2_with (first
       |(go_at_call 157;refine(HK.out _).mono ?_;rintro e w1 ⟨rfl,rfl⟩)
       |(go_at_call 86;refine(HB.out _ _).mono ?_;rintro e w1 ⟨rfl,hb1⟩;have B1:=ae (HI3.out.get 3 rfl) hb1;obtain⟨n0,p0,n1,p1,n2,p2,n3,p3,n4,p4,n5,p5,n6,p6,n7,p7,n8,p8,n9,p9,n10,bE⟩:=au B1))
      refine bU (N:=N) (t:=GB.bD) (u:=0) rfl rfl hN HI3.out.bel hb1 B1 (HQ.out.trans ?_);unfold GB.keysOf;rw[if_neg (λe=>by have:=congrArg List.length e;rw[List.length_drop,HL.out] at this;simp at this;omega),Bc (j:=j) (by rw[List.length_drop,HL.out];omega) (by rw[kP,hy2];exact hv)];rfl
     ·rw[hv] at HK;obtain⟨c0,f0,c1,f1,c2,f2,c3,f3,c4,f4,c5,f5,c6,f6,c7,f7,c8,f8,c9,f9,c10,f10,c11,f11,c12,f12,c13,f13,c14,f14,c15,f15⟩:=bV (HI3.out.get 2 rfl);have hD:=HI3.out.bel.size;have kcO:∀ob,(wr.alloc ob).cell? ⟨b,o+q+j,none⟩=some (.string y2):=λob=>((bA wr ob).cell (p:=⟨b,o+q+j,none⟩) (aL kc)).trans kc
      have I4:=HI3.out.new (aA wr #[.int .i64 1,.int .i64 0,.string y2,.string ⟨#[]⟩,.int .u32 0,.int .i64 e,.bool hh,.int .u64 0,.bool false,.int .u64 0,.int .u64 0,.bool false,.bool false,.int .i64 0,.int .i64 (-1),.bool false] 56) (bA _ _) (λb hb=>by have e:b=wr.heap.size:=hb;omega);have Z_:=hid (show∀t,t<j+1->W2.aO (GB.wd l (q+t))=true from λt ht=>by
       rcases Nat.lt_succ_iff_lt_or_eq.1 ht with h|rfl
       ·exact HU.out t h
       ·rw[hy2];exact hv)
      have HI4:=hid I4;clear I4;go_upto_region 24 with (go_at_call 157;refine(HK.out _).mono ?_;rintro e w1 ⟨rfl,rfl⟩)
      obtain⟨D,XZ⟩:∃D,wr.heap.size=D:=⟨_,rfl⟩;obtain⟨V,hV⟩:∃V,wr.alloc (.cells #[.int .i64 1,.int .i64 0,.string y2,.string ⟨#[]⟩,.int .u32 0,.int .i64 e,.bool hh,.int .u64 0,.bool false,.int .u64 0,.int .u64 0,.bool false,.bool false,.int .i64 0,.int .i64 (-1),.bool false] 56)=V:=⟨_,rfl⟩;have hVs:V.heap.size=D+1:=by rw[<-hV,World.size_alloc,XZ]
      rw[hV,XZ] at HI4;rw[hV,XZ];obtain⟨d0,h0,d1,h1,d2,h2,d3,h3,d4,h4,d5,h5,d6,h6,d7,h7,d8,h8,d9,h9,d10,h10,d11,h11,d12,h12,d13,N8,d14,h14,d15,h15⟩:=bV (HI4.out.get 0 rfl);have r1:V.cell? ⟨R,1,none⟩=some (.slice ra j rc):=cA (HI4.out.get 2 rfl) 1;clear c0 f0 c1 f1 c2 f2 c3 f3 c4 f4 c5 f5 c6 f6 c7 f7 c8 f8 c9 f9 c10 f10 c11 f11 c12 f12 c13 f13 c14 f14 c15 f15 hV XZ hD kcO HK hy2 hv;have jl:j+1<=100000000:=by omega
      go_wp2_with (at_builtin;go_must (refine fT rM rfl _ _ rfl rfl (HI4.out.get 1 rfl) (by rw[hVs];rfl) rfl (by simp[Value.oneCell']) jl (by omega) ?_);intro g gc w2 ht2;have mV:=hid (HI4.out.turn 1 rfl ht2);have r1':=cA (mV.out.get 2 rfl) 1;have g1':=cZ (mV.out.get 2 rfl) 1;clear ht2)
      go_roundw;case rel=>exact⟨j+1,by omega,by go_num,hid Z_.out,some ⟨g,0,none⟩,gc,_,hid ((mV.out.turn 2 rfl (ai (mV.out.get 2 rfl) 1 _)).sub (List.Sublist.cons _ (List.Sublist.refl _)))⟩
      case measure=>simp[intOf];omega
    ·have HE:=hid (show GB.gets l=.other by
      rw[HQ.out];unfold GB.keysOf;rw[if_neg (λe=>by have:=congrArg List.length e;rw[List.length_drop,HL.out] at this;simp at this;omega),SQ (λt ht=>by rw[kP];rw[List.length_drop,HL.out] at ht;exact HU.out t (by omega))];rfl)
     have jm:¬(j:Int)<m:=by omega
     obtain⟨r0,g0,r1,g1,r2,g2,r3,g3,r4,g4,r5,g5,r6,g6,r7,g7,r8,g8,r9,g9,nY,g10⟩:=au (HI3.out.get 1 rfl);obtain⟨n0,p0,n1,p1,n2,p2,n3,p3,n4,p4,n5,p5,n6,p6,n7,p7,n8,p8,n9,p9,n10,bE⟩:=au (HI3.out.get 3 rfl);go_wp2_with (fail)
     exact jY (N:=N) (v0:=.int .i64 1) (v1:=.slice ra j rc) (v2:=.bool false) (v3:=.bool tk) (v4:=.string ⟨#[]⟩) (v5:=.string ⟨#[]⟩) (v6:=.int .i64 0) (v7:=.bool false) (v8:=.string ⟨#[]⟩) (v9:=.slice none 0 0) (v10:=.string ⟨#[]⟩) rfl rfl hN HI3.out.bel (HI3.out.get 3 rfl) HE.out ⟨1,_,_,_,_,_,_,_,_,_,_,_,_,_,_,rfl,.inl (by decide)⟩
theorem Be{w:World}{a:Option Addr}{n cap:Nat}{l:List ByteArray}(h:RS w (.slice a n cap) l)(hc:n<=cap)(hn:n<=1000000)(h0:1<=n)(hw:GB.iC (GB.wd l 0)=true)(hsz:∀i,(GB.wd l i).size<=1000000):
 Calls prog 90 #[.slice a n cap] w (tq w (GB.short l)):=by
 rcases of_decide_eq_true hw with e|e|e|e|e|e
 ·exact oU h hc hn h0 (.inl e) hsz
 ·exact oU h hc hn h0 (.inr e) hsz
 ·exact vJ h hc hn h0 e hsz
 ·exact AO h hc hn h0 e hsz
 ·exact vF h hc hn h0 e hsz
 ·exact yE h hc hn h0 e
theorem EU{w:World}{a:Option Addr}{n cap:Nat}{l:List ByteArray}(h:RS w (.slice a n cap) l)(hc:n<=cap)(hn:n<=1000000)(h0:1<=n)(hsz:∀i,(GB.wd l i).size<=1000000):
 Calls prog 88 #[.slice a n cap] w (tq w (GB.gets l)):=by
 rcases n with _|_|k
 ·omega
 ·exact OO h hc
 ·exact OP h hc hn hsz
theorem iL{b:ByteArray}{Y w':World}{e:Ending}(h:W2.kG (W2.aX b) Y e w'):
 ∃a cap,e=.returned (.slice a (GB.ws b).length cap)/\(GB.ws b).length<=cap/\RS w' (.slice a (GB.ws b).length cap) (GB.ws b)/\Below Y.heap.size Y w':=by
 obtain⟨v,rfl,ho,hb⟩:=h;have e1:(W2.P.words (W2.aX b)).map (λl=>Value.string (W2.P.mk l))=(GB.ws b).map .string:=by unfold GB.ws;rw[List.map_map];rfl
 have e2:(W2.P.words (W2.aX b)).length=(GB.ws b).length:=by unfold GB.ws;rw[List.length_map]
 rw[e1,e2] at ho;have hr:=W2.G7 ho;rcases ho.2 with ⟨rfl,h0⟩|⟨g,cap,cur,rfl,h2,h3,h4,h5,h6,h7⟩
 ·refine⟨none,0,?_,?_,?_,hb⟩
  ·rw[h0]
  ·omega
  ·rw[h0];exact hr
 ·exact⟨_,cap,rfl,h4,hr,hb⟩
theorem vS(b:ByteArray):W2.b_ b=(GB.ln b:Int):=by
 unfold GB.ln W2.b_;split<;>simp
theorem sj{fn:Func}{i j k m:Nat}(hres:fn.results= #[.tmp i,.tmp j,.cell k 33,.tmp m]){R:Ending->World->Prop}{tmps:Array Value}{W:World}{N:Nat}{vi vj vm v0 v1 v2 v3 v4 v5 v6 v7 v8 v9 v10:Value}
 (hi:tmps.getD i undef=vi) (hj:tmps.getD j undef=vj) (h2:tmps.getD k undef=.pointer (some ⟨N,0,none⟩)) (hm:tmps.getD m undef=vm) (hb:(aG N #[v0,v1,v2,v3,v4,v5,v6,v7,v8,v9,v10] 33).R W)
 (hR:R (.returned (.tuple #[vi,vj,.agg #[v0,v1,v2,v3,v4,v5,v6,v7,v8,v9,v10],vm])) W):
 bodyPost prog fn R .ret {tmps:=tmps,defers:=[]} W:=by
 refine bodyPost_ret (v:=.tuple #[vi,vj,.agg #[v0,v1,v2,v3,v4,v5,v6,v7,v8,v9,v10],vm]) ?_ rfl hR;have h2':tmps[k]?.getD undef=.pointer (some ⟨N,0,none⟩):=by simpa using h2
 have hi':tmps[i]?.getD undef=vi:=by simpa using hi
 have hj':tmps[j]?.getD undef=vj:=by simpa using hj
 have h3':tmps[m]?.getD undef=vm:=by simpa using hm
 have x0:W.cell? ⟨N,0,none⟩=some v0:=cA hb 0;have x1:W.cell? ⟨N,1,none⟩=some v1:=cA hb 1;have x2:W.cell? ⟨N,2,none⟩=some v2:=cA hb 2;have x3:W.cell? ⟨N,3,none⟩=some v3:=cA hb 3;have x4:W.cell? ⟨N,4,none⟩=some v4:=cA hb 4;have x5:W.cell? ⟨N,5,none⟩=some v5:=cA hb 5;have x6:W.cell? ⟨N,6,none⟩=some v6:=cA hb 6;have x7:W.cell? ⟨N,7,none⟩=some v7:=cA hb 7;have x8:W.cell? ⟨N,8,none⟩=some v8:=cA hb 8;have x9:W.cell? ⟨N,9,none⟩=some v9:=cA hb 9;have lJ:W.cell? ⟨N,10,none⟩=some v10:=cA hb 10;simp[results,hres,go_sem,h2',hi',hj',h3',x0,x1,x2,x3,x4,x5,x6,x7,x8,x9,lJ]
def OQ:Value:=.agg #[.int .i64 0,.slice none 0 0,.bool false,.bool false,.string ⟨#[]⟩,.string ⟨#[]⟩,.int .i64 0,.bool false,.string ⟨#[]⟩,.slice none 0 0,.string ⟨#[]⟩]
def FrP(b:ByteArray)(w:World)(e:Ending)(w':World):Prop:=
 Below w.heap.size w w'/\((1<=GB.ln b/\GB.ln b<=2048)->e=.returned (.tuple #[.string (W2.aX b),.int .i64 (GB.ln b),OQ,.bool true]))/\
  (¬(1<=GB.ln b/\GB.ln b<=2048)->∃v m,okV v/\e=.returned (.tuple #[.string ⟨#[]⟩,.int .i64 m,v,.bool false]))
theorem Ki(b:ByteArray)(w:World)(hb:b.size<=1000000):Calls prog 85 #[.string b] w (FrP b w):=by
 have HL:=hid (λw'=>W2.oQ b w' (by unfold maxLen;omega));unfold W2.dL at HL;rw[vS] at HL;obtain⟨n,hn⟩:∃n,GB.ln b=n:=⟨_,rfl⟩;rw[hn] at HL;have HN:=hid hn;have B0:=aA w aH 33;have hb0:=bA w (.cells aH 33);obtain⟨N,hN⟩:∃N,w.heap.size=N:=⟨_,rfl⟩;obtain⟨W,hW⟩:∃W,w.alloc (.cells aH 33)=W:=⟨_,rfl⟩;rw[hW,hN] at B0;rw[hW] at hb0;simp only[aH] at hW;have HB:=hid nT;unfold cO at HB;have HB0:=hid B0;have HW:=hid hb0;clear hn B0 hb0;go_enter func85,ntmps85
 go_upto_region 2 with (first
  |(go_at_call 36;refine(HL.out _).mono ?_;rintro e w1 ⟨rfl,k,rfl⟩))
 clear hW;obtain⟨Y,hY⟩:∃Y,W.drewN k=Y:=⟨_,rfl⟩;have BY:=ae HB0.out (below_drewN' W k);have HY:=hid (HW.out.trans ((below_drewN' W k).mono HW.out.size));rw[hY] at BY HY;rw[hY];have HBY:=hid BY;obtain⟨n0,p0,n1,p1,n2,p2,n3,p3,n4,p4,n5,p5,n6,p6,n7,p7,n8,p8,n9,p9,n10,bE⟩:=au BY;clear BY hY HB0 HW;by_cases h1:1<=n/\n<=2048
 ·have g1:(0:Int)<n:=by omega
  have g2:(n:Int)<=2048:=by omega
  go_wp2_with (fail)
  have hs:=aK N 33 [.int .i64 0,.slice none 0 0,.bool false,.bool false,.string ⟨#[]⟩,.string ⟨#[]⟩,.int .i64 0,.bool false,.string ⟨#[]⟩,.slice none 0 0,.string ⟨#[]⟩] 0 aH Y HBY.out;have h2:=hs.here;rw[show aR 0 [.int .i64 0,.slice none 0 0,.bool false,.bool false,.string ⟨#[]⟩,.string ⟨#[]⟩,.int .i64 0,.bool false,.string ⟨#[]⟩,.slice none 0 0,.string ⟨#[]⟩] aH= #[.int .i64 0,.slice none 0 0,.bool false,.bool false,.string ⟨#[]⟩,.string ⟨#[]⟩,.int .i64 0,.bool false,.string ⟨#[]⟩,.slice none 0 0,.string ⟨#[]⟩] by simp[aR,aH]] at h2;refine sj rfl rfl rfl rfl rfl h2 ⟨?_,λ_=>by rw[HN.out];rfl,λx=>absurd (by rw[HN.out];exact h1) x⟩;exact hs.bL.below HY.out HY.out.size (λb hb=>Nat.le_of_eq (by rw[hN];exact Eq.symm hb))
 ·go_cut [19] from 14 to 19 (λt wx=>t=.bool false/\wx=Y)
  case first=>
   by_cases z:0<n
   ·have z1:(0:Int)<n:=by omega
    have z2:¬(n:Int)<=2048:=by omega
    go_wp2_with (fail)
    go_meet;exact⟨rfl,rfl⟩
   ·have z1:¬(0:Int)<n:=by omega
    go_wp2_with (fail)
    go_meet;exact⟨rfl,rfl⟩
  case rest=>
   obtain⟨rfl,hwc⟩:=hcut;have hwc:=hwc.symm;subst hwc;have HNO:=hid (show¬(1<=GB.ln b/\GB.ln b<=2048) by rw[HN.out];exact h1);by_cases hs:b.size<2048
   ·have hsi:(b.size:Int)<2048:=by omega
    go_wp2_with (fail)
    have hs:=aK N 33 [.int .i64 0,.slice none 0 0,.bool false,.bool false,.string ⟨#[]⟩,.string ⟨#[]⟩,.int .i64 0,.bool false,.string ⟨#[]⟩,.slice none 0 0,.string ⟨#[]⟩] 0 aH Y HBY.out;have h2:=hs.here;rw[show aR 0 [.int .i64 0,.slice none 0 0,.bool false,.bool false,.string ⟨#[]⟩,.string ⟨#[]⟩,.int .i64 0,.bool false,.string ⟨#[]⟩,.slice none 0 0,.string ⟨#[]⟩] aH= #[.int .i64 0,.slice none 0 0,.bool false,.bool false,.string ⟨#[]⟩,.string ⟨#[]⟩,.int .i64 0,.bool false,.string ⟨#[]⟩,.slice none 0 0,.string ⟨#[]⟩] by simp[aR,aH]] at h2;refine sj rfl rfl rfl rfl rfl h2 ⟨?_,λx=>absurd x HNO.out,λ_=>⟨OQ,0,⟨0,_,_,_,_,_,_,_,_,_,_,_,_,_,_,rfl,.inl (by decide)⟩,rfl⟩⟩;exact hs.bL.below HY.out HY.out.size (λb hb=>Nat.le_of_eq (by rw[hN];exact Eq.symm hb))
   ·have hsi:¬(b.size:Int)<2048:=by omega
    clear n0 p0 n1 p1 n2 p2 n3 p3 n4 p4 n5 p5 n6 p6 n7 p7 n8 p8 n9 p9 n10 bE;go_upto_region 8 with (go_at_call 86;refine(HB.out _ _).mono ?_;rintro e w4 ⟨rfl,hb1⟩;have B1:=ae HBY.out hb1;have BO:=λo=>ae B1 (bA w4 o);obtain⟨n0,p0,n1,p1,n2,p2,n3,p3,n4,p4,n5,p5,n6,p6,n7,p7,n8,p8,n9,p9,n10,bE⟩:=Eh BO;have Jz:=hid BO;have gF:=hid (HY.out.trans (hb1.mono HY.out.size));clear BO hb1)
    go_region_with (fail)
    all_goals (go_wp2_with (fail))
    all_goals
     have hs:=(aK N 33 [.int .i64 2,.slice none 0 0,.bool false,.bool false,.string ⟨#[67,76,73,69,78,84,95,69,82,82,79,82,32,108,105,110,101,32,116,111,111,32,108,111,110,103]⟩,.string ⟨#[]⟩,.int .i64 0,.bool true,.string ⟨#[]⟩,.slice none 0 0,.string ⟨#[]⟩] 0 aH (w4.alloc (.cells #[.int .i64 2,.slice none 0 0,.bool false,.bool false,.string ⟨#[67,76,73,69,78,84,95,69,82,82,79,82,32,108,105,110,101,32,116,111,111,32,108,111,110,103]⟩,.string ⟨#[]⟩,.int .i64 0,.bool true,.string ⟨#[]⟩,.slice none 0 0,.string ⟨#[]⟩] 33)) (Jz.out _)).drew;have h2:=hs.here;rw[show aR 0 [.int .i64 2,.slice none 0 0,.bool false,.bool false,.string ⟨#[67,76,73,69,78,84,95,69,82,82,79,82,32,108,105,110,101,32,116,111,111,32,108,111,110,103]⟩,.string ⟨#[]⟩,.int .i64 0,.bool true,.string ⟨#[]⟩,.slice none 0 0,.string ⟨#[]⟩] aH= #[.int .i64 2,.slice none 0 0,.bool false,.bool false,.string ⟨#[67,76,73,69,78,84,95,69,82,82,79,82,32,108,105,110,101,32,116,111,111,32,108,111,110,103]⟩,.string ⟨#[]⟩,.int .i64 0,.bool true,.string ⟨#[]⟩,.slice none 0 0,.string ⟨#[]⟩] by simp[aR,aH]] at h2;refine sj rfl rfl rfl rfl rfl h2 ⟨?_,λx=>absurd x HNO.out,λ_=>⟨_,2048,⟨2,_,_,_,_,_,_,_,_,_,_,_,_,_,_,rfl,.inr (.inr rfl)⟩,rfl⟩⟩;exact hs.bL.below (gF.out.alloc gF.out.size _) (by rw[World.size_alloc];have:=gF.out.size;omega) (λb hb=>Nat.le_of_eq (by rw[hN];exact Eq.symm hb))
end Go.Proofs.YtboehbfagnocpaaGreatDoor
