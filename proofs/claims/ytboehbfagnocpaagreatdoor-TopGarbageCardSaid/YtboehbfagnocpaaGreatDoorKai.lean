import Derived.Test.YtboehbfagnocpaaGreatDoorKaf
import Derived.Test.YtboehbfagnocpaaGreatDoorKag
set_option linter.unusedVariables false
set_option linter.unusedSimpArgs false
set_option maxRecDepth 100000
set_option maxHeartbeats 40000000
open Go.Proofs.Tryz
open Go.Lib (hid)
namespace Go.Proofs.YtboehbfagnocpaaGreatDoor
open Go.RowKit Go.PlainAid Go.Shelf
open W2 (RS)
def uU(w:List ByteArray)(wt:Nat):Bool:=
 W2.aO (GB.wd w 1) && (match GB.num (GB.wd w 2) with|some f=>decide (f<4294967296)|none=>false) && GB.sec (GB.wd w 3) && (if wt=6 then (GB.num (GB.wd w 5)).isSome else true)
theorem Jw{l:List ByteArray}{B:ByteArray}{wt:Nat}(hw:wt=if GB.wd l 0=GB.gB then 6 else 5):
 GB.store l B=if (GB.off l).length≠wt then .bad GB.bg 0 else match GB.num (GB.wd (GB.off l) 4) with
  |none=> .bad GB.bD 0
  |some n=>if 1073741824<n then .bad GB.bD 0 else if uU (GB.off l) wt then GB.chunk n B else .other:=by
 unfold GB.store;rw[<-hw];split
 ·rfl
 ·cases GB.num (GB.wd (GB.off l) 4) with
  |none=>rfl
  |some n=>
   simp only;split
   ·rfl
   ·congr 1;unfold uU;simp only[Bool.and_eq_true,eq_iff_iff,and_assoc];refine and_congr Iff.rfl (and_congr ?_ (and_congr Iff.rfl ?_))
    ·cases GB.num (GB.wd (GB.off l) 2)<;>simp
    ·rw[hw];by_cases h:GB.wd l 0=GB.gB
     ·simp[h]
     ·simp[h]
theorem Sj{w:World}{a:Option Addr}{n cap:Nat}{l:List ByteArray}{B:ByteArray}(h:RS w (.slice a n cap) l)(hc:n<=cap)(hn:n<=1000000)(h0:1<=n)(hsz:∀i,(GB.wd l i).size<=1000000)(hB:B.size<=1000000):
 Calls prog 89 #[.slice a n cap,.string B] w (fI w (GB.store l B)):=by
 obtain⟨b,o,rfl,hb,hx⟩:=RS.at' h (i:=0) (by omega);rw[Nat.add_zero] at hx;obtain⟨x,hx0⟩:∃x,GB.wd l 0=x:=⟨_,rfl⟩;rw[hx0] at hx;obtain⟨m,hm⟩:∃m,(GB.off l).length=m:=⟨_,rfl⟩;have hl:=W2.RS.len h;have hm0:1<=m:=by
  unfold GB.off at hm;split at hm
  ·rw[List.length_take] at hm;omega
  ·omega
 have FO:m<=n:=by
  unfold GB.off at hm;split at hm
  ·rw[List.length_take] at hm;omega
  ·omega
 obtain⟨wt,hwt⟩:∃wt:Nat,wt=if GB.wd l 0=GB.gB then 6 else 5:=⟨_,rfl⟩
 have hS:=Jw (B:=B) hwt;rw[hm] at hS;have HS:=hid hS;rw[hx0] at hwt;obtain⟨cb,hcb⟩:∃cb,(x.toList == [99,97,115])=cb:=⟨_,rfl⟩;have Sk:=hid (show wt=if cb=true then 6 else 5 by
  rw[hwt,<-hcb,show [99,97,115]=GB.gB.toList by rw[ByteArray.toList_eq];rfl,a_];by_cases h:x=GB.gB
  ·rw[if_pos h,if_pos (decide_eq_true h)]
  ·rw[if_neg h,if_neg (by rw[decide_eq_false h];simp)])
 have hw2:wt=5\/wt=6:=by rw[hwt];split<;>simp
 have B0:=aA w aH 33;have hb0:=bA w (.cells aH 33);have hlt:b<w.heap.size:=hb;have hx1:=(hb0.cell (p:=⟨b,o,none⟩) hlt).trans hx;have HA:=hid (λi (hi:i<m)=>show (w.alloc (.cells aH 33)).cell? ⟨b,o+i,none⟩=some (.string (GB.wd (GB.off l) i)) from by
  obtain⟨b',o',e',_,hx'⟩:=RS.at' (h.below hb0) (i:=i) (by omega);cases e';rw[je (by rw[hm];exact hi)];exact hx')
 have HZ:=hid (λi (hi:i<m)=>show (GB.wd (GB.off l) i).size<=1000000 from by rw[je (by rw[hm];exact hi)];exact hsz i);have HO:=hid (roff (h.below hb0) hc hn);obtain⟨N,hN⟩:∃N,w.heap.size=N:=⟨_,rfl⟩;obtain⟨W,hW⟩:∃W,w.alloc (.cells aH 33)=W:=⟨_,rfl⟩;rw[hW,hN] at B0;rw[hW] at hb0 hx1 HO HA;simp only[aH] at hW;unfold AL at HO;rw[hm] at HO;obtain⟨L,hL⟩:∃L,GB.off l=L:=⟨_,rfl⟩;rw[hL] at HS HA HZ HO;have HB:=hid nT;unfold cO at HB;have HB0:=hid B0;have HW:=hid hb0;clear h hS hx hx0 B0 hb0 hsz hl hwt hL hm hb hlt;go_enter func89,ntmps89;go_upto_if 30 with (go_at_call 159;refine HO.out.mono ?_;rintro e w1 ⟨q,rfl,rfl,_⟩)
 clear hW;go_cut [8] from 22 to 34 (λt8 wx=>t8=.int .i64 (wt:Nat)/\wx=W)
 case first=>
  have e:=Sk.out;cases cb
  ·rw[if_neg (by simp)] at e;subst e;go_wp2_with (fail)
   go_meet;exact⟨rfl,rfl⟩
  ·rw[if_pos rfl] at e;subst e;go_wp2_with (fail)
   go_meet;exact⟨rfl,rfl⟩
 case rest=>
  obtain⟨rfl,rfl⟩:=hcut;clear hx1 Sk;by_cases hmw:m=wt
  ·subst hmw;have i1:(((m:Nat):Int) !=((m:Nat):Int))=false:=by simp
   have j1:(1:Int)<m:=by omega
   have j2:(2:Int)<m:=by omega
   have j3:(3:Int)<m:=by omega
   have j4:(4:Int)<m:=by omega
   have y1:=HA.out 1 (by omega);have y2:=HA.out 2 (by omega);have y3:=HA.out 3 (by omega);have y4:=HA.out 4 (by omega);have z1:=HZ.out 1 (by omega);have z2:=HZ.out 2 (by omega);have z3:=HZ.out 3 (by omega);have z4:=HZ.out 4 (by omega);obtain⟨k1,hk1⟩:∃z,GB.wd L 1=z:=⟨_,rfl⟩;obtain⟨k2,hk2⟩:∃z,GB.wd L 2=z:=⟨_,rfl⟩;obtain⟨k3,hk3⟩:∃z,GB.wd L 3=z:=⟨_,rfl⟩;obtain⟨k4,hk4⟩:∃z,GB.wd L 4=z:=⟨_,rfl⟩;rw[hk1] at y1 z1;rw[hk2] at y2 z2;rw[hk3] at y3 z3;rw[hk4] at y4 z4;have hS:=HS.out;rw[if_neg (by simp),hk4] at hS;have LQ:=hid (show uU L m=(W2.aO k1 && (match nm k2.data.toList with|some f=>decide (f<4294967296)|none=>false) && sc k3.data.toList && (if m=6 then (GB.num (GB.wd L 5)).isSome else true)) by unfold uU;rw[hk1,hk2,hk3];rfl);have Sl:=hid (λw'=>bQ k4 w' z4);have Jy:=hid (λw'=>bQ k2 w' z2);have HK:=hid (λw'=>W2.bZ k1 w' (by unfold maxLen;omega));have HX:=hid (λw'=>jW k3 w' z3);unfold pQ at HX;unfold oN at Sl Jy;obtain⟨kb,hkb⟩:∃kb,W2.aO k1=kb:=⟨_,rfl⟩;obtain⟨sb,hsb⟩:∃sb,sc k3.data.toList=sb:=⟨_,rfl⟩;obtain⟨i2,hi2⟩:∃i2,(nm k2.data.toList).isSome=i2:=⟨_,rfl⟩;obtain⟨u2,hu2⟩:∃u2,(((nm k2.data.toList).getD 0:Nat):Int)=u2:=⟨_,rfl⟩;have hf2:(match nm k2.data.toList with|some f=>decide (f<4294967296)|none=>false)=(i2 && decide (u2<=4294967295)):=by
    rw[<-hi2,<-hu2];cases nm k2.data.toList with
    |none=>rfl
    |some f=>simp only[Option.isSome_some,Bool.true_and,Option.getD_some];exact decide_eq_decide.2 (by omega)
   rw[hkb,hsb,hf2] at LQ;rw[hkb] at HK;rw[hsb] at HX;rw[hi2,hu2] at Jy;clear hkb hsb hi2 hu2 hf2;clear hk1 hk2 hk3 hk4 z1 z2 z3 z4 HS;cases hp:nm k4.data.toList with
   |none=>
    rw[hp] at Sl;have HE:=hid (show GB.store l B=.bad GB.bD 0 by rw[hS];unfold GB.num;rw[hp]);clear hS
    go_wp2_with (first
     |(go_at_call 152;with_reducible refine(Sl.out _).mono ?_;rintro e w1 ⟨rfl,rfl⟩)
     |(go_at_call 86;refine(HB.out _ _).mono ?_;rintro e w4 ⟨rfl,hb1⟩;have B1:=ae (HB0.out) hb1;obtain⟨n0,p0,n1,p1,n2,p2,n3,p3,n4,p4,n5,p5,n6,p6,n7,p7,n8,p8,n9,p9,n10,bE⟩:=au B1))
    exact aY (N:=N) (t:=GB.bD) (u:=0) rfl rfl rfl rfl hN HW.out hb1 B1 HE.out
   |some k=>
    rw[hp] at Sl;have hS2:GB.store l B=if 1073741824<k then .bad GB.bD 0 else if uU L m then GB.chunk k B else .other:=by rw[hS];unfold GB.num;rw[hp]
    clear hS;by_cases hbig:1073741824<k
    ·have hbi:(1073741824:Int)<k:=by omega
     have HE:=hid (show GB.store l B=.bad GB.bD 0 by rw[hS2,if_pos hbig]);clear hS2
     go_wp2_with (first
      |(go_at_call 152;with_reducible refine(Sl.out _).mono ?_;rintro e w1 ⟨rfl,rfl⟩)
      |(go_at_call 86;refine(HB.out _ _).mono ?_;rintro e w4 ⟨rfl,hb1⟩;have B1:=ae (HB0.out) hb1;obtain⟨n0,p0,n1,p1,n2,p2,n3,p3,n4,p4,n5,p5,n6,p6,n7,p7,n8,p8,n9,p9,n10,bE⟩:=au B1))
     exact aY (N:=N) (t:=GB.bD) (u:=0) rfl rfl rfl rfl hN HW.out hb1 B1 HE.out
    ·have hbi:¬(1073741824:Int)<k:=by omega
     have e1:IntKind.i64.wrap (k:Int)=k:=by rw[IntKind.wrap_i64];omega
     have e2:IntKind.i64.wrap ((k:Int)+2)=(k:Int)+2:=by rw[IntKind.wrap_i64];omega
     have LU:=hid (hS2.trans (if_neg hbig));clear hS2
     go_upto_if 72 with (first
      |(go_at_call 152;with_reducible refine(Sl.out _).mono ?_;rintro e w1 ⟨rfl,rfl⟩)
      |(go_at_call 152;with_reducible refine(Jy.out _).mono ?_;rintro e w1 ⟨rfl,rfl⟩)
      |(go_at_call 157;refine(HK.out _).mono ?_;rintro e w1 ⟨rfl,rfl⟩)
      |(go_at_call 158;refine(HX.out _).mono ?_;rintro e w3 ⟨v,rfl,hb3⟩;have B3:=hid (ae HB0.out hb3);have Sn:=hid hb3;have HB3:=hid (HW.out.trans (hb3.mono HW.out.size));clear hb3))
     go_cut [17,18] from 71 to 79 (λc t wx=> ∃(cv:Int) (tb:Bool),c=.int .u64 cv/\t=.bool tb/\Hid ((if m=6 then (GB.num (GB.wd L 5)).isSome else true)=tb)/\wx=w3)
     case first=>
      rcases hw2 with h5|h5
      ·subst h5;go_wp2_with (fail)
       go_meet;exact⟨0,true,rfl,rfl,hid rfl,rfl⟩
      ·subst h5;have y5:=HA.out 5 (by omega);have z5:=HZ.out 5 (by omega);obtain⟨k5,hk5⟩:∃z,GB.wd L 5=z:=⟨_,rfl⟩;rw[hk5] at y5 z5;have y5':=(Sn.out.cell (p:=⟨b,o+5,none⟩) (aL y5)).trans y5;have HP5:=hid (λw'=>bQ k5 w' z5);unfold oN at HP5;have HK5:=hid hk5;clear y5 z5 hk5;go_wp2_with (go_at_call 152;refine(HP5.out _).mono ?_;rintro e w1 ⟨rfl,rfl⟩)
       go_meet;exact⟨_,_,rfl,rfl,hid (by rw[if_pos trivial,HK5.out];rfl),rfl⟩
     case rest=>
      obtain⟨cv,tb,rfl,rfl,HTB,hwc⟩:=hcut;have hwc:=hwc.symm;subst hwc;rw[HTB.out] at LQ;clear HTB y1 y2 y3 y4 j1 j2 j3 j4 i1 Sl Jy HK HX;go_upto_region 18 with (fail)
      go_cut [97] from 80 to 97 (λt wx=>t=.bool (!(uU L m))/\wx=w3)
      case first=>
       cases kb
       ·(go_wp2_with (fail);go_meet;exact⟨by rw[LQ.out];rfl,rfl⟩)
       ·cases i2
        ·(go_wp2_with (fail);go_meet;exact⟨by rw[LQ.out];rfl,rfl⟩)
        ·by_cases hf:u2<=4294967295
         ·have hf2:¬4294967295<u2:=by omega
          rw[decide_eq_true hf] at LQ;cases sb
          ·(go_wp2_with (fail);go_meet;exact⟨by rw[LQ.out];rfl,rfl⟩)
          ·cases tb
           ·(go_wp2_with (fail);go_meet;exact⟨by rw[LQ.out];rfl,rfl⟩)
           ·(go_wp2_with (fail);go_meet;exact⟨by rw[LQ.out];rfl,rfl⟩)
         ·have hf2:4294967295<u2:=by omega
          rw[decide_eq_false hf] at LQ;(go_wp2_with (fail);go_meet;exact⟨by rw[LQ.out];rfl,rfl⟩)
      case rest=>
       obtain⟨rfl,hwc⟩:=hcut;have hwc:=hwc.symm;subst hwc;cases hq:uU L m
       ·have HE:=hid (show GB.store l B=.other by rw[LU.out,hq];rfl)
        go_wp2_with (first
         |(go_at_call 86;refine(HB.out _ _).mono ?_;rintro e w4 ⟨rfl,hb1⟩;have B1:=ae (B3.out) hb1;have BO:=λo=>ae B1 (bA w4 o);obtain⟨n0,p0,n1,p1,n2,p2,n3,p3,n4,p4,n5,p5,n6,p6,n7,p7,n8,p8,n9,p9,n10,bE⟩:=Eh BO;have Jz:=hid BO;clear BO))
        exact gD (N:=N) rfl rfl rfl hN ((HB3.out.trans (hb1.mono HB3.out.size)).alloc (Nat.le_trans HB3.out.size hb1.size) _) (Jz.out _) HE.out ⟨2,_,_,_,_,_,_,_,_,_,_,_,_,_,_,rfl,.inr (.inl (by omega))⟩
       ·have HE:=hid (show GB.store l B=GB.chunk k B by rw[LU.out,hq];rfl);clear LU hq;by_cases wG:65536<k
        ·have ZO:(65536:Int)<k:=by omega
         have HE2:=hid (show GB.store l B=.other by rw[HE.out];unfold GB.chunk;rw[if_pos wG])
         go_wp2_with (first
          |(go_at_call 86;refine(HB.out _ _).mono ?_;rintro e w4 ⟨rfl,hb1⟩;have B1:=ae (B3.out) hb1;have BO:=λo=>ae B1 (bA w4 o);obtain⟨n0,p0,n1,p1,n2,p2,n3,p3,n4,p4,n5,p5,n6,p6,n7,p7,n8,p8,n9,p9,n10,bE⟩:=Eh BO;have Jz:=hid BO;clear BO))
         exact gD (N:=N) rfl rfl rfl hN ((HB3.out.trans (hb1.mono HB3.out.size)).alloc (Nat.le_trans HB3.out.size hb1.size) _) (Jz.out _) HE2.out ⟨2,_,_,_,_,_,_,_,_,_,_,_,_,_,_,rfl,.inr (.inl (by omega))⟩
        ·have ZO:¬(65536:Int)<k:=by omega
         by_cases hsh:B.size<k+2
         ·have hsi:(B.size:Int)<(k:Int)+2:=by omega
          have HE2:=hid (show GB.store l B=.other by rw[HE.out];unfold GB.chunk;rw[if_neg wG,if_pos hsh]);obtain⟨n0,p0,n1,p1,n2,p2,n3,p3,n4,p4,n5,p5,n6,p6,n7,p7,n8,p8,n9,p9,n10,bE⟩:=au B3.out;go_wp2_with (fail)
          exact gD (N:=N) (v0:=.int .i64 0) (v1:=.slice none 0 0) (v2:=.bool false) (v3:=.bool false) (v4:=.string ⟨#[]⟩) (v5:=.string ⟨#[]⟩) (v6:=.int .i64 0) (v7:=.bool false) (v8:=.string ⟨#[]⟩) (v9:=.slice none 0 0) (v10:=.string ⟨#[]⟩) rfl rfl rfl hN HB3.out B3.out HE2.out ⟨0,_,_,_,_,_,_,_,_,_,_,_,_,_,_,rfl,.inl (by decide)⟩
         ·have hsi:¬(B.size:Int)<(k:Int)+2:=by omega
          have hsj:(k:Int)+2<=B.size:=by omega
          have hsk:((k:Int)+2).toNat=k+2:=by omega
          by_cases hcr:GB.crlf B k
          ·have HE2:=hid (show GB.store l B=.other by rw[HE.out];unfold GB.chunk;rw[if_neg wG,if_neg hsh,if_pos hcr]);unfold GB.crlf at hcr;have hcb:((B.extract k (k+2)).toList == [13,10])=true:=by
            rw[show [13,10]=(⟨#[13,10]⟩:ByteArray).toList by rw[ByteArray.toList_eq]];rw[a_,decide_eq_true hcr]
           clear hcr;obtain⟨m0,hm0⟩:∃z,GB.wd L 0=z:=⟨_,rfl⟩;have y0:=HA.out 0 (by omega);have y1:=HA.out 1 (by omega);rw[hm0,Nat.add_zero] at y0;have y0:=(Sn.out.cell (p:=⟨b,o,none⟩) (aL y0)).trans y0;have y1:=(Sn.out.cell (p:=⟨b,o+1,none⟩) (aL y1)).trans y1;obtain⟨m1,hm1⟩:∃z,GB.wd L 1=z:=⟨_,rfl⟩;rw[hm1] at y1;have ZP:=hid (show∀w',Below w3.heap.size w3 w'->w'.cell? ⟨b,o,none⟩=some (.string m0)/\w'.cell? ⟨b,o+1,none⟩=some (.string m1) from λw' hb=>⟨(hb.cell (p:=⟨b,o,none⟩) (aL y0)).trans y0,(hb.cell (p:=⟨b,o+1,none⟩) (aL y1)).trans y1⟩);clear hm0 hm1;have j00:0<m:=by omega
           have j0:(0:Int)<m:=by omega
           have j1:(1:Int)<m:=by omega
           have kB:(k:Int)<=B.size:=by omega
           have HMO:=hid (λw'=>VH m0 w');unfold VG at HMO;go_upto_region 30 with (fail)
           go_cut [21] from 120 to 136 (λt wx=> ∃C,t=.pointer (some ⟨C,0,none⟩)/\Hid ((bF C 2).R wx)/\Hid ((aG N aH 33).R wx)/\Hid (Below w.heap.size w wx))
           case first=>
            go_region_held3 (λw'=>w'.cell? ⟨b,o,none⟩=some (.string m0)/\w'.cell? ⟨b,o+1,none⟩=some (.string m1)) (first|exact ZP.out _ (by go_grown)|fail) (first
             |(go_at_call 160;refine(HMO.out _).mono ?_;rintro e w5 ⟨⟨md,rfl⟩,rfl⟩))
            all_goals (go_wp2_with fail)
            all_goals go_meet
            all_goals (exact⟨_,rfl,hid (bF.below ⟨_,⟨_,_,_,_,_,_,_,_,_,_,_,_,_,_,_,rfl⟩,aA _ _ _⟩ (below_drewN' _ 1)),hid (ae B3.out (by go_grown)),hid (Og HB3.out (by go_grown))⟩)
           case rest=>
            obtain⟨C,rfl,HC,yK,HC3⟩:=hcut;obtain⟨vs,⟨i1,s1,s2,i2,i3,b1,i4,b2,i5,i6,b3,b4,i7,i8,b5,rfl⟩,hc⟩:=HC.out;obtain⟨c0,f0,c1,f1,c2,f2,c3,f3,c4,f4,c5,f5,c6,f6,c7,f7,c8,f8,c9,f9,c10,f10,c11,f11,c12,f12,c13,f13,c14,f14,c15,f15⟩:=bV hc;have pR:=hid Ei;clear hc;go_wp2_with (go_at_call 161;refine(pR.out _ _ _ _ _ _ _ _ _ _ _ _ _ _ _ _ _ _).mono ?_;rintro e w6 ⟨hb1,v',rfl,k1',ca,cn,cc,q1,tk,t1,t2,sk,cl,t3,fa,fn,fc,t4,rfl,hok⟩;have B1:=ae yK.out hb1;obtain⟨n0,p0,n1,p1,n2,p2,n3,p3,n4,p4,n5,p5,n6,p6,n7,p7,n8,p8,n9,p9,n10,bE⟩:=au B1)
            exact gD (N:=N) (v0:=.int .i64 k1') (v1:=.slice ca cn cc) (v2:=.bool q1) (v3:=.bool tk) (v4:=.string t1) (v5:=.string t2) (v6:=.int .i64 sk) (v7:=.bool cl) (v8:=.string t3) (v9:=.slice fa fn fc) (v10:=.string t4) (w1:=w6) rfl rfl rfl hN (HC3.out.trans (hb1.mono HC3.out.size)) B1 HE2.out ⟨k1',_,_,_,_,_,_,_,_,_,_,_,_,_,_,rfl,hok⟩
          ·have HE2:=hid (show GB.store l B=.bad GB.nR (k+2) by rw[HE.out];unfold GB.chunk;rw[if_neg wG,if_neg hsh,if_neg hcr]);unfold GB.crlf at hcr;have hcb:((B.extract k (k+2)).toList == [13,10])=false:=by
            rw[show [13,10]=(⟨#[13,10]⟩:ByteArray).toList by rw[ByteArray.toList_eq]];rw[a_,decide_eq_false hcr]
           clear hcr
           go_wp2_with (first
            |(go_at_call 86;refine(HB.out _ _).mono ?_;rintro e w4 ⟨rfl,hb1⟩;have B1:=ae (B3.out) hb1;obtain⟨n0,p0,n1,p1,n2,p2,n3,p3,n4,p4,n5,p5,n6,p6,n7,p7,n8,p8,n9,p9,n10,bE⟩:=au B1))
           exact aY (N:=N) (t:=GB.nR) (u:=k+2) rfl rfl rfl (by omega) hN HB3.out hb1 B1 HE2.out
  ·have i1:((m:Int) !=(wt:Int))=true:=by simp;omega
   have HE:=hid (HS.out.trans (if_pos hmw));clear hmw;go_wp2_with (go_at_call 86;refine(HB.out _ _).mono ?_;rintro e w4 ⟨rfl,hb1⟩;have B1:=ae (HB0.out) hb1;obtain⟨n0,p0,n1,p1,n2,p2,n3,p3,n4,p4,n5,p5,n6,p6,n7,p7,n8,p8,n9,p9,n10,bE⟩:=au B1)
   exact aY (N:=N) (t:=GB.bg) (u:=0) rfl rfl rfl rfl hN HW.out hb1 B1 HE.out
end Go.Proofs.YtboehbfagnocpaaGreatDoor
