import Derived.Test.YtboehbfagnocpaaGreatDoorKae
set_option linter.unusedVariables false
set_option linter.unusedSimpArgs false
set_option maxRecDepth 100000
set_option maxHeartbeats 40000000
open Go.Proofs.Tryz
open Go.Lib (hid)
namespace Go.Proofs.YtboehbfagnocpaaGreatDoor
open Go.RowKit Go.PlainAid Go.Shelf
open W2 (RS)
theorem Og{a b c:World}(h:Below a.heap.size a b)(k:Below b.heap.size b c):Below a.heap.size a c:=h.trans (k.mono h.size)
theorem vJ{w:World}{a:Option Addr}{n cap:Nat}{l:List ByteArray}(h:RS w (.slice a n cap) l)(hc:n<=cap)(hn:n<=1000000)(h0:1<=n)(hw:GB.wd l 0=GB.fw)(hsz:∀i,(GB.wd l i).size<=1000000):
 Calls prog 90 #[.slice a n cap] w (tq w (GB.short l)):=by
 obtain⟨b,o,rfl,hb,hx⟩:=RS.at' h (i:=0) (by omega);rw[hw,Nat.add_zero] at hx;unfold GB.fw at hx;obtain⟨m,hm⟩:∃m,(GB.off l).length=m:=⟨_,rfl⟩;have hm0:1<=m:=by
  have hl:=W2.RS.len h;unfold GB.off at hm;split at hm
  ·rw[List.length_take] at hm;omega
  ·omega
 have HS:=hid (show GB.short l=if m≠3 then .bad GB.bg 0 else if W2.aO (GB.wd (GB.off l) 1)=false then .bad GB.bD 0 else if GB.sec (GB.wd (GB.off l) 2)=false then .bad GB.mQ 0 else .other by
  unfold GB.short;rw[hw,if_neg (by decide),if_neg (by decide),if_neg (by decide),hm,if_pos rfl])
 have FO:m<=n:=by
  have hl:=W2.RS.len h;unfold GB.off at hm;split at hm
  ·rw[List.length_take] at hm;omega
  ·omega
 have B0:=aA w aH 33;have hb0:=bA w (.cells aH 33);have hlt:b<w.heap.size:=hb;have hx1:=(hb0.cell (p:=⟨b,o,none⟩) hlt).trans hx;have HR:=hid (show RS (w.alloc (.cells aH 33)) (.slice (some ⟨b,o,none⟩) n cap) l from h.below hb0);have HO:=hid (roff (h.below hb0) hc hn);obtain⟨N,hN⟩:∃N,w.heap.size=N:=⟨_,rfl⟩;obtain⟨W,hW⟩:∃W,w.alloc (.cells aH 33)=W:=⟨_,rfl⟩;rw[hW,hN] at B0;rw[hW] at hb0 hx1 HO HR;unfold aH at hW;unfold AL at HO;rw[hm] at HO;have HB:=hid nT;unfold cO at HB;have HB0:=hid B0;have HW:=hid hb0;clear h hw hx B0 hb0;go_enter func90,ntmps90;go_wp2_with (fail)
 clear hW;have pR:=hid Ei;by_cases h2:m=3
 ·subst h2;obtain⟨b',o',e',hb',hx2⟩:=RS.at' HR.out (i:=1) (by omega);cases e';obtain⟨b',o',e',hb',hx4⟩:=RS.at' HR.out (i:=2) (by omega);cases e';have hof:=je (l:=l) (i:=1) (by omega);have IL:=je (l:=l) (i:=2) (by omega);obtain⟨x,hx3⟩:∃x,GB.wd l 1=x:=⟨_,rfl⟩;obtain⟨y,hy⟩:∃y,GB.wd l 2=y:=⟨_,rfl⟩;rw[hof,IL,hx3,hy] at HS;rw[hx3] at hx2;rw[hy] at hx4;have HK:=hid (λw'=>W2.bZ x w' (by have:=hsz 1;rw[hx3] at this;unfold maxLen;omega));have HX:=hid (λw'=>jW y w' (by rw[<-hy];exact hsz 2));unfold pQ at HX;unfold GB.sec at HS;cases hv:W2.aO x
  ·rw[hv] at HK HS
   go_wp2_with (first
    |(go_at_call 159;refine HO.out.mono ?_;rintro e w1 ⟨q,rfl,rfl,_⟩)
    |(go_at_call 157;refine(HK.out _).mono ?_;rintro e w1 ⟨rfl,rfl⟩)
    |(go_at_call 158;refine(HX.out _).mono ?_;rintro e w2 ⟨v,rfl,hb2⟩
      have B2:=ae HB0.out hb2;have hx5:=(hb2.cell (p:=⟨b,o+1,none⟩) (aL hx2)).trans hx2;obtain⟨n0,p0,n1,p1,n2,p2,n3,p3,n4,p4,n5,p5,n6,p6,n7,p7,n8,p8,n9,p9,n10,bE⟩:=au B2)
    |(go_at_call 86;refine(HB.out _ _).mono ?_;rintro e w3 ⟨rfl,hb1⟩
      have B1:=ae (by first|exact B2|exact HB0.out) hb1;obtain⟨n0,p0,n1,p1,n2,p2,n3,p3,n4,p4,n5,p5,n6,p6,n7,p7,n8,p8,n9,p9,n10,bE⟩:=au B1)
    |(go_at_call 161;refine(pR.out _ _ _ _ _ _ _ _ _ _ _ _ _ _ _ _ _ _).mono ?_;rintro e w3 ⟨hb1,v',rfl,k1,ca,cn,cc,q1,tk,s1,s2,sk,cl,s3,fa,fn,fc,s4,rfl,hok⟩
      have B1:=ae (by first|exact B2|exact HB0.out) hb1;obtain⟨n0,p0,n1,p1,n2,p2,n3,p3,n4,p4,n5,p5,n6,p6,n7,p7,n8,p8,n9,p9,n10,bE⟩:=au B1))
   refine bU (N:=N) (t:=GB.bD) (u:=0) rfl rfl hN (by first|exact HW.out|exact HW.out.trans (hb2.mono HW.out.size)) hb1 B1 ?_;exact HS.out.trans (by simp)
  ·rw[hv] at HK HS;cases hv2:sc y.data.toList
   ·rw[hv2] at HX HS
    go_wp2_with (first
     |(go_at_call 159;refine HO.out.mono ?_;rintro e w1 ⟨q,rfl,rfl,_⟩)
     |(go_at_call 157;refine(HK.out _).mono ?_;rintro e w1 ⟨rfl,rfl⟩)
     |(go_at_call 158;refine(HX.out _).mono ?_;rintro e w2 ⟨v,rfl,hb2⟩
       have B2:=ae HB0.out hb2;have hx5:=(hb2.cell (p:=⟨b,o+1,none⟩) (aL hx2)).trans hx2;obtain⟨n0,p0,n1,p1,n2,p2,n3,p3,n4,p4,n5,p5,n6,p6,n7,p7,n8,p8,n9,p9,n10,bE⟩:=au B2)
     |(go_at_call 86;refine(HB.out _ _).mono ?_;rintro e w3 ⟨rfl,hb1⟩
       have B1:=ae (by first|exact B2|exact HB0.out) hb1;obtain⟨n0,p0,n1,p1,n2,p2,n3,p3,n4,p4,n5,p5,n6,p6,n7,p7,n8,p8,n9,p9,n10,bE⟩:=au B1)
     |(go_at_call 161;refine(pR.out _ _ _ _ _ _ _ _ _ _ _ _ _ _ _ _ _ _).mono ?_;rintro e w3 ⟨hb1,v',rfl,k1,ca,cn,cc,q1,tk,s1,s2,sk,cl,s3,fa,fn,fc,s4,rfl,hok⟩
       have B1:=ae (by first|exact B2|exact HB0.out) hb1;obtain⟨n0,p0,n1,p1,n2,p2,n3,p3,n4,p4,n5,p5,n6,p6,n7,p7,n8,p8,n9,p9,n10,bE⟩:=au B1))
    refine bU (N:=N) (t:=GB.mQ) (u:=0) rfl rfl hN (by first|exact HW.out|exact HW.out.trans (hb2.mono HW.out.size)) hb1 B1 ?_;exact HS.out.trans (by simp)
   ·rw[hv2] at HX HS
    go_wp2_with (first
     |(go_at_call 159;refine HO.out.mono ?_;rintro e w1 ⟨q,rfl,rfl,_⟩)
     |(go_at_call 157;refine(HK.out _).mono ?_;rintro e w1 ⟨rfl,rfl⟩)
     |(go_at_call 158;refine(HX.out _).mono ?_;rintro e w2 ⟨v,rfl,hb2⟩
       have B2:=ae HB0.out hb2;have hx5:=(hb2.cell (p:=⟨b,o+1,none⟩) (aL hx2)).trans hx2;obtain⟨n0,p0,n1,p1,n2,p2,n3,p3,n4,p4,n5,p5,n6,p6,n7,p7,n8,p8,n9,p9,n10,bE⟩:=au B2)
     |(go_at_call 86;refine(HB.out _ _).mono ?_;rintro e w3 ⟨rfl,hb1⟩
       have B1:=ae (by first|exact B2|exact HB0.out) hb1;obtain⟨n0,p0,n1,p1,n2,p2,n3,p3,n4,p4,n5,p5,n6,p6,n7,p7,n8,p8,n9,p9,n10,bE⟩:=au B1)
     |(go_at_call 161;refine(pR.out _ _ _ _ _ _ _ _ _ _ _ _ _ _ _ _ _ _).mono ?_;rintro e w3 ⟨hb1,v',rfl,k1,ca,cn,cc,q1,tk,s1,s2,sk,cl,s3,fa,fn,fc,s4,rfl,hok⟩
       have B1:=ae (by first|exact B2|exact HB0.out) hb1;obtain⟨n0,p0,n1,p1,n2,p2,n3,p3,n4,p4,n5,p5,n6,p6,n7,p7,n8,p8,n9,p9,n10,bE⟩:=au B1))
    refine jY (N:=N) (v0:=.int .i64 k1) (v1:=.slice ca cn cc) (v2:=.bool q1) (v3:=.bool tk) (v4:=.string s1) (v5:=.string s2) (v6:=.int .i64 sk) (v7:=.bool cl) (v8:=.string s3) (v9:=.slice fa fn fc) (v10:=.string s4) (w1:=w3) rfl rfl hN (by first|exact HW.out.trans (hb1.mono HW.out.size)|exact(HW.out.trans (hb2.mono HW.out.size)).trans (hb1.mono (Nat.le_trans HW.out.size hb2.size))) B1 ?_ ⟨k1,_,_,_,_,_,_,_,_,_,_,_,_,_,_,rfl,hok⟩;exact HS.out.trans (by simp)
 ·have h3:((m:Int) == 3)=false:=by simp;omega
  have HK:=hid (λw'=>W2.bZ ⟨#[]⟩ w' (by decide))
  go_wp2_with (first
   |(go_at_call 159;refine HO.out.mono ?_;rintro e w1 ⟨q,rfl,rfl,_⟩)
   |(go_at_call 157;refine(HK.out _).mono ?_;rintro e w1 ⟨rfl,rfl⟩)
   |(go_at_call 86;refine(HB.out _ _).mono ?_;rintro e w3 ⟨rfl,hb1⟩
     have B1:=ae (by first|exact B2|exact HB0.out) hb1;obtain⟨n0,p0,n1,p1,n2,p2,n3,p3,n4,p4,n5,p5,n6,p6,n7,p7,n8,p8,n9,p9,n10,bE⟩:=au B1)
   |(go_at_call 161;refine(pR.out _ _ _ _ _ _ _ _ _ _ _ _ _ _ _ _ _ _).mono ?_;rintro e w3 ⟨hb1,v',rfl,k1,ca,cn,cc,q1,tk,s1,s2,sk,cl,s3,fa,fn,fc,s4,rfl,hok⟩
     have B1:=ae (by first|exact B2|exact HB0.out) hb1;obtain⟨n0,p0,n1,p1,n2,p2,n3,p3,n4,p4,n5,p5,n6,p6,n7,p7,n8,p8,n9,p9,n10,bE⟩:=au B1))
  refine bU (N:=N) (t:=GB.bg) (u:=0) rfl rfl hN (by first|exact HW.out|exact HW.out.trans (hb2.mono HW.out.size)) hb1 B1 ?_;exact HS.out.trans (if_pos h2)
theorem oU{w:World}{a:Option Addr}{n cap:Nat}{l:List ByteArray}(h:RS w (.slice a n cap) l)(hc:n<=cap)(hn:n<=1000000)(h0:1<=n)(hw:GB.wd l 0=GB.mR\/GB.wd l 0=GB.mU)(hsz:∀i,(GB.wd l i).size<=1000000):
 Calls prog 90 #[.slice a n cap] w (tq w (GB.short l)):=by
 rcases hw with hw|hw
 all_goals
  obtain⟨b,o,rfl,hb,hx⟩:=RS.at' h (i:=0) (by omega);rw[hw,Nat.add_zero] at hx;(first|unfold GB.mR at hx|unfold GB.mU at hx)
  obtain⟨m,hm⟩:∃m,(GB.off l).length=m:=⟨_,rfl⟩;have hm0:1<=m:=by
   have hl:=W2.RS.len h;unfold GB.off at hm;split at hm
   ·rw[List.length_take] at hm;omega
   ·omega
  have HS:=hid (show GB.short l=if m≠3 then .bad GB.bg 0 else if W2.aO (GB.wd (GB.off l) 1)=false then .bad GB.bD 0 else if (GB.num (GB.wd (GB.off l) 2)).isSome then .other else .bad GB.NU 0 by
   unfold GB.short;rw[hw,if_neg (by decide),if_neg (by decide),if_neg (by decide),hm];first|rw[if_neg (show¬GB.mR=GB.fw by decide)]|rw[if_neg (show¬GB.mU=GB.fw by decide)])
  have FO:m<=n:=by
   have hl:=W2.RS.len h;unfold GB.off at hm;split at hm
   ·rw[List.length_take] at hm;omega
   ·omega
  have B0:=aA w aH 33;have hb0:=bA w (.cells aH 33);have hlt:b<w.heap.size:=hb;have hx1:=(hb0.cell (p:=⟨b,o,none⟩) hlt).trans hx;have HR:=hid (show RS (w.alloc (.cells aH 33)) (.slice (some ⟨b,o,none⟩) n cap) l from h.below hb0);have HO:=hid (roff (h.below hb0) hc hn);obtain⟨N,hN⟩:∃N,w.heap.size=N:=⟨_,rfl⟩;obtain⟨W,hW⟩:∃W,w.alloc (.cells aH 33)=W:=⟨_,rfl⟩;rw[hW,hN] at B0;rw[hW] at hb0 hx1 HO HR;unfold aH at hW;unfold AL at HO;rw[hm] at HO;have HB:=hid nT;unfold cO at HB;have HB0:=hid B0;have HW:=hid hb0;clear h hw hx B0 hb0;go_enter func90,ntmps90;go_wp2_with (fail)
  clear hW;have pR:=hid Ei;by_cases h2:m=3
  ·subst h2;obtain⟨b',o',e',hb',hx2⟩:=RS.at' HR.out (i:=1) (by omega);cases e';obtain⟨b',o',e',hb',hx4⟩:=RS.at' HR.out (i:=2) (by omega);cases e';have hof:=je (l:=l) (i:=1) (by omega);have IL:=je (l:=l) (i:=2) (by omega);obtain⟨x,hx3⟩:∃x,GB.wd l 1=x:=⟨_,rfl⟩;obtain⟨y,hy⟩:∃y,GB.wd l 2=y:=⟨_,rfl⟩;rw[hof,IL,hx3,hy] at HS;rw[hx3] at hx2;rw[hy] at hx4;have HK:=hid (λw'=>W2.bZ x w' (by have:=hsz 1;rw[hx3] at this;unfold maxLen;omega));have HX:=hid (λw'=>bQ y w' (by rw[<-hy];exact hsz 2));unfold oN at HX;unfold GB.num at HS;obtain⟨u,hu⟩:∃u,(((nm y.data.toList).getD 0:Nat):Int)=u:=⟨_,rfl⟩;rw[hu] at HX;cases hv:W2.aO x
   ·rw[hv] at HK HS
    go_wp2_with (first
     |(go_at_call 159;refine HO.out.mono ?_;rintro e w1 ⟨q,rfl,rfl,_⟩)
     |(go_at_call 157;refine(HK.out _).mono ?_;rintro e w1 ⟨rfl,rfl⟩)
     |(go_at_call 152;refine(HX.out _).mono ?_;rintro e w2 ⟨rfl,rfl⟩)
     |(go_at_call 86;refine(HB.out _ _).mono ?_;rintro e w3 ⟨rfl,hb1⟩
       have B1:=ae (by first|exact B2|exact HB0.out) hb1;obtain⟨n0,p0,n1,p1,n2,p2,n3,p3,n4,p4,n5,p5,n6,p6,n7,p7,n8,p8,n9,p9,n10,bE⟩:=au B1)
     |(go_at_call 161;refine(pR.out _ _ _ _ _ _ _ _ _ _ _ _ _ _ _ _ _ _).mono ?_;rintro e w3 ⟨hb1,v',rfl,k1,ca,cn,cc,q1,tk,s1,s2,sk,cl,s3,fa,fn,fc,s4,rfl,hok⟩
       have B1:=ae (by first|exact B2|exact HB0.out) hb1;obtain⟨n0,p0,n1,p1,n2,p2,n3,p3,n4,p4,n5,p5,n6,p6,n7,p7,n8,p8,n9,p9,n10,bE⟩:=au B1))
    refine bU (N:=N) (t:=GB.bD) (u:=0) rfl rfl hN (by first|exact HW.out|exact HW.out.trans (hb2.mono HW.out.size)) hb1 B1 ?_;exact HS.out.trans (by simp)
   ·rw[hv] at HK HS;cases hv2:(nm y.data.toList).isSome
    ·rw[hv2] at HX HS
     go_wp2_with (first
      |(go_at_call 159;refine HO.out.mono ?_;rintro e w1 ⟨q,rfl,rfl,_⟩)
      |(go_at_call 157;refine(HK.out _).mono ?_;rintro e w1 ⟨rfl,rfl⟩)
      |(go_at_call 152;refine(HX.out _).mono ?_;rintro e w2 ⟨rfl,rfl⟩)
      |(go_at_call 86;refine(HB.out _ _).mono ?_;rintro e w3 ⟨rfl,hb1⟩
        have B1:=ae (by first|exact B2|exact HB0.out) hb1;obtain⟨n0,p0,n1,p1,n2,p2,n3,p3,n4,p4,n5,p5,n6,p6,n7,p7,n8,p8,n9,p9,n10,bE⟩:=au B1)
      |(go_at_call 161;refine(pR.out _ _ _ _ _ _ _ _ _ _ _ _ _ _ _ _ _ _).mono ?_;rintro e w3 ⟨hb1,v',rfl,k1,ca,cn,cc,q1,tk,s1,s2,sk,cl,s3,fa,fn,fc,s4,rfl,hok⟩
        have B1:=ae (by first|exact B2|exact HB0.out) hb1;obtain⟨n0,p0,n1,p1,n2,p2,n3,p3,n4,p4,n5,p5,n6,p6,n7,p7,n8,p8,n9,p9,n10,bE⟩:=au B1))
     refine bU (N:=N) (t:=GB.NU) (u:=0) rfl rfl hN (by first|exact HW.out|exact HW.out.trans (hb2.mono HW.out.size)) hb1 B1 ?_;exact HS.out.trans (by simp)
    ·rw[hv2] at HX HS
     go_upto_region 33 with (first
      |(go_at_call 159;refine HO.out.mono ?_;rintro e w1 ⟨q,rfl,rfl,_⟩)
      |(go_at_call 157;refine(HK.out _).mono ?_;rintro e w1 ⟨rfl,rfl⟩)
      |(go_at_call 152;refine(HX.out _).mono ?_;rintro e w2 ⟨rfl,rfl⟩))
     go_region_with (go_at_call 161;refine(pR.out _ _ _ _ _ _ _ _ _ _ _ _ _ _ _ _ _ _).mono ?_;rintro e w3 ⟨hb1,v',rfl,k1,ca,cn,cc,q1,tk,s1,s2,sk,cl,s3,fa,fn,fc,s4,rfl,hok⟩;have B1:=ae (ae HB0.out (by go_grown)) hb1;have HD:=hid (Og (Og HW.out (by go_grown)) hb1);obtain⟨n0,p0,n1,p1,n2,p2,n3,p3,n4,p4,n5,p5,n6,p6,n7,p7,n8,p8,n9,p9,n10,bE⟩:=au B1)
     all_goals (go_wp2_with (fail))
     all_goals (exact jY (N:=N) (v0:=.int .i64 k1) (v1:=.slice ca cn cc) (v2:=.bool q1) (v3:=.bool tk) (v4:=.string s1) (v5:=.string s2) (v6:=.int .i64 sk) (v7:=.bool cl) (v8:=.string s3) (v9:=.slice fa fn fc) (v10:=.string s4) (w1:=w3) rfl rfl hN HD.out B1 (HS.out.trans (by simp)) ⟨k1,_,_,_,_,_,_,_,_,_,_,_,_,_,_,rfl,hok⟩)
  ·have h3:((m:Int) == 3)=false:=by simp;omega
   have HK:=hid (λw'=>W2.bZ ⟨#[]⟩ w' (by decide))
   go_wp2_with (first
    |(go_at_call 159;refine HO.out.mono ?_;rintro e w1 ⟨q,rfl,rfl,_⟩)
    |(go_at_call 157;refine(HK.out _).mono ?_;rintro e w1 ⟨rfl,rfl⟩)
    |(go_at_call 86;refine(HB.out _ _).mono ?_;rintro e w3 ⟨rfl,hb1⟩
      have B1:=ae (by first|exact B2|exact HB0.out) hb1;obtain⟨n0,p0,n1,p1,n2,p2,n3,p3,n4,p4,n5,p5,n6,p6,n7,p7,n8,p8,n9,p9,n10,bE⟩:=au B1)
    |(go_at_call 161;refine(pR.out _ _ _ _ _ _ _ _ _ _ _ _ _ _ _ _ _ _).mono ?_;rintro e w3 ⟨hb1,v',rfl,k1,ca,cn,cc,q1,tk,s1,s2,sk,cl,s3,fa,fn,fc,s4,rfl,hok⟩
      have B1:=ae (by first|exact B2|exact HB0.out) hb1;obtain⟨n0,p0,n1,p1,n2,p2,n3,p3,n4,p4,n5,p5,n6,p6,n7,p7,n8,p8,n9,p9,n10,bE⟩:=au B1))
   refine bU (N:=N) (t:=GB.bg) (u:=0) rfl rfl hN (by first|exact HW.out|exact HW.out.trans (hb2.mono HW.out.size)) hb1 B1 ?_;exact HS.out.trans (if_pos h2)
end Go.Proofs.YtboehbfagnocpaaGreatDoor
