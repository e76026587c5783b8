import Derived.Test.YtboehbfagnocpaaGreatDoorKaj
import Derived.Test.YtboehbfagnocpaaGreatDoorKao
import Derived.Test.YtboehbfagnocpaaGreatDoorKap
set_option linter.unusedVariables false
set_option linter.unusedSimpArgs false
set_option maxRecDepth 100000
set_option maxHeartbeats 40000000
open Go.Proofs.Tryz
open Go.Lib (hid)
namespace Go.Proofs.YtboehbfagnocpaaGreatDoor
open Go.RowKit Go.PlainAid Go.Shelf
open W2.P (mk)
theorem FB{nm t bh:ByteArray}{l:List ByteArray}{u:Nat}(h:GB.read (nm :: l) bh=.bad t u):
 (l.length=0/\t=GB.bD/\u=0)\/(nm≠GB.oO/\1<=l.length/\u=0/\(GB.flags nm (l.drop 1)=some t\/(GB.flags nm (l.drop 1)=none/\GB.iB (GB.wd l 0) (l.drop 1)=false/\t=GB.bD)))\/
 (nm=GB.oO/\1<=l.length/\((l.length=1/\t=GB.bD/\u=0)\/(2<=l.length/\GB.num (GB.wd l 1)=none/\t=GB.bD/\u=0)\/(2<=l.length/\∃k,GB.num (GB.wd l 1)=some k/\1073741824<k/\t=GB.bD/\u=0)\/
  (2<=l.length/\∃k,GB.num (GB.wd l 1)=some k/\k<=65536/\GB.flags nm (l.drop 2)=none/\GB.iB (GB.wd l 0) (l.drop 2)=true/\k+2<=bh.size/\¬GB.crlf bh k/\t=GB.nR/\u=k+2))):=by
 unfold GB.read at h;simp only[iE,zg,zh,List.length_cons,List.drop_succ_cons] at h;split at h
 ·cases h;exact .inl ⟨by omega,rfl,rfl⟩
 ·split at h
  ·rename_i h1 h2;refine .inr (.inr ⟨h2,by omega,?_⟩);split at h
   ·cases h;exact .inl ⟨by omega,rfl,rfl⟩
   ·cases hk:GB.num (GB.wd l 1) with
    |none=>rw[hk] at h;cases h;exact .inr (.inl ⟨by omega,rfl,rfl,rfl⟩)
    |some k=>
     rw[hk] at h;simp only at h;split at h
     ·rename_i h3;cases h;exact .inr (.inr (.inl ⟨by omega,k,rfl,h3,rfl,rfl⟩))
     ·split at h
      ·rename_i h4;unfold GB.chunk at h;split at h
       ·cases h
       ·split at h
        ·cases h
        ·split at h
         ·cases h
         ·rename_i g1 g2 g3;cases h;exact .inr (.inr (.inr ⟨by omega,k,rfl,by omega,h4.1,h4.2,by omega,g3,rfl,rfl⟩))
      ·cases h
  ·rename_i h1 h2;refine .inr (.inl ⟨h2,by omega,?_⟩);cases hf:GB.flags nm (l.drop 1) with
   |some t'=>rw[hf] at h;cases h;exact⟨rfl,.inl rfl⟩
   |none=>
    rw[hf] at h;simp only at h;split at h
    ·cases h
    ·rename_i h3;cases h;exact⟨rfl,.inr ⟨rfl,by simpa using h3,rfl⟩⟩
def MrP(t:ByteArray)(u:Nat)(w:World)(e:Ending)(w':World):Prop:=e=.returned (.tuple #[cO t 0,.int .i64 (u:Nat),.bool false])/\Below w.heap.size w w'
theorem d_{fn:Func}{k i j:Nat}(hres:fn.results= #[.cell k 33,.tmp i,.tmp j]){tmps:Array Value}{w w1:World}{N:Nat}{t:ByteArray}{u:Nat}{m:Int}{x0 x1 x2 x3 x4 x5 x6 x7 x8 x9 lJ:Value}
 (h2:tmps.getD k undef=.pointer (some ⟨N,0,none⟩)) (hi:tmps.getD i undef=.int .i64 m) (hj:tmps.getD j undef=.bool false) (hu:m=(u:Nat)) (hb:Below w.heap.size w w1) (hN:w.heap.size<=N) (hB:(aG N #[x0,x1,x2,x3,x4,x5,x6,x7,x8,x9,lJ] 33).R w1):
 bodyPost prog fn (MrP t u w) .ret {tmps:=tmps,defers:=[]} (aS N 0 [.int .i64 2,.slice none 0 0,.bool false,.bool false,.string t,.string ⟨#[]⟩,.int .i64 0,.bool false,.string ⟨#[]⟩,.slice none 0 0,.string ⟨#[]⟩] w1):=by
 have hs:=aK N 33 (jI t 0) 0 #[x0,x1,x2,x3,x4,x5,x6,x7,x8,x9,lJ] w1 hB;have h3:=hs.here;rw[show aR 0 (jI t 0) #[x0,x1,x2,x3,x4,x5,x6,x7,x8,x9,lJ]= #[.int .i64 2,.slice none 0 0,.bool false,.bool false,.string t,.string ⟨#[]⟩,.int .i64 0,.bool false,.string ⟨#[]⟩,.slice none 0 0,.string ⟨#[]⟩] by simp[aR,jI]] at h3;have hbb:Below w.heap.size w (aS N 0 (jI t 0) w1):=hs.bL.below hb hb.size (λb hb=>by rw[show b=N from hb];exact hN);simp only[jI] at h3 hbb;subst hu;refine bodyPost_ret (v:=.tuple #[cO t 0,.int .i64 (u:Nat),.bool false]) ?_ rfl ⟨rfl,hbb⟩;have h2':tmps[k]?.getD undef=.pointer (some ⟨N,0,none⟩):=by simpa using h2
 have hi':tmps[i]?.getD undef=.int .i64 (u:Nat):=by simpa using hi
 have hj':tmps[j]?.getD undef=.bool false:=by simpa using hj
 obtain⟨V,hV⟩:∃V,aS N 0 [.int .i64 2,.slice none 0 0,.bool false,.bool false,.string t,.string ⟨#[]⟩,.int .i64 0,.bool false,.string ⟨#[]⟩,.slice none 0 0,.string ⟨#[]⟩] w1=V:=⟨_,rfl⟩;rw[hV] at h3⊢;obtain⟨y0,y1,y2,y3,y4,y5,y6,y7,y8,y9,Yd⟩:nP V N (.int .i64 2) (.slice none 0 0) (.bool false) (.bool false) (.string t) (.string ⟨#[]⟩) (.int .i64 0) (.bool false) (.string ⟨#[]⟩) (.slice none 0 0) (.string ⟨#[]⟩):=jC (h3);simp[results,hres,go_sem,cO,h2',hi',hj',y0,y1,y2,y3,y4,y5,y6,y7,y8,y9,Yd]
def Ty(nm w0:ByteArray):Array Value:=#[.int .i64 1,.slice none 0 0,.bool false,.bool false,.string ⟨#[]⟩,.string ⟨#[]⟩,.int .i64 0,.bool false,.string nm,.slice none 0 0,.string w0]
def McO(nm w0 t bh:ByteArray)(F:List ByteArray)(u:Nat)(sz:Int):Prop:=
 (GB.flags nm F=some t/\sz=0/\u=0)\/(GB.flags nm F=none/\GB.iB w0 F=false/\t=GB.bD/\sz=0/\u=0)\/
  (GB.flags nm F=none/\GB.iB w0 F=true/\∃k:Nat,sz=(k:Int)+2/\k<=65536/\k+2<=bh.size/\¬GB.crlf bh k/\t=GB.nR/\u=k+2)
theorem FC{w:World}{b o n cap:Nat}{nm bh t:ByteArray}{l:List ByteArray}{u:Nat}(hws:Ws w b o (n+1) (nm :: l))(hc:n+1<=cap)(hn:n<=1000000)(hM:GB.vG nm=true)(hs:∀i,(GB.wd l i).size<=1000000)(h1:∀i,i<n->1<=(GB.wd l i).size)
 (hE:Er w) (hB:bh.size<=100000) (hbad:GB.read (nm :: l) bh=.bad t u):Calls prog 290 #[.slice (some ⟨b,o,none⟩) (n+1) cap,.string bh] w (MrP t u w):=by
 have hl:l.length=n:=by have:=hws.2.1;rw[List.length_cons] at this;omega
 have hx:=FB hbad;rw[hl] at hx;have HX:=hid hx;have hx0:=hws.2.2 0 (by omega);rw[iE,Nat.add_zero] at hx0;have hE5:5<w.heap.size:=by obtain⟨ev,h,-⟩:=hE;exact aL h
 have HA:=hid (show b<w.heap.size/\∀w',Below w.heap.size w w'->∀i,i<n->w'.cell? ⟨b,o+1+i,none⟩=some (.string (GB.wd l i)) from⟨hws.1,λw' hb i hi=>by
  have h2:=(hws.below hb).2.2 (i+1) (by omega);rw[show o+(i+1)=o+1+i by omega] at h2;exact h2⟩)
 have HG:=hid (And.intro hl (And.intro hs (And.intro h1 (And.intro hE hE5))));have i1:=(Inv.start w).new (aA w aH 33) (bA w _) (λb hb=>by have e:b=w.heap.size:=hb;omega);have hx1:=(i1.bel.cell (p:=⟨b,o,none⟩) hws.1).trans hx0;obtain⟨N,hN⟩:∃N,w.heap.size=N:=⟨_,rfl⟩;obtain⟨W,hW⟩:∃W,w.alloc (.cells aH 33)=W:=⟨_,rfl⟩;rw[hW] at i1 hx1;rw[hN] at i1;simp only[aH] at hW;have HI1:=hid i1;have HN:=hid hN;have HK:=hid (λw'=>Qx hM w');unfold wM at HK;have HB:=hid (λt w'=>VF t 0 w');unfold cO at HB;obtain⟨c1,rfl⟩:∃c1,cap=c1+1:=⟨cap-1,by omega⟩;have FY:=hid hM;have Wz:=hid hB;clear hx hx0 i1 hbad hws hs h1 hE hE5 hM hB;have j1:(0:Int)<(n:Int)+1:=by omega
 have j2:(1:Int)<=(n:Int)+1:=by omega
 have j3:((n:Int)+1).toNat=n+1:=by omega
 go_enter func290,ntmps290;go_upto_region 1 with fail
 try rw[hW]
 go_cut [7,8] from 18 to 22 (λs7 s8 wx=> ∃a1,s7=.string nm/\s8=.slice a1 n c1/\(1<=n->a1=some ⟨b,o+1,none⟩)/\wx=W.drew)
 case first=>
  by_cases hcp:c1=0
  ·have hn0:n=0:=by omega
   subst hcp hn0;go_region_with (fail)
   all_goals (go_wp2_with fail)
   all_goals (go_meet;exact⟨_,rfl,rfl,λh=>absurd h (by decide),rfl⟩)
  ·have hcp1:¬c1+1=1:=by omega
   have hcp2:¬1=c1+1:=by omega
   go_region_with (fail)
   all_goals (go_wp2_with fail)
   all_goals (go_meet;exact⟨_,rfl,rfl,λ_=>rfl,rfl⟩)
 case rest=>
 obtain⟨a1,rfl,rfl,ha1,hwc⟩:=hcut;subst hwc;have HI2:=hid HI1.out.drew;obtain⟨Wb,hW2⟩:∃Wb,W.drew=Wb:=⟨_,rfl⟩;rw[hW2] at HI2;rw[hW2];clear hx1 HI1 hW2 j1 j2 j3;rcases Nat.eq_zero_or_pos n with hn0|hn0
 ·subst hn0;have hq:t=GB.bD/\u=0:=by
   rcases HX.out with ⟨-,h⟩|⟨-,h,-⟩|⟨-,h,-⟩
   ·exact h
   ·exact absurd h (by decide)
   ·exact absurd h (by decide)
  obtain⟨rfl,rfl⟩:=hq;go_wp2_with (go_at_call 287;refine(HB.out _ _).mono ?_;rintro e w4 ⟨rfl,hb4⟩;have I4:=HI2.out.below hb4;obtain⟨n0,p0,n1,p1,n2,p2,n3,p3,n4,p4,n5,p5,n6,p6,n7,p7,n8,p8,n9,p9,n10,bE⟩:=au (I4.get 0 rfl))
  exact d_ (N:=N) rfl rfl rfl rfl rfl I4.bel (Nat.le_of_eq HN.out) (I4.get 0 rfl)
 ·have ha:=ha1 hn0;subst ha;obtain⟨k,rfl⟩:∃k,n=k+1:=⟨n-1,by omega⟩;obtain⟨c2,rfl⟩:∃c2,c1=c2+1:=⟨c1-1,by omega⟩;have y0:=HA.out.2 Wb HI2.out.bel 0 (by omega);rw[Nat.add_zero] at y0;obtain⟨w0,hw0⟩:∃w0,GB.wd l 0=w0:=⟨_,rfl⟩;rw[hw0] at y0;obtain⟨n0,p0,n1,p1,n2,p2,n3,p3,n4,p4,n5,p5,n6,p6,n7,p7,n8,p8,n9,p9,n10,bE⟩:=au (HI2.out.get 0 rfl);have hs:=aK N 33 (Ty nm w0).toList 0 aH Wb (HI2.out.get 0 rfl);have I3:=HI2.out.turn 0 rfl hs;rw[show aR 0 (Ty nm w0).toList aH=Ty nm w0 by simp[aR,aH,Ty]] at I3;obtain⟨W3,hW3⟩:∃W3,aS N 0 (Ty nm w0).toList Wb=W3:=⟨_,rfl⟩;rw[hW3] at I3;simp only[aS,Ty] at hW3;have HW3:=hid hW3;have HI3:=hid I3;have q1:(0:Int)<(k:Int)+1:=by omega
  have q2:(1:Int)<=(k:Int)+1:=by omega
  have q3:((k:Int)+1).toNat=k+1:=by omega
  clear hs I3 hW3 ha1;go_upto_region 5 with fail
  rw[HW3.out];clear HW3 n0 p0 n1 p1 n2 p2 n3 p3 n4 p4 n5 p5 n6 p6 n7 p7 n8 p8 n9 p9 n10 bE y0 HI2;go_upto_region 6 with (go_at_call 289;refine(HK.out _).mono ?_;rintro e w4 ⟨dl,rfl,hb4⟩;have I4:=(HI3.out.below hb4).new (aA w4 (Bu (O9 nm) dl) 56) (bA _ _) (λb hb=>by have e:b=w4.heap.size:=hb;have:=((HI3.out.below hb4).bel).size;omega);have HI4:=hid I4;clear I4 hb4;unfold Bu)
  obtain⟨C,hC⟩:∃C,w4.heap.size=C:=⟨_,rfl⟩;obtain⟨W4,Rl⟩:∃W4,w4.alloc (.cells (Bu (O9 nm) dl) 56)=W4:=⟨_,rfl⟩;rw[hC,Rl] at HI4;simp only[Bu] at Rl;rw[hC,Rl];clear Rl hC HI3;go_cut [8] from 37 to 38 (λs8 wx=> ∃a2,s8=.slice a2 k c2/\(1<=k->a2=some ⟨b,o+2,none⟩)/\wx=W4)
  case first=>
   by_cases hcp:c2=0
   ·have hn0:k=0:=by omega
    subst hcp hn0;go_wp2_with (fail)
    go_meet;exact⟨_,rfl,λh=>absurd h (by decide),rfl⟩
   ·have hcp1:¬c2+1=1:=by omega
    have hcp2:¬1=c2+1:=by omega
    go_wp2_with (fail)
    go_meet;exact⟨_,rfl,λ_=>rfl,rfl⟩
  case rest=>
  obtain⟨a2,rfl,ha2,hwc⟩:=hcut;subst hwc;clear q1 q2 q3;go_upto_region 8 with fail
  go_upto_if 40 with fail
  obtain⟨st,hst⟩:∃st,(nm.toList == [109,115])=st:=⟨_,rfl⟩;have Nz:decide (nm=GB.oO)=st:=by
   rw[<-hst,show [109,115]=GB.oO.toList by rw[ByteArray.toList_eq];rfl,a_]
  rw[hst];have HST:=hid Nz;clear hst Nz;go_cut [8,11] from 41 to 63 (λs8 s11 wx=> ∃(a3:Option Addr) (p m c3:Nat) (sz:Int),s8=.slice a3 m c3/\(1<=m->a3=some ⟨b,o+1+p,none⟩)/\s11=.int .i64 sz/\p+m=k+1/\Hid (McO nm w0 t bh (l.drop p) u sz)/\Hid (Inv w [aG C (Bu (O9 nm) dl) 56,aG N (Ty nm w0) 33] wx))
  case first=>
   rcases HX.out with ⟨h,-⟩|⟨hne,h1,hu,hq⟩|⟨hms,h1,hq⟩
   ·exact absurd h (by omega)
   ·obtain rfl:false=st:=(decide_eq_false hne).symm.trans HST.out;have HO:=hid (show McO nm w0 t bh (l.drop 1) u 0 by
     rw[hw0] at hq;rcases hq with h|⟨h,h2,h3⟩
     ·exact .inl ⟨h,rfl,hu⟩
     ·exact .inr (.inl ⟨h,h2,h3,rfl,hu⟩))
    clear h1 hu hq hne;go_wp2_with (fail)
    go_meet;exact⟨_,1,k,_,0,rfl,ha2,rfl,by omega,HO,HI4⟩
   ·obtain rfl:true=st:=(decide_eq_true hms).symm.trans HST.out;clear hms;rcases hq with ⟨hk,rfl,rfl⟩|⟨hk,hv,rfl,rfl⟩|⟨hk,m,hv,hm,rfl,rfl⟩|⟨hk,m,hv,hm,hf,hko,hbz,hcr,rfl,rfl⟩
    ·obtain rfl:k=0:=by omega
     go_wp2_with (first
      |(go_at_call 287;refine(HB.out _ _).mono ?_;rintro e w9 ⟨rfl,ny⟩;have I9:=HI4.out.below ny;obtain⟨n0,p0,n1,p1,n2,p2,n3,p3,n4,p4,n5,p5,n6,p6,n7,p7,n8,p8,n9,p9,n10,bE⟩:=au (I9.get 1 rfl)))
     exact d_ (N:=N) rfl rfl rfl rfl rfl I9.bel (Nat.le_of_eq HN.out) (I9.get 1 rfl)
    ·have ha:=ha2 (by omega);subst ha;have y1:=HA.out.2 wc HI4.out.bel 1 (by omega);rw[show o+1+1=o+2 by omega] at y1;have q1:(0:Int)<k:=by omega
     have HP:=hid (bK (GB.wd l 1) wc (HG.out.2.2.2.1.below HI4.out.bel));rw[eG,hv] at HP
     go_wp2_with (first
      |(go_at_call 173;refine HP.out.mono ?_;rintro e w6 ⟨rfl,hb6⟩;have sJ:=hid (HI4.out.below hb6);clear hb6)
      |(go_at_call 287;refine(HB.out _ _).mono ?_;rintro e w9 ⟨rfl,ny⟩;have I9:=sJ.out.below ny;obtain⟨n0,p0,n1,p1,n2,p2,n3,p3,n4,p4,n5,p5,n6,p6,n7,p7,n8,p8,n9,p9,n10,bE⟩:=au (I9.get 1 rfl)))
     exact d_ (N:=N) rfl rfl rfl rfl rfl I9.bel (Nat.le_of_eq HN.out) (I9.get 1 rfl)
    ·have ha:=ha2 (by omega);subst ha;have y1:=HA.out.2 wc HI4.out.bel 1 (by omega);rw[show o+1+1=o+2 by omega] at y1;have q1:(0:Int)<k:=by omega
     have HP:=hid (bK (GB.wd l 1) wc (HG.out.2.2.2.1.below HI4.out.bel));rw[eG,hv] at HP;simp only[Option.getD_some,Option.isSome_some] at HP;obtain⟨v,hvv⟩:∃v:Int,(m:Int)=v:=⟨_,rfl⟩;rw[hvv] at HP;have k1:v > 1073741824:=by omega
     go_wp2_with (first
      |(go_at_call 173;refine HP.out.mono ?_;rintro e w6 ⟨rfl,hb6⟩;have sJ:=hid (HI4.out.below hb6);clear hb6)
      |(go_at_call 287;refine(HB.out _ _).mono ?_;rintro e w9 ⟨rfl,ny⟩;have I9:=sJ.out.below ny;obtain⟨n0,p0,n1,p1,n2,p2,n3,p3,n4,p4,n5,p5,n6,p6,n7,p7,n8,p8,n9,p9,n10,bE⟩:=au (I9.get 1 rfl)))
     exact d_ (N:=N) rfl rfl rfl rfl rfl I9.bel (Nat.le_of_eq HN.out) (I9.get 1 rfl)
    ·have ha:=ha2 (by omega);subst ha;have y1:=HA.out.2 wc HI4.out.bel 1 (by omega);rw[show o+1+1=o+2 by omega] at y1;have q1:(0:Int)<k:=by omega
     have HP:=hid (bK (GB.wd l 1) wc (HG.out.2.2.2.1.below HI4.out.bel));rw[eG,hv] at HP;simp only[Option.getD_some,Option.isSome_some] at HP;obtain⟨v,hvv⟩:∃v:Int,(m:Int)=v:=⟨_,rfl⟩;rw[hvv] at HP;have k1:¬v > 1073741824:=by omega
     have e2:IntKind.i64.wrap v=v:=by rw[IntKind.wrap_i64];omega
     have e3:IntKind.i64.wrap (v+2)=v+2:=by rw[IntKind.wrap_i64];omega
     have HO:=hid (show McO nm w0 GB.nR bh (l.drop 2) (m+2) (v+2) from .inr (.inr ⟨hf,by rw[<-hw0];exact hko,m,by omega,hm,hbz,hcr,rfl,rfl⟩));obtain⟨k,rfl⟩:∃j,k=j+1:=⟨k-1,by omega⟩;obtain⟨c3,rfl⟩:∃c3,c2=c3+1:=⟨c2-1,by omega⟩;have q2:(1:Int)<=(k:Int)+1:=by omega
     have q3:((k:Int)+1).toNat=k+1:=by omega
     clear hf hko hbz hcr hv hm hvv;by_cases hcp:c3=0
     ·have hn0:k=0:=by omega
      subst hcp hn0;go_upto_region 14 with ((go_at_call 173;refine HP.out.mono ?_;rintro e w6 ⟨rfl,hb6⟩;have sJ:=hid (HI4.out.below hb6);clear hb6))
      go_region_with (fail)
      all_goals (go_wp2_with fail)
      all_goals go_meet
      all_goals exact⟨_,2,0,_,v+2,rfl,λh=>absurd h (by decide),rfl,by omega,HO,sJ.drew⟩
     ·have hcp1:¬c3+1=1:=by omega
      have hcp2:¬1=c3+1:=by omega
      go_upto_region 14 with ((go_at_call 173;refine HP.out.mono ?_;rintro e w6 ⟨rfl,hb6⟩;have sJ:=hid (HI4.out.below hb6);clear hb6))
      go_region_with (fail)
      all_goals (go_wp2_with fail)
      all_goals go_meet
      all_goals exact⟨_,2,k,_,v+2,rfl,λ_=>rfl,rfl,by omega,HO,sJ.drew⟩
  case rest=>
   obtain⟨a3,p,m,c3,sz,rfl,ha3,rfl,hpm,HO,HI⟩:=hcut;clear HX ha2 HI4;obtain⟨F,hF⟩:∃F,l.drop p=F:=⟨_,rfl⟩;rw[hF] at HO;have I5:=hid (HI.out.turn 0 rfl (bF.into (op:=O9 nm) (ag.rfl' (HI.out.get 0 rfl)) ⟨_,_,_,_,_,_,_,_,_,_,_,_,_,_,_,rfl⟩));have hCl:=HI.out.lo _ (.head _) C rfl;have kQ:=hid (aam (c:=C) (b:=b) (o:=o+1+p) (n:=m) (cap:=c3) (a:=a3) (al:=GB.allow nm) (op:=O9 nm) (l:=F) (w:=wc) (by rw[<-hF,List.length_drop];have:=HG.out.1;omega) (λh1=>⟨ha3 h1,⟨Nat.lt_of_lt_of_le HA.out.1 HI.out.bel.size,by rw[<-hF,List.length_drop];have:=HG.out.1;omega,λi hi=>by
    have h2:=HA.out.2 wc HI.out.bel (p+i) (by omega);rw[<-hF,kP,show o+1+p+i=o+1+(p+i) by omega];exact h2⟩,by have:=HA.out.1;omega⟩) (by omega) (I5.out.get 0 rfl) (λi hi=>by rw[<-hF,kP];exact HG.out.2.2.1 _ (by omega)) (λi=>by rw[<-hF,kP];exact HG.out.2.1 _) (HG.out.2.2.2.1.below HI.out.bel) (by have:=HG.out.2.2.2.2;omega))
   unfold Bt at kQ;rw[KS FY.out,show GB.rW (GB.allow nm) (decide (nm=GB.nU)) [] F=GB.flags nm F from rfl] at kQ;have HW0:=hid (show w0.size<=1000000 by rw[<-hw0];exact HG.out.2.1 0);clear HI hF ha3 HK FY;rcases HO.out with ⟨hf,rfl,rfl⟩|⟨hf,hko,rfl,rfl,rfl⟩|⟨hf,hko,m2,rfl,hm2,hbz,hcr,rfl,rfl⟩
   ·rw[hf] at kQ;simp only[pV,Option.getD_some,Option.isNone_some,Bool.false_and] at kQ;have hne:=JB (show GB.rW (GB.allow nm) (decide (nm=GB.nU)) [] F=some t from hf);have hne2:(t.toList == [])=false:=by
     cases h:t.toList with
     |nil=>rw[h] at hne;cases hne
     |cons x y=>rfl
    go_wp2_with (first
     |(go_at_call 314;refine kQ.out.mono ?_;rintro e w6 ⟨rfl,ht⟩;obtain⟨vs,⟨i1,s1,s2,i2,i3,b1,i4,b2,i5,i6,b3,b4,i7,i8,b5,rfl⟩,hc2⟩:=ht.here;have I7:=(I5.out.turn 0 rfl ht).turn 0 rfl (bF.oW hc2);have I8:=hid (I7.turn 0 rfl (ai (I7.get 0 rfl) 2 (.string w0)));have d2:w6.cell? ⟨C,2,none⟩=some (.string s1):=cA (I7.get 0 rfl) 2;have g2:=cZ (I7.get 0 rfl) 2;have m10:w6.cell? ⟨N,10,none⟩=some (.string w0):=cA (I7.get 1 rfl) 10;clear ht hc2 I7)
     |(go_at_call 287;refine(HB.out _ _).mono ?_;rintro e w9 ⟨rfl,ny⟩;have I9:=I8.out.below ny;obtain⟨n0,p0,n1,p1,n2,p2,n3,p3,n4,p4,n5,p5,n6,p6,n7,p7,n8,p8,n9,p9,n10,bE⟩:=au (I9.get 1 rfl)))
    exact d_ (N:=N) rfl rfl rfl rfl rfl I9.bel (Nat.le_of_eq HN.out) (I9.get 1 rfl)
   ·rw[hf] at kQ;simp only[pV,Option.getD_none,Option.isNone_none,Bool.true_and] at kQ;unfold GB.iB at hko;obtain⟨lt,hlt⟩:∃lt,F.any (λf=>GB.hd f == 98)=lt:=⟨_,rfl⟩;obtain⟨ds,hds⟩:∃ds,B3.P.iW w0=ds:=⟨_,rfl⟩;obtain⟨ok,hok⟩:∃ok,B3.P.okD w0=ok:=⟨_,rfl⟩;rw[hlt] at kQ hko;rw[hds,hok] at hko;have HD:=hid (λw'=>B3.rT w0 w' (by have:=HW0.out;omega));unfold B3.dJ at HD;rw[hds,hok] at HD;have hdz:ds.size<=1000000:=by rw[<-hds];have:=nZ w0;have:=HW0.out;omega
    clear hlt hds hok;cases lt
    ·have yX:=hid (λw'=>W2.dI w0 w' (by have:=HW0.out;unfold maxLen;omega));rw[show W2.aO w0=false from hko] at yX
     go_wp2_with (first
      |(go_at_call 314;refine kQ.out.mono ?_;rintro e w6 ⟨rfl,ht⟩;obtain⟨vs,⟨i1,s1,s2,i2,i3,b1,i4,b2,i5,i6,b3,b4,i7,i8,b5,rfl⟩,hc2⟩:=ht.here;have I7:=(I5.out.turn 0 rfl ht).turn 0 rfl (bF.oW hc2);have I8:=hid (I7.turn 0 rfl (ai (I7.get 0 rfl) 2 (.string w0)));have d2:w6.cell? ⟨C,2,none⟩=some (.string s1):=cA (I7.get 0 rfl) 2;have g2:=cZ (I7.get 0 rfl) 2;have m10:w6.cell? ⟨N,10,none⟩=some (.string w0):=cA (I7.get 1 rfl) 10;clear ht hc2 I7)
      |(go_at_call 164;refine(yX.out _).mono ?_;rintro e w8 ⟨rfl,rfl⟩)
      |(go_at_call 287;refine(HB.out _ _).mono ?_;rintro e w9 ⟨rfl,ny⟩;have I9:=I8.out.below ny;obtain⟨n0,p0,n1,p1,n2,p2,n3,p3,n4,p4,n5,p5,n6,p6,n7,p7,n8,p8,n9,p9,n10,bE⟩:=au (I9.get 1 rfl)))
     exact d_ (N:=N) rfl rfl rfl rfl rfl I9.bel (Nat.le_of_eq HN.out) (I9.get 1 rfl)
    ·cases ok
     go_wp2_with (first
      |(go_at_call 314;refine kQ.out.mono ?_;rintro e w6 ⟨rfl,ht⟩;obtain⟨vs,⟨i1,s1,s2,i2,i3,b1,i4,b2,i5,i6,b3,b4,i7,i8,b5,rfl⟩,hc2⟩:=ht.here;have I7:=(I5.out.turn 0 rfl ht).turn 0 rfl (bF.oW hc2);have I8:=hid (I7.turn 0 rfl (ai (I7.get 0 rfl) 2 (.string w0)));have d2:w6.cell? ⟨C,2,none⟩=some (.string s1):=cA (I7.get 0 rfl) 2;have g2:=cZ (I7.get 0 rfl) 2;have m10:w6.cell? ⟨N,10,none⟩=some (.string w0):=cA (I7.get 1 rfl) 10;clear ht hc2 I7)
      |(go_at_call 315;refine(HD.out _).mono ?_;rintro e w7 ⟨rfl,kT⟩;have zw:=I8.out.below kT;have d3:=cA (zw.get 0 rfl) 2;have g3:=cZ (zw.get 0 rfl) 2;have QB:=hid (zw.turn 0 rfl (ai (zw.get 0 rfl) 2 (.string ds)));clear zw kT)
      |(go_at_call 287;refine(HB.out _ _).mono ?_;rintro e w9 ⟨rfl,ny⟩;have I9:=QB.out.below ny;obtain⟨n0,p0,n1,p1,n2,p2,n3,p3,n4,p4,n5,p5,n6,p6,n7,p7,n8,p8,n9,p9,n10,bE⟩:=au (I9.get 1 rfl)))
     exact d_ (N:=N) rfl rfl rfl rfl rfl I9.bel (Nat.le_of_eq HN.out) (I9.get 1 rfl)
     ·have yX:=hid (λw'=>W2.dI ds w' (by unfold maxLen;omega));rw[show W2.aO ds=false from hko] at yX
      go_wp2_with (first
       |(go_at_call 314;refine kQ.out.mono ?_;rintro e w6 ⟨rfl,ht⟩;obtain⟨vs,⟨i1,s1,s2,i2,i3,b1,i4,b2,i5,i6,b3,b4,i7,i8,b5,rfl⟩,hc2⟩:=ht.here;have I7:=(I5.out.turn 0 rfl ht).turn 0 rfl (bF.oW hc2);have I8:=hid (I7.turn 0 rfl (ai (I7.get 0 rfl) 2 (.string w0)));have d2:w6.cell? ⟨C,2,none⟩=some (.string s1):=cA (I7.get 0 rfl) 2;have g2:=cZ (I7.get 0 rfl) 2;have m10:w6.cell? ⟨N,10,none⟩=some (.string w0):=cA (I7.get 1 rfl) 10;clear ht hc2 I7)
       |(go_at_call 315;refine(HD.out _).mono ?_;rintro e w7 ⟨rfl,kT⟩;have zw:=I8.out.below kT;have d3:=cA (zw.get 0 rfl) 2;have g3:=cZ (zw.get 0 rfl) 2;have QB:=hid (zw.turn 0 rfl (ai (zw.get 0 rfl) 2 (.string ds)));clear zw kT)
       |(go_at_call 164;refine(yX.out _).mono ?_;rintro e w8 ⟨rfl,rfl⟩)
       |(go_at_call 287;refine(HB.out _ _).mono ?_;rintro e w9 ⟨rfl,ny⟩;have I9:=QB.out.below ny;obtain⟨n0,p0,n1,p1,n2,p2,n3,p3,n4,p4,n5,p5,n6,p6,n7,p7,n8,p8,n9,p9,n10,bE⟩:=au (I9.get 1 rfl)))
      exact d_ (N:=N) rfl rfl rfl rfl rfl I9.bel (Nat.le_of_eq HN.out) (I9.get 1 rfl)
   ·rw[hf] at kQ;simp only[pV,Option.getD_none,Option.isNone_none,Bool.true_and] at kQ;unfold GB.iB at hko;obtain⟨lt,hlt⟩:∃lt,F.any (λf=>GB.hd f == 98)=lt:=⟨_,rfl⟩;obtain⟨ds,hds⟩:∃ds,B3.P.iW w0=ds:=⟨_,rfl⟩;obtain⟨ok,hok⟩:∃ok,B3.P.okD w0=ok:=⟨_,rfl⟩;rw[hlt] at kQ hko;rw[hds,hok] at hko;have HD:=hid (λw'=>B3.rT w0 w' (by have:=HW0.out;omega));unfold B3.dJ at HD;rw[hds,hok] at HD;have hdz:ds.size<=1000000:=by rw[<-hds];have:=nZ w0;have:=HW0.out;omega
    obtain⟨v,hvv⟩:∃v:Int,(m2:Int)=v:=⟨_,rfl⟩;have HE:=hid (show v+2=((m2+2:Nat):Int) by omega);have r1:¬v+2 > 65538:=by omega
    have r2:¬(bh.size:Int)<v+2:=by omega
    have r3:v+2 > 0:=by omega
    have r4:v+2<=bh.size:=by omega
    have r5:(0:Int)<=v+2:=by omega
    have E5:=hid (λw'=>Tryz.strings_CutSuffix (bh.extract 0 (v+2).toNat) ⟨#[13,10]⟩ w' (by have:=Wz.out;simp;omega));have e5:Lib.hasSuffix (bh.extract 0 (v+2).toNat).data.toList [13,10]=false:=by rw[show (v+2).toNat=m2+2 by omega];exact GB.rZ hbz hcr
    obtain⟨val,hval⟩:∃val:ByteArray,⟨(Lib.trimSuffix (bh.extract 0 (v+2).toNat).data.toList [13,10]).toArray⟩=val:=⟨_,rfl⟩;rw[show (⟨#[13,10]⟩:ByteArray).data.toList= [13,10] from rfl,e5,hval] at E5;rw[hvv];clear e5 hbz hcr hm2 hval;clear hlt hds hok;cases lt
    ·have yX:=hid (λw'=>W2.dI w0 w' (by have:=HW0.out;unfold maxLen;omega));rw[show W2.aO w0=true from hko] at yX
     go_upto_region 30 with (first
      |(go_at_call 314;refine kQ.out.mono ?_;rintro e w6 ⟨rfl,ht⟩;obtain⟨vs,⟨i1,s1,s2,i2,i3,b1,i4,b2,i5,i6,b3,b4,i7,i8,b5,rfl⟩,hc2⟩:=ht.here;have I7:=(I5.out.turn 0 rfl ht).turn 0 rfl (bF.oW hc2);have I8:=hid (I7.turn 0 rfl (ai (I7.get 0 rfl) 2 (.string w0)));have d2:w6.cell? ⟨C,2,none⟩=some (.string s1):=cA (I7.get 0 rfl) 2;have g2:=cZ (I7.get 0 rfl) 2;have m10:w6.cell? ⟨N,10,none⟩=some (.string w0):=cA (I7.get 1 rfl) 10;clear ht hc2 I7)
      |(go_at_call 164;refine(yX.out _).mono ?_;rintro e w8 ⟨rfl,rfl⟩))
     have d4:=cA (I8.out.get 0 rfl) 3;have g4:=cZ (I8.out.get 0 rfl) 3;have I12:=hid (I8.out.turn 0 rfl (ai (I8.out.get 0 rfl) 3 (.string val)))
     go_wp2_with (first
      |(go_at_call 316;refine(E5.out _).mono ?_;rintro e w8 ⟨rfl,rfl⟩)
      |(go_at_call 287;refine(HB.out _ _).mono ?_;rintro e w9 ⟨rfl,ny⟩;have I9:=I12.out.below ny;obtain⟨n0,p0,n1,p1,n2,p2,n3,p3,n4,p4,n5,p5,n6,p6,n7,p7,n8,p8,n9,p9,n10,bE⟩:=au (I9.get 1 rfl)))
     exact d_ (N:=N) rfl rfl rfl rfl HE.out I9.bel (Nat.le_of_eq HN.out) (I9.get 1 rfl)
    ·cases ok
     ·cases hko
     ·have yX:=hid (λw'=>W2.dI ds w' (by unfold maxLen;omega));rw[show W2.aO ds=true from hko] at yX
      go_upto_region 30 with (first
       |(go_at_call 314;refine kQ.out.mono ?_;rintro e w6 ⟨rfl,ht⟩;obtain⟨vs,⟨i1,s1,s2,i2,i3,b1,i4,b2,i5,i6,b3,b4,i7,i8,b5,rfl⟩,hc2⟩:=ht.here;have I7:=(I5.out.turn 0 rfl ht).turn 0 rfl (bF.oW hc2);have I8:=hid (I7.turn 0 rfl (ai (I7.get 0 rfl) 2 (.string w0)));have d2:w6.cell? ⟨C,2,none⟩=some (.string s1):=cA (I7.get 0 rfl) 2;have g2:=cZ (I7.get 0 rfl) 2;have m10:w6.cell? ⟨N,10,none⟩=some (.string w0):=cA (I7.get 1 rfl) 10;clear ht hc2 I7)
       |(go_at_call 315;refine(HD.out _).mono ?_;rintro e w7 ⟨rfl,kT⟩;have zw:=I8.out.below kT;have d3:=cA (zw.get 0 rfl) 2;have g3:=cZ (zw.get 0 rfl) 2;have QB:=hid (zw.turn 0 rfl (ai (zw.get 0 rfl) 2 (.string ds)));clear zw kT)
       |(go_at_call 164;refine(yX.out _).mono ?_;rintro e w8 ⟨rfl,rfl⟩))
      have d4:=cA (QB.out.get 0 rfl) 3;have g4:=cZ (QB.out.get 0 rfl) 3;have I12:=hid (QB.out.turn 0 rfl (ai (QB.out.get 0 rfl) 3 (.string val)))
      go_wp2_with (first
       |(go_at_call 316;refine(E5.out _).mono ?_;rintro e w8 ⟨rfl,rfl⟩)
       |(go_at_call 287;refine(HB.out _ _).mono ?_;rintro e w9 ⟨rfl,ny⟩;have I9:=I12.out.below ny;obtain⟨n0,p0,n1,p1,n2,p2,n3,p3,n4,p4,n5,p5,n6,p6,n7,p7,n8,p8,n9,p9,n10,bE⟩:=au (I9.get 1 rfl)))
      exact d_ (N:=N) rfl rfl rfl rfl HE.out I9.bel (Nat.le_of_eq HN.out) (I9.get 1 rfl)
open W2 (RS)
theorem BF{b t:ByteArray}{u:Nat}{w:World}(hb:b.size<=6000)(hg:1<=GB.ln b/\GB.ln b<=2048)(hE:Er w)(hM:GB.vG (GB.wd (GB.ws b) 0)=true)
 (hbad:GB.IP (GB.ws b) (b.extract (GB.ln b) b.size)=.bad t u):Calls prog 250 #[.string b] w (fI w (.bad t (GB.ln b+u))):=by
 obtain⟨M,FY⟩:∃M,min b.size 2048=M:=⟨_,rfl⟩;have hpre:=GB.rY FY.symm hg.1 hg.2;have hlt:=GB.eU b;have HL:=hid (λw'=>W2.gP (b.extract 0 M) w' (by simp;unfold maxLen;omega));unfold W2.dL at HL;rw[hpre.1,hpre.2,vS] at HL;obtain⟨n,hn⟩:∃n,GB.ln b=n:=⟨_,rfl⟩;have hnb:=GB.uq b;rw[hn] at HL hg hbad hnb⊢;have HS:=hid (λw'=>W2.kH (W2.aX b) w' (by omega));have B0:=aA w aH 33;have hb0:=bA w (.cells aH 33);obtain⟨N,hN⟩:∃N,w.heap.size=N:=⟨_,rfl⟩;obtain⟨W,hW⟩:∃W,w.alloc (.cells aH 33)=W:=⟨_,rfl⟩;rw[hW,hN] at B0;rw[hW] at hb0;simp only[aH] at hW;have hm:min (b.size:Int) 2048=M:=by omega
 have hm1:(0:Int)<=M:=by omega
 have hm2:(M:Int)<=b.size:=by omega
 have g1:¬(n:Int)=0:=by omega
 have X7:((n:Int) == 0)=false:=by simpa using g1
 have g2:(n:Int)<=b.size:=by omega
 have hwl:=GB.rX b;have hsz:∀i,(GB.wd (GB.ws b) i).size<=1000000:=GB.Cx (by omega);have hmem:∀x,x∈GB.ws b->1<=x.size:=λx hx=>(GB.AQ hx).1
 have lW:Hid (∀W',Calls prog 288 #[.string (W2.aX b)] W' λe w'=> ∃a cap,e=.returned (.slice a (GB.ws b).length cap)/\(GB.ws b).length<=cap/\RS w' (.slice a (GB.ws b).length cap) (GB.ws b)/\Below W'.heap.size W' w'):=hid (λW'=>(HS.out W').mono (λe w' h=>iL h));obtain⟨l,hl⟩:∃l,GB.ws b=l:=⟨_,rfl⟩;rw[hl] at lW hwl hsz hbad hM hmem;obtain⟨nm,l',rfl⟩:∃x y,l=x :: y:=by
  cases l with
  |nil=>cases hM
  |cons x y=>exact⟨x,y,rfl⟩
 rw[iE] at hM;obtain⟨j,hj⟩:∃j,l'.length=j:=⟨_,rfl⟩;rw[List.length_cons,hj] at lW hwl;obtain⟨T,hT⟩:∃T,W2.aX b=T:=⟨_,rfl⟩;rw[hT] at lW HL;have HM:=hid hM;have HH:=hid (And.intro hb (And.intro hg (And.intro hwl (And.intro hsz (And.intro hj (And.intro hE hmem))))));have HB:=hid (λt w'=>VF t 0 w');unfold cO at HB;have HK:=hid (λw'=>Qx hM w');unfold wM Bu at HK;have HB0:=hid B0;have HW:=hid hb0;have hx:nm=GB.zG/\j≠0/\t=GB.bg/\u=0\/nm≠GB.zG/\GB.read (nm :: l') (b.extract n b.size)=.bad t u:=by
  unfold GB.IP at hbad;rw[iE,List.length_cons,hj] at hbad;split at hbad
  ·rename_i h1;split at hbad
   ·cases hbad
   ·rename_i h2;cases hbad;exact .inl ⟨h1,by omega,rfl,rfl⟩
  ·rename_i h1;exact .inr ⟨h1,hbad⟩
 clear B0 hb0 HS hpre FY hlt hbad hwl hsz hE hl hT hb hg hM hmem;go_enter func250,ntmps250;go_wp2_with (go_at_call 246;refine(HL.out _).mono ?_;rintro e w1 ⟨rfl,m,rfl⟩)
 try rw[hW]
 obtain⟨Y,hY⟩:∃Y,W.drewN m=Y:=⟨_,rfl⟩;have HY:=hid (show Below w.heap.size w Y by rw[<-hY];exact bR HW.out.size HW.out (below_drewN' W m));have BY:=hid (show (aG N aH 33).R Y by rw[<-hY];exact ae HB0.out (below_drewN' W m));rw[hY];clear hY HL hW HW HB0 hm hm1 hm2;go_wp2_with (fail)
 go_at_call 288;refine(lW.out _).mono ?_;rintro e w2 ⟨a,cap,rfl,hc,hrs,hb2⟩;have jv:=hid (bR HY.out.size HY.out hb2);have HB1:=hid (ae BY.out hb2);obtain⟨bb,o,rfl,hws⟩:=Ws.of hrs (by omega);have hx0:=hws.2.2 0 (by omega);rw[iE,Nat.add_zero] at hx0;have LV:=hid hws;have i1:(0:Int)<(j:Int)+1:=by omega
 have i6:¬(j:Int)+1=0:=by omega
 clear hrs hws lW HY BY hb2;go_upto_region 10 with fail
 go_upto_region 11 with (go_at_call 289;refine(HK.out _).mono ?_;rintro e w3 ⟨dl,rfl,hb3⟩)
 have hbk:=hb3.alloc hb3.size (.cells (Bu (O9 nm) dl) 56);obtain⟨V,hV⟩:∃V,w3.alloc (.cells (Bu (O9 nm) dl) 56)=V:=⟨_,rfl⟩;rw[hV] at hbk;simp only[Bu] at hV;rw[hV];have hx1:=(hbk.cell (p:=⟨bb,o,none⟩) (aL hx0)).trans hx0;have HB2:=hid (ae HB1.out hbk);have Tz:=hid (bR jv.out.size jv.out hbk);have HWV:=hid (LV.out.below hbk);clear hV hb3 hbk hx0 HK HB1 jv LV;rcases hx with ⟨rfl,h0,rfl,rfl⟩|⟨hne,hbad⟩
 ·simp only[GB.zG] at hx1;have y1:¬(j:Int)+1=1:=by omega
  have y2:((j:Int)+1 == 1)=false:=by simp;omega
  have e1:(W2.P.mk (GB.allow GB.zG)).toList.isEmpty=true:=by rw[fJ];rfl
  have e2:((W2.P.mk (GB.allow GB.zG)).toList == [])=true:=by rw[show GB.allow GB.zG= [] from rfl,ByteArray.toList_eq];rfl
  go_wp2_with (go_at_call 287;refine(HB.out _ _).mono ?_;rintro e w4 ⟨rfl,hb4⟩;have B4:=ae HB2.out hb4;obtain⟨n0,p0,n1,p1,n2,p2,n3,p3,n4,p4,n5,p5,n6,p6,n7,p7,n8,p8,n9,p9,n10,bE⟩:=au B4)
  exact aY (N:=N) (t:=GB.bg) (u:=n+0) rfl rfl rfl rfl hN Tz.out hb4 B4 rfl
 ·have wH:=hid (FC (b:=bb) (o:=o) (n:=j) (cap:=cap) HWV.out hc (by have:=HH.out.2.2.1;have:=HH.out.1;omega) HM.out (λi=>HH.out.2.2.2.1 (i+1)) (λi hi=>HH.out.2.2.2.2.2.2 _ (List.mem_of_getElem? (i:=i+1) (by unfold GB.wd;rw[List.getElem?_cons_succ,List.getElem?_eq_getElem (by have:=HH.out.2.2.2.2.1;omega)];rfl))) (HH.out.2.2.2.2.2.1.below Tz.out) (by have:=HH.out.1;simp;omega) hbad);unfold MrP cO at wH;have hu:=GB.IY hbad;have huu:u<=6000:=Nat.le_trans hu (by have:=HH.out.1;simp;omega);have hsum:IntKind.i64.wrap ((n:Int)+(u:Int))=((n+u:Nat):Int):=by have:=HH.out.2.1;rw[IntKind.wrap_i64];omega
  obtain⟨fl,hfl⟩:∃fl,W2.P.mk (GB.allow nm)=fl:=⟨_,rfl⟩;have hfz:1<=fl.size:=by
   rw[<-hfl];rcases(GB.iI HM.out).resolve_left hne with rfl|rfl|rfl|rfl|rfl<;>decide
  have e1:=fJ fl;rw[decide_eq_false (show¬fl.size=0 by omega)] at e1;have e2:(fl.toList == [])=false:=by
   cases hh:fl.toList with
   |nil=>rw[hh] at e1;cases e1
   |cons y z=>rfl
  rw[hfl];clear hu hbad hne HM hfl hfz;go_upto_region 13 with (go_at_call 290;refine wH.out.mono ?_;rintro e w4 ⟨rfl,hb4⟩;have B4:=hid (ae (ae HB2.out hb4) (bA w4 (.cells #[.int .i64 2,.slice none 0 0,.bool false,.bool false,.string t,.string ⟨#[]⟩,.int .i64 0,.bool false,.string ⟨#[]⟩,.slice none 0 0,.string ⟨#[]⟩] 33)));have gF:=hid ((bR Tz.out.size Tz.out hb4).alloc (Nat.le_trans Tz.out.size hb4.size) (.cells #[.int .i64 2,.slice none 0 0,.bool false,.bool false,.string t,.string ⟨#[]⟩,.int .i64 0,.bool false,.string ⟨#[]⟩,.slice none 0 0,.string ⟨#[]⟩] 33));obtain⟨n0,p0,n1,p1,n2,p2,n3,p3,n4,p4,n5,p5,n6,p6,n7,p7,n8,p8,n9,p9,n10,bE⟩:=au B4.out;clear hb4)
  go_wp2_with (fail)
  exact aY (N:=N) (m:=(n:Int)+u) rfl rfl rfl (by omega) hN gF.out (Below.refl _ _) B4.out rfl
theorem TA{s:ByteArray}(h:s.size=2):GB.vG s=(decide (bt s 0=109) && decide (0<=Lib.indexByte [110,101,103,115,100,97] (bt s 1).toNat.toUInt8)):=by
 obtain⟨x,y,rfl⟩:=GB.RP h;rw[GB.N9,<-ou,show bt ⟨#[x,y]⟩ 0=x.toNat from W2.P.ru (b:=x) rfl,show bt ⟨#[x,y]⟩ 1=y.toNat from W2.P.ru (b:=y) rfl];congr 2
 ·rw[eq_iff_iff];constructor
  ·rintro rfl;rfl
  ·intro e;exact UInt8.toNat_inj.1 (by have h:UInt8.toNat 109=109:=rfl;omega)
 ·simp
theorem BG{b t:ByteArray}{u:Nat}{w:World}(hb:b.size<=6000)(hE:Er w)(hbad:GB.whole b=.bad t u):Calls prog 202 #[.string b] w (fI w (.bad t (GB.ln b+u))):=by
 have hg:1<=GB.ln b/\GB.ln b<=2048:=by
  refine Classical.byContradiction (λh=>?_);unfold GB.whole at hbad;rw[if_pos (by omega)] at hbad;cases hbad
 obtain⟨M,FY⟩:∃M,min b.size 2048=M:=⟨_,rfl⟩;have hpre:=GB.rY FY.symm hg.1 hg.2;have hlt:=GB.eU b;have HL:=hid (λw'=>W2.gP (b.extract 0 M) w' (by simp;unfold maxLen;omega));unfold W2.dL at HL;rw[hpre.1,hpre.2] at HL;obtain⟨T,hT⟩:∃T,W2.aX b=T:=⟨_,rfl⟩;have hfw:=GB.IV b;rw[hT] at HL hlt hfw;have Uo:=hid (λw'=>W2.fQ T w');obtain⟨S,hS⟩:∃S,W2.P.mk (Lib.trimLeftB (W2.P.sl T) 32)=S:=⟨_,rfl⟩;have hSz:S.size<=6000:=by
  rw[<-hS,W2.P.dP];have h1:=W2.P.rA (W2.P.sl T);rw[W2.P.bS] at h1;omega
 rw[hS] at Uo;have Uq:=hid (λw'=>W2.kF 32 S w' (by unfold maxLen;omega));obtain⟨x,hx⟩:∃x,GB.wd (GB.ws b) 0=x:=⟨_,rfl⟩;have hcv:∃r f,W2.cutV 32 S=.tuple #[.string x,.string r,.bool f]:=⟨_,_,by
  unfold W2.cutV;rw[<-hx,<-hfw,<-hS,W2.P.uh]⟩
 obtain⟨rr,ff,hcv⟩:=hcv;rw[hcv] at Uq;have EX:GB.vG x=true->∀w',Below w.heap.size w w'->Calls prog 250 #[.string b] w' (fI w' (.bad t (GB.ln b+u))):=λh w' hb'=>BF hb hg (hE.below hb') (by rw[hx];exact h) (by
  unfold GB.whole at hbad;rw[if_neg (by omega)] at hbad;split at hbad
  ·rename_i h1;rw[h1] at hx;rw[<-hx] at h;cases h
  ·rw[hx,if_pos h] at hbad;exact hbad)
 have Jy:GB.vG x=false->∀w',Below w.heap.size w w'->Calls prog 251 #[.string b] w' (fI w' (.bad t (GB.ln b+u))):=λh w' hb'=>Bz hb hg (hE.below hb') (by
  unfold GB.whole at hbad;rw[if_neg (by omega),hx,h] at hbad;exact hbad)
 have B0:=aA w aH 33;have hb0:=bA w (.cells aH 33);obtain⟨N,hN⟩:∃N,w.heap.size=N:=⟨_,rfl⟩;obtain⟨W,hW⟩:∃W,w.alloc (.cells aH 33)=W:=⟨_,rfl⟩;rw[hW,hN] at B0;rw[hW] at hb0;simp only[aH] at hW;have hm:min (b.size:Int) 2048=M:=by omega
 have hm1:(0:Int)<=M:=by omega
 have hm2:(M:Int)<=b.size:=by omega
 have HB0:=hid B0;have HW:=hid hb0;have H1:=hid EX;have H2:=hid Jy;have hbx:=get_bt x;have TB:=hid (λw'=>Tryz.strings_IndexByte ⟨#[110,101,103,115,100,97]⟩ (bt x 1) w');rw[show (⟨#[110,101,103,115,100,97]⟩:ByteArray).data.toList= [110,101,103,115,100,97] from rfl] at TB;obtain⟨p,hp⟩:∃p,Lib.indexByte [110,101,103,115,100,97] (bt x 1).toNat.toUInt8=p:=⟨_,rfl⟩;rw[hp] at TB;have HM:=hid (show x.size=2->GB.vG x=(decide (bt x 0=109) && decide (0<=p)) from λh=>by rw[<-hp];exact TA h);obtain⟨q,hq⟩:∃q,GB.ln b+u=q:=⟨_,rfl⟩;rw[hq] at H1 H2⊢;clear B0 hb0 EX Jy hpre FY hlt hbad hT hfw hS hSz hx hcv hE hp hb hg hq;go_enter func202,ntmps202
 go_upto_region 3 with (first
  |(go_at_call 246;refine(HL.out _).mono ?_;rintro e w1 ⟨rfl,m,rfl⟩)
  |(go_at_call 248;refine(Uo.out _).mono ?_;rintro e w1 ⟨rfl,rfl⟩)
  |(go_at_call 247;refine(Uq.out _).mono ?_;rintro e w1 ⟨rfl,m2,rfl⟩))
 try rw[hW]
 obtain⟨Y,hY⟩:∃Y,W.drewN (m+m2)=Y:=⟨_,rfl⟩;have TC:Below W.heap.size W Y:=by rw[<-hY];exact below_drewN' W _
 have HY:=hid (bR HW.out.size HW.out TC);have BY:=hid (ae HB0.out TC);rw[hY];clear hY TC HL Uo Uq hW HW HB0 hm hm1 hm2;by_cases h2:x.size=2
 ·have hM:=HM.out h2;have y1:(x.size:Int)=2:=by omega
  have y2:((x.size:Int) == 2)=true:=by simp;omega
  have y3:(0:Int)<x.size:=by omega
  have y4:(1:Int)<x.size:=by omega
  by_cases h3:bt x 0=109
  ·have z1:(bt x 0 == 109)=true:=by simp[h3]
   by_cases h4:0<=p
   ·have qB:=hid (H1.out (by rw[hM,decide_eq_true h3,decide_eq_true h4];rfl) Y HY.out);have z2:p>=0:=h4;unfold fI at qB;clear hM h3 H1 H2 HM h2;go_upto_region 4 with (go_at_call 249;refine(TB.out _).mono ?_;rintro e w1 ⟨rfl,rfl⟩)
    go_wp2_with (go_at_call 250;refine qB.out.mono ?_;rintro e w4 ⟨hb4,rfl⟩;have B4:=hid (ae BY.out hb4);have gF:=hid (bR HY.out.size HY.out hb4);unfold cO;obtain⟨n0,p0,n1,p1,n2,p2,n3,p3,n4,p4,n5,p5,n6,p6,n7,p7,n8,p8,n9,p9,n10,bE⟩:=au B4.out;clear hb4)
    exact aY (N:=N) rfl rfl rfl rfl hN gF.out (Below.refl _ _) B4.out rfl
   ·have qB:=hid (H2.out (by rw[hM,decide_eq_false h4,Bool.and_false]) Y HY.out);have z2:¬p>=0:=h4;unfold fI at qB;clear hM h3 H1 H2 HM h2;go_upto_region 5 with (go_at_call 249;refine(TB.out _).mono ?_;rintro e w1 ⟨rfl,rfl⟩)
    go_wp2_with (go_at_call 251;refine qB.out.mono ?_;rintro e w4 ⟨hb4,rfl⟩;have B4:=hid (ae BY.out hb4);have gF:=hid (bR HY.out.size HY.out hb4);unfold cO;obtain⟨n0,p0,n1,p1,n2,p2,n3,p3,n4,p4,n5,p5,n6,p6,n7,p7,n8,p8,n9,p9,n10,bE⟩:=au B4.out;clear hb4)
    exact aY (N:=N) rfl rfl rfl rfl hN gF.out (Below.refl _ _) B4.out rfl
  ·have z1:(bt x 0 == 109)=false:=by simp[h3]
   have qB:=hid (H2.out (by rw[hM,decide_eq_false h3,Bool.false_and]) Y HY.out);unfold fI at qB;clear hM h3 H1 H2 HM h2;go_wp2_with (go_at_call 251;refine qB.out.mono ?_;rintro e w4 ⟨hb4,rfl⟩;have B4:=hid (ae BY.out hb4);have gF:=hid (bR HY.out.size HY.out hb4);unfold cO;obtain⟨n0,p0,n1,p1,n2,p2,n3,p3,n4,p4,n5,p5,n6,p6,n7,p7,n8,p8,n9,p9,n10,bE⟩:=au B4.out;clear hb4)
   exact aY (N:=N) rfl rfl rfl rfl hN gF.out (Below.refl _ _) B4.out rfl
 ·have y1:¬(x.size:Int)=2:=by omega
  have y2:((x.size:Int) == 2)=false:=by simp;omega
  have qB:=hid (H2.out (GB.IW h2) Y HY.out);unfold fI at qB;clear H1 H2 HM h2;go_wp2_with (go_at_call 251;refine qB.out.mono ?_;rintro e w4 ⟨hb4,rfl⟩;have B4:=hid (ae BY.out hb4);have gF:=hid (bR HY.out.size HY.out hb4);unfold cO;obtain⟨n0,p0,n1,p1,n2,p2,n3,p3,n4,p4,n5,p5,n6,p6,n7,p7,n8,p8,n9,p9,n10,bE⟩:=au B4.out;clear hb4)
  exact aY (N:=N) rfl rfl rfl rfl hN gF.out (Below.refl _ _) B4.out rfl
end Go.Proofs.YtboehbfagnocpaaGreatDoor
