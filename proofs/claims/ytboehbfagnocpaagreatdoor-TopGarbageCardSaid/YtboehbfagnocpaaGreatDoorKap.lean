import Derived.Test.YtboehbfagnocpaaGreatDoorKam
import Derived.Test.YtboehbfagnocpaaGreatDoorKan
set_option linter.unusedVariables false
set_option linter.unusedSimpArgs false
set_option maxRecDepth 100000
set_option maxHeartbeats 40000000
open Go.Proofs.Tryz
open Go.Lib (hid)
namespace Go.Proofs.YtboehbfagnocpaaGreatDoor
open Go.RowKit Go.PlainAid Go.Shelf
theorem uI{nm t bh:ByteArray}{l:List ByteArray}{u k:Nat}(hk:k=if nm=GB.gB then 5 else 4)(h:GB.store (nm :: l) bh=.bad t u):
 ((bB l).length≠k/\t=GB.bg/\u=0)\/((bB l).length=k/\GB.num (GB.wd (bB l) 3)=none/\t=GB.bD/\u=0)\/
   (∃n,(bB l).length=k/\GB.num (GB.wd (bB l) 3)=some n/\1073741824<n/\t=GB.bD/\u=0)\/
   (∃n f,(bB l).length=k/\GB.num (GB.wd (bB l) 3)=some n/\n<=65536/\W2.aO (GB.wd (bB l) 0)=true/\GB.num (GB.wd (bB l) 1)=some f/\f<4294967296/\GB.sec (GB.wd (bB l) 2)=true/\(nm=GB.gB->(GB.num (GB.wd (bB l) 4)).isSome=true)/\n+2<=bh.size/\¬GB.crlf bh n/\t=GB.nR/\u=n+2):=by
 rw[show GB.store (nm :: l) bh=(if (bB l).length+1≠(if nm=GB.gB then 6 else 5) then GB.Rs.bad GB.bg 0 else match GB.num (GB.wd (bB l) 3) with
  |none=> .bad GB.bD 0
  |some n=>if 1073741824<n then .bad GB.bD 0 else if W2.aO (GB.wd (bB l) 0)=true/\(∃f,GB.num (GB.wd (bB l) 1)=some f/\f<4294967296)/\GB.sec (GB.wd (bB l) 2)=true/\(nm=GB.gB->(GB.num (GB.wd (bB l) 4)).isSome=true) then GB.chunk n bh else .other) by unfold GB.store;rw[j_];rfl] at h
 rw[show (if nm=GB.gB then 6 else 5)=k+1 by rw[hk];split<;>rfl] at h;split at h
 ·cases h;exact .inl ⟨by omega,rfl,rfl⟩
 ·rename_i h1;have h1':(bB l).length=k:=by omega
  cases hn:GB.num (GB.wd (bB l) 3) with
  |none=>rw[hn] at h;cases h;exact .inr (.inl ⟨h1',rfl,rfl,rfl⟩)
  |some n=>
   rw[hn] at h;simp only at h;split at h
   ·rename_i h2;cases h;exact .inr (.inr (.inl ⟨n,h1',rfl,h2,rfl,rfl⟩))
   ·split at h
    ·rename_i h3;obtain⟨h4,⟨f,h5,h6⟩,h7,h8⟩:=h3;unfold GB.chunk at h;split at h
     ·cases h
     ·split at h
      ·cases h
      ·split at h
       ·cases h
       ·rename_i g1 g2 g3;cases h;exact .inr (.inr (.inr ⟨n,f,h1',rfl,by omega,h4,h5,h6,h7,h8,by omega,g3,rfl,rfl⟩))
    ·cases h
def Ye(lb:Nat)(t:ByteArray)(u:Nat)(w:World)(e:Ending)(w':World):Prop:=(e=jE t\/e=.returned (.tuple #[cO t 0,.bool false]))/\jF lb u w w'
theorem Bv{w:World}{lb b o n cap:Nat}{nm bh:ByteArray}{a:Option Addr}{q:Bool}{l:List ByteArray}{t:ByteArray}{u:Nat}(h:pY w lb b o n cap nm bh a q l)(hnc:nm≠GB.gB)(hbad:GB.store (nm :: l) bh=.bad t u)(hbs:bh.size<=100000):
 Calls prog 319 #[.pointer (some ⟨lb,0,none⟩)] w (Ye lb t u w):=by
 have hx:=uI (k:=4) (by rw[if_neg hnc]) hbad;have b0:(nm.toList == [99,97,115])=false:=by
  rw[show [99,97,115]=GB.gB.toList by rw[ByteArray.toList_eq];rfl,a_,decide_eq_false hnc]
 have hb0:=bA w (.cells aH 33);have HO:=hid (Bo (h.below hb0));have I0:=(aJ.start h.ln).cells aH 33;obtain⟨N,hN⟩:∃N,w.heap.size=N:=⟨_,rfl⟩;obtain⟨W0,hW0⟩:∃W0,w.alloc (.cells aH 33)=W0:=⟨_,rfl⟩;obtain⟨l',hl'⟩:∃l',bB l=l':=⟨_,rfl⟩;obtain⟨m,hm0⟩:∃m,l'.length=m:=⟨_,rfl⟩;unfold Qw at HO;rw[hl',hm0] at HO hx;rw[hW0] at I0 HO hb0;rw[hN] at I0;have J0:=hid I0;have hT0:=hid ((ag.rfl' h.ln).below hb0);have Wz:=hid hbs;have EY:=hid hN;have HL:=hid (And.intro hl' hm0);clear I0 hb0 hbad h hbs hl' hm0;simp only[aH] at hW0;go_enter func319,ntmps319;go_wp2_with (fail)
 try rw[hW0]
 clear hW0;go_at_call 347;refine HO.out.mono ?_;rintro e w1 ⟨rfl,q1,h1,ht⟩;have c0:=cA h1.ln 0;have c1:=cA h1.ln 1;have J1:=hid (J0.out.turn 1 rfl ht);have HT1:=hid (hT0.out.trans ht);clear ht J0 hT0 HO;rcases hx with ⟨hm,rfl,rfl⟩|⟨rfl,hv,rfl,rfl⟩|⟨k,rfl,hv,hk,rfl,rfl⟩|⟨k,f,rfl,hv,hk,hkey,hf,hf2,KT,hcas,hbz,hcr,rfl,rfl⟩
 ·have HC:=hid (dA c1 4 4 (by omega));go_wp2_with (go_at_call 342;refine HC.out.mono ?_;rintro e w2 ⟨rfl,rfl⟩;unfold jE)
  exact⟨rfl,.inl rfl,jF.of HT1.out⟩
 ·obtain⟨rfl,hw,-⟩:=h1.ws (by omega);have x3:=hw.2.2 3 (by decide);have HC:=hid (bO c1 4 4 (by decide) (by decide));have HP:=hid (bK (GB.wd l' 3) w1 h1.er);rw[eG,hv] at HP
  go_wp2_with (first
   |(go_at_call 342;refine HC.out.mono ?_;rintro e w2 ⟨rfl,rfl⟩)
   |(go_at_call 173;refine HP.out.mono ?_;rintro e w2 ⟨rfl,hb2⟩)
   |(go_at_call 344;refine(dF _ _).mono ?_;rintro e w3 ⟨rfl,rfl⟩;unfold jE))
  exact⟨rfl,.inl rfl,jF.of (HT1.out.below hb2)⟩
 ·obtain⟨rfl,hw,-⟩:=h1.ws (by omega);have x3:=hw.2.2 3 (by decide);have HC:=hid (bO c1 4 4 (by decide) (by decide));have HP:=hid (bK (GB.wd l' 3) w1 h1.er);rw[eG,hv] at HP;simp only[Option.getD_some,Option.isSome_some] at HP;obtain⟨v,hvv⟩:∃v:Int,(k:Int)=v:=⟨_,rfl⟩;rw[hvv] at HP;have k1:¬v<=1073741824:=by omega
  clear hv hk hvv
  go_wp2_with (first
   |(go_at_call 342;refine HC.out.mono ?_;rintro e w2 ⟨rfl,rfl⟩)
   |(go_at_call 173;refine HP.out.mono ?_;rintro e w2 ⟨rfl,hb2⟩)
   |(go_at_call 344;rw[decide_eq_false (show¬v<=1073741824 by omega)];with_reducible refine(dF _ _).mono ?_;rintro e w3 ⟨rfl,rfl⟩;unfold jE))
  exact⟨rfl,.inl rfl,jF.of (HT1.out.below hb2)⟩
 ·obtain⟨rfl,hw,aao⟩:=h1.ws (by omega);obtain⟨key,hkk⟩:∃key,GB.wd l' 0=key:=⟨_,rfl⟩;have Wd:=hid (show key.size<=1000000 by rw[<-hkk];exact h1.sz 0);have yX:=hid (show W2.aO key=true by rw[<-hkk];exact hkey);have x3:=hw.2.2 3 (by decide);have HC:=hid (bO c1 4 4 (by decide) (by decide));have HP:=hid (bK (GB.wd l' 3) w1 h1.er);have Pk:=hid (λw' (he:Er w')=>bK (GB.wd l' 1) w' he);have F9:=hid (λw' (he:Er w')=>mP (GB.wd l' 2) w' (h1.sz 2) he);unfold pQ at F9;rw[eG,hv] at HP;rw[eG,hf] at Pk;rw[show sc (GB.wd l' 2).data.toList=true from KT] at F9;simp only[Option.getD_some,Option.isSome_some] at HP Pk;obtain⟨u,hu⟩:∃u:Int,(k:Int)=u:=⟨_,rfl⟩;obtain⟨v,hvv⟩:∃v:Int,(f:Int)=v:=⟨_,rfl⟩;rw[hu] at HP;rw[hvv] at Pk;have k1:u<=1073741824:=by omega
  have HU:=hid (And.intro hu (And.intro hvv (And.intro hk (And.intro hf2 (And.intro hbz hcr)))));have WA:=hid h1;clear hv hk hkey hf hf2 KT hcas hbz hcr hu hvv hw h1;go_wp2_with (go_at_call 342;refine HC.out.mono ?_;rintro e w2 ⟨rfl,rfl⟩)
  go_at_call 173;refine HP.out.mono ?_;rintro e w2 ⟨rfl,hb2⟩;have H2:=hid (WA.out.below hb2);have J2:=hid (J1.out.below hb2);have HT2:=hid (HT1.out.below hb2);have b1:=cA H2.out.ln 1;have x1:=(H2.out.ws (by decide)).2.1.2.2 1 (by decide);clear hb2 x3 c1 HC HP HT1 J1 WA;go_wp2_with (go_at_call 344;(try rw[decide_eq_true k1]);with_reducible refine(fO _ _).mono ?_;rintro e w1 ⟨rfl,rfl⟩)
  go_at_call 173;refine(Pk.out _ H2.out.er).mono ?_;rintro e w3 ⟨rfl,hb3⟩;have H3:=hid (H2.out.below hb3);have J3:=hid (J2.out.below hb3);have HT3:=hid (HT2.out.below hb3);clear b1 x1 hb3 J2 HT2 H2;have b1:=cA H3.out.ln 1;have x1:=(H3.out.ws (by decide)).2.1.2.2 2 (by decide);go_wp2_with (fail)
  go_at_call 348;refine(F9.out _ H3.out.er).mono ?_;rintro e w4 ⟨x,rfl,hb4⟩;have H4:=hid (H3.out.below hb4);have J4:=hid (J3.out.below hb4);have WB:=hid (HT3.out.below hb4);clear b1 x1 hb4 J3 HT3 H3;go_wp2_with (fail)
  have HQ:Hid (∀w',Below w4.heap.size w4 w'->w'.cell? ⟨lb,0,none⟩=some (.string nm)/\w'.cell? ⟨lb,1,none⟩=some (.slice (some ⟨b,o,none⟩) 4 cap)/\w'.cell? ⟨b,o,none⟩=some (.string key)):=
   hid (λw' hb=>⟨cA (H4.out.below hb).ln 0,cA (H4.out.below hb).ln 1,by rw[<-hkk];exact((H4.out.below hb).ws (by decide)).2.1.2.2 0 (by decide)⟩)
  obtain⟨q0,q1',qk⟩:=HQ.out w4 (Below.refl _ _);obtain⟨i0,hi0⟩:∃i0,Lib.idxOfS V_ nm=i0:=⟨_,rfl⟩
  have HI0:∀(V W':World),Below (V.heap.size+1) (V.alloc (.cells #[.string ⟨#[115,101,116]⟩,.string ⟨#[97,100,100]⟩,.string ⟨#[114,101,112,108,97,99,101]⟩,.string ⟨#[97,112,112,101,110,100]⟩,.string ⟨#[112,114,101,112,101,110,100]⟩] 9)) W'->Calls prog 349 #[.slice (some ⟨V.heap.size,0,none⟩) 5 5,.string nm] W' λe w'=>e=.returned (.int .i64 i0)/\w'=W':=
   (λV W' hb=>by
     have hm:=(Made.cells V #[.string ⟨#[115,101,116]⟩,.string ⟨#[97,100,100]⟩,.string ⟨#[114,101,112,108,97,99,101]⟩,.string ⟨#[97,112,112,101,110,100]⟩,.string ⟨#[112,114,101,112,101,110,100]⟩] 9).below (by simpa using hb);have:=oo nm hm.here;rw[hi0] at this;exact this)
  have Qp:=hid (HI0 w4 _ (Below.refl _ _).drew);have Kj:=hid (λo:Obj=>HI0 (w4.alloc o) _ (Below.refl _ _).drew);have Qq:=hid (λo:Obj=>HI0 w4 _ ((Below.refl _ _).alloc (by simp) o).drew);simp only[World.size_alloc] at Kj;have HM:=hid (λW:World=>nO W);clear HI0 hi0;go_upto_region 10 with fail
  go_cut [11] from 63 to 80 (λs11 wx=> ∃cb md,s11=.pointer (some ⟨cb,0,none⟩)/\Hid (Made (aG cb #[.int .i64 2,.int .i64 md,.string key,.string ⟨#[]⟩,.int .u32 (IntKind.u32.wrap v),.int .i64 x,.bool false,.int .u64 0,.bool false,.int .u64 0,.int .u64 0,.bool false,.bool false,.int .i64 0,.int .i64 0,.bool false] 56) w4 wx))
  case first=>
   go_region_held3 (λw'=>w'.cell? ⟨lb,0,none⟩=some (.string nm)/\w'.cell? ⟨lb,1,none⟩=some (.slice (some ⟨b,o,none⟩) 4 cap)/\w'.cell? ⟨b,o,none⟩=some (.string key)) (first|exact HQ.out _ (by go_grown)) (first
    |(go_at_call 350;refine(HM.out _).mono ?_;rintro e w5 ⟨rfl,rfl⟩)
    |(go_at_call 349;(first|(with_reducible refine Qp.out.mono ?_)|(with_reducible refine(Kj.out _).mono ?_)|(with_reducible refine(Qq.out _).mono ?_));rintro e w6 ⟨rfl,rfl⟩))
   all_goals (go_wp2_with fail)
   all_goals go_meet
   all_goals first
    |exact⟨_,_,rfl,hid (Made.cells w4 _ _).drew⟩
    |exact⟨_,_,rfl,hid ((Made.cells w4 _ _).below (by go_grown))⟩
    |(have hm:∀o vs,Made (aG (w4.heap.size+1) vs 56) w4 ((w4.alloc o).alloc (.cells vs 56)).drew:=λo vs=>by
       have hb:=bA w4 o;have m:=(Made.cells (w4.alloc o) vs 56).drew;rw[World.size_alloc] at m;exact⟨m.here,hb.trans (m.bel.mono hb.size),λb h=>Nat.le_trans hb.size (m.lo b h)⟩
      exact⟨_,_,rfl,hid (hm _ _)⟩)
    |(have hm:=λo vs=>((Made.cells w4 vs 56).below (bA _ o)).drew;exact⟨_,_,rfl,hid (hm _ _)⟩)
    |fail
  case rest=>
  obtain⟨cb,md,rfl,hcut⟩:=hcut;clear Qp Kj Qq HM HQ q0 q1' qk;have H6:=hid (H4.out.below hcut.out.bel);have J6:=hid (J4.out.made hcut.out);have HT6:=hid (WB.out.below hcut.out.bel);clear H4 J4 WB hcut;obtain⟨hu,hvv,hk,hf2,hbz,hcr⟩:=HU.out;have hu0:0<=u:=by omega
  have hv0:0<=v:=by omega
  have e1:IntKind.u32.wrap v=v:=by rw[IntKind.wrap_u32];omega
  have e2:IntKind.i64.wrap u=u:=by rw[IntKind.wrap_i64];omega
  have e3:IntKind.i64.wrap (u+2)=u+2:=by rw[IntKind.wrap_i64];omega
  have g1:¬v > 4294967295:=by omega
  have g2:¬u > 65536:=by omega
  have g3:¬(bh.size:Int)<u+2:=by omega
  have y2:=cA H6.out.ln 2;have y3:=cA H6.out.ln 3;have yf:=cZ H6.out.ln 3;have z2:wc.cell? ⟨cb,2,none⟩=some (.string key):=cA (J6.out.get 0 rfl) 2;have hne:¬cb=lb:=λe=>J6.out.apart (i:=0) (j:=2) rfl rfl (by decide) cb rfl e
  have hne2:¬lb=cb:=λe=>hne e.symm
  have hNl:¬N=lb:=λe=>J6.out.apart (i:=1) (j:=2) rfl rfl (by decide) N rfl e
  have HK:=hid (λw'=>W2.dI key w' (by have:=Wd.out;unfold maxLen;omega));rw[yX.out] at HK;have E5:=hid (λw'=>Tryz.strings_CutSuffix (bh.extract 0 (u+2).toNat) ⟨#[13,10]⟩ w' (by have:=Wz.out;simp;omega));have e5:Lib.hasSuffix (bh.extract 0 (u+2).toNat).data.toList [13,10]=false:=by rw[show (u+2).toNat=k+2 by omega];exact GB.rZ hbz hcr
  rw[show (⟨#[13,10]⟩:ByteArray).data.toList= [13,10] from rfl,e5] at E5;have HB:=hid NZ;unfold cO at HB;have HE:=hid (show ((k+2:Nat):Int)=u+2 by omega);clear hu hvv hk hf2 hbz hcr HU e5;have J7:=hid (J6.out.turn 2 rfl (ai (J6.out.get 2 rfl) 3 (.int .i64 (u+2))));have WC:=hid (HT6.out.set 3 (.int .i64 (u+2)))
  go_wp2_with (first
   |(go_at_call 164;refine(HK.out _).mono ?_;rintro e w6 ⟨rfl,rfl⟩)
   |(go_at_call 316;refine(E5.out _).mono ?_;rintro e w6 ⟨rfl,rfl⟩)
   |(go_at_call 291;refine(HB.out _ _).mono ?_;rintro e w7 ⟨rfl,kT⟩
     have B7:=(J7.out.below kT).get 1 rfl;have HT8:=hid (WC.out.below kT);obtain⟨n0,p0,n1,p1,n2,p2,n3,p3,n4,p4,n5,p5,n6,p6,n7,p7,n8,p8,n9,p9,n10,bE⟩:=au B7;have FR:=hid B7;clear kT B7))
  have s1:=jd FR.out GB.nR 0;have hs:=aK N 33 (jI GB.nR 0) 0 aH _ FR.out;refine bX (N:=N) (vm:=.bool false) rfl rfl rfl s1.1 ⟨.inr rfl,?_⟩;rw[HE.out];exact jF.of (HT8.out.fresh hs.bL (λb hb=>by have e:b=N:=hb;rw[e];exact⟨Nat.le_of_eq EY.out,hNl⟩))
theorem Bw{w:World}{lb b o n cap:Nat}{bh:ByteArray}{a:Option Addr}{q:Bool}{l:List ByteArray}{t:ByteArray}{u:Nat}(h:pY w lb b o n cap ⟨#[99,97,115]⟩ bh a q l)(hbad:GB.store (GB.gB :: l) bh=.bad t u)(hbs:bh.size<=100000):
 Calls prog 319 #[.pointer (some ⟨lb,0,none⟩)] w (Ye lb t u w):=by
 have hx:=uI (k:=5) (by rfl) hbad;have hb0:=bA w (.cells aH 33);have HO:=hid (Bo (h.below hb0));have I0:=(aJ.start h.ln).cells aH 33;obtain⟨N,hN⟩:∃N,w.heap.size=N:=⟨_,rfl⟩;obtain⟨W0,hW0⟩:∃W0,w.alloc (.cells aH 33)=W0:=⟨_,rfl⟩;obtain⟨l',hl'⟩:∃l',bB l=l':=⟨_,rfl⟩;obtain⟨m,hm0⟩:∃m,l'.length=m:=⟨_,rfl⟩;unfold Qw at HO;rw[hl',hm0] at HO hx;rw[hW0] at I0 HO hb0;rw[hN] at I0;have J0:=hid I0;have hT0:=hid ((ag.rfl' h.ln).below hb0);have Wz:=hid hbs;have EY:=hid hN;have HL:=hid (And.intro hl' hm0);clear I0 hb0 hbad h hbs hl' hm0;simp only[aH] at hW0;go_enter func319,ntmps319;go_wp2_with (fail)
 try rw[hW0]
 clear hW0;go_at_call 347;refine HO.out.mono ?_;rintro e w1 ⟨rfl,q1,h1,ht⟩;have c0:=cA h1.ln 0;have c1:=cA h1.ln 1;have J1:=hid (J0.out.turn 1 rfl ht);have HT1:=hid (hT0.out.trans ht);clear ht J0 hT0 HO;rcases hx with ⟨hm,rfl,rfl⟩|⟨rfl,hv,rfl,rfl⟩|⟨k,rfl,hv,hk,rfl,rfl⟩|⟨k,f,rfl,hv,hk,hkey,hf,hf2,KT,hcas,hbz,hcr,rfl,rfl⟩
 ·have HC:=hid (dA c1 5 5 (by omega));go_wp2_with (go_at_call 342;refine HC.out.mono ?_;rintro e w2 ⟨rfl,rfl⟩;unfold jE)
  exact⟨rfl,.inl rfl,jF.of HT1.out⟩
 ·obtain⟨rfl,hw,-⟩:=h1.ws (by omega);have x3:=hw.2.2 3 (by decide);have HC:=hid (bO c1 5 5 (by decide) (by decide));have HP:=hid (bK (GB.wd l' 3) w1 h1.er);rw[eG,hv] at HP
  go_wp2_with (first
   |(go_at_call 342;refine HC.out.mono ?_;rintro e w2 ⟨rfl,rfl⟩)
   |(go_at_call 173;refine HP.out.mono ?_;rintro e w2 ⟨rfl,hb2⟩)
   |(go_at_call 344;refine(dF _ _).mono ?_;rintro e w3 ⟨rfl,rfl⟩;unfold jE))
  exact⟨rfl,.inl rfl,jF.of (HT1.out.below hb2)⟩
 ·obtain⟨rfl,hw,-⟩:=h1.ws (by omega);have x3:=hw.2.2 3 (by decide);have HC:=hid (bO c1 5 5 (by decide) (by decide));have HP:=hid (bK (GB.wd l' 3) w1 h1.er);rw[eG,hv] at HP;simp only[Option.getD_some,Option.isSome_some] at HP;obtain⟨v,hvv⟩:∃v:Int,(k:Int)=v:=⟨_,rfl⟩;rw[hvv] at HP;have k1:¬v<=1073741824:=by omega
  clear hv hk hvv
  go_wp2_with (first
   |(go_at_call 342;refine HC.out.mono ?_;rintro e w2 ⟨rfl,rfl⟩)
   |(go_at_call 173;refine HP.out.mono ?_;rintro e w2 ⟨rfl,hb2⟩)
   |(go_at_call 344;rw[decide_eq_false (show¬v<=1073741824 by omega)];with_reducible refine(dF _ _).mono ?_;rintro e w3 ⟨rfl,rfl⟩;unfold jE))
  exact⟨rfl,.inl rfl,jF.of (HT1.out.below hb2)⟩
 ·obtain⟨rfl,hw,aao⟩:=h1.ws (by omega);obtain⟨key,hkk⟩:∃key,GB.wd l' 0=key:=⟨_,rfl⟩;have Wd:=hid (show key.size<=1000000 by rw[<-hkk];exact h1.sz 0);have yX:=hid (show W2.aO key=true by rw[<-hkk];exact hkey);have x3:=hw.2.2 3 (by decide);have HC:=hid (bO c1 5 5 (by decide) (by decide));have HP:=hid (bK (GB.wd l' 3) w1 h1.er);have Pk:=hid (λw' (he:Er w')=>bK (GB.wd l' 1) w' he);have F9:=hid (λw' (he:Er w')=>mP (GB.wd l' 2) w' (h1.sz 2) he);unfold pQ at F9;rw[eG,hv] at HP;rw[eG,hf] at Pk;rw[show sc (GB.wd l' 2).data.toList=true from KT] at F9;simp only[Option.getD_some,Option.isSome_some] at HP Pk;obtain⟨u,hu⟩:∃u:Int,(k:Int)=u:=⟨_,rfl⟩;obtain⟨v,hvv⟩:∃v:Int,(f:Int)=v:=⟨_,rfl⟩;rw[hu] at HP;rw[hvv] at Pk;have k1:u<=1073741824:=by omega
  have HU:=hid (And.intro hu (And.intro hvv (And.intro hk (And.intro hf2 (And.intro hbz hcr)))));have Yf:=hid (λw' (he:Er w')=>bK (GB.wd l' 4) w' he);obtain⟨tk,htk⟩:∃tk,GB.num (GB.wd l' 4)=some tk:=Option.isSome_iff_exists.1 (hcas (by first|rfl|trivial));rw[eG,htk] at Yf;simp only[Option.getD_some,Option.isSome_some] at Yf;obtain⟨tv,htv⟩:∃tv:Int,(tk:Int)=tv:=⟨_,rfl⟩;rw[htv] at Yf;clear htk htv;have WA:=hid h1;clear hv hk hkey hf hf2 KT hcas hbz hcr hu hvv hw h1;go_wp2_with (go_at_call 342;refine HC.out.mono ?_;rintro e w2 ⟨rfl,rfl⟩)
  go_at_call 173;refine HP.out.mono ?_;rintro e w2 ⟨rfl,hb2⟩;have H2:=hid (WA.out.below hb2);have J2:=hid (J1.out.below hb2);have HT2:=hid (HT1.out.below hb2);have b1:=cA H2.out.ln 1;have x1:=(H2.out.ws (by decide)).2.1.2.2 1 (by decide);clear hb2 x3 c1 HC HP HT1 J1 WA;go_wp2_with (go_at_call 344;(try rw[decide_eq_true k1]);with_reducible refine(fO _ _).mono ?_;rintro e w1 ⟨rfl,rfl⟩)
  go_at_call 173;refine(Pk.out _ H2.out.er).mono ?_;rintro e w3 ⟨rfl,hb3⟩;have H3:=hid (H2.out.below hb3);have J3:=hid (J2.out.below hb3);have HT3:=hid (HT2.out.below hb3);clear b1 x1 hb3 J2 HT2 H2;have b1:=cA H3.out.ln 1;have x1:=(H3.out.ws (by decide)).2.1.2.2 2 (by decide);go_wp2_with (fail)
  go_at_call 348;refine(F9.out _ H3.out.er).mono ?_;rintro e w4 ⟨x,rfl,hb4⟩;have H4:=hid (H3.out.below hb4);have J4:=hid (J3.out.below hb4);have WB:=hid (HT3.out.below hb4);clear b1 x1 hb4 J3 HT3 H3;go_wp2_with (fail)
  have HQ:Hid (∀w',Below w4.heap.size w4 w'->w'.cell? ⟨lb,0,none⟩=some (.string ⟨#[99,97,115]⟩)/\w'.cell? ⟨lb,1,none⟩=some (.slice (some ⟨b,o,none⟩) 5 cap)/\w'.cell? ⟨b,o,none⟩=some (.string key)):=
   hid (λw' hb=>⟨cA (H4.out.below hb).ln 0,cA (H4.out.below hb).ln 1,by rw[<-hkk];exact((H4.out.below hb).ws (by decide)).2.1.2.2 0 (by decide)⟩)
  obtain⟨q0,q1',qk⟩:=HQ.out w4 (Below.refl _ _);obtain⟨i0,hi0⟩:∃i0,Lib.idxOfS V_ ⟨#[99,97,115]⟩=i0:=⟨_,rfl⟩
  have HI0:∀(V W':World),Below (V.heap.size+1) (V.alloc (.cells #[.string ⟨#[115,101,116]⟩,.string ⟨#[97,100,100]⟩,.string ⟨#[114,101,112,108,97,99,101]⟩,.string ⟨#[97,112,112,101,110,100]⟩,.string ⟨#[112,114,101,112,101,110,100]⟩] 9)) W'->Calls prog 349 #[.slice (some ⟨V.heap.size,0,none⟩) 5 5,.string ⟨#[99,97,115]⟩] W' λe w'=>e=.returned (.int .i64 i0)/\w'=W':=
   (λV W' hb=>by
     have hm:=(Made.cells V #[.string ⟨#[115,101,116]⟩,.string ⟨#[97,100,100]⟩,.string ⟨#[114,101,112,108,97,99,101]⟩,.string ⟨#[97,112,112,101,110,100]⟩,.string ⟨#[112,114,101,112,101,110,100]⟩] 9).below (by simpa using hb);have:=oo ⟨#[99,97,115]⟩ hm.here;rw[hi0] at this;exact this)
  have Qp:=hid (HI0 w4 _ (Below.refl _ _).drew);have Kj:=hid (λo:Obj=>HI0 (w4.alloc o) _ (Below.refl _ _).drew);have Qq:=hid (λo:Obj=>HI0 w4 _ ((Below.refl _ _).alloc (by simp) o).drew);simp only[World.size_alloc] at Kj;have HM:=hid (λW:World=>nO W);clear HI0 hi0;go_upto_region 10 with fail
  go_cut [11] from 63 to 80 (λs11 wx=> ∃cb md,s11=.pointer (some ⟨cb,0,none⟩)/\Hid (Made (aG cb #[.int .i64 2,.int .i64 md,.string key,.string ⟨#[]⟩,.int .u32 (IntKind.u32.wrap v),.int .i64 x,.bool false,.int .u64 0,.bool true,.int .u64 0,.int .u64 0,.bool false,.bool false,.int .i64 0,.int .i64 0,.bool false] 56) w4 wx))
  case first=>
   go_region_held3 (λw'=>w'.cell? ⟨lb,0,none⟩=some (.string ⟨#[99,97,115]⟩)/\w'.cell? ⟨lb,1,none⟩=some (.slice (some ⟨b,o,none⟩) 5 cap)/\w'.cell? ⟨b,o,none⟩=some (.string key)) (first|exact HQ.out _ (by go_grown)) (first
    |(go_at_call 350;refine(HM.out _).mono ?_;rintro e w5 ⟨rfl,rfl⟩)
    |(go_at_call 349;(first|(with_reducible refine Qp.out.mono ?_)|(with_reducible refine(Kj.out _).mono ?_)|(with_reducible refine(Qq.out _).mono ?_));rintro e w6 ⟨rfl,rfl⟩))
   all_goals (go_wp2_with fail)
   all_goals go_meet
   all_goals first
    |exact⟨_,_,rfl,hid (Made.cells w4 _ _).drew⟩
    |exact⟨_,_,rfl,hid ((Made.cells w4 _ _).below (by go_grown))⟩
    |(have hm:∀o vs,Made (aG (w4.heap.size+1) vs 56) w4 ((w4.alloc o).alloc (.cells vs 56)).drew:=λo vs=>by
       have hb:=bA w4 o;have m:=(Made.cells (w4.alloc o) vs 56).drew;rw[World.size_alloc] at m;exact⟨m.here,hb.trans (m.bel.mono hb.size),λb h=>Nat.le_trans hb.size (m.lo b h)⟩
      exact⟨_,_,rfl,hid (hm _ _)⟩)
    |(have hm:=λo vs=>((Made.cells w4 vs 56).below (bA _ o)).drew;exact⟨_,_,rfl,hid (hm _ _)⟩)
    |fail
  case rest=>
  obtain⟨cb,md,rfl,hcut⟩:=hcut;clear Qp Kj Qq HM HQ q0 q1' qk;have H5:=hid (H4.out.below hcut.out.bel);have J5:=hid (J4.out.made hcut.out);have HT5:=hid (WB.out.below hcut.out.bel);have b1:=cA H5.out.ln 1;have x1:=(H5.out.ws (by decide)).2.1.2.2 4 (by decide);go_wp2_with (fail)
  go_at_call 173;refine(Yf.out _ H5.out.er).mono ?_;rintro e wd ⟨rfl,hbd⟩;have H6:=hid (H5.out.below hbd);have J6:=hid (J5.out.below hbd);have HT6:=hid (HT5.out.below hbd);clear b1 x1 hbd H5 J5 HT5 H4 J4 WB hcut;obtain⟨hu,hvv,hk,hf2,hbz,hcr⟩:=HU.out;have hu0:0<=u:=by omega
  have hv0:0<=v:=by omega
  have e1:IntKind.u32.wrap v=v:=by rw[IntKind.wrap_u32];omega
  have e2:IntKind.i64.wrap u=u:=by rw[IntKind.wrap_i64];omega
  have e3:IntKind.i64.wrap (u+2)=u+2:=by rw[IntKind.wrap_i64];omega
  have g1:¬v > 4294967295:=by omega
  have g2:¬u > 65536:=by omega
  have g3:¬(bh.size:Int)<u+2:=by omega
  have y2:=cA H6.out.ln 2;have y3:=cA H6.out.ln 3;have yf:=cZ H6.out.ln 3;have z2:wd.cell? ⟨cb,2,none⟩=some (.string key):=cA (J6.out.get 0 rfl) 2;have z7:=cA (J6.out.get 0 rfl) 7;have zf7:=cZ (J6.out.get 0 rfl) 7;have hne:¬cb=lb:=λe=>J6.out.apart (i:=0) (j:=2) rfl rfl (by decide) cb rfl e
  have hne2:¬lb=cb:=λe=>hne e.symm
  have hNl:¬N=lb:=λe=>J6.out.apart (i:=1) (j:=2) rfl rfl (by decide) N rfl e
  have HK:=hid (λw'=>W2.dI key w' (by have:=Wd.out;unfold maxLen;omega));rw[yX.out] at HK;have E5:=hid (λw'=>Tryz.strings_CutSuffix (bh.extract 0 (u+2).toNat) ⟨#[13,10]⟩ w' (by have:=Wz.out;simp;omega));have e5:Lib.hasSuffix (bh.extract 0 (u+2).toNat).data.toList [13,10]=false:=by rw[show (u+2).toNat=k+2 by omega];exact GB.rZ hbz hcr
  rw[show (⟨#[13,10]⟩:ByteArray).data.toList= [13,10] from rfl,e5] at E5;have HB:=hid NZ;unfold cO at HB;have HE:=hid (show ((k+2:Nat):Int)=u+2 by omega);clear hu hvv hk hf2 hbz hcr HU e5;have J7:=hid ((J6.out.turn 0 rfl (ai (J6.out.get 0 rfl) 7 (.int .u64 tv))).turn 2 rfl (ai ((J6.out.turn 0 rfl (ai (J6.out.get 0 rfl) 7 (.int .u64 tv))).get 2 rfl) 3 (.int .i64 (u+2))));have WC:=hid ((HT6.out.fresh (ai (J6.out.get 0 rfl) 7 (.int .u64 tv)).bL (λb hb=>by have e:b=cb:=hb;rw[e];exact⟨(J6.out.lo _ (.head _) cb rfl).elim (λh=>absurd h hne) id,hne⟩)).set 3 (.int .i64 (u+2)))
  go_wp2_with (first
   |(go_at_call 164;refine(HK.out _).mono ?_;rintro e w6 ⟨rfl,rfl⟩)
   |(go_at_call 316;refine(E5.out _).mono ?_;rintro e w6 ⟨rfl,rfl⟩)
   |(go_at_call 291;refine(HB.out _ _).mono ?_;rintro e w7 ⟨rfl,kT⟩
     have B7:=(J7.out.below kT).get 1 rfl;have HT8:=hid (WC.out.below kT);obtain⟨n0,p0,n1,p1,n2,p2,n3,p3,n4,p4,n5,p5,n6,p6,n7,p7,n8,p8,n9,p9,n10,bE⟩:=au B7;have FR:=hid B7;clear kT B7))
  have s1:=jd FR.out GB.nR 0;have hs:=aK N 33 (jI GB.nR 0) 0 aH _ FR.out;refine bX (N:=N) (vm:=.bool false) rfl rfl rfl s1.1 ⟨.inr rfl,?_⟩;rw[HE.out];exact jF.of (HT8.out.fresh hs.bL (λb hb=>by have e:b=N:=hb;rw[e];exact⟨Nat.le_of_eq EY.out,hNl⟩))
theorem oC{R:Ending->World->Prop}{tmps:Array Value}{W:World}{rb mb:Nat}{t:ByteArray}(hk:tmps.getD 2 undef=.pointer (some ⟨rb,0,none⟩))(hm:tmps.getD 3 undef=.pointer (some ⟨mb,0,none⟩))
 (hb:(aG rb aH 33).R W) (hc:(aG mb #[.bool false] 4).R W) (hne:¬rb=mb) (hR:∀w',aP (λb=>b=rb\/b=mb) W w'->R (.returned (.tuple #[cO t 0,.bool false])) w'):
 bodyPostD prog f292 R (.panic [Fs t]) {tmps:=tmps,defers:=[{target:=.fn (.func 317) #[.pointer (some ⟨rb,0,none⟩),.pointer (some ⟨mb,0,none⟩)],args:=#[]}]} W:=by
 have h2':tmps[2]?.getD undef=.pointer (some ⟨rb,0,none⟩):=by simpa using hk
 have h3':tmps[3]?.getD undef=.pointer (some ⟨mb,0,none⟩):=by simpa using hm
 refine leaves_cons (f:=317) (args:=#[.pointer (some ⟨rb,0,none⟩),.pointer (some ⟨mb,0,none⟩)]) (by simp) (by simp[go_sem]) ?_;refine(Fu hb hc hne).mono ?_;rintro e u' w'' ⟨rfl,rfl,w1,hb1,hw⟩;have s1:=jd (ae hb hb1) t 0;have hs:=aK rb 33 (jI t 0) 0 aH w1 (ae hb hb1);have M2:=(aG mb #[.bool false] 4).keep (ae hc hb1) hs.bL (λb h1 h2=>hne (Eq.trans (Eq.symm h2) h1));have s2:=ai M2 0 (.bool false);have B3:=(aG rb #[.int .i64 2,.slice none 0 0,.bool false,.bool false,.string t,.string ⟨#[]⟩,.int .i64 0,.bool false,.string ⟨#[]⟩,.slice none 0 0,.string ⟨#[]⟩] 33).keep s1.1 s2.bL (λb h1 h2=>hne (Eq.trans (Eq.symm h1) h2));have hT:aP (λb=>b=rb\/b=mb) W w'':=by
  rw[hw];exact(aP.of_below _ hb1).trans ((hs.bL.mono (λi h=>Or.inl h)).trans (s2.bL.mono (λi h=>Or.inr h)) (λi h=> .inl h)) (λi h=> .inl h)
 have m0:=cA s2.here 0;rw[<-hw] at B3 m0;have m1:w''.cell? ⟨mb,0,none⟩=some (.bool false):=m0;have hRR:=hR w'' hT;unfold cO at hRR;obtain⟨x0,x1,x2,x3,x4,x5,x6,x7,x8,x9,lJ⟩:nP w'' rb (.int .i64 2) (.slice none 0 0) (.bool false) (.bool false) (.string t) (.string ⟨#[]⟩) (.int .i64 0) (.bool false) (.string ⟨#[]⟩) (.slice none 0 0) (.string ⟨#[]⟩):=jC (B3);simpa[Leaves,settle,Fs,results,results292,go_sem,h2',h3',x0,x1,x2,x3,x4,x5,x6,x7,x8,x9,lJ,m1] using hRR
theorem jF.behind{lb u N:Nat}{w W w1 w':World}(hb:Below w.heap.size w W)(hl:jF lb u W w1)(hT:aP (λb=>b=N\/b=N+1) w1 w')(hN:w.heap.size=N)(hlb:lb<N):jF lb u w w':=by
 refine⟨((aP.of_below _ hb).trans hl.1 (λi h=> .inl h)).trans hT (λi h=> .inr (by rcases h with h|h<;>omega)),?_⟩;rw[<-hl.2];have h1:lb<w1.heap.size:=aL hl.2;have:=hT.block lb h1 (λh=>by rcases h with h|h<;>omega);unfold World.cell?;rw[this]
theorem fA{N lb:Nat}{vs:Array Value}{T:TypeId}{W w1:World}{u:Int}(h:(aG N vs T).R W)(hl:aP (λb=>b=lb) W w1)(hne:N≠lb):(aG N vs T).R w1:=(aG N vs T).keep h hl (λb h1 h2=>hne (Eq.trans (Eq.symm h1) h2))
def Yg(lb:Nat)(t:ByteArray)(u:Nat)(w:World)(e:Ending)(w':World):Prop:=e=.returned (.tuple #[cO t 0,.bool false])/\jF lb u w w'
theorem Fw{w:World}{lb:Nat}{nm t:ByteArray}(hn:GB.oP nm=true)(h0:w.cell? ⟨lb,0,none⟩=some (.string nm))
 (HG:∀W,Below w.heap.size w W->Calls prog 318 #[.pointer (some ⟨lb,0,none⟩)] W (zL lb t W)):
 Calls prog 292 #[.pointer (some ⟨lb,0,none⟩)] w (Yg lb t 0 w):=by
 have Sz:∀(fn:Fn) (first cap:Array Value) (w:World),(Instr.makeFunc fn first cap).run prog w=.ok (.func fn first cap) w:=λ_ _ _ _=>rfl
 have hlt:=aL h0;have J0:=((aJ.none w).cells aH 33).cells #[.bool false] 4;simp only[World.size_alloc] at J0;have hb0:Below w.heap.size w ((w.alloc (.cells aH 33)).alloc (.cells #[.bool false] 4)):=(bA w _).alloc (by simp) _;have HC:=hid (HG _ hb0);have a0:=(hb0.cell (p:=⟨lb,0,none⟩) hlt).trans h0;obtain⟨N,hN⟩:∃N,w.heap.size=N:=⟨_,rfl⟩;obtain⟨W,hW⟩:∃W,(w.alloc (.cells aH 33)).alloc (.cells #[.bool false] 4)=W:=⟨_,rfl⟩;rw[hW] at J0 HC a0 hb0;rw[hN] at J0 hlt;have JJ:=hid J0;have HB:=hid hb0;have HN:=hid (And.intro hN hlt);simp only[aH] at hW;clear J0 HG hb0 h0 hlt;have hn2:nm=GB.yD\/nm=GB.jX\/nm=GB.nS\/nm=GB.gq:=of_decide_eq_true hn;clear hn;unfold zL at HC;simp only[GB.yD,GB.jX,GB.nS,GB.gq] at hn2;rcases hn2 with rfl|rfl|rfl|rfl
 all_goals
  go_enter_defers func292,ntmps292
  go_wp2_with (go_at_call 318;refine HC.out.mono ?_;rintro e w1 ⟨rfl,hl⟩;unfold jE)
  have B1:=fA (u:=0) (JJ.out.get 1 rfl) hl.1 (by have:=HN.out.2;omega);have M1:=fA (u:=0) (JJ.out.get 0 rfl) hl.1 (by have:=HN.out.2;omega);exact oC (rb:=N) (mb:=N+1) rfl rfl B1 M1 (by omega) (λw' hT=>⟨rfl,jF.behind HB.out hl hT HN.out.1 HN.out.2⟩)
theorem zo{w:World}{lb u:Nat}{nm t:ByteArray}(hn:GB.jh nm=true)(h0:w.cell? ⟨lb,0,none⟩=some (.string nm))
 (HG:∀W,Below w.heap.size w W->Calls prog 319 #[.pointer (some ⟨lb,0,none⟩)] W (Ye lb t u W)):
 Calls prog 292 #[.pointer (some ⟨lb,0,none⟩)] w (Yg lb t u w):=by
 have Sz:∀(fn:Fn) (first cap:Array Value) (w:World),(Instr.makeFunc fn first cap).run prog w=.ok (.func fn first cap) w:=λ_ _ _ _=>rfl
 have hlt:=aL h0;have J0:=((aJ.none w).cells aH 33).cells #[.bool false] 4;simp only[World.size_alloc] at J0;have hb0:Below w.heap.size w ((w.alloc (.cells aH 33)).alloc (.cells #[.bool false] 4)):=(bA w _).alloc (by simp) _;have HC:=hid (HG _ hb0);have a0:=(hb0.cell (p:=⟨lb,0,none⟩) hlt).trans h0;obtain⟨N,hN⟩:∃N,w.heap.size=N:=⟨_,rfl⟩;obtain⟨W,hW⟩:∃W,(w.alloc (.cells aH 33)).alloc (.cells #[.bool false] 4)=W:=⟨_,rfl⟩;rw[hW] at J0 HC a0 hb0;rw[hN] at J0 hlt;have JJ:=hid J0;have HB:=hid hb0;have HN:=hid (And.intro hN hlt);simp only[aH] at hW;clear J0 HG hb0 h0 hlt;have hn2:nm=GB.AB\/nm=GB.AJ\/nm=GB.gW\/nm=GB.jc\/nm=GB.gX\/nm=GB.gB:=of_decide_eq_true hn;clear hn;unfold Ye cO at HC;simp only[GB.AB,GB.AJ,GB.gW,GB.jc,GB.gX,GB.gB] at hn2;rcases hn2 with rfl|rfl|rfl|rfl|rfl|rfl
 all_goals
  go_enter_defers func292,ntmps292
  go_wp2_with (fail)
  go_at_call 319;refine HC.out.mono ?_;rintro e w1 ⟨he,hl⟩;have B1:=fA (u:=0) (JJ.out.get 1 rfl) hl.1 (by have:=HN.out.2;omega);have M1:=fA (u:=0) (JJ.out.get 0 rfl) hl.1 (by have:=HN.out.2;omega);rcases he with rfl|rfl
  ·unfold jE;go_wp2_with (fail)
   exact oC (rb:=N) (mb:=N+1) rfl rfl B1 M1 (by omega) (λw' hT=>⟨rfl,jF.behind HB.out hl hT HN.out.1 HN.out.2⟩)
  ·skip
   obtain⟨n0,p0,n1,p1,n2,p2,n3,p3,n4,p4,n5,p5,n6,p6,n7,p7,n8,p8,n9,p9,n10,bE⟩:gU w1 N (.int .i64 0) (.slice none 0 0) (.bool false) (.bool false) (.string ⟨#[]⟩) (.string ⟨#[]⟩) (.int .i64 0) (.bool false) (.string ⟨#[]⟩) (.slice none 0 0) (.string ⟨#[]⟩):=au (B1);have m0:w1.cell? ⟨N+1,0,none⟩=some (.bool false):=cA M1 0;have mf:=cZ M1 0;have hs:=aK N 33 (jI t 0) 0 aH w1 B1;have s1:=jd B1 t 0;have M2:=fA (u:=0) M1 hs.bL (by omega);have s2:=ai M2 0 (.bool false);have B3:=fA (u:=0) s1.1 s2.bL (by omega);have m1:=cA s2.here 0;have hT:=(hs.bL.mono (T:=λb=>b=N\/b=N+1) (λi h=>Or.inl h)).trans (s2.bL.mono (λi h=>Or.inr h)) (λi h=> .inl h);simp only[aS,jI] at hT B3 m1;have HE:=hid (And.intro B3 (And.intro m1 (jF.behind HB.out hl hT HN.out.1 HN.out.2)));clear hT B3 m1 s1 s2 M2 hs;go_wp2_with (fail)
   exact uE (rb:=N) (mb:=N+1) rfl rfl HE.out.1 HE.out.2.1 ⟨rfl,HE.out.2.2⟩
theorem pF{w:World}{lb:Nat}{nm t:ByteArray}(hn:GB.oP nm=false)(hn2:GB.jh nm=false)(h0:w.cell? ⟨lb,0,none⟩=some (.string nm))
 (HG:∀W,Below w.heap.size w W->Calls prog 320 #[.pointer (some ⟨lb,0,none⟩)] W (zL lb t W)):
 Calls prog 292 #[.pointer (some ⟨lb,0,none⟩)] w (Yg lb t 0 w):=by
 have Sz:∀(fn:Fn) (first cap:Array Value) (w:World),(Instr.makeFunc fn first cap).run prog w=.ok (.func fn first cap) w:=λ_ _ _ _=>rfl
 have hlt:=aL h0;have J0:=((aJ.none w).cells aH 33).cells #[.bool false] 4;simp only[World.size_alloc] at J0;have hb0:Below w.heap.size w ((w.alloc (.cells aH 33)).alloc (.cells #[.bool false] 4)):=(bA w _).alloc (by simp) _;have HC:=hid (HG _ hb0);have a0:=(hb0.cell (p:=⟨lb,0,none⟩) hlt).trans h0;obtain⟨N,hN⟩:∃N,w.heap.size=N:=⟨_,rfl⟩;obtain⟨W,hW⟩:∃W,(w.alloc (.cells aH 33)).alloc (.cells #[.bool false] 4)=W:=⟨_,rfl⟩;rw[hW] at J0 HC a0 hb0;rw[hN] at J0 hlt;have JJ:=hid J0;have HB:=hid hb0;have HN:=hid (And.intro hN hlt);simp only[aH] at hW;clear J0 HG hb0 h0 hlt;unfold zL at HC;have n1:=of_decide_eq_false hn;have n2:=of_decide_eq_false hn2;have b0:(nm.toList == [103,101,116])=false:=by
  rw[show [103,101,116]=GB.yD.toList by rw[ByteArray.toList_eq];rfl,a_,decide_eq_false (λe=>n1 (by simp[e]))]
 have b1:(nm.toList == [103,101,116,115])=false:=by
  rw[show [103,101,116,115]=GB.jX.toList by rw[ByteArray.toList_eq];rfl,a_,decide_eq_false (λe=>n1 (by simp[e]))]
 have b2:(nm.toList == [103,97,116])=false:=by
  rw[show [103,97,116]=GB.nS.toList by rw[ByteArray.toList_eq];rfl,a_,decide_eq_false (λe=>n1 (by simp[e]))]
 have b3:(nm.toList == [103,97,116,115])=false:=by
  rw[show [103,97,116,115]=GB.gq.toList by rw[ByteArray.toList_eq];rfl,a_,decide_eq_false (λe=>n1 (by simp[e]))]
 have b4:(nm.toList == [115,101,116])=false:=by
  rw[show [115,101,116]=GB.AB.toList by rw[ByteArray.toList_eq];rfl,a_,decide_eq_false (λe=>n2 (by simp[e]))]
 have b5:(nm.toList == [97,100,100])=false:=by
  rw[show [97,100,100]=GB.AJ.toList by rw[ByteArray.toList_eq];rfl,a_,decide_eq_false (λe=>n2 (by simp[e]))]
 have b6:(nm.toList == [114,101,112,108,97,99,101])=false:=by
  rw[show [114,101,112,108,97,99,101]=GB.gW.toList by rw[ByteArray.toList_eq];rfl,a_,decide_eq_false (λe=>n2 (by simp[e]))]
 have b7:(nm.toList == [97,112,112,101,110,100])=false:=by
  rw[show [97,112,112,101,110,100]=GB.jc.toList by rw[ByteArray.toList_eq];rfl,a_,decide_eq_false (λe=>n2 (by simp[e]))]
 have b8:(nm.toList == [112,114,101,112,101,110,100])=false:=by
  rw[show [112,114,101,112,101,110,100]=GB.gX.toList by rw[ByteArray.toList_eq];rfl,a_,decide_eq_false (λe=>n2 (by simp[e]))]
 have b9:(nm.toList == [99,97,115])=false:=by
  rw[show [99,97,115]=GB.gB.toList by rw[ByteArray.toList_eq];rfl,a_,decide_eq_false (λe=>n2 (by simp[e]))]
 clear hn hn2 n1 n2;go_enter_defers func292,ntmps292
 go_wp2_with (go_at_call 320;refine HC.out.mono ?_;rintro e w1 ⟨rfl,hl⟩;unfold jE)
 have B1:=fA (u:=0) (JJ.out.get 1 rfl) hl.1 (by have:=HN.out.2;omega);have M1:=fA (u:=0) (JJ.out.get 0 rfl) hl.1 (by have:=HN.out.2;omega);exact oC (rb:=N) (mb:=N+1) rfl rfl B1 M1 (by omega) (λw' hT=>⟨rfl,jF.behind HB.out hl hT HN.out.1 HN.out.2⟩)
theorem wu{w:World}{lb b o n cap:Nat}{nm bh:ByteArray}{a:Option Addr}{q:Bool}{l:List ByteArray}{t:ByteArray}{u:Nat}(h:pY w lb b o n cap nm bh a q l)(hs:GB.iC nm=true)(hbad:GB.short (nm :: l)=.bad t u):Calls prog 320 #[.pointer (some ⟨lb,0,none⟩)] w (zL lb t w):=by
 rcases of_decide_eq_true hs with rfl|rfl|rfl|rfl|rfl|rfl
 ·exact pE h (.inl rfl) hbad
 ·exact pE h (.inr rfl) hbad
 ·exact v_ h hbad
 ·exact tJ h hbad
 ·exact wh h hbad
 ·exact zk h hbad
theorem zq{w:World}{lb b o n cap:Nat}{nm bh:ByteArray}{a:Option Addr}{q:Bool}{l:List ByteArray}{t:ByteArray}{u:Nat}(h:pY w lb b o n cap nm bh a q l)(hs:GB.iC nm=false)(hbad:GB.plain (nm :: l)=.bad t u):Calls prog 320 #[.pointer (some ⟨lb,0,none⟩)] w (zL lb t w):=by
 by_cases h1:nm=GB.dY
 ·subst h1;exact sw h hbad
 by_cases h2:nm=GB.kX
 ·subst h2;exact zm h hbad
 by_cases h3:nm=GB.gY
 ·subst h3;exact wm h hbad
 rw[(GB.vI hbad).2];have hs':=of_decide_eq_false hs;refine zn h (λx hx=>?_);simp only[List.mem_cons,List.not_mem_nil,or_false] at hx;rcases hx with rfl|rfl|rfl|rfl|rfl|rfl|rfl|rfl|rfl
 all_goals first|exact h1|exact h2|exact h3|exact λe=>hs' (by simp[e])
theorem Fx{w:World}{lb b o n cap:Nat}{nm bh:ByteArray}{a:Option Addr}{q:Bool}{l:List ByteArray}{t:ByteArray}{u:Nat}(h:pY w lb b o n cap nm bh a q l)(hbad:GB.text (nm :: l) bh=.bad t u)(hbs:bh.size<=100000):Calls prog 292 #[.pointer (some ⟨lb,0,none⟩)] w (Yg lb t u w):=by
 have h0:w.cell? ⟨lb,0,none⟩=some (.string nm):=cA h.ln 0;unfold GB.text at hbad;rw[iE] at hbad;split at hbad
 ·rename_i h1;have hu:=GB.AR hbad;subst hu;exact Fw h1 h0 (λW hb=>KQ (h.below hb) h1 hbad)
 ·rename_i h1;have h1':GB.oP nm=false:=by simpa using h1
  split at hbad
  ·rename_i h2;refine zo h2 h0 (λW hb=>?_);by_cases hc:nm=GB.gB
   ·subst hc;exact Bw (h.below hb) hbad hbs
   ·exact Bv (h.below hb) hc hbad hbs
  ·rename_i h2;have h2':GB.jh nm=false:=by simpa using h2
   split at hbad
   ·rename_i h3;have hu:=GB.vH hbad;subst hu;exact pF h1' h2' h0 (λW hb=>wu (h.below hb) h3 hbad)
   ·rename_i h3;have hu:=(GB.vI hbad).1;subst hu;exact pF h1' h2' h0 (λW hb=>zq (h.below hb) (by simpa using h3) hbad)
open W2 (RS)
theorem Er.lt{w:World}(h:Er w):5<w.heap.size:=by obtain⟨ev,h,-⟩:=h;exact aL h
theorem Bz{b t:ByteArray}{u:Nat}{w:World}(hb:b.size<=6000)(hg:1<=GB.ln b/\GB.ln b<=2048)(hE:Er w)
 (hbad:(if GB.ws b= [] then GB.Rs.bad GB.bg 0 else GB.text (GB.ws b) (b.extract (GB.ln b) b.size))=.bad t u):Calls prog 251 #[.string b] w (fI w (.bad t (GB.ln b+u))):=by
 obtain⟨M,hM⟩:∃M,min b.size 2048=M:=⟨_,rfl⟩;have hpre:=GB.rY hM.symm hg.1 hg.2;have hlt:=GB.eU b;have HL:=hid (λw'=>W2.gP (b.extract 0 M) w' (by simp;unfold maxLen;omega));unfold W2.dL at HL;rw[hpre.1,hpre.2,vS] at HL;obtain⟨n,hn⟩:∃n,GB.ln b=n:=⟨_,rfl⟩;have hnb:=GB.uq b;rw[hn] at HL hg hbad hnb⊢;have HS:=hid (λw'=>W2.kH (W2.aX b) w' (by omega));have J0:=(Inv.start w).new (aA w aH 33) (bA w _) (λb hb=>by have e:b=w.heap.size:=hb;omega);obtain⟨N,hN⟩:∃N,w.heap.size=N:=⟨_,rfl⟩;obtain⟨W,hW⟩:∃W,w.alloc (.cells aH 33)=W:=⟨_,rfl⟩;rw[hN,hW] at J0;have HJ:=hid J0;have hm:min (b.size:Int) 2048=M:=by omega
 have hm1:(0:Int)<=M:=by omega
 have hm2:(M:Int)<=b.size:=by omega
 have g1:¬(n:Int)=0:=by omega
 have X7:((n:Int) == 0)=false:=by simpa using g1
 have g2:(n:Int)<=b.size:=by omega
 have hwl:=GB.rX b;have hsz:∀i,(GB.wd (GB.ws b) i).size<=1000000:=GB.Cx (by omega);have lW:Hid (∀W',Calls prog 288 #[.string (W2.aX b)] W' λe w'=> ∃a cap,e=.returned (.slice a (GB.ws b).length cap)/\(GB.ws b).length<=cap/\RS w' (.slice a (GB.ws b).length cap) (GB.ws b)/\Below W'.heap.size W' w'):=hid (λW'=>(HS.out W').mono (λe w' h=>iL h));obtain⟨l,hl⟩:∃l,GB.ws b=l:=⟨_,rfl⟩;obtain⟨k,hk⟩:∃k,l.length=k:=⟨_,rfl⟩;rw[hl] at lW hwl hsz hbad;rw[hk] at lW hwl;obtain⟨T,hT⟩:∃T,W2.aX b=T:=⟨_,rfl⟩;rw[hT] at lW HL;have HH:=hid (And.intro hb (And.intro hg (And.intro hbad (And.intro hwl (And.intro hsz (And.intro hk (And.intro hE hN)))))));have HB:=hid NZ;unfold cO at HB;simp only[aH] at hW;clear J0 HS hpre hM hlt hbad hwl hsz hE hl hT hb hg;go_enter func251,ntmps251;go_wp2_with (go_at_call 246;refine(HL.out _).mono ?_;rintro e w1 ⟨rfl,m,rfl⟩)
 try rw[hW]
 obtain⟨Y,hY⟩:∃Y,W.drewN m=Y:=⟨_,rfl⟩;have SS:Hid (Inv w _ Y):=hid (by rw[<-hY];exact HJ.out.drewN m);rw[hY];clear hY HL hW HJ hm hm1 hm2;go_upto_region 8 with fail
 go_cut [7] from 34 to 40 (λs7 wx=> ∃(L:Nat) (a:Option Addr) (cap:Nat),s7=.pointer (some ⟨L,0,none⟩)/\k<=cap/\N<L/\Hid (RS wx (.slice a k cap) l)/\Hid (1<=k->∀x,a=some x->x.block<L)/\Hid (Inv w [O4 L ⟨#[]⟩ a k cap (b.extract n b.size) 0 false,aG N aH 33] wx))
 case first=>
  go_region_with (go_at_call 288;refine(lW.out _).mono ?_;rintro e w2 ⟨a,cap,rfl,hc,hrs,hb2⟩;have Tj:=hid hrs;have HB2:=hid hb2;clear hrs hb2)
  all_goals (go_wp2_with fail)
  all_goals go_meet
  all_goals
   have hbel:Below Y.heap.size Y w2:=by first|exact HB2.out|exact(below_drewN' Y 1).trans (HB2.out.mono (Nat.le_refl _))
   have hI:=(SS.out.below hbel).new (aA w2 #[.string ⟨#[]⟩,.slice a k cap,.string (b.extract n b.size),.int .i64 0,.bool false] 395) (bA _ _) (λb hb=>by have e:b=w2.heap.size:=hb;have:=(SS.out.below hbel).bel.size;omega);(try simp only[lz])
   have hlt:=(aG N aH 33).lt (SS.out.get 0 rfl) (b:=N) rfl;have hsz:=hbel.size;refine⟨_,a,cap,rfl,hc,by omega,hid (Tj.out.below (bA _ _)),hid (λh1 x e=>?_),hid hI⟩;obtain⟨b',o',e',hb',_⟩:=RS.at' Tj.out (i:=0) h1;rw[e] at e';cases e';exact hb'
 case rest=>
 obtain⟨L,a,cap,rfl,hc,aas,Tj,Um,HI⟩:=hcut;have l0:wc.cell? ⟨L,0,none⟩=some (.string ⟨#[]⟩):=cA (HI.out.get 0 rfl) 0;have f0:=cZ (HI.out.get 0 rfl) 0;have l1:wc.cell? ⟨L,1,none⟩=some (.slice a k cap):=cA (HI.out.get 0 rfl) 1;have f1:=cZ (HI.out.get 0 rfl) 1;clear lW SS;rcases Nat.eq_zero_or_pos k with hk0|hk0
 ·subst hk0;have hq:t=GB.bg/\u=0:=by
   have h:=HH.out.2.2.1;rw[if_pos (List.length_eq_zero_iff.1 HH.out.2.2.2.2.2.1)] at h;cases h;exact⟨rfl,rfl⟩
  obtain⟨rfl,rfl⟩:=hq;go_wp2_with (go_at_call 291;refine(HB.out _ _).mono ?_;rintro e w4 ⟨rfl,hb4⟩;have B4:=ae (HI.out.get 1 rfl) hb4;obtain⟨n0,p0,n1,p1,n2,p2,n3,p3,n4,p4,n5,p5,n6,p6,n7,p7,n8,p8,n9,p9,n10,bE⟩:=au B4)
  exact aY (N:=N) (t:=GB.bg) (u:=n+0) rfl rfl rfl rfl HH.out.2.2.2.2.2.2.2 HI.out.bel hb4 B4 rfl
 ·obtain⟨bb,o,rfl,hws⟩:=Ws.of Tj.out hk0;obtain⟨nm,l',rfl⟩:∃x y,l=x :: y:=by
   cases l with
   |nil=>have:=HH.out.2.2.2.2.2.1;simp at this;omega
   |cons x y=>exact⟨x,y,rfl⟩
  have hx0:=hws.2.2 0 hk0;rw[iE,Nat.add_zero] at hx0;obtain⟨j,rfl⟩:∃j,k=j+1:=⟨k-1,by omega⟩;obtain⟨c1,rfl⟩:∃c1,cap=c1+1:=⟨cap-1,by omega⟩;have hbL:bb<L:=Um.out (by omega) _ rfl;have LV:=hid hws;have i1:(0:Int)<(j:Int)+1:=by omega
  have i2:(1:Int)<=(j:Int)+1:=by omega
  have i3:((j:Int)+1).toNat=j+1:=by omega
  have i6:¬(j:Int)+1=0:=by omega
  have i6b:((j:Int)+1 == 0)=false:=by simpa using i6
  have hLb:¬L=bb:=by omega
  have WE:¬bb=L:=by omega
  clear hws Tj Um hk0;go_wp2_with (fail)
  go_upto_region 11 with fail
  go_cut [] from 49 to 65 (λwx=> ∃a2,(1<=j->a2=some ⟨bb,o+1,none⟩)/\wx=((wc.setCell ⟨L,0,none⟩ (.string nm)).setCell ⟨L,1,none⟩ (.slice a2 j c1)).drew)
  case first=>
   by_cases hcp:c1=0
   ·have hn0:j=0:=by omega
    subst hcp hn0;go_region_with (fail)
    all_goals (go_wp2_with fail)
    all_goals (go_meet;exact⟨_,λh=>absurd h (by decide),rfl⟩)
   ·have hcp1:¬c1+1=1:=by omega
    have hcp2:¬1=c1+1:=by omega
    go_region_with (fail)
    all_goals (go_wp2_with fail)
    all_goals (go_meet;exact⟨_,λ_=>rfl,rfl⟩)
  case rest=>
  obtain⟨a2,ha2,hwc⟩:=hcut;subst hwc;have T1:=(((ag.rfl' (HI.out.get 0 rfl)).set 0 (.string nm)).set 1 (.slice a2 j c1)).drew;have I2:=(HI.out.turn 0 rfl (((ag.rfl' (HI.out.get 0 rfl)).set 0 (.string nm)).set 1 (.slice a2 j c1))).drew;obtain⟨Z,hZ⟩:∃Z,((wc.setCell ⟨L,0,none⟩ (.string nm)).setCell ⟨L,1,none⟩ (.slice a2 j c1)).drew=Z:=⟨_,rfl⟩;rw[hZ] at I2 T1;rw[hZ];have HI2:Hid (Inv w [O4 L nm a2 j c1 (b.extract n b.size) 0 false,aG N aH 33] Z):=hid I2;have hLn:=HI2.out.lo _ (.head _) L rfl;have hwz:=LV.out.bL T1.bL (λe=>WE e);have hbad:GB.text (nm :: l') (b.extract n b.size)=.bad t u:=by
   have h:=HH.out.2.2.1;rwa [if_neg (by simp)] at h
  have hu:=GB.RQ hbad;have hjl:l'.length=j:=by have:=HH.out.2.2.2.2.2.1;rw[List.length_cons] at this;omega
  have hLW:pY Z L bb (o+1) j c1 nm (b.extract n b.size) a2 false l':=⟨HI2.out.get 0 rfl,λh1=>⟨ha2 h1,⟨hwz.1,hjl,λi hi=>by
   have h:=hwz.2.2 (i+1) (by omega);rw[show o+(i+1)=o+1+i by omega] at h;exact h⟩,WE⟩,hjl,by omega,by have:=HH.out.2.2.2.1;have:=HH.out.1;omega,λi=>HH.out.2.2.2.2.1 (i+1),HH.out.2.2.2.2.2.2.1.below HI2.out.bel,by have:=HH.out.2.2.2.2.2.2.1.lt;omega⟩
  have Wi:=hid (Fx hLW hbad (by have:=HH.out.1;simp;omega));have hsum:IntKind.i64.wrap ((n:Int)+(u:Int))=((n+u:Nat):Int):=by
   have h:=HH.out;have h2:u<=6000:=Nat.le_trans hu (by simp;omega);rw[IntKind.wrap_i64];omega
  have HNL:=hid aas;clear T1 I2 hZ hwz hbad hu hLW l0 f0 l1 f1 HI LV hx0;go_wp2_with (fail)
  go_at_call 292;refine Wi.out.mono ?_;rintro e w9 ⟨rfl,hl⟩;have hNL:N≠L:=λe=>absurd HNL.out (by omega)
  have B9:=fA (u:=0) (HI2.out.get 1 rfl) hl.1 hNL;have ny:Below w.heap.size w w9:=hl.1.below HI2.out.bel HI2.out.bel.size (λi hi=>by rw[show i=L from hi];exact hLn);obtain⟨V,hV⟩:∃V,w9.alloc (.cells #[.int .i64 2,.slice none 0 0,.bool false,.bool false,.string t,.string ⟨#[]⟩,.int .i64 0,.bool false,.string ⟨#[]⟩,.slice none 0 0,.string ⟨#[]⟩] 33)=V:=⟨_,rfl⟩;have hbv:=bA w9 (.cells #[.int .i64 2,.slice none 0 0,.bool false,.bool false,.string t,.string ⟨#[]⟩,.int .i64 0,.bool false,.string ⟨#[]⟩,.slice none 0 0,.string ⟨#[]⟩] 33);have BV:=ae B9 hbv;have X0:=aA w9 #[.int .i64 2,.slice none 0 0,.bool false,.bool false,.string t,.string ⟨#[]⟩,.int .i64 0,.bool false,.string ⟨#[]⟩,.slice none 0 0,.string ⟨#[]⟩] 33;have hVb:=ny.trans (hbv.mono ny.size);have u3:=(hbv.cell (p:=⟨L,3,none⟩) (aL hl.2)).trans hl.2;obtain⟨X,hX⟩:∃X,w9.heap.size=X:=⟨_,rfl⟩;have hNX:N≠X:=by have:=(aG N aH 33).lt B9 rfl;omega
  have hXN:¬X=N:=λe=>hNX e.symm
  have ae':¬L=N:=λe=>hNL e.symm
  rw[hV] at hbv BV X0 hVb u3;rw[hX] at X0;have HV:=hid hV;clear hV hl ny B9 Wi;unfold cO;go_upto_region 13 with fail
  rw[HV.out];clear HV;obtain⟨x0,x1,x2,x3,x4,x5,x6,x7,x8,x9,lJ⟩:nP V X (.int .i64 2) (.slice none 0 0) (.bool false) (.bool false) (.string t) (.string ⟨#[]⟩) (.int .i64 0) (.bool false) (.string ⟨#[]⟩) (.slice none 0 0) (.string ⟨#[]⟩):=jC (X0);obtain⟨r0,t0,r1,t1,r2,t2,r3,t3,r4,t4,r5,t5,r6,t6,r7,t7,r8,t8,r9,t9,nY,t10⟩:gU V N (.int .i64 0) (.slice none 0 0) (.bool false) (.bool false) (.string ⟨#[]⟩) (.string ⟨#[]⟩) (.int .i64 0) (.bool false) (.string ⟨#[]⟩) (.slice none 0 0) (.string ⟨#[]⟩):=au (BV);have hs:=(aK N 33 (jI t 0) 0 aH V BV).drew;have s1:=jd BV t 0;have h2:=ae s1.1 (below_drewN' _ 1);have h3:=hs.bL.below hVb hVb.size (λi hi=>by rw[show i=N from hi];exact Nat.le_of_eq HH.out.2.2.2.2.2.2.2);simp only[aS,jI] at h2 h3;have HE:=hid (And.intro h2 h3);clear hs s1 h2 h3 X0 BV hX;go_wp2_with (fail)
  go_region_with (fail)
  all_goals (go_wp2_with fail)
  all_goals (try simp only[lz])
  all_goals refine bX (N:=N) (vm:=.int .i64 ((n+u:Nat):Int)) (v0:=.int .i64 2) (v1:=.slice none 0 0) (v2:=.bool false) (v3:=.bool false) (v4:=.string t) (v5:=.string ⟨#[]⟩) (v6:=.int .i64 0) (v7:=.bool false) (v8:=.string ⟨#[]⟩) (v9:=.slice none 0 0) (v10:=.string ⟨#[]⟩) rfl rfl (by first|rfl|simp[hsum]) ?_ ⟨?_,rfl⟩
  all_goals first
   |with_reducible exact HE.out.1
   |with_reducible exact HE.out.2
   |exact HE.out.1
   |exact HE.out.2
   |fail
end Go.Proofs.YtboehbfagnocpaaGreatDoor
