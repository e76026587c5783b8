import Derived.Test.YtboehbfagnocpaaGreatDoorKat
import Derived.Test.YtboehbfagnocpaaGreatDoorKas
import Derived.Test.YtboehbfagnocpaaGreatDoorKau
set_option linter.unusedVariables false
set_option linter.unusedSimpArgs false
set_option maxRecDepth 100000
set_option maxHeartbeats 40000000
open Go.Proofs.Tryz
open Go.Lib (hid)
namespace Go.Proofs.YtboehbfagnocpaaGreatDoor
open Go.RowKit Go.PlainAid Go.Shelf
structure GP where
 (b lN nz lh zK cb nb:Nat)
 (v0 v1 v2 v6 v7:Value)
def gL(p:GP)(sq:Int)(gm out:ByteArray):List aT:=[
 aG p.b #[p.v0,p.v1,p.v2,.int .i64 1,.slice (some ⟨p.lN,0,none⟩) 1 p.nz,.slice (some ⟨p.lh,0,none⟩) 1 p.zK,p.v6,p.v7] 81,
 rowAt (.slice (some ⟨p.lN,0,none⟩) 1 p.nz) 82 1 1 [.pointer (some ⟨p.cb,0,none⟩)],
 rowAt (.slice (some ⟨p.lh,0,none⟩) 1 p.zK) 140 1 1 [.pointer none],
 (aG p.cb #[.pointer (some ⟨p.nb,0,none⟩),.int .i64 sq,.bool false] 86).and (gy p.nb gm out)]
def fB(p:GP)(sq:Int)(gm out:ByteArray):aT:=many (gL p sq gm out)
section
variable{p:GP}{sq:Int}{gm wD out out':ByteArray}{w w':World}
theorem ni(hR:(fB p sq gm out).R w):Calls prog 40 #[.pointer (some ⟨p.b,0,none⟩),.int .i64 0] w λe w'=>e=.returned (.pointer (some ⟨p.cb,0,none⟩))/\w=w':=by
 have H:=aJ.open hR;have a4:w.cell? ⟨p.b,4,none⟩=some (.slice (some ⟨p.lN,0,none⟩) 1 p.nz):=cA (H.get 0 rfl) 4;have r0:w.cell? ⟨p.lN,0,none⟩=some (.pointer (some ⟨p.cb,0,none⟩)):=aB (H.get 1 rfl) 0 (by simp);clear H hR;go_enter func40,ntmps40;go_wp2
 go_ret;exact⟨rfl,rfl⟩
theorem Lu(hR:(fB p sq gm out).R w)(t:ag (gy p.nb gm out) (gy p.nb wD out') w w'):ag (fB p sq gm out) (fB p sq wD out') w w':=by
 have H:=aJ.open hR;exact(H.turn 3 rfl (t.right (H.get 3 rfl))).shut
theorem TP{b:ByteArray}(hR:(fB p sq gm out).R w)(hs:gm.size+b.size<=70000):
 Calls prog 12 #[.pointer (some ⟨p.b,0,none⟩),.int .i64 0,.string b] w λe w'=>e=.returned (.int .i64 b.size)/\ag (fB p sq gm out) (fB p sq (gm ++ b) out) w w':=by
 have HC:=hid (ni hR);have g3:=(aJ.open hR).get 3 rfl;have k0:w.cell? ⟨p.cb,0,none⟩=some (.pointer (some ⟨p.nb,0,none⟩)):=cA g3.1 0;have HF:=hid (Ct g3.2.1 hs);have HT:=hid (λw' t=>Lu (wD:=gm ++ b) (out':=out) (w':=w') hR t);clear g3 hR;go_enter func12,ntmps12
 go_wp2_with (first
  |(go_at_call 40;refine HC.out.mono ?_;rintro e w1 ⟨rfl,rfl⟩)
  |(go_at_call 41;refine HF.out.mono ?_;rintro e w1 ⟨rfl,ht⟩))
 go_ret;exact⟨rfl,HT.out _ ht⟩
theorem wE{n:Int}(hR:(fB p sq gm out).R w)(hn:(out.size:Int)<=n):
 Calls prog 29 #[.pointer (some ⟨p.b,0,none⟩),.int .i64 0,.int .i64 n] w λe w'=>e=.returned (.string out)/\ag (fB p sq gm out) (fB p sq gm ⟨#[]⟩) w w':=by
 have HC:=hid (ni hR);have g3:=(aJ.open hR).get 3 rfl;have k0:w.cell? ⟨p.cb,0,none⟩=some (.pointer (some ⟨p.nb,0,none⟩)):=cA g3.1 0;have HF:=hid (yA g3.2.1 hn);have HT:=hid (λw' t=>Lu (wD:=gm) (out':=⟨#[]⟩) (w':=w') hR t);clear g3 hR hn;go_enter func29,ntmps29
 go_wp2_with (first
  |(go_at_call 40;refine HC.out.mono ?_;rintro e w1 ⟨rfl,rfl⟩)
  |(go_at_call 78;refine HF.out.mono ?_;rintro e w1 ⟨rfl,ht⟩))
 go_ret;exact⟨rfl,HT.out _ ht⟩
theorem Pz(hR:(fB p sq ⟨#[]⟩ out).R w)(ho:out.size<=60000)(wi:Int):
 Calls prog 79 #[.pointer (some ⟨p.b,0,none⟩),.int .i64 wi,.int .i64 0] w λe w'=>e=.returned (.bool false)/\ag (fB p sq ⟨#[]⟩ out) (fB p sq ⟨#[]⟩ out) w w':=by
 have HC:=hid (ni hR);have g3:=(aJ.open hR).get 3 rfl;have k2:w.cell? ⟨p.cb,2,none⟩=some (.bool false):=cA g3.1 2;have k0:w.cell? ⟨p.cb,0,none⟩=some (.pointer (some ⟨p.nb,0,none⟩)):=cA g3.1 0;have HN:=hid (SV g3.2.1 ho);have HT:=hid (ag.rfl' hR);clear hR g3;unfold Qr at HN;go_enter func79,ntmps79
 go_wp2_with (first
  |(go_at_call 40;refine HC.out.mono ?_;rintro e w1 ⟨rfl,rfl⟩)
  |(go_at_call 142;refine HN.out.mono ?_;rintro e w1 ⟨rfl,hb1⟩))
 go_ret;exact⟨rfl,(HT.out.below hb1).below (bA _ _)⟩
theorem Lv{k:Int}{t mt rep:ByteArray}(hk:¬k=1)(hR:(fB p sq gm out).R w)(HN:Calls prog 142 #[.pointer (some ⟨p.nb,0,none⟩)] w λe w'=>e=.returned (.tuple #[Fj k t mt,.bool true])/\ag (gy p.nb gm out) (gy p.nb wD out) w w')
 (vR:∀(W':World) (M:Nat),(aG M (Tg k t mt (sq+1)) 143).R W'->W'.cell? ⟨p.b,3,none⟩=some (.int .i64 1)->Calls prog 144 #[.pointer (some ⟨p.b,0,none⟩),.pointer (some ⟨M,0,none⟩)] W' (RpP rep W'))
 (ho:out.size+rep.size<=70000) (TI:0<=sq/\sq<=1000000) (wi:Int):
 Calls prog 79 #[.pointer (some ⟨p.b,0,none⟩),.int .i64 wi,.int .i64 0] w λe w'=>e=.returned (.bool true)/\ag (fB p sq gm out) (fB p (sq+1) wD (out ++ rep)) w w':=by
 have HC:=hid (ni hR);have H:=aJ.open hR;have g3:=H.get 3 rfl;have k2:w.cell? ⟨p.cb,2,none⟩=some (.bool false):=cA g3.1 2;have k0:w.cell? ⟨p.cb,0,none⟩=some (.pointer (some ⟨p.nb,0,none⟩)):=cA g3.1 0;have OW:=hid HN;have HH:=hid H;have HRR:=hid vR;have HO:=hid ho;have kb:(k == 1)=false:=by simp[hk]
 have hs1: -9223372036854775808<=sq+1/\sq+1<=9223372036854775807:=by omega
 clear hR g3 H HN vR ho;have HKK:=hid hk;unfold Fj at OW;go_enter func79,ntmps79;go_wp2_with (go_at_call 40;refine HC.out.mono ?_;rintro e w1 ⟨rfl,rfl⟩)
 go_at_call 142;refine OW.out.mono ?_;rintro e w1 ⟨rfl,ht⟩;have J2:=(HH.out.turn 3 rfl (ht.right (HH.out.get 3 rfl))).cells #[.int .i64 k,.slice none 0 0,.bool false,.bool false,.string t,.string ⟨#[]⟩,.int .i64 0,.bool false,.string mt,.slice none 0 0,.string ⟨#[]⟩] 33;obtain⟨X,hX⟩:∃X,w1.heap.size=X:=⟨_,rfl⟩;obtain⟨V,hV⟩:∃V,w1.alloc (.cells #[.int .i64 k,.slice none 0 0,.bool false,.bool false,.string t,.string ⟨#[]⟩,.int .i64 0,.bool false,.string mt,.slice none 0 0,.string ⟨#[]⟩] 33)=V:=⟨_,rfl⟩;rw[hX,hV] at J2;have HV:=hid hV;have HJ2:=hid J2;clear J2 ht k2 k0 hV OW HC HH;go_upto_region 7 with fail
 rw[HV.out];clear HV hX;have hcl:=HJ2.out.get 4 rfl;have k1:V.cell? ⟨p.cb,1,none⟩=some (.int .i64 sq):=cA hcl.1 1;have f1:=cZ hcl.1 1;have e1:IntKind.i64.wrap (sq+1)=sq+1:=by rw[IntKind.wrap_i64];omega
 have t3:=ai hcl.1 1 (.int .i64 (sq+1));have J3:=HJ2.out.turn 4 rfl (t3.left hcl);go_upto_region 8 with fail
 obtain⟨V2,hV2⟩:∃V2,V.setCell ⟨p.cb,1,none⟩ (.int .i64 (sq+1))=V2:=⟨_,rfl⟩;rw[hV2] at J3;rw[hV2];have vP:Hid (aJ _ w [aG X #[.int .i64 k,.slice none 0 0,.bool false,.bool false,.string t,.string ⟨#[]⟩,.int .i64 0,.bool false,.string mt,.slice none 0 0,.string ⟨#[]⟩] 33,_,_,_,(aG p.cb #[.pointer (some ⟨p.nb,0,none⟩),.int .i64 (sq+1),.bool false] 86).and (gy p.nb wD out)] V2):=hid J3;clear J3 t3 hcl k1 f1 hV2 HJ2;have HS:Hid (∀w',Below V2.heap.size V2 w'->w'.cell? ⟨X,0,none⟩=some (.int .i64 k)/\w'.cell? ⟨X,1,none⟩=some (.slice none 0 0)/\w'.cell? ⟨X,2,none⟩=some (.bool false)/\w'.cell? ⟨X,3,none⟩=some (.bool false)/\w'.cell? ⟨X,4,none⟩=some (.string t)/\w'.cell? ⟨X,5,none⟩=some (.string ⟨#[]⟩)/\w'.cell? ⟨X,6,none⟩=some (.int .i64 0)/\w'.cell? ⟨X,7,none⟩=some (.bool false)/\w'.cell? ⟨X,8,none⟩=some (.string mt)/\w'.cell? ⟨X,9,none⟩=some (.slice none 0 0)/\w'.cell? ⟨X,10,none⟩=some (.string ⟨#[]⟩)/\w'.cell? ⟨p.cb,1,none⟩=some (.int .i64 (sq+1))):=hid (λw' hb=>by
  have J:=vP.out.below hb;exact⟨cA (J.get 0 rfl) 0,cA (J.get 0 rfl) 1,cA (J.get 0 rfl) 2,cA (J.get 0 rfl) 3,cA (J.get 0 rfl) 4,cA (J.get 0 rfl) 5,cA (J.get 0 rfl) 6,cA (J.get 0 rfl) 7,cA (J.get 0 rfl) 8,cA (J.get 0 rfl) 9,cA (J.get 0 rfl) 10,cA (J.get 4 rfl).1 1⟩)
 have S0:=HS.out V2.drew (below_drewN' V2 1);have S1:=HS.out _ (bA V2 (.cells (Tg k t mt (sq+1)) 143)).drew;simp only[Tg] at S1;go_region_held3 (λw'=>w'.cell? ⟨X,0,none⟩=some (.int .i64 k)/\w'.cell? ⟨X,1,none⟩=some (.slice none 0 0)/\w'.cell? ⟨X,2,none⟩=some (.bool false)/\w'.cell? ⟨X,3,none⟩=some (.bool false)/\w'.cell? ⟨X,4,none⟩=some (.string t)/\w'.cell? ⟨X,5,none⟩=some (.string ⟨#[]⟩)/\w'.cell? ⟨X,6,none⟩=some (.int .i64 0)/\w'.cell? ⟨X,7,none⟩=some (.bool false)/\w'.cell? ⟨X,8,none⟩=some (.string mt)/\w'.cell? ⟨X,9,none⟩=some (.slice none 0 0)/\w'.cell? ⟨X,10,none⟩=some (.string ⟨#[]⟩)/\w'.cell? ⟨p.cb,1,none⟩=some (.int .i64 (sq+1))) (first|with_reducible exact S0|with_reducible exact S1|exact HS.out _ (Below.refl _ _)|exact HS.out _ (bA _ _).drew|fail) (fail)
 rename_i hHeld;clear hHeld S0 S1 HS;have J4:=(vP.out.cells (Tg k t mt (sq+1)) 143).drew;simp only[Tg] at J4;obtain⟨M,hM⟩:∃M,V2.heap.size=M:=⟨_,rfl⟩;obtain⟨Y,hY⟩:∃Y,(V2.alloc (.cells #[.int .i64 k,.slice none 0 0,.bool false,.bool false,.string t,.string ⟨#[]⟩,.int .i64 0,.bool false,.string mt,.slice none 0 0,.string ⟨#[]⟩,.int .i64 0,.int .i64 (sq+1),.int .i64 0,.slice none 0 0,.int .i64 0,.slice none 0 0] 143)).drew=Y:=⟨_,rfl⟩;rw[hM,hY] at J4;rw[hM,hY];have vQ:=hid J4;have x0:Y.cell? ⟨X,0,none⟩=some (.int .i64 k):=cA (J4.get 1 rfl) 0;clear hM hY vP J4;have HS:Hid (∀w',Below Y.heap.size Y w'->w'.cell? ⟨p.cb,0,none⟩=some (.pointer (some ⟨p.nb,0,none⟩))):=hid (λw' hb=>cA ((vQ.out.below hb).get 5 rfl).1 0);have vR:Hid (∀w',Below Y.heap.size Y w'->Calls prog 144 #[.pointer (some ⟨p.b,0,none⟩),.pointer (some ⟨M,0,none⟩)] w' λe w''=>e=.returned (.string rep)/\Below w'.heap.size w' w''):=hid (λw' hb=>HRR.out w' M ((vQ.out.below hb).get 0 rfl) (cA ((vQ.out.below hb).get 2 rfl) 3));have Yb:Hid (∀w',Below Y.heap.size Y w'->Calls prog 143 #[.pointer (some ⟨p.nb,0,none⟩),.string rep] w' λe w''=>e=.returned (.tuple #[])/\ag (fB p sq gm out) (fB p (sq+1) wD (out ++ rep)) w w''/\w''.cell? ⟨p.cb,0,none⟩=some (.pointer (some ⟨p.nb,0,none⟩))):=hid (λw' hb=>by
  have J:=vQ.out.below hb;have hcl:=J.get 5 rfl;refine(Ir hcl.2.1 HO.out).mono ?_;rintro e w'' ⟨rfl,tt⟩;have K:=J.turn 5 rfl (tt.right hcl);exact⟨rfl,(K.sub (.cons _ (.cons _ (List.Sublist.refl _)))).shut,cA (K.get 5 rfl).1 0⟩)
 have S0:=HS.out Y (Below.refl _ _);clear HRR;go_upto_region 10 with fail
 try rw[show (k !=1)=true by simp[hk]]
 clear kb;go_cut [] from 50 to 57 (λwx=>Hid (ag (fB p sq gm out) (fB p (sq+1) wD (out ++ rep)) w wx))
 case first=>
  go_region_held3 (λw'=>w'.cell? ⟨p.cb,0,none⟩=some (.pointer (some ⟨p.nb,0,none⟩))) (first|exact S0|exact z7|exact HS.out _ iF.out|exact HS.out _ (Below.refl _ _).drew) (first
   |(go_at_call 144;refine(vR.out _ (by first|exact(Below.refl _ _).drew|exact Below.refl _ _)).mono ?_;rintro e w6 ⟨rfl,hb6⟩;have hbb:Below Y.heap.size Y w6:=Below.trans (by first|exact(Below.refl _ _).drew|exact Below.refl _ _) (hb6.mono (Nat.le_refl _));have iF:=hid hbb;have z6:=HS.out w6 hbb;clear hb6 hbb)
   |(go_at_call 143;refine(Yb.out _ iF.out).mono ?_;rintro e w7 ⟨rfl,Wo,z7⟩;have eF:=hid Wo;clear Wo))
  all_goals (go_wp2_with fail)
  all_goals (go_meet;exact eF)
 case rest=>
  go_wp2_with (fail)
  go_ret;exact⟨rfl,hcut.out⟩
end
open W2 (RS)
def sY:ByteArray:=⟨#[109,110,13,10]⟩
def Yr(w:World)(e:Ending)(w':World):Prop:=e=.returned (.tuple #[Fj 7 ⟨#[]⟩ ⟨#[109,110]⟩,.int .i64 4])/\Below w.heap.size w w'
theorem Lx{fn:Func}{k j:Nat}(hres:fn.results= #[.cell k 33,.tmp j]){tmps:Array Value}{w w1:World}{N:Nat}
 (h2:tmps.getD k undef=.pointer (some ⟨N,0,none⟩)) {n:Nat} (hm:tmps.getD j undef=.int .i64 n) (hn:n=4) (hN:w.heap.size=N) (hb:Below w.heap.size w w1) (hB:(aG N aH 33).R w1):
 bodyPost prog fn (Yr w) .ret {tmps:=tmps,defers:=[]} (aS N 0 [.int .i64 7,.slice none 0 0,.bool false,.bool false,.string ⟨#[]⟩,.string ⟨#[]⟩,.int .i64 0,.bool false,.string ⟨#[109,110]⟩,.slice none 0 0,.string ⟨#[]⟩] w1):=by
 subst hn;have h:=aK N 33 [.int .i64 7,.slice none 0 0,.bool false,.bool false,.string ⟨#[]⟩,.string ⟨#[]⟩,.int .i64 0,.bool false,.string ⟨#[109,110]⟩,.slice none 0 0,.string ⟨#[]⟩] 0 aH w1 hB;have h2':=h.here;rw[show aR 0 [.int .i64 7,.slice none 0 0,.bool false,.bool false,.string ⟨#[]⟩,.string ⟨#[]⟩,.int .i64 0,.bool false,.string ⟨#[109,110]⟩,.slice none 0 0,.string ⟨#[]⟩] aH= #[.int .i64 7,.slice none 0 0,.bool false,.bool false,.string ⟨#[]⟩,.string ⟨#[]⟩,.int .i64 0,.bool false,.string ⟨#[109,110]⟩,.slice none 0 0,.string ⟨#[]⟩] by simp[aR,aH]] at h2';refine bX hres h2 hm h2' ⟨rfl,hb.trans ?_⟩;rw[hN];exact h.bL.below (Below.refl _ _) (by have:=(aG N aH 33).lt hB (b:=N) rfl;omega) (λb hb=>Nat.le_of_eq (show N=b from Eq.symm hb))
theorem TQ:W2.aX sY=⟨#[109,110]⟩:=by decide+kernel
theorem aa5:W2.b_ sY=4:=by decide+kernel
theorem aa6:GB.ws sY= [⟨#[109,110]⟩]:=by decide+kernel
theorem Xg:sY.extract 0 4=sY:=by decide+kernel
theorem FK:sY.size=4:=by decide+kernel
theorem Dj(w:World):Calls prog 246 #[.string sY] w λe w'=>e=.returned (.tuple #[.string ⟨#[109,110]⟩,.int .i64 (4:Nat)])/\∃m,w'=w.drewN m:=by
 have h:=W2.gP sY w (by rw[FK];decide);unfold W2.dL at h;rw[TQ,aa5] at h;exact h
theorem LA(W':World):Calls prog 288 #[.string ⟨#[109,110]⟩] W' λe w'=> ∃a cap,e=.returned (.slice a 1 cap)/\1<=cap/\RS w' (.slice a 1 cap) [⟨#[109,110]⟩]/\Below W'.heap.size W' w':=by
 have h:=(W2.kH (W2.aX sY) W' (by rw[TQ];decide)).mono (λe w' h=>iL h);rw[aa6,TQ] at h;exact h
theorem FL(w:World):Calls prog 250 #[.string sY] w (Yr w):=by
 have hz:=FK;have h4:=Xg;have HL:=hid (λw'=>Dj w');have lW:=hid (λw'=>LA w');obtain⟨b,hb⟩:∃b,sY=b:=⟨_,rfl⟩;rw[hb] at HL hz h4⊢;obtain⟨M,FY⟩:∃M,min b.size 2048=M:=⟨_,rfl⟩;obtain⟨n,hn⟩:∃n:Nat,4=n:=⟨_,rfl⟩;have Xh:M=4:=by omega
 have hbe:b.extract 0 M=b:=by rw[Xh];exact h4
 have hm:min (b.size:Int) 2048=M:=by omega
 have hm1:(0:Int)<=M:=by omega
 have hm2:(M:Int)<=b.size:=by omega
 have g1:¬(n:Int)=0:=by omega
 have X7:((n:Int) == 0)=false:=by simpa using g1
 have g2:(n:Int)<=b.size:=by omega
 rw[hn] at HL;have HN4:=hid hn.symm;rw[<-hbe] at HL;obtain⟨T,hT⟩:∃T:ByteArray,⟨#[109,110]⟩=T:=⟨_,rfl⟩;rw[hT] at HL lW;have B0:=aA w aH 33;have hb0:=bA w (.cells aH 33);obtain⟨N,hN⟩:∃N,w.heap.size=N:=⟨_,rfl⟩;obtain⟨W,hW⟩:∃W,w.alloc (.cells aH 33)=W:=⟨_,rfl⟩;rw[hW,hN] at B0;rw[hW] at hb0;simp only[aH] at hW;have HB0:=hid B0;have HW:=hid hb0;have HK:=hid (λw'=>Dh w');unfold wM Bu at HK;clear B0 hb0 hb hz FY Xh hbe h4 hn;go_enter func250,ntmps250;go_wp2_with (go_at_call 246;refine(HL.out _).mono ?_;rintro e w1 ⟨rfl,m,rfl⟩)
 try rw[hW]
 obtain⟨Y,hY⟩:∃Y,W.drewN m=Y:=⟨_,rfl⟩;have HY:=hid (show Below w.heap.size w Y by rw[<-hY];exact bR HW.out.size HW.out (below_drewN' W m));have BY:=hid (show (aG N aH 33).R Y by rw[<-hY];exact ae HB0.out (below_drewN' W m));rw[hY];clear hY HL hW HW HB0 hm hm1 hm2;go_wp2_with (fail)
 go_at_call 288;refine(lW.out _).mono ?_;rintro e w2 ⟨a,cap,rfl,hc,hrs,hb2⟩;subst hT;have jv:=hid (bR HY.out.size HY.out hb2);have HB1:=hid (ae BY.out hb2);obtain⟨bb,o,rfl,hws⟩:=Ws.of hrs (by omega);have hx0:w2.cell? ⟨bb,o+0,none⟩=some (.string ⟨#[109,110]⟩):=hws.2.2 0 (by omega);rw[Nat.add_zero] at hx0;clear hrs hws lW HY BY hb2;go_upto_region 10 with fail
 go_upto_region 11 with (go_at_call 289;refine(HK.out _).mono ?_;rintro e w3 ⟨dl,rfl,hb3⟩)
 have hbk:=hb3.alloc hb3.size (.cells (Bu 0 dl) 56);obtain⟨V,hV⟩:∃V,w3.alloc (.cells (Bu 0 dl) 56)=V:=⟨_,rfl⟩;rw[hV] at hbk;simp only[Bu] at hV;try rw[hV]
 have hx1:=(hbk.cell (p:=⟨bb,o,none⟩) (aL hx0)).trans hx0;have HB2:=hid (ae HB1.out hbk);have Tz:=hid (bR jv.out.size jv.out hbk);clear hV hb3 hbk hx0 HK HB1 jv;obtain⟨n0,p0,n1,p1,n2,p2,n3,p3,n4,p4,n5,p5,n6,p6,n7,p7,n8,p8,n9,p9,n10,bE⟩:=au HB2.out;go_wp2_with (fail)
 exact Lx (N:=N) rfl rfl rfl HN4.out hN Tz.out HB2.out
theorem FM(w:World):Calls prog 202 #[.string sY] w (Yr w):=by
 have hz:=FK;have h4:=Xg;have HL:=hid (λw'=>Dj w');have qB:=hid (λw'=>FL w');obtain⟨b,hb⟩:∃b,sY=b:=⟨_,rfl⟩;rw[hb] at HL hz h4 qB⊢;unfold Yr Fj at qB;obtain⟨M,FY⟩:∃M,min b.size 2048=M:=⟨_,rfl⟩;have Xh:M=4:=by omega
 have hbe:b.extract 0 M=b:=by rw[Xh];exact h4
 have hm:min (b.size:Int) 2048=M:=by omega
 have hm1:(0:Int)<=M:=by omega
 have hm2:(M:Int)<=b.size:=by omega
 rw[<-hbe] at HL;obtain⟨x,hx⟩:∃x:ByteArray,⟨#[109,110]⟩=x:=⟨_,rfl⟩;have Uo:Hid (∀w',Calls prog 248 #[.string x,.string ⟨#[32]⟩] w' λe w''=>e=.returned (.string x)/\w'=w''):=hid (λw'=>by
  have h:=W2.fQ ⟨#[109,110]⟩ w';rw[show W2.P.mk (Lib.trimLeftB (W2.P.sl ⟨#[109,110]⟩) 32)=⟨#[109,110]⟩ by decide+kernel,hx] at h;exact h)
 have Uq:Hid (∀w',Calls prog 247 #[.string x,.string ⟨#[32]⟩] w' λe w''=>e=.returned (.tuple #[.string x,.string ⟨#[]⟩,.bool false])/\∃m,w''=w'.drewN m):=hid (λw'=>by
  have h:=W2.kF 32 ⟨#[109,110]⟩ w' (by decide);rw[show W2.cutV 32 ⟨#[109,110]⟩=.tuple #[.string ⟨#[109,110]⟩,.string ⟨#[]⟩,.bool false] by kernel_rfl,hx] at h;exact h)
 have hxz:x.size=2:=by rw[<-hx];rfl
 have hbx:=get_bt x;have z1:(bt x 0 == 109)=true:=by rw[<-hx];decide+kernel
 have TB:=hid (λw'=>Tryz.strings_IndexByte ⟨#[110,101,103,115,100,97]⟩ (bt x 1) w');obtain⟨p,hp⟩:∃p,Lib.indexByte (⟨#[110,101,103,115,100,97]⟩:ByteArray).data.toList (bt x 1).toNat.toUInt8=p:=⟨_,rfl⟩;have z2:p>=0:=by
  have h:Lib.indexByte (⟨#[110,101,103,115,100,97]⟩:ByteArray).data.toList (bt x 1).toNat.toUInt8=0:=by rw[<-hx];decide+kernel
  omega
 rw[hp] at TB;rw[hx] at HL;have y1:(x.size:Int)=2:=by omega
 have y2:((x.size:Int) == 2)=true:=by simp;omega
 have y3:(0:Int)<x.size:=by omega
 have y4:(1:Int)<x.size:=by omega
 have B0:=aA w aH 33;have hb0:=bA w (.cells aH 33);obtain⟨N,hN⟩:∃N,w.heap.size=N:=⟨_,rfl⟩;obtain⟨W,hW⟩:∃W,w.alloc (.cells aH 33)=W:=⟨_,rfl⟩;rw[hW,hN] at B0;rw[hW] at hb0;simp only[aH] at hW;have HB0:=hid B0;have HW:=hid hb0;clear B0 hb0 hb hz FY Xh hbe h4 hp hx hxz;go_enter func202,ntmps202
 go_upto_region 3 with (first
  |(go_at_call 246;refine(HL.out _).mono ?_;rintro e w1 ⟨rfl,m,rfl⟩)
  |(go_at_call 248;refine(Uo.out _).mono ?_;rintro e w1 ⟨rfl,rfl⟩)
  |(go_at_call 247;refine(Uq.out _).mono ?_;rintro e w1 ⟨rfl,m2,rfl⟩))
 try rw[hW]
 obtain⟨Y,hY⟩:∃Y,W.drewN (m+m2)=Y:=⟨_,rfl⟩;have TC:Below W.heap.size W Y:=by rw[<-hY];exact below_drewN' W _
 have HY:=hid (bR HW.out.size HW.out TC);have BY:=hid (ae HB0.out TC);rw[hY];clear hY TC HL Uo Uq hW HW HB0 hm hm1 hm2;go_upto_region 4 with (go_at_call 249;refine(TB.out _).mono ?_;rintro e w1 ⟨rfl,rfl⟩)
 go_wp2_with (go_at_call 250;refine(qB.out _).mono ?_;rintro e w4 ⟨rfl,hb4⟩;have B4:=hid (ae BY.out hb4);have gF:=hid (bR HY.out.size HY.out hb4);obtain⟨n0,p0,n1,p1,n2,p2,n3,p3,n4,p4,n5,p5,n6,p6,n7,p7,n8,p8,n9,p9,n10,bE⟩:=au B4.out;clear hb4)
 exact Lx (N:=N) rfl rfl rfl rfl hN gF.out B4.out
section
variable{p:GP}{sq:Int}{gm out:ByteArray}{w:World}
theorem BJ{x:Bool}{R:World->Prop}(hR:(fB p sq gm out).R w)(HT:Calls prog 79 #[.pointer (some ⟨p.b,0,none⟩),.int .i64 0,.int .i64 0] w λe w'=>e=.returned (.bool x)/\R w'):
 Calls prog 30 #[.pointer (some ⟨p.b,0,none⟩),.int .i64 0,.int .i64 0] w λe w'=>e=.returned (.bool x)/\R w':=by
 have H:=aJ.open hR;have a5:w.cell? ⟨p.b,5,none⟩=some (.slice (some ⟨p.lh,0,none⟩) 1 p.zK):=cA (H.get 0 rfl) 5;have r5:w.cell? ⟨p.lh,0,none⟩=some (.pointer none):=aB (H.get 2 rfl) 0 (by simp);have HTT:=hid HT;clear H hR HT;go_enter func30,ntmps30;go_wp2_with (go_at_call 79;refine HTT.out.mono ?_;rintro e w1 ⟨rfl,hr⟩;have HRR:=hid hr;clear hr)
 go_ret;exact⟨rfl,HRR.out⟩
end
namespace GB
def Sm:Rs->Prop
 | .other=>True
 | .bad t _=>t.size<=100
theorem zC:Sm .other:=trivial
theorem tL{t:ByteArray}{u:Nat}(h:t.size<=100):Sm (.bad t u):=h
theorem LB(all:List UInt8)(m:Bool):∀(l:List ByteArray) (seen:List UInt8) (t:ByteArray),rW all m seen l=some t->t.size<=100
 | [],_,_,h=>by cases h
 |f :: r,seen,t,h=>by
  unfold rW at h;split at h
  ·cases h;decide
  ·split at h
   ·cases h;decide
   ·split at h
    ·cases h;decide
    ·exact LB all m r _ t h
theorem zD(n:Nat)(b:ByteArray):Sm (chunk n b):=by unfold chunk;(repeat' split)<;>first|exact zC|exact tL (by decide)
theorem PD(l:List ByteArray):Sm (keysOf l):=by unfold keysOf;(repeat' split)<;>first|exact zC|exact tL (by decide)
theorem PE(l:List ByteArray):Sm (gets l):=by unfold gets;(repeat' split)<;>first|exact tL (by decide)|exact PD _
theorem LC(l:List ByteArray)(b:ByteArray):Sm (store l b):=by unfold store;(repeat' split)<;>first|exact zC|exact tL (by decide)|exact zD _ _
theorem PG(l:List ByteArray)(b:ByteArray):Sm (read l b):=by
 unfold read;(repeat' split)<;>first|exact zC|exact tL (by decide)|exact zD _ _|(rename_i h;exact tL (LB _ _ _ _ _ h))
theorem LD(l:List ByteArray):Sm (short l):=by unfold short;dsimp only;(repeat' split)<;>first|exact zC|exact tL (by decide)
theorem LF(l:List ByteArray):Sm (plain l):=by unfold plain;(repeat' split)<;>first|exact zC|exact tL (by decide)
theorem TR(l:List ByteArray)(b:ByteArray):Sm (IP l b):=by unfold IP;(repeat' split)<;>first|exact zC|exact tL (by decide)|exact PG _ _
theorem PH(l:List ByteArray)(b:ByteArray):Sm (text l b):=by unfold text;(repeat' split)<;>first|exact PE _|exact LC _ _|exact LD _|exact LF _
theorem sG(b:ByteArray):Sm (whole b):=by unfold whole;(repeat' split)<;>first|exact zC|exact tL (by decide)|exact TR _ _|exact PH _ _
end GB
section
variable{p:GP}{sq:Int}{X t:ByteArray}{u:Nat}{w w':World}
def GA(p:GP)(sq:Int)(X t:ByteArray)(w:World):Nat->World->Prop
 |0,w'=>ag (fB p sq (X ++ sY) ⟨#[]⟩) (fB p sq (X ++ sY) ⟨#[]⟩) w w'
 |1,w'=>ag (fB p sq (X ++ sY) ⟨#[]⟩) (fB p (sq+1) sY ⟨#[]⟩) w w'
 |_,w'=>ag (fB p sq (X ++ sY) ⟨#[]⟩) (fB p (sq+1+1) ⟨#[]⟩ ⟨#[]⟩) w w'
def Yt(p:GP)(sq:Int)(X t:ByteArray)(w:World):Nat->World->Prop
 |0,w'=>ag (fB p sq (X ++ sY) ⟨#[]⟩) (fB p (sq+1) sY (t ++ crlf)) w w'
 |_,w'=>ag (fB p sq (X ++ sY) ⟨#[]⟩) (fB p (sq+1+1) ⟨#[]⟩ Dc) w w'
def PI(t:ByteArray):Nat->ByteArray
 |0=>⟨#[]⟩
 |1=>t ++ crlf
 |_=>t ++ crlf ++ Dc
def Yu(t:ByteArray):Nat->ByteArray
 |0=>t ++ crlf
 |_=>Dc
theorem qC(s:ByteArray):(⟨#[]⟩:ByteArray) ++ s=s:=ByteArray.empty_append
theorem Xi:(X ++ sY).extract X.size (X ++ sY).size=sY:=by
 have h:X.extract X.size (X.size+sY.size)=ByteArray.empty:=ByteArray.ext (Array.eq_empty_of_size_eq_zero (by show (X.extract X.size (X.size+sY.size)).size=0;rw[ByteArray.size_extract];omega));rw[ByteArray.extract_append,ByteArray.size_append,h,ByteArray.empty_append,Nat.sub_self,Nat.add_sub_cancel_left];exact ByteArray.extract_zero_size
theorem aa7(hw:GB.whole X=.bad t u)(hu:GB.ln X+u=X.size)(hX:X.size<=5500)(TI:0<=sq/\sq<=1000)(hE:Er w)(h5:¬(fB p sq (X ++ sY) ⟨#[]⟩).B 5)
 (h:GA p sq X t w 0 w'):Calls prog 30 #[.pointer (some ⟨p.b,0,none⟩),.int .i64 0,.int .i64 0] w' λe w''=>e=.returned (.bool true)/\Yt p sq X t w 0 w'':=by
 have ht:=GB.sG X;rw[hw] at ht;have ht:t.size<=100:=ht;have ha:=GB.El (Y:=sY) hw;have hE':Er w':=hE.bL h.bL h5;have hz:(X ++ sY).size=X.size+4:=by rw[ByteArray.size_append,FK]
 have hc:crlf.size=2:=rfl;have g3:=(aJ.open h.here).get 3 rfl;have HN:=Db (k:=2) (t:=t) (mt:=⟨#[]⟩) (q:=GB.ln X+u) (by decide) g3.2.1 (by decide) (by omega) (by omega) (λW hb=>(BG (by omega) (hE'.below hb) ha.1).mono (λe w2 h2=>by
  obtain⟨h3,rfl⟩:=h2;rw[ha.2.1];exact⟨rfl,h3⟩))
 rw[hu,Xi] at HN;have HT:=Lv (rep:=t ++ crlf) (by decide) h.here HN (λW' M hM _=>Bl hM (by omega)) (by rw[ByteArray.size_append,hc];show 0+_<=_;omega) (by omega) 0;rw[qC] at HT;exact(BJ h.here HT).mono (λe w2 h2=>⟨h2.1,h.trans h2.2⟩)
theorem aa8(TI:0<=sq/\sq<=1000)(h:GA p sq X t w 1 w'):Calls prog 30 #[.pointer (some ⟨p.b,0,none⟩),.int .i64 0,.int .i64 0] w' λe w''=>e=.returned (.bool true)/\Yt p sq X t w 1 w'':=by
 have g3:=(aJ.open h.here).get 3 rfl;have HN:=Db (k:=7) (t:=⟨#[]⟩) (mt:=⟨#[109,110]⟩) (q:=4) (by decide) g3.2.1 (by decide) (by rw[FK];decide) (by rw[FK];decide) (λW hb=>FM W);rw[show sY.extract 4 sY.size=⟨#[]⟩ by decide+kernel] at HN;have HT:=Lv (rep:=Dc) (by decide) h.here HN (λW' M hM h3=>Fq hM h3) (by decide) (by omega) 0;rw[qC] at HT;exact(BJ h.here HT).mono (λe w2 h2=>⟨h2.1,h.trans h2.2⟩)
theorem aa9(h:GA p sq X t w 2 w'):Calls prog 30 #[.pointer (some ⟨p.b,0,none⟩),.int .i64 0,.int .i64 0] w' λe w''=>e=.returned (.bool false)/\GA p sq X t w 2 w'':=
 (BJ h.here (Pz h.here (by decide) 0)).mono (λe w2 h2=>⟨h2.1,h.trans h2.2⟩)
theorem aa_(ht:t.size<=100){n:Nat}(hn:n<2)(h:Yt p sq X t w n w'):Calls prog 29 #[.pointer (some ⟨p.b,0,none⟩),.int .i64 0,.int .i64 1073741824] w' λe w''=>e=.returned (.string (Yu t n))/\GA p sq X t w (n+1) w'':=by
 have hc:crlf.size=2:=rfl;rcases(by omega:n=0\/n=1) with rfl|rfl
 ·exact(wE h.here (by rw[ByteArray.size_append,hc];omega)).mono (λe w2 h2=>⟨h2.1,h.trans h2.2⟩)
 ·exact(wE h.here (by decide)).mono (λe w2 h2=>⟨h2.1,h.trans h2.2⟩)
theorem aa'(h:GA p sq X t w 2 w'):Calls prog 29 #[.pointer (some ⟨p.b,0,none⟩),.int .i64 0,.int .i64 1073741824] w' λe w''=>e=.returned (.string ⟨#[]⟩)/\GA p sq X t w 2 w'':=
 (wE h.here (by decide)).mono (λe w2 h2=>⟨h2.1,h.trans h2.2⟩)
theorem Xj(ht:t.size<=100):∀n,(PI t n).size+(Yu t n).size<=300
 |0=>by show 0+(t ++ crlf).size<=300;rw[ByteArray.size_append];show 0+(t.size+2)<=300;omega
 |1=>by show (t ++ crlf).size+4<=300;rw[ByteArray.size_append];show t.size+2+4<=300;omega
 |n+2=>by show (t ++ crlf ++ Dc).size+4<=300;rw[ByteArray.size_append,ByteArray.size_append];show t.size+2+4+4<=300;omega
theorem Xk(hw:GB.whole X=.bad t u)(hu:GB.ln X+u=X.size)(hX:X.size<=5500)(TI:0<=sq/\sq<=1000)(hE:Er w)(h5:¬(fB p sq (X ++ sY) ⟨#[]⟩).B 5)
 (hR:(fB p sq (X ++ sY) ⟨#[]⟩).R w):Calls prog 13 #[.pointer (some ⟨p.b,0,none⟩),.int .i64 0] w λe w'=>e=.returned (.string (t ++ crlf ++ Dc))/\ag (fB p sq (X ++ sY) ⟨#[]⟩) (fB p (sq+1+1) ⟨#[]⟩ ⟨#[]⟩) w w':=by
 have ht:t.size<=100:=by
  have ht:=GB.sG X;rw[hw] at ht;exact ht
 have HW:Hid (∀n w',n<2->GA p sq X t w n w'->Calls prog 30 #[.pointer (some ⟨p.b,0,none⟩),.int .i64 0,.int .i64 0] w' λe w''=>e=.returned (.bool true)/\Yt p sq X t w n w''):=hid (λn w' hn h=>by
  rcases(by omega:n=0\/n=1) with rfl|rfl
  ·exact aa7 hw hu hX TI hE h5 h
  ·exact aa8 TI h)
 have HO:=hid (λn w' hn h=>aa_ (p:=p) (sq:=sq) (X:=X) (t:=t) (w:=w) (w':=w') (n:=n) ht hn h);have H2:=hid (λw' h=>aa9 (p:=p) (sq:=sq) (X:=X) (t:=t) (w:=w) (w':=w') h);have HE:=hid (λw' h=>aa' (p:=p) (sq:=sq) (X:=X) (t:=t) (w:=w) (w':=w') h);have HZ:=hid (Xj ht);have HS:Hid (GA p sq X t w 0 w):=hid (ag.rfl' hR);have HF:Hid (∀w',GA p sq X t w 2 w'->ag (fB p sq (X ++ sY) ⟨#[]⟩) (fB p (sq+1+1) ⟨#[]⟩ ⟨#[]⟩) w w'):=hid (λw' h=>h);have HG:Hid (PI t 2 ++ ⟨#[]⟩=t ++ crlf ++ Dc):=hid (by show t ++ crlf ++ Dc ++ ByteArray.empty=_;exact ByteArray.append_empty);have HN:Hid (∀n,n<2->PI t n ++ Yu t n=PI t (n+1)):=hid (λn hn=>by
  rcases(by omega:n=0\/n=1) with rfl|rfl
  ·exact qC _
  ·rfl)
 clear hw hu hX TI hE h5 hR ht;go_enter func13,ntmps13;go_wp2_with (fail)
 go_loopw [5,6] (λs i wr=> ∃n:Nat,n<=2/\i=.int .i64 n/\s=.string (PI t n)/\Hid (GA p sq X t w n wr)) (λ_ i _=>2-(intOf i).toNat)
 case atStart=>exact⟨0,by omega,rfl,rfl,HS⟩
 case round=>
  obtain⟨n,hn,rfl,rfl,hs⟩:=hrel;have h5:(n:Int)<5000:=by omega
  by_cases h4:n<2
  ·have Wv:=hid (HW.out n wr h4 hs.out);have hz:=HZ.out n;have hn1:=HN.out n h4;obtain⟨S,hS⟩:∃S,PI t n=S:=⟨_,rfl⟩;obtain⟨R,hR⟩:∃R,Yu t n=R:=⟨_,rfl⟩;have HOn:=hid (λw' h=>HO.out n w' h4 h);rw[hR] at HOn hz hn1;rw[hS] at hz hn1⊢;have pR:=hid hn1;clear HN HW HO HZ H2 HE HF HG hn1 hS hR
   go_wp2_with (first
    |(go_at_call 30;refine Wv.out.mono ?_;rintro e w5 ⟨rfl,h1⟩;have H1:=hid h1;clear h1)
    |(go_at_call 29;refine(HOn.out _ H1.out).mono ?_;rintro e w6 ⟨rfl,h1⟩;have H3:=hid h1;clear h1))
   go_roundw;case rel=>exact⟨n+1,by omega,by first|rfl|simp,by rw[pR.out],H3⟩
   case measure=>simp[intOf];omega
  ·have hn2:n=2:=by omega
   have Wv:=hid (H2.out wr (by rw[<-hn2];exact hs.out));have hz:=HZ.out n;have hz0:(PI t n).size+(⟨#[]⟩:ByteArray).size<=300:=by show (PI t n).size+0<=300;omega
   rw[<-hn2] at HG;obtain⟨S,hS⟩:∃S,PI t n=S:=⟨_,rfl⟩;rw[hS] at hz0 HG⊢;clear HN HW HO HZ H2 hS hn2 hn h4 hz hs HS
   go_wp2_with (first
    |(go_at_call 30;refine Wv.out.mono ?_;rintro e w5 ⟨rfl,h1⟩;have H1:=hid h1;clear h1)
    |(go_at_call 29;refine(HE.out _ H1.out).mono ?_;rintro e w6 ⟨rfl,h1⟩;have H3:=hid h1;clear h1))
   go_ret;exact⟨by rw[HG.out];rfl,HF.out _ H3.out⟩
end
end Go.Proofs.YtboehbfagnocpaaGreatDoor
namespace Go.Proofs.YtboehbfagnocpaaGreatDoor
open Go.RowKit Go.PlainAid Go.Shelf
open SP
open PM (Cd An Sd Vl)
theorem TS{key:ByteArray}{h:Int}{bk nw ns nc:Nat}(hk:gu key h bk):KI key h bk nw ns nc:=λp s w wi k hR hw hkk hp ho hnn FD hi hx hd hev=>
 Lt hk hR hw hkk hp ho hnn FD hi hx hd hev
theorem Dk{key:ByteArray}{h:Int}{bk:Nat}:KN key h bk 0 1 1 9:=λw=>SN false rfl rfl w
theorem Xl{key:ByteArray}{h:Int}{bk:Nat}:Wt key h bk:=λp s w he hR=>EL he hR
def gpL(p:Pl):GP:=⟨p.b,p.lN,p.nz,p.lh,p.zK,p.cb 0,p.nb 0,.pointer (some ⟨p.m.s,0,none⟩),.pointer (some ⟨p.mv,0,none⟩),.pointer (some ⟨p.sx,0,none⟩),.slice (some ⟨p.pq,0,none⟩) 1 p.FT,p.el⟩
theorem abb{key:ByteArray}{h:Int}{bk:Nat}{p:Pl}{w w':World}(m:Made (dZ key h bk 1 1 1 p PM.nk) w w'):Made (fB (gpL p) 0 ⟨#[]⟩ ⟨#[]⟩) w w':=by
 have H:=aJ.open m.here;have H1:=H.turn 7 rfl (ag.conv (r':=kN key p PM.nk 0) (H.get 7 rfl) (λhf=>bz hf (by decide)) (λb hb=>⟨_,List.mem_of_getElem? (bP (i:=0) (by decide)),hb⟩));have H2:=H1.sub (M:=gL (gpL p) 0 ⟨#[]⟩ ⟨#[]⟩) (.cons_cons _ (.cons_cons _ (.cons_cons _ (.cons _ (.cons _ (.cons _ (.cons _ (.cons_cons _ (.cons _ .slnil)))))))));exact m.turn H2.shut
theorem Xm(B:ByteArray):B ++ ⟨#[10,109,110,13,10]⟩=(B ++ ⟨#[10]⟩) ++ sY:=by
 rw[ByteArray.append_assoc];rfl
def GM(b:Nat)(w w':World):Prop:=∃q:GP,q.b=b/\Made (fB q 0 ⟨#[]⟩ ⟨#[]⟩) w w'
theorem abd{b:Nat}{w w':World}(h:pX ⟨#[107]⟩ 0 0 1 1 1 b w w'):GM b w w':=by
 obtain⟨p,e1,e2,e3,e4⟩:=h.sv (by decide);exact⟨gpL p,e1,abb e4⟩
theorem Xn{q:GP}{sq:Int}{gm:ByteArray}{b:Nat}(h:(fB q sq gm ⟨#[]⟩).B b):(fB q sq ⟨#[]⟩ ⟨#[]⟩).B b:=by
 obtain⟨r,hr,hb⟩:=h;obtain⟨i,hi⟩:=List.getElem?_of_mem hr;rcases i with _|_|_|_|_|i
 all_goals first
  |(cases hi;done)
  |(injection hi with hi;subst hi;first|exact⟨_,.head _,hb⟩|exact⟨_,.tail _ (.head _),hb⟩|exact⟨_,.tail _ (.tail _ (.head _)),hb⟩|exact⟨_,.tail _ (.tail _ (.tail _ (.head _))),hb⟩|exact⟨_,.tail _ (.tail _ (.tail _ (.tail _ (.head _)))),hb⟩)
theorem garbage_walk{b:ByteArray}{w:World}(hb:b.size<=maxLen)(hE:Er w):
 Calls prog 3 #[.string b] w λe w'=>e=.returned (.bool true)/\Below w.heap.size w w':=by
 have HW0:=hid (λw=>KO Cn (TS Cn) Dk Xl Lp w);have HN:Hid (KN ⟨#[107]⟩ 0 0 0 1 1 9):=hid Dk;have HO:Hid (∀(b:Nat) (w w':World),pX ⟨#[107]⟩ 0 0 1 1 0 b w w'->Calls prog 10 #[.pointer (some ⟨b,0,none⟩)] w' λe w''=>e=.returned (.int .i64 0)/\GM b w w''):=hid (λb w w' hS=>(pX.open' hS (by omega)).mono (λe w2 h=>⟨h.1,abd h.2⟩));have HP:=hid (λB w h=>Lc B w h);have HFe:Hid (∀(B:ByteArray) (q:GP) (w1 w':World),B.size<=5000->Made (fB q 0 ⟨#[]⟩ ⟨#[]⟩) w1 w'->Calls prog 12 #[.pointer (some ⟨q.b,0,none⟩),.int .i64 0,.string (B ++ ⟨#[10,109,110,13,10]⟩)] w' λe w''=>e=.returned (.int .i64 (B ++ ⟨#[10,109,110,13,10]⟩).size)/\ag (fB q 0 ⟨#[]⟩ ⟨#[]⟩) (fB q 0 ((B ++ ⟨#[10]⟩) ++ sY) ⟨#[]⟩) w' w''):=hid (λB q w1 w' hB h=>by
  have hz:(B ++ ⟨#[10,109,110,13,10]⟩).size=B.size+5:=by rw[ByteArray.size_append];rfl
  have hf:=TP (b:=B ++ ⟨#[10,109,110,13,10]⟩) h.here (by rw[hz];show 0+_<=_;omega);rw[qC,Xm] at hf;rw[Xm];exact hf)
 have HB:=hid hb;have hEE:=hid hE;clear hb hE;go_enter func3,ntmps3
 go_upto_region 5 with (first
  |(go_at_call 8;refine(HW0.out _).mono ?_;rintro e w1 ⟨rfl,hb1⟩;have HB1:=hid hb1;clear hb1)
  |(go_at_call 9;refine(HN.out _).mono ?_;rintro e w2 ⟨p0,rfl,h1,h2,h3⟩;have HS:Hid (pX ⟨#[107]⟩ 0 0 1 1 0 p0.b w1 w2):=hid ⟨p0,_,rfl,h1,h2,λh=>absurd h (by omega),h3⟩;clear h1 h2 h3)
  |(go_at_call 10;refine(HO.out _ _ _ HS.out).mono ?_;rintro e w3 ⟨rfl,q,eq,hm⟩
    rw[<-eq];have HM:=hid hm;clear eq hm HS))
 have Yv:=hid (HB1.out.trans (HM.out.bel.mono HB1.out.size));have HEr:Hid (∀w',Below w.heap.size w w'->Er w'):=hid (λw' h=>hEE.out.below h);have H5:Hid (∀gm,¬(fB q 0 gm ⟨#[]⟩).B 5):=hid (λgm h=>by
  have h1:=HM.out.lo 5 (Xn h);have h2:=HB1.out.size;obtain⟨ev,h3,h4⟩:=hEE.out;have h5:5<w.heap.size:=aL h3;omega)
 clear HW0 HN HO;by_cases hlen:b.size<=5000
 case' pos=>
  have hl1:¬(5000:Int)<b.size:=by omega
  go_upto_region 7 with fail
  obtain⟨B,hB⟩:∃B,b=B:=⟨_,rfl⟩;rw[hB];have hz:B.size<=5000:=by rw[<-hB];exact hlen
 case' neg=>
  have hl1:(5000:Int)<b.size:=by omega
  have hl2:(5000:Int)<=b.size:=by omega
  go_upto_region 7 with fail
  obtain⟨B,hB⟩:∃B,b.extract 0 5000=B:=⟨_,rfl⟩;rw[hB];have hz:B.size<=5000:=by rw[<-hB,ByteArray.size_extract];omega
 all_goals
  obtain⟨X,hX⟩:∃X,B ++ ⟨#[10]⟩=X:=⟨_,rfl⟩;have hXz:X.size=B.size+1:=by rw[<-hX,ByteArray.size_append];rfl
  have hs1:B.size+(⟨#[10]⟩:ByteArray).size<=6000:=by show B.size+1<=6000;omega
  have hs2:B.size+(⟨#[10,109,110,13,10]⟩:ByteArray).size<=6000:=by show B.size+5<=6000;omega
  have hwr:IntKind.i64.wrap ((B.size:Int)+1)=(B.size:Int)+1:=by rw[IntKind.wrap_i64];omega
  have hp:=λw'=>HP.out X w' (by omega)
  have Yw:=hid (λw' hm=>HFe.out B q w1 w' hz hm);have HA:Hid (∀(t:ByteArray) (u:Nat) (w':World),GB.whole X=.bad t u->GB.ln X+u=X.size->(fB q 0 (X ++ sY) ⟨#[]⟩).R w'->Below w.heap.size w w'->Calls prog 13 #[.pointer (some ⟨q.b,0,none⟩),.int .i64 0] w' λe w''=>e=.returned (.string (t ++ crlf ++ Dc))/\ag (fB q 0 (X ++ sY) ⟨#[]⟩) (fB q (0+1+1) ⟨#[]⟩ ⟨#[]⟩) w' w''):=hid (λt u w' h1 h2 h3 h4=>Xk h1 h2 (by omega) ⟨by decide,by decide⟩ (HEr.out _ h4) (H5.out _) h3);clear HP HFe hB hlen;(try clear hl1)
  (try clear hl2)
  cases Pq:GB.whole X with
  |other=>
   have QA:Hid (∀w',Calls prog 11 #[.string (B ++ ⟨#[10]⟩)] w' λe w''=>Below w'.heap.size w' w''/\∃k ca cn cc qq tk s1 s2 sk cl s3 fa fn fc s4 m,e=.returned (.tuple #[.agg #[.int .i64 k,.slice ca cn cc,.bool qq,.bool tk,.string s1,.string s2,.int .i64 sk,.bool cl,.string s3,.slice fa fn fc,.string s4],.int .i64 m])/\(k≠2\/sk≠0\/cl=true)):=hid (λw'=>by
    have h1:=hp w';rw[Pq] at h1;rw[hX];refine h1.mono (λe w'' h2=>?_);obtain⟨h3,v,m,rfl,k,ca,cn,cc,qq,tk,s1,s2,sk,cl,s3,fa,fn,fc,s4,rfl,h4⟩:=h2;exact⟨h3,k,ca,cn,cc,qq,tk,s1,s2,sk,cl,s3,fa,fn,fc,s4,m,rfl,h4⟩)
   clear hp HA Yw Pq hX hXz;go_upto_region 8 with (go_at_call 11;refine(QA.out _).mono ?_;rintro e w4 ⟨hb4,k,ca,cn,cc,qq,tk,s1,s2,sk,cl,s3,fa,fn,fc,s4,m,rfl,hor⟩;have gF:=hid hb4;have HOR:=hid hor;clear hb4 hor)
   obtain⟨W5,TT⟩:∃W,w4.alloc (.cells #[.int .i64 k,.slice ca cn cc,.bool qq,.bool tk,.string s1,.string s2,.int .i64 sk,.bool cl,.string s3,.slice fa fn fc,.string s4] 33)=W:=⟨_,rfl⟩;have r5:=aA w4 #[.int .i64 k,.slice ca cn cc,.bool qq,.bool tk,.string s1,.string s2,.int .i64 sk,.bool cl,.string s3,.slice fa fn fc,.string s4] 33;have b5:=bA w4 (.cells #[.int .i64 k,.slice ca cn cc,.bool qq,.bool tk,.string s1,.string s2,.int .i64 sk,.bool cl,.string s3,.slice fa fn fc,.string s4] 33);rw[TT] at r5 b5;rw[TT];have B5:=hid b5;have R5:=hid r5;have f0:W5.cell? ⟨w4.heap.size,0,none⟩=some (.int .i64 k):=cA r5 0;have f6:W5.cell? ⟨w4.heap.size,6,none⟩=some (.int .i64 sk):=cA r5 6;have f7:W5.cell? ⟨w4.heap.size,7,none⟩=some (.bool cl):=cA r5 7;clear TT r5 b5;have HZ:Hid (Below w.heap.size w W5):=hid (Yv.out.trans ((gF.out.trans (B5.out.mono gF.out.size)).mono Yv.out.size));by_cases hm:m=(B.size:Int)+1
   ·by_cases hk:k=2
    ·by_cases hs:sk=0
     ·have hcl:cl=true:=by
       rcases HOR.out with h|h|h
       ·exact absurd hk h
       ·exact absurd hs h
       ·exact h
      subst hm hk hs hcl;go_wp2_with (fail)
      go_ret;exact⟨rfl,HZ.out⟩
     ·subst hm hk;go_wp2_with (fail)
      go_ret;exact⟨rfl,HZ.out⟩
    ·subst hm;go_wp2_with (fail)
     go_ret;exact⟨rfl,HZ.out⟩
   ·go_wp2_with (fail)
    go_ret;exact⟨rfl,HZ.out⟩
  |bad t u=>
   obtain⟨n,hn⟩:∃n,GB.ln X+u=n:=⟨_,rfl⟩;have hsm:t.size<=100:=by
    have h:=GB.sG X;rw[Pq] at h;exact h
   have hs3:t.size+(⟨#[13,10,77,78,13,10]⟩:ByteArray).size<=6000:=by show t.size+6<=6000;omega
   have hs4:¬9223372036854775807<t.size+6:=by omega
   have HPb:Hid (∀w',Calls prog 11 #[.string (B ++ ⟨#[10]⟩)] w' λe w''=>Below w'.heap.size w' w''/\e=.returned (.tuple #[.agg #[.int .i64 2,.slice none 0 0,.bool false,.bool false,.string t,.string ⟨#[]⟩,.int .i64 0,.bool false,.string ⟨#[]⟩,.slice none 0 0,.string ⟨#[]⟩],.int .i64 n])):=hid (λw'=>by
    have h1:=hp w';rw[Pq] at h1;rw[hX,<-hn];exact h1)
   have WM:Hid (n=X.size->∀w',(fB q 0 (X ++ sY) ⟨#[]⟩).R w'->Below w.heap.size w w'->Calls prog 13 #[.pointer (some ⟨q.b,0,none⟩),.int .i64 0] w' λe w''=>e=.returned (.string (t ++ crlf ++ Dc))/\ag (fB q 0 (X ++ sY) ⟨#[]⟩) (fB q (0+1+1) ⟨#[]⟩ ⟨#[]⟩) w' w''):=hid (λh1 w' h2 h3=>HA.out t u w' Pq (by omega) h2 h3);rw[hX] at Yw;have HXz:=hid hXz;clear hp HA Pq hn hX hXz hsm;go_upto_region 8 with (go_at_call 11;refine(HPb.out _).mono ?_;rintro e w4 ⟨hb4,rfl⟩;have gF:=hid hb4;clear hb4)
   obtain⟨W5,TT⟩:∃W,w4.alloc (.cells #[.int .i64 2,.slice none 0 0,.bool false,.bool false,.string t,.string ⟨#[]⟩,.int .i64 0,.bool false,.string ⟨#[]⟩,.slice none 0 0,.string ⟨#[]⟩] 33)=W:=⟨_,rfl⟩;have r5:=aA w4 #[.int .i64 2,.slice none 0 0,.bool false,.bool false,.string t,.string ⟨#[]⟩,.int .i64 0,.bool false,.string ⟨#[]⟩,.slice none 0 0,.string ⟨#[]⟩] 33;have b5:=bA w4 (.cells #[.int .i64 2,.slice none 0 0,.bool false,.bool false,.string t,.string ⟨#[]⟩,.int .i64 0,.bool false,.string ⟨#[]⟩,.slice none 0 0,.string ⟨#[]⟩] 33);rw[TT] at r5 b5;rw[TT];have B5:=hid b5;have R5:=hid r5;have f0:W5.cell? ⟨w4.heap.size,0,none⟩=some (.int .i64 2):=cA r5 0;have f4:W5.cell? ⟨w4.heap.size,4,none⟩=some (.string t):=cA r5 4;have f6:W5.cell? ⟨w4.heap.size,6,none⟩=some (.int .i64 0):=cA r5 6;have f7:W5.cell? ⟨w4.heap.size,7,none⟩=some (.bool false):=cA r5 7;clear TT r5 b5;have Ya:=hid (gF.out.trans (B5.out.mono gF.out.size));have HZ:Hid (Below w.heap.size w W5):=hid (Yv.out.trans (Ya.out.mono Yv.out.size));by_cases hm:(n:Int)=(B.size:Int)+1
   ·have hall:=WM.out (by have:=HXz.out;omega);have HM5:=hid (HM.out.below Ya.out);have hN1:w3.heap.size<=w4.heap.size:=gF.out.size;have QZ:w4.heap.size<W5.heap.size:=aL f0;have hnb:¬(fB q 0 ⟨#[]⟩ ⟨#[]⟩).B w4.heap.size:=λh=>by have:=(fB q 0 ⟨#[]⟩ ⟨#[]⟩).lt HM.out.here h;omega
    have LW:=hid (And.intro hnb QZ);have HFF:=hid (Yw.out W5 HM5.out);clear Yw;go_upto_region 11 with (go_at_call 12;refine HFF.out.mono ?_;rintro e w6 ⟨rfl,hft⟩;have Us:=hid hft;clear hft)
    have Vs:¬(fB q 0 (X ++ sY) ⟨#[]⟩).B w4.heap.size:=λh=>(Us.out.nu _ h).elim hnb (λh2=>by omega)
    have hN6:w4.heap.size<w6.heap.size:=Nat.lt_of_lt_of_le QZ Us.out.bL.size;have hb6:Below w.heap.size w w6:=HB1.out.trans ((HM5.out.turn Us.out).bel.mono HB1.out.size);have hc6:w6.cell? ⟨w4.heap.size,4,none⟩=some (.string t):=by
     rw[<-f4];simp only[World.cell?,Us.out.bL.block _ QZ hnb]
    have HS:Hid (∀w',aP (fB q 0 (X ++ sY) ⟨#[]⟩).B w6 w'->w'.cell? ⟨w4.heap.size,4,none⟩=some (.string t)):=hid (λw' ht=>by
     rw[<-hc6];simp only[World.cell?,ht.block _ hN6 Vs])
    have he:t ++ crlf ++ Dc=t ++ ⟨#[13,10,77,78,13,10]⟩:=by
     rw[ByteArray.append_assoc];rfl
    have Um:Hid (∀w',Below w6.heap.size w6 w'->Calls prog 13 #[.pointer (some ⟨q.b,0,none⟩),.int .i64 0] w' λe w''=>e=.returned (.string (t ++ ⟨#[13,10,77,78,13,10]⟩))/\aP (fB q 0 (X ++ sY) ⟨#[]⟩).B w6 w''/\Below w.heap.size w w''):=hid (λw' hb=>by
     have h1:=hall w' ((fB q 0 (X ++ sY) ⟨#[]⟩).keep Us.out.here (aP.of_below (λ_=>False) hb) (λ_ _ x=>x)) (hb6.trans (hb.mono hb6.size));rw[he] at h1;refine h1.mono (λe w'' hh=>⟨hh.1,(aP.of_below _ hb).trans hh.2.bL (λ_ x=> .inl x),?_⟩);exact(((HM5.out.turn Us.out).below hb).turn hh.2).bel |> λh=>HB1.out.trans (h.mono HB1.out.size))
    have S0:=HS.out _ ((aP.refl _ _).drewN 1);clear hall HFF hnb Vs hc6 he f0 f4 f6 f7
    go_region_held3 (λw'=>w'.cell? ⟨w4.heap.size,4,none⟩=some (.string t)) (first|exact S0|exact HS.out _ WC.out|exact HS.out _ ((aP.refl _ _).drewN 1)) (first
     |(go_at_call 13;refine(Um.out _ (by first|exact(Below.refl _ _).drew|exact Below.refl _ _)).mono ?_;rintro e w7 ⟨rfl,Xf,kT⟩;have WC:=hid Xf;have FR:=hid kT;clear Xf kT))
    all_goals (go_wp2_with fail)
    all_goals go_ret
    all_goals exact⟨by first|rfl|simp,FR.out⟩
   ·go_wp2_with (fail)
    go_ret;exact⟨rfl,HZ.out⟩
end Go.Proofs.YtboehbfagnocpaaGreatDoor
