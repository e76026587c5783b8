import Derived.Test.YtboehbfagnocpaaGreatDoorKad
set_option linter.unusedVariables false
set_option linter.unusedSimpArgs false
set_option maxRecDepth 100000
set_option maxHeartbeats 40000000
open Go.Proofs.Tryz
open Go.Lib (hid)
namespace Go.Proofs.YtboehbfagnocpaaGreatDoor.B3
open Go.Shelf Go.RowKit Go.PlainAid
theorem sW(B b:Nat)(bs:List Value)(c:Int)(w:World)(h:Lib.IsBuilder 366 5 B b bs w)(hlen:bs.length+1<=140737488355328)(hBw:B<=w.heap.size):
 Calls prog 340 #[.pointer (some ⟨b,0,none⟩),.int .u8 c] w λe w'=>e=.returned .nilIface/\(Lib.IsBuilder 366 5 B b (bs ++ [.int .u8 c]) w'/\Below B w w'):=by
 obtain⟨i0,hi,hz0,hz1,hz2⟩:=info_parts Aw;go_enter func340,ntmps340;go_wp2_with (go_at_call 295;refine(kV B b bs _ h).mono ?_)
 rintro e w1 ⟨rfl,h1,hb1⟩;obtain⟨hB,v,hbk,hown,hne⟩:=h1;have c0:w1.cell? ⟨b,0,none⟩=some (.pointer (some ⟨b,0,none⟩)):=by rw[Lib.cell_of_heap hbk];rfl
 have c1:w1.cell? ⟨b,1,none⟩=some v:=by rw[Lib.cell_of_heap hbk];rfl
 go_wp2_with (at_builtin;refine wpList_append_own _ rfl _ _ 118 rfl B 5 i0 (.int .u8 0) 1 1 underlying118 hi hz0 hz1 hz2 rfl (by decide) _ _ _ rfl (hown.alloc _) ⟨w1.heap.size,0,none⟩ 1 1 [.int .u8 c] rfl rfl ?c1 ?c2 ?c3 ?c4 ?c5 ?_)
 case c1=>
  intro j u hj;match j,hj with
  |0,hj=>simp at hj;subst hj;simp[Addr.add]
 case c2=>intro u hu;simp at hu;subst hu;rfl
 case c3=>unfold maxLen;omega
 case c4=>omega
 case c5=>have:=hb1.size;simp;omega
 intro v' w2 hown' hgrow _;have hlt:b<w1.heap.size:=by
  rcases Nat.lt_or_ge b w1.heap.size with h'|h'
  ·exact h'
  ·simp[Array.getElem?_eq_none h'] at hbk
 have hb2:w2.heap[b]?=some (.cells #[.pointer (some ⟨b,0,none⟩),v] 366 (0,0)):=by
  rw[hgrow.block b (by simp;omega) (λe=>hne e.symm),Lib.alloc_old w1 _ b hlt];exact hbk
 have d0:w2.cell? ⟨b,0,none⟩=some (.pointer (some ⟨b,0,none⟩)):=by rw[Lib.cell_of_heap hb2];rfl
 have d1:w2.cell? ⟨b,1,none⟩=some v:=by rw[Lib.cell_of_heap hb2];rfl
 have f1:w2.frozen? ⟨b,1,none⟩=false:=Lib.frozen_of_heap hb2 1;obtain⟨g,cap,rfl⟩:∃g cap,v'=.slice (some ⟨g,0,none⟩) (bs.length+1) cap:=by
  rcases hown'.2 with ⟨_,h0⟩|⟨g,cap,cur,hv,_⟩
  ·omega
  ·exact⟨g,cap,hv⟩
 go_wp2
 go_ret;refine⟨rfl,.inr ?_,?_⟩
 ·exact Lib.BuilderAt.put (T:=366) (e:=5) hB hb2 (bs':=bs ++ [.int .u8 c]) (by simpa using hown') (by decide)
 ·exact((hb1.alloc (by have:=hb1.size;omega) _).grown hgrow (by have:=hb1.size;simp;omega) (λk hk=>(hown.lt k hk).1)).setCell (p:=⟨b,1,none⟩) hB _
def Bd(w0:World)(l:List Int)(wr:World):Prop:=Lib.IsBuilder 366 5 w0.heap.size w0.heap.size (l.map (Value.int .u8)) wr/\Below w0.heap.size w0 wr
theorem RJ(w0:World):Bd w0 [] (w0.alloc (.cells #[.pointer none,.slice none 0 0] 366)):=⟨Lib.fresh_isBuilder 366 5 w0,(Below.refl _ w0).alloc (Nat.le_refl _) _⟩
theorem rR{w0 wr:World}{l:List Int}(h:Bd w0 l wr)(c:Int){l':List Int}(he:l'=l ++ [c])(hl:l.length<=1000000000):
 Calls prog 340 #[.pointer (some ⟨w0.heap.size,0,none⟩),.int .u8 c] wr λe w'=>e=.returned .nilIface/\Bd w0 l' w':=by
 subst he;refine(sW w0.heap.size w0.heap.size _ c wr h.1 (by simp;omega) h.2.size).mono ?_;rintro e w' ⟨rfl,h1,h2⟩;exact⟨rfl,by simpa using h1,h.2.trans h2⟩
theorem Az{l:List Int}(hb:∀x∈l,0<=x/\x<=255):l.map (Value.int .u8)=Lib.byteCells (l.map (λn=>UInt8.ofNat n.toNat)):=by
 unfold Lib.byteCells;rw[List.map_map];refine List.map_congr_left λx hx=>?_
 obtain⟨h0,h1⟩:=hb x hx;simp only[Function.comp];congr 1;have:(UInt8.ofNat x.toNat).toNat=x.toNat:=by simp;omega
 omega
theorem nQ{w0 wr:World}{l:List Int}(h:Bd w0 l wr)(hb:∀x∈l,0<=x/\x<=255){s:ByteArray}(he:strOfNums l=s):
 Calls prog 262 #[.pointer (some ⟨w0.heap.size,0,none⟩)] wr λe w'=>e=.returned (.string s)/\Below w0.heap.size w0 w':=by
 subst he;have h1:=h.1;rw[Az hb] at h1;refine(Tryz.Builder_String_any w0.heap.size w0.heap.size _ wr h1 h.2.size).mono ?_;rintro e w' ⟨rfl,h2⟩;exact⟨rfl,h.2.trans h2⟩
theorem fQ(s:ByteArray)(w:World)(hs:s.size<=maxLen):Calls prog 339 #[.string s,.string ⟨#[61]⟩] w λe w'=>e=.returned (.string (P.mH s))/\w=w':=by
 refine(Tryz.strings_TrimRight_one s 61 (by decide) w hs).mono ?_;rintro e w' ⟨rfl,rfl⟩;exact⟨rfl,rfl⟩
theorem NS:∀n:Nat,n<256->Lib.indexByte (ByteArray.mk #[65,66,67,68,69,70,71,72,73,74,75,76,77,78,79,80,81,82,83,84,85,86,87,88,89,90,97,98,99,100,101,102,103,104,105,106,107,108,109,110,111,112,113,114,115,116,117,118,119,120,121,122,48,49,50,51,52,53,54,55,56,57,43,47]).data.toList ((n:Int).toNat.toUInt8)=P.val n:=by decide+kernel
theorem nA(c:Int)(h0:0<=c)(h1:c<=255)(w:World):Calls prog 249 #[.string (ByteArray.mk #[65,66,67,68,69,70,71,72,73,74,75,76,77,78,79,80,81,82,83,84,85,86,87,88,89,90,97,98,99,100,101,102,103,104,105,106,107,108,109,110,111,112,113,114,115,116,117,118,119,120,121,122,48,49,50,51,52,53,54,55,56,57,43,47]),.int .u8 c] w λe w'=>e=.returned (.int .i64 (P.val c))/\w=w':=by
 obtain⟨n,rfl⟩:=Int.eq_ofNat_of_zero_le h0;refine(Tryz.strings_IndexByte _ (n:Int) w).mono ?_;rintro e w' ⟨rfl,rfl⟩;exact⟨by rw[NS n (by omega)],rfl⟩
def dJ(s:ByteArray)(w:World)(e:Ending)(w':World):Prop:=e=.returned (.tuple #[.string (P.iW s),.bool (P.okD s)])/\Below w.heap.size w w'
theorem bT{s:ByteArray}(h:P.okD s=false){v:Value}(hv:v=.tuple #[.string ⟨#[]⟩,.bool false]):Ending.returned v=Ending.returned (.tuple #[.string (P.iW s),.bool (P.okD s)]):=by rw[P.Ro h,h,hv]
theorem jV{s:ByteArray}(h:P.okD s=true){v:Value}(hv:v=.tuple #[.string (strOfNums (P.fC (P.dv s) (6*P.bl s / 8))),.bool true]):Ending.returned v=Ending.returned (.tuple #[.string (P.iW s),.bool (P.okD s)]):=by rw[P.qp h,h,hv]
theorem rT(s:ByteArray)(w:World)(hs:s.size<=1000000000):Calls prog 315 #[.string s] w (dJ s w):=by
 obtain⟨hb1,hb2,hb3,hb4⟩:=P.gT s;by_cases c1:s.size % 4=0
 ·by_cases c2:s.size-P.bl s<=2
  ·obtain⟨n,hn⟩:∃n,P.bl s=n:=⟨_,rfl⟩;have hsz:(P.mH s).size=n:=hn;have hb:=get_bt (P.mH s);have hle:n<=1000000000:=by omega
   have c1':(s.size:Int) % 4=0:=by omega
   have c2':(s.size:Int)-(n:Int)<=2:=by omega
   rw[hn] at hb1 hb2;have H1:=hid (And.intro c1 (And.intro c2 hn));have H2:=hid hb2;clear c1 c2 hn hb2 hb3 hb4;have hsz':(((P.mH s).size:Nat):Int)=(n:Int):=by omega
   go_enter func315,ntmps315;go_wp2_with (go_at_call 339;refine(fQ s _ (by unfold maxLen;omega)).mono ?_;rintro e w' ⟨rfl,rfl⟩)
   clear c1';go_loopw [6,7,26] (λv6 v7 v26 wr=> ∃(k:Nat) (x:Int),k<=n/\v26=.int .i64 k/\v6=.int .u32 x/\v7=.int .i64 ((6*k % 8:Nat):Int)/\0<=x/\x<4294967296/\(0<k->x % 64=P.dv s (k-1))/\(∀i,i<k->0<=P.dv s i)/\Bd w (P.fC (P.dv s) (6*k / 8)) wr) (λ_ _ i _=>n-(intOf i).toNat)
   case atStart=>exact⟨0,0,Nat.zero_le _,rfl,rfl,rfl,by omega,by omega,λh=>absurd h (by omega),λi hi=>absurd hi (by omega),RJ w⟩
   case round=>
    obtain⟨k,x,hk,rfl,rfl,rfl,hx0,hx1,hxk,hall,hB⟩:=hrel;by_cases hlt:k<n
    ·have NA:(k:Int)<(n:Int):=by omega
     have ebt:bt (P.mH s) k=bt s k:=H2.out k hlt;have hn0:=bt_nonneg s k;have hl0:=bt_le s k;have LM:Hid (∀w',Calls prog 249 #[.string (ByteArray.mk #[65,66,67,68,69,70,71,72,73,74,75,76,77,78,79,80,81,82,83,84,85,86,87,88,89,90,97,98,99,100,101,102,103,104,105,106,107,108,109,110,111,112,113,114,115,116,117,118,119,120,121,122,48,49,50,51,52,53,54,55,56,57,43,47]),.int .u8 (bt s k)] w' λe w''=>e=.returned (.int .i64 (P.dv s k))/\w'=w''):=hid (λw'=>nA (bt s k) hn0 hl0 w');obtain⟨d0,d1⟩:=P.dX s k;have eY:=hid hall;clear hall;obtain⟨d,hd⟩:∃d,P.dv s k=d:=⟨_,rfl⟩;rw[hd] at d0 d1 LM;have Hd:=hid hd;clear hd;by_cases hneg:d<0
     ·have Hno:=hid (P.nJ (s:=s) (λh=>by have h1:=h.2.2.1 k (by rw[H1.out.2.2];exact hlt);rw[Hd.out] at h1;omega));clear hxk;go_wp2_with (go_at_call 249;refine(LM.out _).mono ?_;rintro e w' ⟨rfl,rfl⟩)
      go_ret2;exact⟨bT Hno.out rfl,hB.2⟩
     ·have e6:=P.or6 x d hx0 hx1 (by omega) d1;have ed:IntKind.u32.wrap d=d:=by rw[IntKind.wrap_u32];omega
      have XP:0<=x*64 % 4294967296+d:=by omega
      have XQ:x*64 % 4294967296+d<4294967296:=by omega
      have RL:=hid (show (x*64 % 4294967296+d) % 64=d by omega);have Hyp:Hid (0<k->(x*64 % 4294967296+d) % 4096=P.dv s (k-1)*64+d):=hid (λh=>by have:=hxk h;omega);have Cv:Hid (∀i,i<k+1->0<=P.dv s i):=hid (λi hi=>by rcases Nat.lt_succ_iff_lt_or_eq.1 hi with h|rfl;exact eY.out i h;rw[Hd.out];omega);clear hxk;obtain⟨q,hq⟩:∃q,k=4*q\/k=4*q+1\/k=4*q+2\/k=4*q+3:=⟨k / 4,by omega⟩;rcases hq with hq|hq|hq|hq
      ·have ep:((6*k % 8:Nat):Int)=0:=by omega
       rw[ep];have Hq:=hid hq;have hB':Bd w (P.fC (P.dv s) (3*q)) wr:=by rw[show 6*k / 8=3*q by omega] at hB;exact hB
       clear hq hB ep;go_wp2_with (go_at_call 249;refine(LM.out _).mono ?_;rintro e w' ⟨rfl,rfl⟩)
       go_roundw;case rel=>exact⟨k+1,x*64 % 4294967296+d,by omega,by go_num,rfl,by rw[show ((6*(k+1) % 8:Nat):Int)=6 by have:=Hq.out;omega],XP,XQ,λ_=>by rw[Nat.add_sub_cancel,Hd.out];exact RL.out,Cv.out,by rw[show 6*(k+1) / 8=3*q by have:=Hq.out;omega];exact hB'⟩
       case measure=>simp[intOf];omega
      ·have ep:((6*k % 8:Nat):Int)=6:=by omega
       rw[ep];have Hq:=hid hq;have hB':Bd w (P.fC (P.dv s) (3*q)) wr:=by rw[show 6*k / 8=3*q by omega] at hB;exact hB
       have ev:((x*64 % 4294967296+d) / 16) % 256=P.dx (P.dv s) (3*q):=by
        have h1:=RL.out;have h2:=Hyp.out (by omega);have h3:=Hd.out;rw[P.P8];rw[show 4*q+1=k by omega,show 4*q=k-1 by omega,h3];have h4:=eY.out (k-1) (by omega);have h5:=P.dX s (k-1);omega
       have ew:IntKind.u8.wrap ((x*64 % 4294967296+d) / 16)=P.dx (P.dv s) (3*q):=by rw[IntKind.wrap_u8,ev]
       clear hq hB ep ev;go_wp2_with (first|(go_at_call 249;refine(LM.out _).mono ?_;rintro e w' ⟨rfl,rfl⟩)|fail)
       refine(rR hB' (P.dx (P.dv s) (3*q)) (l':=P.fC (P.dv s) (3*q+1)) (by rw[P.dQ]) (by rw[P.gQ];have:=Hq.out;omega)).mono ?_;rintro e w2 ⟨rfl,hz⟩;go_wp2_with (fail)
       go_roundw;case rel=>exact⟨k+1,x*64 % 4294967296+d,by omega,by go_num,rfl,by rw[show ((6*(k+1) % 8:Nat):Int)=4 by have:=Hq.out;omega],XP,XQ,λ_=>by rw[Nat.add_sub_cancel,Hd.out];exact RL.out,Cv.out,by rw[show 6*(k+1) / 8=3*q+1 by have:=Hq.out;omega];exact hz⟩
       case measure=>simp[intOf];omega
      ·have ep:((6*k % 8:Nat):Int)=4:=by omega
       rw[ep];have Hq:=hid hq;have hB':Bd w (P.fC (P.dv s) (3*q+1)) wr:=by rw[show 6*k / 8=3*q+1 by omega] at hB;exact hB
       have ev:((x*64 % 4294967296+d) / 4) % 256=P.dx (P.dv s) (3*q+1):=by
        have h1:=RL.out;have h2:=Hyp.out (by omega);have h3:=Hd.out;rw[P.P9];rw[show 4*q+2=k by omega,show 4*q+1=k-1 by omega,h3];have h4:=eY.out (k-1) (by omega);have h5:=P.dX s (k-1);omega
       have ew:IntKind.u8.wrap ((x*64 % 4294967296+d) / 4)=P.dx (P.dv s) (3*q+1):=by rw[IntKind.wrap_u8,ev]
       clear hq hB ep ev;go_wp2_with (first|(go_at_call 249;refine(LM.out _).mono ?_;rintro e w' ⟨rfl,rfl⟩)|fail)
       refine(rR hB' (P.dx (P.dv s) (3*q+1)) (l':=P.fC (P.dv s) (3*q+2)) (by rw[P.dQ]) (by rw[P.gQ];have:=Hq.out;omega)).mono ?_;rintro e w2 ⟨rfl,hz⟩;go_wp2_with (fail)
       go_roundw;case rel=>exact⟨k+1,x*64 % 4294967296+d,by omega,by go_num,rfl,by rw[show ((6*(k+1) % 8:Nat):Int)=2 by have:=Hq.out;omega],XP,XQ,λ_=>by rw[Nat.add_sub_cancel,Hd.out];exact RL.out,Cv.out,by rw[show 6*(k+1) / 8=3*q+2 by have:=Hq.out;omega];exact hz⟩
       case measure=>simp[intOf];omega
      ·have ep:((6*k % 8:Nat):Int)=2:=by omega
       rw[ep];have Hq:=hid hq;have hB':Bd w (P.fC (P.dv s) (3*q+2)) wr:=by rw[show 6*k / 8=3*q+2 by omega] at hB;exact hB
       have ev:((x*64 % 4294967296+d)) % 256=P.dx (P.dv s) (3*q+2):=by
        have h1:=RL.out;have h2:=Hyp.out (by omega);have h3:=Hd.out;rw[P.P_];rw[show 4*q+3=k by omega,show 4*q+2=k-1 by omega,h3];have h4:=eY.out (k-1) (by omega);have h5:=P.dX s (k-1);omega
       have ew:IntKind.u8.wrap ((x*64 % 4294967296+d))=P.dx (P.dv s) (3*q+2):=by rw[IntKind.wrap_u8,ev]
       clear hq hB ep ev;go_wp2_with (first|(go_at_call 249;refine(LM.out _).mono ?_;rintro e w' ⟨rfl,rfl⟩)|fail)
       refine(rR hB' (P.dx (P.dv s) (3*q+2)) (l':=P.fC (P.dv s) (3*q+3)) (by rw[P.dQ]) (by rw[P.gQ];have:=Hq.out;omega)).mono ?_;rintro e w2 ⟨rfl,hz⟩;go_wp2_with (fail)
       go_roundw;case rel=>exact⟨k+1,x*64 % 4294967296+d,by omega,by go_num,rfl,by rw[show ((6*(k+1) % 8:Nat):Int)=0 by have:=Hq.out;omega],XP,XQ,λ_=>by rw[Nat.add_sub_cancel,Hd.out];exact RL.out,Cv.out,by rw[show 6*(k+1) / 8=3*q+3 by have:=Hq.out;omega];exact hz⟩
       case measure=>simp[intOf];omega
    ·obtain rfl:k=n:=by omega
     obtain⟨q,hq⟩:∃q,k=4*q\/k=4*q+2\/k=4*q+3:=⟨k / 4,by have:=H1.out;omega⟩;have eY:=hid hall;clear hall hk hlt;have wW:Hid (∀y∈P.fC (P.dv s) (6*k / 8),0<=y/\y<=255):=hid (λy hy=>by
      obtain⟨j,hj,rfl⟩:=List.mem_map.1 hy;have hj':=List.mem_range.1 hj;exact P.yt (n:=k) (λi hi=>⟨eY.out i hi,(P.dX s i).2⟩) (by omega))
     rcases hq with hq|hq|hq
     ·have ep:((6*k % 8:Nat):Int)=0:=by omega
      rw[ep];have ea:=P.Zm x hx0 hx1;have uM:=hid ((P.iX s).2 ⟨H1.out.1,H1.out.2.1,λi hi=>eY.out i (by rw[<-H1.out.2.2];exact hi),λh=>by rw[H1.out.2.2] at h;omega,λh=>by rw[H1.out.2.2] at h;omega⟩);clear hq ep hxk;go_wp2_with (fail)
      refine(nQ hB wW.out (s:=strOfNums (P.fC (P.dv s) (6*P.bl s / 8))) (by rw[H1.out.2.2])).mono ?_;rintro e w4 ⟨rfl,IB⟩;go_wp2_with (fail)
      go_ret2;exact⟨jV uM.out rfl,IB⟩
     ·have ep:((6*k % 8:Nat):Int)=4:=by omega
      rw[ep];have ea:=P.Vp x hx0 hx1;have IC:=hxk (by omega);by_cases hz:P.dv s (k-1) % 16=0
      ·have hx16:x % 16=0:=by omega
       have uM:=hid ((P.iX s).2 ⟨H1.out.1,H1.out.2.1,λi hi=>eY.out i (by rw[<-H1.out.2.2];exact hi),λh=>by rw[H1.out.2.2] at h⊢;omega,λh=>by rw[H1.out.2.2] at h⊢;omega⟩);clear hq ep hxk IC hz;go_wp2_with (fail)
       refine(nQ hB wW.out (s:=strOfNums (P.fC (P.dv s) (6*P.bl s / 8))) (by rw[H1.out.2.2])).mono ?_;rintro e w4 ⟨rfl,IB⟩;go_wp2_with (fail)
       go_ret2;exact⟨jV uM.out rfl,IB⟩
      ·have hx16:¬x % 16=0:=by omega
       have VD:(x % 16 == 0)=false:=by simp;omega
       have Hno:=hid (P.nJ (s:=s) (λh=>by have h1:=h.2.2.2.1;rw[H1.out.2.2] at h1;exact hz (h1 (by omega))));clear hq ep hxk IC hz;go_wp2_with (fail)
       go_ret2;exact⟨bT Hno.out rfl,hB.2⟩
     ·have ep:((6*k % 8:Nat):Int)=2:=by omega
      rw[ep];have ea:=P.Zl x hx0 hx1;have IC:=hxk (by omega);by_cases hz:P.dv s (k-1) % 4=0
      ·have hx16:x % 4=0:=by omega
       have uM:=hid ((P.iX s).2 ⟨H1.out.1,H1.out.2.1,λi hi=>eY.out i (by rw[<-H1.out.2.2];exact hi),λh=>by rw[H1.out.2.2] at h⊢;omega,λh=>by rw[H1.out.2.2] at h⊢;omega⟩);clear hq ep hxk IC hz;go_wp2_with (fail)
       refine(nQ hB wW.out (s:=strOfNums (P.fC (P.dv s) (6*P.bl s / 8))) (by rw[H1.out.2.2])).mono ?_;rintro e w4 ⟨rfl,IB⟩;go_wp2_with (fail)
       go_ret2;exact⟨jV uM.out rfl,IB⟩
      ·have hx16:¬x % 4=0:=by omega
       have VD:(x % 4 == 0)=false:=by simp;omega
       have Hno:=hid (P.nJ (s:=s) (λh=>by have h1:=h.2.2.2.2;rw[H1.out.2.2] at h1;exact hz (h1 (by omega))));clear hq ep hxk IC hz;go_wp2_with (fail)
       go_ret2;exact⟨bT Hno.out rfl,hB.2⟩
  ·have Hno:=hid (P.nJ (s:=s) (λh=>c2 h.2.1));have c1':(s.size:Int) % 4=0:=by omega
   have c2':2<(s.size:Int)-(P.bl s:Int):=by omega
   have hbl:(P.mH s).size=P.bl s:=rfl;clear hb2 hb3 hb4 c1 c2;go_enter func315,ntmps315;go_wp2_with (go_at_call 339;refine(fQ s _ (by unfold maxLen;omega)).mono ?_;rintro e w' ⟨rfl,rfl⟩)
   go_ret2;exact⟨bT Hno.out rfl,Below.refl _ _⟩
 ·have Hno:=hid (P.nJ (s:=s) (λh=>c1 h.1));have c1':¬(s.size:Int) % 4=0:=by omega
  have c1b:((s.size:Int) % 4 == 0)=false:=by simp;omega
  clear hb2 hb3 hb4 c1;go_enter func315,ntmps315;go_wp2_with (go_at_call 339;refine(fQ s _ (by unfold maxLen;omega)).mono ?_;rintro e w' ⟨rfl,rfl⟩)
  go_ret2;exact⟨bT Hno.out rfl,Below.refl _ _⟩
end Go.Proofs.YtboehbfagnocpaaGreatDoor.B3
namespace Go.Proofs.YtboehbfagnocpaaGreatDoor
open Go.RowKit Go.PlainAid Go.Shelf
def Er(w:World):Prop:=∃ev,w.cell? ⟨5,0,none⟩=some ev/\(ev=.nilIface\/∃te pe,ev=.iface te pe)
theorem Er.below{w w':World}(h:Er w)(hb:Below w.heap.size w w'):Er w':=by
 obtain⟨ev,h1,h2⟩:=h;refine⟨ev,(hb.cell ?_).trans h1,h2⟩;show 5<w.heap.size;rcases Nat.lt_or_ge 5 w.heap.size with h'|h'
 ·exact h'
 ·simp[World.cell?,Array.getElem?_eq_none h'] at h1
def FN(b:UInt8):Prop:=48<=b.toNat/\b.toNat<=57
theorem IE(b:UInt8):lH.data.toList.contains b=true↔FN b:=by
 have h:∀n,n<256->(lH.data.toList.contains (UInt8.ofNat n)=true↔(48<=n/\n<=57)):=by decide+kernel
 have:=h b.toNat (by have:=b.toNat_lt;omega);rw[show UInt8.ofNat b.toNat=b by simp] at this;exact this
instance:DecidablePred FN:=λb=>inferInstanceAs (Decidable (48<=b.toNat/\b.toNat<=57))
theorem vD(p:UInt8->Bool):∀l:List UInt8,l.dropWhile p= []↔∀b∈l,p b=true
 | []=>by simp
 |x :: l=>by
  rw[List.dropWhile_cons];by_cases hx:p x=true
  ·rw[if_pos hx,vD p l];simp[hx]
  ·rw[if_neg hx];simp[hx]
theorem yB{l:List UInt8}:Lib.trimS l lH.data.toList= []↔∀b∈l,FN b:=by
 have h1:(∀b∈l,FN b)↔∀b∈l.reverse,lH.data.toList.contains b=true:=by
  constructor
  ·exact λh b hb=>(IE b).2 (h b (List.mem_reverse.1 hb))
  ·exact λh b hb=>(IE b).1 (h b (List.mem_reverse.2 hb))
 rw[h1];unfold Lib.trimS Lib.trimLeftS Lib.trimRightS;rw[vD];constructor
 ·intro h;rw[<-vD (lH.data.toList.contains ·)];cases hd:l.reverse.dropWhile (lH.data.toList.contains ·) with
  |nil=>rfl
  |cons y m=>
   exfalso;have h2:=h y (by rw[hd];simp);have h3:=List.head_dropWhile_not (lH.data.toList.contains ·) (l:=l.reverse) (by rw[hd];simp);simp only[hd,List.head_cons] at h3;rw[h2] at h3;cases h3
 ·intro h;rw[(vD (lH.data.toList.contains ·) _).2 h];intro b hb;cases hb
def nm(l:List UInt8):Option Nat:=if l.length<=20 then (match Lib.parseUintB 64 l with| .ok u=>some u|_=>none) else none
def noSyn:Lib.NumEnd Nat->Bool
 | .ok _=>true
 | .range=>true
 |_=>false
theorem IG(M:Nat):∀(l:List UInt8) (acc:Nat),(∀b∈l,FN b)->noSyn (Lib.parseUintM M acc l)=true
 | [],acc,_=>by rw[Lib.parseUintM.eq_1];rfl
 |b :: l,acc,h=>by
  rw[Lib.parseUintM.eq_2,if_pos (show 48<=b.toNat/\b.toNat<=57 from h b List.mem_cons_self)];split
  ·rfl
  ·split
   ·rfl
   ·exact IG M l _ (λx hx=>h x (List.mem_cons_of_mem _ hx))
theorem Qg(M:Nat):∀(l:List UInt8) (acc u:Nat),Lib.parseUintM M acc l=.ok u->(∀b∈l,FN b)/\(acc<=M->u<=M)
 | [],acc,u,h=>by rw[Lib.parseUintM.eq_1] at h;cases h;exact⟨λb hb=>(by cases hb),id⟩
 |b :: l,acc,u,h=>by
  rw[Lib.parseUintM.eq_2] at h;split at h
  ·rename_i hb;split at h
   ·cases h
   ·split at h
    ·cases h
    ·rename_i h3;obtain⟨h1,h2⟩:=Qg M l _ u h;exact⟨λx hx=>(List.mem_cons.1 hx).elim (λe=>e ▸ hb) (h1 x),λ_=>h2 (by omega)⟩
  ·cases h
theorem mO{l:List UInt8}{u:Nat}(h:nm l=some u):l.length<=20/\Lib.parseUintB 64 l=.ok u/\1<=l.length/\(∀b∈l,FN b)/\u<18446744073709551616:=by
 unfold nm at h;split at h
 ·rename_i hl;cases hp:Lib.parseUintB 64 l with
  |ok v=>
   rw[hp] at h;cases h;have hp0:=hp;unfold Lib.parseUintB at hp;split at hp
   ·cases hp
   ·rename_i hne;obtain⟨h1,h2⟩:=Qg _ _ _ _ hp;exact⟨hl,rfl,List.length_pos_iff.2 hne,h1,by have:=h2 (Nat.zero_le _);omega⟩
  |_=>rw[hp] at h;cases h
 ·cases h
theorem vE{l:List UInt8}(h:¬(1<=l.length/\l.length<=20/\∀b∈l,FN b)):nm l=none:=by
 cases hn:nm l with
 |none=>rfl
 |some u=>obtain⟨h1,_,h3,h4,_⟩:=mO hn;exact absurd ⟨h3,h1,h4⟩ h
theorem yC{l:List UInt8}(h1:1<=l.length)(h:∀b∈l,FN b)(hn:nm l=none)(h2:l.length<=20):Lib.parseUintB 64 l=.range:=by
 unfold nm at hn;rw[if_pos h2] at hn;cases hp:Lib.parseUintB 64 l with
 |ok v=>rw[hp] at hn;cases hn
 |range=>rfl
 |_=>
  unfold Lib.parseUintB at hp;rw[if_neg (List.length_pos_iff.1 h1)] at hp;have hs:=IG (2 ^ 64-1) _ 0 h;rw[hp] at hs;cases hs
def NT(s:ByteArray)(k:Nat):Bool:=decide (1<=s.size/\s.size<=k/\∀b∈s.data.toList,FN b)
theorem rU{s:ByteArray}{k:Nat}(hk:k<=100)(w:World):Calls prog 226 #[.string s,.int .i64 k] w λe w'=>e=.returned (.bool (NT s k))/\Below w.heap.size w w':=by
 by_cases h0:s.size=0
 ·have h1:=(W2.dU h0).1;have HD:=hid (show NT s k=false from decide_eq_false (λh=>by have:=h.1;omega));clear h0;go_enter func226,ntmps226;go_wp2_with (fail)
  go_ret;exact⟨W2.ay HD.out.symm,Below.refl _ _⟩
 have h1:=(W2.bu (s:=s) (by omega)).1;by_cases hk2:s.size<=k
 ·have h2:(s.size:Int)<=(k:Int):=by omega
  have HT:=hid (uk s w (by omega));by_cases hd:Lib.trimS s.data.toList lH.data.toList= []
  ·rw[hd] at HT;have HD:=hid (show NT s k=true from decide_eq_true ⟨by omega,hk2,yB.1 hd⟩);clear h0 hk2 hd;go_enter func226,ntmps226
   go_wp2_with (first
    |(go_at_call 272;refine HT.out.mono ?_;rintro e w1 ⟨rfl,hb⟩))
   go_ret;exact⟨W2.ay HD.out.symm,hb⟩
  ·obtain⟨t,ht⟩:∃t:ByteArray,(⟨(Lib.trimS s.data.toList lH.data.toList).toArray⟩:ByteArray)=t:=⟨_,rfl⟩;rw[ht] at HT;have hne:t.toList.isEmpty=false:=by
    rw[ByteArray.toList_eq,<-ht];cases hx:Lib.trimS s.data.toList lH.data.toList with
    |nil=>exact absurd hx hd
    |cons a r=>rfl
   have HD:=hid (show NT s k=false from decide_eq_false (λh=>hd (yB.2 h.2.2)));clear h0 hk2 hd ht;go_enter func226,ntmps226
   go_wp2_with (first
    |(go_at_call 272;refine HT.out.mono ?_;rintro e w1 ⟨rfl,hb⟩))
   go_ret;exact⟨W2.ay HD.out.symm,hb⟩
 ·have h2:¬(s.size:Int)<=(k:Int):=by omega
  have HD:=hid (show NT s k=false from decide_eq_false (λh=>hk2 h.2.1));clear h0 hk2;go_enter func226,ntmps226;go_wp2_with (fail)
  go_ret;exact⟨W2.ay HD.out.symm,Below.refl _ _⟩
def oN(s:ByteArray):Value:=.tuple #[.int .u64 (((nm s.data.toList).getD 0:Nat):Int),.bool (nm s.data.toList).isSome]
theorem bK(s:ByteArray)(w:World)(hE:Er w):Calls prog 173 #[.string s] w λe w'=>e=.returned (oN s)/\Below w.heap.size w w':=by
 have HD:=hid (rU (s:=s) (k:=20) (by decide) w);have hl:s.data.toList.length=s.size:=by rw[Array.length_toList];rfl
 by_cases hd:NT s 20=true
 ·obtain⟨h1,h2,h3⟩:=of_decide_eq_true hd;rw[hd] at HD;cases hn:nm s.data.toList with
  |some u=>
   obtain⟨_,hp,_⟩:=mO hn;have HP:=hid (λw'=>Tryz.strconv_ParseUint_10_at64_ok s (by omega) u hp w');have HV:=hid (show oN s=.tuple #[.int .u64 u,.bool true] by unfold oN;rw[hn];rfl);clear h1 h2 h3 hd hn hp hl hE;go_enter func173,ntmps173
   go_wp2_with (first
    |(go_at_call 226;refine HD.out.mono ?_;rintro e w1 ⟨rfl,hb⟩)
    |(go_at_call 227;refine(HP.out _).mono ?_;rintro e w2 ⟨rfl,hb2⟩))
   go_ret2;refine⟨by rw[HV.out];rfl,?_⟩;rcases hb2 with rfl|rfl
   ·exact hb
   ·exact hb.trans (Joins.below_bytesWorld _ _ _ _ hb.size)
  |none=>
   have hp:=yC (by omega) h3 hn (by omega);have HP:Hid (∀w',Below w.heap.size w w'->Calls prog 227 #[.string s,.int .i64 10,.int .i64 64] w' λe w2=> ∃N,e=.returned (.tuple #[.int .u64 18446744073709551615,.iface 401 (.pointer (some ⟨N,0,none⟩))])/\Below w'.heap.size w' w2):=hid (λw' hb=>by
    obtain⟨ev,hv,hev⟩:=hE.below hb;refine(Tryz.strconv_ParseUint_10_at64_range s (by omega) hp ev w' hv hev).mono ?_;rintro e w2 ⟨N,he,_,_,hb2⟩;exact⟨N,he,hb2⟩)
   have HV:=hid (show oN s=.tuple #[.int .u64 0,.bool false] by unfold oN;rw[hn];rfl);clear h1 h2 h3 hd hn hp hl hE;go_enter func173,ntmps173
   go_wp2_with (first
    |(go_at_call 226;refine HD.out.mono ?_;rintro e w1 ⟨rfl,hb⟩)
    |(go_at_call 227;refine(HP.out _ hb).mono ?_;rintro e w2 ⟨N,rfl,hb2⟩))
   go_ret2;exact⟨by rw[HV.out];rfl,hb.trans (hb2.mono hb.size)⟩
 ·have hd':NT s 20=false:=by simpa using hd
  rw[hd'] at HD;have HV:=hid (show oN s=.tuple #[.int .u64 0,.bool false] by
   unfold oN;rw[vE (λh=>hd (decide_eq_true ⟨by omega,by omega,h.2.2⟩))];rfl)
  clear hd hl hE hd';go_enter func173,ntmps173
  go_wp2_with (first
   |(go_at_call 226;refine HD.out.mono ?_;rintro e w1 ⟨rfl,hb⟩))
  go_ret2;exact⟨by rw[HV.out];rfl,hb⟩
def body(l:List UInt8):List UInt8:=Lib.trimPrefix l [45]
def neg(l:List UInt8):Bool:=l.head? == some 45
theorem II:body []= []:=rfl
theorem kK(c:UInt8)(r:List UInt8):body (c :: r)=if c=45 then r else c :: r:=by
 unfold body Lib.trimPrefix Lib.hasPrefix;by_cases h:c=45
 ·subst h;simp[List.isPrefixOf]
 ·rw[if_neg (by simp[List.isPrefixOf];exact λe=>h e.symm),if_neg h]
def Ee(l:List UInt8):Option Int:=
 if (body l).length<=19 then
  match nm (body l) with
  |some n=>if 9223372036854775808<n\/(n=9223372036854775808/\neg l=false) then none else some (if neg l then-(n:Int) else n)
  |none=>none
 else none
theorem VE{l:List UInt8}(h1:1<=(body l).length)(h2:(body l).length<=19)(h3:∀b∈body l,FN b):
 (∃v,Ee l=some v/\Lib.parseIntB 64 l=.ok v)\/(Ee l=none/\Lib.parseIntB 64 l=.range):=by
 cases l with
 |nil=>rw[II] at h1;simp at h1
 |cons c r=>
  have hb:=kK c r;have hn:neg (c :: r)=decide (c=45):=by by_cases h:c=45<;>simp[neg,h]
  have hc:(if c.toNat=43\/c.toNat=45 then r else c :: r)=body (c :: r):=by
   rw[hb];by_cases h:c=45
   ·subst h;rfl
   ·rw[if_neg h];rw[hb,if_neg h] at h3;have hd:=h3 c List.mem_cons_self;have h4:c.toNat≠45:=λe=>h (UInt8.toNat_inj.1 e)
    rw[if_neg (by have:=hd.1;omega)]
  have hg:(c.toNat=45)↔c=45:=⟨λe=>UInt8.toNat_inj.1 e,λe=>by rw[e];rfl⟩
  have hs:Ee (c :: r)=match nm (body (c :: r)) with
   |some n=>if 9223372036854775808<n\/(n=9223372036854775808/\neg (c :: r)=false) then none else some (if neg (c :: r) then-(n:Int) else n)
   |none=>none:=by
   unfold Ee;rw[if_pos h2]
  rw[hs];unfold Lib.parseIntB;dsimp only;rw[hc];cases hp:nm (body (c :: r)) with
  |none=>
   rw[yC h1 h3 hp (by omega)];exact .inr ⟨rfl,rfl⟩
  |some n=>
   obtain⟨_,h5,_⟩:=mO hp;rw[h5];dsimp only;rw[hn,show (2:Nat) ^ (64-1)=9223372036854775808 from rfl];by_cases h:c=45
   ·have h':=hg.2 h;rw[decide_eq_true h,if_neg (show¬(¬c.toNat=45/\9223372036854775808<=n) from λx=>x.1 h'),if_pos (show true=true from rfl),if_pos h'];by_cases h6:9223372036854775808<n
    ·rw[if_pos (.inl h6),if_pos ⟨h',h6⟩];exact .inr ⟨rfl,rfl⟩
    ·rw[if_neg (λx=>x.elim h6 (λy=>by cases y.2)),if_neg (λx=>h6 x.2)];exact .inl ⟨_,rfl,rfl⟩
   ·have h':¬c.toNat=45:=λe=>h (hg.1 e)
    rw[decide_eq_false h,if_neg (show¬(c.toNat=45/\9223372036854775808<n) from λx=>h' x.1),if_neg (show¬false=true by decide),if_neg h'];by_cases h6:9223372036854775808<=n
    ·have h7:9223372036854775808<n\/(n=9223372036854775808/\false=false):=(Nat.lt_or_eq_of_le h6).imp id (λe=>⟨e.symm,rfl⟩);rw[if_pos h7,if_pos ⟨h',h6⟩];exact .inr ⟨rfl,rfl⟩
    ·rw[if_neg (by omega),if_neg (λx=>h6 x.2)];exact .inl ⟨_,rfl,rfl⟩
theorem RN{l:List UInt8}(h:¬(1<=(body l).length/\(body l).length<=19/\∀b∈body l,FN b)):Ee l=none:=by
 unfold Ee;split
 ·rename_i h2;rw[vE (λh3=>h ⟨h3.1,h2,h3.2.2⟩)]
 ·rfl
def AA(s:ByteArray):Value:=.tuple #[.int .i64 ((Ee s.data.toList).getD 0),.bool (Ee s.data.toList).isSome]
theorem rV(s:ByteArray)(w:World)(hs:s.size<=1000000)(hE:Er w):Calls prog 360 #[.string s] w λe w'=>e=.returned (AA s)/\Below w.heap.size w w':=by
 obtain⟨b,hb⟩:∃b:ByteArray,(⟨(body s.data.toList).toArray⟩:ByteArray)=b:=⟨_,rfl⟩;have hbl:b.data.toList=body s.data.toList:=by rw[<-hb]
 have hbs:b.size=(body s.data.toList).length:=by rw[<-hbl,Array.length_toList];rfl
 have HX:Hid (Calls prog 363 #[.string s,.string ⟨#[45]⟩] w λe w'=>e=.returned (.string b)/\w=w'):=hid ((Tryz.strings_TrimPrefix s ⟨#[45]⟩ w).mono (by rintro e w' ⟨rfl,rfl⟩;exact⟨by rw[<-hb];rfl,rfl⟩));have HD:=hid (rU (s:=b) (k:=19) (by decide) w);by_cases hd:NT b 19=true
 ·obtain⟨h1,h2,h3⟩:=of_decide_eq_true hd;rw[hd] at HD;rcases VE (l:=s.data.toList) (by omega) (by omega) (hbl ▸ h3) with ⟨v,hv,hp⟩|⟨hv,hp⟩
  ·have HP:=hid (λw'=>Tryz.strconv_ParseInt_10_at64_ok s (by omega) v hp w');have HV:=hid (show AA s=.tuple #[.int .i64 v,.bool true] by unfold AA;rw[hv];rfl);clear h1 h2 h3 hd hv hp hE hbl hbs hb;go_enter func360,ntmps360
   go_wp2_with (first
    |(go_at_call 363;refine HX.out.mono ?_;rintro e w1 ⟨rfl,rfl⟩)
    |(go_at_call 226;refine HD.out.mono ?_;rintro e w1 ⟨rfl,hb⟩)
    |(go_at_call 364;refine(HP.out _).mono ?_;rintro e w2 ⟨rfl,hb2⟩))
   go_ret2;refine⟨by rw[HV.out];rfl,?_⟩;rcases hb2 with rfl|⟨t,rfl⟩
   ·exact hb
   ·exact hb.trans (Joins.below_bytesWorld _ _ _ _ hb.size)
  ·have HP:Hid (∀w',Below w.heap.size w w'->Calls prog 364 #[.string s,.int .i64 10,.int .i64 64] w' λe w2=> ∃N x,e=.returned (.tuple #[.int .i64 x,.iface 401 (.pointer (some ⟨N,0,none⟩))])/\Below w'.heap.size w' w2):=hid (λw' hb=>by
    obtain⟨ev,hv,hev⟩:=hE.below hb;refine(Tryz.strconv_ParseInt_10_at64_range s (by omega) hp ev w' hv hev).mono ?_;rintro e w2 ⟨N,he,_,_,hb2⟩;exact⟨N,_,he,hb2⟩)
   have HV:=hid (show AA s=.tuple #[.int .i64 0,.bool false] by unfold AA;rw[hv];rfl);clear h1 h2 h3 hd hv hp hE hbl hbs hb;go_enter func360,ntmps360
   go_wp2_with (first
    |(go_at_call 363;refine HX.out.mono ?_;rintro e w1 ⟨rfl,rfl⟩)
    |(go_at_call 226;refine HD.out.mono ?_;rintro e w1 ⟨rfl,hb⟩)
    |(go_at_call 364;refine(HP.out _ hb).mono ?_;rintro e w2 ⟨N,x,rfl,hb2⟩))
   go_ret2;exact⟨by rw[HV.out];rfl,hb.trans (hb2.mono hb.size)⟩
 ·have hd':NT b 19=false:=by simpa using hd
  rw[hd'] at HD;have HV:=hid (show AA s=.tuple #[.int .i64 0,.bool false] by
   unfold AA;rw[RN (λh=>hd (decide_eq_true ⟨by omega,by omega,hbl ▸ h.2.2⟩))];rfl)
  clear hd hE hd' hbl hbs hb;go_enter func360,ntmps360
  go_wp2_with (first
   |(go_at_call 363;refine HX.out.mono ?_;rintro e w1 ⟨rfl,rfl⟩)
   |(go_at_call 226;refine HD.out.mono ?_;rintro e w1 ⟨rfl,hb⟩))
  go_ret2;exact⟨by rw[HV.out];rfl,hb⟩
def sc(l:List UInt8):Bool:=match Ee l with|some v=>decide (-1099511627776<=v/\v<=1099511627776)|none=>false
def pQ(s:ByteArray)(w:World)(e:Ending)(w':World):Prop:=∃v,e=.returned (.tuple #[.int .i64 v,.bool (sc s.data.toList)])/\Below w.heap.size w w'
theorem mP(s:ByteArray)(w:World)(hs:s.size<=1000000)(hE:Er w):Calls prog 348 #[.string s] w (pQ s w):=by
 have HS:=hid (rV s w hs hE);unfold AA at HS;cases h:Ee s.data.toList with
 |none=>
  rw[h] at HS;simp only[Option.getD_none,Option.isSome_none] at HS;have HV:=hid (show sc s.data.toList=false by unfold sc;rw[h]);clear h hE;go_enter func348,ntmps348;go_wp2_with (go_at_call 360;refine HS.out.mono ?_;rintro e w1 ⟨rfl,hb⟩)
  go_ret2;exact⟨0,by rw[HV.out];rfl,hb⟩
 |some v=>
  rw[h] at HS;simp only[Option.getD_some,Option.isSome_some] at HS;have HV:=hid (show sc s.data.toList=decide (-1099511627776<=v/\v<=1099511627776) by unfold sc;rw[h]);clear h hE;by_cases h1: -1099511627776<=v
  ·go_enter func348,ntmps348;go_wp2_with (go_at_call 360;refine HS.out.mono ?_;rintro e w1 ⟨rfl,hb⟩)
   go_ret2;exact⟨v,by rw[HV.out,show decide (-1099511627776<=v/\v<=1099511627776)=decide (v<=1099511627776) from decide_eq_decide.2 ⟨λh=>h.2,λh=>⟨h1,h⟩⟩];rfl,hb⟩
  ·go_enter func348,ntmps348;go_wp2_with (go_at_call 360;refine HS.out.mono ?_;rintro e w1 ⟨rfl,hb⟩)
   go_ret2;exact⟨v,by rw[HV.out,show decide (-1099511627776<=v/\v<=1099511627776)=false from decide_eq_false (λh=>by omega)];rfl,hb⟩
theorem IJ(s:ByteArray)(w:World)(hs:s.size<=1000000)(hE:Er w):Calls prog 359 #[.string s] w (pQ s w):=by
 have HS:=hid (rV s w hs hE);unfold AA at HS;cases h:Ee s.data.toList with
 |none=>
  rw[h] at HS;simp only[Option.getD_none,Option.isSome_none] at HS;have HV:=hid (show sc s.data.toList=false by unfold sc;rw[h]);clear h hE;go_enter func359,ntmps359;go_wp2_with (go_at_call 360;refine HS.out.mono ?_;rintro e w1 ⟨rfl,hb⟩)
  go_ret2;exact⟨0,by rw[HV.out];rfl,hb⟩
 |some v=>
  rw[h] at HS;simp only[Option.getD_some,Option.isSome_some] at HS;have HV:=hid (show sc s.data.toList=decide (-1099511627776<=v/\v<=1099511627776) by unfold sc;rw[h]);clear h hE;by_cases h1: -1099511627776<=v
  ·go_enter func359,ntmps359;go_wp2_with (go_at_call 360;refine HS.out.mono ?_;rintro e w1 ⟨rfl,hb⟩)
   go_ret2;exact⟨v,by rw[HV.out,show decide (-1099511627776<=v/\v<=1099511627776)=decide (v<=1099511627776) from decide_eq_decide.2 ⟨λh=>h.2,λh=>⟨h1,h⟩⟩];rfl,hb⟩
  ·go_enter func359,ntmps359;go_wp2_with (go_at_call 360;refine HS.out.mono ?_;rintro e w1 ⟨rfl,hb⟩)
   go_ret2;exact⟨v,by rw[HV.out,show decide (-1099511627776<=v/\v<=1099511627776)=false from decide_eq_false (λh=>by omega)];rfl,hb⟩
theorem RO{s:ByteArray}{X:Lib.NumEnd Nat}(h1:1<=s.size)(h2:s.size<=20)(h:Lib.parseUintM 18446744073709551615 0 (W2.P.sl s)=X):
 oN s=match X with| .ok u=> .tuple #[.int .u64 u,.bool true]|_=> .tuple #[.int .u64 0,.bool false]:=by
 have hl:s.data.toList.length=s.size:=by rw[Array.length_toList];rfl
 have hp:Lib.parseUintB 64 s.data.toList=X:=by
  unfold Lib.parseUintB;rw[if_neg (λe=>by rw[e] at hl;simp at hl;omega)];exact h
 unfold oN nm;rw[if_pos (by omega),hp];cases X<;>rfl
theorem bQ(s:ByteArray)(w:World)(hs:s.size<=1000000):Calls prog 152 #[.string s] w λe w'=>e=.returned (oN s)/\w=w':=by
 have hl:s.data.toList.length=s.size:=by rw[Array.length_toList];rfl
 have hb:=get_bt s;by_cases h1:s.size<1
 ·have HV:=hid (show oN s=.tuple #[.int .u64 0,.bool false] by unfold oN;rw[vE (λh=>by omega)];rfl);have h1':(s.size:Int)<1:=by omega
  clear hl;go_enter func152,ntmps152;go_wp2
  go_ret2;exact⟨by rw[HV.out];rfl,rfl⟩
 by_cases h2:s.size<=20
 ·obtain⟨X,hX⟩:∃X,Lib.parseUintM 18446744073709551615 0 (W2.P.sl s)=X:=⟨_,rfl⟩;have HV:=hid (RO (by omega) h2 hX);have hX':Lib.parseUintM 18446744073709551615 0 ((W2.P.sl s).drop 0)=X:=by rw[List.drop_zero];exact hX
  have HX:=hid hX';have h1':¬(s.size:Int)<1:=by omega
  have h2':¬(s.size:Int) > 20:=by omega
  clear hl hX';go_enter func152,ntmps152;go_wp2
  go_loop [4,5] (λn i=> ∃k m:Nat,k<=s.size/\i=.int .i64 k/\n=.int .u64 m/\m<18446744073709551616/\Hid (Lib.parseUintM 18446744073709551615 m ((W2.P.sl s).drop k)=X)) (λn i=>s.size-(intOf i).toNat)
  case atStart=>exact⟨0,0,Nat.zero_le _,rfl,rfl,by decide,HX⟩
  case round=>
   obtain⟨k,m,hk,rfl,rfl,hm,HK⟩:=hrel;by_cases hlt:k<s.size
   ·have hn:=bt_nonneg s k;have hle:=bt_le s k;obtain⟨c,hc1,hc2⟩:=W2.P.lF hlt;have H3:=HK.out;rw[W2.P.drop_at hc1,Lib.parseUintM.eq_2] at H3;by_cases hd1:bt s k<48
    ·rw[if_neg (by omega)] at H3;subst H3;go_wp2
     go_ret2;exact⟨by rw[HV.out];rfl,rfl⟩
    ·by_cases hd2:57<bt s k
     ·rw[if_neg (by omega)] at H3;subst H3;go_wp2
      go_ret2;exact⟨by rw[HV.out];rfl,rfl⟩
     ·rw[if_pos (by omega)] at H3;obtain⟨d,hd⟩:∃d:Nat,bt s k=48+d:=⟨(bt s k-48).toNat,by omega⟩;have hcd:c.toNat-48=d:=by omega
      rw[hcd] at H3;have e1:IntKind.u8.wrap (bt s k-48)=d:=by rw[IntKind.wrap_u8];omega
      have hd9:d<=9:=by omega
      by_cases ho:18446744073709551615<10*m+d
      ·have hX:X=.range:=by
        rw[<-H3];by_cases h5:1844674407370955162<=m
        ·rw[if_pos h5]
        ·rw[if_neg h5,if_pos (by omega)]
       subst hX;have e2:(18446744073709551615-(d:Int)) / 10<(m:Int):=by omega
       go_wp2
       go_ret2;exact⟨by rw[HV.out];rfl,rfl⟩
      ·rw[if_neg (by omega),if_neg (by omega)] at H3;have H4:=hid H3;have e2:¬(18446744073709551615-(d:Int)) / 10<(m:Int):=by omega
       clear H3 HK;go_wp2
       go_round
       case rel=>exact⟨k+1,m*10+d,by omega,by go_num,by go_num,by omega,H4⟩
       case measure=>simp[intOf];omega
   ·obtain rfl:k=s.size:=by omega
    have H3:=HK.out;rw[List.drop_of_length_le (by rw[W2.P.bS];exact Nat.le_refl _),Lib.parseUintM.eq_1] at H3;subst H3;go_wp2
    go_ret2;exact⟨by rw[HV.out];rfl,rfl⟩
 ·have HV:=hid (show oN s=.tuple #[.int .u64 0,.bool false] by unfold oN;rw[vE (λh=>by omega)];rfl);have h1':¬(s.size:Int)<1:=by omega
  have h2':(s.size:Int) > 20:=by omega
  clear hl;go_enter func152,ntmps152;go_wp2
  go_ret2;exact⟨by rw[HV.out];rfl,rfl⟩
theorem IK{s b:ByteArray}(hb:b.data.toList=body s.data.toList):AA s=match nm b.data.toList with
 |some n=>if b.size<=19/\¬(9223372036854775808<n\/(n=9223372036854775808/\neg s.data.toList=false)) then .tuple #[.int .i64 (if neg s.data.toList then-(n:Int) else n),.bool true] else .tuple #[.int .i64 0,.bool false]
 |none=> .tuple #[.int .i64 0,.bool false]:=by
 have hbs:b.size=(body s.data.toList).length:=by rw[<-hb,Array.length_toList];rfl
 unfold AA Ee;rw[hb,hbs];by_cases h1:(body s.data.toList).length<=19
 ·rw[if_pos h1];cases hn:nm (body s.data.toList) with
  |none=>rfl
  |some n=>
   dsimp only;by_cases h2:9223372036854775808<n\/(n=9223372036854775808/\neg s.data.toList=false)
   ·rw[if_pos h2,if_neg (λh=>h.2 h2)];rfl
   ·have h3:(body s.data.toList).length<=19/\¬(9223372036854775808<n\/(n=9223372036854775808/\neg s.data.toList=false)):=⟨h1,h2⟩;rw[if_neg h2,if_pos h3];rfl
 ·rw[if_neg h1];cases hn:nm (body s.data.toList) with
  |none=>rfl
  |some n=>dsimp only;rw[if_neg (λh=>h1 h.1)];rfl
theorem sZ(s:ByteArray)(w:World)(hs:s.size<=1000000):Calls prog 221 #[.string s] w λe w'=>e=.returned (AA s)/\w=w':=by
 have hl:s.data.toList.length=s.size:=by rw[Array.length_toList];rfl
 have hbt:=get_bt s;by_cases h0:s.size=0
 ·have hd:s.data.toList= []:=List.eq_nil_of_length_eq_zero (by omega);have HV:=hid (show AA s=.tuple #[.int .i64 0,.bool false] by unfold AA;rw[hd];rfl);have HP:=hid (bQ s w hs);unfold oN at HP;rw[hd,show nm []=none from rfl] at HP;simp only[Option.getD_none,Option.isSome_none] at HP;have h0':¬(0:Int)<(s.size:Int):=by omega
  clear hl hd h0;go_enter func221,ntmps221;go_wp2_with (go_at_call 152;refine HP.out.mono ?_;rintro e w1 ⟨rfl,rfl⟩)
  go_ret2;exact⟨by rw[HV.out];rfl,rfl⟩
 obtain⟨c,hc1,hc2⟩:=W2.P.lF (s:=s) (i:=0) (by omega);have h0':(0:Int)<(s.size:Int):=by omega
 have ad3:0<s.size:=by omega
 have hh:s.data.toList.head?=some c:=by rw[List.head?_eq_getElem?];exact hc1
 obtain⟨r,hr⟩:∃r,s.data.toList=c :: r:=by
  cases hx:s.data.toList with
  |nil=>rw[hx] at hh;cases hh
  |cons a r=>rw[hx] at hh;cases hh;exact⟨r,rfl⟩
 by_cases h45:c=45
 ·have hb0:bt s 0=45:=by rw[hc2,h45];rfl
  obtain⟨b,hb⟩:∃b,s.extract 1 s.size=b:=⟨_,rfl⟩;have hbl:b.data.toList=body s.data.toList:=by
   rw[<-hb,W2.P.extract_mk,List.take_of_length_le (by rw[W2.P.bS];exact Nat.le_refl _)];show (List.drop 1 s.data.toList).toArray.toList=_;rw[hr,kK,if_pos h45];simp
  have Ef:neg s.data.toList=true:=by rw[hr,h45];rfl
  have hbz:b.size<=1000000:=by
   have:b.size=b.data.toList.length:=by rw[Array.length_toList];rfl
   rw[this,hbl,hr,kK,if_pos h45];rw[hr] at hl;simp at hl;omega
  have hV:=IK hbl;rw[Ef] at hV;have HP:=hid (bQ b w hbz);unfold oN at HP;cases hn:nm b.data.toList with
  |none=>
   rw[hn] at HP hV;simp only[Option.getD_none,Option.isSome_none] at HP;have HV:=hid hV;clear hl hr hh h0 hV hbl hn hc1 hc2 Ef hbz;go_enter func221,ntmps221;go_wp2_with (go_at_call 152;refine HP.out.mono ?_;rintro e w1 ⟨rfl,rfl⟩)
   go_ret2;exact⟨by rw[HV.out];rfl,rfl⟩
  |some n=>
   have hn2:=(mO hn).2.2.2.2;rw[hn] at HP hV;simp only[Option.getD_some,Option.isSome_some] at HP;dsimp only at hV;simp only[Bool.true_eq_false,and_false,or_false,if_true] at hV;by_cases hz:b.size<=19
   ·have Zy:¬(b.size:Int) > 19:=by omega
    by_cases hg:9223372036854775808<n
    ·rw[if_neg (λh=>h.2 hg)] at hV;have Zz:(9223372036854775808:Int)<n:=by omega
     have HV:=hid hV;clear hl hr hh h0 hV hbl hn hc1 hc2 Ef hbz hz;go_enter func221,ntmps221;go_wp2_with (go_at_call 152;refine HP.out.mono ?_;rintro e w1 ⟨rfl,rfl⟩)
     go_ret2;exact⟨by rw[HV.out];rfl,rfl⟩
    ·rw[if_pos ⟨hz,hg⟩] at hV;have Zz:¬(9223372036854775808:Int)<n:=by omega
     have HV:=hid hV;by_cases he:n=9223372036854775808
     ·subst he;clear hl hr hh h0 hV hbl hn hc1 hc2 Ef hbz hz;go_enter func221,ntmps221;go_wp2_with (go_at_call 152;refine HP.out.mono ?_;rintro e w1 ⟨rfl,rfl⟩)
      go_ret2;exact⟨by rw[HV.out];simp[show wrap64 (IntKind.u64.wrap (-9223372036854775808))= -9223372036854775808 by decide+kernel],rfl⟩
     ·have heB:((n:Int) == 9223372036854775808)=false:=by simp;omega
      have e1:wrap64 (IntKind.u64.wrap (-(n:Int)))= -(n:Int):=by rw[IntKind.wrap_u64];unfold wrap64;omega
      clear hl hr hh h0 hV hbl hn hc1 hc2 Ef hbz hz he;go_enter func221,ntmps221;go_wp2_with (go_at_call 152;refine HP.out.mono ?_;rintro e w1 ⟨rfl,rfl⟩)
      go_ret2;exact⟨by rw[HV.out];simp[e1],rfl⟩
   ·have Zy:(b.size:Int) > 19:=by omega
    rw[if_neg (λh=>hz h.1)] at hV;have HV:=hid hV;clear hl hr hh h0 hV hbl hn hc1 hc2 Ef hbz hz;go_enter func221,ntmps221;go_wp2_with (go_at_call 152;refine HP.out.mono ?_;rintro e w1 ⟨rfl,rfl⟩)
    go_ret2;exact⟨by rw[HV.out];rfl,rfl⟩
 ·have hb0:¬bt s 0=45:=λh=>h45 (W2.P.qo (by rw[<-hc2,h];rfl))
  have ad5:(bt s 0 == 45)=false:=by simp[hb0]
  have Ef:neg s.data.toList=false:=by rw[hr];simp[neg,h45]
  have hbl:s.data.toList=body s.data.toList:=by rw[hr,kK,if_neg h45]
  have hV:=IK hbl;rw[Ef] at hV;have HP:=hid (bQ s w hs);unfold oN at HP;cases hn:nm s.data.toList with
  |none=>
   rw[hn] at HP hV;simp only[Option.getD_none,Option.isSome_none] at HP;have HV:=hid hV;clear hl hr hh h0 hV hbl hn hc1 hc2 Ef hb0;go_enter func221,ntmps221;go_wp2_with (go_at_call 152;refine HP.out.mono ?_;rintro e w1 ⟨rfl,rfl⟩)
   go_ret2;exact⟨by rw[HV.out];rfl,rfl⟩
  |some n=>
   have hn2:=(mO hn).2.2.2.2;rw[hn] at HP hV;simp only[Option.getD_some,Option.isSome_some] at HP;dsimp only at hV;simp only[and_true,Bool.false_eq_true,if_false] at hV;by_cases hz:s.size<=19
   ·have Zy:¬(s.size:Int) > 19:=by omega
    by_cases hg:9223372036854775808<n
    ·rw[if_neg (λh=>h.2 (.inl hg))] at hV;have Zz:(9223372036854775808:Int)<n:=by omega
     have HV:=hid hV;clear hl hr hh h0 hV hbl hn hc1 hc2 Ef hz hb0;go_enter func221,ntmps221;go_wp2_with (go_at_call 152;refine HP.out.mono ?_;rintro e w1 ⟨rfl,rfl⟩)
     go_ret2;exact⟨by rw[HV.out];rfl,rfl⟩
    ·by_cases he:n=9223372036854775808
     ·subst he;rw[if_neg (λh=>h.2 (.inr rfl))] at hV;have HV:=hid hV;clear hl hr hh h0 hV hbl hn hc1 hc2 Ef hz hb0;go_enter func221,ntmps221;go_wp2_with (go_at_call 152;refine HP.out.mono ?_;rintro e w1 ⟨rfl,rfl⟩)
      go_ret2;exact⟨by rw[HV.out];rfl,rfl⟩
     ·rw[if_pos ⟨hz,λh=>h.elim hg he⟩] at hV;have Zz:¬(9223372036854775808:Int)<n:=by omega
      have heI:¬(n:Int)=9223372036854775808:=by omega
      have heB:((n:Int) == 9223372036854775808)=false:=by simp;omega
      have HV:=hid hV;have e1:IntKind.i64.wrap (n:Int)=(n:Int):=by rw[IntKind.wrap_i64];omega
      clear hl hr hh h0 hV hbl hn hc1 hc2 Ef hz hb0 he;go_enter func221,ntmps221;go_wp2_with (go_at_call 152;refine HP.out.mono ?_;rintro e w1 ⟨rfl,rfl⟩)
      go_ret2;exact⟨by rw[HV.out];simp[e1],rfl⟩
   ·have Zy:(s.size:Int) > 19:=by omega
    rw[if_neg (λh=>hz h.1)] at hV;have HV:=hid hV;clear hl hr hh h0 hV hbl hn hc1 hc2 Ef hz hb0;go_enter func221,ntmps221;go_wp2_with (go_at_call 152;refine HP.out.mono ?_;rintro e w1 ⟨rfl,rfl⟩)
    go_ret2;exact⟨by rw[HV.out];rfl,rfl⟩
theorem jW(s:ByteArray)(w:World)(hs:s.size<=1000000):Calls prog 158 #[.string s] w (pQ s w):=by
 have HS:=hid (sZ s w hs);unfold AA at HS;cases h:Ee s.data.toList with
 |none=>
  rw[h] at HS;simp only[Option.getD_none,Option.isSome_none] at HS;have HV:=hid (show sc s.data.toList=false by unfold sc;rw[h]);clear h;go_enter func158,ntmps158;go_wp2_with (go_at_call 221;refine HS.out.mono ?_;rintro e w1 ⟨rfl,rfl⟩)
  go_ret2;exact⟨0,by rw[HV.out];rfl,Below.refl _ _⟩
 |some v=>
  rw[h] at HS;simp only[Option.getD_some,Option.isSome_some] at HS;have HV:=hid (show sc s.data.toList=decide (-1099511627776<=v/\v<=1099511627776) by unfold sc;rw[h]);clear h;by_cases h1:v< -1099511627776
  ·go_enter func158,ntmps158;go_wp2_with (go_at_call 221;refine HS.out.mono ?_;rintro e w1 ⟨rfl,rfl⟩)
   go_ret2;exact⟨0,by rw[HV.out,show decide (-1099511627776<=v/\v<=1099511627776)=false from decide_eq_false (λh=>by omega)];rfl,Below.refl _ _⟩
  by_cases h2:1099511627776<v
  ·go_enter func158,ntmps158;go_wp2_with (go_at_call 221;refine HS.out.mono ?_;rintro e w1 ⟨rfl,rfl⟩)
   go_ret2;exact⟨0,by rw[HV.out,show decide (-1099511627776<=v/\v<=1099511627776)=false from decide_eq_false (λh=>by omega)];rfl,Below.refl _ _⟩
  go_enter func158,ntmps158;go_wp2_with (go_at_call 221;refine HS.out.mono ?_;rintro e w1 ⟨rfl,rfl⟩)
  go_ret2;exact⟨v,by rw[HV.out,show decide (-1099511627776<=v/\v<=1099511627776)=true from decide_eq_true ⟨by omega,by omega⟩];rfl,Below.refl _ _⟩
end Go.Proofs.YtboehbfagnocpaaGreatDoor
namespace Go.Proofs.YtboehbfagnocpaaGreatDoor.GB
open Go.RowKit Go.PlainAid
inductive Rs|other|bad (t:ByteArray) (used:Nat)
def bg:ByteArray:=⟨#[69,82,82,79,82]⟩
def bD:ByteArray:=⟨#[67,76,73,69,78,84,95,69,82,82,79,82,32,98,97,100,32,99,111,109,109,97,110,100,32,108,105,110,101,32,102,111,114,109,97,116]⟩
def mQ:ByteArray:=⟨#[67,76,73,69,78,84,95,69,82,82,79,82,32,105,110,118,97,108,105,100,32,101,120,112,116,105,109,101,32,97,114,103,117,109,101,110,116]⟩
def NU:ByteArray:=⟨#[67,76,73,69,78,84,95,69,82,82,79,82,32,105,110,118,97,108,105,100,32,110,117,109,101,114,105,99,32,100,101,108,116,97,32,97,114,103,117,109,101,110,116]⟩
def nR:ByteArray:=⟨#[67,76,73,69,78,84,95,69,82,82,79,82,32,98,97,100,32,100,97,116,97,32,99,104,117,110,107]⟩
def NV:ByteArray:=⟨#[67,76,73,69,78,84,95,69,82,82,79,82,32,105,110,118,97,108,105,100,32,102,108,97,103]⟩
def NW:ByteArray:=⟨#[67,76,73,69,78,84,95,69,82,82,79,82,32,100,117,112,108,105,99,97,116,101,32,102,108,97,103]⟩
def NY:ByteArray:=⟨#[67,76,73,69,78,84,95,69,82,82,79,82,32,98,97,100,32,116,111,107,101,110,32,105,110,32,99,111,109,109,97,110,100,32,108,105,110,101,32,102,111,114,109,97,116]⟩
def fu:ByteArray:=⟨#[110,111,114,101,112,108,121]⟩
def yD:ByteArray:=⟨#[103,101,116]⟩
def jX:ByteArray:=⟨#[103,101,116,115]⟩
def nS:ByteArray:=⟨#[103,97,116]⟩
def gq:ByteArray:=⟨#[103,97,116,115]⟩
def AB:ByteArray:=⟨#[115,101,116]⟩
def AJ:ByteArray:=⟨#[97,100,100]⟩
def gW:ByteArray:=⟨#[114,101,112,108,97,99,101]⟩
def jc:ByteArray:=⟨#[97,112,112,101,110,100]⟩
def gX:ByteArray:=⟨#[112,114,101,112,101,110,100]⟩
def gB:ByteArray:=⟨#[99,97,115]⟩
def mR:ByteArray:=⟨#[105,110,99,114]⟩
def mU:ByteArray:=⟨#[100,101,99,114]⟩
def fw:ByteArray:=⟨#[116,111,117,99,104]⟩
def eD:ByteArray:=⟨#[100,101,108,101,116,101]⟩
def fZ:ByteArray:=⟨#[102,108,117,115,104,95,97,108,108]⟩
def bN:ByteArray:=⟨#[118,101,114,98,111,115,105,116,121]⟩
def dY:ByteArray:=⟨#[118,101,114,115,105,111,110]⟩
def kX:ByteArray:=⟨#[113,117,105,116]⟩
def gY:ByteArray:=⟨#[115,116,97,116,115]⟩
def zero:ByteArray:=⟨#[48]⟩
def wd(w:List ByteArray)(i:Nat):ByteArray:=w[i]?.getD ⟨#[]⟩
def num(s:ByteArray):Option Nat:=nm s.data.toList
def sec(s:ByteArray):Bool:=sc s.data.toList
def off(w:List ByteArray):List ByteArray:=if 1<w.length/\wd w (w.length-1)=fu then w.take (w.length-1) else w
def Eg(n:ByteArray):Bool:=decide (n=nS\/n=gq)
def keysOf(w:List ByteArray):Rs:=if w= [] then .bad bg 0 else if w.all W2.aO then .other else .bad bD 0
def gets(w:List ByteArray):Rs:=
 if Eg (wd w 0) then
  if w.length<3 then .bad bg 0
  else if sec (wd w 1)=false then .bad mQ 0
  else keysOf (w.drop 2)
 else keysOf (w.drop 1)
def crlf(b:ByteArray)(n:Nat):Prop:=b.extract n (n+2)=⟨#[13,10]⟩
instance(b:ByteArray)(n:Nat):Decidable (crlf b n):=inferInstanceAs (Decidable (_=_))
def chunk(n:Nat)(behind:ByteArray):Rs:=if 65536<n then .other else if behind.size<n+2 then .other else if crlf behind n then .other else .bad nR (n+2)
def store(all:List ByteArray)(behind:ByteArray):Rs:=
 if (off all).length≠(if wd all 0=gB then 6 else 5) then .bad bg 0
 else match num (wd (off all) 4) with
  |none=> .bad bD 0
  |some n=>
   if 1073741824<n then .bad bD 0
   else if W2.aO (wd (off all) 1)=true/\(∃f,num (wd (off all) 2)=some f/\f<4294967296)/\sec (wd (off all) 3)=true/\(wd all 0=gB->(num (wd (off all) 5)).isSome=true) then chunk n behind
   else .other
end Go.Proofs.YtboehbfagnocpaaGreatDoor.GB
namespace Go.Proofs.YtboehbfagnocpaaGreatDoor
open Go.RowKit Go.PlainAid Go.Shelf
def jI(t:ByteArray)(k:Int):List Value:=[.int .i64 2,.slice none 0 0,.bool false,.bool false,.string t,.string ⟨#[]⟩,.int .i64 k,.bool false,.string ⟨#[]⟩,.slice none 0 0,.string ⟨#[]⟩]
def cO(t:ByteArray)(k:Int):Value:=.agg #[.int .i64 2,.slice none 0 0,.bool false,.bool false,.string t,.string ⟨#[]⟩,.int .i64 k,.bool false,.string ⟨#[]⟩,.slice none 0 0,.string ⟨#[]⟩]
theorem jd{N:Nat}{W:World}(B:(aG N aH 33).R W)(t:ByteArray)(k:Int):
 (aG N #[.int .i64 2,.slice none 0 0,.bool false,.bool false,.string t,.string ⟨#[]⟩,.int .i64 k,.bool false,.string ⟨#[]⟩,.slice none 0 0,.string ⟨#[]⟩] 33).R (aS N 0 (jI t k) W)/\Below N W (aS N 0 (jI t k) W):=by
 have h:=aK N 33 (jI t k) 0 aH W B;refine⟨?_,h.bL.below (Below.refl _ _) (by have:=(aG N aH 33).lt B (b:=N) rfl;omega) (λb hb=>Nat.le_of_eq (show N=b from Eq.symm hb))⟩;have h2:=h.here;rw[show aR 0 (jI t k) aH= #[.int .i64 2,.slice none 0 0,.bool false,.bool false,.string t,.string ⟨#[]⟩,.int .i64 k,.bool false,.string ⟨#[]⟩,.slice none 0 0,.string ⟨#[]⟩] by simp[aR,jI,aH]] at h2;exact h2
theorem Eh{N:Nat}{w:World}(BO:∀o,(aG N aH 33).R (w.alloc o)):(∀o,(w.alloc o).cell? ⟨N,0,none⟩=some (.int .i64 0))/\(∀o,(w.alloc o).frozen? ⟨N,0,none⟩=false)/\(∀o,(w.alloc o).cell? ⟨N,1,none⟩=some (.slice none 0 0))/\(∀o,(w.alloc o).frozen? ⟨N,1,none⟩=false)/\(∀o,(w.alloc o).cell? ⟨N,2,none⟩=some (.bool false))/\(∀o,(w.alloc o).frozen? ⟨N,2,none⟩=false)/\(∀o,(w.alloc o).cell? ⟨N,3,none⟩=some (.bool false))/\(∀o,(w.alloc o).frozen? ⟨N,3,none⟩=false)/\(∀o,(w.alloc o).cell? ⟨N,4,none⟩=some (.string ⟨#[]⟩))/\(∀o,(w.alloc o).frozen? ⟨N,4,none⟩=false)/\(∀o,(w.alloc o).cell? ⟨N,5,none⟩=some (.string ⟨#[]⟩))/\(∀o,(w.alloc o).frozen? ⟨N,5,none⟩=false)/\(∀o,(w.alloc o).cell? ⟨N,6,none⟩=some (.int .i64 0))/\(∀o,(w.alloc o).frozen? ⟨N,6,none⟩=false)/\(∀o,(w.alloc o).cell? ⟨N,7,none⟩=some (.bool false))/\(∀o,(w.alloc o).frozen? ⟨N,7,none⟩=false)/\(∀o,(w.alloc o).cell? ⟨N,8,none⟩=some (.string ⟨#[]⟩))/\(∀o,(w.alloc o).frozen? ⟨N,8,none⟩=false)/\(∀o,(w.alloc o).cell? ⟨N,9,none⟩=some (.slice none 0 0))/\(∀o,(w.alloc o).frozen? ⟨N,9,none⟩=false)/\(∀o,(w.alloc o).cell? ⟨N,10,none⟩=some (.string ⟨#[]⟩))/\(∀o,(w.alloc o).frozen? ⟨N,10,none⟩=false):=
 ⟨λo=>cA (BO o) 0,λo=>cZ (BO o) 0,λo=>cA (BO o) 1,λo=>cZ (BO o) 1,λo=>cA (BO o) 2,λo=>cZ (BO o) 2,λo=>cA (BO o) 3,λo=>cZ (BO o) 3,λo=>cA (BO o) 4,λo=>cZ (BO o) 4,λo=>cA (BO o) 5,λo=>cZ (BO o) 5,λo=>cA (BO o) 6,λo=>cZ (BO o) 6,λo=>cA (BO o) 7,λo=>cZ (BO o) 7,λo=>cA (BO o) 8,λo=>cZ (BO o) 8,λo=>cA (BO o) 9,λo=>cZ (BO o) 9,λo=>cA (BO o) 10,λo=>cZ (BO o) 10⟩
theorem nT(t:ByteArray)(w:World):Calls prog 86 #[.string t] w λe w'=>e=.returned (cO t 0)/\Below w.heap.size w w':=by
 go_enter func86,ntmps86;go_wp2
 exact iw rfl rfl (aA w _ 33) ⟨rfl,bA w _⟩
theorem NZ(t:ByteArray)(w:World):Calls prog 291 #[.string t] w λe w'=>e=.returned (cO t 0)/\Below w.heap.size w w':=by
 go_enter func291,ntmps291;go_wp2
 exact iw rfl rfl (aA w _ 33) ⟨rfl,bA w _⟩
theorem VF(t:ByteArray)(k:Int)(w:World):Calls prog 287 #[.string t,.int .i64 k] w λe w'=>e=.returned (cO t k)/\Below w.heap.size w w':=by
 go_enter func287,ntmps287;go_wp2
 exact iw rfl rfl (aA w _ 33) ⟨rfl,bA w _⟩
open W2 (RS)
theorem RS.at'{w:World}{a:Option Addr}{n cap:Nat}{l:List ByteArray}(h:RS w (.slice a n cap) l){i:Nat}(hi:i<n):∃b o,a=some ⟨b,o,none⟩/\b<w.heap.size/\w.cell? ⟨b,o+i,none⟩=some (.string (GB.wd l i)):=W2.RS.at h hi
theorem a_(a b:ByteArray):(a.toList == b.toList)=decide (a=b):=by
 by_cases h:a=b
 ·subst h;simp
 ·rw[decide_eq_false h];simp only[beq_eq_false_iff_ne,ne_eq,ByteArray.toList_eq];intro e;apply h;cases a;cases b;simp only[ByteArray.mk.injEq];exact Array.toList_inj.1 e
def AL(w:World)(a:Option Addr)(n cap:Nat)(l:List ByteArray)(e:Ending)(w':World):Prop:=
 ∃q,e=.returned (.tuple #[.slice a (GB.off l).length cap,.bool q])/\w=w'/\GB.off l=l.take (GB.off l).length/\(GB.off l).length<=n
theorem roff{w:World}{a:Option Addr}{n cap:Nat}{l:List ByteArray}(h:RS w (.slice a n cap) l)(hc:n<=cap)(hn:n<=1000000):
 Calls prog 159 #[.slice a n cap] w (AL w a n cap l):=by
 have hl:=W2.RS.len h;by_cases h1:1<n
 ·obtain⟨b,o,rfl,hb,hx⟩:=RS.at' h (i:=n-1) (by omega);obtain⟨m,rfl⟩:∃m,n=m+2:=⟨n-2,by omega⟩;rw[show m+2-1=m+1 from rfl] at hx;have h1':(1:Int)<((m+2:Nat):Int):=by omega
  by_cases h2:GB.wd l (m+1)=GB.fu
  ·have ho:GB.off l=l.take (m+1):=by
    unfold GB.off;rw[if_pos ⟨by omega,by rw[hl];exact h2⟩,hl];rfl
   have hol:(GB.off l).length=m+1:=by rw[ho,List.length_take];omega
   have HO:=hid (show GB.off l=l.take (GB.off l).length/\(GB.off l).length<=m+2 by rw[hol];exact⟨ho,by omega⟩);have HL:=hid hol;rw[h2] at hx;unfold GB.fu at hx;clear ho hol h hl h2 h1;go_enter func159,ntmps159;go_wp2
   go_ret2;exact⟨true,by rw[HL.out];rfl,rfl,HO.out.1,HO.out.2⟩
  ·have ho:GB.off l=l:=by
    unfold GB.off;rw[if_neg (λh=>h2 (by have:=h.2;rw[hl] at this;exact this))]
   have HO:=hid (show (GB.off l).length=m+2/\GB.off l=l.take (GB.off l).length by rw[ho,hl];exact⟨rfl,by rw[<-hl,List.take_length]⟩);have hb:((GB.wd l (m+1)).toList == [110,111,114,101,112,108,121])=false:=by
    rw[show [110,111,114,101,112,108,121]=GB.fu.toList by rw[ByteArray.toList_eq];rfl,a_,decide_eq_false h2]
   clear ho h hl h2 h1;go_enter func159,ntmps159;go_wp2
   go_ret2;exact⟨false,by rw[HO.out.1];rfl,rfl,HO.out.2,by rw[HO.out.1];omega⟩
 ·have ho:GB.off l=l:=by
   unfold GB.off;rw[if_neg (λh=>h1 (by have:=h.1;omega))]
  have HO:=hid (show (GB.off l).length=n/\GB.off l=l.take (GB.off l).length by rw[ho,hl];exact⟨rfl,by rw[<-hl,List.take_length]⟩);have h1':¬(1:Int)<(n:Int):=by omega
  clear ho h hl h1;go_enter func159,ntmps159;go_wp2
  go_ret2;exact⟨false,by rw[HO.out.1];rfl,rfl,HO.out.2,by rw[HO.out.1];omega⟩
def okV(v:Value):Prop:=∃(k:Int) (ca:Option Addr) (cn cc:Nat) (q tk:Bool) (s1 s2:ByteArray) (sk:Int) (cl:Bool) (s3:ByteArray) (fa:Option Addr) (fn fc:Nat) (s4:ByteArray),
 v=.agg #[.int .i64 k,.slice ca cn cc,.bool q,.bool tk,.string s1,.string s2,.int .i64 sk,.bool cl,.string s3,.slice fa fn fc,.string s4]/\(k≠2\/sk≠0\/cl=true)
def tq(w:World)(r:GB.Rs)(e:Ending)(w':World):Prop:=
 Below w.heap.size w w'/\match r with
  | .bad t _=>e=.returned (cO t 0)
  | .other=> ∃v,e=.returned v/\okV v
theorem tq.ok{w w':World}{v:Value}(hb:Below w.heap.size w w')(h:okV v):tq w .other (.returned v) w':=⟨hb,v,rfl,h⟩
theorem tq.bad{w w':World}{t:ByteArray}{u:Nat}(hb:Below w.heap.size w w'):tq w (.bad t u) (.returned (cO t 0)) w':=⟨hb,rfl⟩
theorem Ei(v0 v1 v2 v3 v4 v5 v6 v7 v8 v9 v10 v11 v12 v13 v14 v15:Value)(q:Bool)(w:World):
 Calls prog 161 #[.agg #[v0,v1,v2,v3,v4,v5,v6,v7,v8,v9,v10,v11,v12,v13,v14,v15],.bool q] w (tq w .other):=by
 go_enter func161,ntmps161;go_wp2
 have h:=aA (w.alloc (.cells #[v0,v1,v2,v3,v4,v5,v6,v7,v8,v9,v10,v11,v12,v13,.int .i64 (-1),v15] 56)) #[.int .i64 1,.slice (some ⟨w.heap.size+1+1,0,none⟩) 1 1,.bool q,.bool false,.string ⟨#[]⟩,.string ⟨#[]⟩,.int .i64 0,.bool false,.string ⟨#[]⟩,.slice none 0 0,.string ⟨#[]⟩] 33;rw[World.size_alloc] at h;have hB:(aG (w.heap.size+1) #[.int .i64 1,.slice (some ⟨w.heap.size+1+1,0,none⟩) 1 1,.bool q,.bool false,.string ⟨#[]⟩,.string ⟨#[]⟩,.int .i64 0,.bool false,.string ⟨#[]⟩,.slice none 0 0,.string ⟨#[]⟩] 33).R (((w.alloc (.cells #[v0,v1,v2,v3,v4,v5,v6,v7,v8,v9,v10,v11,v12,v13,.int .i64 (-1),v15] 56)).alloc (.cells #[.int .i64 1,.slice (some ⟨w.heap.size+1+1,0,none⟩) 1 1,.bool q,.bool false,.string ⟨#[]⟩,.string ⟨#[]⟩,.int .i64 0,.bool false,.string ⟨#[]⟩,.slice none 0 0,.string ⟨#[]⟩] 33)).alloc (.cells #[v0,v1,v2,v3,v4,v5,v6,v7,v8,v9,v10,v11,v12,v13,.int .i64 (-1),v15] 56)):=(Lib.alloc_old _ _ _ (by simp)).trans h;exact iw rfl rfl hB (tq.ok (((bA w _).alloc (by simp) _).alloc (by simp;omega) _) ⟨1,_,_,_,_,_,_,_,_,_,_,_,_,_,_,rfl,.inl (by decide)⟩)
def VG(w:World)(e:Ending)(w':World):Prop:=(∃m:Int,e=.returned (.int .i64 m))/\w=w'
theorem VH(s:ByteArray)(w:World):Calls prog 160 #[.string s] w (VG w):=by
 go_enter func160,ntmps160;go_wp2
 all_goals (go_ret;exact⟨⟨_,rfl⟩,rfl⟩)
end Go.Proofs.YtboehbfagnocpaaGreatDoor
namespace Go.Proofs.YtboehbfagnocpaaGreatDoor.GB
def short(all:List ByteArray):Rs:=
 let w:=off all;if wd all 0=bN then (if w.length=2 then .other else .bad bg 0)
 else if wd all 0=fZ then (if w.length<=2 then (if w.length=2/\sec (wd w 1)=false then .bad mQ 0 else .other) else .bad bg 0)
 else if wd all 0=eD then (if w.length=2\/w.length=3 then (if W2.aO (wd w 1)=false then .bad bD 0 else if w.length=3/\wd w 2≠zero then .bad bD 0 else .other) else .bad bg 0)
 else if w.length≠3 then .bad bg 0
 else if W2.aO (wd w 1)=false then .bad bD 0
 else if wd all 0=fw then (if sec (wd w 2)=false then .bad mQ 0 else .other)
 else if (num (wd w 2)).isSome then .other else .bad NU 0
end Go.Proofs.YtboehbfagnocpaaGreatDoor.GB
namespace Go.Proofs.YtboehbfagnocpaaGreatDoor
open Go.RowKit Go.PlainAid Go.Shelf
open W2 (RS)
theorem Cw{l:List ByteArray}{m i:Nat}(h:i<m):GB.wd (l.take m) i=GB.wd l i:=by
 unfold GB.wd;rw[List.getElem?_take,if_pos h]
theorem ae{N:Nat}{vs:Array Value}{t:TypeId}{w w':World}(h:(aG N vs t).R w)(hb:Below w.heap.size w w'):(aG N vs t).R w':=by
 have hl:N<w.heap.size:=(aG N vs t).lt h rfl;exact(hb.block N hl).trans h
theorem bU{fn:Func}{k:Nat}(hres:fn.results= #[.cell k 33]){tmps:Array Value}{w W w1:World}{N:Nat}{t:ByteArray}{u:Nat}{r:GB.Rs}
 (h2:tmps.getD k undef=.pointer (some ⟨N,0,none⟩)) (hN:w.heap.size=N) (hb:Below w.heap.size w W) (hb1:Below W.heap.size W w1) (hB:(aG N aH 33).R w1) (hr:r=.bad t u):
 bodyPost prog fn (tq w r) .ret {tmps:=tmps,defers:=[]} (aS N 0 [.int .i64 2,.slice none 0 0,.bool false,.bool false,.string t,.string ⟨#[]⟩,.int .i64 0,.bool false,.string ⟨#[]⟩,.slice none 0 0,.string ⟨#[]⟩] w1):=by
 subst hr;have hs:=jd hB t 0;refine iw hres h2 hs.1 (tq.bad ?_);rw[hN] at hb⊢;exact hb.trans ((hb1.mono (hN ▸ hb.size)).trans hs.2)
theorem jY{fn:Func}{k:Nat}(hres:fn.results= #[.cell k 33]){tmps:Array Value}{w w1:World}{N:Nat}{v0 v1 v2 v3 v4 v5 v6 v7 v8 v9 v10:Value}{r:GB.Rs}
 (h2:tmps.getD k undef=.pointer (some ⟨N,0,none⟩)) (hN:w.heap.size=N) (hb:Below w.heap.size w w1) (hB:(aG N aH 33).R w1) (hr:r=.other) (ho:okV (.agg #[v0,v1,v2,v3,v4,v5,v6,v7,v8,v9,v10])):
 bodyPost prog fn (tq w r) .ret {tmps:=tmps,defers:=[]} (aS N 0 [v0,v1,v2,v3,v4,v5,v6,v7,v8,v9,v10] w1):=by
 subst hr;have h:=aK N 33 [v0,v1,v2,v3,v4,v5,v6,v7,v8,v9,v10] 0 aH w1 hB;have h2':=h.here;rw[show aR 0 [v0,v1,v2,v3,v4,v5,v6,v7,v8,v9,v10] aH= #[v0,v1,v2,v3,v4,v5,v6,v7,v8,v9,v10] by simp[aR,aH]] at h2';refine iw hres h2 h2' (tq.ok (hb.trans ?_) ho);rw[hN];exact h.bL.below (Below.refl _ _) (by have:=(aG N aH 33).lt hB (b:=N) rfl;omega) (λb hb=>Nat.le_of_eq (show N=b from Eq.symm hb))
theorem je{l:List ByteArray}{i:Nat}(h:i<(GB.off l).length):GB.wd (GB.off l) i=GB.wd l i:=by
 unfold GB.off at h⊢;split
 ·rename_i h1;rw[if_pos h1] at h;exact Cw (by rw[List.length_take] at h;omega)
 ·rfl
theorem yE{w:World}{a:Option Addr}{n cap:Nat}{l:List ByteArray}(h:RS w (.slice a n cap) l)(hc:n<=cap)(hn:n<=1000000)(h0:1<=n)(hw:GB.wd l 0=GB.bN):
 Calls prog 90 #[.slice a n cap] w (tq w (GB.short l)):=by
 obtain⟨b,o,rfl,hb,hx⟩:=RS.at' h (i:=0) (by omega);rw[hw,Nat.add_zero] at hx;unfold GB.bN at hx;obtain⟨m,hm⟩:∃m,(GB.off l).length=m:=⟨_,rfl⟩;have hm0:1<=m:=by
  have hl:=W2.RS.len h;unfold GB.off at hm;split at hm
  ·rw[List.length_take] at hm;omega
  ·omega
 have HS:=hid (show GB.short l=if m=2 then .other else .bad GB.bg 0 by unfold GB.short;rw[hw,if_pos rfl,hm]);have B0:=aA w aH 33;have hb0:=bA w (.cells aH 33);have hlt:b<w.heap.size:=hb;have hx1:=(hb0.cell (p:=⟨b,o,none⟩) hlt).trans hx;have HO:=hid (roff (h.below hb0) hc hn);obtain⟨N,hN⟩:∃N,w.heap.size=N:=⟨_,rfl⟩;obtain⟨W,hW⟩:∃W,w.alloc (.cells aH 33)=W:=⟨_,rfl⟩;rw[hW,hN] at B0;rw[hW] at hb0 hx1 HO;unfold aH at hW;unfold AL at HO;rw[hm] at HO;have HB:=hid nT;unfold cO at HB;have HB0:=hid B0;have HW:=hid hb0;clear h hw hx B0 hb0;go_enter func90,ntmps90;go_wp2_with (fail)
 clear hW;by_cases h2:m=2
 ·subst h2;obtain⟨n0,p0,n1,p1,n2,p2,n3,p3,n4,p4,n5,p5,n6,p6,n7,p7,n8,p8,n9,p9,n10,bE⟩:=au HB0.out
  go_wp2_with (first
   |(go_at_call 159;refine HO.out.mono ?_;rintro e w1 ⟨q,rfl,rfl,_⟩))
  refine jY (N:=N) rfl rfl hN HW.out HB0.out ?_ ⟨4,_,_,_,_,_,_,_,_,_,_,_,_,_,_,rfl,.inl (by decide)⟩;exact HS.out.trans (if_pos trivial)
 ·have h2':¬(m:Int)=2:=by omega
  have ad6:((m:Int) == 2)=false:=by simp[h2']
  go_wp2_with (first
   |(go_at_call 159;refine HO.out.mono ?_;rintro e w1 ⟨q,rfl,rfl,_⟩)
   |(go_at_call 86;refine(HB.out _ _).mono ?_;rintro e w1 ⟨rfl,hb1⟩
     have B1:=ae HB0.out hb1;obtain⟨n0,p0,n1,p1,n2,p2,n3,p3,n4,p4,n5,p5,n6,p6,n7,p7,n8,p8,n9,p9,n10,bE⟩:=au B1))
  refine bU (N:=N) (t:=GB.bg) (u:=0) (w1:=w1) rfl rfl hN HW.out hb1 B1 ?_;rw[HS.out,if_neg h2]
theorem vF{w:World}{a:Option Addr}{n cap:Nat}{l:List ByteArray}(h:RS w (.slice a n cap) l)(hc:n<=cap)(hn:n<=1000000)(h0:1<=n)(hw:GB.wd l 0=GB.fZ)(hsz:∀i,(GB.wd l i).size<=1000000):
 Calls prog 90 #[.slice a n cap] w (tq w (GB.short l)):=by
 obtain⟨b,o,rfl,hb,hx⟩:=RS.at' h (i:=0) (by omega);rw[hw,Nat.add_zero] at hx;unfold GB.fZ at hx;obtain⟨m,hm⟩:∃m,(GB.off l).length=m:=⟨_,rfl⟩;have hm0:1<=m:=by
  have hl:=W2.RS.len h;unfold GB.off at hm;split at hm
  ·rw[List.length_take] at hm;omega
  ·omega
 have HS:=hid (show GB.short l=if m<=2 then (if m=2/\GB.sec (GB.wd (GB.off l) 1)=false then .bad GB.mQ 0 else .other) else .bad GB.bg 0 by
  unfold GB.short;rw[hw,if_neg (by decide),if_pos rfl,hm])
 have FO:m<=n:=by
  have hl:=W2.RS.len h;unfold GB.off at hm;split at hm
  ·rw[List.length_take] at hm;omega
  ·omega
 have B0:=aA w aH 33;have hb0:=bA w (.cells aH 33);have hlt:b<w.heap.size:=hb;have hx1:=(hb0.cell (p:=⟨b,o,none⟩) hlt).trans hx;have HR:=hid (show RS (w.alloc (.cells aH 33)) (.slice (some ⟨b,o,none⟩) n cap) l from h.below hb0);have HO:=hid (roff (h.below hb0) hc hn);obtain⟨N,hN⟩:∃N,w.heap.size=N:=⟨_,rfl⟩;obtain⟨W,hW⟩:∃W,w.alloc (.cells aH 33)=W:=⟨_,rfl⟩;rw[hW,hN] at B0;rw[hW] at hb0 hx1 HO HR;unfold aH at hW;unfold AL at HO;rw[hm] at HO;have HB:=hid nT;unfold cO at HB;have HB0:=hid B0;have HW:=hid hb0;clear h hw hx B0 hb0;go_enter func90,ntmps90;go_wp2_with (fail)
 clear hW;by_cases h2:m<=2
 ·by_cases h3:m=2
  ·subst h3;obtain⟨b',o',e',hb',hx2⟩:=RS.at' HR.out (i:=1) (by omega);cases e';have hof:=je (l:=l) (i:=1) (by omega);obtain⟨x,hx3⟩:∃x,GB.wd l 1=x:=⟨_,rfl⟩;rw[hof,hx3] at HS;rw[hx3] at hx2;unfold GB.sec at HS;have HX:=hid (λw'=>jW x w' (by rw[<-hx3];exact hsz 1));have pR:=hid Ei;unfold pQ at HX;cases hv:sc x.data.toList
   ·rw[hv] at HX HS
    go_wp2_with (first
     |(go_at_call 159;refine HO.out.mono ?_;rintro e w1 ⟨q,rfl,rfl,_⟩)
     |(go_at_call 158;refine(HX.out _).mono ?_;rintro e w2 ⟨v,rfl,hb2⟩
       have B2:=ae HB0.out hb2;obtain⟨n0,p0,n1,p1,n2,p2,n3,p3,n4,p4,n5,p5,n6,p6,n7,p7,n8,p8,n9,p9,n10,bE⟩:=au B2)
     |(go_at_call 86;refine(HB.out _ _).mono ?_;rintro e w3 ⟨rfl,hb1⟩
       have B1:=ae B2 hb1;obtain⟨n0,p0,n1,p1,n2,p2,n3,p3,n4,p4,n5,p5,n6,p6,n7,p7,n8,p8,n9,p9,n10,bE⟩:=au B1)
     |(go_at_call 161;refine(pR.out _ _ _ _ _ _ _ _ _ _ _ _ _ _ _ _ _ _).mono ?_;rintro e w3 ⟨hb1,v',rfl,k1,ca,cn,cc,q1,tk,s1,s2,sk,cl,s3,fa,fn,fc,s4,rfl,hok⟩
       have B1:=ae B2 hb1;obtain⟨n0,p0,n1,p1,n2,p2,n3,p3,n4,p4,n5,p5,n6,p6,n7,p7,n8,p8,n9,p9,n10,bE⟩:=au B1))
    refine bU (N:=N) (t:=GB.mQ) (u:=0) rfl rfl hN (HW.out.trans (hb2.mono HW.out.size)) hb1 B1 ?_;exact HS.out.trans (by simp)
   ·rw[hv] at HX HS
    go_wp2_with (first
     |(go_at_call 159;refine HO.out.mono ?_;rintro e w1 ⟨q,rfl,rfl,_⟩)
     |(go_at_call 158;refine(HX.out _).mono ?_;rintro e w2 ⟨v,rfl,hb2⟩
       have B2:=ae HB0.out hb2;obtain⟨n0,p0,n1,p1,n2,p2,n3,p3,n4,p4,n5,p5,n6,p6,n7,p7,n8,p8,n9,p9,n10,bE⟩:=au B2)
     |(go_at_call 86;refine(HB.out _ _).mono ?_;rintro e w3 ⟨rfl,hb1⟩
       have B1:=ae B2 hb1;obtain⟨n0,p0,n1,p1,n2,p2,n3,p3,n4,p4,n5,p5,n6,p6,n7,p7,n8,p8,n9,p9,n10,bE⟩:=au B1)
     |(go_at_call 161;refine(pR.out _ _ _ _ _ _ _ _ _ _ _ _ _ _ _ _ _ _).mono ?_;rintro e w3 ⟨hb1,v',rfl,k1,ca,cn,cc,q1,tk,s1,s2,sk,cl,s3,fa,fn,fc,s4,rfl,hok⟩
       have B1:=ae B2 hb1;obtain⟨n0,p0,n1,p1,n2,p2,n3,p3,n4,p4,n5,p5,n6,p6,n7,p7,n8,p8,n9,p9,n10,bE⟩:=au B1))
    refine jY (N:=N) (v0:=.int .i64 k1) (v1:=.slice ca cn cc) (v2:=.bool q1) (v3:=.bool tk) (v4:=.string s1) (v5:=.string s2) (v6:=.int .i64 sk) (v7:=.bool cl) (v8:=.string s3) (v9:=.slice fa fn fc) (v10:=.string s4) (w1:=w3) rfl rfl hN ((HW.out.trans (hb2.mono HW.out.size)).trans (hb1.mono (Nat.le_trans HW.out.size hb2.size))) B1 ?_ ⟨k1,_,_,_,_,_,_,_,_,_,_,_,_,_,_,rfl,hok⟩;exact HS.out.trans (by simp)
  ·have h2':(m:Int)<=2:=by omega
   have h3':((m:Int) == 2)=false:=by simp;omega
   have pR:=hid Ei
   go_wp2_with (first
    |(go_at_call 159;refine HO.out.mono ?_;rintro e w1 ⟨q,rfl,rfl,_⟩)
    |(go_at_call 161;refine(pR.out _ _ _ _ _ _ _ _ _ _ _ _ _ _ _ _ _ _).mono ?_;rintro e w3 ⟨hb1,v',rfl,k1,ca,cn,cc,q1,tk,s1,s2,sk,cl,s3,fa,fn,fc,s4,rfl,hok⟩
      have B1:=ae HB0.out hb1;obtain⟨n0,p0,n1,p1,n2,p2,n3,p3,n4,p4,n5,p5,n6,p6,n7,p7,n8,p8,n9,p9,n10,bE⟩:=au B1))
   refine jY (N:=N) (v0:=.int .i64 k1) (v1:=.slice ca cn cc) (v2:=.bool q1) (v3:=.bool tk) (v4:=.string s1) (v5:=.string s2) (v6:=.int .i64 sk) (v7:=.bool cl) (v8:=.string s3) (v9:=.slice fa fn fc) (v10:=.string s4) (w1:=w3) rfl rfl hN (HW.out.trans (hb1.mono HW.out.size)) B1 ?_ ⟨k1,_,_,_,_,_,_,_,_,_,_,_,_,_,_,rfl,hok⟩;exact HS.out.trans (by rw[if_pos h2,if_neg (λx=>h3 x.1)])
 ·have h2':¬(m:Int)<=2:=by omega
  go_wp2_with (first
   |(go_at_call 159;refine HO.out.mono ?_;rintro e w1 ⟨q,rfl,rfl,_⟩)
   |(go_at_call 86;refine(HB.out _ _).mono ?_;rintro e w1 ⟨rfl,hb1⟩
     have B1:=ae HB0.out hb1;obtain⟨n0,p0,n1,p1,n2,p2,n3,p3,n4,p4,n5,p5,n6,p6,n7,p7,n8,p8,n9,p9,n10,bE⟩:=au B1))
  refine bU (N:=N) (t:=GB.bg) (u:=0) rfl rfl hN HW.out hb1 B1 ?_;rw[HS.out,if_neg h2]
theorem AO{w:World}{a:Option Addr}{n cap:Nat}{l:List ByteArray}(h:RS w (.slice a n cap) l)(hc:n<=cap)(hn:n<=1000000)(h0:1<=n)(hw:GB.wd l 0=GB.eD)(hsz:∀i,(GB.wd l i).size<=1000000):
 Calls prog 90 #[.slice a n cap] w (tq w (GB.short l)):=by
 obtain⟨b,o,rfl,hb,hx⟩:=RS.at' h (i:=0) (by omega);rw[hw,Nat.add_zero] at hx;unfold GB.eD at hx;obtain⟨m,hm⟩:∃m,(GB.off l).length=m:=⟨_,rfl⟩;have hm0:1<=m:=by
  have hl:=W2.RS.len h;unfold GB.off at hm;split at hm
  ·rw[List.length_take] at hm;omega
  ·omega
 have HS:=hid (show GB.short l=if m=2\/m=3 then (if W2.aO (GB.wd (GB.off l) 1)=false then .bad GB.bD 0 else if m=3/\GB.wd (GB.off l) 2≠GB.zero then .bad GB.bD 0 else .other) else .bad GB.bg 0 by
  unfold GB.short;rw[hw,if_neg (by decide),if_neg (by decide),if_pos rfl,hm])
 have FO:m<=n:=by
  have hl:=W2.RS.len h;unfold GB.off at hm;split at hm
  ·rw[List.length_take] at hm;omega
  ·omega
 have B0:=aA w aH 33;have hb0:=bA w (.cells aH 33);have hlt:b<w.heap.size:=hb;have hx1:=(hb0.cell (p:=⟨b,o,none⟩) hlt).trans hx;have HR:=hid (show RS (w.alloc (.cells aH 33)) (.slice (some ⟨b,o,none⟩) n cap) l from h.below hb0);have HO:=hid (roff (h.below hb0) hc hn);obtain⟨N,hN⟩:∃N,w.heap.size=N:=⟨_,rfl⟩;obtain⟨W,hW⟩:∃W,w.alloc (.cells aH 33)=W:=⟨_,rfl⟩;rw[hW,hN] at B0;rw[hW] at hb0 hx1 HO HR;unfold aH at hW;unfold AL at HO;rw[hm] at HO;have HB:=hid nT;unfold cO at HB;have HB0:=hid B0;have HW:=hid hb0;clear h hw hx B0 hb0;go_enter func90,ntmps90;go_wp2_with (fail)
 clear hW;have pR:=hid Ei;by_cases h2:m=2\/m=3
 ·obtain⟨b',o',e',hb',hx2⟩:=RS.at' HR.out (i:=1) (by omega);cases e';have hof:=je (l:=l) (i:=1) (by omega);obtain⟨x,hx3⟩:∃x,GB.wd l 1=x:=⟨_,rfl⟩;rw[hof,hx3] at HS;rw[hx3] at hx2;have HK:=hid (λw'=>W2.bZ x w' (by have:=hsz 1;rw[hx3] at this;unfold maxLen;omega));cases hv:W2.aO x
  ·rw[hv] at HK HS;rcases h2 with h2|h2
   ·subst h2
    go_wp2_with (first
     |(go_at_call 159;refine HO.out.mono ?_;rintro e w1 ⟨q,rfl,rfl,_⟩)
     |(go_at_call 157;refine(HK.out _).mono ?_;rintro e w1 ⟨rfl,rfl⟩)
     |(go_at_call 86;refine(HB.out _ _).mono ?_;rintro e w3 ⟨rfl,hb1⟩
       have B1:=ae HB0.out hb1;obtain⟨n0,p0,n1,p1,n2,p2,n3,p3,n4,p4,n5,p5,n6,p6,n7,p7,n8,p8,n9,p9,n10,bE⟩:=au B1)
     |(go_at_call 161;refine(pR.out _ _ _ _ _ _ _ _ _ _ _ _ _ _ _ _ _ _).mono ?_;rintro e w3 ⟨hb1,v',rfl,k1,ca,cn,cc,q1,tk,s1,s2,sk,cl,s3,fa,fn,fc,s4,rfl,hok⟩
       have B1:=ae HB0.out hb1;obtain⟨n0,p0,n1,p1,n2,p2,n3,p3,n4,p4,n5,p5,n6,p6,n7,p7,n8,p8,n9,p9,n10,bE⟩:=au B1))
    refine bU (N:=N) (t:=GB.bD) (u:=0) rfl rfl hN HW.out hb1 B1 ?_;exact HS.out.trans (by simp)
   ·subst h2
    go_wp2_with (first
     |(go_at_call 159;refine HO.out.mono ?_;rintro e w1 ⟨q,rfl,rfl,_⟩)
     |(go_at_call 157;refine(HK.out _).mono ?_;rintro e w1 ⟨rfl,rfl⟩)
     |(go_at_call 86;refine(HB.out _ _).mono ?_;rintro e w3 ⟨rfl,hb1⟩
       have B1:=ae HB0.out hb1;obtain⟨n0,p0,n1,p1,n2,p2,n3,p3,n4,p4,n5,p5,n6,p6,n7,p7,n8,p8,n9,p9,n10,bE⟩:=au B1)
     |(go_at_call 161;refine(pR.out _ _ _ _ _ _ _ _ _ _ _ _ _ _ _ _ _ _).mono ?_;rintro e w3 ⟨hb1,v',rfl,k1,ca,cn,cc,q1,tk,s1,s2,sk,cl,s3,fa,fn,fc,s4,rfl,hok⟩
       have B1:=ae HB0.out hb1;obtain⟨n0,p0,n1,p1,n2,p2,n3,p3,n4,p4,n5,p5,n6,p6,n7,p7,n8,p8,n9,p9,n10,bE⟩:=au B1))
    refine bU (N:=N) (t:=GB.bD) (u:=0) rfl rfl hN HW.out hb1 B1 ?_;exact HS.out.trans (by simp)
  ·rw[hv] at HK HS;rcases h2 with h2|h2
   ·subst h2
    go_wp2_with (first
     |(go_at_call 159;refine HO.out.mono ?_;rintro e w1 ⟨q,rfl,rfl,_⟩)
     |(go_at_call 157;refine(HK.out _).mono ?_;rintro e w1 ⟨rfl,rfl⟩)
     |(go_at_call 86;refine(HB.out _ _).mono ?_;rintro e w3 ⟨rfl,hb1⟩
       have B1:=ae HB0.out hb1;obtain⟨n0,p0,n1,p1,n2,p2,n3,p3,n4,p4,n5,p5,n6,p6,n7,p7,n8,p8,n9,p9,n10,bE⟩:=au B1)
     |(go_at_call 161;refine(pR.out _ _ _ _ _ _ _ _ _ _ _ _ _ _ _ _ _ _).mono ?_;rintro e w3 ⟨hb1,v',rfl,k1,ca,cn,cc,q1,tk,s1,s2,sk,cl,s3,fa,fn,fc,s4,rfl,hok⟩
       have B1:=ae HB0.out hb1;obtain⟨n0,p0,n1,p1,n2,p2,n3,p3,n4,p4,n5,p5,n6,p6,n7,p7,n8,p8,n9,p9,n10,bE⟩:=au B1))
    refine jY (N:=N) (v0:=.int .i64 k1) (v1:=.slice ca cn cc) (v2:=.bool q1) (v3:=.bool tk) (v4:=.string s1) (v5:=.string s2) (v6:=.int .i64 sk) (v7:=.bool cl) (v8:=.string s3) (v9:=.slice fa fn fc) (v10:=.string s4) (w1:=w3) rfl rfl hN (HW.out.trans (hb1.mono HW.out.size)) B1 ?_ ⟨k1,_,_,_,_,_,_,_,_,_,_,_,_,_,_,rfl,hok⟩;exact HS.out.trans (by simp)
   ·subst h2;obtain⟨b',o',e',hb',hx4⟩:=RS.at' HR.out (i:=2) (by omega);cases e';have IL:=je (l:=l) (i:=2) (by omega);obtain⟨y,hy⟩:∃y,GB.wd l 2=y:=⟨_,rfl⟩;rw[IL,hy] at HS;rw[hy] at hx4;by_cases hz:y=GB.zero
    ·subst hz;unfold GB.zero at hx4
     go_wp2_with (first
      |(go_at_call 159;refine HO.out.mono ?_;rintro e w1 ⟨q,rfl,rfl,_⟩)
      |(go_at_call 157;refine(HK.out _).mono ?_;rintro e w1 ⟨rfl,rfl⟩)
      |(go_at_call 86;refine(HB.out _ _).mono ?_;rintro e w3 ⟨rfl,hb1⟩
        have B1:=ae HB0.out hb1;obtain⟨n0,p0,n1,p1,n2,p2,n3,p3,n4,p4,n5,p5,n6,p6,n7,p7,n8,p8,n9,p9,n10,bE⟩:=au B1)
      |(go_at_call 161;refine(pR.out _ _ _ _ _ _ _ _ _ _ _ _ _ _ _ _ _ _).mono ?_;rintro e w3 ⟨hb1,v',rfl,k1,ca,cn,cc,q1,tk,s1,s2,sk,cl,s3,fa,fn,fc,s4,rfl,hok⟩
        have B1:=ae HB0.out hb1;obtain⟨n0,p0,n1,p1,n2,p2,n3,p3,n4,p4,n5,p5,n6,p6,n7,p7,n8,p8,n9,p9,n10,bE⟩:=au B1))
     refine jY (N:=N) (v0:=.int .i64 k1) (v1:=.slice ca cn cc) (v2:=.bool q1) (v3:=.bool tk) (v4:=.string s1) (v5:=.string s2) (v6:=.int .i64 sk) (v7:=.bool cl) (v8:=.string s3) (v9:=.slice fa fn fc) (v10:=.string s4) (w1:=w3) rfl rfl hN (HW.out.trans (hb1.mono HW.out.size)) B1 ?_ ⟨k1,_,_,_,_,_,_,_,_,_,_,_,_,_,_,rfl,hok⟩;exact HS.out.trans (by simp)
    ·have hzb:(y.toList == [48])=false:=by
      rw[show [48]=GB.zero.toList by rw[ByteArray.toList_eq];rfl,a_,decide_eq_false hz]
     go_wp2_with (first
      |(go_at_call 159;refine HO.out.mono ?_;rintro e w1 ⟨q,rfl,rfl,_⟩)
      |(go_at_call 157;refine(HK.out _).mono ?_;rintro e w1 ⟨rfl,rfl⟩)
      |(go_at_call 86;refine(HB.out _ _).mono ?_;rintro e w3 ⟨rfl,hb1⟩
        have B1:=ae HB0.out hb1;obtain⟨n0,p0,n1,p1,n2,p2,n3,p3,n4,p4,n5,p5,n6,p6,n7,p7,n8,p8,n9,p9,n10,bE⟩:=au B1)
      |(go_at_call 161;refine(pR.out _ _ _ _ _ _ _ _ _ _ _ _ _ _ _ _ _ _).mono ?_;rintro e w3 ⟨hb1,v',rfl,k1,ca,cn,cc,q1,tk,s1,s2,sk,cl,s3,fa,fn,fc,s4,rfl,hok⟩
        have B1:=ae HB0.out hb1;obtain⟨n0,p0,n1,p1,n2,p2,n3,p3,n4,p4,n5,p5,n6,p6,n7,p7,n8,p8,n9,p9,n10,bE⟩:=au B1))
     refine bU (N:=N) (t:=GB.bD) (u:=0) rfl rfl hN HW.out hb1 B1 ?_;exact HS.out.trans (by simp[hz])
 ·have h3:((m:Int) == 2)=false:=by simp;omega
  have h4:((m:Int) == 3)=false:=by simp;omega
  have HK:=hid (λw'=>W2.bZ ⟨#[]⟩ w' (by decide))
  go_wp2_with (first
   |(go_at_call 159;refine HO.out.mono ?_;rintro e w1 ⟨q,rfl,rfl,_⟩)
   |(go_at_call 157;refine(HK.out _).mono ?_;rintro e w1 ⟨rfl,rfl⟩)
   |(go_at_call 86;refine(HB.out _ _).mono ?_;rintro e w3 ⟨rfl,hb1⟩
     have B1:=ae HB0.out hb1;obtain⟨n0,p0,n1,p1,n2,p2,n3,p3,n4,p4,n5,p5,n6,p6,n7,p7,n8,p8,n9,p9,n10,bE⟩:=au B1)
   |(go_at_call 161;refine(pR.out _ _ _ _ _ _ _ _ _ _ _ _ _ _ _ _ _ _).mono ?_;rintro e w3 ⟨hb1,v',rfl,k1,ca,cn,cc,q1,tk,s1,s2,sk,cl,s3,fa,fn,fc,s4,rfl,hok⟩
     have B1:=ae HB0.out hb1;obtain⟨n0,p0,n1,p1,n2,p2,n3,p3,n4,p4,n5,p5,n6,p6,n7,p7,n8,p8,n9,p9,n10,bE⟩:=au B1))
  refine bU (N:=N) (t:=GB.bg) (u:=0) rfl rfl hN HW.out hb1 B1 ?_;exact HS.out.trans (if_neg h2)
def fI(w:World)(r:GB.Rs)(e:Ending)(w':World):Prop:=
 Below w.heap.size w w'/\match r with
  | .bad t u=>e=.returned (.tuple #[cO t 0,.int .i64 (u:Nat)])
  | .other=> ∃v m,e=.returned (.tuple #[v,.int .i64 m])/\okV v
theorem fI.ok{w w':World}{v:Value}{m:Int}(hb:Below w.heap.size w w')(h:okV v):fI w .other (.returned (.tuple #[v,.int .i64 m])) w':=⟨hb,v,m,rfl,h⟩
theorem fI.bad{w w':World}{t:ByteArray}{u:Nat}(hb:Below w.heap.size w w'):fI w (.bad t u) (.returned (.tuple #[cO t 0,.int .i64 (u:Nat)])) w':=⟨hb,rfl⟩
theorem aY{fn:Func}{k j:Nat}(hres:fn.results= #[.cell k 33,.tmp j]){tmps:Array Value}{w W w1:World}{N:Nat}{t:ByteArray}{u:Nat}{r:GB.Rs}{m:Int}
 (h2:tmps.getD k undef=.pointer (some ⟨N,0,none⟩)) (hm:tmps.getD j undef=.int .i64 m) (hu:m=(u:Nat)) (hN:w.heap.size=N) (hb:Below w.heap.size w W) (hb1:Below W.heap.size W w1) (hB:(aG N aH 33).R w1) (hr:r=.bad t u):
 bodyPost prog fn (fI w r) .ret {tmps:=tmps,defers:=[]} (aS N 0 [.int .i64 2,.slice none 0 0,.bool false,.bool false,.string t,.string ⟨#[]⟩,.int .i64 0,.bool false,.string ⟨#[]⟩,.slice none 0 0,.string ⟨#[]⟩] w1):=by
 subst hr;have hs:=jd hB t 0;subst hu;refine bX hres h2 hm hs.1 (fI.bad ?_);rw[hN] at hb⊢;exact hb.trans ((hb1.mono (hN ▸ hb.size)).trans hs.2)
theorem gD{fn:Func}{k j:Nat}(hres:fn.results= #[.cell k 33,.tmp j]){tmps:Array Value}{w w1:World}{N:Nat}{v0 v1 v2 v3 v4 v5 v6 v7 v8 v9 v10:Value}{r:GB.Rs}{m:Int}
 (h2:tmps.getD k undef=.pointer (some ⟨N,0,none⟩)) (hm:tmps.getD j undef=.int .i64 m) (hN:w.heap.size=N) (hb:Below w.heap.size w w1) (hB:(aG N aH 33).R w1) (hr:r=.other) (ho:okV (.agg #[v0,v1,v2,v3,v4,v5,v6,v7,v8,v9,v10])):
 bodyPost prog fn (fI w r) .ret {tmps:=tmps,defers:=[]} (aS N 0 [v0,v1,v2,v3,v4,v5,v6,v7,v8,v9,v10] w1):=by
 subst hr;have h:=aK N 33 [v0,v1,v2,v3,v4,v5,v6,v7,v8,v9,v10] 0 aH w1 hB;have h2':=h.here;rw[show aR 0 [v0,v1,v2,v3,v4,v5,v6,v7,v8,v9,v10] aH= #[v0,v1,v2,v3,v4,v5,v6,v7,v8,v9,v10] by simp[aR,aH]] at h2';refine bX hres h2 hm h2' (fI.ok (hb.trans ?_) ho);rw[hN];exact h.bL.below (Below.refl _ _) (by have:=(aG N aH 33).lt hB (b:=N) rfl;omega) (λb hb=>Nat.le_of_eq (show N=b from Eq.symm hb))
end Go.Proofs.YtboehbfagnocpaaGreatDoor
namespace Go.Proofs.YtboehbfagnocpaaGreatDoor.GB
def zG:ByteArray:=⟨#[109,110]⟩
def IM:ByteArray:=⟨#[109,101]⟩
def zH:ByteArray:=⟨#[109,103]⟩
def oO:ByteArray:=⟨#[109,115]⟩
def zI:ByteArray:=⟨#[109,100]⟩
def nU:ByteArray:=⟨#[109,97]⟩
def allow(n:ByteArray):List UInt8:=
 if n=IM then [98] else if n=zH then [98,99,102,107,113,115,116,118,79,78,82,84]
 else if n=oO then [98,99,107,113,73,67,70,77,79,84] else if n=zI then [98,107,113,73,67,79,84]
 else if n=nU then [98,99,107,113,116,118,67,68,74,77,78,79,84] else []
def hd(s:ByteArray):UInt8:=s.data.toList.headD 0
def tl(s:ByteArray):ByteArray:=s.extract 1 s.size
def cB(math:Bool)(s:ByteArray):Bool:=
 decide (s.size=1) && (if math then [73,105,43,68,100,45].contains (hd s) else [83,115,69,101,82,114,65,97,80,112].contains (hd s))
def arg(math:Bool)(f:UInt8)(s:ByteArray):Bool:=
 if f=67\/f=68\/f=74 then (num s).isSome
 else if f=70 then (match num s with|some n=>decide (n<4294967296)|none=>false)
 else if f=77 then cB math s
 else if f=78\/f=82\/f=84 then sec s
 else if f=79 then decide (1<=s.size/\s.size<=32)
 else decide (s.size=0)
def rW(all:List UInt8)(math:Bool):List UInt8->List ByteArray->Option ByteArray
 |_,[]=>none
 |seen,f :: r=>
  if all.contains (hd f)=false then some NV
  else if seen.contains (hd f) then some NW
  else if arg math (hd f) (tl f)=false then some NY
  else rW all math (seen ++ [hd f]) r
def flags(n:ByteArray)(l:List ByteArray):Option ByteArray:=rW (allow n) (decide (n=nU)) [] l
def iB(w:ByteArray)(l:List ByteArray):Bool:=
 if l.any (λf=>hd f == 98) then B3.P.okD w && W2.aO (B3.P.iW w) else W2.aO w
def read(w:List ByteArray)(behind:ByteArray):Rs:=
 if w.length<2 then .bad bD 0
 else if wd w 0=oO then
  (if w.length<3 then .bad bD 0
   else match num (wd w 2) with
    |none=> .bad bD 0
    |some n=>if 1073741824<n then .bad bD 0 else if flags (wd w 0) (w.drop 3)=none/\iB (wd w 1) (w.drop 3)=true then chunk n behind else .other)
 else match flags (wd w 0) (w.drop 2) with
  |some t=> .bad t 0
  |none=>if iB (wd w 1) (w.drop 2) then .other else .bad bD 0
def vG(n:ByteArray):Bool:=decide (n=zG\/n=IM\/n=zH\/n=oO\/n=zI\/n=nU)
def IP(w:List ByteArray)(behind:ByteArray):Rs:=
 if wd w 0=zG then (if w.length=1 then .other else .bad bg 0) else read w behind
def jh(n:ByteArray):Bool:=decide (n=AB\/n=AJ\/n=gW\/n=jc\/n=gX\/n=gB)
def iC(n:ByteArray):Bool:=decide (n=mR\/n=mU\/n=fw\/n=eD\/n=fZ\/n=bN)
def oP(n:ByteArray):Bool:=decide (n=yD\/n=jX\/n=nS\/n=gq)
def plain(w:List ByteArray):Rs:=
 if (wd w 0=dY\/wd w 0=kX)/\w.length=1 then .other
 else if wd w 0=gY/\w.length<=2 then .other
 else .bad bg 0
def text(w:List ByteArray)(behind:ByteArray):Rs:=
 if oP (wd w 0) then gets w else if jh (wd w 0) then store w behind else if iC (wd w 0) then short w else plain w
def ws(b:ByteArray):List ByteArray:=(W2.P.words (W2.aX b)).map W2.P.mk
def ln(b:ByteArray):Nat:=(W2.b_ b).toNat
def whole(b:ByteArray):Rs:=
 if ln b=0\/2048<ln b then .other
 else if ws b= [] then .bad bg 0
 else if vG (wd (ws b) 0) then IP (ws b) (b.extract (ln b) b.size)
 else text (ws b) (b.extract (ln b) b.size)
open W2.P (sl mk)
theorem go_mem:∀(l cur:List UInt8) (x:List UInt8),x∈W2.P.go cur l->1<=x.length/\x.length<=cur.length+l.length:=by
 intro l;induction l with
 |nil=>
  intro cur x hx;rw[W2.P.rz] at hx;split at hx
  ·cases hx
  ·rename_i h;rw[List.mem_singleton] at hx;subst hx;have:=List.length_pos_iff.2 h;simp;omega
 |cons b l ih=>
  intro cur x hx;rw[W2.P.iq] at hx;split at hx
  ·split at hx
   ·have:=ih _ _ hx;simp at this⊢;omega
   ·rename_i h;rcases List.mem_cons.1 hx with e|e
    ·subst e;have:=List.length_pos_iff.2 h;simp;omega
    ·have:=ih _ _ e;simp at this⊢;omega
  ·have:=ih _ _ hx;simp at this⊢;omega
theorem eU(s:ByteArray):(W2.aX s).size<=s.size:=by
 unfold W2.aX;split
 ·rw[W2.P.dP];have h1:=W2.P.yl 10 (sl s);have h2:(Lib.trimSuffix (W2.P.upto 10 (sl s)) [13]).length<=(W2.P.upto 10 (sl s)).length:=by
   unfold Lib.trimSuffix;split
   ·simp
   ·exact Nat.le_refl _
  rw[W2.P.bS] at h1;omega
 ·exact Nat.zero_le _
theorem AQ{b x:ByteArray}(h:x∈ws b):1<=x.size/\x.size<=b.size:=by
 unfold ws at h;obtain⟨y,hy,rfl⟩:=List.mem_map.1 h;have h1:=go_mem _ _ _ hy;have h2:=eU b;rw[W2.P.bS] at h1;rw[W2.P.dP];simp at h1;omega
theorem Cx{b:ByteArray}{M:Nat}(h:b.size<=M)(i:Nat):(wd (ws b) i).size<=M:=by
 unfold wd;cases hi:(ws b)[i]? with
 |none=>exact Nat.zero_le _
 |some x=>exact Nat.le_trans (AQ (List.mem_of_getElem? hi)).2 h
theorem rX(b:ByteArray):(ws b).length<=b.size+1:=by
 unfold ws;have h1:=W2.P.ui (W2.aX b) [] (sl (W2.aX b));have h2:=eU b;rw[W2.P.bS] at h1;rw[List.length_map];unfold W2.P.words;omega
section
variable{X Y:ByteArray}
theorem yF(h:ln X≠0):W2.b_ (X ++ Y)=W2.b_ X/\W2.aX (X ++ Y)=W2.aX X:=by
 have h1:10∈sl X:=by
  unfold ln W2.b_ at h;split at h
  ·assumption
  ·exact absurd rfl h
 have h2:sl (X ++ Y)=sl X ++ sl Y:=by simp[sl]
 obtain⟨e,hn⟩:=W2.P.jS h1;have h3:W2.P.upto 10 (sl (X ++ Y))=W2.P.upto 10 (sl X):=by
  rw[h2];conv=>lhs;rw[e]
  rw[List.append_assoc,List.cons_append,(W2.P.ry hn).1]
 have h4:10∈sl (X ++ Y):=by rw[h2];exact List.mem_append_left _ h1
 unfold W2.b_ W2.aX;rw[if_pos h1,if_pos h4,if_pos h1,if_pos h4,h3];exact⟨rfl,rfl⟩
theorem uq(X:ByteArray):ln X<=X.size:=by
 unfold ln W2.b_;split
 ·rename_i h;obtain⟨e,_⟩:=W2.P.jS h;have h2:=congrArg List.length e;rw[W2.P.bS] at h2;simp at h2;omega
 ·exact Nat.zero_le _
theorem uu{n:Nat}{B Y:ByteArray}{t:ByteArray}{u:Nat}(h:chunk n B=.bad t u):chunk n (B ++ Y)=.bad t u:=by
 unfold chunk at h⊢;split at h
 ·cases h
 ·rename_i h1;rw[if_neg h1];split at h
  ·cases h
  ·rename_i h2;rw[if_neg (by rw[ByteArray.size_append];omega)];split at h
   ·cases h
   ·rename_i h3;rw[if_neg]
    ·exact h
    ·unfold crlf at h3⊢;intro e;apply h3;rw[<-e];apply ByteArray.ext;simp only[ByteArray.data_extract,ByteArray.data_append];rw[Array.extract_append];have:B.size=B.data.size:=rfl;rw[show Array.extract Y.data (n-B.data.size) (n+2-B.data.size)= #[] by
      rw[Array.extract_empty_of_stop_le_start];omega]
     simp
theorem Ej{w:List ByteArray}{B Y t:ByteArray}{u:Nat}(h:store w B=.bad t u):store w (B ++ Y)=.bad t u:=by
 unfold store at h⊢;generalize (if wd w 0=gB then 6 else 5)=wt at h⊢;split at h
 ·rename_i h1;rw[if_pos h1];exact h
 ·rename_i h1;rw[if_neg h1];revert h;cases num (wd (off w) 4) with
  |none=>exact id
  |some n=>
   simp only;intro h;split at h
   ·rename_i h2;rw[if_pos h2];exact h
   ·rename_i h2;rw[if_neg h2];split at h
    ·rename_i h3;rw[if_pos h3];exact uu h
    ·cases h
theorem IQ{w:List ByteArray}{B Y t:ByteArray}{u:Nat}(h:read w B=.bad t u):read w (B ++ Y)=.bad t u:=by
 unfold read at h⊢;split at h
 ·rename_i h1;rw[if_pos h1];exact h
 ·rename_i h1;rw[if_neg h1];split at h
  ·rename_i h2;rw[if_pos h2];split at h
   ·rename_i h3;rw[if_pos h3];exact h
   ·rename_i h3;rw[if_neg h3];revert h;cases num (wd w 2) with
    |none=>exact id
    |some n=>
     simp only;intro h;split at h
     ·rename_i h4;rw[if_pos h4];exact h
     ·rename_i h4;rw[if_neg h4];split at h
      ·rename_i h5;rw[if_pos h5];exact uu h
      ·cases h
  ·rename_i h2;rw[if_neg h2];exact h
theorem El{t:ByteArray}{u:Nat}(h:whole X=.bad t u):whole (X ++ Y)=.bad t u/\ln (X ++ Y)=ln X/\ws (X ++ Y)=ws X/\W2.aX (X ++ Y)=W2.aX X/\1<=ln X/\ln X<=2048:=by
 have h0:¬(ln X=0\/2048<ln X):=by
  intro e;unfold whole at h;rw[if_pos e] at h;cases h
 have h1:=yF (X:=X) (Y:=Y) (λe=>h0 (.inl e));have h2:ln (X ++ Y)=ln X:=by unfold ln;rw[h1.1]
 have h3:ws (X ++ Y)=ws X:=by unfold ws;rw[h1.2]
 have h4:(X ++ Y).extract (ln X) (X ++ Y).size=X.extract (ln X) X.size ++ Y:=by
  apply ByteArray.ext;simp only[ByteArray.data_extract,ByteArray.data_append,ByteArray.size_append];have h5:=uq X;have e1:X.size=X.data.size:=rfl;have e2:Y.size=Y.data.size:=rfl;rw[Array.extract_append,show ln X-X.data.size=0 by omega,show X.size+Y.size-X.data.size=Y.data.size by omega,Array.extract_size];congr 1;apply Array.ext
  ·simp<;>omega
  ·intro i h6 h7;simp
 refine⟨?_,h2,h3,h1.2,by omega,by omega⟩;unfold whole at h⊢;rw[h2,if_neg h0] at*;rw[h3,h4];split at h
 ·rename_i h5;rw[if_pos h5];exact h
 ·rename_i h5;rw[if_neg h5];split at h
  ·rename_i h6;rw[if_pos h6];unfold IP at h⊢;split at h
   ·rename_i h7;rw[if_pos h7];exact h
   ·rename_i h7;rw[if_neg h7];exact IQ h
  ·rename_i h6;rw[if_neg h6];unfold text at h⊢;split at h
   ·rename_i h7;rw[if_pos h7];exact h
   ·rename_i h7;rw[if_neg h7];split at h
    ·rename_i h8;rw[if_pos h8];exact Ej h
    ·rename_i h8;rw[if_neg h8];exact h
end
end Go.Proofs.YtboehbfagnocpaaGreatDoor.GB
namespace Go.Proofs.YtboehbfagnocpaaGreatDoor.W2
open Go.RowKit Go.PlainAid
namespace P
theorem yG(l:L)(x c:UInt8):Lib.hasSuffix (l ++ [x]) [c]=decide (x=c):=by
 unfold Lib.hasSuffix;rw[List.isSuffixOf];simp;by_cases h:x=c
 ·subst h;simp[List.isPrefixOf]
 ·simp[List.isPrefixOf,h,Ne.symm h]
theorem Qh{s:ByteArray}{i:Nat}(hi:i<=s.size)(h:∀k,k<i->bt s k≠10):10∉(sl s).take i:=by
 intro hm;obtain⟨k,hk,he⟩:=List.mem_iff_getElem.1 hm;have hk':k<i:=by have:=hk;simp at this;omega
 rw[List.getElem_take] at he;have:(sl s)[k]?=some 10:=by rw[List.getElem?_eq_some_iff];exact⟨by rw[bS];omega,he⟩
 exact h k hk' (by rw[ru this];rfl)
theorem IU{s:ByteArray}{i:Nat}(hi:i<s.size)(h0:bt s i=10)(h:∀k,k<i->bt s k≠10):10∈sl s/\upto 10 (sl s)=(sl s).take i:=by
 obtain⟨b,hb,hb2⟩:=lF hi;have GJ:b=10:=qo (by rw[<-hb2,h0];rfl);subst GJ;have hlt:i<(sl s).length:=by rw[bS];exact hi
 have e:sl s=(sl s).take i ++ 10 :: (sl s).drop (i+1):=by
  rw[List.getElem?_eq_getElem hlt] at hb;have:(sl s)[i]=10:=by simpa using hb
  rw[<-this,<-List.drop_eq_getElem_cons hlt,List.take_append_drop]
 refine⟨List.mem_of_getElem? hb,?_⟩;have h2:=(ry (b:=(sl s).drop (i+1)) (Qh (Nat.le_of_lt hi) h)).1;rw[<-e] at h2;exact h2
end P
theorem N7{s:ByteArray}{i:Nat}(hi:i<s.size)(h0:bt s i=10)(h:∀k,k<i->bt s k≠10):
 b_ s=(i:Int)+1/\aX s=if 0<i/\bt s (i-1)=13 then s.extract 0 (i-1) else s.extract 0 i:=by
 obtain⟨h1,h2⟩:=P.IU hi h0 h;have hl:((P.sl s).take i).length=i:=by rw[List.length_take,P.bS];omega
 refine⟨by unfold b_;rw[if_pos h1,h2,hl],?_⟩;unfold aX;rw[if_pos h1,h2,P.extract_mk,P.extract_mk];simp only[List.drop_zero];rcases i with _|i
 ·rw[if_neg (by omega)];rfl
 ·obtain⟨b,hb,hb2⟩:=P.lF (s:=s) (i:=i) (by omega);have e:(P.sl s).take (i+1)=(P.sl s).take i ++ [b]:=by rw[List.take_add_one,hb];rfl
  unfold Lib.trimSuffix;rw[e,P.yG,Nat.add_sub_cancel,hb2];by_cases N8:b=13
  ·subst N8;have hl2:((P.sl s).take i).length=i:=by rw[List.length_take,P.bS];omega
   simp[hl2,show ((UInt8.toNat 13:Nat):Int)=13 from rfl]
  ·have M4:¬((b.toNat:Int)=13):=λh=>N8 (P.qo (by rw[h];rfl))
   simp[N8,M4]
theorem Em{s:ByteArray}(h:∀k,k<s.size->bt s k≠10):b_ s=0/\aX s=⟨#[]⟩:=by
 have h1:=P.Qh (Nat.le_refl _) h;rw[show s.size=(P.sl s).length from(P.bS s).symm,List.take_length] at h1;unfold b_ aX;rw[if_neg h1,if_neg h1];exact⟨rfl,rfl⟩
theorem oQ(s:ByteArray)(w:World)(hs:s.size<=maxLen):Calls prog 36 #[.string s] w (dL s w):=by
 unfold maxLen at hs;have hb:=get_bt s;go_enter func36,ntmps36;go_wp2
 go_loop [4] (λi=> ∃k:Nat,k<=s.size/\i=.int .i64 k/\(∀j,j<k->bt s j≠10)) (λi=>s.size-(intOf i).toNat)
 case atStart=>exact⟨0,Nat.zero_le _,rfl,λj hj=>by omega⟩
 case round=>
  obtain⟨k,hk,rfl,hall⟩:=hrel;have eY:=hid hall;clear hall;by_cases hlt:k<s.size
  ·have NA:(k:Int)<(s.size:Int):=by omega
   by_cases h1:bt s k=10
   ·obtain⟨e1,e2⟩:=N7 hlt h1 eY.out;have hkm:IntKind.i64.wrap ((k:Int)+1)=(k:Int)+1:=by rw[IntKind.wrap_i64];omega
    rcases k with _|m
    ·rw[if_neg (by omega)] at e2;have E:=hid (And.intro e1 e2);clear e1 e2;go_wp2
     go_ret2;exact⟨by rw[E.out.1,E.out.2];simp,0,rfl⟩
    ·have i1:(m:Int)<(s.size:Int):=by omega
     have i2:(0:Int)<(m:Int)+1:=by omega
     have i3:m<s.size:=by omega
     have i4:(m:Int)+1<(s.size:Int):=by omega
     have i5:((m:Int)+1).toNat=m+1:=by omega
     rw[Nat.add_sub_cancel] at e2;by_cases N8:bt s m=13
     ·rw[if_pos ⟨by omega,N8⟩] at e2;have E:=hid (And.intro e1 e2);clear e1 e2;go_wp2
      go_ret2;exact⟨by rw[E.out.1,E.out.2];simp,0,rfl⟩
     ·rw[if_neg (λh=>N8 h.2)] at e2;have ad7:(bt s m == 13)=false:=by simp[N8]
      have E:=hid (And.intro e1 e2);clear e1 e2;go_wp2
      go_ret2;exact⟨by rw[E.out.1,E.out.2];simp,0,rfl⟩
   ·have h1b:(bt s k == 10)=false:=by simp[h1]
    have H1:=hid h1;clear h1;go_wp2
    go_round
    case rel=>
     refine⟨k+1,by omega,by go_num,λj hj=>?_⟩;rcases Nat.lt_succ_iff_lt_or_eq.1 hj with h|rfl
     ·exact eY.out j h
     ·exact H1.out
    case measure=>simp[intOf];omega
  ·have E:=hid (Em (s:=s) (λj hj=>eY.out j (by omega)));go_wp2
   go_ret2;exact⟨by rw[E.out.1,E.out.2];rfl,0,rfl⟩
end Go.Proofs.YtboehbfagnocpaaGreatDoor.W2
namespace Go.Proofs.YtboehbfagnocpaaGreatDoor.GB
open W2.P (sl mk)
theorem rY{b:ByteArray}{M:Nat}(hM:M=min b.size 2048)(h1:1<=ln b)(h2:ln b<=2048):W2.aX (b.extract 0 M)=W2.aX b/\W2.b_ (b.extract 0 M)=W2.b_ b:=by
 have hs:10∈sl b:=by
  unfold ln W2.b_ at h1;split at h1
  ·assumption
  ·exact absurd h1 (by decide)
 obtain⟨e,hn⟩:=W2.P.jS hs;have hl:ln b=(W2.P.upto 10 (sl b)).length+1:=by
  unfold ln W2.b_;rw[if_pos hs];omega
 have h3:=uq b;have h4:sl (b.extract 0 M)=(sl b).take M:=by
  unfold W2.P.sl;rw[ByteArray.data_extract,Array.toList_extract];simp
 have h5:10∈sl (b.extract 0 M):=by
  rw[h4];obtain⟨p,hp⟩:∃p,W2.P.upto 10 (sl b)=p:=⟨_,rfl⟩;rw[hp] at e hl;refine List.mem_of_getElem? (i:=p.length) ?_;rw[List.getElem?_take,if_pos (by omega),e,List.getElem?_append_right (Nat.le_refl _),Nat.sub_self];rfl
 have h6:ln (b.extract 0 M)≠0:=by
  unfold ln W2.b_;rw[if_pos h5];omega
 have h7:=yF (X:=b.extract 0 M) (Y:=b.extract M b.size) h6;rw[show b.extract 0 M ++ b.extract M b.size=b by
  apply ByteArray.ext;simp only[ByteArray.data_extract,ByteArray.data_append];have e1:b.size=b.data.size:=rfl;rw[Array.extract_append_extract,show min 0 M=0 by omega,show max M b.size=b.data.size by omega];exact Array.extract_size] at h7
 exact⟨h7.2.symm,h7.1.symm⟩
theorem IV(b:ByteArray):mk (W2.P.upto 32 (Lib.trimLeftB (sl (W2.aX b)) 32))=wd (ws b) 0:=by
 unfold wd ws W2.P.words;cases h:Lib.trimLeftB (sl (W2.aX b)) 32 with
 |nil=>rw[W2.P.GV h];rfl
 |cons a r=>rw[W2.P.go_step h];rfl
theorem IW{s:ByteArray}(h:s.size≠2):vG s=false:=by
 refine decide_eq_false (λe=>?_);rcases e with e|e|e|e|e|e<;>(rw[e] at h;exact h rfl)
theorem N9(x y:UInt8):vG ⟨#[x,y]⟩=(decide (x=109) && [110,101,103,115,100,97].contains y):=by
 unfold vG zG IM zH oO zI nU;by_cases h:x=109
 ·subst h;simp[List.contains_cons,Bool.or_assoc,Bool.decide_or]
 ·rw[decide_eq_false h,Bool.false_and];refine decide_eq_false (λe=>?_);rcases e with e|e|e|e|e|e<;>(simp at e;exact h e.1)
theorem RP{s:ByteArray}(h:s.size=2):∃x y,s=⟨#[x,y]⟩:=by
 obtain⟨⟨l⟩⟩:=s;match l,h with
 | [x,y],_=>exact⟨x,y,rfl⟩
theorem rZ{b:ByteArray}{n:Nat}(hb:n+2<=b.size)(h:¬crlf b n):Lib.hasSuffix (b.extract 0 (n+2)).data.toList [13,10]=false:=by
 rw[Bool.eq_false_iff];intro hs;apply h;unfold Lib.hasSuffix at hs;rw[List.isSuffixOf_iff_suffix] at hs;obtain⟨p,hp⟩:=hs;have e1:(sl b).take (n+2)=p ++ [13,10]:=by
  rw[hp,show (b.extract 0 (n+2)).data.toList=sl (b.extract 0 (n+2)) from rfl,W2.P.extract_mk,W2.P.uh,List.drop_zero]
 have hlen:p.length=n:=by
  have:=congrArg List.length e1;rw[List.length_take,W2.P.bS,List.length_append] at this;simp at this;omega
 unfold crlf;rw[W2.P.extract_mk,e1,<-hlen,List.drop_left];rfl
theorem iI{s:ByteArray}(h:vG s=true):s=zG\/s=IM\/s=zH\/s=oO\/s=zI\/s=nU:=of_decide_eq_true h
theorem IX{l:List ByteArray}{t:ByteArray}{u:Nat}(h:keysOf l=.bad t u):u=0:=by
 unfold keysOf at h;repeat' split at h
 all_goals first|(cases h;rfl)|cases h
theorem AR{l:List ByteArray}{t:ByteArray}{u:Nat}(h:gets l=.bad t u):u=0:=by
 unfold gets at h;repeat' split at h
 all_goals first|exact IX h|(cases h;rfl)|cases h
theorem vH{l:List ByteArray}{t:ByteArray}{u:Nat}(h:short l=.bad t u):u=0:=by
 unfold short at h;simp only at h;repeat' split at h
 all_goals first|(cases h;rfl)|cases h
theorem Cy{n:Nat}{B t:ByteArray}{u:Nat}(h:chunk n B=.bad t u):u<=B.size:=by
 unfold chunk at h;repeat' split at h
 all_goals first|(cases h;omega)|cases h
theorem Cz{l:List ByteArray}{B t:ByteArray}{u:Nat}(h:store l B=.bad t u):u<=B.size:=by
 unfold store at h;repeat' split at h
 all_goals first|exact Cy h|(cases h;omega)|cases h
theorem IY{l:List ByteArray}{B t:ByteArray}{u:Nat}(h:read l B=.bad t u):u<=B.size:=by
 unfold read at h;repeat' split at h
 all_goals first|exact Cy h|(cases h;omega)|cases h
theorem vI{l:List ByteArray}{t:ByteArray}{u:Nat}(h:plain l=.bad t u):u=0/\t=bg:=by
 unfold plain at h;repeat' split at h
 all_goals first|(cases h;exact⟨rfl,rfl⟩)|cases h
theorem RQ{l:List ByteArray}{B t:ByteArray}{u:Nat}(h:text l B=.bad t u):u<=B.size:=by
 unfold text at h;repeat' split at h
 ·rw[AR h];exact Nat.zero_le _
 ·exact Cz h
 ·rw[vH h];exact Nat.zero_le _
 ·rw[(vI h).1];exact Nat.zero_le _
end Go.Proofs.YtboehbfagnocpaaGreatDoor.GB
