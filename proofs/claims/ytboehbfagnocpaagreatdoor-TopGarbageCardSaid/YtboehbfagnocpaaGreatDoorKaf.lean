import Derived.Test.YtboehbfagnocpaaGreatDoorKae
set_option linter.unusedVariables false
set_option linter.unusedSimpArgs false
set_option maxRecDepth 100000
set_option maxHeartbeats 40000000
open Go.Proofs.Tryz
open Go.Lib (hid)
namespace Go.Proofs.YtboehbfagnocpaaGreatDoor.B3
open Go.RowKit Go.PlainAid
theorem lK(n:Int)(w:World)(h0:0<=n)(h1:n<64):Calls prog 267 #[.int .u32 n] w λe w'=>e=.returned (.int .u8 (P.letter n))/\w=w':=by
 by_cases c1:n<26
 ·have He:=hid (show P.letter n=65+n by unfold P.letter;rw[if_pos (by omega)]);go_enter func267,ntmps267;go_wp2
  go_ret;exact⟨by rw[He.out];go_num,rfl⟩
 by_cases c2:n<52
 ·have He:=hid (show P.letter n=71+n by unfold P.letter;rw[if_neg (by omega)];rw[if_pos (by omega)]);go_enter func267,ntmps267;go_wp2
  go_ret;exact⟨by rw[He.out];go_num,rfl⟩
 by_cases c3:n<62
 ·have He:=hid (show P.letter n=n-4 by unfold P.letter;rw[if_neg (by omega)];rw[if_neg (by omega)];rw[if_pos (by omega)]);go_enter func267,ntmps267;go_wp2
  go_ret;exact⟨by rw[He.out];go_num,rfl⟩
 by_cases c4:n=62
 ·subst c4;go_enter func267,ntmps267;go_wp2
  go_ret;exact⟨rfl,rfl⟩
 obtain rfl:n=63:=by omega
 go_enter func267,ntmps267;go_wp2
 go_ret;exact⟨rfl,rfl⟩
theorem nV{ops:Array Oper}{rest:List Oper}{o:Oper}{a:Act}{Q:Exit->Act->World->Prop}(w0 w:World)(hgd:o.guard=none)(s x:Operand)
 (ho:o.op=.call {callee:=.builtin .append,args:=#[s,x],argTypes:=#[118,118]}) (base:Nat) (v:Value) (n:Nat) (xs:List Int) (ys:List Int) (ad:Addr) (c:Nat)
 (hs:a.eval s=v) (hown:w.ownsRow base 5 1 v n (xs.map (.int .u8))) (hx:a.eval x=.slice (some ad) ys.length c) (hcell:∀j,j<ys.length->w.cell? (ad.add j)=some (.int .u8 (ys[j]?.getD 0)))
 (hbel:Below base w0 w) (hn:n+ys.length<1000000000000) (hpos:0<n+ys.length) (hbase:base<=w.heap.size)
 (h:∀g cap w',w'.ownsRow base 5 1 (.slice (some ⟨g,0,none⟩) (n+ys.length) cap) (n+ys.length) ((xs ++ ys).map (.int .u8))->Below base w0 w'->wpList prog ops Q rest (a.put o.dst (.slice (some ⟨g,0,none⟩) (n+ys.length) cap)) w'):
 wpList prog ops Q (o :: rest) a w:=by
 obtain⟨i0,hi,hz0,hz1,hz2⟩:=info_parts Aw;refine wpList_append_own _ hgd s x 118 ho base 5 i0 (.int .u8 0) 1 1 underlying118 hi hz0 hz1 hz2 rfl (by decide) v n _ hs hown ad ys.length c (ys.map (.int .u8)) hx (by simp) ?_ ?_ ?_ ?_ hbase ?_
 ·intro j y hj;have hjl:j<ys.length:=by have:=(List.getElem?_eq_some_iff.1 hj).1;simpa using this
  rw[hcell j hjl];simp[hjl] at hj⊢;exact hj
 ·intro y hy;obtain⟨z,_,rfl⟩:=List.mem_map.1 hy;rfl
 ·unfold maxLen;omega
 ·omega
 ·intro v' w' hown' hgrow hiff;have hb':Below base w0 w':=hbel.grown hgrow hbase (λk hk=>(hown.lt k hk).1);rcases hown'.2 with ⟨rfl,h0⟩|⟨g,cap,cur,rfl,_⟩
  ·omega
  ·exact h g cap w' (by simpa using hown') hb'
theorem r_{w:World}{base n:Nat}{ad:Option Addr}{cap:Nat}{l:List Int}(h:w.ownsRow base 5 1 (.slice ad n cap) n (l.map (.int .u8)))(hb:P.Bytes l):
 (convert 118 9 (.slice ad n cap)).run prog w=.ok (.string (strOfNums l)) w:=by
 have hl:l.length=n:=by simpa using h.1
 subst hl;rcases h.2 with ⟨hv,h0⟩|⟨g,cap',cur,hv,_⟩
 ·obtain rfl:l= []:=List.eq_nil_of_length_eq_zero h0;cases hv;exact run_convert_bytes_nil w 118 5 underlying118 underlying5 0 0 9 underlying9
 ·cases hv;by_cases h0:l= []
  ·subst h0;rw[run_convert_bytes_string w 118 9 5 _ _ _ underlying118 underlying5 underlying9];exact run_bytesToString (P:=prog) w ⟨g,0,none⟩ 0 cap [] (by simp[loadCells,loadCellsFrom])
  ·refine run_convert_bytes_arg w 118 5 underlying118 underlying5 g 0 _ cap l rfl (λi hi=>?_) 9 underlying9;have:=h.cellAt i (by omega);rw[Nat.zero_add,this];simp[hi]
theorem kY(s:ByteArray)(w:World)(hs:s.size<=100000000):Calls prog 220 #[.string s] w λe w'=>e=.returned (.string (strOfNums (P.encS s)))/\Below w.heap.size w w':=by
 have hb:=get_bt s;go_enter func220,ntmps220;go_wp2
 go_loopw [3,4] (λv i wr=> ∃(q:Nat) (ad:Option Addr) (cap:Nat),v=.slice ad (4*q) cap/\i=.int .i64 ((3*q:Nat):Int)/\3*q<=s.size+2/\wr.ownsRow w.heap.size 5 1 (.slice ad (4*q) cap) (4*q) (((P.encS s).take (4*q)).map (.int .u8))/\Below w.heap.size w wr) (λ_ i _=>s.size+3-(intOf i).toNat)
 case atStart=>exact⟨0,none,0,rfl,rfl,by omega,World.ownsRow_nil _ _ _ _,Below.refl _ _⟩
 case round=>
  obtain⟨q,ad,cap,rfl,rfl,hq,ho,hbl⟩:=hrel;obtain⟨k,hk⟩:∃k,3*q=k:=⟨_,rfl⟩;rw[hk];have Hk:=hid hk;have hq1:q<=100000000:=by omega
  by_cases hlt:k<s.size
  ·have NA:(k:Int)<(s.size:Int):=by omega
   have n0:=bt_nonneg s k;have n1:=bt_nonneg s (k+1);have n2:=bt_nonneg s (k+2);have m0:=bt_le s k;have m1:=bt_le s (k+1);have m2:=bt_le s (k+2);have sb:=λj=>P.jT (P.rD s) j
   obtain⟨x0,hx0⟩:∃x,P.sx (bt s) (4*q+0)=x:=⟨_,rfl⟩;have y0:=sb (4*q+0);rw[hx0] at y0;obtain⟨x1,hx1⟩:∃x,P.sx (bt s) (4*q+1)=x:=⟨_,rfl⟩;have y1:=sb (4*q+1);rw[hx1] at y1;obtain⟨x2,hx2⟩:∃x,P.sx (bt s) (4*q+2)=x:=⟨_,rfl⟩;have y2:=sb (4*q+2);rw[hx2] at y2;obtain⟨x3,hx3⟩:∃x,P.sx (bt s) (4*q+3)=x:=⟨_,rfl⟩;have y3:=sb (4*q+3);rw[hx3] at y3;have HX:=hid (And.intro hx0 (And.intro hx1 (And.intro hx2 hx3)));have hsx:P.sx (bt s) (4*q+0)=bt s k / 4/\P.sx (bt s) (4*q+1)=bt s k % 4*16+bt s (k+1) / 16/\P.sx (bt s) (4*q+2)=bt s (k+1) % 16*4+bt s (k+2) / 64/\P.sx (bt s) (4*q+3)=bt s (k+2) % 64:=by
    rw[<-Hk.out];exact⟨P.Zj _ q,P.Vn _ q,P.Vo _ q,P.Zk _ q⟩
   rw[hx0,hx1,hx2,hx3] at hsx;obtain⟨g0,g1,g2,g3⟩:=hsx;obtain⟨p0,q0⟩:=y0;obtain⟨p1,q1⟩:=y1;obtain⟨p2,q2⟩:=y2;obtain⟨p3,q3⟩:=y3;have Hq:=hid hq;clear sb hx0 hx1 hx2 hx3 hk hq;by_cases h3:k+2<s.size
   ·have h1I:1<(s.size:Int)-(k:Int):=by omega
    have h2I:2<(s.size:Int)-(k:Int):=by omega
    have h3I:¬(s.size:Int)-(k:Int)<3:=by omega
    have VI:¬(s.size:Int)-(k:Int)<2:=by omega
    have l1:(k:Int)+1<(s.size:Int):=by omega
    have t1:((k:Int)+1).toNat=k+1:=by omega
    have l2:(k:Int)+2<(s.size:Int):=by omega
    have t2:((k:Int)+2).toNat=k+2:=by omega
    have e1:bits .or .u32 (bits .or .u32 (bt s k*65536) (bt s (k+1)*256)) (bt s (k+2))=bt s k*65536+bt s (k+1)*256+bt s (k+2):=by
     rw[P.rE (bt s k*65536) (bt s (k+1)*256) 16 (by omega) (by omega) (by omega) (by omega) (by omega) (by omega),P.rE _ (bt s (k+2)) 8 (by omega) (by omega) (by omega) (by omega) (by omega) (by omega)]
    obtain⟨M,hM⟩:∃M,bt s k*65536+bt s (k+1)*256+bt s (k+2)=M:=⟨_,rfl⟩;rw[hM] at e1;have a0:M / 262144=x0:=by omega
    have a1:bits .and .u32 (M / 4096) 63=x1:=by rw[P.mG _ (by omega) (by omega)];omega
    have a2:bits .and .u32 (M / 64) 63=x2:=by rw[P.mG _ (by omega) (by omega)];omega
    have a3:bits .and .u32 M 63=x3:=by rw[P.mG _ (by omega) (by omega)];omega
    have IZ:Hid ((P.encS s).take (4*(q+1))=(P.encS s).take (4*q) ++ [P.letter x0,P.letter x1,P.letter x2,P.letter x3]):=by
     have hk:=Hk.out;obtain⟨h0,h1,h2,h3⟩:=HX.out;have hlen:(P.encS s).length=P.np s.size:=P.mJ _ _;have qG:4*(q+1)<=P.np s.size:=by unfold P.np;omega
     have f0:(P.encS s)[4*q+0]?.getD 0=P.letter x0:=by have:=P.fe (bt s) s.size (4*q+0);rw[if_pos (show 4*q+0<P.nl s.size by unfold P.nl;omega),h0] at this;exact this
     have f1:(P.encS s)[4*q+1]?.getD 0=P.letter x1:=by have:=P.fe (bt s) s.size (4*q+1);rw[if_pos (show 4*q+1<P.nl s.size by unfold P.nl;omega),h1] at this;exact this
     have f2:(P.encS s)[4*q+2]?.getD 0=P.letter x2:=by have:=P.fe (bt s) s.size (4*q+2);rw[if_pos (show 4*q+2<P.nl s.size by unfold P.nl;omega),h2] at this;exact this
     have f3:(P.encS s)[4*q+3]?.getD 0=P.letter x3:=by have:=P.fe (bt s) s.size (4*q+3);rw[if_pos (show 4*q+3<P.nl s.size by unfold P.nl;omega),h3] at this;exact this
     exact hid (P.nL (by omega) f0 f1 f2 f3)
    have HM:=hid hM;clear g0 g1 g2 g3 hM;go_wp2_with (first|(go_at_call 267;go_must (refine(lK _ _ (by omega) (by omega)).mono ?_);rintro e w' ⟨rfl,rfl⟩)|(at_builtin;go_must (refine nV w _ rfl _ _ rfl w.heap.size (.slice ad (4*q) cap) (4*q) ((P.encS s).take (4*q)) [P.letter x0,P.letter x1,P.letter x2,P.letter x3] ⟨wr.heap.size,0,none⟩ 4 rfl (by first|exact ho|exact ho.alloc _|exact(ho.alloc _).drew) rfl ?_ (by first|exact hbl|exact hbl.alloc hbl.size _) (by simp;omega) (by simp) (by simp;have:=hbl.size;omega) ?_)))
    ·intro j hj;simp only[List.length_cons,List.length_nil] at hj;obtain rfl|rfl|rfl|rfl:j=0\/j=1\/j=2\/j=3:=by omega
     all_goals simp[Addr.add]
    ·intro g2 cap2 w2 hown2 fP;have hown3:w2.ownsRow w.heap.size 5 1 (.slice (some ⟨g2,0,none⟩) (4*q+4) cap2) (4*q+4) (((P.encS s).take (4*(q+1))).map (.int .u8)):=by rw[IZ.out];simpa using hown2
     clear IZ ho hbl hown2;go_wp2_with (fail)
     go_roundw;case rel=>exact⟨q+1,some ⟨g2,0,none⟩,cap2,rfl,by rw[show ((k:Int)+3)=((3*(q+1):Nat):Int) by have:=Hk.out;omega],by have:=Hk.out;have:=Hq.out;omega,hown3,fP⟩
     case measure=>simp[intOf];omega
   ·by_cases h4:k+2=s.size
    ·have h1I:1<(s.size:Int)-(k:Int):=by omega
     have h2I:¬2<(s.size:Int)-(k:Int):=by omega
     have h3I:(s.size:Int)-(k:Int)<3:=by omega
     have VI:¬(s.size:Int)-(k:Int)<2:=by omega
     have l1:(k:Int)+1<(s.size:Int):=by omega
     have t1:((k:Int)+1).toNat=k+1:=by omega
     have z2:=bt_end s (k:=k+2) (by omega);rw[z2] at g2 g3;have e1:bits .or .u32 (bt s k*65536) (bt s (k+1)*256)=bt s k*65536+bt s (k+1)*256:=by
      rw[P.rE (bt s k*65536) (bt s (k+1)*256) 16 (by omega) (by omega) (by omega) (by omega) (by omega) (by omega)]
     obtain⟨M,hM⟩:∃M,bt s k*65536+bt s (k+1)*256=M:=⟨_,rfl⟩;rw[hM] at e1;have a0:M / 262144=x0:=by omega
     have a1:bits .and .u32 (M / 4096) 63=x1:=by rw[P.mG _ (by omega) (by omega)];omega
     have a2:bits .and .u32 (M / 64) 63=x2:=by rw[P.mG _ (by omega) (by omega)];omega
     have a3:bits .and .u32 M 63=x3:=by rw[P.mG _ (by omega) (by omega)];omega
     have IZ:Hid ((P.encS s).take (4*(q+1))=(P.encS s).take (4*q) ++ [P.letter x0,P.letter x1,P.letter x2,61]):=by
      have hk:=Hk.out;obtain⟨h0,h1,h2,h3⟩:=HX.out;have hlen:(P.encS s).length=P.np s.size:=P.mJ _ _;have qG:4*(q+1)<=P.np s.size:=by unfold P.np;omega
      have f0:(P.encS s)[4*q+0]?.getD 0=P.letter x0:=by have:=P.fe (bt s) s.size (4*q+0);rw[if_pos (show 4*q+0<P.nl s.size by unfold P.nl;omega),h0] at this;exact this
      have f1:(P.encS s)[4*q+1]?.getD 0=P.letter x1:=by have:=P.fe (bt s) s.size (4*q+1);rw[if_pos (show 4*q+1<P.nl s.size by unfold P.nl;omega),h1] at this;exact this
      have f2:(P.encS s)[4*q+2]?.getD 0=P.letter x2:=by have:=P.fe (bt s) s.size (4*q+2);rw[if_pos (show 4*q+2<P.nl s.size by unfold P.nl;omega),h2] at this;exact this
      have f3:(P.encS s)[4*q+3]?.getD 0=61:=by have:=P.fe (bt s) s.size (4*q+3);rw[if_neg (show¬4*q+3<P.nl s.size by unfold P.nl;omega),if_pos (show 4*q+3<P.np s.size by omega)] at this;exact this
      exact hid (P.nL (by omega) f0 f1 f2 f3)
     have HM:=hid hM;clear g0 g1 g2 g3 hM;go_wp2_with (first|(go_at_call 267;go_must (refine(lK _ _ (by omega) (by omega)).mono ?_);rintro e w' ⟨rfl,rfl⟩)|(at_builtin;go_must (refine nV w _ rfl _ _ rfl w.heap.size (.slice ad (4*q) cap) (4*q) ((P.encS s).take (4*q)) [P.letter x0,P.letter x1,P.letter x2,61] ⟨wr.heap.size,0,none⟩ 4 rfl (by first|exact ho|exact ho.alloc _|exact(ho.alloc _).drew) rfl ?_ (by first|exact hbl|exact hbl.alloc hbl.size _) (by simp;omega) (by simp) (by simp;have:=hbl.size;omega) ?_)))
     ·intro j hj;simp only[List.length_cons,List.length_nil] at hj;obtain rfl|rfl|rfl|rfl:j=0\/j=1\/j=2\/j=3:=by omega
      all_goals simp[Addr.add]
     ·intro g2 cap2 w2 hown2 fP;have hown3:w2.ownsRow w.heap.size 5 1 (.slice (some ⟨g2,0,none⟩) (4*q+4) cap2) (4*q+4) (((P.encS s).take (4*(q+1))).map (.int .u8)):=by rw[IZ.out];simpa using hown2
      clear IZ ho hbl hown2;go_wp2_with (fail)
      go_roundw;case rel=>exact⟨q+1,some ⟨g2,0,none⟩,cap2,rfl,by rw[show ((k:Int)+3)=((3*(q+1):Nat):Int) by have:=Hk.out;omega],by have:=Hk.out;have:=Hq.out;omega,hown3,fP⟩
      case measure=>simp[intOf];omega
    ·have h1I:¬1<(s.size:Int)-(k:Int):=by omega
     have h2I:¬2<(s.size:Int)-(k:Int):=by omega
     have h3I:(s.size:Int)-(k:Int)<3:=by omega
     have VI:(s.size:Int)-(k:Int)<2:=by omega
     have z2:=bt_end s (k:=k+2) (by omega);rw[z2] at g2 g3;have z1:=bt_end s (k:=k+1) (by omega);rw[z1] at g1 g2;obtain⟨M,hM⟩:∃M,bt s k*65536=M:=⟨_,rfl⟩;have a0:M / 262144=x0:=by omega
     have a1:bits .and .u32 (M / 4096) 63=x1:=by rw[P.mG _ (by omega) (by omega)];omega
     have a2:bits .and .u32 (M / 64) 63=x2:=by rw[P.mG _ (by omega) (by omega)];omega
     have a3:bits .and .u32 M 63=x3:=by rw[P.mG _ (by omega) (by omega)];omega
     have IZ:Hid ((P.encS s).take (4*(q+1))=(P.encS s).take (4*q) ++ [P.letter x0,P.letter x1,61,61]):=by
      have hk:=Hk.out;obtain⟨h0,h1,h2,h3⟩:=HX.out;have hlen:(P.encS s).length=P.np s.size:=P.mJ _ _;have qG:4*(q+1)<=P.np s.size:=by unfold P.np;omega
      have f0:(P.encS s)[4*q+0]?.getD 0=P.letter x0:=by have:=P.fe (bt s) s.size (4*q+0);rw[if_pos (show 4*q+0<P.nl s.size by unfold P.nl;omega),h0] at this;exact this
      have f1:(P.encS s)[4*q+1]?.getD 0=P.letter x1:=by have:=P.fe (bt s) s.size (4*q+1);rw[if_pos (show 4*q+1<P.nl s.size by unfold P.nl;omega),h1] at this;exact this
      have f2:(P.encS s)[4*q+2]?.getD 0=61:=by have:=P.fe (bt s) s.size (4*q+2);rw[if_neg (show¬4*q+2<P.nl s.size by unfold P.nl;omega),if_pos (show 4*q+2<P.np s.size by omega)] at this;exact this
      have f3:(P.encS s)[4*q+3]?.getD 0=61:=by have:=P.fe (bt s) s.size (4*q+3);rw[if_neg (show¬4*q+3<P.nl s.size by unfold P.nl;omega),if_pos (show 4*q+3<P.np s.size by omega)] at this;exact this
      exact hid (P.nL (by omega) f0 f1 f2 f3)
     have HM:=hid hM;clear g0 g1 g2 g3;go_wp2_with (first|(go_at_call 267;go_must (refine(lK _ _ (by omega) (by omega)).mono ?_);rintro e w' ⟨rfl,rfl⟩)|(at_builtin;go_must (refine nV w _ rfl _ _ rfl w.heap.size (.slice ad (4*q) cap) (4*q) ((P.encS s).take (4*q)) [P.letter x0,P.letter x1,61,61] ⟨wr.heap.size,0,none⟩ 4 rfl (by first|exact ho|exact ho.alloc _|exact(ho.alloc _).drew) rfl ?_ (by first|exact hbl|exact hbl.alloc hbl.size _) (by simp;omega) (by simp) (by simp;have:=hbl.size;omega) ?_)))
     ·intro j hj;simp only[List.length_cons,List.length_nil] at hj;obtain rfl|rfl|rfl|rfl:j=0\/j=1\/j=2\/j=3:=by omega
      all_goals simp[Addr.add]
     ·intro g2 cap2 w2 hown2 fP;have hown3:w2.ownsRow w.heap.size 5 1 (.slice (some ⟨g2,0,none⟩) (4*q+4) cap2) (4*q+4) (((P.encS s).take (4*(q+1))).map (.int .u8)):=by rw[IZ.out];simpa using hown2
      clear IZ ho hbl hown2;go_wp2_with (fail)
      go_roundw;case rel=>exact⟨q+1,some ⟨g2,0,none⟩,cap2,rfl,by rw[show ((k:Int)+3)=((3*(q+1):Nat):Int) by have:=Hk.out;omega],by have:=Hk.out;have:=Hq.out;omega,hown3,fP⟩
      case measure=>simp[intOf];omega
  ·have hge:P.np s.size<=4*q:=by unfold P.np;omega
   have IZ:Hid ((P.encS s).take (4*q)=P.encS s):=hid (List.take_of_length_le (by unfold P.encS;rw[P.mJ];exact hge));rw[IZ.out] at ho;have hcv:=r_ ho (P.nK s);clear hk hq hge IZ;go_wp2_with (fail)
   go_ret;exact⟨rfl,hbl⟩
namespace P
def vz(c:Int):Int:=if val c<0 then 0 else val c
def dz(s:ByteArray)(i:Nat):Int:=vz (bt s i)
theorem dE(c:Int):0<=vz c/\vz c<64:=by have:=G9 c;unfold vz;split<;>omega
theorem I_{c x:Int}(h:val c=x)(h0:0<=x):vz c=x/\decide (0<=val c)=true:=by
 unfold vz;rw[h,if_neg (by omega)];exact⟨rfl,decide_eq_true h0⟩
theorem Jc{c:Int}(h:val c= -1):vz c=0/\decide (0<=val c)=false:=by
 unfold vz;rw[h];exact⟨rfl,rfl⟩
theorem dN{s:ByteArray}(h:okD s=true):bl s<=s.size/\s.size<=bl s+2/\s.size % 4=0/\(∀i,i<bl s->0<=dv s i)/\(∀i,bl s<=i->i<s.size->bt s i=61):=by
 obtain⟨h1,h2,h3,_⟩:=(iX s).1 h;obtain⟨c1,c2,c3,c4⟩:=gT s;exact⟨c1,by omega,h1,h3,c3⟩
def acc(s:ByteArray)(i:Nat):Nat->Int
 |0=>0
 |k+1=>acc s i k*64+dz s (i+k)
theorem kL(s:ByteArray)(i:Nat):∀k,0<=acc s i k/\(k<=3->acc s i k<16777216 / 64)/\(k<=4->acc s i k<16777216)
 |0=>by simp[acc]
 |1=>by have:=dE (bt s (i+0));simp only[acc,dz];omega
 |2=>by have:=dE (bt s (i+0));have:=dE (bt s (i+1));simp only[acc,dz];omega
 |3=>by have:=dE (bt s (i+0));have:=dE (bt s (i+1));have:=dE (bt s (i+2));simp only[acc,dz];omega
 |k+4=>by
  have h0:=(kL s i (k+3)).1;have h1:=dE (bt s (i+(k+3)));refine⟨by simp only[acc,dz] at *; omega,λh=>by omega,λh=>?_⟩;have h2:=(kL s i (k+3)).2.1 (by omega);simp only[acc,dz] at *; omega
theorem ZA(s:ByteArray)(q:Nat):acc s (4*q) 4 / 65536=dx (dz s) (3*q)/\acc s (4*q) 4 / 256 % 256=dx (dz s) (3*q+1)/\acc s (4*q) 4 % 256=dx (dz s) (3*q+2)/\
 0<=dx (dz s) (3*q)/\dx (dz s) (3*q)<=255/\0<=dx (dz s) (3*q+1)/\dx (dz s) (3*q+1)<=255/\0<=dx (dz s) (3*q+2)/\dx (dz s) (3*q+2)<=255:=by
 have h0:0<=dz s (4*q)/\dz s (4*q)<64:=dE (bt s (4*q));have h1:0<=dz s (4*q+1)/\dz s (4*q+1)<64:=dE (bt s (4*q+1));have h2:0<=dz s (4*q+2)/\dz s (4*q+2)<64:=dE (bt s (4*q+2));have h3:0<=dz s (4*q+3)/\dz s (4*q+3)<64:=dE (bt s (4*q+3));rw[P8,P9,P_];simp only[acc,Nat.add_zero];generalize dz s (4*q)=a at*;generalize dz s (4*q+1)=b at*;generalize dz s (4*q+2)=c at*;generalize dz s (4*q+3)=d at*;omega
def three(s:ByteArray)(q p:Nat):List Int:=[dx (dz s) (3*q),dx (dz s) (3*q+1),dx (dz s) (3*q+2)].take (3-p)
theorem uw{s:ByteArray}(h:okD s=true){i:Nat}(hi:i<bl s):dz s i=dv s i:=by
 have:=(dN h).2.2.2.1 i hi;unfold dz vz;unfold dv at this⊢;rw[if_neg (by omega)]
def part(s:ByteArray)(q:Nat):List Int:=fC (dv s) (min (3*q) (6*bl s / 8))
theorem En{s:ByteArray}(h:okD s=true){q p:Nat}(hq:4*q<s.size)(hp:p=4*q+4-bl s):part s (q+1)=part s q ++ three s q p:=by
 obtain⟨f1,f2,f3,f4,f5⟩:=dN h;unfold part three;have e0:3*q<6*bl s / 8->dx (dz s) (3*q)=dx (dv s) (3*q):=λhlt=>by rw[P8,P8,uw h (by omega),uw h (by omega)]
 have e1:3*q+1<6*bl s / 8->dx (dz s) (3*q+1)=dx (dv s) (3*q+1):=λhlt=>by rw[P9,P9,uw h (by omega),uw h (by omega)]
 have e2:3*q+2<6*bl s / 8->dx (dz s) (3*q+2)=dx (dv s) (3*q+2):=λhlt=>by rw[P_,P_,uw h (by omega),uw h (by omega)]
 have hm:p=0\/p=1\/p=2:=by omega
 rcases hm with h0|h0|h0
 ·subst h0;have hl:4*q+4<=bl s:=by omega
  rw[e0 (by omega),e1 (by omega),e2 (by omega),show min (3*(q+1)) (6*bl s / 8)=3*q+2+1 by omega,show min (3*q) (6*bl s / 8)=3*q by omega,dQ,dQ,dQ];simp
 ·subst h0;have hl:bl s=4*q+3:=by omega
  rw[e0 (by omega),e1 (by omega),show min (3*(q+1)) (6*bl s / 8)=3*q+1+1 by omega,show min (3*q) (6*bl s / 8)=3*q by omega,dQ,dQ];simp
 ·subst h0;have hl:bl s=4*q+2:=by omega
  rw[e0 (by omega),show min (3*(q+1)) (6*bl s / 8)=3*q+1 by omega,show min (3*q) (6*bl s / 8)=3*q by omega,dQ];simp
theorem Jd{s:ByteArray}(h:okD s=true){q:Nat}(hq:s.size<=4*q):strOfNums (part s q)=iW s:=by
 obtain⟨f1,_⟩:=dN h;rw[qp h];unfold part;rw[show min (3*q) (6*bl s / 8)=6*bl s / 8 by omega]
end P
theorem AU(c:Int)(w:World)(h0:0<=c)(h1:c<=255):Calls prog 219 #[.int .u8 c] w λe w'=>e=.returned (.tuple #[.int .u32 (P.vz c),.bool (decide (0<=P.val c))])/\w=w':=by
 by_cases c1:65<=c/\c<=90
 ·have He:=hid (P.I_ (c:=c) (x:=c-65) (by unfold P.val;rw[if_pos c1]) (by omega));obtain⟨d1,d2⟩:=c1;go_enter func219,ntmps219;go_wp2
  go_ret2;exact⟨by rw[He.out.1,He.out.2];go_num,rfl⟩
 ·by_cases c2:97<=c/\c<=122
  ·have He:=hid (P.I_ (c:=c) (x:=c-71) (by unfold P.val;rw[if_neg c1,if_pos c2]) (by omega));obtain⟨d1,d2⟩:=c2;clear c1;go_enter func219,ntmps219;go_wp2
   go_ret2;exact⟨by rw[He.out.1,He.out.2];go_num,rfl⟩
  ·by_cases c3:48<=c/\c<=57
   ·have He:=hid (P.I_ (c:=c) (x:=c+4) (by unfold P.val;rw[if_neg c1,if_neg c2,if_pos c3]) (by omega));obtain⟨d1,d2⟩:=c3;clear c1 c2;go_enter func219,ntmps219;go_wp2
    go_ret2;exact⟨by rw[He.out.1,He.out.2];go_num,rfl⟩
   ·by_cases c4:c=43
    ·subst c4;go_enter func219,ntmps219;go_wp2
     go_ret2;exact⟨rfl,rfl⟩
    ·by_cases c5:c=47
     ·subst c5;go_enter func219,ntmps219;go_wp2
      go_ret2;exact⟨rfl,rfl⟩
     ·have He:=hid (P.Jc (c:=c) (by unfold P.val;rw[if_neg c1,if_neg c2,if_neg c3,if_neg c4,if_neg c5]));have c4':(c == 43)=false:=by simp[c4]
      have c5':(c == 47)=false:=by simp[c5]
      go_enter func219,ntmps219;go_wp2
      all_goals (go_ret2)
      all_goals (exact⟨by rw[He.out.1,He.out.2];rfl,rfl⟩)
theorem N_{a b:ByteArray}(h:a=b):(a.toList == b.toList)=true:=by rw[h];simp
theorem Oa{a b:ByteArray}(h:a≠b):(a.toList == b.toList)=false:=by
 rw[beq_eq_false_iff_ne,ByteArray.toList_eq,ByteArray.toList_eq];intro e;apply h;cases a;cases b;simp only at e;rw[Array.toList_inj.1 e]
theorem own_below{w w':World}{base n:Nat}{e:TypeId}{size:Nat}{v:Value}{xs:List Value}(h:w.ownsRow base e size v n xs)(hb:Below w.heap.size w w'):w'.ownsRow base e size v n xs:=
 h.kept (row:=none) ⟨hb.os,hb.tape,hb.output,hb.size,λi hi _=>hb.block i hi⟩ (by cases hv:v.ownBlock<;>simp)
theorem tu(s:ByteArray)(w:World)(hs:s.size<=100000000):Calls prog 156 #[.string s] w (dJ s w):=by
 have hb:=get_bt s;by_cases c1:s.size % 4=0
 ·have c1':(s.size:Int) % 4=0:=by omega
  go_enter func156,ntmps156;go_wp2
  have MN:=hid c1;clear c1' c1;go_loopw [4,5] (λv i wr=> ∃(q n:Nat) (ad:Option Addr) (cap:Nat) (l:List Int),v=.slice ad n cap/\i=.int .i64 ((4*q:Nat):Int)/\4*q<=s.size/\n<=3*q/\P.Bytes l/\(P.okD s=true->l=P.part s q)/\wr.ownsRow w.heap.size 5 1 (.slice ad n cap) n (l.map (.int .u8))/\Below w.heap.size w wr) (λ_ i _=>s.size+3-(intOf i).toNat)
  case atStart=>exact⟨0,0,none,0,[],rfl,rfl,by omega,by omega,λx hx=>by simp at hx,λ_=>by simp[P.part,P.fC],World.ownsRow_nil _ _ _ _,Below.refl _ _⟩
  case round=>
   obtain⟨q,n,ad,cap,l,rfl,rfl,hq,hn,hby,hpt,ho,hbl⟩:=hrel;have wW:=hid hby;have XR:=hid hpt;clear hby hpt;obtain⟨K,hK⟩:∃K,4*q=K:=⟨_,rfl⟩;rw[hK] at hq⊢;have HK:=hid hK;have hn9:n<=100000000:=by omega
   by_cases hlt:K<s.size
   ·have hle:K+4<=s.size:=by have:=MN.out;omega
    have NA:(K:Int)<(s.size:Int):=by omega
    clear hK;go_wp2_with (fail)
    go_loop [6,7,8] (λv6 v7 v8=> ∃(k p:Nat),k<=4/\v8=.int .i64 k/\v7=.int .i64 p/\v6=.int .u32 (P.acc s K k)/\(p=0\/p+2<=k)/\(P.okD s=true->p=K+k-P.bl s)) (λ_ _ v=>4-(intOf v).toNat)
    case atStart=>exact⟨0,0,by omega,rfl,rfl,rfl,.inl rfl,λh=>by have:=(P.dN h).1;have:=(P.dN h).2.1;have:=MN.out;have:=HK.out;omega⟩
    case round=>
     obtain⟨k,p,hk,rfl,rfl,rfl,hp,hpb⟩:=hrel;have ZB:=hid hpb;have Hp:=hid hp;have hp4:p<=4:=by omega
     clear hpb;by_cases hk4:k<4
     ·have i1:(K:Int)+(k:Int)<(s.size:Int):=by omega
      have i2:((K:Int)+(k:Int)).toNat=K+k:=by omega
      have i3:K+k<s.size:=by omega
      have n0:=bt_nonneg s (K+k);have n1:=bt_le s (K+k);have v0:=P.dE (bt s (K+k));have a0:=P.kL s K k;obtain⟨c,hc⟩:∃c,bt s (K+k)=c:=⟨_,rfl⟩;have ea:P.acc s K (k+1)=P.acc s K k*64+P.vz c:=by rw[<-hc];rfl
      rw[hc] at n0 n1 v0;obtain⟨x,hx⟩:∃x,P.acc s K k=x:=⟨_,rfl⟩;obtain⟨d,hd⟩:∃d,P.vz c=d:=⟨_,rfl⟩;rw[hx] at a0 ea⊢;rw[hd] at v0 ea;obtain⟨v0,v1⟩:=v0;obtain⟨x0,x1,_⟩:=a0;have x1':=x1 (by omega);have eo:bits .or .u32 (x*64) d=x*64+d:=P.rE _ _ 6 (by omega) (by omega) (by omega) v0 (by omega) (by omega);have ZC:=hid ea;have pU:Hid (∀w',Calls prog 219 #[.int .u8 c] w' λe w''=>e=.returned (.tuple #[.int .u32 d,.bool (decide (0<=P.val c))])/\w'=w''):=hid (λw'=>by rw[<-hd];exact AU c w' n0 n1);have Hvc:=hid hd;have Hc:=hid hc;clear ea hd hx x1 hp;by_cases VJ:c=61
      ·have Je:P.val c= -1:=by rw[VJ];rfl
       have hd0:d=0:=by rw[<-Hvc.out];exact(P.Jc Je).1
       have hdec:decide (0<=P.val c)=false:=(P.Jc Je).2;by_cases h4:K+4=s.size
       ·by_cases hk2:(2<=k)
        ·rw[hdec] at pU;have VI:(K:Int)+4=(s.size:Int):=by omega
         have RU:Hid (P.okD s=true->p+1=K+(k+1)-P.bl s):=hid (λhok=>by
          obtain⟨f1,f2,f3,f4,f5⟩:=P.dN hok;have hge:P.bl s<=K+k:=by
           rcases Nat.lt_or_ge (K+k) (P.bl s) with h|h
           ·have:=f4 _ h;unfold P.dv at this;rw[Hc.out] at this;omega
           ·exact h
          have:=ZB.out hok;omega)
         have Hp2:Hid (p+1+2<=k+1):=hid (by have:=Hp.out;omega);have Hx2:Hid (x*64=P.acc s K (k+1)):=hid (by rw[ZC.out,hd0];omega);have eo':bits .or .u32 (x*64) 0=x*64:=by rw[hd0] at eo;rw[eo];omega
         rw[hd0] at pU;subst VJ;clear Je hdec hd0 eo h4 ZC Hvc v0 v1;go_wp2_with (go_at_call 219;refine(pU.out _).mono ?_;rintro e w' ⟨rfl,rfl⟩)
         go_round
         case rel=>exact⟨k+1,p+1,by omega,by go_num,by go_num,by rw[Hx2.out],.inr Hp2.out,RU.out⟩
         case measure=>simp[intOf];omega
        ·have hneg:P.val c<0:=by omega
         have Hno:Hid (P.okD s=false):=hid (by
          rcases hok:P.okD s with _|_
          ·rfl
          ·exfalso;obtain⟨f1,f2,f3,f4,f5⟩:=P.dN hok;have hge:P.bl s<=K+k:=by
            rcases Nat.lt_or_ge (K+k) (P.bl s) with h|h
            ·have:=f4 _ h;unfold P.dv at this;rw[Hc.out] at this;omega
            ·exact h
           have:=f5 _ hge i3;rw[Hc.out] at this;have:=HK.out;have:=MN.out;omega)
         subst VJ;have VI:(K:Int)+4=(s.size:Int):=by omega
         clear Je hd0 hneg;rw[hdec] at pU;go_wp2_with (go_at_call 219;refine(pU.out _).mono ?_;rintro e w' ⟨rfl,rfl⟩)
         go_ret2;exact⟨bT Hno.out rfl,hbl⟩
       ·have hneg:P.val c<0:=by omega
        have Hno:Hid (P.okD s=false):=hid (by
         rcases hok:P.okD s with _|_
         ·rfl
         ·exfalso;obtain⟨f1,f2,f3,f4,f5⟩:=P.dN hok;have hge:P.bl s<=K+k:=by
           rcases Nat.lt_or_ge (K+k) (P.bl s) with h|h
           ·have:=f4 _ h;unfold P.dv at this;rw[Hc.out] at this;omega
           ·exact h
          have:=f5 _ hge i3;rw[Hc.out] at this;have:=HK.out;have:=MN.out;omega)
        subst VJ;have VI:¬(K:Int)+4=(s.size:Int):=by omega
        have h4b:((K:Int)+4 == (s.size:Int))=false:=by simp;omega
        clear Je hd0 hneg;rw[hdec] at pU;go_wp2_with (go_at_call 219;refine(pU.out _).mono ?_;rintro e w' ⟨rfl,rfl⟩)
        go_ret2;exact⟨bT Hno.out rfl,hbl⟩
      ·have ad':(c == 61)=false:=by simp[VJ]
       by_cases hneg:P.val c<0
       ·have hdec:decide (0<=P.val c)=false:=decide_eq_false (by omega);have Hno:Hid (P.okD s=false):=hid (by
         rcases hok:P.okD s with _|_
         ·rfl
         ·exfalso;obtain⟨f1,f2,f3,f4,f5⟩:=P.dN hok;have hge:P.bl s<=K+k:=by
           rcases Nat.lt_or_ge (K+k) (P.bl s) with h|h
           ·have:=f4 _ h;unfold P.dv at this;rw[Hc.out] at this;omega
           ·exact h
          have:=f5 _ hge i3;rw[Hc.out] at this;have:=HK.out;have:=MN.out;omega)
        clear hneg;rw[hdec] at pU;go_wp2_with (go_at_call 219;refine(pU.out _).mono ?_;rintro e w' ⟨rfl,rfl⟩)
        go_ret2;exact⟨bT Hno.out rfl,hbl⟩
       ·have hdec:decide (0<=P.val c)=true:=decide_eq_true (by omega);rw[hdec] at pU;by_cases hp0:0<p
        ·have aea:0<(p:Int):=by omega
         have Hno:Hid (P.okD s=false):=hid (by
          rcases hok:P.okD s with _|_
          ·rfl
          ·exfalso;obtain⟨f1,f2,f3,f4,f5⟩:=P.dN hok;have hge:=ZB.out hok;have:=f5 _ (by omega) i3;rw[Hc.out] at this;omega)
         clear hneg hdec;go_wp2_with (go_at_call 219;refine(pU.out _).mono ?_;rintro e w' ⟨rfl,rfl⟩)
         go_ret2;exact⟨bT Hno.out rfl,hbl⟩
        ·obtain rfl:p=0:=by omega
         have RU:Hid (P.okD s=true->0=K+(k+1)-P.bl s):=hid (λhok=>by
          obtain⟨f1,f2,f3,f4,f5⟩:=P.dN hok;rcases Nat.lt_or_ge (K+k) (P.bl s) with h|h
          ·omega
          ·have:=f5 _ h i3;rw[Hc.out] at this;omega)
         clear hneg hdec hp0;go_wp2_with (go_at_call 219;refine(pU.out _).mono ?_;rintro e w' ⟨rfl,rfl⟩)
         go_round
         case rel=>exact⟨k+1,0,by omega,by go_num,rfl,by rw[ZC.out],.inl rfl,RU.out⟩
         case measure=>simp[intOf];omega
     ·obtain rfl:k=4:=by omega
      have h3:p=0\/p=1\/p=2:=by have:=Hp.out;omega
      obtain⟨g0,g1,g2,g3,g4,g5,g6,g7,g8⟩:=P.ZA s q;rw[HK.out] at g0 g1 g2;have hb3:=P.kL s K 4;obtain⟨x0,_,x1⟩:=hb3;have x1':=x1 (by omega);obtain⟨x,hx⟩:∃x,P.acc s K 4=x:=⟨_,rfl⟩;rw[hx] at g0 g1 g2 x0 x1'⊢;obtain⟨d0,hd0⟩:∃d,P.dx (P.dz s) (3*q)=d:=⟨_,rfl⟩;obtain⟨d1,hd1⟩:∃d,P.dx (P.dz s) (3*q+1)=d:=⟨_,rfl⟩;obtain⟨d2,hd2⟩:∃d,P.dx (P.dz s) (3*q+2)=d:=⟨_,rfl⟩;rw[hd0] at g0 g3 g4;rw[hd1] at g1 g5 g6;rw[hd2] at g2 g7 g8;have w0:IntKind.u8.wrap (x / 65536)=d0:=by rw[IntKind.wrap_u8];omega
      have w1:IntKind.u8.wrap (x / 256)=d1:=by rw[IntKind.wrap_u8];omega
      have w2:IntKind.u8.wrap x=d2:=by rw[IntKind.wrap_u8];omega
      have Ua:∀p,Hid (P.three s q p= [d0,d1,d2].take (3-p)):=λp=>hid (by unfold P.three;rw[hd0,hd1,hd2])
      have Ub:Hid (P.okD s=true->P.part s (q+1)=P.part s q ++ P.three s q p):=hid (λhok=>P.En hok (by have:=HK.out;omega) (by have:=ZB.out hok;have:=HK.out;omega));clear g0 g1 g2 hd0 hd1 hd2 hx x1 hp;rcases h3 with rfl|rfl|rfl
      ·go_wp2_with (at_builtin;go_must (refine nV w _ rfl _ _ rfl w.heap.size (.slice ad n cap) n l [d0,d1,d2] ⟨wr.heap.size,0,none⟩ 3 rfl (by first|exact ho|exact ho.alloc _|exact(ho.alloc _).drew) rfl ?_ (by first|exact hbl|exact hbl.alloc hbl.size _) (by simp;omega) (by simp) (by simp;have:=hbl.size;omega) ?_))
       ·intro j hj;try simp only[List.length_cons,List.length_nil] at hj
        obtain rfl|rfl|rfl:j=0\/j=1\/j=2:=by omega
        all_goals (try simp[Addr.add])
       ·intro g9 cap2 w2' hown2 fP;have Jf:Hid (P.Bytes (l ++ [d0,d1,d2])):=hid (λy hy=>by
         rcases List.mem_append.1 hy with h|h
         ·exact wW.out y h
         ·simp at h;rcases h with rfl|rfl|rfl<;>omega)
        have Jg:Hid (P.okD s=true->l ++ [d0,d1,d2]=P.part s (q+1)):=hid (λhok=>by
         rw[Ub.out hok,(Ua 0).out,XR.out hok];rfl)
        clear ho hbl Ub Ua w0 w1 w2 g3 g4 g5 g6 g7 g8;go_wp2_with (fail)
        go_roundw;case rel=>exact⟨q+1,n+3,some ⟨g9,0,none⟩,cap2,l ++ [d0,d1,d2],rfl,by rw[show ((K:Int)+4)=((4*(q+1):Nat):Int) by have:=HK.out;omega],by have:=HK.out;omega,by omega,Jf.out,Jg.out,by simpa using hown2,fP⟩
        case measure=>simp[intOf];omega
      ·go_wp2_with (at_builtin;go_must (refine nV w _ rfl _ _ rfl w.heap.size (.slice ad n cap) n l [d0,d1] ⟨wr.heap.size,0,none⟩ 3 rfl (by first|exact ho|exact ho.alloc _|exact(ho.alloc _).drew) rfl ?_ (by first|exact hbl|exact hbl.alloc hbl.size _) (by simp;omega) (by simp) (by simp;have:=hbl.size;omega) ?_))
       ·intro j hj;try simp only[List.length_cons,List.length_nil] at hj
        obtain rfl|rfl:j=0\/j=1:=by omega
        all_goals (try simp[Addr.add])
       ·intro g9 cap2 w2' hown2 fP;have Jf:Hid (P.Bytes (l ++ [d0,d1])):=hid (λy hy=>by
         rcases List.mem_append.1 hy with h|h
         ·exact wW.out y h
         ·simp at h;rcases h with rfl|rfl<;>omega)
        have Jg:Hid (P.okD s=true->l ++ [d0,d1]=P.part s (q+1)):=hid (λhok=>by
         rw[Ub.out hok,(Ua 1).out,XR.out hok];rfl)
        clear ho hbl Ub Ua w0 w1 w2 g3 g4 g5 g6 g7 g8;go_wp2_with (fail)
        go_roundw;case rel=>exact⟨q+1,n+2,some ⟨g9,0,none⟩,cap2,l ++ [d0,d1],rfl,by rw[show ((K:Int)+4)=((4*(q+1):Nat):Int) by have:=HK.out;omega],by have:=HK.out;omega,by omega,Jf.out,Jg.out,by simpa using hown2,fP⟩
        case measure=>simp[intOf];omega
      ·go_wp2_with (at_builtin;go_must (refine nV w _ rfl _ _ rfl w.heap.size (.slice ad n cap) n l [d0] ⟨wr.heap.size,0,none⟩ 3 rfl (by first|exact ho|exact ho.alloc _|exact(ho.alloc _).drew) rfl ?_ (by first|exact hbl|exact hbl.alloc hbl.size _) (by simp;omega) (by simp) (by simp;have:=hbl.size;omega) ?_))
       ·intro g9 cap2 w2' hown2 fP;have Jf:Hid (P.Bytes (l ++ [d0])):=hid (λy hy=>by
         rcases List.mem_append.1 hy with h|h
         ·exact wW.out y h
         ·simp at h;subst h;omega)
        have Jg:Hid (P.okD s=true->l ++ [d0]=P.part s (q+1)):=hid (λhok=>by
         rw[Ub.out hok,(Ua 2).out,XR.out hok];rfl)
        clear ho hbl Ub Ua w0 w1 w2 g3 g4 g5 g6 g7 g8;go_wp2_with (fail)
        go_roundw;case rel=>exact⟨q+1,n+1,some ⟨g9,0,none⟩,cap2,l ++ [d0],rfl,by rw[show ((K:Int)+4)=((4*(q+1):Nat):Int) by have:=HK.out;omega],by have:=HK.out;omega,by omega,Jf.out,Jg.out,by simpa using hown2,fP⟩
        case measure=>simp[intOf];omega
   ·obtain rfl:K=s.size:=by omega
    have hcv:=r_ ho wW.out;have hsl:l.length=n:=by have:=ho.1;simpa using this
    have Hls:Hid ((strOfNums l).size=n):=hid (by rw[P.iH,hsl]);have VK:=hbl.size;have VL:Hid (P.okD s=true->strOfNums l=P.iW s):=hid (λhok=>by rw[XR.out hok];exact P.Jd hok (by omega));clear hsl hK;rcases hok:P.okD s with _|_
    ·have hcmp:=Oa (a:=strOfNums (P.encS (strOfNums l))) (b:=s) (λe=>by have:=(P.Vq (strOfNums l)).1;rw[e,hok] at this;cases this);have Hno:=hid hok;clear hok;go_wp2_with (go_at_call 220;refine(kY (strOfNums l) wr (by rw[Hls.out];omega)).mono ?_;rintro e w2 ⟨rfl,hb2⟩)
     go_ret2;exact⟨bT Hno.out rfl,hbl.trans (hb2.mono VK)⟩
    ·have hcmp:=N_ (a:=strOfNums (P.encS (strOfNums l))) (b:=s) (by rw[VL.out hok];exact P.Vr hok);have ZE:=hid hok;have VM:=hid (VL.out hok);clear hok;go_wp2_with (go_at_call 220;refine(kY (strOfNums l) wr (by rw[Hls.out];omega)).mono ?_;rintro e w2 ⟨rfl,hb2⟩;have aeb:=r_ (own_below ho hb2) wW.out)
     go_ret2;exact⟨by rw[VM.out,ZE.out];rfl,hbl.trans (hb2.mono VK)⟩
 ·have Hno:=hid (P.nJ (s:=s) (λh=>c1 h.1));have c1':¬(s.size:Int) % 4=0:=by omega
  have c1b:((s.size:Int) % 4 == 0)=false:=by simp;omega
  clear c1;go_enter func156,ntmps156;go_wp2
  go_ret2;exact⟨bT Hno.out rfl,Below.refl _ _⟩
end Go.Proofs.YtboehbfagnocpaaGreatDoor.B3
namespace Go.Proofs.YtboehbfagnocpaaGreatDoor
open Go.RowKit Go.PlainAid Go.Shelf
def hasB(l:List UInt8)(c:Int):Bool:=l.any (λb=>(b.toNat:Int) == c)
theorem Jh{s:ByteArray}{k:Nat}{c:Int}(hk:k<s.size)(h:bt s k=c):hasB s.data.toList c=true:=by
 obtain⟨b,h1,h2⟩:=W2.P.lF hk;unfold hasB;rw[List.any_eq_true];exact⟨b,List.mem_of_getElem? h1,by rw[beq_iff_eq];omega⟩
theorem Ob{s:ByteArray}{c:Int}(h:∀j,j<s.size->bt s j≠c):hasB s.data.toList c=false:=by
 unfold hasB;rw[List.any_eq_false];intro b hb e;obtain⟨j,hj,h1⟩:=List.mem_iff_getElem.1 hb;have h2:j<s.size:=by simpa using hj
 have h3:=W2.P.ru (s:=s) (i:=j) (b:=b) (by unfold W2.P.sl;rw[List.getElem?_eq_getElem hj,h1]);rw[beq_iff_eq] at e;exact h j h2 (by omega)
theorem RV(s:ByteArray)(c:Int)(w:World)(hs:s.size<=maxLen):Calls prog 217 #[.string s,.int .u8 c] w λe w'=>e=.returned (.bool (hasB s.data.toList c))/\w=w':=by
 unfold maxLen at hs;have hb:=get_bt s;go_enter func217,ntmps217;go_wp2
 go_loop [5] (λi=> ∃k:Nat,k<=s.size/\i=.int .i64 k/\(∀j,j<k->bt s j≠c)) (λi=>s.size-(intOf i).toNat)
 case atStart=>exact⟨0,Nat.zero_le _,rfl,λj hj=>by omega⟩
 case round=>
  obtain⟨k,hk,rfl,hall⟩:=hrel;have eY:=hid hall;clear hall;by_cases hlt:k<s.size
  ·have hn:=bt_nonneg s k;have hl:=bt_le s k;by_cases h1:bt s k=c
   ·have h1':(bt s k == c)=true:=by simp[h1]
    have HY:=hid (Jh hlt h1);clear h1;go_wp2
    go_ret;exact⟨ay HY.out.symm,rfl⟩
   ·have h1':(bt s k == c)=false:=by simp[h1]
    have H1:=hid h1;clear h1;go_wp2
    go_round
    case rel=>
     refine⟨k+1,by omega,by go_num,λj hj=>?_⟩;rcases Nat.lt_succ_iff_lt_or_eq.1 hj with h|rfl
     ·exact eY.out j h
     ·exact H1.out
    case measure=>simp[intOf];omega
  ·have HN:=hid (Ob (s:=s) (c:=c) (λj hj=>eY.out j (by omega)));go_wp2
   go_ret;exact⟨ay HN.out.symm,rfl⟩
theorem Ji(s:ByteArray)(w:World):Calls prog 216 #[.string s] w λe w'=>e=.returned (.string (W2.P.mk (GB.allow s)))/\w=w':=by
 have HA:=hid (show W2.P.mk (GB.allow s)=W2.P.mk (GB.allow s) from rfl);by_cases h0:s=GB.IM
 ·subst h0;unfold GB.IM;go_enter func216,ntmps216;go_wp2
  go_ret;exact⟨rfl,rfl⟩
 have b0:(s.toList == [109,101])=false:=by
  rw[show [109,101]=GB.IM.toList by rw[ByteArray.toList_eq];rfl,a_,decide_eq_false h0]
 by_cases h1:s=GB.zH
 ·subst h1;unfold GB.zH;go_enter func216,ntmps216;go_wp2
  go_ret;exact⟨rfl,rfl⟩
 have b1:(s.toList == [109,103])=false:=by
  rw[show [109,103]=GB.zH.toList by rw[ByteArray.toList_eq];rfl,a_,decide_eq_false h1]
 by_cases h2:s=GB.oO
 ·subst h2;unfold GB.oO;go_enter func216,ntmps216;go_wp2
  go_ret;exact⟨rfl,rfl⟩
 have b2:(s.toList == [109,115])=false:=by
  rw[show [109,115]=GB.oO.toList by rw[ByteArray.toList_eq];rfl,a_,decide_eq_false h2]
 by_cases h3:s=GB.zI
 ·subst h3;unfold GB.zI;go_enter func216,ntmps216;go_wp2
  go_ret;exact⟨rfl,rfl⟩
 have b3:(s.toList == [109,100])=false:=by
  rw[show [109,100]=GB.zI.toList by rw[ByteArray.toList_eq];rfl,a_,decide_eq_false h3]
 by_cases h4:s=GB.nU
 ·subst h4;unfold GB.nU;go_enter func216,ntmps216;go_wp2
  go_ret;exact⟨rfl,rfl⟩
 have b4:(s.toList == [109,97])=false:=by
  rw[show [109,97]=GB.nU.toList by rw[ByteArray.toList_eq];rfl,a_,decide_eq_false h4]
 have HN:=hid (show W2.P.mk (GB.allow s)=⟨#[]⟩ by unfold GB.allow;rw[if_neg h0,if_neg h1,if_neg h2,if_neg h3,if_neg h4];rfl);clear HA h0 h1 h2 h3 h4;go_enter func216,ntmps216;go_wp2
 go_ret;exact⟨by rw[HN.out];rfl,rfl⟩
def iJ(s:ByteArray):Int:=if s=GB.zH then 1 else if s=GB.oO then 2 else if s=GB.zI then 5 else if s=GB.nU then 3 else 7
theorem rop(s:ByteArray)(w:World):Calls prog 153 #[.string s] w λe w'=>e=.returned (.int .i64 (iJ s))/\w=w':=by
 by_cases h0:s=GB.zH
 ·subst h0;unfold GB.zH;go_enter func153,ntmps153;go_wp2
  go_ret;exact⟨rfl,rfl⟩
 have b0:(s.toList == [109,103])=false:=by
  rw[show [109,103]=GB.zH.toList by rw[ByteArray.toList_eq];rfl,a_,decide_eq_false h0]
 by_cases h1:s=GB.oO
 ·subst h1;unfold GB.oO;go_enter func153,ntmps153;go_wp2
  go_ret;exact⟨rfl,rfl⟩
 have b1:(s.toList == [109,115])=false:=by
  rw[show [109,115]=GB.oO.toList by rw[ByteArray.toList_eq];rfl,a_,decide_eq_false h1]
 by_cases h2:s=GB.zI
 ·subst h2;unfold GB.zI;go_enter func153,ntmps153;go_wp2
  go_ret;exact⟨rfl,rfl⟩
 have b2:(s.toList == [109,100])=false:=by
  rw[show [109,100]=GB.zI.toList by rw[ByteArray.toList_eq];rfl,a_,decide_eq_false h2]
 by_cases h3:s=GB.nU
 ·subst h3;unfold GB.nU;go_enter func153,ntmps153;go_wp2
  go_ret;exact⟨rfl,rfl⟩
 have b3:(s.toList == [109,97])=false:=by
  rw[show [109,97]=GB.nU.toList by rw[ByteArray.toList_eq];rfl,a_,decide_eq_false h3]
 have HN:=hid (show iJ s=7 by unfold iJ;rw[if_neg h0,if_neg h1,if_neg h2,if_neg h3]);clear h0 h1 h2 h3;go_enter func153,ntmps153;go_wp2
 go_ret;exact⟨by rw[HN.out];rfl,rfl⟩
def RX(op:Int)(vs:Array Value):Prop:=∃(i1:Int) (s1 s2:ByteArray) (i2 i3:Int) (b1:Bool) (i4:Int) (b2:Bool) (i5 i6:Int) (b3 b4:Bool) (i7 i8:Int) (b5:Bool),vs= #[.int .i64 op,.int .i64 i1,.string s1,.string s2,.int .u32 i2,.int .i64 i3,.bool b1,.int .u64 i4,.bool b2,.int .u64 i5,.int .u64 i6,.bool b3,.bool b4,.int .i64 i7,.int .i64 i8,.bool b5]
def bF(b:Nat)(op:Int):aT where
 R w:=∃vs,RX op vs/\(aG b vs 56).R w
 B x:=x=b
 keep h ht hd:=by obtain⟨vs,h1,h2⟩:=h;exact⟨vs,h1,(aG b vs 56).keep h2 ht hd⟩
 lt h hx:=by obtain⟨vs,h1,h2⟩:=h;exact(aG b vs 56).lt h2 hx
theorem bF.turn{b:Nat}{op:Int}{vs vs':Array Value}{w w':World}(h:ag (aG b vs 56) (aG b vs' 56) w w')(hc:RX op vs'):ag (bF b op) (bF b op) w w':=⟨⟨vs',hc,h.here⟩,h.bL,h.nu⟩
theorem bF.below{b:Nat}{op:Int}{w w':World}(h:(bF b op).R w)(hb:Below w.heap.size w w'):(bF b op).R w':=(bF b op).keep h (aP.of_below (λ_=>False) hb) (λ_ _ x=>x)
theorem kZ{s:ByteArray}(h:1<=s.size):((GB.hd s).toNat:Int)=bt s 0:=by
 obtain⟨b,h1,h2⟩:=W2.P.lF (s:=s) (i:=0) h;unfold GB.hd;unfold W2.P.sl at h1;rw[h2,List.headD_eq_head?_getD,List.head?_eq_getElem?,h1];rfl
theorem VN{s:ByteArray}(h:1<=s.size)(c:UInt8):GB.hd s=c↔bt s 0=c.toNat:=by
 rw[<-kZ h];constructor
 ·rintro rfl;rfl
 ·intro e;exact UInt8.toNat_inj.1 (by omega)
theorem lg(l:List UInt8)(c:UInt8):hasB l (c.toNat:Int)=l.contains c:=by
 unfold hasB;rw[Bool.eq_iff_iff,List.any_eq_true,List.contains_iff_exists_mem_beq];constructor
 ·rintro⟨b,h1,h2⟩;exact⟨b,h1,by rw[beq_iff_eq] at h2⊢;exact UInt8.toNat_inj.1 (by omega)⟩
 ·rintro⟨b,h1,h2⟩;exact⟨b,h1,by rw[beq_iff_eq] at h2⊢;rw[h2]⟩
def Jj(b:Nat)(op:Int)(q:Bool)(w:World)(e:Ending)(w':World):Prop:=e=.returned (.bool q)/\ag (bF b op) (bF b op) w w'
theorem Oc{b:Nat}{op:Int}{s:ByteArray}{w:World}(h:(bF b op).R w)(hs:s.size<=1000000):Calls prog 266 #[.pointer (some ⟨b,0,none⟩),.string s] w (Jj b op (GB.cB (decide (op=3)) s) w):=by
 obtain⟨vs,⟨i1,s1,s2,i2,i3,b1,i4,b2,i5,i6,b3,b4,i7,i8,b5,rfl⟩,hc⟩:=h;have HC:=hid hc;by_cases h1:s.size=1
 ·have hg:=get_bt s;have h0:(1:Int)=s.size:=by omega
  have h1b:((s.size:Int) !=1)=false:=by simp;omega
  obtain⟨k0,f0,k1,f1,k2,f2,k3,f3,k4,f4,k5,f5,k6,f6,k7,f7,k8,f8,k9,f9,k10,f10,k11,f11,k12,f12,k13,f13,k14,f14,k15,f15⟩:iA w b (.int .i64 op) (.int .i64 i1) (.string s1) (.string s2) (.int .u32 i2) (.int .i64 i3) (.bool b1) (.int .u64 i4) (.bool b2) (.int .u64 i5) (.int .u64 i6) (.bool b3) (.bool b4) (.int .i64 i7) (.int .i64 i8) (.bool b5):=bV (HC.out);by_cases h3:op=3
  ·have h3':(op == 3)=true:=by simp[h3]
   have H1:=hid (λw'=>RV ⟨#[68,100,45]⟩ (bt s 0) w' (by decide));have H2:=hid (λw'=>RV ⟨#[73,105,43,68,100,45]⟩ (bt s 0) w' (by decide));have HF:=hid (show hasB [73,105,43,68,100,45] (bt s 0)=GB.cB (decide (op=3)) s by
    rw[<-kZ (by omega),lg,decide_eq_true h3];unfold GB.cB;rw[decide_eq_true h1];rfl)
   clear h3 h1;go_enter func266,ntmps266;go_wp2_with (go_at_call 217;first|(with_reducible refine(H1.out _).mono ?_)|(with_reducible refine(H2.out _).mono ?_);rintro e w1 ⟨rfl,rfl⟩)
   go_ret;exact⟨ay HF.out,bF.turn (ai HC.out 11 _) ⟨_,_,_,_,_,_,_,_,_,_,_,_,_,_,_,rfl⟩⟩
  ·have h3':(op == 3)=false:=by simp[h3]
   have HF:=hid (show GB.cB (decide (op=3)) s= [83,115,69,101,82,114,65,97,80,112].contains (GB.hd s) by
    rw[decide_eq_false h3];unfold GB.cB;rw[decide_eq_true h1];rfl)
   have HE:=hid (λc=>VN (s:=s) (by omega) c);clear h3 h1;by_cases Uc:bt s 0=83
   ·have aed:(bt s 0 == 83)=true:=by simp[Uc]
    have HQ:=hid (show GB.cB (decide (op=3)) s=true by rw[HF.out,(HE.out 83).2 Uc];rfl);clear Uc HE HF;go_enter func266,ntmps266;go_wp2
    go_ret;exact⟨ay HQ.out.symm,bF.turn (ai HC.out 1 _) ⟨_,_,_,_,_,_,_,_,_,_,_,_,_,_,_,rfl⟩⟩
   have r83:(bt s 0 == 83)=false:=by simp[Uc]
   have t83:=hid (show¬GB.hd s=83 from λe=>Uc ((HE.out 83).1 e));clear Uc;by_cases Eo:bt s 0=115
   ·have abP:(bt s 0 == 115)=true:=by simp[Eo]
    have HQ:=hid (show GB.cB (decide (op=3)) s=true by rw[HF.out,(HE.out 115).2 Eo];rfl);clear Eo HE HF;go_enter func266,ntmps266;go_wp2
    go_ret;exact⟨ay HQ.out.symm,bF.turn (ai HC.out 1 _) ⟨_,_,_,_,_,_,_,_,_,_,_,_,_,_,_,rfl⟩⟩
   have aee:(bt s 0 == 115)=false:=by simp[Eo]
   have t115:=hid (show¬GB.hd s=115 from λe=>Eo ((HE.out 115).1 e));clear Eo;by_cases Ud:bt s 0=69
   ·have aef:(bt s 0 == 69)=true:=by simp[Ud]
    have HQ:=hid (show GB.cB (decide (op=3)) s=true by rw[HF.out,(HE.out 69).2 Ud];rfl);clear Ud HE HF;go_enter func266,ntmps266;go_wp2
    go_ret;exact⟨ay HQ.out.symm,bF.turn (ai HC.out 1 _) ⟨_,_,_,_,_,_,_,_,_,_,_,_,_,_,_,rfl⟩⟩
   have r69:(bt s 0 == 69)=false:=by simp[Ud]
   have t69:=hid (show¬GB.hd s=69 from λe=>Ud ((HE.out 69).1 e));clear Ud;by_cases Ep:bt s 0=101
   ·have abQ:(bt s 0 == 101)=true:=by simp[Ep]
    have HQ:=hid (show GB.cB (decide (op=3)) s=true by rw[HF.out,(HE.out 101).2 Ep];rfl);clear Ep HE HF;go_enter func266,ntmps266;go_wp2
    go_ret;exact⟨ay HQ.out.symm,bF.turn (ai HC.out 1 _) ⟨_,_,_,_,_,_,_,_,_,_,_,_,_,_,_,rfl⟩⟩
   have aeg:(bt s 0 == 101)=false:=by simp[Ep]
   have t101:=hid (show¬GB.hd s=101 from λe=>Ep ((HE.out 101).1 e));clear Ep;by_cases Ue:bt s 0=65
   ·have aeh:(bt s 0 == 65)=true:=by simp[Ue]
    have HQ:=hid (show GB.cB (decide (op=3)) s=true by rw[HF.out,(HE.out 65).2 Ue];rfl);clear Ue HE HF;go_enter func266,ntmps266;go_wp2
    go_ret;exact⟨ay HQ.out.symm,bF.turn (ai HC.out 1 _) ⟨_,_,_,_,_,_,_,_,_,_,_,_,_,_,_,rfl⟩⟩
   have r65:(bt s 0 == 65)=false:=by simp[Ue]
   have t65:=hid (show¬GB.hd s=65 from λe=>Ue ((HE.out 65).1 e));clear Ue;by_cases Uf:bt s 0=97
   ·have aei:(bt s 0 == 97)=true:=by simp[Uf]
    have HQ:=hid (show GB.cB (decide (op=3)) s=true by rw[HF.out,(HE.out 97).2 Uf];rfl);clear Uf HE HF;go_enter func266,ntmps266;go_wp2
    go_ret;exact⟨ay HQ.out.symm,bF.turn (ai HC.out 1 _) ⟨_,_,_,_,_,_,_,_,_,_,_,_,_,_,_,rfl⟩⟩
   have r97:(bt s 0 == 97)=false:=by simp[Uf]
   have t97:=hid (show¬GB.hd s=97 from λe=>Uf ((HE.out 97).1 e));clear Uf;by_cases Ug:bt s 0=80
   ·have aej:(bt s 0 == 80)=true:=by simp[Ug]
    have HQ:=hid (show GB.cB (decide (op=3)) s=true by rw[HF.out,(HE.out 80).2 Ug];rfl);clear Ug HE HF;go_enter func266,ntmps266;go_wp2
    go_ret;exact⟨ay HQ.out.symm,bF.turn (ai HC.out 1 _) ⟨_,_,_,_,_,_,_,_,_,_,_,_,_,_,_,rfl⟩⟩
   have r80:(bt s 0 == 80)=false:=by simp[Ug]
   have t80:=hid (show¬GB.hd s=80 from λe=>Ug ((HE.out 80).1 e));clear Ug;by_cases Es:bt s 0=112
   ·have abR:(bt s 0 == 112)=true:=by simp[Es]
    have HQ:=hid (show GB.cB (decide (op=3)) s=true by rw[HF.out,(HE.out 112).2 Es];rfl);clear Es HE HF;go_enter func266,ntmps266;go_wp2
    go_ret;exact⟨ay HQ.out.symm,bF.turn (ai HC.out 1 _) ⟨_,_,_,_,_,_,_,_,_,_,_,_,_,_,_,rfl⟩⟩
   have aek:(bt s 0 == 112)=false:=by simp[Es]
   have t112:=hid (show¬GB.hd s=112 from λe=>Es ((HE.out 112).1 e));clear Es;by_cases uy:bt s 0=82
   ·have VO:(bt s 0 == 82)=true:=by simp[uy]
    have HQ:=hid (show GB.cB (decide (op=3)) s=true by rw[HF.out,(HE.out 82).2 uy];rfl);clear uy HE HF;go_enter func266,ntmps266;go_wp2
    go_ret;exact⟨ay HQ.out.symm,bF.turn (ai HC.out 1 _) ⟨_,_,_,_,_,_,_,_,_,_,_,_,_,_,_,rfl⟩⟩
   have r82:(bt s 0 == 82)=false:=by simp[uy]
   have t82:=hid (show¬GB.hd s=82 from λe=>uy ((HE.out 82).1 e));clear uy;by_cases Et:bt s 0=114
   ·have abT:(bt s 0 == 114)=true:=by simp[Et]
    have HQ:=hid (show GB.cB (decide (op=3)) s=true by rw[HF.out,(HE.out 114).2 Et];rfl);clear Et HE HF;go_enter func266,ntmps266;go_wp2
    go_ret;exact⟨ay HQ.out.symm,bF.turn (ai HC.out 1 _) ⟨_,_,_,_,_,_,_,_,_,_,_,_,_,_,_,rfl⟩⟩
   have ael:(bt s 0 == 114)=false:=by simp[Et]
   have t114:=hid (show¬GB.hd s=114 from λe=>Et ((HE.out 114).1 e));clear Et;have HQ:=hid (show GB.cB (decide (op=3)) s=false by
    rw[HF.out];simp[t83.out,t115.out,t69.out,t101.out,t65.out,t97.out,t80.out,t112.out,t82.out,t114.out])
   clear HE HF t83 t115 t69 t101 t65 t97 t80 t112 t82 t114;go_enter func266,ntmps266;go_wp2
   go_ret;exact⟨ay HQ.out.symm,bF.turn (ag.rfl' HC.out) ⟨_,_,_,_,_,_,_,_,_,_,_,_,_,_,_,rfl⟩⟩
 ·have h1':¬(s.size:Int)=1:=by omega
  have h1b:((s.size:Int) !=1)=true:=by simp;omega
  have HQ:=hid (show GB.cB (decide (op=3)) s=false by unfold GB.cB;rw[decide_eq_false h1];rfl);clear h1;go_enter func266,ntmps266;go_wp2
  go_ret;exact⟨ay HQ.out.symm,bF.turn (ag.rfl' HC.out) ⟨_,_,_,_,_,_,_,_,_,_,_,_,_,_,_,rfl⟩⟩
theorem fJ(s:ByteArray):s.toList.isEmpty=decide (s.size=0):=by
 rw[ByteArray.toList_eq];by_cases h:s.size=0
 ·rw[decide_eq_true h];have:s.data.toList= []:=List.length_eq_zero_iff.1 (by simpa using h);rw[this];rfl
 ·rw[decide_eq_false h];have:s.data.toList≠[]:=λe=>h (by have:=congrArg List.length e;simpa using this)
  simpa using this
theorem Eu{b:Nat}{op:Int}{s:ByteArray}{fl:UInt8}{w:World}(h:(bF b op).R w)(hs:s.size<=1000000):Calls prog 218 #[.pointer (some ⟨b,0,none⟩),.int .u8 (fl.toNat:Int),.string s] w (Jj b op (GB.arg (decide (op=3)) fl s) w):=by
 have HP:=hid (λw'=>bQ s w' hs);have HS:=hid (λw'=>jW s w' hs);have HH:=hid h;obtain⟨fi,hfi⟩:∃fi:Int,(fl.toNat:Int)=fi:=⟨_,rfl⟩;obtain⟨u,hu⟩:∃u,(((nm s.data.toList).getD 0:Nat):Int)=u:=⟨_,rfl⟩;have HF:=hid (λc:UInt8=>show fl=c↔fi=c.toNat by
  rw[<-hfi];constructor
  ·rintro rfl;rfl
  ·intro e;exact UInt8.toNat_inj.1 (by omega))
 have HU:=hid (show∀n,nm s.data.toList=some n->u=n from λn e=>by rw[<-hu,e];rfl);unfold oN at HP;rw[hu] at HP;unfold pQ at HS;rw[hfi];clear h hfi hu;go_enter func218,ntmps218
 go_upto_region 3 with (first
  |(go_at_call 152;refine(HP.out _).mono ?_;rintro e w1 ⟨rfl,rfl⟩)
  |(go_at_call 158;refine(HS.out _).mono ?_;rintro e w2 ⟨v,rfl,hb2⟩
    have hcm:=(bF b op).keep HH.out (aP.of_below (λ_=>False) hb2) (λ_ _ x=>x);obtain⟨vs,⟨i1,s1,s2,i2,i3,b1,i4,b2,i5,i6,b3,b4,i7,i8,b5,rfl⟩,hc⟩:=hcm;have HC:=hid hc;have HB:=hid (show∀w',ag (bF b op) (bF b op) w2 w'->ag (bF b op) (bF b op) w w' from λw' ht=>((ag.rfl' HH.out).below hb2).trans ht);clear hb2 HH HP HS;obtain⟨k0,f0,k1,f1,k2,f2,k3,f3,k4,f4,k5,f5,k6,f6,k7,f7,k8,f8,k9,f9,k10,f10,k11,f11,k12,f12,k13,f13,k14,f14,k15,f15⟩:iA w2 b (.int .i64 op) (.int .i64 i1) (.string s1) (.string s2) (.int .u32 i2) (.int .i64 i3) (.bool b1) (.int .u64 i4) (.bool b2) (.int .u64 i5) (.int .u64 i6) (.bool b3) (.bool b4) (.int .i64 i7) (.int .i64 i8) (.bool b5):=bV (hc);clear hc))
 by_cases Uh:fi=73
 ·have aem:(fi == 73)=true:=by simp[Uh]
  have HQ:=hid (show GB.arg (decide (op=3)) fl s=s.toList.isEmpty by rw[(HF.out 73).2 Uh];rw[fJ];rfl);clear Uh HF;go_wp2
  go_ret;exact⟨ay (HQ.out.symm),HB.out _ (bF.turn (ai HC.out 15 _) ⟨_,_,_,_,_,_,_,_,_,_,_,_,_,_,_,rfl⟩)⟩
 have r73:(fi == 73)=false:=by simp[Uh]
 have t73:=hid (show¬fl=73 from λe=>Uh ((HF.out 73).1 e));clear Uh;by_cases Ew:fi=67
 ·have ZF:(fi == 67)=true:=by simp[Ew]
  have HQ:=hid (show GB.arg (decide (op=3)) fl s=(nm s.data.toList).isSome by rw[(HF.out 67).2 Ew];rfl);clear Ew HF;go_wp2
  go_ret;exact⟨ay (HQ.out.symm),HB.out _ (bF.turn ((ai HC.out 8 _).set 7 _) ⟨_,_,_,_,_,_,_,_,_,_,_,_,_,_,_,rfl⟩)⟩
 have r67:(fi == 67)=false:=by simp[Ew]
 have t67:=hid (show¬fl=67 from λe=>Ew ((HF.out 67).1 e));clear Ew;by_cases Ex:fi=68
 ·have ZG:(fi == 68)=true:=by simp[Ex]
  have HQ:=hid (show GB.arg (decide (op=3)) fl s=(nm s.data.toList).isSome by rw[(HF.out 68).2 Ex];rfl);clear Ex HF;go_wp2
  go_ret;exact⟨ay (HQ.out.symm),HB.out _ (bF.turn (ai HC.out 9 _) ⟨_,_,_,_,_,_,_,_,_,_,_,_,_,_,_,rfl⟩)⟩
 have r68:(fi == 68)=false:=by simp[Ex]
 have t68:=hid (show¬fl=68 from λe=>Ex ((HF.out 68).1 e));clear Ex;by_cases Ey:fi=74
 ·have ZH:(fi == 74)=true:=by simp[Ey]
  have HQ:=hid (show GB.arg (decide (op=3)) fl s=(nm s.data.toList).isSome by rw[(HF.out 74).2 Ey];rfl);clear Ey HF;go_wp2
  go_ret;exact⟨ay (HQ.out.symm),HB.out _ (bF.turn (ai HC.out 10 _) ⟨_,_,_,_,_,_,_,_,_,_,_,_,_,_,_,rfl⟩)⟩
 have r74:(fi == 74)=false:=by simp[Ey]
 have t74:=hid (show¬fl=74 from λe=>Ey ((HF.out 74).1 e));clear Ey;by_cases Ez:fi=70
 ·have ZI:(fi == 70)=true:=by simp[Ez]
  have HQ:=hid (show GB.arg (decide (op=3)) fl s=(match nm s.data.toList with|some n=>decide (n<4294967296)|none=>false) by rw[(HF.out 70).2 Ez];rfl);clear Ez HF;cases hi:nm s.data.toList with
  |none=>
   rw[hi] at HQ;clear HU hi;go_wp2
   go_ret;exact⟨ay (HQ.out.symm),HB.out _ (bF.turn (ai HC.out 4 _) ⟨_,_,_,_,_,_,_,_,_,_,_,_,_,_,_,rfl⟩)⟩
  |some n=>
   rw[hi] at HQ;have hu:=HU.out n hi;subst hu;clear HU hi;go_wp2
   go_ret;exact⟨ay ((decide_eq_decide.2 (by omega)).trans HQ.out.symm),HB.out _ (bF.turn (ai HC.out 4 _) ⟨_,_,_,_,_,_,_,_,_,_,_,_,_,_,_,rfl⟩)⟩
 have r70:(fi == 70)=false:=by simp[Ez]
 have t70:=hid (show¬fl=70 from λe=>Ez ((HF.out 70).1 e));clear Ez;by_cases EA:fi=77
 ·have ZJ:(fi == 77)=true:=by simp[EA]
  have HQ:=hid (show GB.arg (decide (op=3)) fl s=GB.cB (decide (op=3)) s by rw[(HF.out 77).2 EA];rfl);clear EA HF;have HM:=hid (Oc (s:=s) (show (bF b op).R w2 from⟨_,⟨_,_,_,_,_,_,_,_,_,_,_,_,_,_,_,rfl⟩,HC.out⟩) hs);go_wp2_with (go_at_call 266;refine HM.out.mono ?_;rintro e w3 ⟨rfl,ht⟩;have HT:=hid ht;clear ht)
  go_ret;exact⟨ay (HQ.out.symm),HB.out _ HT.out⟩
 have r77:(fi == 77)=false:=by simp[EA]
 have t77:=hid (show¬fl=77 from λe=>EA ((HF.out 77).1 e));clear EA;by_cases EB:fi=78
 ·have ZK:(fi == 78)=true:=by simp[EB]
  have HQ:=hid (show GB.arg (decide (op=3)) fl s=sc s.data.toList by rw[(HF.out 78).2 EB];rfl);clear EB HF;go_wp2
  go_ret;exact⟨ay (HQ.out.symm),HB.out _ (bF.turn ((ai HC.out 12 _).set 13 _) ⟨_,_,_,_,_,_,_,_,_,_,_,_,_,_,_,rfl⟩)⟩
 have r78:(fi == 78)=false:=by simp[EB]
 have t78:=hid (show¬fl=78 from λe=>EB ((HF.out 78).1 e));clear EB;by_cases EC:fi=79
 ·have ZL:(fi == 79)=true:=by simp[EC]
  have HQ:=hid (show GB.arg (decide (op=3)) fl s=decide (1<=s.size/\s.size<=32) by rw[(HF.out 79).2 EC];rfl);clear EC HF;by_cases z1:1<=s.size
  ·by_cases z2:s.size<=32
   ·rw[decide_eq_true (show 1<=s.size/\s.size<=32 from⟨z1,z2⟩)] at HQ;have z1':(1:Int)<=s.size:=by omega
    have z2':(s.size:Int)<=32:=by omega
    go_wp2
    go_ret;exact⟨ay (HQ.out.symm),HB.out _ (bF.turn (ag.rfl' HC.out) ⟨_,_,_,_,_,_,_,_,_,_,_,_,_,_,_,rfl⟩)⟩
   ·rw[decide_eq_false (show¬(1<=s.size/\s.size<=32) from λx=>z2 x.2)] at HQ;have z1':(1:Int)<=s.size:=by omega
    have z2':¬(s.size:Int)<=32:=by omega
    go_wp2
    go_ret;exact⟨ay (HQ.out.symm),HB.out _ (bF.turn (ag.rfl' HC.out) ⟨_,_,_,_,_,_,_,_,_,_,_,_,_,_,_,rfl⟩)⟩
  ·rw[decide_eq_false (show¬(1<=s.size/\s.size<=32) from λx=>z1 x.1)] at HQ;have z1':¬(1:Int)<=s.size:=by omega
   go_wp2
   go_ret;exact⟨ay (HQ.out.symm),HB.out _ (bF.turn (ag.rfl' HC.out) ⟨_,_,_,_,_,_,_,_,_,_,_,_,_,_,_,rfl⟩)⟩
 have r79:(fi == 79)=false:=by simp[EC]
 have t79:=hid (show¬fl=79 from λe=>EC ((HF.out 79).1 e));clear EC;by_cases uy:fi=82
 ·have VO:(fi == 82)=true:=by simp[uy]
  have HQ:=hid (show GB.arg (decide (op=3)) fl s=sc s.data.toList by rw[(HF.out 82).2 uy];rfl);clear uy HF;go_wp2
  go_ret;exact⟨ay (HQ.out.symm),HB.out _ (bF.turn (ai HC.out 14 _) ⟨_,_,_,_,_,_,_,_,_,_,_,_,_,_,_,rfl⟩)⟩
 have r82:(fi == 82)=false:=by simp[uy]
 have t82:=hid (show¬fl=82 from λe=>uy ((HF.out 82).1 e));clear uy;by_cases ED:fi=84
 ·have ZM:(fi == 84)=true:=by simp[ED]
  have HQ:=hid (show GB.arg (decide (op=3)) fl s=sc s.data.toList by rw[(HF.out 84).2 ED];rfl);clear ED HF;go_wp2
  go_ret;exact⟨ay (HQ.out.symm),HB.out _ (bF.turn ((ai HC.out 6 _).set 5 _) ⟨_,_,_,_,_,_,_,_,_,_,_,_,_,_,_,rfl⟩)⟩
 have r84:(fi == 84)=false:=by simp[ED]
 have t84:=hid (show¬fl=84 from λe=>ED ((HF.out 84).1 e));clear ED;have HQ:=hid (show GB.arg (decide (op=3)) fl s=s.toList.isEmpty by
  unfold GB.arg;rw[if_neg (λe=>e.elim t67.out (λe=>e.elim t68.out t74.out)),if_neg t70.out,if_neg t77.out,if_neg (λe=>e.elim t78.out (λe=>e.elim t82.out t84.out)),if_neg t79.out,fJ])
 clear HF t73 t67 t68 t74 t70 t77 t78 t79 t82 t84;go_wp2
 go_ret;exact⟨ay (HQ.out.symm),HB.out _ (bF.turn (ag.rfl' HC.out) ⟨_,_,_,_,_,_,_,_,_,_,_,_,_,_,_,rfl⟩)⟩
open W2 (RS)
def Ws(w:World)(b o n:Nat)(l:List ByteArray):Prop:=b<w.heap.size/\l.length=n/\∀i,i<n->w.cell? ⟨b,o+i,none⟩=some (.string (GB.wd l i))
theorem Ws.of{w:World}{a:Option Addr}{n cap:Nat}{l:List ByteArray}(h:RS w (.slice a n cap) l)(h1:1<=n):∃b o,a=some ⟨b,o,none⟩/\Ws w b o n l:=by
 obtain⟨b,o,rfl,hb,hx⟩:=RS.at' h (i:=0) (by omega);refine⟨b,o,rfl,hb,W2.RS.len h,λi hi=>?_⟩;obtain⟨b',o',e',_,hx'⟩:=RS.at' h hi;cases e';exact hx'
theorem Ws.bL{w w':World}{b o n:Nat}{l:List ByteArray}{T:Nat->Prop}(h:Ws w b o n l)(ht:aP T w w')(hT:¬T b):Ws w' b o n l:=by
 refine⟨Nat.lt_of_lt_of_le h.1 ht.size,h.2.1,λi hi=>?_⟩;rw[<-h.2.2 i hi];have:=ht.block b h.1 hT;unfold World.cell?;rw[this]
theorem Ws.below{w w':World}{b o n:Nat}{l:List ByteArray}(h:Ws w b o n l)(hb:Below w.heap.size w w'):Ws w' b o n l:=h.bL (aP.of_below (λ_=>False) hb) id
theorem yH{all:List UInt8}{math:Bool}{l:List ByteArray}{k:Nat}(hk:k<l.length):GB.rW all math ((l.take k).map GB.hd) (l.drop k)=
 if all.contains (GB.hd (GB.wd l k))=false then some GB.NV else if ((l.take k).map GB.hd).contains (GB.hd (GB.wd l k)) then some GB.NW
 else if GB.arg math (GB.hd (GB.wd l k)) (GB.tl (GB.wd l k))=false then some GB.NY else GB.rW all math ((l.take (k+1)).map GB.hd) (l.drop (k+1)):=by
 have e:GB.wd l k=l[k]:=by unfold GB.wd;rw[List.getElem?_eq_getElem hk];rfl
 rw[e,List.drop_eq_getElem_cons hk,GB.rW,List.take_succ_eq_append_getElem hk,List.map_append];rfl
theorem CE{all:List UInt8}{math:Bool}{l:List ByteArray}{k:Nat}(hk:l.length<=k)(s:List UInt8):GB.rW all math s (l.drop k)=none:=by
 rw[List.drop_eq_nil_iff.2 hk];cases s<;>rfl
theorem Jk{l:List ByteArray}{k t:Nat}(hk:k<=l.length)(ht:t<k){c:UInt8}(h:GB.hd (GB.wd l t)=c):((l.take k).map GB.hd).contains c=true:=by
 rw[List.contains_iff_exists_mem_beq];refine⟨GB.hd (GB.wd l t),List.mem_map.2 ⟨_,List.mem_of_getElem? (i:=t) ?_,rfl⟩,by rw[beq_iff_eq,h]⟩;rw[List.getElem?_take,if_pos ht];unfold GB.wd;rw[List.getElem?_eq_getElem (by omega)];rfl
theorem Od{l:List ByteArray}{k:Nat}(hk:k<=l.length){c:UInt8}(h:∀t,t<k->GB.hd (GB.wd l t)≠c):((l.take k).map GB.hd).contains c=false:=by
 rw[Bool.eq_false_iff,ne_eq,List.contains_iff_exists_mem_beq];rintro⟨x,hx,he⟩;obtain⟨f,hf,rfl⟩:=List.mem_map.1 hx;obtain⟨t,ht,h1⟩:=List.mem_iff_getElem.1 hf;have ht2:t<k/\t<l.length:=by rw[List.length_take] at ht;omega
 apply h t ht2.1;rw[beq_iff_eq] at he;rw[he,<-h1,List.getElem_take];unfold GB.wd;rw[List.getElem?_eq_getElem ht2.2];rfl
theorem Oe(s:ByteArray):decide (iJ s=3)=decide (s=GB.nU):=by
 unfold iJ;by_cases h0:s=GB.zH
 ·subst h0;rfl
 ·rw[if_neg h0];by_cases h1:s=GB.oO
  ·subst h1;rfl
  ·rw[if_neg h1];by_cases h2:s=GB.zI
   ·subst h2;rfl
   ·rw[if_neg h2];by_cases h3:s=GB.nU
    ·subst h3;rfl
    ·rw[if_neg h3,decide_eq_false h3];rfl
theorem EE(s:ByteArray):(GB.allow s).length<=20:=by
 unfold GB.allow;repeat' split
 all_goals decide
def pV(x:Option ByteArray):ByteArray:=x.getD ⟨#[]⟩
def RY(b:Nat)(op:Int)(t:ByteArray)(w:World)(e:Ending)(w':World):Prop:=e=.returned (.string t)/\ag (bF b op) (bF b op) w w'
theorem Jl{c b o n cap:Nat}{nm:ByteArray}{a:Option Addr}{l:List ByteArray}{w:World}(hl:l.length=n)(hw:1<=n->a=some ⟨b,o,none⟩/\Ws w b o n l/\b≠c)(hn:n<=1000000)(hc:(bF c (iJ nm)).R w)
 (h1:∀i,i<n->1<=(GB.wd l i).size) (hs:∀i,(GB.wd l i).size<=1000000):
 Calls prog 154 #[.string nm,.slice a n cap,.pointer (some ⟨c,0,none⟩)] w (RY c (iJ nm) (pV (GB.flags nm l)) w):=by
 have HAl:=hid (λw'=>Ji nm w');have HC:=hid hc;have HW:=hid hw;have HG:=hid (And.intro hl (And.intro h1 hs));clear hc hw hl h1 hs;go_enter func154,ntmps154;go_wp2_with (go_at_call 216;refine(HAl.out _).mono ?_;rintro e w1 ⟨rfl,rfl⟩)
 go_loopw [8] (λi wr=> ∃k:Nat,k<=n/\i=.int .i64 k/\Hid (GB.flags nm l=GB.rW (GB.allow nm) (decide (nm=GB.nU)) ((l.take k).map GB.hd) (l.drop k))/\Hid (ag (bF c (iJ nm)) (bF c (iJ nm)) w wr)) (λi _=>n-(intOf i).toNat)
 case atStart=>exact⟨0,Nat.zero_le _,rfl,hid rfl,hid (ag.rfl' HC.out)⟩
 case round=>
  obtain⟨k,hk,rfl,HF,HT⟩:=hrel;by_cases hlt:k<n
  ·obtain⟨ha,hW0,hbc⟩:=HW.out (by omega);subst ha;have Ui:=hW0.bL HT.out.bL (λe=>hbc e);have hx:=Ui.2.2 k hlt;have Gt:=hid Ui;have hst:=yH (all:=GB.allow nm) (math:=decide (nm=GB.nU)) (l:=l) (k:=k) (by have:=HG.out.1;omega);have hf1:=HG.out.2.1 k hlt;have hf2:=HG.out.2.2 k;obtain⟨f,hf⟩:∃f,GB.wd l k=f:=⟨_,rfl⟩;rw[hf] at hx hst hf1 hf2;have hg:=get_bt f;have hfi:(1:Int)<=f.size:=by omega
   have hfz:(0:Int)<f.size:=by omega
   have hki:(k:Int)<n:=by omega
   have HH:=hid (λw'=>RV (W2.P.mk (GB.allow nm)) (bt f 0) w' (by rw[W2.P.dP];have:=EE nm;unfold maxLen;omega));have e1:hasB (W2.P.mk (GB.allow nm)).data.toList (bt f 0)=(GB.allow nm).contains (GB.hd f):=by rw[<-kZ hf1,lg];rfl
   rw[e1] at HH;have HA:=hid (Eu (b:=c) (op:=iJ nm) (s:=f.extract 1 f.size) (fl:=GB.hd f) HT.out.here (by simp;omega));rw[kZ hf1,Oe] at HA;have HFB:=hid (show∀t,t<n->bt (GB.wd l t) 0=bt f 0->GB.hd (GB.wd l t)=GB.hd f from λt ht e=>by
    apply UInt8.toNat_inj.1;have h1:=kZ (HG.out.2.1 t ht);have h2:=kZ hf1;omega)
   have HFC:=hid (show∀t,t<n->GB.hd (GB.wd l t)=GB.hd f->bt (GB.wd l t) 0=bt f 0 from λt ht e=>by
    have h1:=kZ (HG.out.2.1 t ht);have h2:=kZ hf1;rw[e] at h1;omega)
   have HST:=hid (HF.out.trans hst);clear hst hf e1 Ui hW0 hbc;cases hq1:(GB.allow nm).contains (GB.hd f)
   ·rw[hq1] at HH;have HE:=hid (show pV (GB.flags nm l)=GB.NV by rw[HST.out,if_pos hq1];rfl);go_wp2_with (go_at_call 217;refine(HH.out _).mono ?_;rintro e w1 ⟨rfl,rfl⟩)
    go_ret;exact⟨by rw[HE.out];rfl,HT.out⟩
   ·rw[hq1] at HH HST;go_wp2_with (go_at_call 217;refine(HH.out _).mono ?_;rintro e w1 ⟨rfl,rfl⟩)
    go_loop [11] (λj=> ∃t:Nat,t<=k/\j=.int .i64 t/\Hid (∀u,u<t->bt (GB.wd l u) 0≠bt f 0)) (λj=>k-(intOf j).toNat)
    case atStart=>exact⟨0,Nat.zero_le _,rfl,hid (λu hu=>absurd hu (Nat.not_lt_zero _))⟩
    case round=>
     obtain⟨t,ht,rfl,HU⟩:=hrel;by_cases htk:t<k
     ·have hy:=Gt.out.2.2 t (by omega);have hy1:=HG.out.2.1 t (by omega);obtain⟨y,ZN⟩:∃y,GB.wd l t=y:=⟨_,rfl⟩;rw[ZN] at hy hy1;have hgy:=get_bt y;have hyz:(0:Int)<y.size:=by omega
      have htn:(t:Int)<n:=by omega
      by_cases he:bt y 0=bt f 0
      ·have he':(bt y 0 == bt f 0)=true:=by simp[he]
       have HE:=hid (show pV (GB.flags nm l)=GB.NW by
        rw[HST.out,if_neg (by simp),if_pos (Jk (by have:=HG.out.1;omega) htk (HFB.out t (by omega) (by rw[ZN];exact he)))];rfl)
       clear he;go_wp2
       go_ret;exact⟨by rw[HE.out];rfl,HT.out⟩
      ·have he':(bt y 0 == bt f 0)=false:=by simp[he]
       have HN:=hid he;clear he;go_wp2
       go_round
       case rel=>
        refine⟨t+1,by omega,by go_num,hid (λu hu=>?_)⟩;rcases Nat.lt_succ_iff_lt_or_eq.1 hu with h|rfl
        ·exact HU.out u h
        ·rw[ZN];exact HN.out
       case measure=>simp[intOf];omega
     ·have hsn:=Od (l:=l) (k:=k) (c:=GB.hd f) (by have:=HG.out.1;omega) (λu hu e=>HU.out u (by omega) (HFC.out u (by omega) e));have RZ:=hid HST.out;rw[hsn] at RZ;clear hsn;unfold Jj at HA;cases hq2:GB.arg (decide (nm=GB.nU)) (GB.hd f) (f.extract 1 f.size)
      ·rw[hq2] at HA;have HE:=hid (show pV (GB.flags nm l)=GB.NY by rw[RZ.out,if_neg (by simp),if_neg (by simp),if_pos (show GB.arg (decide (nm=GB.nU)) (GB.hd f) (GB.tl f)=false from hq2)];rfl);go_wp2_with (go_at_call 218;refine HA.out.mono ?_;rintro e w1 ⟨rfl,ht1⟩;have HT1:=hid ht1;clear ht1)
       go_ret;exact⟨by rw[HE.out];rfl,HT.out.trans HT1.out⟩
      ·rw[hq2] at HA;have HE:=hid (show GB.flags nm l=GB.rW (GB.allow nm) (decide (nm=GB.nU)) ((l.take (k+1)).map GB.hd) (l.drop (k+1)) by
        rw[RZ.out,if_neg (by simp),if_neg (by simp),if_neg (show¬GB.arg (decide (nm=GB.nU)) (GB.hd f) (GB.tl f)=false from λe=>by have:=hq2.symm.trans e;cases this)])
       go_wp2_with (go_at_call 218;refine HA.out.mono ?_;rintro e w1 ⟨rfl,ht1⟩;have HT1:=hid ht1;clear ht1)
       go_roundw;case rel=>exact⟨k+1,by omega,by go_num,HE,hid (HT.out.trans HT1.out)⟩
       case measure=>simp[intOf];omega
  ·have hki:¬(k:Int)<n:=by omega
   have HE:=hid (show pV (GB.flags nm l)=⟨#[]⟩ by rw[HF.out,CE (by have:=HG.out.1;omega)];rfl);go_wp2
   go_ret;exact⟨by rw[HE.out];rfl,HT.out⟩
theorem AV{l:List ByteArray}{k:Nat}{c:UInt8}(hk:k<l.length)(h:GB.hd (GB.wd l k)=c):l.any (λf=>GB.hd f == c)=true:=by
 rw[List.any_eq_true];refine⟨l[k],List.getElem_mem hk,?_⟩;unfold GB.wd at h;rw[List.getElem?_eq_getElem hk] at h;rw[beq_iff_eq];exact h
theorem EF{l:List ByteArray}{c:UInt8}(h:∀k,k<l.length->GB.hd (GB.wd l k)≠c):l.any (λf=>GB.hd f == c)=false:=by
 rw[List.any_eq_false];intro x hx e;obtain⟨k,hk,rfl⟩:=List.mem_iff_getElem.1 hx;apply h k hk;unfold GB.wd;rw[List.getElem?_eq_getElem hk];rw[beq_iff_eq] at e;exact e
def Jm(q:Bool)(w:World)(e:Ending)(w':World):Prop:=e=.returned (.bool q)/\Below w.heap.size w w'
theorem CG{b o n cap:Nat}{a:Option Addr}{l:List ByteArray}{w:World}(v0 v1 v2 v3 v4 v5 v6 v7 v8 v10:Value)(c:UInt8)(hl:l.length=n)(hw:1<=n->a=some ⟨b,o,none⟩/\Ws w b o n l)(hn:n<=1000000)
 (h1:∀i,i<n->1<=(GB.wd l i).size):
 Calls prog 155 #[.agg #[v0,v1,v2,v3,v4,v5,v6,v7,v8,.slice a n cap,v10],.int .u8 (c.toNat:Int)] w (Jm (l.any (λf=>GB.hd f == c)) w):=by
 have HW:=hid hw;have HG:=hid (And.intro hl h1);have B0:=aA w #[v0,v1,v2,v3,v4,v5,v6,v7,v8,.slice a n cap,v10] 33;have HB:=hid (bA w (.cells #[v0,v1,v2,v3,v4,v5,v6,v7,v8,.slice a n cap,v10] 33));obtain⟨N,hN⟩:∃N,w.heap.size=N:=⟨_,rfl⟩;obtain⟨W,hW⟩:∃W,w.alloc (.cells #[v0,v1,v2,v3,v4,v5,v6,v7,v8,.slice a n cap,v10] 33)=W:=⟨_,rfl⟩;rw[hN,hW] at B0;rw[hW] at HB;have k9:W.cell? ⟨N,9,none⟩=some (.slice a n cap):=cA B0 9;obtain⟨ci,hci⟩:∃ci:Int,(c.toNat:Int)=ci:=⟨_,rfl⟩;have HCI:=hid hci;rw[hci];clear hw hl h1 hci;go_enter func155,ntmps155;go_wp2_with (fail)
 clear hW;go_loop [5] (λi=> ∃k:Nat,k<=n/\i=.int .i64 k/\Hid (∀u,u<k->GB.hd (GB.wd l u)≠c)) (λi=>n-(intOf i).toNat)
 case atStart=>exact⟨0,Nat.zero_le _,rfl,hid (λu hu=>absurd hu (Nat.not_lt_zero _))⟩
 case round=>
  obtain⟨k,hk,rfl,HU⟩:=hrel;by_cases hlt:k<n
  ·obtain⟨ha,hW0⟩:=HW.out (by omega);subst ha;have hx:=(hW0.below HB.out).2.2 k hlt;have hf1:=HG.out.2 k hlt;obtain⟨f,hf⟩:∃f,GB.wd l k=f:=⟨_,rfl⟩;rw[hf] at hx hf1;have hg:=get_bt f;have hfz:(0:Int)<f.size:=by omega
   have hki:(k:Int)<n:=by omega
   have hne:f.toList.isEmpty=false:=by rw[fJ,decide_eq_false (by omega)]
   have VP:=kZ hf1;clear hW0;by_cases he:bt f 0=ci
   ·have he':(bt f 0 == ci)=true:=by simp[he]
    have HE:=hid (AV (l:=l) (k:=k) (c:=c) (by have:=HG.out.1;omega) (by rw[hf];apply UInt8.toNat_inj.1;have:=HCI.out;omega));clear he VP;go_wp2
    go_ret;exact⟨ay HE.out.symm,HB.out⟩
   ·have he':(bt f 0 == ci)=false:=by simp[he]
    have HN:=hid (show GB.hd f≠c from λe=>he (by rw[<-VP,e,HCI.out]));clear he VP;go_wp2
    go_round
    case rel=>
     refine⟨k+1,by omega,by go_num,hid (λu hu=>?_)⟩;rcases Nat.lt_succ_iff_lt_or_eq.1 hu with h|rfl
     ·exact HU.out u h
     ·rw[hf];exact HN.out
    case measure=>simp[intOf];omega
  ·have hki:¬(k:Int)<n:=by omega
   have HE:=hid (EF (l:=l) (c:=c) (λu hu=>HU.out u (by have:=HG.out.1;omega)));go_wp2
   go_ret;exact⟨ay HE.out.symm,HB.out⟩
end Go.Proofs.YtboehbfagnocpaaGreatDoor
