import Derived.Test.YtboehbfagnocpaaGreatDoorRows
import Derived.WalkSpells
import Derived.WalkLawsBesides
import Derived.Lib.Hide
import Derived.BigQuiet
import Derived.Handy
import Derived.PlainAid
import Derived.Laws.CopyOwn
import Derived.StillTailTactics
import Derived.Deep.RegionHeld3
import Derived.Deep.DeepAppendWide
set_option linter.unusedVariables false
set_option linter.unusedSimpArgs false
set_option maxRecDepth 100000
set_option maxHeartbeats 40000000
open Go.Proofs.Tryz
open Go.Lib (hid)
namespace Go.Proofs.YtboehbfagnocpaaGreatDoor.I8.P
def le:Nat->Int->List Int
 |0,_=>[]
 |m+1,n=>n % 256 :: le m (n / 256)
def num:List Int->Int
 | []=>0
 |c :: l=>c+256*num l
def Bytes(l:List Int):Prop:=∀x∈l,0<=x/\x<256
theorem fH:∀(m:Nat) (n:Int),(le m n).length=m:=by
 intro m;induction m with
 |zero=>intro n;rfl
 |succ m ih=>intro n;simp[le,ih]
theorem gK:∀(m:Nat) (n:Int),Bytes (le m n):=by
 intro m;induction m with
 |zero=>intro n x hx;simp[le] at hx
 |succ m ih=>
  intro n x hx;rcases List.mem_cons.1 (by simpa[le] using hx) with rfl|h
  ·omega
  ·exact ih _ x h
theorem MP:∀(m:Nat) (n:Int),le (m+1) n=le m n ++ [n / 256 ^ m % 256]:=by
 intro m;induction m with
 |zero=>intro n;simp[le]
 |succ m ih=>
  intro n;rw[le,ih,le];simp only[List.cons_append];rw[Int.ediv_ediv_of_nonneg (by decide),Int.pow_succ,Int.mul_comm]
theorem qY:∀(m:Nat) (n:Int),0<=n->n<256 ^ m->num (le m n)=n:=by
 intro m;induction m with
 |zero=>intro n h0 h1;simp[le,num] at *; omega
 |succ m ih=>
  intro n h0 h1;rw[Int.pow_succ] at h1;rw[le,num,ih (n / 256) (by omega) (by omega)];omega
theorem kD:∀(l:List Int),Bytes l->0<=num l/\num l<256 ^ l.length:=by
 intro l;induction l with
 |nil=>intro _;simp[num]
 |cons c l ih=>
  intro h;have h1:=h c (by simp);have h2:=ih (λx hx=>h x (by simp[hx]));simp only[num,List.length_cons,Int.pow_succ];omega
theorem Ae:∀(a b:List Int),num (a ++ b)=num a+256 ^ a.length*num b:=by
 intro a;induction a with
 |nil=>intro b;simp[num]
 |cons c l ih=>
  intro b;simp only[List.cons_append,num,ih,List.length_cons,Int.pow_succ];rw[Int.mul_add,<-Int.mul_assoc,Int.mul_comm (256 ^ l.length) 256];omega
theorem Bytes.take{l:List Int}(h:Bytes l)(k:Nat):Bytes (l.take k):=λx hx=>h x (List.mem_of_mem_take hx)
theorem Bytes.drop{l:List Int}(h:Bytes l)(k:Nat):Bytes (l.drop k):=λx hx=>h x (List.mem_of_mem_drop hx)
theorem Bytes.append{a b:List Int}(h:Bytes a)(k:Bytes b):Bytes (a ++ b):=λx hx=>by
 rcases List.mem_append.1 hx with h1|h1
 ·exact h x h1
 ·exact k x h1
theorem Bytes.at{l:List Int}(h:Bytes l)(i:Nat):0<=l[i]?.getD 0/\l[i]?.getD 0<256:=by
 by_cases hi:i<l.length
 ·simp[hi];exact h _ (by simp)
 ·simp[hi]
theorem QW{a b:Nat}(h:a<=b):(256:Int) ^ a<=256 ^ b:=by
 have:=Nat.pow_le_pow_right (n:=256) (by decide) h;have e:∀c:Nat,(256:Int) ^ c=((256 ^ c:Nat):Int):=λc=>by simp
 rw[e,e];omega
def splice(xs:List Int)(off:Nat)(ys:List Int):List Int:=xs.take off ++ ys ++ xs.drop (off+ys.length)
theorem iN(xs:List Int)(off:Nat):splice xs off []=xs:=by simp[splice]
theorem xA(xs:List Int)(off:Nat)(ys:List Int)(b:Int)(h:off+ys.length<xs.length):(splice xs off ys).set (off+ys.length) b=splice xs off (ys ++ [b]):=by
 unfold splice;have hl:(xs.take off ++ ys).length=off+ys.length:=by simp;omega
 rw[List.set_append_right _ _ (by omega),hl,Nat.sub_self];have hd:xs.drop (off+ys.length)=xs[off+ys.length] :: xs.drop (off+ys.length+1):=List.drop_eq_getElem_cons h;rw[hd];simp[Nat.add_assoc]
theorem dK(xs:List Int)(off:Nat)(ys:List Int)(h:off+ys.length<=xs.length):(splice xs off ys).length=xs.length:=by
 simp[splice];omega
theorem MQ(a c k:Nat)(ha:a<2 ^ k):a ||| (c*2 ^ k)=a+c*2 ^ k:=by
 have h:=Nat.two_pow_add_eq_or_of_lt ha c;rw[Nat.mul_comm c,Nat.or_comm,<-h,Nat.add_comm]
theorem nI(l:List Int)(k:Nat)(h:k<l.length):l.take (k+1)=l.take k ++ [l[k]?.getD 0]:=by
 rw[List.take_succ_eq_append_getElem h];simp[h]
end Go.Proofs.YtboehbfagnocpaaGreatDoor.I8.P
namespace Go.Proofs.YtboehbfagnocpaaGreatDoor.I8
open Go.RowKit Go.PlainAid
theorem ek{k:IntKind}{a b:Int}(h:a=b):Ending.returned (.int k a)=.returned (.int k b):=by rw[h]
theorem ay{a b:Bool}(h:a=b):Ending.returned (.bool a)=.returned (.bool b):=by rw[h]
theorem below_drewN{B:Nat}{a w:World}(h:Below B a w)(n:Nat):Below B a (w.drewN n):=⟨h.os,h.tape,h.output,h.size,h.block⟩
def aO(s:ByteArray):Bool:=decide (1<=s.size/\s.size<=250/\∀i,i<s.size->32<bt s i/\bt s i≠127)
theorem toList_eq(s:ByteArray):s.toList=s.data.toList:=ByteArray.toList_eq s
theorem dU{s:ByteArray}(h:s.size=0):s.toList.isEmpty=true/\s.toList= []:=by
 have e:s.data.toList= []:=List.eq_nil_of_length_eq_zero (by simpa using h);rw[toList_eq,e];exact⟨rfl,rfl⟩
theorem bu{s:ByteArray}(h:0<s.size):s.toList.isEmpty=false/\s.toList≠[]:=by
 have e:s.data.toList≠[]:=λh0=>by
  have:=congrArg List.length h0;simp at this;rw[this] at h;exact absurd h (by decide)
 rw[toList_eq];exact⟨by simpa using e,e⟩
theorem lq{s:ByteArray}(h:¬∀i,i<s.size->32<bt s i/\bt s i≠127):aO s=false:=by
 unfold aO;apply decide_eq_false;exact λ⟨_,_,h3⟩=>h h3
theorem qj{s:ByteArray}(h:s.size=0\/250<s.size):aO s=false:=by
 unfold aO;apply decide_eq_false;rintro⟨h1,h2,_⟩;omega
theorem uV{s:ByteArray}(h:1<=s.size)(h3:∀i,i<s.size->32<bt s i/\bt s i≠127):aO s=decide ((s.size:Int)<=250):=by
 unfold aO;by_cases h2:s.size<=250
 ·rw[decide_eq_true (by omega:(s.size:Int)<=250)];exact decide_eq_true ⟨h,h2,h3⟩
 ·rw[decide_eq_false (by omega:¬(s.size:Int)<=250)];exact decide_eq_false (λh'=>h2 h'.2.1)
theorem dI(s:ByteArray)(w:World)(hs:s.size<=maxLen):Calls prog 164 #[.string s] w λe w'=>e=.returned (.bool (aO s))/\w=w':=by
 unfold maxLen at hs;have hb:=get_bt s;go_enter func164,ntmps164;go_wp2
 go_loop [7] (λi=> ∃k:Nat,k<=s.size/\i=.int .i64 k/\(∀j,j<k->32<bt s j/\bt s j≠127)) (λi=>s.size-(intOf i).toNat)
 case atStart=>exact⟨0,Nat.zero_le _,rfl,λj hj=>by omega⟩
 case round=>
  obtain⟨k,hk,rfl,hall⟩:=hrel;have eY:=hid hall;clear hall;by_cases hlt:k<s.size
  ·have hn:=bt_nonneg s k;have hl:=bt_le s k;by_cases h1:bt s k<=32
   ·go_wp2
    go_ret;exact⟨ay (lq (λh=>by have:=(h k hlt).1;omega)).symm,rfl⟩
   ·by_cases h2:bt s k=127
    ·have h2':(bt s k == 127)=true:=by simp[h2]
     have H2:=hid h2;clear h2;go_wp2
     go_ret;exact⟨ay (lq (λh=>(h k hlt).2 H2.out)).symm,rfl⟩
    ·have h2':(bt s k == 127)=false:=by simp[h2]
     have H2:=hid h2;clear h2;go_wp2
     go_round
     case rel=>
      refine⟨k+1,by omega,by go_num,λj hj=>?_⟩;rcases Nat.lt_succ_iff_lt_or_eq.1 hj with h|rfl
      ·exact eY.out j h
      ·exact⟨by omega,H2.out⟩
     case measure=>simp[intOf];omega
  ·by_cases h0:s.size=0
   ·obtain⟨e1,e2⟩:=dU h0;have UX:=hid (qj (s:=s) (by omega));have h0':decide (1<=(s.size:Int))=false:=by simp;omega
    clear h0;go_wp2
    go_ret;exact⟨ay UX.out.symm,rfl⟩
   ·obtain⟨e1,e2⟩:=bu (s:=s) (by omega);have h1':1<=s.size:=by omega
    have UY:=hid (uV (s:=s) (by omega) (λi hi=>eY.out i (by omega)));go_wp2
    go_ret;exact⟨ay UY.out.symm,rfl⟩
def dm(k v:ByteArray)(ex la:Int):Bool:=aO k && decide ((v.size:Int)<=65536) && decide (0<=ex) && decide (0<=la)
theorem t_(k v:ByteArray)(fl ex ca la:Int)(st wo:Bool)(w:World)(hk:k.size<=maxLen)(hv:v.size<=maxLen):
 Calls prog 183 #[.agg #[.string k,.int .u32 fl,.string v,.int .i64 ex,.int .u64 ca,.int .i64 la,.bool st,.bool wo]] w λe w'=>e=.returned (.bool (dm k v ex la))/\Below w.heap.size w w':=by
 have hkk:=λW=>dI k W hk
 have XF:=hid hkk;clear hkk;unfold maxLen at hv;cases hkb:aO k
 all_goals
  have T9:=hid hkb;clear hkb
 ·have hr:dm k v ex la=false:=by unfold dm;rw[T9.out];rfl
  have Hr:=hid hr;clear hr;go_enter func183,ntmps183;go_wp2_with (go_at_call 164;refine(XF.out _).mono ?_;rintro e w' ⟨rfl,rfl⟩;rw[T9.out])
  go_ret;exact⟨ay Hr.out.symm,(Below.refl _ _).alloc (Nat.le_refl _) _⟩
 by_cases h1:(v.size:Int)<=65536
 ·by_cases h2:0<=ex
  ·have hr:dm k v ex la=decide (0<=la):=by unfold dm;rw[T9.out,decide_eq_true h1,decide_eq_true h2];rfl
   have Hr:=hid hr;clear hr;go_enter func183,ntmps183;go_wp2_with (go_at_call 164;refine(XF.out _).mono ?_;rintro e w' ⟨rfl,rfl⟩;rw[T9.out])
   go_ret;exact⟨ay Hr.out.symm,(Below.refl _ _).alloc (Nat.le_refl _) _⟩
  ·have hr:dm k v ex la=false:=by unfold dm;rw[decide_eq_false h2];simp
   have Hr:=hid hr;clear hr;go_enter func183,ntmps183;go_wp2_with (go_at_call 164;refine(XF.out _).mono ?_;rintro e w' ⟨rfl,rfl⟩;rw[T9.out])
   go_ret;exact⟨ay Hr.out.symm,(Below.refl _ _).alloc (Nat.le_refl _) _⟩
 ·have hr:dm k v ex la=false:=by unfold dm;rw[decide_eq_false h1];simp
  have Hr:=hid hr;clear hr;go_enter func183,ntmps183;go_wp2_with (go_at_call 164;refine(XF.out _).mono ?_;rintro e w' ⟨rfl,rfl⟩;rw[T9.out])
  go_ret;exact⟨ay Hr.out.symm,(Below.refl _ _).alloc (Nat.le_refl _) _⟩
def QX(k v:Int):Int:=if k<0\/v<0\/65536<k\/65536<v then-1 else 40+k+v
theorem Gu(k v:Int)(w:World):Calls prog 184 #[.int .i64 k,.int .i64 v] w λe w'=>e=.returned (.int .i64 (QX k v))/\w=w':=by
 by_cases h1:k<0<;>by_cases h2:v<0<;>by_cases h3:65536<k<;>by_cases h4:65536<v
 all_goals first
  |(exfalso;omega)
  |(have Hs:=hid (show QX k v= -1 by unfold QX;exact if_pos (by omega))
    by_cases h5:k<v<;>by_cases h6:v<k
    all_goals first
     |(exfalso;omega)
     |(go_enter func184,ntmps184
       go_wp2
       go_ret;exact⟨ek Hs.out.symm,rfl⟩))
  |(have Hs:=hid (show QX k v=40+k+v by unfold QX;exact if_neg (by omega))
    by_cases h5:k<v<;>by_cases h6:v<k
    all_goals first
     |(exfalso;omega)
     |(go_enter func184,ntmps184
       go_wp2
       go_ret;exact⟨ek Hs.out.symm,rfl⟩))
theorem MS(b:Bool)(n:Int)(w:World):Calls prog 185 #[.bool b,.int .u8 n] w λe w'=>e=.returned (.int .u8 (if b then n else 0))/\w=w':=by
 cases b
 all_goals
  go_enter func185,ntmps185;go_wp2
  go_ret;exact⟨rfl,rfl⟩
def RB(w:World)(v:Value)(l:List Int):Prop:=
 ∃a cap,v=.slice a l.length cap/\(l≠[]->∃b o,a=some ⟨b,o,none⟩/\∀i,i<l.length->w.cell? ⟨b,o+i,none⟩=some (.int .u8 (l[i]?.getD 0)))
theorem MU(k:Nat):(2:Int) ^ (8*k)=256 ^ k:=by rw[Int.pow_mul];rfl
theorem MV(A c:Int)(k:Nat)(a0:0<=A)(a1:A<256 ^ k)(c0:0<=c)(c1:c<256)(hk:k<8):
 bits .or .u64 A (IntKind.u64.wrap (c*2 ^ (8*k)))=A+256 ^ k*c:=by
 obtain⟨a,rfl⟩:=Int.eq_ofNat_of_zero_le a0;obtain⟨d,rfl⟩:=Int.eq_ofNat_of_zero_le c0;have e1:(a:Int)<((2 ^ (8*k):Nat):Int):=by rw[<-MU] at a1;simpa using a1
 have e2:a<2 ^ (8*k):=by omega
 have e3:2 ^ (8*k)*256<=2 ^ 64:=by
  rw[show (256:Nat)=2 ^ 8 by decide,<-Nat.pow_add];exact Nat.pow_le_pow_right (by decide) (by omega)
 have e4:d*2 ^ (8*k)<2 ^ 64:=by
  have:d*2 ^ (8*k)<=255*2 ^ (8*k):=Nat.mul_le_mul_right _ (by omega);omega
 have e5:(d:Int)*2 ^ (8*k)=((d*2 ^ (8*k):Nat):Int):=by simp
 rw[e5,IntKind.wrap_u64,show ((d*2 ^ (8*k):Nat):Int) % 18446744073709551616=((d*2 ^ (8*k):Nat):Int) by omega,u64_or_nat _ _ (by omega) (by omega),P.MQ _ _ _ e2,<-MU];simp[Int.mul_comm]
theorem ig(l:List Int)(v:Value)(w:World)(hr:RB w v l)(hb:P.Bytes l)(hl:l.length<=8):
 Calls prog 232 #[v] w λe w'=>e=.returned (.int .u64 (P.num l))/\w=w':=by
 obtain⟨a,cap,rfl,hc⟩:=hr;generalize hn:l.length=m at*;have Hn:=hid hn;have Hc:=hid hc;clear hn hc;go_enter func232,ntmps232;go_wp2
 go_loop [2,7] (λn i=> ∃k:Nat,k<=m/\i=.int .i64 k/\n=.int .u64 (P.num (l.take k))) (λ_ i=>m-(intOf i).toNat)
 case atStart=>exact⟨0,Nat.zero_le _,rfl,rfl⟩
 case round=>
  obtain⟨k,hk,rfl,rfl⟩:=hrel;by_cases hlt:k<m
  ·obtain⟨b1,o1,rfl,hcx⟩:=Hc.out (by intro h;rw[h] at Hn;have:=Hn.out;simp at this;omega);have h1:=hcx k hlt;clear hcx;obtain⟨b0,b1⟩:=hb.at k;go_wp2
   have hnb:=P.kD _ (hb.take k);rw[show (l.take k).length=k by have:=Hn.out;simp;omega] at hnb;have mh:P.num (l.take (k+1))=P.num (l.take k)+256 ^ k*(l[k]?.getD 0):=by
    rw[P.nI l k (by have:=Hn.out;omega),P.Ae,show (l.take k).length=k by have:=Hn.out;simp;omega];simp[P.num]
   go_round
   case rel=>exact⟨k+1,by omega,by go_num,by rw[mh,MV _ _ k hnb.1 hnb.2 b0 b1 (by omega)]⟩
   case measure=>simp[intOf];omega
  ·go_wp2
   go_ret;exact⟨ek (by rw[List.take_of_length_le (by have:=Hn.out;omega)]),rfl⟩
theorem iQ(g off len N cap c base:Nat)(xs:List Int)(n:Int)(w:World)(hown:w.ownsRow base 5 1 (.slice (some ⟨g,0,none⟩) N cap) N (xs.map (.int .u8)))(hfit:off+len<=N)(hlen:len<=8)(h0:0<=n)(h1:n<18446744073709551616):
 Calls prog 186 #[.slice (some ⟨g,off,none⟩) len c,.int .u64 n] w λe w'=>e=.returned (.tuple #[])/\w'.ownsRow base 5 1 (.slice (some ⟨g,0,none⟩) N cap) N ((P.splice xs off (P.le len n)).map (.int .u8))/\Below base w w':=by
 have hgb:=(hown.lt g rfl).1;go_enter func186,ntmps186;go_wp2
 go_loopw [7] (λi wr=> ∃k:Nat,k<=len/\i=.int .i64 k/\wr.ownsRow base 5 1 (.slice (some ⟨g,0,none⟩) N cap) N ((P.splice xs off (P.le k n)).map (.int .u8))/\Below base w wr) (λi _=>len-(intOf i).toNat)
 case atStart=>exact⟨0,by omega,rfl,by rw[P.le,P.iN];exact hown,Below.refl _ _⟩
 case round=>
  obtain⟨k,hk,rfl,ho,hbl⟩:=hrel;by_cases hlt:k<len
  ·have hyl:=ho.1;obtain⟨y,hc⟩:∃y,wr.cell? ⟨g,off+k,none⟩=some y:=by rw[ho.cellAt (off+k) (by omega)];exact⟨_,List.getElem?_eq_getElem (by omega)⟩
   have hf:=ho.frozenAt (off+k);clear hyl;go_wp2
   go_roundw;case rel=>
    refine⟨k+1,by omega,by go_num,?_,hbl.setCell hgb _⟩;have hst:=(ho.stored (off+k) (.int .u8 (n / 2 ^ (8*k) % 256))).1;rw[MU];rw[P.MP,<-P.xA _ _ _ _ (by have:=hown.1;simp at this;rw[P.fH];omega),P.fH,List.map_set];rw[MU] at hst;exact hst
   case measure=>simp[intOf];omega
  ·obtain rfl:k=len:=by omega
   go_wp2
   go_end0;exact⟨rfl,ho,hbl⟩
theorem Tryz.info5:(prog.info? 5).map (λi=>(i.zero,i.size,i.bytes))=some (some (.int .u8 0),1,1):=by kernel_rfl
def gM(s:ByteArray):List Int:=s.data.toList.map (λb=>(b.toNat:Int))
theorem dV(s:ByteArray):(gM s).length=s.size:=by simp[gM]
theorem Af(s:ByteArray):(gM s).map (Value.int .u8)=Lib.strCells s:=by simp[gM,Lib.strCells]
theorem qZ(s:ByteArray):P.Bytes (gM s):=by
 intro x hx;obtain⟨b,_,rfl⟩:=List.mem_map.1 hx;have:=b.toNat_lt;omega
theorem mi(w:World)(g off N cap base:Nat)(xs:List Int)(s:ByteArray)(dLen dCap:Nat)(ty:TypeId)(hown:w.ownsRow base 5 1 (.slice (some ⟨g,0,none⟩) N cap) N (xs.map (.int .u8)))
 (hfit:off+s.size<=N) (hd:s.size<=dLen):
 ∃w',(Builtin.copy_ #[118,9] ty #[.slice (some ⟨g,off,none⟩) dLen dCap,.string s]).run prog w=.ok (goInt s.size) w'/\
  w'.ownsRow base 5 1 (.slice (some ⟨g,0,none⟩) N cap) N ((P.splice xs off (gM s)).map (.int .u8))/\Below base w w':=by
 obtain⟨i0,hi,hz0,hz1,hz2⟩:=info_parts Tryz.info5;have hlen:=hown.1;rcases hown.2 with ⟨h,_⟩|⟨g',cap',cur,h,hbg,hg,hnc,hcm,hcs,htake⟩
 ·simp at h
 ·simp only[Value.slice.injEq,Option.some.injEq,Addr.mk.injEq,and_true,true_and] at h;obtain⟨rfl,rfl⟩:=h;have hcl:(Lib.strCells s).length=s.size:=Lib.strCells_length s;have hst:=run_storeCells_at prog g off 5 (Lib.strCells s) 0 cur w hg (by rw[Nat.add_zero,hcl];omega) (Lib.strCells_oneCell s);simp only[Nat.add_zero] at hst;refine⟨w.setRow g (cur.toList.take off ++ Lib.strCells s ++ cur.toList.drop (off+(Lib.strCells s).length)).toArray,?_,⟨?_,.inr ⟨g,cap,_,rfl,hbg,setRow_heap w g cur _ 5 _ hg,hnc,hcm,?_,?_⟩⟩,?_⟩
  ·have hmin:Nat.min s.size dLen=s.size:=Nat.min_eq_left hd;have ht:List.take s.size (List.map (λb=>Value.int .u8 (b.toNat:Int)) s.data.toList)=Lib.strCells s:=List.take_of_length_le (by simp);rw[List.append_assoc] at hst;simp[Builtin.copy_,run_underlying underlying118,Builtin.lenOf,Builtin.firstCells,sizeOf,typeInfo,hi,hmin,ht,hst]
  ·rw[List.length_map,P.dK _ _ _ (by rw[dV];simp at hlen;omega)];simpa using hlen
  ·simp[hcl];omega
  ·have hA:cur.toList=xs.map (Value.int .u8) ++ cur.toList.drop N:=by
    rw[<-htake,Nat.mul_one,List.take_append_drop]
   have hlx:(xs.map (Value.int .u8)).length=N:=by simpa using hlen
   have adF:xs.length=N:=by simpa using hlx
   rw[hcl];generalize cur.toList.drop N=R at hA;have t1:(xs.map (Value.int .u8) ++ R).take off=(xs.map (Value.int .u8)).take off:=List.take_append_of_le_length (by omega);have t2:(xs.map (Value.int .u8) ++ R).drop (off+s.size)=(xs.map (Value.int .u8)).drop (off+s.size) ++ R:=List.drop_append_of_le_length (by omega);have e:(xs.map (Value.int .u8)).take off ++ Lib.strCells s ++ ((xs.map (Value.int .u8)).drop (off+s.size) ++ R)=(P.splice xs off (gM s)).map (Value.int .u8) ++ R:=by
    simp[P.splice,Af,dV,List.append_assoc]
   rw[hA,t1,t2,e,Nat.mul_one,List.take_append_of_le_length (by rw[List.length_map,P.dK _ _ _ (by rw[dV];omega)];omega)];exact List.take_of_length_le (by rw[List.length_map,P.dK _ _ _ (by rw[dV];omega)];omega)
  ·exact⟨rfl,rfl,rfl,by simp,λi hi=>setRow_other w g i _ (by omega)⟩
theorem sQ(w:World)(s:ByteArray)(a:Option Addr)(dLen dCap:Nat)(ty:TypeId)(h0:s.size=0):
 (Builtin.copy_ #[118,9] ty #[.slice a dLen dCap,.string s]).run prog w=.ok (goInt 0) w:=by
 obtain⟨i0,hi,hz0,hz1,hz2⟩:=info_parts Tryz.info5;have hex:((s.extract 0 0).data.map λb=>Value.int .u8 (b.toNat:Int))= #[]:=by
  have:(s.extract 0 0)=ByteArray.empty:=by simp
  rw[this];simp
 cases a<;>simp[Builtin.copy_,run_underlying underlying118,Builtin.lenOf,Builtin.firstCells,sizeOf,typeInfo,hi,h0,hex,storeCells]
def xB(w:World)(g:Nat)(k v:ByteArray)(fl ex ca la:Int)(st wo:Bool):Prop:=
 w.cell? ⟨g,0,none⟩=some (.string k)/\w.cell? ⟨g,1,none⟩=some (.int .u32 fl)/\w.cell? ⟨g,2,none⟩=some (.string v)/\w.cell? ⟨g,3,none⟩=some (.int .i64 ex)/\
 w.cell? ⟨g,4,none⟩=some (.int .u64 ca)/\w.cell? ⟨g,5,none⟩=some (.int .i64 la)/\w.cell? ⟨g,6,none⟩=some (.bool st)/\w.cell? ⟨g,7,none⟩=some (.bool wo)/\g<w.heap.size
theorem xB.below{w w':World}{g B:Nat}{k v:ByteArray}{fl ex ca la:Int}{st wo:Bool}(h:xB w g k v fl ex ca la st wo)(hb:Below B w w')(hg:g<B):xB w' g k v fl ex ca la st wo:=by
 obtain⟨h0,h1,h2,h3,h4,h5,h6,h7,h8⟩:=h;exact⟨(hb.cell (by exact hg)).trans h0,(hb.cell (by exact hg)).trans h1,(hb.cell (by exact hg)).trans h2,(hb.cell (by exact hg)).trans h3,(hb.cell (by exact hg)).trans h4,(hb.cell (by exact hg)).trans h5,(hb.cell (by exact hg)).trans h6,(hb.cell (by exact hg)).trans h7,Nat.lt_of_lt_of_le h8 hb.size⟩
theorem ql(w:World)(k v:ByteArray)(fl ex ca la:Int)(st wo:Bool):xB (w.alloc (.cells #[.string k,.int .u32 fl,.string v,.int .i64 ex,.int .u64 ca,.int .i64 la,.bool st,.bool wo] 50)) w.heap.size k v fl ex ca la st wo:=by
 refine⟨?_,?_,?_,?_,?_,?_,?_,?_,by simp⟩<;>simp[go_sem]
def gN(b:Bool)(n:Int):Int:=if b then n else 0
theorem MW(b:Bool)(n:Int)(w:World):Calls prog 185 #[.bool b,.int .u8 n] w λe w'=>e=.returned (.int .u8 (gN b n))/\w=w':=MS b n w
theorem Gv(b:Bool):0<=gN b 1/\gN b 1<=1:=by cases b<;>decide
theorem Gw(b:Bool):0<=gN b 2/\gN b 2<=2:=by cases b<;>decide
theorem uf(N:Nat):(madeCells (Value.int .u8 0).cells (N*1)).toList=(List.replicate N (0:Int)).map (.int .u8):=by
 rw[Nat.mul_one];exact(toList_madeCells_one _ N).trans (by simp)
theorem ug(N j:Nat)(h:j<N):(madeCells (Value.int .u8 0).cells (N*1)).toList[j]?=some (.int .u8 0):=by
 rw[uf];simp[h]
def eZ(st wo:Bool):Int:=gN st 1+gN wo 2
theorem Gx(st wo:Bool):bits .or .u8 (gN st 1) (gN wo 2)=eZ st wo:=by cases st<;>cases wo<;>decide
theorem q9(st wo:Bool):0<=eZ st wo/\eZ st wo<=3:=by cases st<;>cases wo<;>decide
def jG(k v:ByteArray)(fl ex ca la:Int)(st wo:Bool):List Int:=
 P.le 1 k.size ++ P.le 3 (eZ st wo) ++ P.le 4 fl ++ P.le 8 v.size ++ P.le 8 ex ++ P.le 8 ca ++ P.le 8 la ++ gM k ++ gM v
def encR(k v:ByteArray)(fl ex ca la:Int)(st wo:Bool):List Int:=if dm k v ex la=true then jG k v fl ex ca la st wo else []
def Cb(k v:ByteArray)(fl ex ca la:Int)(st wo:Bool)(w:World)(e:Ending)(w':World):Prop:=
 ∃u,e=.returned (.tuple #[u,.int .i64 (if dm k v ex la=true then 0 else 1)])/\w'.ownsRow w.heap.size 5 1 u (encR k v fl ex ca la st wo).length ((encR k v fl ex ca la st wo).map (.int .u8))/\Below w.heap.size w w'
theorem xC(k v:ByteArray)(fl ex ca la:Int)(st wo:Bool):(jG k v fl ex ca la st wo).length=40+k.size+v.size:=by
 simp[jG,P.fH,dV];omega
theorem rf{w:World}{base base' n:Nat}{e:TypeId}{size:Nat}{v:Value}{xs:List Value}(h:w.ownsRow base e size v n xs)(hb:base'<=base):w.ownsRow base' e size v n xs:=by
 refine⟨h.1,?_⟩;rcases h.2 with h1|⟨g,cap,cur,h1,h2,h3⟩
 ·exact .inl h1
 ·exact .inr ⟨g,cap,cur,h1,by omega,h3⟩
theorem lu{k v:ByteArray}{fl ex ca la:Int}{st wo:Bool}{w w':World}{G g N:Nat}(hr:dm k v ex la=true)(hG:w.heap.size=G)
 (ho:w'.ownsRow g 5 1 (.slice (some ⟨g,0,none⟩) N N) N ((jG k v fl ex ca la st wo).map (.int .u8))) (hg:G<=g) (hb:Below G w w'):
 Cb k v fl ex ca la st wo w (.returned (.tuple #[.slice (some ⟨g,0,none⟩) N N,.int .i64 0])) w':=by
 subst hG;have hN:(jG k v fl ex ca la st wo).length=N:=by have:=ho.1;simpa using this
 subst hN;have e:encR k v fl ex ca la st wo=jG k v fl ex ca la st wo:=by unfold encR;rw[if_pos hr]
 refine⟨_,by rw[if_pos hr],?_,hb⟩;rw[e];exact rf ho hg
theorem eO(A B C ys:List Int)(off:Nat)(ha:A.length=off)(hb:B.length=ys.length):P.splice (A ++ (B ++ C)) off ys=A ++ (ys ++ C):=by
 subst ha;unfold P.splice;rw[<-hb];simp[List.drop_append]
theorem MX(n:Int)(h0:0<=n)(h1:n<4294967296):P.le 8 n=P.le 4 n ++ [0,0,0,0]:=by
 simp only[P.le,List.cons_append,List.nil_append];have e4:n / 256 / 256 / 256 / 256=0:=by omega
 rw[e4];simp
theorem DN(k v:ByteArray)(fl ex ca la:Int)(st wo:Bool)(N:Nat)(MZ PU PV PW PX QY:List Int)(hN:N=40+k.size+v.size)(hk:k.size<256)(hv:v.size<4294967296)
 (h3:MZ=((List.replicate N (0:Int)).set 0 (k.size:Int)).set 1 (bits .or .u8 (gN st 1) (gN wo 2)))
 (h4:PU=P.splice MZ 4 (P.le 4 fl)) (h5:PV=P.splice PU 8 (P.le 4 (v.size:Int))) (h6:PW=P.splice PV 16 (P.le 8 ex)) (h7:PX=P.splice PW 24 (P.le 8 ca)) (h8:QY=P.splice PX 32 (P.le 8 la)):
 P.splice (P.splice QY 40 (gM k)) (40+k.size) (gM v)=jG k v fl ex ca la st wo:=by
 have hb:=q9 st wo;have e3:MZ= [(k.size:Int),eZ st wo,0,0] ++ (List.replicate 4 0 ++ (List.replicate 4 0 ++ ([0,0,0,0] ++ (List.replicate 8 0 ++ (List.replicate 8 0 ++ (List.replicate 8 0 ++ (List.replicate k.size 0 ++ List.replicate v.size 0))))))):=by
  rw[h3,Gx,hN,show 40+k.size+v.size=40+(k.size+v.size) by omega,<-List.replicate_append_replicate,<-List.replicate_append_replicate];rfl
 generalize hP: [(k.size:Int),eZ st wo,0,0]=H at e3;have hH:H.length=4:=by rw[<-hP];rfl
 have hHe:H=P.le 1 k.size ++ P.le 3 (eZ st wo):=by
  rw[<-hP];simp only[P.le,List.cons_append,List.nil_append];rw[show (k.size:Int) % 256=k.size by omega,show eZ st wo % 256=eZ st wo by omega,show eZ st wo / 256=0 by omega];rfl
 have l4:(P.le 4 fl).length=4:=P.fH _ _;have l5:(P.le 4 (v.size:Int)).length=4:=P.fH _ _;have l6:(P.le 8 ex).length=8:=P.fH _ _;have l7:(P.le 8 ca).length=8:=P.fH _ _;have l8:(P.le 8 la).length=8:=P.fH _ _;have lk:(gM k).length=k.size:=dV k;have lv:(gM v).length=v.size:=dV v;rw[h8,h7,h6,h5,h4,e3];rw[eO _ _ _ _ 4 hH (by rw[l4];rfl)];rw[<-List.append_assoc H,eO _ _ _ _ 8 (by simp[hH,l4]) (by rw[l5];rfl)];rw[<-List.append_assoc (H ++ _),<-List.append_assoc _ [0,0,0,0],eO _ _ _ _ 16 (by simp[hH,l4,l5]) (by rw[l6];rfl)];rw[<-List.append_assoc _ (P.le 8 ex),eO _ _ _ _ 24 (by simp[hH,l4,l5,l6]) (by rw[l7];rfl)];rw[<-List.append_assoc _ (P.le 8 ca),eO _ _ _ _ 32 (by simp[hH,l4,l5,l6,l7]) (by rw[l8];rfl)];rw[<-List.append_assoc _ (P.le 8 la),eO _ _ _ _ 40 (by simp[hH,l4,l5,l6,l7,l8]) (by rw[lk];simp)];have hlast:List.replicate v.size (0:Int)=List.replicate v.size 0 ++ []:=by simp
 rw[hlast,<-List.append_assoc _ (gM k),eO _ _ _ _ (40+k.size) (by simp[hH,l4,l5,l6,l7,l8,lk];omega) (by rw[lv];simp)];unfold jG;rw[MX (v.size:Int) (by omega) (by omega),hHe];simp[List.append_assoc]
theorem Ag(k v:ByteArray)(fl ex ca la:Int)(st wo:Bool)(w:World)(hk:k.size<=maxLen)(hv:v.size<=maxLen)(hr:dm k v ex la=true)(hk1:1<=k.size)(hk2:k.size<=250)(hv2:v.size<=65536)(hf0:0<=fl)(hf1:fl<4294967296)(hx0:0<=ex)(hx1:ex<=9223372036854775807)(hc0:0<=ca)(hc1:ca<=18446744073709551615)(hl0:0<=la)(hl1:la<=9223372036854775807):
 Calls prog 118 #[.agg #[.string k,.int .u32 fl,.string v,.int .i64 ex,.int .u64 ca,.int .i64 la,.bool st,.bool wo]] w (Cb k v fl ex ca la st wo w):=by
 have Hr:=hid hr;obtain⟨N,hN⟩:∃N:Nat,N=40+k.size+v.size:=⟨_,rfl⟩;have Hsz:=hid (show QX k.size v.size=(N:Int) by unfold QX;rw[if_neg (by omega)];omega);have hN1:41<=N:=by omega
 have QZ:N<=65826:=by omega
 have HN:=hid hN;clear hN;clear hr;obtain⟨i0,hi,hz0,hz1,hz2⟩:=info_parts Tryz.info5;go_enter func118,ntmps118;go_wp2_with (fail)
 refine(t_ k v fl ex ca la st wo _ hk hv).mono ?_;rintro e w1 ⟨rfl,hb1⟩;rw[Hr.out];have F8:=(ql w k v fl ex ca la st wo).below hb1 (by simp);have hbw:Below w.heap.size w w1:=((Below.refl _ _).alloc (Nat.le_refl _) _).trans (hb1.mono (by simp));clear hb1;obtain⟨x0,x1,x2,x3,x4,x5,x6,x7,hgl⟩:=id F8;go_wp2_with (fail)
 refine(Gu _ _ _).mono ?_;rintro e w' ⟨rfl,rfl⟩;rw[Hsz.out];go_wp2_with (at_make;go_must (refine wpList_make_full w1 rfl _ _ 118 rfl w1.heap.size 5 i0 (.int .u8 0) 1 underlying118 hi hz0 hz1 _ _ _ _ N rfl rfl rfl rfl (by rw[hz2];omega) (by unfold maxLen;omega) (Nat.le_refl _) ?_);intro w2 ho2 hg2)
 have hb2:Below w1.heap.size w1 w2:=(Below.refl _ _).grown hg2 (Nat.le_refl _) (λ_ h=>by cases h);have Gy:=F8.below hb2 hgl;clear x0 x1 x2 x3 x4 x5 x6 x7;obtain⟨x0,x1,x2,x3,x4,x5,x6,x7,_⟩:=id Gy;generalize hg:w1.heap.size=g at*;have hc0:w2.cell? ⟨g,0,none⟩=some (.int .u8 0):=by rw[ho2.cellAt 0 (by omega)];exact ug N 0 (by omega)
 have hc1:w2.cell? ⟨g,1,none⟩=some (.int .u8 0):=by rw[ho2.cellAt 1 (by omega)];exact ug N 1 (by omega)
 have YT:=ho2.frozenAt 0;have YU:=ho2.frozenAt 1;rw[uf] at ho2;have Ho2:=hid ho2;have Hb2:=hid hb2;have UZ:=hid Gy;have Hbw:=hid hbw;have bst:=Gv st;have bwo:=Gw wo;have n0:(0:Int)<(N:Int):=by omega
 have n0n:0<N:=by omega
 have hwk:IntKind.u8.wrap (k.size:Int)=k.size:=IntWalk.u8_in _ ⟨by omega,by omega⟩;have n1:(1:Int)<(N:Int):=by omega
 clear hi hz0 hz1 hz2 ho2 hg2 hb2 F8 Gy hbw;generalize hG:w.heap.size=G at*;have hne:¬g=G:=by omega
 have HG:=hid hG;clear hG;go_region_held3 (λw'=>w'.cell? ⟨G,0,none⟩=some (.string k)/\w'.cell? ⟨G,6,none⟩=some (.bool st)/\w'.cell? ⟨G,7,none⟩=some (.bool wo)) (first|exact⟨x0,x6,x7⟩|(simp[go_sem,x0,x6,x7,hne];done)) (first|(go_at_call 185;refine(MW _ _ _).mono ?_;rintro e w' ⟨rfl,rfl⟩))
 have ho3:(((w2.setCell ⟨g,0,none⟩ (.int .u8 (k.size:Int))).setCell ⟨g,1,none⟩ (.int .u8 (bits .or .u8 (gN st 1) (gN wo 2)))).drew).ownsRow g 5 1 (.slice (some ⟨g,0,none⟩) N N) N (((List.replicate N (0:Int)).set 0 (k.size:Int)).set 1 (bits .or .u8 (gN st 1) (gN wo 2)) |>.map (.int .u8)):=by
  have h1:=((Ho2.out.stored 0 (.int .u8 (k.size:Int))).1.stored 1 (.int .u8 (bits .or .u8 (gN st 1) (gN wo 2)))).1;rw[<-List.map_set,<-List.map_set] at h1;exact h1
 have hb3:Below g w2 (((w2.setCell ⟨g,0,none⟩ (.int .u8 (k.size:Int))).setCell ⟨g,1,none⟩ (.int .u8 (bits .or .u8 (gN st 1) (gN wo 2)))).drew):=(((Below.refl _ _).setCell (by simp) _).setCell (by simp) _).drew;generalize ((w2.setCell ⟨g,0,none⟩ (.int .u8 (k.size:Int))).setCell ⟨g,1,none⟩ (.int .u8 (bits .or .u8 (gN st 1) (gN wo 2)))).drew=w3 at*;have Gz:=UZ.out.below hb3 (by omega);have M4:=Hb2.out.trans hb3;clear x0 x1 x2 x3 x4 x5 x6 x7 hc0 hc1 YT YU hb3;obtain⟨MZ,Q0⟩:∃MZ,MZ=((List.replicate N (0:Int)).set 0 (k.size:Int)).set 1 (bits .or .u8 (gN st 1) (gN wo 2)):=⟨_,rfl⟩;rw[<-Q0] at ho3;have YV:=hid Q0;clear Q0;obtain⟨x0,x1,x2,x3,x4,x5,x6,x7,_⟩:=id Gz;go_wp2_with (fail)
 have uW:G<g:=hgl;have r4:¬N=4:=by omega
 have i4:(4:Int)<=(N:Int):=by omega
 have m4:4<=N:=by omega
 have r8:¬N=8:=by omega
 have i8:(8:Int)<=(N:Int):=by omega
 have m8:8<=N:=by omega
 have PY:¬N=12:=by omega
 have i12:(12:Int)<=(N:Int):=by omega
 have m12:12<=N:=by omega
 have r16:¬N=16:=by omega
 have i16:(16:Int)<=(N:Int):=by omega
 have m16:16<=N:=by omega
 have r24:¬N=24:=by omega
 have i24:(24:Int)<=(N:Int):=by omega
 have m24:24<=N:=by omega
 have r32:¬N=32:=by omega
 have i32:(32:Int)<=(N:Int):=by omega
 have m32:32<=N:=by omega
 have r40:¬N=40:=by omega
 have i40:(40:Int)<=(N:Int):=by omega
 have m40:40<=N:=by omega
 have hw1:IntKind.u64.wrap fl=fl:=IntWalk.u64_in _ ⟨by omega,by omega⟩;have hw2:IntKind.u64.wrap (v.size:Int)=v.size:=IntWalk.u64_in _ ⟨by omega,by omega⟩;have hw3:IntKind.u64.wrap ex=ex:=IntWalk.u64_in _ ⟨by omega,by omega⟩;have hw4:IntKind.u64.wrap la=la:=IntWalk.u64_in _ ⟨by omega,by omega⟩;go_region_held3 (λw'=>w'.cell? ⟨G,1,none⟩=some (.int .u32 fl)) (first|exact x1|(exact(hb4.cell (by exact uW)).trans x1)) (first|(go_at_call 186;refine(iQ g 4 4 N N _ g MZ fl _ (by exact ho3) (by omega) (by omega) (by omega) (by omega)).mono ?_;rintro e w4 ⟨rfl,YW,hb4⟩))
 have GD:=(show xB w3.drew G k v fl ex ca la st wo from Gz).below hb4 hgl;have U0:=M4.drew.trans hb4;clear x0 x1 x2 x3 x4 x5 x6 x7 Gz hb4 M4 ho3;obtain⟨PU,Q3⟩:∃PU,PU=P.splice MZ 4 (P.le 4 fl):=⟨_,rfl⟩;rw[<-Q3] at YW;have YX:=hid Q3;clear Q3;obtain⟨x0,x1,x2,x3,x4,x5,x6,x7,_⟩:=id GD;go_wp2_with (fail)
 go_region_held3 (λw'=>w'.cell? ⟨G,2,none⟩=some (.string v)) (first|exact x2|(exact(hb5.cell (by exact uW)).trans x2)) (first|(go_at_call 186;refine(iQ g 8 4 N N _ g PU (v.size:Int) _ (by exact YW) (by omega) (by omega) (by omega) (by omega)).mono ?_;rintro e w5 ⟨rfl,YY,hb5⟩))
 have GG:=(show xB w4.drew G k v fl ex ca la st wo from GD).below hb5 hgl;have U1:=U0.drew.trans hb5;clear x0 x1 x2 x3 x4 x5 x6 x7 GD hb5 U0 YW;obtain⟨PV,Q4⟩:∃PV,PV=P.splice PU 8 (P.le 4 (v.size:Int)):=⟨_,rfl⟩;rw[<-Q4] at YY;have YZ:=hid Q4;clear Q4;obtain⟨x0,x1,x2,x3,x4,x5,x6,x7,_⟩:=id GG;go_wp2_with (fail)
 go_region_held3 (λw'=>w'.cell? ⟨G,3,none⟩=some (.int .i64 ex)) (first|exact x3|(exact(hb6.cell (by exact uW)).trans x3)) (first|(go_at_call 186;refine(iQ g 16 8 N N _ g PV ex _ (by exact YY) (by omega) (by omega) (by omega) (by omega)).mono ?_;rintro e w6 ⟨rfl,Y0,hb6⟩))
 have GH:=(show xB w5.drew G k v fl ex ca la st wo from GG).below hb6 hgl;have U2:=U1.drew.trans hb6;clear x0 x1 x2 x3 x4 x5 x6 x7 GG hb6 U1 YY;obtain⟨PW,Q5⟩:∃PW,PW=P.splice PV 16 (P.le 8 ex):=⟨_,rfl⟩;rw[<-Q5] at Y0;have Y1:=hid Q5;clear Q5;obtain⟨x0,x1,x2,x3,x4,x5,x6,x7,_⟩:=id GH;go_wp2_with (fail)
 go_region_held3 (λw'=>w'.cell? ⟨G,4,none⟩=some (.int .u64 ca)) (first|exact x4|(exact(kT.cell (by exact uW)).trans x4)) (first|(go_at_call 186;refine(iQ g 24 8 N N _ g PW ca _ (by exact Y0) (by omega) (by omega) (by omega) (by omega)).mono ?_;rintro e w7 ⟨rfl,Y2,kT⟩))
 have GI:=(show xB w6.drew G k v fl ex ca la st wo from GH).below kT hgl;have U3:=U2.drew.trans kT;clear x0 x1 x2 x3 x4 x5 x6 x7 GH kT U2 Y0;obtain⟨PX,Q6⟩:∃PX,PX=P.splice PW 24 (P.le 8 ca):=⟨_,rfl⟩;rw[<-Q6] at Y2;have Y3:=hid Q6;clear Q6;obtain⟨x0,x1,x2,x3,x4,x5,x6,x7,_⟩:=id GI;go_wp2_with (fail)
 go_region_held3 (λw'=>w'.cell? ⟨G,5,none⟩=some (.int .i64 la)) (first|exact x5|(exact(DR.cell (by exact uW)).trans x5)) (first|(go_at_call 186;refine(iQ g 32 8 N N _ g PX la _ (by exact Y2) (by omega) (by omega) (by omega) (by omega)).mono ?_;rintro e w8 ⟨rfl,ho8,DR⟩))
 have U4:=(show xB w7.drew G k v fl ex ca la st wo from GI).below DR hgl;have Y4:=U3.drew.trans DR;clear x0 x1 x2 x3 x4 x5 x6 x7 GI DR U3 Y2;obtain⟨QY,Q7⟩:∃QY,QY=P.splice PX 32 (P.le 8 la):=⟨_,rfl⟩;rw[<-Q7] at ho8;have Y5:=hid Q7;clear Q7;obtain⟨x0,x1,x2,x3,x4,x5,x6,x7,_⟩:=id U4;go_wp2_with (fail)
 have hw5:IntKind.i64.wrap (40+(k.size:Int))=40+(k.size:Int):=IntWalk.i64_in _ ⟨by omega,by omega⟩;have Y6:(40+(k.size:Int)).toNat=40+k.size:=by omega
 have hw7:40+(k.size:Int)<=(N:Int):=by have:=HN.out;omega
 have hw8:(0:Int)<=40+(k.size:Int):=by omega
 have XG:40+k.size<=N:=by have:=HN.out;omega
 obtain⟨w9,abt,XH,ny⟩:=mi w8.drew g 40 N N g QY k (N-40) (N-40) 3 ho8 (by omega) (by omega);have Y7:=(ny.cell (p:=⟨G,2,none⟩) (by exact uW)).trans (show w8.drew.cell? ⟨G,2,none⟩=some (.string v) from x2);have Q8:=(ny.cell (p:=⟨G,0,none⟩) (by exact uW)).trans (show w8.drew.cell? ⟨G,0,none⟩=some (.string k) from x0);have hxs:=DN k v fl ex ca la st wo N MZ PU PV PW PX QY HN.out (by omega) (by omega) YV.out YX.out YZ.out Y1.out Y3.out Y5.out;have Hxs:=hid hxs;clear hxs;have Q9:=Hbw.out.trans ((Y4.drew.trans ny).mono (by omega:G<=g));by_cases hv0:v.size=0
 ·have U6:=sQ w9 v (if N=40+k.size then some ⟨g,0,none⟩ else some ⟨g,40+k.size,none⟩) (N-(40+k.size)) (N-(40+k.size)) 3 hv0;have hnil:gM v= []:=List.eq_nil_of_length_eq_zero (by rw[dV];exact hv0);rw[hnil,P.iN] at Hxs;rw[Hxs.out] at XH;have hNk:40+k.size=N:=by have:=HN.out;omega
  have HNk:=hid hNk;clear hv0 hnil hNk;go_region_held3 (λw'=>w'.cell? ⟨G,0,none⟩=some (.string k)/\w'.cell? ⟨G,2,none⟩=some (.string v)) (first|exact⟨x0,x2⟩|exact⟨Q8,Y7⟩) (first|(fail))
  all_goals (go_wp2_with (fail))
  all_goals
   go_ret2
   first
    |exact lu Hr.out HG.out XH (Nat.le_of_lt hgl) Q9
    |(rw[HNk.out];exact lu Hr.out HG.out XH (Nat.le_of_lt hgl) Q9)
 ·have r41:¬N=40+k.size:=by have:=HN.out;omega
  obtain⟨w10,U6,U8,GJ⟩:=mi w9 g (40+k.size) N N g _ v (N-(40+k.size)) (N-(40+k.size)) 3 XH (by have:=HN.out;omega) (by have:=HN.out;omega);rw[Hxs.out] at U8;have Y8:=(GJ.cell (p:=⟨G,2,none⟩) (by exact uW)).trans Y7;have U9:=(GJ.cell (p:=⟨G,0,none⟩) (by exact uW)).trans Q8;go_region_held3 (λw'=>w'.cell? ⟨G,0,none⟩=some (.string k)/\w'.cell? ⟨G,2,none⟩=some (.string v)) (first|exact⟨x0,x2⟩|exact⟨Q8,Y7⟩|exact⟨U9,Y8⟩) (first|(fail))
  all_goals (go_wp2_with (fail))
  all_goals
   go_ret2;exact lu Hr.out HG.out U8 (Nat.le_of_lt hgl) (Q9.trans (GJ.mono (Nat.le_of_lt hgl)))
theorem zR{w:World}{base n:Nat}{v:Value}{l:List Int}(h:w.ownsRow base 5 1 v n (l.map (.int .u8))):RB w v l:=by
 have hn:l.length=n:=by simpa using h.1
 subst hn;rcases h.2 with ⟨rfl,h0⟩|⟨g,cap,cur,rfl,_⟩
 ·exact⟨none,0,by rw[h0],λhne=>absurd (List.eq_nil_of_length_eq_zero h0) hne⟩
 ·refine⟨some ⟨g,0,none⟩,cap,rfl,λ_=>⟨g,0,rfl,λi hi=>?_⟩⟩;have:=h.cellAt i (by omega);rw[Nat.zero_add,this];simp[hi]
theorem RB.below{w w':World}{v:Value}{l:List Int}(h:RB w v l)(hb:Below w.heap.size w w'):RB w' v l:=by
 obtain⟨a,cap,rfl,hc⟩:=h;refine⟨a,cap,rfl,λhne=>?_⟩;obtain⟨b,o,rfl,hcc⟩:=hc hne;refine⟨b,o,rfl,λi hi=>?_⟩;have h1:=hcc i hi;rw[hb.cell (World.block_lt_of_cell? _ _ h1)];exact h1
theorem Cc{w:World}{v:Value}{l:List Int}(h:RB w v l):(convert 118 9 v).run prog w=.ok (.string (strOfNums l)) w:=by
 obtain⟨a,cap,rfl,hc⟩:=h;by_cases hl:l= []
 ·subst hl;cases a with
  |none=>exact run_convert_bytes_nil w 118 5 underlying118 underlying5 0 cap 9 underlying9
  |some a=>
   rw[run_convert_bytes_string w 118 9 5 _ _ _ underlying118 underlying5 underlying9];have:=run_bytesToString (P:=prog) w a 0 cap [] (by simp[loadCells,loadCellsFrom]);exact this
 ·obtain⟨b,o,rfl,hcc⟩:=hc hl;exact run_convert_bytes_arg w 118 5 underlying118 underlying5 b o _ cap l rfl (λi hi=>by rw[hcc i hi];simp) 9 underlying9
theorem toList_inj(a b:ByteArray):a.toList=b.toList↔a=b:=by
 rw[ByteArray.toList_eq,ByteArray.toList_eq];constructor
 ·intro h;exact ByteArray.ext (Array.ext' h)
 ·rintro rfl;rfl
theorem Ah(k v:ByteArray)(fl ex ca la:Int)(st wo:Bool):P.Bytes (jG k v fl ex ca la st wo):=by
 unfold jG;exact((((((((P.gK _ _).append (P.gK _ _)).append (P.gK _ _)).append (P.gK _ _)).append (P.gK _ _)).append (P.gK _ _)).append (P.gK _ _)).append (qZ _)).append (qZ _)
structure It where
 k:ByteArray
 v:ByteArray
 fl:Int
 ex:Int
 ca:Int
 la:Int
 st:Bool
 wo:Bool
def itV(i:It):Value:=.agg #[.string i.k,.int .u32 i.fl,.string i.v,.int .i64 i.ex,.int .u64 i.ca,.int .i64 i.la,.bool i.st,.bool i.wo]
def uX:It:=⟨⟨#[]⟩,⟨#[]⟩,0,0,0,0,false,false⟩
def sub(l:List Int)(i m:Nat):List Int:=(l.drop i).take m
def jQ(l:List Int):Nat:=(l[0]?.getD 0).toNat
def kU(l:List Int):Nat:=(P.num (sub l 8 8)).toNat
def sS(l:List Int):It:=
 ⟨strOfNums (sub l 40 (jQ l)),strOfNums (sub l (40+jQ l) (kU l)),P.num (sub l 4 4),wrap64 (P.num (sub l 16 8)),P.num (sub l 24 8),wrap64 (P.num (sub l 32 8)),decide (l[1]?.getD 0 % 2=1),decide (l[1]?.getD 0 / 2=1)⟩
def iR(l:List Int):Bool:=
 decide (40<=l.length/\l[1]?.getD 0<=3/\l[2]?.getD 0=0/\l[3]?.getD 0=0/\P.num (sub l 8 8)<=65536/\jQ l+kU l+40<=l.length)
def oI(l:List Int):Bool:=iR l && dm (sS l).k (sS l).v (sS l).ex (sS l).la
def lC(l:List Int):It:=if oI l=true then sS l else uX
def lD(l:List Int):Int:=if oI l=true then 0 else 9
theorem iT{l a b c:List Int}{i m:Nat}(h:l=a ++ (b ++ c))(hi:a.length=i)(hm:b.length=m):sub l i m=b:=by
 subst h hi hm;unfold sub;simp
theorem Ce{l:List Int}{i m:Nat}(h:i+m<=l.length):(sub l i m).length=m:=by unfold sub;simp;omega
theorem jR(s:ByteArray):strOfNums (gM s)=s:=by
 refine ByteArray.ext (Array.ext' ?_);rw[strOfNums_data];unfold gM;rw[List.map_map];conv=>rhs;rw[<-List.map_id s.data.toList]
 refine List.map_congr_left λb _=>?_
 simp
theorem xD(st wo:Bool):decide (eZ st wo % 2=1)=st/\decide (eZ st wo / 2=1)=wo:=by cases st<;>cases wo<;>decide
theorem DT(k v:ByteArray)(fl ex ca la:Int)(st wo:Bool)(b:List Int)(hk:k.size<256)(hv:v.size<=65536)(hf0:0<=fl)(hf1:fl<4294967296)(hx0:0<=ex)(hx1:ex<=9223372036854775807)(hc0:0<=ca)(hc1:ca<=18446744073709551615)(hl0:0<=la)(hl1:la<=9223372036854775807):
 let l:=jG k v fl ex ca la st wo ++ b;l[0]?.getD 0=(k.size:Int)/\l[1]?.getD 0=eZ st wo/\l[2]?.getD 0=0/\l[3]?.getD 0=0/\P.num (sub l 4 4)=fl/\P.num (sub l 8 8)=(v.size:Int)/\P.num (sub l 16 8)=ex/\P.num (sub l 24 8)=ca/\P.num (sub l 32 8)=la/\sub l 40 k.size=gM k/\sub l (40+k.size) v.size=gM v:=by
 have p8:(256:Int) ^ 8=18446744073709551616:=by decide
 have p4:(256:Int) ^ 4=4294967296:=by decide
 have hb:=q9 st wo;intro l;have l4:(P.le 4 fl).length=4:=P.fH _ _;have l5:(P.le 8 (v.size:Int)).length=8:=P.fH _ _;have l6:(P.le 8 ex).length=8:=P.fH _ _;have l7:(P.le 8 ca).length=8:=P.fH _ _;have l8:(P.le 8 la).length=8:=P.fH _ _;have lk:(gM k).length=k.size:=dV k;have lv:(gM v).length=v.size:=dV v;have hl:l= [(k.size:Int),eZ st wo,0,0] ++ (P.le 4 fl ++ (P.le 8 v.size ++ (P.le 8 ex ++ (P.le 8 ca ++ (P.le 8 la ++ (gM k ++ (gM v ++ b))))))):=by
  show jG k v fl ex ca la st wo ++ b=_;unfold jG;have e:P.le 1 (k.size:Int) ++ P.le 3 (eZ st wo)= [(k.size:Int),eZ st wo,0,0]:=by
   simp only[P.le,List.cons_append,List.nil_append];rw[show (k.size:Int) % 256=k.size by omega,show eZ st wo % 256=eZ st wo by omega,show eZ st wo / 256=0 by omega];rfl
  rw[e];simp[List.append_assoc]
 clear_value l
 refine⟨by rw[hl];simp,by rw[hl];simp,by rw[hl];simp,by rw[hl];simp,?_,?_,?_,?_,?_,?_,?_⟩
 ·rw[iT (i:=4) hl rfl l4,P.qY 4 fl hf0 (by omega)]
 ·rw[<-List.append_assoc] at hl;rw[iT hl (by simp[l4]) l5,P.qY 8 _ (by omega) (by omega)]
 ·rw[<-List.append_assoc,<-List.append_assoc] at hl;rw[iT hl (by simp[l4,l5]) l6,P.qY 8 _ (by omega) (by omega)]
 ·rw[<-List.append_assoc,<-List.append_assoc,<-List.append_assoc] at hl;rw[iT hl (by simp[l4,l5,l6]) l7,P.qY 8 _ (by omega) (by omega)]
 ·rw[<-List.append_assoc,<-List.append_assoc,<-List.append_assoc,<-List.append_assoc] at hl;rw[iT hl (by simp[l4,l5,l6,l7]) l8,P.qY 8 _ (by omega) (by omega)]
 ·rw[<-List.append_assoc,<-List.append_assoc,<-List.append_assoc,<-List.append_assoc,<-List.append_assoc] at hl;rw[iT hl (by simp[l4,l5,l6,l7,l8]) lk]
 ·rw[<-List.append_assoc,<-List.append_assoc,<-List.append_assoc,<-List.append_assoc,<-List.append_assoc,<-List.append_assoc] at hl;rw[iT hl (by simp[l4,l5,l6,l7,l8,lk];omega) lv]
theorem M5(k v:ByteArray)(fl ex ca la:Int)(st wo:Bool)(b:List Int)(hr:dm k v ex la=true)(hk:k.size<256)(hv:v.size<=65536)(hf0:0<=fl)(hf1:fl<4294967296)(hx0:0<=ex)(hx1:ex<=9223372036854775807)(hc0:0<=ca)(hc1:ca<=18446744073709551615)(hl0:0<=la)(hl1:la<=9223372036854775807):
 oI (jG k v fl ex ca la st wo ++ b)=true/\sS (jG k v fl ex ca la st wo ++ b)=⟨k,v,fl,ex,ca,la,st,wo⟩:=by
 have hp:=DT k v fl ex ca la st wo b hk hv hf0 hf1 hx0 hx1 hc0 hc1 hl0 hl1;have hlen:(jG k v fl ex ca la st wo ++ b).length=40+k.size+v.size+b.length:=by rw[List.length_append,xC]
 generalize jG k v fl ex ca la st wo ++ b=l at*;obtain⟨h0,h1,h2,h3,h4,h5,h6,h7,h8,h9,h10⟩:=hp;have hb:=q9 st wo;have hkz:jQ l=k.size:=by unfold jQ;rw[h0];rfl
 have Ai:kU l=v.size:=by unfold kU;rw[h5];rfl
 have hI:sS l=⟨k,v,fl,ex,ca,la,st,wo⟩:=by
  unfold sS;rw[hkz,Ai,h9,h10,h4,h6,h7,h8,h1,(xD st wo).1,(xD st wo).2,jR,jR];unfold wrap64;rw[show (ex+9223372036854775808) % 18446744073709551616-9223372036854775808=ex by omega,show (la+9223372036854775808) % 18446744073709551616-9223372036854775808=la by omega]
 refine⟨?_,hI⟩;unfold oI;rw[hI];simp only[hr,Bool.and_true];unfold iR;refine decide_eq_true ⟨by omega,by omega,h2,h3,by omega,by omega⟩
def dJ(l:List Int)(w:World)(e:Ending)(w':World):Prop:=e=.returned (.tuple #[itV (lC l),.int .i64 (lD l)])/\Below w.heap.size w w'
theorem bJ(w:World)(g i j:Nat)(u:Value)(h:i≠j):(w.setCell ⟨g,i,none⟩ u).cell? ⟨g,j,none⟩=w.cell? ⟨g,j,none⟩:=by simp[go_sem,h]
theorem dW(w:World)(g i:Nat)(u v:Value)(h:w.cell? ⟨g,i,none⟩=some v):(w.setCell ⟨g,i,none⟩ u).cell? ⟨g,i,none⟩=some u:=World.cell?_setCell_same' _ _ _ (by rw[h];rfl)
theorem qm{w:World}{g:Nat}{k v:ByteArray}{fl ex ca la:Int}{st wo:Bool}{k0 v0:ByteArray}{fl0 ex0 ca0 la0:Int}{st0 wo0:Bool}(h:xB w g k0 v0 fl0 ex0 ca0 la0 st0 wo0):
 xB ((((((((w.setCell ⟨g,0,none⟩ (.string k)).setCell ⟨g,1,none⟩ (.int .u32 fl)).setCell ⟨g,2,none⟩ (.string v)).setCell ⟨g,3,none⟩ (.int .i64 ex)).setCell ⟨g,4,none⟩ (.int .u64 ca)).setCell ⟨g,5,none⟩ (.int .i64 la)).setCell ⟨g,6,none⟩ (.bool st)).setCell ⟨g,7,none⟩ (.bool wo)) g k v fl ex ca la st wo:=by
 obtain⟨h0,h1,h2,h3,h4,h5,h6,h7,h8⟩:=h;refine⟨?_,?_,?_,?_,?_,?_,?_,?_,by simpa[World.setCell] using h8⟩
 ·iterate 7 rw[bJ _ _ _ _ _ (by decide)]
  exact dW _ _ _ _ _ h0
 ·iterate 6 rw[bJ _ _ _ _ _ (by decide)]
  exact dW _ _ _ _ (.int .u32 fl0) (by rw[bJ _ _ _ _ _ (by decide)];exact h1)
 ·iterate 5 rw[bJ _ _ _ _ _ (by decide)]
  exact dW _ _ _ _ (.string v0) (by iterate 2 rw[bJ _ _ _ _ _ (by decide)]
                                    exact h2)
 ·iterate 4 rw[bJ _ _ _ _ _ (by decide)]
  exact dW _ _ _ _ (.int .i64 ex0) (by iterate 3 rw[bJ _ _ _ _ _ (by decide)]
                                       exact h3)
 ·iterate 3 rw[bJ _ _ _ _ _ (by decide)]
  exact dW _ _ _ _ (.int .u64 ca0) (by iterate 4 rw[bJ _ _ _ _ _ (by decide)]
                                       exact h4)
 ·iterate 2 rw[bJ _ _ _ _ _ (by decide)]
  exact dW _ _ _ _ (.int .i64 la0) (by iterate 5 rw[bJ _ _ _ _ _ (by decide)]
                                       exact h5)
 ·iterate 1 rw[bJ _ _ _ _ _ (by decide)]
  exact dW _ _ _ _ (.bool st0) (by iterate 6 rw[bJ _ _ _ _ _ (by decide)]
                                   exact h6)
 ·exact dW _ _ _ _ (.bool wo0) (by iterate 7 rw[bJ _ _ _ _ _ (by decide)]
                                   exact h7)
theorem iU{B:Nat}{a w:World}(h:Below B a w){g:Nat}(hg:B<=g){u0 u1 u2 u3 u4 u5 u6 u7:Value}:
 Below B a ((((((((w.setCell ⟨g,0,none⟩ u0).setCell ⟨g,1,none⟩ u1).setCell ⟨g,2,none⟩ u2).setCell ⟨g,3,none⟩ u3).setCell ⟨g,4,none⟩ u4).setCell ⟨g,5,none⟩ u5).setCell ⟨g,6,none⟩ u6).setCell ⟨g,7,none⟩ u7):=
 (((((((h.setCell hg _).setCell hg _).setCell hg _).setCell hg _).setCell hg _).setCell hg _).setCell hg _).setCell hg _
theorem mo{fn:Func}(hres:fn.results= #[.cell 2 50,.tmp 3]){R:Ending->World->Prop}{tmps:Array Value}{W:World}{g:Nat}{k v:ByteArray}{fl ex ca la er:Int}{st wo:Bool}
 (h2:tmps.getD 2 undef=.pointer (some ⟨g,0,none⟩)) (h3:tmps.getD 3 undef=.int .i64 er) (hb:xB W g k v fl ex ca la st wo)
 (hR:R (.returned (.tuple #[.agg #[.string k,.int .u32 fl,.string v,.int .i64 ex,.int .u64 ca,.int .i64 la,.bool st,.bool wo],.int .i64 er])) W):
 bodyPost prog fn R .ret {tmps:=tmps,defers:=[]} W:=by
 obtain⟨x0,x1,x2,x3,x4,x5,x6,x7,_⟩:=hb;refine bodyPost_ret (v:=.tuple #[.agg #[.string k,.int .u32 fl,.string v,.int .i64 ex,.int .u64 ca,.int .i64 la,.bool st,.bool wo],.int .i64 er]) ?_ rfl hR;have h2':tmps[2]?.getD undef=.pointer (some ⟨g,0,none⟩):=by simpa using h2
 have h3':tmps[3]?.getD undef=.int .i64 er:=by simpa using h3
 simp[results,hres,go_sem,h2',h3',x0,x1,x2,x3,x4,x5,x6,x7]
theorem GK{l:List Int}{n kz vz:Nat}(hln:l.length=n)(hn:40<=n)(h1:l[1]?.getD 0<=3)(h2:l[2]?.getD 0=0)(h3:l[3]?.getD 0=0)(hkz:l[0]?.getD 0=(kz:Int))(Ai:P.num (sub l 8 8)=(vz:Int))(hv:vz<=65536)(hfit:kz+vz<=n-40):
 iR l=true/\jQ l=kz/\kU l=vz:=by
 have e1:jQ l=kz:=by unfold jQ;rw[hkz];rfl
 have e2:kU l=vz:=by unfold kU;rw[Ai];rfl
 refine⟨?_,e1,e2⟩;unfold iR;refine decide_eq_true ⟨by omega,h1,h2,h3,by omega,by omega⟩
theorem ik{l:List Int}(h:iR l=false):lC l=uX/\lD l=9:=by
 have:oI l=false:=by unfold oI;rw[h];rfl
 unfold lC lD;rw[this];exact⟨rfl,rfl⟩
theorem M7{c:Int}(h0:0<=c)(h3:c<=3):(bits .and .u8 c 1 !=0)=decide (c % 2=1)/\(bits .and .u8 c 2 !=0)=decide (c / 2=1):=by
 have:c=0\/c=1\/c=2\/c=3:=by omega
 rcases this with rfl|rfl|rfl|rfl<;>decide
theorem GL{l:List Int}{kz vz:Nat}{sK sV:ByteArray}(hb:P.Bytes l)(hk:jQ l=kz)(hv:kU l=vz)(h1:l[1]?.getD 0<=3)(Q_:sK=strOfNums ((l.drop 40).take kz))(Ra:sV=strOfNums ((l.drop (40+kz)).take vz)):
 sS l=⟨sK,sV,P.num ((l.drop 4).take 4) % 4294967296,wrap64 (P.num ((l.drop 16).take 8)),P.num ((l.drop 24).take 8),wrap64 (P.num ((l.drop 32).take 8)),bits .and .u8 (l[1]?.getD 0) 1 !=0,bits .and .u8 (l[1]?.getD 0) 2 !=0⟩:=by
 have hb4:=P.kD _ ((hb.drop 4).take 4);have hp:(256:Int) ^ ((l.drop 4).take 4).length<=256 ^ 4:=P.QW (by simp;omega);have e4:(256:Int) ^ 4=4294967296:=by decide
 have hbb:=M7 (hb.at 1).1 h1;rw[hbb.1,hbb.2,Q_,Ra];unfold sS sub;rw[hk,hv,show P.num ((l.drop 4).take 4) % 4294967296=P.num ((l.drop 4).take 4) by omega]
theorem xE{l:List Int}{n kz vz:Nat}{sK sV:ByteArray}{b:Bool}(hln:l.length=n)(hn:40<=n)(hb:P.Bytes l)(h1:l[1]?.getD 0<=3)(h2:l[2]?.getD 0=0)(h3:l[3]?.getD 0=0)(hkz:l[0]?.getD 0=(kz:Int))(Ai:P.num ((l.drop 8).take 8)=(vz:Int))(hv:vz<=65536)(hfit:kz+vz<=n-40)
 (Q_:sK=strOfNums ((l.drop 40).take kz)) (Ra:sV=strOfNums ((l.drop (40+kz)).take vz))
 (hr:dm sK sV (wrap64 (P.num ((l.drop 16).take 8))) (wrap64 (P.num ((l.drop 32).take 8)))=b):
 if b=true then lC l=⟨sK,sV,P.num ((l.drop 4).take 4) % 4294967296,wrap64 (P.num ((l.drop 16).take 8)),P.num ((l.drop 24).take 8),wrap64 (P.num ((l.drop 32).take 8)),bits .and .u8 (l[1]?.getD 0) 1 !=0,bits .and .u8 (l[1]?.getD 0) 2 !=0⟩/\lD l=0
 else lC l=uX/\lD l=9:=by
 obtain⟨a1,a2,a3⟩:=GK hln hn h1 h2 h3 hkz Ai hv hfit;have hI:=GL hb a2 a3 h1 Q_ Ra;have hok:oI l=b:=by unfold oI;rw[a1,hI,<-hr];rfl
 unfold lC lD;rw[hok];cases b
 ·exact⟨rfl,rfl⟩
 ·exact⟨hI,rfl⟩
theorem eP{l:List Int}{w W:World}(h:lC l=uX/\lD l=9)(hb:Below w.heap.size w W):
 dJ l w (.returned (.tuple #[.agg #[.string ⟨#[]⟩,.int .u32 0,.string ⟨#[]⟩,.int .i64 0,.int .u64 0,.int .i64 0,.bool false,.bool false],.int .i64 9])) W:=⟨by rw[h.1,h.2];rfl,hb⟩
theorem xG{l:List Int}{w W:World}{k v:ByteArray}{fl ex ca la:Int}{st wo:Bool}(h:lC l=⟨k,v,fl,ex,ca,la,st,wo⟩/\lD l=0)(hb:Below w.heap.size w W):
 dJ l w (.returned (.tuple #[.agg #[.string k,.int .u32 fl,.string v,.int .i64 ex,.int .u64 ca,.int .i64 la,.bool st,.bool wo],.int .i64 0])) W:=⟨by rw[h.1,h.2];rfl,hb⟩
theorem U_(l:List Int)(v:Value)(w:World)(hr:RB w v l)(hb:P.Bytes l)(hl:l.length<=8):
 Calls prog 232 #[v] w λe w'=>e=.returned (.int .u64 (P.num l))/\w'=w:=(ig l v w hr hb hl).mono λ_ _ ⟨h1,h2⟩=>⟨h1,h2.symm⟩
theorem Va{l:List Int}{v:Value}{w:World}{z:Int}(hz:P.num l=z)(hr:RB w v l)(hb:P.Bytes l)(hl:l.length<=8):
 Calls prog 232 #[v] w λe w'=>e=.returned (.int .u64 z)/\w'=w:=by
 subst hz;exact U_ l v w hr hb hl
def Rb:Value:=.agg #[.string ByteArray.empty,.int .u32 0,.string ByteArray.empty,.int .i64 0,.int .u64 0,.int .i64 0,.bool false,.bool false]
theorem M8(a:Option Addr)(n cap:Nat)(w:World)(hn:n<40):
 Calls prog 182 #[.slice a n cap] w λe w'=>e=.returned (.tuple #[Rb,.int .i64 9])/\Below w.heap.size w w':=by
 go_enter func182,ntmps182;go_wp2_with (fail)
 go_returns
 exact⟨rfl,by go_grown⟩
theorem Rc{w:World}{bk o:Nat}{l:List Int}(hc:∀i,i<l.length->w.cell? ⟨bk,o+i,none⟩=some (.int .u8 (l[i]?.getD 0)))(i m c:Nat)(h:i+m<=l.length):
 RB w (.slice (some ⟨bk,o+i,none⟩) m c) ((l.drop i).take m):=by
 have hl:((l.drop i).take m).length=m:=by simp;omega
 refine⟨_,c,by rw[hl],λ_=>⟨bk,o+i,rfl,λj hj=>?_⟩⟩;have:=hc (i+j) (by omega);rw[Nat.add_assoc,this];simp[List.getElem?_take,show j<m by omega]
def Re(w:World)(g:Nat):Prop:=xB w g ⟨#[]⟩ ⟨#[]⟩ 0 0 0 0 false false/\∀j,w.frozen? ⟨g,j,none⟩=false
theorem GN(w:World):Re (w.alloc (.cells #[.string ⟨#[]⟩,.int .u32 0,.string ⟨#[]⟩,.int .i64 0,.int .u64 0,.int .i64 0,.bool false,.bool false] 50)) w.heap.size:=
 ⟨ql w ⟨#[]⟩ ⟨#[]⟩ 0 0 0 0 false false,λj=>by simp[go_sem]⟩
theorem Cf{w:World}{a:Option Addr}{c m:Nat}{l:List Int}(h:m=0):RB w (.slice a m c) (l.take m):=by
 subst h;exact⟨a,c,by simp,λhne=>absurd (by simp) hne⟩
theorem xH(bk o n cap kz vz x y:Nat)(l:List Int)(w:World)(hln:l.length=n)(hn:40<=n)(hcap:n<=cap)(hcm:cap<=maxLen)(hb:P.Bytes l)
 (hc:∀i,i<n->w.cell? ⟨bk,o+i,none⟩=some (.int .u8 (l[i]?.getD 0)))
 (h1:l[1]?.getD 0<=3) (h2:l[2]?.getD 0=0) (h3:l[3]?.getD 0=0) (hx:(if cap=40 then (some ⟨bk,o,none⟩:Option Addr) else some ⟨bk,o+40,none⟩)=some ⟨bk,x,none⟩) (hy:(if cap-40=kz then (some ⟨bk,x,none⟩:Option Addr) else some ⟨bk,x+kz,none⟩)=some ⟨bk,y,none⟩) (hxk:kz=0\/x=o+40) (hyk:vz=0\/y=o+(40+kz)) (hkz:l[0]?.getD 0=(kz:Int)) (Ai:P.num ((l.drop 8).take 8)=(vz:Int)) (hv:vz<=65536) (hfit:kz+vz<=n-40):
 Calls prog 182 #[.slice (some ⟨bk,o,none⟩) n cap] w (dJ l w):=by
 have Aj:bk<w.heap.size:=World.block_lt_of_cell? _ _ (hc 0 (by omega));have c0:=hc 0 (by omega);rw[hkz] at c0;have c1:=hc 1 (by omega);have c2:=hc 2 (by omega);have c3:=hc 3 (by omega);have a0:=(hb.at 0).2;rw[hkz] at a0;obtain⟨a1,a1'⟩:=hb.at 1;have h2':(l[2]?.getD 0 !=0)=false:=by simp[h2]
 have h3':(l[3]?.getD 0 !=0)=false:=by simp[h3]
 have Hc:=hid hc;have H2:=hid h2;have H3:=hid h3;have QU:=hid hln;have Y9:=hid Ai;have Hkz:=hid hkz;have hnm:n<=9223372036854775807:=by unfold maxLen at hcm;omega
 have i16:(16:Int)<=(n:Int):=by omega
 have i8:(8:Int)<=(n:Int):=by omega
 have i40:(40:Int)<=(n:Int):=by omega
 have m40:40<=n:=hn;have Y_:16<=cap:=by omega
 have r8:¬cap=8:=by omega
 have hlow:∀(W:World),Below w.heap.size w W->∀(i m c:Nat),i+m<=n->RB W (.slice (some ⟨bk,o+i,none⟩) m c) ((l.drop i).take m):=
  λW hW i m c him=>(Rc (by rw[hln];exact hc) i m c (by rw[hln];exact him)).below hW
 have rq:=hid hlow;clear hlow;have Vb:((l.drop 8).take 8).length<=8:=by simp;omega
 have DR:=(hb.drop 8).take 8;have XI:=hid Vb;have XJ:=hid DR;have Hb:=hid hb;clear Vb DR hb;clear hc hln h2 h3 hkz Ai;simp only[Nat.add_zero] at c0;go_enter func182,ntmps182;go_wp2_with (fail)
 have hW0:Below w.heap.size w (w.alloc (.cells #[.string ⟨#[]⟩,.int .u32 0,.string ⟨#[]⟩,.int .i64 0,.int .u64 0,.int .i64 0,.bool false,.bool false] 50)):=(Below.refl _ _).alloc (Nat.le_refl _) _;have HW0:=hid hW0;clear hW0;go_quiet ((go_at_call 232;exact Calls.quiet_of_same (Va Y9.out (rq.out _ (below_drewN HW0.out _) 8 8 _ (by omega)) XJ.out XI.out)))
 have HW1:=hid (below_drewN HW0.out nq);have hzb:=GN w;have Vd:Re ((w.alloc (.cells #[.string ⟨#[]⟩,.int .u32 0,.string ⟨#[]⟩,.int .i64 0,.int .u64 0,.int .i64 0,.bool false,.bool false] 50)).drewN nq) w.heap.size:=hzb;generalize (w.alloc (.cells #[.string ⟨#[]⟩,.int .u32 0,.string ⟨#[]⟩,.int .i64 0,.int .u64 0,.int .i64 0,.bool false,.bool false] 50)).drewN nq=W1 at*;clear hzb;have Hzb:=hid Vd;clear Vd;have c0w:=(HW1.out.cell (p:=⟨bk,o,none⟩) Aj).trans c0;go_wp2_with (fail)
 go_quiet (fail)
 go_wp2_with (fail)
 have HW2:=hid (below_drewN HW1.out nq);have Rf:Hid (Re (W1.drewN nq) w.heap.size):=Hzb;generalize W1.drewN nq=W2 at*;clear HW1 Hzb;have r4:¬cap=4:=by omega
 have r16:¬cap=16:=by omega
 have r24:¬cap=24:=by omega
 have r32:¬cap=32:=by omega
 have j4:(4:Int)<=(n:Int):=by omega
 have j24:(24:Int)<=(n:Int):=by omega
 have j32:(32:Int)<=(n:Int):=by omega
 have d1:=(rq.out W2 HW2.out 4 4 (cap-4) (by omega));have d2:=(rq.out W2 HW2.out 16 8 (cap-16) (by omega));have d3:=(rq.out W2 HW2.out 24 8 (cap-24) (by omega));have d4:=(rq.out W2 HW2.out 32 8 (cap-32) (by omega));have e1:W2.cell? ⟨bk,o+1,none⟩=some (.int .u8 (l[1]?.getD 0)):=(HW2.out.cell (p:=⟨bk,o+1,none⟩) Aj).trans c1;have n4:8<=cap:=by omega
 have n24:24<=cap:=by omega
 have n32:32<=cap:=by omega
 have n40:40<=cap:=by omega
 have n4i:(8:Int)<=(cap:Int):=by omega
 have adM:(24:Int)<=(cap:Int):=by omega
 have adN:(32:Int)<=(cap:Int):=by omega
 have adO:(40:Int)<=(cap:Int):=by omega
 have hS:∀W,Below w.heap.size w W->(convert 118 9 (.slice (some ⟨bk,x,none⟩) kz (cap-40))).run prog W=.ok (.string (strOfNums ((l.drop 40).take kz))) W/\
  (convert 118 9 (.slice (some ⟨bk,y,none⟩) vz (cap-40-kz))).run prog W=.ok (.string (strOfNums ((l.drop (40+kz)).take vz))) W/\W.cell? ⟨bk,o+1,none⟩=some (.int .u8 (l[1]?.getD 0)):=λW hW=>
  ⟨Cc (by rcases hxk with h|h
          ·exact Cf h
          ·rw[h];exact rq.out W hW 40 kz _ (by omega)),
   Cc (by rcases hyk with h|h
          ·exact Cf h
          ·rw[h];exact rq.out W hW (40+kz) vz (cap-40-kz) (by omega)),(hW.cell (p:=⟨bk,o+1,none⟩) Aj).trans c1⟩
 have HS:=hid hS;clear hS d1 d2 d3 d4;have sU:=HW2.out.size;obtain⟨sK,Q_⟩:∃sK,sK=strOfNums ((l.drop 40).take kz):=⟨_,rfl⟩;obtain⟨sV,Ra⟩:∃sV,sV=strOfNums ((l.drop (40+kz)).take vz):=⟨_,rfl⟩;rw[<-Q_,<-Ra] at HS;have Za:=hid Q_;have Zb:=hid Ra;clear Q_ Ra;go_region_held3 (λw'=>(convert 118 9 (.slice (some ⟨bk,x,none⟩) kz (cap-40))).run prog w'=.ok (.string sK) w'/\(convert 118 9 (.slice (some ⟨bk,y,none⟩) vz (cap-40-kz))).run prog w'=.ok (.string sV) w'/\w'.cell? ⟨bk,o+1,none⟩=some (.int .u8 (l[1]?.getD 0))) (first|exact HS.out _ HW2.out|exact HS.out _ HW2.out.drew|exact HS.out _ (HW2.out.alloc sU _)|exact HS.out _ (HW2.out.alloc sU _).drew) (first|(go_at_call 232;(with_reducible refine(ig ((l.drop 4).take 4) (.slice (some ⟨bk,o+4,none⟩) 4 (cap-4)) _ (rq.out _ (by first|exact HW2.out|exact HW2.out.drew|exact HW2.out.alloc sU _|exact(HW2.out.alloc sU _).drew) 4 4 _ (by omega)) ((Hb.out.drop 4).take 4) (by simp;omega)).mono ?_);rintro e w' ⟨rfl,rfl⟩)|(go_at_call 232;(with_reducible refine(ig ((l.drop 16).take 8) (.slice (some ⟨bk,o+16,none⟩) 8 (cap-16)) _ (rq.out _ (by first|exact HW2.out|exact HW2.out.drew|exact HW2.out.alloc sU _|exact(HW2.out.alloc sU _).drew) 16 8 _ (by omega)) ((Hb.out.drop 16).take 8) (by simp;omega)).mono ?_);rintro e w' ⟨rfl,rfl⟩)|(go_at_call 232;(with_reducible refine(ig ((l.drop 24).take 8) (.slice (some ⟨bk,o+24,none⟩) 8 (cap-24)) _ (rq.out _ (by first|exact HW2.out|exact HW2.out.drew|exact HW2.out.alloc sU _|exact(HW2.out.alloc sU _).drew) 24 8 _ (by omega)) ((Hb.out.drop 24).take 8) (by simp;omega)).mono ?_);rintro e w' ⟨rfl,rfl⟩)|(go_at_call 232;(with_reducible refine(ig ((l.drop 32).take 8) (.slice (some ⟨bk,o+32,none⟩) 8 (cap-32)) _ (rq.out _ (by first|exact HW2.out|exact HW2.out.drew|exact HW2.out.alloc sU _|exact(HW2.out.alloc sU _).drew) 32 8 _ (by omega)) ((Hb.out.drop 32).take 8) (by simp;omega)).mono ?_);rintro e w' ⟨rfl,rfl⟩))
 all_goals (go_wp2_with (fail))
 all_goals
  refine(t_ sK sV _ _ _ _ _ _ _ (by have:=Za.out;rw[this,strOfNums_size];unfold maxLen;simp;omega) (by have:=Zb.out;rw[this,strOfNums_size];unfold maxLen;simp;omega)).mono ?_;rintro e w3 ⟨rfl,hb3⟩;have hz0:=Rf.out.1.2.2.2.2.2.2.2.2;have M9:=(((Below.refl W2.heap.size W2).alloc (Nat.le_refl _) _).drew).trans (hb3.mono (B':=W2.heap.size) (by simp));have hz3:=Rf.out.1.below M9 hz0;have hx3:=(show xB (W2.alloc _).drew W2.heap.size _ _ _ _ _ _ _ _ from ql W2 _ _ _ _ _ _ _ _).below hb3 (by simp);have Hz3:=hid hz3;obtain⟨z0,z1,z2,z3,z4,z5,z6,z7,zl⟩:=hz3;obtain⟨x0,x1,x2,x3,x4,x5,x6,x7,xl⟩:=hx3;have hfz:∀j,w3.frozen? ⟨w.heap.size,j,none⟩=false:=λj=>(M9.frozen (p:=⟨w.heap.size,j,none⟩) hz0).trans (Rf.out.2 j)
  have f0:=hfz 0;have f1:=hfz 1;have f2:=hfz 2;have f3:=hfz 3;have f4:=hfz 4;have f5:=hfz 5;have f6:=hfz 6;have f7:=hfz 7;have Ve:Below w.heap.size w w3:=HW2.out.trans (M9.mono (Nat.le_of_lt hz0));clear hfz hb3 M9;cases hrb:dm sK sV (wrap64 (P.num ((l.drop 16).take 8))) (wrap64 (P.num ((l.drop 32).take 8)))
  ·have Rh:=hid (xE QU.out hn Hb.out h1 H2.out H3.out Hkz.out Y9.out hv hfit Za.out Zb.out hrb);clear hrb;go_wp2_with (fail)
   exact mo rfl rfl rfl (qm Hz3.out) (eP Rh.out (iU Ve (Nat.le_refl _)))
  ·have Rh:=hid (xE QU.out hn Hb.out h1 H2.out H3.out Hkz.out Y9.out hv hfit Za.out Zb.out hrb);clear hrb;go_wp2_with (fail)
   exact mo rfl rfl rfl (qm Hz3.out) (xG Rh.out (iU Ve (Nat.le_refl _)))
theorem PZ{l:List Int}{v:Value}{w:World}{z:Int}(hz:P.num l=z)(hr:RB w v l)(hb:P.Bytes l)(hl:l.length<=8):
 Calls prog 232 #[v] w λe w'=>e=.returned (.int .u64 z)/\w'=w:=by
 subst hz;exact(ig l v w hr hb hl).mono λ_ _ ⟨h1,h2⟩=>⟨h1,h2.symm⟩
theorem M_{w:World}{bk o:Nat}{l:List Int}(hc:∀i,i<l.length->w.cell? ⟨bk,o+i,none⟩=some (.int .u8 (l[i]?.getD 0)))(i m c:Nat)(h:i+m<=l.length):
 RB w (.slice (some ⟨bk,o+i,none⟩) m c) (sub l i m):=by
 have hl:(sub l i m).length=m:=Ce h;refine⟨_,c,by rw[hl],λ_=>⟨bk,o+i,rfl,λj hj=>?_⟩⟩;have:=hc (i+j) (by omega);rw[Nat.add_assoc,this];unfold sub;simp[List.getElem?_take,show j<m by omega]
theorem xI(w:World):xB (w.alloc (.cells #[.string ⟨#[]⟩,.int .u32 0,.string ⟨#[]⟩,.int .i64 0,.int .u64 0,.int .i64 0,.bool false,.bool false] 50)) w.heap.size ⟨#[]⟩ ⟨#[]⟩ 0 0 0 0 false false:=
 ql w ⟨#[]⟩ ⟨#[]⟩ 0 0 0 0 false false
theorem kE(w:World)(o:Obj):Below w.heap.size w (w.alloc o):=(Below.refl _ _).alloc (Nat.le_refl _) _
theorem xJ{l:List Int}(h:l.length<40):lC l=uX/\lD l=9:=
 ik (by unfold iR;exact decide_eq_false (λhh=>by omega))
theorem uY{l:List Int}(h:(3:Int)<l[1]?.getD 0\/l[2]?.getD 0≠0\/l[3]?.getD 0≠0):lC l=uX/\lD l=9:=
 ik (by unfold iR;exact decide_eq_false (λ⟨_,h1,h2,h3,_⟩=>by rcases h with h|h|h<;>omega))
theorem xK{l:List Int}(h:65536<P.num (sub l 8 8)):lC l=uX/\lD l=9:=
 ik (by unfold iR;exact decide_eq_false (λ⟨_,h1,h2,h3,h4,_⟩=>by omega))
theorem xL{l:List Int}{n kz vz:Nat}(hln:l.length=n)(hkz:l[0]?.getD 0=(kz:Int))(Ai:P.num (sub l 8 8)=(vz:Int))(h:n<40+kz+vz):lC l=uX/\lD l=9:=by
 refine ik ?_;unfold iR;refine decide_eq_false (λ⟨_,h1,h2,h3,h4,h5⟩=>?_);have e1:jQ l=kz:=by unfold jQ;rw[hkz];rfl
 have e2:kU l=vz:=by unfold kU;rw[Ai];rfl
 omega
theorem decode_len(a:Option Addr)(n cap:Nat)(l:List Int)(w:World)(hln:l.length=n)(hn:n<40):
 Calls prog 182 #[.slice a n cap] w (dJ l w):=by
 have Hr:=hid (xJ (l:=l) (by omega));clear hln;go_enter func182,ntmps182;go_wp2_with (fail)
 go_returns
 exact eP Hr.out (by go_grown)
theorem xM(bk o n cap:Nat)(l:List Int)(w:World)(hln:l.length=n)(hn:40<=n)(hcap:n<=cap)(hcm:cap<=maxLen)(hb:P.Bytes l)
 (hc:∀i,i<n->w.cell? ⟨bk,o+i,none⟩=some (.int .u8 (l[i]?.getD 0))) (h:(3:Int)<l[1]?.getD 0\/l[2]?.getD 0≠0\/l[3]?.getD 0≠0):
 Calls prog 182 #[.slice (some ⟨bk,o,none⟩) n cap] w (dJ l w):=by
 have Hr:=hid (uY h);have Aj:bk<w.heap.size:=World.block_lt_of_cell? _ _ (hc 0 (by omega));have c1:=hc 1 (by omega);have c2:=hc 2 (by omega);have c3:=hc 3 (by omega);have hnm:n<=9223372036854775807:=by unfold maxLen at hcm;omega
 have i40:(40:Int)<=(n:Int):=by omega
 obtain⟨a1,a1'⟩:=hb.at 1;clear hc hln;by_cases h1:l[1]?.getD 0<=3
 ·by_cases h2:l[2]?.getD 0=0
  ·have h3:¬l[3]?.getD 0=0:=by omega
   have h2':(l[2]?.getD 0 !=0)=false:=by simp[h2]
   have h3':(l[3]?.getD 0 !=0)=true:=by simp[h3]
   clear h2 h3 h;go_enter func182,ntmps182;go_wp2_with (fail)
   go_returns
   exact eP Hr.out (by go_grown)
  ·have h2':(l[2]?.getD 0 !=0)=true:=by simp[h2]
   clear h2 h;go_enter func182,ntmps182;go_wp2_with (fail)
   go_returns
   exact eP Hr.out (by go_grown)
 ·clear h;go_enter func182,ntmps182;go_wp2_with (fail)
  go_returns
  exact eP Hr.out (by go_grown)
theorem Ak(bk o n cap kz x:Nat)(z:Int)(l:List Int)(w:World)(hln:l.length=n)(hn:40<=n)(hcap:n<=cap)(hcm:cap<=maxLen)(hb:P.Bytes l)
 (hc:∀i,i<n->w.cell? ⟨bk,o+i,none⟩=some (.int .u8 (l[i]?.getD 0)))
 (h1:l[1]?.getD 0<=3) (h2:l[2]?.getD 0=0) (h3:l[3]?.getD 0=0) (hx:(if cap=40 then (some ⟨bk,o,none⟩:Option Addr) else some ⟨bk,o+40,none⟩)=some ⟨bk,x,none⟩) (hkz:l[0]?.getD 0=(kz:Int)) (hz:P.num (sub l 8 8)=z) (hfit:65536<z\/(n:Int)-40<(kz:Int)+z):
 Calls prog 182 #[.slice (some ⟨bk,o,none⟩) n cap] w (dJ l w):=by
 have hz0:0<=z:=by rw[<-hz];exact(P.kD _ ((hb.drop 8).take 8)).1
 have Hr:Hid (lC l=uX/\lD l=9):=by
  rcases hfit with h|h
  ·exact hid (xK (by omega))
  ·obtain⟨vz,rfl⟩:=Int.eq_ofNat_of_zero_le hz0;exact hid (xL hln hkz hz (by omega))
 have Aj:bk<w.heap.size:=World.block_lt_of_cell? _ _ (hc 0 (by omega));have c0:=hc 0 (by omega);rw[hkz] at c0;have c1:=hc 1 (by omega);have c2:=hc 2 (by omega);have c3:=hc 3 (by omega);have a0:=(hb.at 0).2;rw[hkz] at a0;obtain⟨a1,a1'⟩:=hb.at 1;have h2':(l[2]?.getD 0 !=0)=false:=by simp[h2]
 have h3':(l[3]?.getD 0 !=0)=false:=by simp[h3]
 have hnm:n<=9223372036854775807:=by unfold maxLen at hcm;omega
 have i16:(16:Int)<=(n:Int):=by omega
 have i8:(8:Int)<=(n:Int):=by omega
 have i40:(40:Int)<=(n:Int):=by omega
 have m40:40<=n:=hn;have Y_:16<=cap:=by omega
 have r8:¬cap=8:=by omega
 have hrb:=M_ (by rw[hln];exact hc) 8 8 (cap-8) (by rw[hln];omega);have Vb:(sub l 8 8).length<=8:=by rw[Ce (by omega)];omega
 have XI:=hid Vb;have XJ:Hid (P.Bytes (sub l 8 8)):=hid ((hb.drop 8).take 8);have QG:=hid hrb;have Hz:=hid hz;clear Vb hrb hc hln h2 h3 hkz hz hb;simp only[Nat.add_zero] at c0;by_cases hbig:65536<z
 ·clear hfit;go_enter func182,ntmps182;go_wp2_with (fail)
  go_quiet ((go_at_call 232;exact Calls.quiet_of_same (PZ Hz.out (QG.out.below (below_drewN (kE w _) _)) XJ.out XI.out)))
  have HW1:=hid (below_drewN (kE w (.cells #[.string ⟨#[]⟩,.int .u32 0,.string ⟨#[]⟩,.int .i64 0,.int .u64 0,.int .i64 0,.bool false,.bool false] 50)) nq);have Vf:Hid (xB ((w.alloc (.cells #[.string ⟨#[]⟩,.int .u32 0,.string ⟨#[]⟩,.int .i64 0,.int .u64 0,.int .i64 0,.bool false,.bool false] 50)).drewN nq) w.heap.size ⟨#[]⟩ ⟨#[]⟩ 0 0 0 0 false false):=hid (xI w);have Hf1:Hid (∀j,((w.alloc (.cells #[.string ⟨#[]⟩,.int .u32 0,.string ⟨#[]⟩,.int .i64 0,.int .u64 0,.int .i64 0,.bool false,.bool false] 50)).drewN nq).frozen? ⟨w.heap.size,j,none⟩=false):=hid (λj=>by simp[go_sem]);generalize (w.alloc (.cells #[.string ⟨#[]⟩,.int .u32 0,.string ⟨#[]⟩,.int .i64 0,.int .u64 0,.int .i64 0,.bool false,.bool false] 50)).drewN nq=W1 at*;have c0w:=(HW1.out.cell (p:=⟨bk,o,none⟩) Aj).trans c0;obtain⟨z0,z1,z2,z3,z4,z5,z6,z7,zl⟩:=Vf.out;have f0:=Hf1.out 0;have f1:=Hf1.out 1;have f2:=Hf1.out 2;have f3:=Hf1.out 3;have f4:=Hf1.out 4;have f5:=Hf1.out 5;have f6:=Hf1.out 6;have f7:=Hf1.out 7;go_wp2_with (fail)
  exact mo rfl rfl rfl (qm Vf.out) (eP Hr.out (iU HW1.out (Nat.le_refl _)))
 ·have hf:(n:Int)-40<(kz:Int)+z:=by omega
  clear hfit;go_enter func182,ntmps182;go_wp2_with (fail)
  go_quiet ((go_at_call 232;exact Calls.quiet_of_same (PZ Hz.out (QG.out.below (below_drewN (kE w _) _)) XJ.out XI.out)))
  have HW1:=hid (below_drewN (kE w (.cells #[.string ⟨#[]⟩,.int .u32 0,.string ⟨#[]⟩,.int .i64 0,.int .u64 0,.int .i64 0,.bool false,.bool false] 50)) nq);have Vf:Hid (xB ((w.alloc (.cells #[.string ⟨#[]⟩,.int .u32 0,.string ⟨#[]⟩,.int .i64 0,.int .u64 0,.int .i64 0,.bool false,.bool false] 50)).drewN nq) w.heap.size ⟨#[]⟩ ⟨#[]⟩ 0 0 0 0 false false):=hid (xI w);have Hf1:Hid (∀j,((w.alloc (.cells #[.string ⟨#[]⟩,.int .u32 0,.string ⟨#[]⟩,.int .i64 0,.int .u64 0,.int .i64 0,.bool false,.bool false] 50)).drewN nq).frozen? ⟨w.heap.size,j,none⟩=false):=hid (λj=>by simp[go_sem]);generalize (w.alloc (.cells #[.string ⟨#[]⟩,.int .u32 0,.string ⟨#[]⟩,.int .i64 0,.int .u64 0,.int .i64 0,.bool false,.bool false] 50)).drewN nq=W1 at*;have c0w:=(HW1.out.cell (p:=⟨bk,o,none⟩) Aj).trans c0;obtain⟨z0,z1,z2,z3,z4,z5,z6,z7,zl⟩:=Vf.out;have f0:=Hf1.out 0;have f1:=Hf1.out 1;have f2:=Hf1.out 2;have f3:=Hf1.out 3;have f4:=Hf1.out 4;have f5:=Hf1.out 5;have f6:=Hf1.out 6;have f7:=Hf1.out 7;go_wp2_with (fail)
  exact mo rfl rfl rfl (qm Vf.out) (eP Hr.out (iU HW1.out (Nat.le_refl _)))
theorem Al(l:List Int)(a:Option Addr)(n cap:Nat)(w:World)(hr:RB w (.slice a n cap) l)(hcap:n<=cap)(hcm:cap<=maxLen)(hb:P.Bytes l):
 Calls prog 182 #[.slice a n cap] w (dJ l w):=by
 obtain⟨a',cap',e,hc⟩:=hr;simp only[Value.slice.injEq] at e;obtain⟨rfl,hln,rfl⟩:=e;by_cases h40:n<40
 ·exact decode_len _ _ _ l w hln.symm h40
 obtain⟨bk,o,rfl,hcc⟩:=hc (by intro h;rw[h] at hln;simp at hln;omega);rw[<-hln] at hcc;by_cases Vg:(3:Int)<l[1]?.getD 0\/l[2]?.getD 0≠0\/l[3]?.getD 0≠0
 ·exact xM bk o n cap l w hln.symm (by omega) hcap hcm hb hcc Vg
 have h1:l[1]?.getD 0<=3:=by omega
 have h2:l[2]?.getD 0=0:=by omega
 have h3:l[3]?.getD 0=0:=by omega
 obtain⟨kz,hkz⟩:=Int.eq_ofNat_of_zero_le (hb.at 0).1;obtain⟨vz,Ai⟩:=Int.eq_ofNat_of_zero_le (P.kD _ ((hb.drop 8).take 8)).1;have hx:(if cap=40 then (some ⟨bk,o,none⟩:Option Addr) else some ⟨bk,o+40,none⟩)=some ⟨bk,if cap=40 then o else o+40,none⟩:=by split<;>rfl
 by_cases hfit:(65536:Int)<vz\/(n:Int)-40<(kz:Int)+vz
 ·exact Ak bk o n cap kz _ vz l w hln.symm (by omega) hcap hcm hb hcc h1 h2 h3 hx hkz Ai hfit
 generalize Zc:(if cap=40 then o else o+40)=x at hx;have hy:(if cap-40=kz then (some ⟨bk,x,none⟩:Option Addr) else some ⟨bk,x+kz,none⟩)=some ⟨bk,if cap-40=kz then x else x+kz,none⟩:=by split<;>rfl
 refine xH bk o n cap kz vz x _ l w hln.symm (by omega) hcap hcm hb hcc h1 h2 h3 hx hy ?_ ?_ hkz Ai (by omega) (by omega)
 ·by_cases h:cap=40
  ·exact .inl (by omega)
  ·exact .inr (by rw[<-Zc,if_neg h])
 ·by_cases h:cap=40
  ·exact .inl (by omega)
  ·rw[if_neg h] at Zc;by_cases h':cap-40=kz
   ·exact .inl (by omega)
   ·exact .inr (by rw[if_neg h',<-Zc];omega)
end Go.Proofs.YtboehbfagnocpaaGreatDoor.I8
