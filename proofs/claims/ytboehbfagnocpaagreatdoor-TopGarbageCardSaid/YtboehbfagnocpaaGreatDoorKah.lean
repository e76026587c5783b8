import Derived.Test.YtboehbfagnocpaaGreatDoorKad
set_option linter.unusedVariables false
set_option linter.unusedSimpArgs false
set_option maxRecDepth 100000
set_option maxHeartbeats 40000000
open Go.Proofs.Tryz
open Go.Lib (hid)
namespace Go.Proofs.YtboehbfagnocpaaGreatDoor
open Go.RowKit Go.PlainAid Go.Shelf
theorem si:Elem 119 50 8 72:=⟨underlying119,⟨.agg #[.string ⟨#[]⟩,.int .u32 0,.string ⟨#[]⟩,.int .i64 0,.int .u64 0,.int .i64 0,.bool false,.bool false],by kernel_rfl,by kernel_rfl⟩,by decide⟩
def nW(k:ByteArray)(fl:Int)(v:ByteArray)(ca la:Int):List Value:=[.string k,.int .u32 fl,.string v,.int .i64 0,.int .u64 ca,.int .i64 la,.bool false,.bool false]
def lL(k:ByteArray)(fl:Int)(v:ByteArray)(ca la:Int):Value:=.agg #[.string k,.int .u32 fl,.string v,.int .i64 0,.int .u64 ca,.int .i64 la,.bool false,.bool false]
def dw(g cap:Nat)(k:ByteArray)(fl:Int)(v:ByteArray)(ca la:Int):aT:=rowAt (.slice (some ⟨g,0,none⟩) 1 cap) 50 8 1 (nW k fl v ca la)
section
variable{T E size bytes:Nat}{W:World}{v:Value}{n:Nat}{xs news:List Value}
theorem yI{ops:Array Oper}{rest:List Oper}{o:Oper}{a:Act}{Q:Exit->Act->World->Prop}(X:Elem T E size bytes)(hgd:o.guard=none)(s x:Operand)(p:Addr)(c:Nat)
 (ho:o.op=.call {callee:=.builtin .append,args:=#[s,x],argTypes:=#[T,T]}) (hs:a.eval s=v) (hr:(rowAt v E size n xs).R W)
 (hx:a.eval x=.slice (some p) 1 c) (hl:news.length=size) (hnews:∀j u,news[j]?=some u->W.cell? (p.add j)=some u) (h1:∀u∈news,u.oneCell'=true) (hn:n+1<=100000000) (hb:bytes<=100000)
 (h:∀g cap w',ag (rowAt v E size n xs) (rowAt (.slice (some ⟨g,0,none⟩) (n+1) cap) E size (n+1) (xs ++ news)) W w'->wpList prog ops Q rest (a.put o.dst (.slice (some ⟨g,0,none⟩) (n+1) cap)) w'):
 wpList prog ops Q (o :: rest) a W:=by
 obtain⟨z,hi,hzs⟩:=X.hi;obtain⟨i0,hi0,hz0,hz1,hz2⟩:=info_parts hi;refine wpList_append_lies W hgd s x T ho 0 E i0 z size bytes X.ht hi0 hz0 hz1 hz2 hzs X.pos v n xs hs hr p 1 c news hx (by omega) hnews h1 (by omega) (by unfold maxLen;omega) ?_ (Nat.zero_le _) W.heap.size rfl ?_
 ·have:(n+1)*bytes<=100000000*100000:=Nat.mul_le_mul hn hb;omega
 ·intro g cap w' ho' hg hnw hlt;refine h g cap w' ⟨ho',aP.bC hg,λb hb=>?_⟩;have hb:some g=some b:=hb;cases hb;rcases hnw with h2|h2
  ·exact .inl h2
  ·exact .inr (by omega)
end
theorem nX(w:World)(E size:Nat):Made (rowAt (.slice (some ⟨w.heap.size,0,none⟩) 0 0) E size 0 []) w (w.alloc (.cells #[] E)):=
 ⟨⟨by simp,.inr ⟨w.heap.size,0,#[],rfl,Nat.zero_le _,heap_alloc_new w _,Nat.le_refl _,by decide,by simp,by simp⟩⟩,bA w _,λb hb=>by have e:some w.heap.size=some b:=hb;cases e;exact Nat.le_refl _⟩
theorem Jn(w:World):Calls prog 101 #[.slice none 0 0] w λe w'=>e=.returned (.slice none 0 0)/\w=w':=by
 have qT:∀(w:World) (a:Option Addr) (n c n' c':Nat),(binOp .eql 119 (.slice a n c) (.slice none n' c')).run prog w=.ok (.bool (a.isNone)) w:=λw a n c n' c'=>Lib.run_eql_slice_nil w _ _ a n c n' c' underlying119
 go_enter func101,ntmps101;go_wp2
 go_ret;exact⟨rfl,rfl⟩
theorem Jo{w:World}{xb c:Nat}{k v:ByteArray}{fl ca la:Int}(hc:∀j u,(nW k fl v ca la)[j]?=some u->w.cell? ⟨xb,j,none⟩=some u):
 Calls prog 101 #[.slice (some ⟨xb,0,none⟩) 1 c] w λe w'=> ∃g cap,e=.returned (.slice (some ⟨g,0,none⟩) 1 cap)/\Made (dw g cap k fl v ca la) w w':=by
 have qT:∀(w:World) (a:Option Addr) (n c n' c':Nat),(binOp .eql 119 (.slice a n c) (.slice none n' c')).run prog w=.ok (.bool (a.isNone)) w:=λw a n c n' c'=>Lib.run_eql_slice_nil w _ _ a n c n' c' underlying119
 have hxb:xb<w.heap.size:=aL (hc 0 _ rfl);have M0:=nX w 50 8;have hc':∀j u,(nW k fl v ca la)[j]?=some u->(w.alloc (.cells #[] 50)).cell? ((⟨xb,0,none⟩:Addr).add j)=some u:=λj u hj=>by
  have h:=((bA w (.cells #[] 50)).cell (p:=⟨xb,j,none⟩) hxb).trans (hc j u hj);cases j<;>simpa[Addr.add] using h
 have HC:=hid hc';clear hc hc';go_enter func101,ntmps101;go_wp2_with (at_builtin;go_must (refine yI si rfl _ _ ⟨xb,0,none⟩ c rfl rfl M0.here rfl (by rfl) HC.out (by simp[nW,Value.oneCell']) (by omega) (by omega) ?_))
 intro g cap w2 ht;go_wp2
 go_ret;exact⟨g,cap,rfl,M0.turn ht⟩
theorem R3(w:World)(fv:Value):Calls prog 165 #[.slice none 0 0,fv] w λe w'=>e=.returned (.int .i64 (-1))/\w=w':=by
 go_enter func165,ntmps165;go_wp2
 go_loop [8] (λi=>i=.int .i64 0) (λ_=>0)
 case atStart=>rfl
 case round=>
  subst hrel;go_wp2
  go_ret;exact⟨rfl,rfl⟩
theorem R4{w:World}{g cap nb:Nat}{k v:ByteArray}{fl ca la:Int}(hr:(dw g cap k fl v ca la).R w)(hnb:w.cell? ⟨nb,0,none⟩=some (.int .i64 1)):
 Calls prog 165 #[.slice (some ⟨g,0,none⟩) 1 cap,.func (.func 102) #[] #[.pointer (some ⟨nb,0,none⟩)]] w λe w'=>e=.returned (.int .i64 (-1))/\Below w.heap.size w w':=by
 obtain⟨k0,k1,k2,k3,k4,k5,k6,k7⟩:Qd w g (.string k) (.int .u32 fl) (.string v) (.int .i64 0) (.int .u64 ca) (.int .i64 la) (.bool false) (.bool false):=Ay (hr);have hnl:=aL hnb;have hnb':=((bA w (.cells #[.string k,.int .u32 fl,.string v,.int .i64 0,.int .u64 ca,.int .i64 la,.bool false,.bool false] 50)).cell (p:=⟨nb,0,none⟩) hnl).trans hnb;clear hr;go_enter func165,ntmps165;go_wp2
 go_loopw [8] (λi wr=>(i=.int .i64 0/\wr=w)\/(i=.int .i64 1/\Hid (Below w.heap.size w wr))) (λi _=>1-(intOf i).toNat)
 case atStart=>exact .inl ⟨rfl,rfl⟩
 case round=>
  rcases hrel with ⟨rfl,hr⟩|⟨rfl,hb⟩
  ·subst hr;go_wp2
   go_roundw;case rel=>exact .inr ⟨by first|rfl|trivial|simp,hid (bA _ _)⟩
   case measure=>simp[intOf]
  ·go_wp2
   go_ret;exact⟨rfl,hb.out⟩
theorem R6(w:World)(fv:Value):Calls prog 100 #[.slice none 0 0,fv] w λe w'=>e=.returned (.slice none 0 0)/\w=w':=by
 have H:=hid (R3 w fv);go_enter func100,ntmps100;go_wp2_with (go_at_call 165;refine H.out.mono ?_;rintro e w1 ⟨rfl,rfl⟩)
 go_ret;exact⟨rfl,rfl⟩
theorem R7{w:World}{g cap nb:Nat}{k v:ByteArray}{fl ca la:Int}(hr:(dw g cap k fl v ca la).R w)(hnb:w.cell? ⟨nb,0,none⟩=some (.int .i64 1)):
 Calls prog 100 #[.slice (some ⟨g,0,none⟩) 1 cap,.func (.func 102) #[] #[.pointer (some ⟨nb,0,none⟩)]] w λe w'=>e=.returned (.slice (some ⟨g,0,none⟩) 1 cap)/\Below w.heap.size w w':=by
 have H:=hid (R4 hr hnb);clear hr hnb;go_enter func100,ntmps100;go_wp2_with (go_at_call 165;refine H.out.mono ?_;rintro e w1 ⟨rfl,hb⟩)
 go_ret;exact⟨rfl,hb⟩
theorem Jp{w:World}{g:Nat}(h0:w.cell? ⟨g,0,none⟩=some (.int .i64 0))(h1:w.cell? ⟨g,1,none⟩=some (.int .i64 0))(h2:w.cell? ⟨g,2,none⟩=some (.int .i64 (-1))):
 Calls prog 268 #[.slice (some ⟨g,0,none⟩) 3 3,.func (.func 223) #[] #[]] w λe w'=>e=.returned (.int .i64 (-1))/\w=w':=by
 go_enter func268,ntmps268;go_wp2
 go_loop [8] (λi=>i=.int .i64 0\/i=.int .i64 1\/i=.int .i64 2\/i=.int .i64 3) (λi=>3-(intOf i).toNat)
 case atStart=>exact .inl rfl
 case round=>
  rcases hrel with rfl|rfl|rfl|rfl
  ·go_wp2
   go_round
   case rel=>exact .inr (.inl rfl)
   case measure=>simp[intOf]
  ·go_wp2
   go_round
   case rel=>exact .inr (.inr (.inl rfl))
   case measure=>simp[intOf]
  ·go_wp2
   go_round
   case rel=>exact .inr (.inr (.inr rfl))
   case measure=>simp[intOf]
  ·go_wp2
   go_ret;exact⟨rfl,rfl⟩
theorem Jq{w:World}{g:Nat}(h0:w.cell? ⟨g,0,none⟩=some (.int .i64 0))(h1:w.cell? ⟨g,1,none⟩=some (.int .i64 0))(h2:w.cell? ⟨g,2,none⟩=some (.int .i64 (-1))):
 Calls prog 222 #[.slice (some ⟨g,0,none⟩) 3 3,.func (.func 223) #[] #[]] w λe w'=>e=.returned (.bool false)/\w=w':=by
 have H:=hid (Jp h0 h1 h2);clear h0 h1 h2;go_enter func222,ntmps222;go_wp2_with (go_at_call 268;refine H.out.mono ?_;rintro e w1 ⟨rfl,rfl⟩)
 go_ret;exact⟨rfl,rfl⟩
theorem Oh{w:World}{g:Nat}(h0:w.cell? ⟨g,0,none⟩=some (.int .i64 0))(h1:w.cell? ⟨g,1,none⟩=some (.int .i64 0))(h2:w.cell? ⟨g,2,none⟩=some (.int .i64 (-1))):
 Calls prog 163 #[.slice (some ⟨g,0,none⟩) 3 3] w λe w'=>e=.returned (.bool true)/\w=w':=by
 have H:=hid (Jq h0 h1 h2);clear h0 h1 h2;go_enter func163,ntmps163;go_wp2_with (go_at_call 222;refine H.out.mono ?_;rintro e w1 ⟨rfl,rfl⟩)
 go_ret;exact⟨rfl,rfl⟩
structure AX(c:Cm):Prop where
 op:c.op=1\/c.op=2\/c.op=3
 mode:c.mode=0
 exp:c.exp=0
 Nw:c.aj= -1
 key:W2.aO c.key=true
 ks:c.key.size=1
 vs:c.value.size<=1000
theorem Jr{c:Cm}(hc:AX c)(w:World):Calls prog 99 #[.agg c.vs] w λe w'=>e=.returned (.bool true)/\Below w.heap.size w w':=by
 obtain⟨op,mode,key,value,flags,exp,aF,ah,delta,aj⟩:=c;obtain⟨h1,rfl,rfl,rfl,h5,h6,h7⟩:=hc;have HK:=hid (λw'=>W2.dI key w' (by dsimp only at h6;unfold maxLen;omega));dsimp only at h1 h5 h6 h7;rw[h5] at HK;have h8:(value.size:Int)<=65536:=by omega
 have HN:=hid (λ(W:World) (g:Nat) (a0:W.cell? ⟨g,0,none⟩=some (.int .i64 0)) (a1:W.cell? ⟨g,1,none⟩=some (.int .i64 0)) (a2:W.cell? ⟨g,2,none⟩=some (.int .i64 (-1)))=>Oh a0 a1 a2);clear h5 h6 h7;unfold Cm.vs
 rcases h1 with rfl|rfl|rfl<;>
  (go_enter func99,ntmps99
   go_wp2_with (first
    |(go_at_call 163;refine(HN.out _ _ (by simp[go_sem]) (by simp[go_sem]) (by simp[go_sem])).mono ?_;rintro e w1 ⟨rfl,rfl⟩)
    |(go_at_call 164;refine(HK.out _).mono ?_;rintro e w1 ⟨rfl,rfl⟩))
   go_ret;exact⟨rfl,((Below.refl _ _).alloc (Nat.le_refl _) _).alloc (by simp) _⟩)
def Js(iv:Value)(aF:Int)(c:Cm)(is:Bool):Array Value:=#[iv,.int .u64 aF,.int .i64 0,.int .i64 1,.int .i64 c.op,.int .i64 c.mode,.string c.key,.string c.value,.int .u32 c.flags,.int .i64 c.exp,.bool false,.int .u64 c.aF,.bool c.ah,.int .u64 c.delta,.int .u64 0,.bool false,.bool false,.int .i64 0,.int .i64 c.aj,.bool false,.int .i64 472,.int .i64 0,.bool is]
def Qi(N:Nat)(iv:Value)(aF:Int)(c:Cm)(is:Bool):aT:=aG N (Js iv aF c is) 200
theorem CJ{w:World}{N g cap:Nat}{aF:Int}{c:Cm}{is:Bool}(h:(Qi N (.slice (some ⟨g,0,none⟩) 1 cap) aF c is).R w):
 Calls prog 109 #[.pointer (some ⟨N,0,none⟩)] w λe w'=>e=.returned (.pointer (some ⟨g,0,none⟩))/\∃m,w'=w.drewN m:=by
 have k0:w.cell? ⟨N,0,none⟩=some (.slice (some ⟨g,0,none⟩) 1 cap):=cA h 0;have k1:w.cell? ⟨N,21,none⟩=some (.int .i64 0):=cA h 21;clear h;go_enter func109,ntmps109;go_wp2_with (fail)
 go_quiet (fail)
 go_wp2
 go_ret;exact⟨rfl,_,rfl⟩
theorem Jt(N:Nat)(w:World):Calls prog 108 #[.pointer (some ⟨N,0,none⟩),.int .i64 0] w λe w'=>e=.returned (.int .i64 0)/\w=w':=by
 go_enter func108,ntmps108;go_wp2
 go_ret;exact⟨rfl,rfl⟩
def bH(st:Int):Array Value:=#[.int .i64 st,.string ⟨#[]⟩,.int .u32 0,.string ⟨#[]⟩,.int .i64 0,.int .u64 0,.int .i64 0,.bool false,.bool false,.int .u64 0,.bool false,.bool false,.bool false]
theorem qw{fn:Func}{k:Nat}(hres:fn.results= #[.cell k 52]){R:Ending->World->Prop}{tmps:Array Value}{W:World}{N:Nat}{v0 v1 v2 v3 v4 v5 v6 v7 v8 v9 v10 v11 v12:Value}
 (h2:tmps.getD k undef=.pointer (some ⟨N,0,none⟩)) (hb:(aG N #[v0,v1,v2,v3,v4,v5,v6,v7,v8,v9,v10,v11,v12] 52).R W)
 (hR:R (.returned (.agg #[v0,v1,v2,v3,v4,v5,v6,v7,v8,v9,v10,v11,v12])) W):
 bodyPost prog fn R .ret {tmps:=tmps,defers:=[]} W:=by
 refine bodyPost_ret (v:=.agg #[v0,v1,v2,v3,v4,v5,v6,v7,v8,v9,v10,v11,v12]) ?_ rfl hR;have h2':tmps[k]?.getD undef=.pointer (some ⟨N,0,none⟩):=by simpa using h2
 obtain⟨x0,x1,x2,x3,x4,x5,x6,x7,x8,x9,lJ,R8,R9⟩:rP W N v0 v1 v2 v3 v4 v5 v6 v7 v8 v9 v10 v11 v12:=kW (hb);simp[results,hres,go_sem,h2',x0,x1,x2,x3,x4,x5,x6,x7,x8,x9,lJ,R8,R9]
theorem Oi(st:Int)(w:World):Calls prog 107 #[.int .i64 st] w λe w'=>e=.returned (.agg (bH st))/\Below w.heap.size w w':=by
 have h0:=aA w (bH st) 52;have hb:=bA w (.cells (bH st) 52);go_enter func107,ntmps107;go_wp2
 exact qw (N:=w.heap.size) rfl rfl h0 ⟨rfl,hb⟩
theorem VQ(key:ByteArray)(fv:Value)(w:World):Calls prog 166 #[.slice none 0 0,.string key,fv] w λe w'=>e=.returned (.tuple #[.int .i64 0,.bool false])/\w'=w:=by
 go_enter func166,ntmps166;go_wp2
 go_loop [9,10] (λa b=>a=.int .i64 0/\b=.int .i64 0) (λ_ _=>0)
 case atStart=>exact⟨rfl,rfl⟩
 case round=>
  obtain⟨rfl,rfl⟩:=hrel;go_wp2
  go_ret2;exact⟨rfl,rfl⟩
theorem EG:∀l:List UInt8,Lib.compareBytes l l=0:=by
 intro l;induction l with
 |nil=>rfl
 |cons a l ih=>simp[Lib.compareBytes,ih]
theorem Oj(k v key:ByteArray)(fl ca la:Int)(w:World)(hk:k=key):Calls prog 167 #[lL k fl v ca la,.string key] w λe w'=>e=.returned (.int .i64 0)/\Below w.heap.size w w':=by
 subst hk;have hcmp:Lib.compareBytes k.data.toList k.data.toList=0:=EG _;have HC:=hid (λw'=>Tryz.strings_Compare k k w');rw[hcmp] at HC;unfold lL;go_enter func167,ntmps167;go_wp2_with (go_at_call 168;refine(HC.out _).mono ?_;rintro e w1 ⟨rfl,rfl⟩)
 go_ret;exact⟨rfl,bA _ _⟩
theorem VR{w:World}{g cap:Nat}{k v:ByteArray}{fl ca la:Int}(hr:(dw g cap k fl v ca la).R w):
 Calls prog 166 #[.slice (some ⟨g,0,none⟩) 1 cap,.string k,.func (.func 167) #[] #[]] w λe w'=>e=.returned (.tuple #[.int .i64 0,.bool true])/\Below w.heap.size w w':=by
 have HR:=hid (λw' (hb:Below w.heap.size w w')=>(dw g cap k fl v ca la).keep hr (aP.of_below (λ_=>False) hb) (λ_ _ x=>x));obtain⟨k0,k1,k2,k3,k4,k5,k6,k7⟩:Qd w g (.string k) (.int .u32 fl) (.string v) (.int .i64 0) (.int .u64 ca) (.int .i64 la) (.bool false) (.bool false):=Ay (hr);have HC:=hid (λw'=>Oj k v k fl ca la w' rfl);unfold lL at HC;clear hr;go_enter func166,ntmps166;go_wp2
 go_loopw [9,10] (λa b wr=>a=.int .i64 0/\((b=.int .i64 1/\wr=w)\/(b=.int .i64 0/\Hid (Below w.heap.size w wr)))) (λ_ b _=>(intOf b).toNat)
 case atStart=>exact⟨rfl,.inl ⟨rfl,rfl⟩⟩
 case round=>
  obtain⟨rfl,⟨rfl,hr⟩|⟨rfl,hb⟩⟩:=hrel
  ·subst hr;go_wp2_with (go_at_call 167;refine(HC.out _).mono ?_;rintro e w1 ⟨rfl,hb1⟩;have HB1:=hid hb1;clear hb1)
   go_roundw;case rel=>exact⟨rfl,.inr ⟨by first|rfl|trivial|simp,HB1⟩⟩
   case measure=>simp[intOf]
  ·have hr2:=HR.out _ hb.out;clear k0 k1 k2 k3 k4 k5 k6 k7;obtain⟨q0,q1,q2,q3,q4,q5,q6,q7⟩:Qd wr g (.string k) (.int .u32 fl) (.string v) (.int .i64 0) (.int .u64 ca) (.int .i64 la) (.bool false) (.bool false):=Ay (hr2);clear hr2;go_wp2_with (go_at_call 167;refine(HC.out _).mono ?_;rintro e w1 ⟨rfl,hb1⟩;have HB1:=hid hb1;clear hb1)
   go_ret2;exact⟨rfl,hb.out.trans (HB1.out.mono hb.out.size)⟩
theorem CK(key:ByteArray)(w:World):Calls prog 103 #[.slice none 0 0,.string key] w λe w'=>e=.returned (.tuple #[.int .i64 0,.bool false])/\Below w.heap.size w w':=by
 have H:=hid (λfv=>VQ key fv w);go_enter func103,ntmps103;go_wp2_with (go_at_call 166;refine(H.out _).mono ?_;rintro e w1 ⟨rfl,rfl⟩)
 go_ret2;exact⟨rfl,Below.refl _ _⟩
theorem CL{w:World}{g cap:Nat}{k v:ByteArray}{fl ca la:Int}(hr:(dw g cap k fl v ca la).R w):
 Calls prog 103 #[.slice (some ⟨g,0,none⟩) 1 cap,.string k] w λe w'=>e=.returned (.tuple #[.int .i64 0,.bool true])/\Below w.heap.size w w':=by
 have H:=hid (VR hr);clear hr;go_enter func103,ntmps103;go_wp2_with (go_at_call 166;refine H.out.mono ?_;rintro e w1 ⟨rfl,hb⟩)
 go_ret2;exact⟨rfl,hb⟩
def mwL(N g cap:Nat)(aF:Int)(c:Cm)(k:ByteArray)(fl:Int)(v:ByteArray)(ca la:Int):List aT:=[Qi N (.slice (some ⟨g,0,none⟩) 1 cap) aF c true,dw g cap k fl v ca la]
def R_(N g cap:Nat)(aF:Int)(c:Cm)(k:ByteArray)(fl:Int)(v:ByteArray)(ca la:Int):aT:=many (mwL N g cap aF c k fl v ca la)
theorem Sa{w:World}{xb:Nat}{k v:ByteArray}{fl ca la:Int}(hc:∀j u,(nW k fl v ca la)[j]?=some u->w.cell? ⟨xb,j,none⟩=some u):
 Calls prog 225 #[.slice none 0 0,.int .i64 0,.slice (some ⟨xb,0,none⟩) 1 1] w λe w'=> ∃g cap,e=.returned (.slice (some ⟨g,0,none⟩) 1 cap)/\Made (dw g cap k fl v ca la) w w':=by
 have hc':∀j u,(nW k fl v ca la)[j]?=some u->w.cell? ((⟨xb,0,none⟩:Addr).add j)=some u:=λj u hj=>by
  have h:=hc j u hj;cases j<;>simpa[Addr.add] using h
 have HC:=hid hc';clear hc hc';go_enter func225,ntmps225;go_wp2_with (at_builtin;go_must (refine yI si rfl _ _ ⟨xb,0,none⟩ 1 rfl rfl (eu _ _ _) rfl (by rfl) HC.out (by simp[nW,Value.oneCell']) (by omega) (by omega) ?_))
 intro g cap w2 ht;go_wp2
 go_ret;exact⟨g,cap,rfl,(Made.mk (eu _ _ _) (Below.refl _ _) (λb hb=>by cases hb)).turn ht⟩
def pW(st:Int)(k:ByteArray)(fl:Int)(v:ByteArray)(ca la num:Int):Array Value:=#[.int .i64 st,.string k,.int .u32 fl,.string v,.int .i64 0,.int .u64 ca,.int .i64 la,.bool false,.bool false,.int .u64 num,.bool false,.bool false,.bool false]
theorem gZ{st fl ca la num:Int}{k v:ByteArray}:aR 0 [.int .i64 st,.string k,.int .u32 fl,.string v,.int .i64 0,.int .u64 ca,.int .i64 la,.bool false,.bool false,.int .u64 num,.bool false,.bool false,.bool false] (bH 0)= #[.int .i64 st,.string k,.int .u32 fl,.string v,.int .i64 0,.int .u64 ca,.int .i64 la,.bool false,.bool false,.int .u64 num,.bool false,.bool false,.bool false]:=by
 simp[aR,bH]
theorem Sb{N g cap:Nat}{aF:Int}{c:Cm}{k v:ByteArray}{fl ca la:Int}{w:World}(h:(R_ N g cap aF c k fl v ca la).R w)(hr:c.aj= -1):
 Calls prog 104 #[.pointer (some ⟨N,0,none⟩)] w λe w'=>e=.returned (.agg (pW 1 k fl v ca 1 0))/\ag (R_ N g cap aF c k fl v ca la) (R_ N g cap aF c k fl v ca 1) w w':=by
 have J0:=((aJ.open h).cells (bH 0) 52);obtain⟨X,hX⟩:∃X,w.heap.size=X:=⟨_,rfl⟩;obtain⟨W,hW⟩:∃W,w.alloc (.cells (bH 0) 52)=W:=⟨_,rfl⟩;rw[hX,hW] at J0;have HI:=hid (CJ (h:=J0.get 1 rfl));have k22:W.cell? ⟨N,22,none⟩=some (.bool true):=cA (J0.get 1 rfl) 22;have k18:W.cell? ⟨N,18,none⟩=some (.int .i64 c.aj):=cA (J0.get 1 rfl) 18;have k3:W.cell? ⟨N,3,none⟩=some (.int .i64 1):=cA (J0.get 1 rfl) 3;have k10:W.cell? ⟨N,10,none⟩=some (.bool false):=cA (J0.get 1 rfl) 10;rw[hr] at k18;obtain⟨y0,z0,y1,z1,y2,z2,y3,z3,y4,z4,y5,z5,y6,z6,y7,z7⟩:RG W g (.string k) (.int .u32 fl) (.string v) (.int .i64 0) (.int .u64 ca) (.int .i64 la) (.bool false) (.bool false):=Qf (J0.get 2 rfl);have hW':=hW;simp only[bH] at hW';have JJ:=hid J0;clear J0 h hr;go_enter func104,ntmps104;go_wp2_with (go_at_call 109;refine HI.out.mono ?_;rintro e w1 ⟨rfl,m,rfl⟩)
 clear hW hW' hX;go_quiet (fail)
 obtain⟨V,hV⟩:∃V,(W.drewN m).drewN nq=V:=⟨_,rfl⟩;have JV:Hid (aJ (R_ N g cap aF c k fl v ca la).B w _ V):=hid (by rw[<-hV];exact((JJ.out.drewN m).drewN nq));rw[hV];clear hV JJ HI k22 k18 k3 k10 y0 y1 y2 y3 y4 y5 y6 y7 z0 z1 z2 z3 z4 z5 z6 z7;have HS:Hid (∀w',Below V.heap.size V w'->w'.cell? ⟨g,6,none⟩=some (.bool false)/\w'.cell? ⟨g,7,none⟩=some (.bool false)):=hid (λw' hb=>by
  have h0:=(JV.out.below hb).get 2 rfl;exact⟨aB h0 6 (Nat.lt_of_lt_of_eq (m:=8) (by decide) rfl),aB h0 7 (Nat.lt_of_lt_of_eq (m:=8) (by decide) rfl)⟩)
 have q0:=(HS.out _ (Below.refl _ _));go_upto_region 7 with fail
 go_cut [5] from 68 to 90 (λs5 wx=> ∃A,s5=.pointer (some ⟨A,0,none⟩)/\Hid (Made (aG A (bH 1) 52) V wx))
 case first=>
  have HA:=hid ((Made.cells V (bH 1) 52).drew);go_region_held3 (λw'=>w'.cell? ⟨g,6,none⟩=some (.bool false)/\w'.cell? ⟨g,7,none⟩=some (.bool false)) (first|with_reducible exact q0|exact HS.out _ (by go_grown)|fail) (fail)
  all_goals (go_wp2_with fail)
  all_goals (go_meet;exact⟨_,rfl,HA⟩)
 case rest=>
  obtain⟨A,rfl,hA⟩:=hcut;have K0:=JV.out.made hA.out;have k3:wc.cell? ⟨N,3,none⟩=some (.int .i64 1):=cA (K0.get 2 rfl) 3;have k10:wc.cell? ⟨N,10,none⟩=some (.bool false):=cA (K0.get 2 rfl) 10;have y7:wc.cell? ⟨g,7,none⟩=some (.bool false):=aB (K0.get 3 rfl) 7 (Nat.lt_of_lt_of_eq (m:=8) (by decide) rfl);have y5:wc.cell? ⟨g,5,none⟩=some (.int .i64 la):=aB (K0.get 3 rfl) 5 (Nat.lt_of_lt_of_eq (m:=8) (by decide) rfl);have z7:=bn (K0.get 3 rfl) 7;have z5:=bn (K0.get 3 rfl) 5;have a3:wc.cell? ⟨A,3,none⟩=some (.string ⟨#[]⟩):=cA (K0.get 0 rfl) 3;have EH:wc.cell? ⟨A,3,none⟩=some (.string ⟨#[]⟩):=cA (K0.get 0 rfl) 3;have h1:¬A=g:=λe=>K0.apart (i:=0) (j:=3) rfl rfl (by decide) A rfl (by rw[e];rfl)
  have h4:¬N=g:=λe=>K0.apart (i:=2) (j:=3) rfl rfl (by decide) N rfl (by rw[e];rfl)
  have aW:wc.cell? ⟨A,10,none⟩=some (.bool false):=cA (K0.get 0 rfl) 10;have K1:=K0.turn 3 rfl (aM (K0.get 3 rfl) 7 (.bool false));have K2:=K1.turn 3 rfl (aM (K1.get 3 rfl) 5 (.int .i64 1));have KK:=hid K2;clear K0 K1 K2 hA JV HS q0;go_upto_region 12 with fail
  obtain⟨Z,hZ⟩:∃Z,(wc.setCell ⟨g,7,none⟩ (.bool false)).setCell ⟨g,5,none⟩ (.int .i64 1)=Z:=⟨_,rfl⟩;rw[hZ] at KK⊢;clear hZ y7 y5 z7 z5 a3 EH h1 h4 aW k3 k10;obtain⟨a0,b0,a1,b1,a2,b2,a3,b3,a4,b4,a5,b5,a6,b6,a7,b7,a8,b8,a9,b9,EH,b10,Ju,b11,a12,b12⟩:iy Z A (.int .i64 1) (.string ⟨#[]⟩) (.int .u32 0) (.string ⟨#[]⟩) (.int .i64 0) (.int .u64 0) (.int .i64 0) (.bool false) (.bool false) (.int .u64 0) (.bool false) (.bool false) (.bool false):=dM (KK.out.get 0 rfl);obtain⟨y0,z0,y1,z1,y2,z2,y3,z3,y4,z4,y5,z5,y6,z6,y7,z7⟩:RG Z g (.string k) (.int .u32 fl) (.string v) (.int .i64 0) (.int .u64 ca) (.int .i64 1) (.bool false) (.bool false):=Qf (KK.out.get 3 rfl);have L1:=KK.out.turn 0 rfl (aK A 52 [.string k,.int .u32 fl,.string v,.int .i64 0,.int .u64 ca,.int .i64 1,.bool false,.bool false] 1 _ _ (KK.out.get 0 rfl));have hL:(aG A (aR 1 [.string k,.int .u32 fl,.string v,.int .i64 0,.int .u64 ca,.int .i64 1,.bool false,.bool false] (bH 1)) 52)=aG A (pW 1 k fl v ca 1 0) 52:=by
   congr 1
  simp only[aS] at L1;have LL:=hid L1;have HL:=hid hL;clear L1 KK hL;go_upto_region 13 with fail
  obtain⟨Z2,hZ2⟩:∃Z2,(((((((Z.setCell ⟨A,1,none⟩ (.string k)).setCell ⟨A,2,none⟩ (.int .u32 fl)).setCell ⟨A,3,none⟩ (.string v)).setCell ⟨A,4,none⟩ (.int .i64 0)).setCell ⟨A,5,none⟩ (.int .u64 ca)).setCell ⟨A,6,none⟩ (.int .i64 1)).setCell ⟨A,7,none⟩ (.bool false)).setCell ⟨A,8,none⟩ (.bool false)=Z2:=⟨_,rfl⟩;have VS:=LL.out;rw[hZ2] at VS;rw[hZ2];clear hZ2 a0 a1 a2 a3 a4 a5 a6 a7 a8 a9 EH Ju a12 b0 b1 b2 b3 b4 b5 b6 b7 b8 b9 b10 b11 b12 y0 y1 y2 y3 y4 y5 y6 y7 z0 z1 z2 z3 z4 z5 z6 z7;have hA2:=VS.get 0 rfl;rw[HL.out] at hA2;obtain⟨a0,a1,a2,a3,a4,a5,a6,a7,a8,a9,EH,Ju,a12⟩:rP Z2 A (.int .i64 1) (.string k) (.int .u32 fl) (.string v) (.int .i64 0) (.int .u64 ca) (.int .i64 1) (.bool false) (.bool false) (.int .u64 0) (.bool false) (.bool false) (.bool false):=kW (hA2);have hX2:=VS.get 1 rfl;obtain⟨r0,u0,r1,u1,r2,u2,r3,u3,r4,u4,r5,u5,r6,u6,r7,u7,r8,u8,r9,u9,nY,u10,Sc,u11,PY,u12⟩:iy Z2 X (.int .i64 0) (.string ⟨#[]⟩) (.int .u32 0) (.string ⟨#[]⟩) (.int .i64 0) (.int .u64 0) (.int .i64 0) (.bool false) (.bool false) (.int .u64 0) (.bool false) (.bool false) (.bool false):=dM (hX2);have hs:=aK X 52 [.int .i64 1,.string k,.int .u32 fl,.string v,.int .i64 0,.int .u64 ca,.int .i64 1,.bool false,.bool false,.int .u64 0,.bool false,.bool false,.bool false] 0 _ _ hX2;have L2:=VS.turn 1 rfl hs;have he:=hs.here;rw[gZ] at he;simp only[aS] at L2 he;have L3:=hid (L2.sub (.cons _ (.cons _ (List.Sublist.refl _)))).shut;have HE:=hid he;clear VS hA2 hX2 hs L2 he LL;go_wp2_with (fail)
  exact qw (N:=X) rfl rfl HE.out ⟨rfl,L3.out⟩
theorem aJ.none(w:World):aJ (λ_=>False) w [] w:=⟨λ_ h=>absurd h (by simp),List.Pairwise.nil,λ_ h=>absurd h (by simp),aP.refl _ _⟩
theorem aJ.join{D:Nat->Prop}{w0 w:World}{r s:aT}{L:List aT}(h:aJ D w0 (r :: s :: L) w):aJ D w0 (many [r,s] :: L) w:=by
 have hp:=List.pairwise_cons.1 h.ap;have hq:=List.pairwise_cons.1 hp.2;refine⟨λt ht=>?_,List.pairwise_cons.2 ⟨λt ht b hb hx=>?_,hq.2⟩,λt ht b hb=>?_,h.bL⟩
 ·rcases List.mem_cons.1 ht with rfl|ht
  ·refine⟨λu hu=>h.all u ?_,List.pairwise_cons.2 ⟨λu hu=>?_,List.pairwise_singleton _ _⟩⟩
   ·rcases List.mem_cons.1 hu with rfl|hu
    ·exact .head _
    ·rw[List.mem_singleton.1 hu];exact .tail _ (.head _)
   ·rw[List.mem_singleton.1 hu];exact hp.1 s (.head _)
  ·exact h.all t (.tail _ (.tail _ ht))
 ·obtain⟨u,hu,hb⟩:=hb;rcases List.mem_cons.1 hu with rfl|hu
  ·exact hp.1 t (.tail _ ht) b hb hx
  ·rw[List.mem_singleton.1 hu] at hb;exact hq.1 t ht b hb hx
 ·rcases List.mem_cons.1 ht with rfl|ht
  ·obtain⟨u,hu,hb⟩:=hb;rcases List.mem_cons.1 hu with rfl|hu
   ·exact h.lo _ (.head _) b hb
   ·rw[List.mem_singleton.1 hu] at hb;exact h.lo _ (.tail _ (.head _)) b hb
  ·exact h.lo t (.tail _ (.tail _ ht)) b hb
theorem aJ.fE{r:aT}{w0 w:World}{L:List aT}(h:aJ (λ_=>False) w0 L w)(i:Nat)(hi:L[i]?=some r):Made r w0 w:=
 ⟨h.get i hi,h.bL.below (Below.refl _ _) (Nat.le_refl _) (λb hb=>hb.elim),λb hb=>(h.lo r (List.mem_of_getElem? hi) b hb).elim (λx=>x.elim) id⟩
theorem CO{x y:Value}{b:Bool}{aF:Int}{c:Cm}:((((#[x,.int .u64 aF,.int .i64 0,.int .i64 1,.int .i64 c.op,.int .i64 c.mode,.string c.key,.string c.value,.int .u32 c.flags,.int .i64 c.exp,.bool false,.int .u64 c.aF,.bool c.ah,.int .u64 c.delta,.int .u64 0,.bool false,.bool false,.int .i64 0,.int .i64 c.aj,.bool false,.int .i64 472,.int .i64 0,.bool false]:Array Value).setIfInBounds 0 y).setIfInBounds 21 (.int .i64 0)).setIfInBounds 22 (.bool b))=Js y aF c b:=by
 simp[Js]
theorem yJ{x y:Value}{b:Bool}{aF:Int}{c:Cm}:((((#[x,.int .u64 aF,.int .i64 0,.int .i64 1,.int .i64 c.op,.int .i64 c.mode,.string c.key,.string c.value,.int .u32 c.flags,.int .i64 c.exp,.bool false,.int .u64 c.aF,.bool c.ah,.int .u64 c.delta,.int .u64 0,.bool false,.bool false,.int .i64 0,.int .i64 c.aj,.bool false,.int .i64 472,.int .i64 0,.bool false]:Array Value).setIfInBounds 0 y).setIfInBounds 22 (.bool b)).setIfInBounds 21 (.int .i64 0))=Js y aF c b:=by
 simp[Js]
def tC:Array Value:=#[.slice .none 0 0,.int .u64 0,.int .i64 0]
theorem CP{a b c:Value}:aR 0 [a,b,c] tC= #[a,b,c]:=by
 simp[aR,tC]
theorem CQ{fn:Func}{k m:Nat}(hres:fn.results= #[.cell k 121,.cell m 52]){R:Ending->World->Prop}{tmps:Array Value}{W:World}{M N:Nat}{s0 s1 s2 v0 v1 v2 v3 v4 v5 v6 v7 v8 v9 v10 v11 v12:Value}
 (h2:tmps.getD k undef=.pointer (some ⟨M,0,.none⟩)) (h3:tmps.getD m undef=.pointer (some ⟨N,0,.none⟩)) (ha:(aG M #[s0,s1,s2] 121).R W) (hb:(aG N #[v0,v1,v2,v3,v4,v5,v6,v7,v8,v9,v10,v11,v12] 52).R W)
 (hR:R (.returned (.tuple #[.agg #[s0,s1,s2],.agg #[v0,v1,v2,v3,v4,v5,v6,v7,v8,v9,v10,v11,v12]])) W):
 bodyPost prog fn R .ret {tmps:=tmps,defers:=[]} W:=by
 refine bodyPost_ret (v:=.tuple #[.agg #[s0,s1,s2],.agg #[v0,v1,v2,v3,v4,v5,v6,v7,v8,v9,v10,v11,v12]]) ?_ rfl hR;have h2':tmps[k]?.getD undef=.pointer (some ⟨M,0,.none⟩):=by simpa using h2
 have h3':tmps[m]?.getD undef=.pointer (some ⟨N,0,.none⟩):=by simpa using h3
 obtain⟨y0,y1,y2⟩:LP W M s0 s1 s2:=vw (ha);obtain⟨x0,x1,x2,x3,x4,x5,x6,x7,x8,x9,lJ,R8,R9⟩:rP W N v0 v1 v2 v3 v4 v5 v6 v7 v8 v9 v10 v11 v12:=kW (hb);simp[results,hres,go_sem,h2',h3',y0,y1,y2,x0,x1,x2,x3,x4,x5,x6,x7,x8,x9,lJ,R8,R9]
def EI(N:Nat)(aF:Int)(c:Cm):aT:=Qi N (.slice none 0 0) aF c false
def XT(N g cap:Nat)(aF:Int)(c:Cm)(k:ByteArray)(fl:Int)(v:ByteArray)(ca la:Int):aT:=many [Qi N (.slice (some ⟨g,0,none⟩) 1 cap) aF c false,dw g cap k fl v ca la]
theorem Sg{N:Nat}{aF:Int}{c:Cm}{k2 v2:ByteArray}{lM AY oV:Int}{w:World}(h:(EI N aF c).R w)(hc0:0<=aF)(hc1:aF<=1000000):
 Calls prog 169 #[.pointer (some ⟨N,0,none⟩),lL k2 lM v2 AY oV] w λe w'=> ∃g cap,e=.returned (.pointer (some ⟨g,0,none⟩))/\ag (EI N aF c) (XT N g cap (aF+1) c k2 lM v2 (aF+1) oV) w w':=by
 have e1:IntKind.u64.wrap (aF+1)=aF+1:=by rw[IntKind.wrap_u64];omega
 have J0:=((aJ.start h).cells #[.string k2,.int .u32 lM,.string v2,.int .i64 0,.int .u64 AY,.int .i64 oV,.bool false,.bool false] 50);obtain⟨X,hX⟩:∃X,w.heap.size=X:=⟨_,rfl⟩;obtain⟨W,hW⟩:∃W,w.alloc (.cells #[.string k2,.int .u32 lM,.string v2,.int .i64 0,.int .u64 AY,.int .i64 oV,.bool false,.bool false] 50)=W:=⟨_,rfl⟩;rw[hX,hW] at J0;have k1:W.cell? ⟨N,1,none⟩=some (.int .u64 aF):=cA (J0.get 1 rfl) 1;have f1:=cZ (J0.get 1 rfl) 1;have k5:W.cell? ⟨N,22,none⟩=some (.bool false):=cA (J0.get 1 rfl) 22;obtain⟨q0,z0,q1,z1,q2,z2,q3,z3,q4,z4,q5,z5,q6,z6,q7,z7⟩:NP W X (.string k2) (.int .u32 lM) (.string v2) (.int .i64 0) (.int .u64 AY) (.int .i64 oV) (.bool false) (.bool false):=Iw (J0.get 0 rfl);have hne:¬N=X:=λe=>J0.apart (i:=1) (j:=0) rfl rfl (by decide) N rfl e
 have hne2:¬X=N:=λe=>hne e.symm
 have J1:=(J0.turn 1 rfl (ai (J0.get 1 rfl) 1 (.int .u64 (aF+1))));have J2:=J1.turn 0 rfl (ai (J1.get 0 rfl) 4 (.int .u64 (aF+1)));have JJ:=hid J2;clear J0 J1 J2 h;unfold lL;go_enter func169,ntmps169;go_wp2_with (fail)
 obtain⟨V,hV⟩:∃V,(W.setCell ⟨N,1,none⟩ (.int .u64 (aF+1))).setCell ⟨X,4,none⟩ (.int .u64 (aF+1))=V:=⟨_,rfl⟩;rw[hV] at JJ⊢;clear hV k1 f1 k5 q0 z0 q1 z1 q2 z2 q3 z3 q4 z4 q5 z5 q6 z6 q7 z7 hne hne2;have HS:Hid (∀w',Below V.heap.size V w'->w'.cell? ⟨N,0,none⟩=some (.slice none 0 0)/\w'.cell? ⟨N,21,none⟩=some (.int .i64 0)/\w'.cell? ⟨X,0,none⟩=some (.string k2)/\w'.cell? ⟨X,1,none⟩=some (.int .u32 lM)/\w'.cell? ⟨X,2,none⟩=some (.string v2)/\w'.cell? ⟨X,3,none⟩=some (.int .i64 0)/\w'.cell? ⟨X,4,none⟩=some (.int .u64 (aF+1))/\w'.cell? ⟨X,5,none⟩=some (.int .i64 oV)/\w'.cell? ⟨X,6,none⟩=some (.bool false)/\w'.cell? ⟨X,7,none⟩=some (.bool false)):=hid (λw' hb=>by
  have h0:=(JJ.out.below hb).get 0 rfl;have h1:=(JJ.out.below hb).get 1 rfl;exact⟨cA h1 0,cA h1 21,cA h0 0,cA h0 1,cA h0 2,cA h0 3,cA h0 4,cA h0 5,cA h0 6,cA h0 7⟩)
 have q0:=(HS.out _ (Below.refl _ _));have hfz:=cZ (JJ.out.get 1 rfl) 0;go_upto_region 5 with fail
 go_cut [] from 28 to 43 (λwx=> ∃g cap,Hid (ag (EI N aF c) (XT N g cap (aF+1) c k2 lM v2 (aF+1) oV) w wx))
 case first=>
  obtain⟨a0,a1,a2,a3,a4,a5,a6,a7,a8,a9⟩:=q0;have HN:=hid (λ(W:World) (xb:Nat) (hc:∀j u,(nW k2 lM v2 (aF+1) oV)[j]?=some u->W.cell? ⟨xb,j,none⟩=some u)=>Sa hc);have HC:Hid (∀j u,(nW k2 lM v2 (aF+1) oV)[j]?=some u->(V.alloc (.cells #[.string k2,.int .u32 lM,.string v2,.int .i64 0,.int .u64 (aF+1),.int .i64 oV,.bool false,.bool false] 50)).drew.cell? ⟨V.heap.size,j,none⟩=some u):=hid (λj u hj=>by
   have h:=cA (((Made.cells V #[.string k2,.int .u32 lM,.string v2,.int .i64 0,.int .u64 (aF+1),.int .i64 oV,.bool false,.bool false] 50).drew).here) j;rw[h,<-Array.getElem?_toList];exact hj)
  have JE:=hid ((JJ.out.alloc (.cells #[.string k2,.int .u32 lM,.string v2,.int .i64 0,.int .u64 (aF+1),.int .i64 oV,.bool false,.bool false] 50)).drew);have d0:(V.alloc (.cells #[.string k2,.int .u32 lM,.string v2,.int .i64 0,.int .u64 (aF+1),.int .i64 oV,.bool false,.bool false] 50)).drew.cell? ⟨N,0,none⟩=some (.slice none 0 0):=cA (JE.out.get 1 rfl) 0;have d1:(V.alloc (.cells #[.string k2,.int .u32 lM,.string v2,.int .i64 0,.int .u64 (aF+1),.int .i64 oV,.bool false,.bool false] 50)).drew.cell? ⟨N,21,none⟩=some (.int .i64 0):=cA (JE.out.get 1 rfl) 21;clear JJ HS
  go_region_with ((go_at_call 225;(with_reducible refine(HN.out _ _ HC.out).mono ?_);rintro e w1 ⟨g,cap,rfl,hm⟩
                   have JF:=JE.out.made hm;have b0:w1.cell? ⟨N,0,none⟩=some (.slice none 0 0):=cA (JF.get 2 rfl) 0;have bf:=cZ (JF.get 2 rfl) 0;have JG:=JF.turn 2 rfl (ai (JF.get 2 rfl) 0 (.slice (some ⟨g,0,none⟩) 1 cap));have HF:Hid (ag (EI N aF c) (XT N g cap (aF+1) c k2 lM v2 (aF+1) oV) w (w1.setCell ⟨N,0,none⟩ (.slice (some ⟨g,0,none⟩) 1 cap))):=hid (((JG.sub (.cons_cons _ (.cons _ (List.Sublist.refl _)))).perm (.swap _ _ _)).shut);clear JF JG hm))
  all_goals (go_wp2_with fail)
  all_goals (go_meet;exact⟨_,_,HF⟩)
 case rest=>
  obtain⟨g,cap,ht⟩:=hcut;have HI3:=hid (CJ (h:=(aJ.open ht.out.here).get 0 rfl));clear q0 hfz HS JJ;go_wp2_with (go_at_call 109;refine HI3.out.mono ?_;rintro e w1 ⟨rfl,m,rfl⟩)
  go_ret;exact⟨_,_,rfl,ht.out.drewN _⟩
theorem aJ.emp{D:Nat->Prop}{w0 w:World}{L:List aT}(h:aJ D w0 L w):aJ D w0 (emp :: L) w:=
 ⟨λr hr=>by rcases List.mem_cons.1 hr with rfl|h1;exact trivial;exact h.all r h1,List.pairwise_cons.2 ⟨λ_ _ _ hb=>hb.elim,h.ap⟩,λr hr b hb=>by rcases List.mem_cons.1 hr with rfl|h1;exact hb.elim;exact h.lo r h1 b hb,h.bL⟩
theorem Si{N:Nat}{aF:Int}{c:Cm}{w:World}(h:(EI N aF c).R w):
 Calls prog 104 #[.pointer (some ⟨N,0,none⟩)] w λe w'=>e=.returned (.agg (bH 5))/\Below w.heap.size w w':=by
 have J0:=(aJ.none w).cells (bH 0) 52;have hbw:=bA w (.cells (bH 0) 52);have h0:=(EI N aF c).keep h (aP.of_below (λ_=>False) hbw) (λ_ _ x=>x);obtain⟨X,hX⟩:∃X,w.heap.size=X:=⟨_,rfl⟩;obtain⟨W,hW⟩:∃W,w.alloc (.cells (bH 0) 52)=W:=⟨_,rfl⟩;rw[hX,hW] at J0;rw[hW] at h0;have k22:W.cell? ⟨N,22,.none⟩=some (.bool false):=cA h0 22;have k16:W.cell? ⟨N,16,.none⟩=some (.bool false):=cA h0 16;have HJ:=hid J0;have HT:=hid (λw'=>Oi 5 w');unfold bH at HT hW;clear J0 h h0 hbw;go_enter func104,ntmps104;go_wp2_with (fail)
 go_at_call 107;refine(HT.out _).mono ?_;rintro e w1 ⟨rfl,hb1⟩;have J1:=HJ.out.below hb1;obtain⟨r0,u0,r1,u1,r2,u2,r3,u3,r4,u4,r5,u5,r6,u6,r7,u7,r8,u8,r9,u9,nY,u10,Sc,u11,PY,u12⟩:iy w1 X (.int .i64 0) (.string ⟨#[]⟩) (.int .u32 0) (.string ⟨#[]⟩) (.int .i64 0) (.int .u64 0) (.int .i64 0) (.bool false) (.bool false) (.int .u64 0) (.bool false) (.bool false) (.bool false):=dM (J1.get 0 rfl);have hs:=aK X 52 [.int .i64 5,.string ⟨#[]⟩,.int .u32 0,.string ⟨#[]⟩,.int .i64 0,.int .u64 0,.int .i64 0,.bool false,.bool false,.int .u64 0,.bool false,.bool false,.bool false] 0 _ _ (J1.get 0 rfl);have k1:=J1.turn 0 rfl hs;have h2:=k1.get 0 rfl;rw[gZ] at h2;have h3:=(k1.fE 0 rfl).bel;simp only[aS] at h2 h3;have HE:=hid (And.intro h2 h3);clear hs k1 h2 h3 J1 HJ hb1;go_wp2_with (fail)
 exact qw (N:=X) rfl rfl HE.out.1 ⟨rfl,HE.out.2⟩
theorem Jv{N:Nat}{aF:Int}{key value:ByteArray}{flags tok delta:Int}{w:World}(h:(EI N aF ⟨2,0,key,value,flags,0,tok,false,delta,-1⟩).R w)(hc0:0<=aF)(hc1:aF<=1000000)(hk:key.size=1)(hv:value.size<=100):
 Calls prog 105 #[.pointer (some ⟨N,0,none⟩)] w λe w'=> ∃g cap,e=.returned (.agg (pW 2 key flags value (aF+1) 0 0))/\ag (EI N aF ⟨2,0,key,value,flags,0,tok,false,delta,-1⟩) (XT N g cap (aF+1) ⟨2,0,key,value,flags,0,tok,false,delta,-1⟩ key flags value (aF+1) 0) w w':=by
 have J0:=((aJ.start h).cells (bH 0) 52);have J1:=J0.cells (Cm.vs ⟨2,0,key,value,flags,0,tok,false,delta,-1⟩) 56;simp only[World.size_alloc] at J1;obtain⟨X,hX⟩:∃X,w.heap.size=X:=⟨_,rfl⟩;have j0:=J0.get 1 rfl;obtain⟨W0,hW0⟩:∃W0,w.alloc (.cells (bH 0) 52)=W0:=⟨_,rfl⟩;rw[hW0] at j0 J1;obtain⟨W,hW⟩:∃W,W0.alloc (.cells (Cm.vs ⟨2,0,key,value,flags,0,tok,false,delta,-1⟩) 56)=W:=⟨_,rfl⟩;rw[hW,hX] at J1;have hX2:W0.heap.size=X+1:=by rw[<-hW0];simp[hX]
 have o4:W0.cell? ⟨N,4,none⟩=some (.int .i64 2):=cA j0 4;have o5:W0.cell? ⟨N,5,none⟩=some (.int .i64 0):=cA j0 5;have o6:W0.cell? ⟨N,6,none⟩=some (.string key):=cA j0 6;have o7:W0.cell? ⟨N,7,none⟩=some (.string value):=cA j0 7;have o8:W0.cell? ⟨N,8,none⟩=some (.int .u32 flags):=cA j0 8;have o9:W0.cell? ⟨N,9,none⟩=some (.int .i64 0):=cA j0 9;have o10:W0.cell? ⟨N,10,none⟩=some (.bool false):=cA j0 10;have o11:W0.cell? ⟨N,11,none⟩=some (.int .u64 tok):=cA j0 11;have o12:W0.cell? ⟨N,12,none⟩=some (.bool false):=cA j0 12;have o13:W0.cell? ⟨N,13,none⟩=some (.int .u64 delta):=cA j0 13;have o14:W0.cell? ⟨N,14,none⟩=some (.int .u64 0):=cA j0 14;have o15:W0.cell? ⟨N,15,none⟩=some (.bool false):=cA j0 15;have o16:W0.cell? ⟨N,16,none⟩=some (.bool false):=cA j0 16;have o17:W0.cell? ⟨N,17,none⟩=some (.int .i64 0):=cA j0 17;have o18:W0.cell? ⟨N,18,none⟩=some (.int .i64 (-1)):=cA j0 18;have o19:W0.cell? ⟨N,19,none⟩=some (.bool false):=cA j0 19;have k22:W.cell? ⟨N,22,none⟩=some (.bool false):=cA (J1.get 2 rfl) 22;obtain⟨c0,c1,c2,c3,c4,c5,c6,c7,c8,c9,c10,c11,c12,c13,c14,c15⟩:vB W (X+1) (.int .i64 2) (.int .i64 0) (.string key) (.string value) (.int .u32 flags) (.int .i64 0) (.bool false) (.int .u64 tok) (.bool false) (.int .u64 delta) (.int .u64 0) (.bool false) (.bool false) (.int .i64 0) (.int .i64 (-1)) (.bool false):=oM (J1.get 0 rfl);have JJ:=hid J1;simp only[bH,Cm.vs] at hW0 hW;have HWW:=hid hW;clear J0 J1 j0 h hW;go_enter func105,ntmps105;go_upto_region 2 with fail
 rw[HWW.out];clear HWW;go_wp2_with (fail)
 obtain⟨V,hV⟩:∃V,W=V:=⟨_,rfl⟩;have JV:Hid (aJ (EI N aF ⟨2,0,key,value,flags,0,tok,false,delta,-1⟩).B w _ V):=hid (by rw[<-hV];exact JJ.out);rw[hV];clear hV JJ k22 hW0 hX hX2 o4 o5 o6 o7 o8 o9 o10 o11 o12 o13 o14 o15 o16 o17 o18 o19 c0 c1 c2 c3 c4 c5 c6 c7 c8 c9 c10 c11 c12 c13 c14 c15;have HS:Hid (∀w',Below V.heap.size V w'->w'.cell? ⟨X+1,2,none⟩=some (.string key)/\w'.cell? ⟨X+1,4,none⟩=some (.int .u32 flags)/\w'.cell? ⟨X+1,3,none⟩=some (.string value)/\w'.cell? ⟨X+1,5,none⟩=some (.int .i64 0)):=hid (λw' hb=>by
  have h0:=(JV.out.below hb).get 0 rfl;exact⟨cA h0 2,cA h0 4,cA h0 3,cA h0 5⟩)
 have q0:=(HS.out _ (Below.refl _ _));have HM:=hid (λw'=>Jt N w');go_upto_region 12 with fail
 go_cut [5] from 66 to 76 (λs5 wx=> ∃A,s5=.pointer (some ⟨A,0,none⟩)/\Hid (Made (aG A #[.string key,.int .u32 flags,.string value,.int .i64 0,.int .u64 0,.int .i64 0,.bool false,.bool false] 50) V wx))
 case first=>
  have HA:=hid ((Made.cells V #[.string key,.int .u32 flags,.string value,.int .i64 0,.int .u64 0,.int .i64 0,.bool false,.bool false] 50).drew)
  go_region_held3 (λw'=>w'.cell? ⟨X+1,2,none⟩=some (.string key)/\w'.cell? ⟨X+1,4,none⟩=some (.int .u32 flags)/\w'.cell? ⟨X+1,3,none⟩=some (.string value)/\w'.cell? ⟨X+1,5,none⟩=some (.int .i64 0)) (first|with_reducible exact q0|exact HS.out _ (by go_grown)|fail) (
   (go_at_call 108;refine(HM.out _).mono ?_;rintro e w1 ⟨rfl,rfl⟩))
  all_goals (go_wp2_with fail)
  all_goals (go_meet;exact⟨_,rfl,HA⟩)
 case rest=>
  obtain⟨A,rfl,hA⟩:=hcut;have K0:=JV.out.made hA.out;have c1:wc.cell? ⟨X+1,1,none⟩=some (.int .i64 0):=cA (K0.get 1 rfl) 1;obtain⟨a0,b0,a1,b1,a2,b2,a3,b3,a4,b4,a5,b5,a6,b6,a7,b7⟩:NP wc A (.string key) (.int .u32 flags) (.string value) (.int .i64 0) (.int .u64 0) (.int .i64 0) (.bool false) (.bool false):=Iw (K0.get 0 rfl);have h1:¬N=A:=λe=>K0.apart (i:=3) (j:=0) rfl rfl (by decide) N rfl e
  have h2:¬X+1=A:=λe=>K0.apart (i:=1) (j:=0) rfl rfl (by decide) (X+1) rfl e
  have K1:=K0.turn 0 rfl (aK A 50 [.bool false,.bool false] 6 _ _ (K0.get 0 rfl));simp only[aS] at K1;have KK:=hid K1;clear K0 K1 hA JV HS q0;have hz1:(key.size:Int)+(value.size:Int)<=472:=by omega
  have hz2:IntKind.i64.wrap ((key.size:Int)+(value.size:Int))=(key.size:Int)+(value.size:Int):=by rw[IntKind.wrap_i64];omega
  go_upto_region 21 with fail
  obtain⟨Z,hZ⟩:∃Z,(wc.setCell ⟨A,6,none⟩ (.bool false)).setCell ⟨A,7,none⟩ (.bool false)=Z:=⟨_,rfl⟩;rw[hZ] at KK⊢;clear hZ a0 a1 a2 a3 a4 a5 a6 a7 b0 b1 b2 b3 b4 b5 b6 b7 c1 h1 h2;obtain⟨a0,a1,a2,a3,a4,a5,a6,a7⟩:ca8 Z A (.string key) (.int .u32 flags) (.string value) (.int .i64 0) (.int .u64 0) (.int .i64 0) (.bool false) (.bool false):=Ed (KK.out.get 0 rfl);have k20:Z.cell? ⟨N,20,none⟩=some (.int .i64 472):=cA (KK.out.get 3 rfl) 20;go_quiet (fail)
  obtain⟨Y,hY⟩:∃Y,Z.drewN nq=Y:=⟨_,rfl⟩;have KY:=(KK.out.drewN nq);rw[hY] at KY⊢;clear hY KK k20 a0 a1 a2 a3 a4 a5 a6 a7;obtain⟨a0,a1,a2,a3,a4,a5,a6,a7⟩:ca8 Y A (.string key) (.int .u32 flags) (.string value) (.int .i64 0) (.int .u64 0) (.int .i64 0) (.bool false) (.bool false):=Ed (KY.get 0 rfl);have HP:=hid (Sg (k2:=key) (v2:=value) (lM:=flags) (AY:=0) (oV:=0) (KY.get 3 rfl) hc0 hc1);have KZ:=hid KY;clear KY;unfold lL at HP
  go_wp2_with (go_at_call 169;refine HP.out.mono ?_;rintro e w1 ⟨g,cap,rfl,ht⟩
               have L0:=KZ.out.turn 3 rfl ht;have g1:=(aJ.open (L0.get 3 rfl)).get 1 rfl;obtain⟨y0,y1,y2,y3,y4,y5,y6,y7⟩:Qd w1 g (.string key) (.int .u32 flags) (.string value) (.int .i64 0) (.int .u64 (aF+1)) (.int .i64 0) (.bool false) (.bool false):=Ay (g1);have hX2:=L0.get 2 rfl;obtain⟨r0,u0,r1,u1,r2,u2,r3,u3,r4,u4,r5,u5,r6,u6,r7,u7,r8,u8,r9,u9,nY,u10,Sc,u11,PY,u12⟩:iy w1 X (.int .i64 0) (.string ⟨#[]⟩) (.int .u32 0) (.string ⟨#[]⟩) (.int .i64 0) (.int .u64 0) (.int .i64 0) (.bool false) (.bool false) (.int .u64 0) (.bool false) (.bool false) (.bool false):=dM (hX2);have hs:=aK X 52 [.int .i64 2,.string key,.int .u32 flags,.string value,.int .i64 0,.int .u64 (aF+1),.int .i64 0,.bool false,.bool false,.int .u64 0,.bool false,.bool false,.bool false] 0 _ _ hX2;have L2:=L0.turn 2 rfl hs;have he:=hs.here;rw[gZ] at he;simp only[aS] at L2 he;have L3:=hid (L2.sub (.cons _ (.cons _ (.cons _ (List.Sublist.refl _))))).one;have HE:=hid he;clear hX2 hs L2 he g1 L0 ht)
  exact qw (N:=X) rfl rfl HE.out ⟨g,cap,rfl,L3.out⟩
end Go.Proofs.YtboehbfagnocpaaGreatDoor
