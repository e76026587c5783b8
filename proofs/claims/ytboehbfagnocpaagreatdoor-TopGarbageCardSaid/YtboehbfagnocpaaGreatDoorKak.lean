import Derived.Test.YtboehbfagnocpaaGreatDoorKah
set_option linter.unusedVariables false
set_option linter.unusedSimpArgs false
set_option maxRecDepth 100000
set_option maxHeartbeats 40000000
open Go.Proofs.Tryz
open Go.Lib (hid)
namespace Go.Proofs.YtboehbfagnocpaaGreatDoor
open Go.RowKit Go.PlainAid
open SP
def fU(β:Bk)(π:Pi)(L:Nat):aT where
 R w:=Mem w β π L
 B b:=foot β π b
 keep h ht hd:=h.keep ht hd
 lt h hx:=by
  obtain⟨i,hi⟩:=hx;exact h.lt i _ hi
theorem n_{w w':World}{β dD:Bk}{π qi:Pi}{L L':Nat}(h:Mem w' dD qi L')(s:Step w β π w' dD qi):ag (fU β π L) (fU dD qi L') w w':=⟨h,s.bL,s.ft⟩
def zs:List Int:=[64,128,256,512]
def wI:Pi:=ll 512 [0] [] zs
def fV(bs:List Int):Pi:=⟨512,[1],bs,zs,[[7,6,5,4,3,2,1],[],[],[]],[some ⟨[true,false,false,false,false,false,false,false],1,false⟩]⟩
theorem JD:Dx wI 0=fV []:=by decide+kernel
theorem Oq:TW wI 0=0:=by decide+kernel
theorem JH:l_ wI 0=0:=by decide+kernel
theorem yL(bs:List Int):eQ (fV bs) 0=true:=rfl
theorem mW(bs:List Int):BZ (fV bs) 0=0:=rfl
theorem mX(bs:List Int):B_ (fV bs) 0=0:=rfl
theorem qx(bs:List Int):DK (fV bs) 0=64:=rfl
theorem JI:Wf wI 0:=MM ⟨by decide,by decide,by decide,λi hi=>by have hi:i+1<4:=hi;rcases(by omega:i=0\/i=1\/i=2) with rfl|rfl|rfl<;>decide⟩ (λx hx=>by simp at hx;omega) (by decide) (by decide) (by decide)
def eX:PM.Vl->ByteArray
 | .txt b=>b
structure og(x:PM.It):Prop where
 v:(eX x.v).size<=20
 fl:x.fl<4294967296
 aF:x.aF<=1000000
 last:x.last<=1
def itI(key:ByteArray)(x:PM.It):I8.It:=⟨key,eX x.v,x.fl,0,x.aF,x.last,false,false⟩
def encI(key:ByteArray)(x:PM.It):List Int:=I8.jG key (eX x.v) x.fl 0 x.aF x.last false false
structure Holds(key:ByteArray)(x:PM.It)(bs:List Int):Prop where
 len:bs.length=512
 pre:∃t,bs=encI key x ++ t
 by':I8.P.Bytes bs
theorem jZ{key:ByteArray}{x:PM.It}(hk:key.size=1)(hx:og x):(encI key x).length=41+(eX x.v).size/\(encI key x).length<=61:=by
 have:=hx.v;unfold encI;rw[I8.xC];omega
theorem ji{bs:List Int}(h:bs.length=512):AP.ext bs 512=bs:=AP.wS (by omega)
theorem vK{bs:List Int}:AP.qJ bs 512 0=AP.ext bs 512:=by simp[AP.qJ]
theorem Sv(bs l:List Int)(hl:l.length<=64):mg (fV bs) 0 l.length=0/\Gr (fV bs) 0 l=fV (l ++ (AP.ext bs 512).drop l.length):=by
 have h0:mg (fV bs) 0 l.length=0:=by
  unfold mg;rw[yL,qx,if_neg (by decide),if_neg (by omega)]
 refine⟨h0,?_⟩;unfold Gr;rw[if_pos h0,mW,mX];have h1:AP.qI [1] 512 0 0 l.length=0:=by
  unfold AP.qI;rw[if_neg (by decide),if_neg (by omega)]
 show ({fV bs with bs:=AP.Mj [1] bs 512 0 0 l}:Pi)=_;unfold AP.Mj;rw[if_pos h1,vK];simp[AP.splice,fV]
theorem Sw(bs:List Int)(h:bs.length=512):nH (fV bs) 0 64=0/\MO (fV bs) 0 64=fV bs/\PT (fV bs) 0 64=bs.take 64:=by
 have h0:nH (fV bs) 0 64=0:=by
  unfold nH;rw[yL,qx];decide
 have h1:AP.qI [1] 512 0 0 64=0:=by decide
 refine⟨h0,?_,?_⟩
 ·unfold MO;rw[if_pos h0,mW,mX];show ({fV bs with bs:=AP.Mk [1] bs 512 0 0 64}:Pi)=_;unfold AP.Mk;rw[if_pos h1,vK,ji h];rfl
 ·unfold PT;rw[if_pos h0,mW,mX];show AP.LG [1] bs 512 0 0 64=_;unfold AP.LG;rw[if_pos h1,vK,ji h];simp
theorem JK(bs:List Int)(L:Nat)(hL:2000<=L)(hm:L<=100000000):Wf (fV bs) L:=by
 have h:=JI.Dx 0 (by decide);rw[JD] at h;exact⟨h.np1,h.tO,h.ku,h.k1,h.sz,h.rl,h.pl,h.pg,λc l hl=>⟨Nat.le_trans (h.ch c l hl).1 (by omega),(h.ch c l hl).2⟩,hm⟩
open Go.RowKit Go.PlainAid Go.Shelf
structure SM where
 (s:Nat)
 (β:Bk)
 (L zb zc tb rb eb qb qc:Nat)
 (q1 q2 q3 cm:Value)
 (ps:PS)
 (bs:List Int)
def oh(m:SM)(aF:Int):Array Value:=#[.pointer (some ⟨m.β.sb,0,none⟩),.pointer (some ⟨m.β.g,0,none⟩),.slice (some ⟨m.zb,0,none⟩) 4 m.zc,.pointer (some ⟨m.tb,0,none⟩),.slice (some ⟨m.qb,0,none⟩) 4 m.qc,.int .u64 aF,.int .i64 0,m.cm]
def Uj(m:SM):aT:=rowAt (.slice (some ⟨m.qb,0,none⟩) 4 m.qc) 97 1 4 [.pointer (some ⟨m.ps.pb,0,none⟩),m.q1,m.q2,m.q3]
def Sy(m:SM):aT:=rowAt (.slice (some ⟨m.zb,0,none⟩) 4 m.zc) 3 1 4 (ints zs)
theorem yM{m:SM}{aF:Int}{w:World}(hc:(aG m.s (oh m aF) 105).R w)(hm:Mem w m.β (fV m.bs) m.L)(hw:Wf (fV m.bs) m.L):
 Calls prog 119 #[.pointer (some ⟨m.s,0,none⟩),.int .i64 0] w λe w'=>e=.returned (.int .i64 0)/\∃n,w'=w.drewN n:=by
 have c0:w.cell? ⟨m.s,0,none⟩=some (.pointer (some ⟨m.β.sb,0,none⟩)):=cA hc 0;have c1:w.cell? ⟨m.s,1,none⟩=some (.pointer (some ⟨m.β.g,0,none⟩)):=cA hc 1;have HW:=hid (iG hm hw 0 (by decide) (mW m.bs) (mX m.bs) (qx m.bs));have HO:=hid (λn=>fF ((hm.drewN n).ar hw) 0);have ho:AP.owner (fV m.bs).ow 0=0:=by show AP.owner [1] 0=0;decide
 rw[ho] at HO;clear hc hm hw ho;go_enter func119,ntmps119
 go_wp2_with (first
  |(go_at_call 180;refine HW.out.mono ?_;rintro e w1 ⟨rfl,n,rfl⟩)
  |(go_at_call 187;refine(HO.out _).mono ?_;rintro e w1 ⟨rfl,rfl⟩))
 go_ret;exact⟨rfl,_,rfl⟩
theorem uz{m:SM}{aF:Int}{w:World}(hc:(aG m.s (oh m aF) 105).R w)(hm:Mem w m.β (fV m.bs) m.L)(hw:Wf (fV m.bs) m.L)(hq:(Uj m).R w):
 Calls prog 122 #[.pointer (some ⟨m.s,0,none⟩),.int .i64 0] w λe w'=>e=.returned (.pointer (some ⟨m.ps.pb,0,none⟩))/\∃n,w'=w.drewN n:=by
 have c4:w.cell? ⟨m.s,4,none⟩=some (.slice (some ⟨m.qb,0,none⟩) 4 m.qc):=cA hc 4;have p0:w.cell? ⟨m.qb,0,none⟩=some (.pointer (some ⟨m.ps.pb,0,none⟩)):=aB hq 0 (Nat.lt_of_lt_of_eq (m:=4) (by decide) rfl);have HC:=hid (λn=>yM (w:=w.drewN n) ((aG m.s (oh m aF) 105).keep hc ((aP.refl (λ_=>False) w).drewN n) (λ_ _ x=>x)) (hm.drewN n) hw);clear hc hm hw hq;go_enter func122,ntmps122;go_wp2_with (fail)
 go_quiet ((go_at_call 119;exact Calls.quiet_of (HC.out _)))
 go_wp2
 go_ret;exact⟨rfl,_,rfl⟩
theorem qy{m:SM}{aF:Int}{π:Pi}{w:World}(hc:(aG m.s (oh m aF) 105).R w)(hm:Mem w m.β π m.L)(hS:π.S=512):
 Calls prog 52 #[.pointer (some ⟨m.s,0,none⟩)] w λe w'=>e=.returned (.int .i64 472)/\w=w':=by
 have c1:w.cell? ⟨m.s,1,none⟩=some (.pointer (some ⟨m.β.g,0,none⟩)):=cA hc 1;have a0:w.cell? ⟨m.β.g,0,none⟩=some (.int .i64 (512:Nat)):=by rw[<-hS];exact cell_of (hm.lie .ar) 0
 clear hc hm;go_enter func52,ntmps52;go_wp2
 go_ret;exact⟨rfl,rfl⟩
theorem Ot{fn:Func}{k:Nat}(hres:fn.results= #[.cell k 50]){R:Ending->World->Prop}{tmps:Array Value}{W:World}{N:Nat}{v0 v1 v2 v3 v4 v5 v6 v7:Value}
 (h2:tmps.getD k undef=.pointer (some ⟨N,0,none⟩)) (hb:(aG N #[v0,v1,v2,v3,v4,v5,v6,v7] 50).R W)
 (hR:R (.returned (.agg #[v0,v1,v2,v3,v4,v5,v6,v7])) W):
 bodyPost prog fn R .ret {tmps:=tmps,defers:=[]} W:=by
 refine bodyPost_ret (v:=.agg #[v0,v1,v2,v3,v4,v5,v6,v7]) ?_ rfl hR;have h2':tmps[k]?.getD undef=.pointer (some ⟨N,0,none⟩):=by simpa using h2
 obtain⟨x0,x1,x2,x3,x4,x5,x6,x7⟩:ca8 W N v0 v1 v2 v3 v4 v5 v6 v7:=Ed (hb);simp[results,hres,go_sem,h2',x0,x1,x2,x3,x4,x5,x6,x7]
theorem VX{m:SM}{aF:Int}{key:ByteArray}{x:PM.It}{w:World}(hc:(aG m.s (oh m aF) 105).R w)(hm:Mem w m.β (fV m.bs) m.L)(hw:Wf (fV m.bs) m.L)(hd:¬foot m.β (fV m.bs) m.s)
 (hh:Holds key x m.bs) (hx:og x) (hk:key.size=1) (hkr:I8.aO key=true):
 Calls prog 116 #[.pointer (some ⟨m.s,0,none⟩),.int .i64 0] w λe w'=>e=.returned (lL key x.fl (eX x.v) x.aF x.last)/\∃dD,dD.sb=m.β.sb/\dD.g=m.β.g/\ag (fU m.β (fV m.bs) m.L) (fU dD (fV m.bs) m.L) w w':=by
 have J0:=(aJ.start (r:=fU m.β (fV m.bs) m.L) hm).cells #[.string ⟨#[]⟩,.int .u32 0,.string ⟨#[]⟩,.int .i64 0,.int .u64 0,.int .i64 0,.bool false,.bool false] 50;have hb0:=bA w (.cells #[.string ⟨#[]⟩,.int .u32 0,.string ⟨#[]⟩,.int .i64 0,.int .u64 0,.int .i64 0,.bool false,.bool false] 50);obtain⟨N,hN⟩:∃N,w.heap.size=N:=⟨_,rfl⟩;have hA:=aA w #[.string ⟨#[]⟩,.int .u32 0,.string ⟨#[]⟩,.int .i64 0,.int .u64 0,.int .i64 0,.bool false,.bool false] 50;obtain⟨W,hW⟩:∃W,w.alloc (.cells #[.string ⟨#[]⟩,.int .u32 0,.string ⟨#[]⟩,.int .i64 0,.int .u64 0,.int .i64 0,.bool false,.bool false] 50)=W:=⟨_,rfl⟩;rw[hW] at hb0 hA J0;rw[hN] at hA J0;have hc1:=(aG m.s (oh m aF) 105).keep hc (aP.of_below (λ_=>False) hb0) (λ_ _ x=>x);have hm1:=hm.below hb0;have c0:W.cell? ⟨m.s,0,none⟩=some (.pointer (some ⟨m.β.sb,0,none⟩)):=cA hc1 0;have HW:=hid (iG hm1 hw 0 (by decide) (mW m.bs) (mX m.bs) (qx m.bs));have HG:=hid (λn=>ig (hm1.drewN n) hw 0 64 (by decide) (by decide) (by decide) (by show m.bs.length<=_;rw[hh.len];decide));unfold uS at HG;obtain⟨e1,e2,e3⟩:=Sw m.bs hh.len;rw[e1,e2,e3] at HG;obtain⟨t,ht⟩:=hh.pre;have hlen:=jZ hk hx;have htk:m.bs.take 64=encI key x ++ t.take (64-(encI key x).length):=by
  rw[ht,List.take_append,List.take_of_length_le (by omega)]
 have VY:(m.bs.take 64).length=64:=by rw[List.length_take,hh.len];decide
 have hby:I8.P.Bytes (m.bs.take 64):=λy hy=>hh.by' y (List.mem_of_mem_take hy)
 have hde:=I8.M5 key (eX x.v) x.fl 0 x.aF x.last false false (t.take (64-(encI key x).length)) (by
  unfold I8.dm;have:=hx.v;simp[hkr];omega) (by omega) (by have:=hx.v;omega) (by omega) (by have:=hx.fl;omega) (by decide) (by decide) (by omega) (by have:=hx.aF;omega) (by omega) (by have:=hx.last;omega)
 have hR:I8.lC (m.bs.take 64)=itI key x/\I8.lD (m.bs.take 64)=0:=by
  rw[htk];have e:=hde;unfold encI at e;unfold I8.lC I8.lD encI;rw[e.1,if_pos rfl,if_pos rfl,e.2];exact⟨rfl,rfl⟩
 have HD:=hid (λ(W':World) (g cap:Nat) (h:I8.RB W' (.slice (some ⟨g,0,none⟩) 64 cap) (m.bs.take 64)) (h1:64<=cap) (h2:cap<=maxLen)=>I8.Al (m.bs.take 64) (some ⟨g,0,none⟩) 64 cap W' h h1 h2 hby);unfold I8.dJ at HD;rw[hR.1,hR.2] at HD;rw[VY] at HG;unfold itI I8.itV at HD;dsimp only at HD;have HJ:=hid J0;clear hb0 hA hc hm hc1 hm1 hw hh hx hk ht htk VY hby hde hR e1 e2 e3 hlen J0 hkr hd;unfold lL;go_enter func116,ntmps116
 go_wp2_with (first
  |(go_at_call 180;refine HW.out.mono ?_;rintro e w1 ⟨rfl,n,rfl⟩))
 go_at_call 181;refine(HG.out _).mono ?_;rintro e w1 ⟨v,B,dD,rfl,hB,hown,hm2,hs2,hf⟩;obtain⟨g,cap,rfl,h1,h2⟩:∃g cap,v=.slice (some ⟨g,0,none⟩) 64 cap/\64<=cap/\cap<=maxLen:=by
  rcases hown.2 with ⟨_,h0⟩|⟨g,cap,cur,rfl,_,_,h4,h5,_⟩
  ·cases h0
  ·exact⟨g,cap,rfl,h4,h5⟩
 have hrb:I8.RB w1 (.slice (some ⟨g,0,none⟩) 64 cap) (m.bs.take 64):=zR hown;have HDD:=hid (HD.out w1 g cap hrb h1 h2);have J1:=(HJ.out.drewN n).turn 1 rfl (n_ hm2 hs2);have kM:=hid J1;have hsb:=hs2.sb;have hsg:=hs2.g;have HSB:=hid (And.intro hsb hsg);clear hrb hown hm2 hs2 hf hB J1 HJ HG HW HD hsb hsg h1 h2 c0 hW hN;go_wp2_with (fail)
 go_at_call 182;refine HDD.out.mono ?_;rintro e w2 ⟨rfl,hb2⟩;have J2:=(kM.out.below hb2).cells #[.string key,.int .u32 x.fl,.string (eX x.v),.int .i64 0,.int .u64 x.aF,.int .i64 x.last,.bool false,.bool false] 50;obtain⟨Q,hQ⟩:∃Q,w2.heap.size=Q:=⟨_,rfl⟩;obtain⟨V,hV⟩:∃V,w2.alloc (.cells #[.string key,.int .u32 x.fl,.string (eX x.v),.int .i64 0,.int .u64 x.aF,.int .i64 x.last,.bool false,.bool false] 50)=V:=⟨_,rfl⟩;rw[hQ,hV] at J2;have HV:=hid hV;have HJ2:=hid J2;clear J2 hV hb2 kM HDD;go_upto_region 4 with fail
 rw[HV.out];clear HV hQ;obtain⟨x0,x1,x2,x3,x4,x5,x6,x7⟩:ca8 V Q (.string key) (.int .u32 x.fl) (.string (eX x.v)) (.int .i64 0) (.int .u64 x.aF) (.int .i64 x.last) (.bool false) (.bool false):=Ed (HJ2.out.get 0 rfl);obtain⟨r0,u0,r1,u1,r2,u2,r3,u3,r4,u4,r5,u5,r6,u6,r7,u7⟩:NP V N (.string ⟨#[]⟩) (.int .u32 0) (.string ⟨#[]⟩) (.int .i64 0) (.int .u64 0) (.int .i64 0) (.bool false) (.bool false):=Iw (HJ2.out.get 1 rfl);have y1:¬Q=N:=λe=>HJ2.out.apart (i:=0) (j:=1) rfl rfl (by decide) Q rfl e
 have y2:¬N=Q:=λe=>y1 e.symm
 have hs:=aK N 50 [.string key,.int .u32 x.fl,.string (eX x.v),.int .i64 0,.int .u64 x.aF,.int .i64 x.last,.bool false,.bool false] 0 _ _ (HJ2.out.get 1 rfl);have k1:=HJ2.out.turn 1 rfl hs;have h2:=k1.get 1 rfl;rw[show aR 0 [.string key,.int .u32 x.fl,.string (eX x.v),.int .i64 0,.int .u64 x.aF,.int .i64 x.last,.bool false,.bool false] #[.string ⟨#[]⟩,.int .u32 0,.string ⟨#[]⟩,.int .i64 0,.int .u64 0,.int .i64 0,.bool false,.bool false]= #[.string key,.int .u32 x.fl,.string (eX x.v),.int .i64 0,.int .u64 x.aF,.int .i64 x.last,.bool false,.bool false] by simp[aR]] at h2;have h3:=(k1.sub (.cons _ (.cons _ (List.Sublist.refl _)))).one;simp only[aS] at h2 h3;have HE:=hid (And.intro h2 h3);clear hs k1 h2 h3 HJ2;go_wp2_with (fail)
 exact Ot (N:=N) rfl rfl HE.out.1 ⟨rfl,dD,HSB.out.1,HSB.out.2,HE.out.2⟩
theorem Ou(k v:ByteArray)(fl ca la:Int)(w:World):Calls prog 117 #[lL k fl v ca la,.int .i64 1] w λe w'=>e=.returned (.bool false)/\Below w.heap.size w w':=by
 unfold lL;go_enter func117,ntmps117;go_wp2
 go_ret;exact⟨rfl,by go_grown⟩
theorem A_{m:SM}{n:Nat}{xb:Nat}{w:World}(hz:(Sy m).R w)(hn:n<=64)(hx:w.cell? ⟨xb,0,none⟩=some (.int .i64 n)):
 Calls prog 188 #[.slice (some ⟨m.zb,0,none⟩) 4 m.zc,.func (.func 189) #[] #[.pointer (some ⟨xb,0,none⟩)]] w λe w'=>e=.returned (.int .i64 0)/\w=w':=by
 have z0:w.cell? ⟨m.zb,0,none⟩=some (.int .i64 64):=aB hz 0 (Nat.lt_of_lt_of_eq (m:=4) (by decide) rfl);have hn':(n:Int)<=64:=by omega
 clear hz hn;go_enter func188,ntmps188;go_wp2
 go_loop [8] (λi=>i=.int .i64 0) (λ_=>0)
 case atStart=>rfl
 case round=>
  subst hrel;go_wp2
  go_ret;exact⟨rfl,rfl⟩
theorem uA{m:SM}{n:Nat}{w:World}(hz:(Sy m).R w)(hn:n<=64):
 Calls prog 120 #[.slice (some ⟨m.zb,0,none⟩) 4 m.zc,.int .i64 n] w λe w'=>e=.returned (.int .i64 0)/\Below w.heap.size w w':=by
 have Sz:∀(fn:Fn) (first cap:Array Value) (w:World),(Instr.makeFunc fn first cap).run prog w=.ok (.func fn first cap) w:=λ_ _ _ _=>rfl
 have hb:=bA w (.cells #[.int .i64 n] 3);have HI:=hid (A_ (xb:=w.heap.size) ((Sy m).keep hz (aP.of_below (λ_=>False) hb) (λ_ _ x=>x)) hn (cA (aA w #[.int .i64 n] 3) 0));clear hz;go_enter func120,ntmps120;go_wp2_with (go_at_call 188;refine HI.out.mono ?_;rintro e w1 ⟨rfl,rfl⟩)
 go_ret;exact⟨rfl,hb⟩
open PM (Cd An Sd Vl)
def Ba(key:ByteArray)(h:Int)(b:Nat)(m:SM)(aF:Int):List aT:=[aG m.s (oh m aF) 105,fU m.β (fV m.bs) m.L,Sy m,DY m.tb m.rb b m.eb key h 0,Uj m,mM m.ps]
def yN(key:ByteArray)(h:Int)(b:Nat)(m:SM)(aF:Int):aT:=many (Ba key h b m aF)
structure Qm(key:ByteArray)(x:PM.It)(m:SM):Prop where
 wf:Wf (fV m.bs) m.L
 hold:Holds key x m.bs
 it:og x
 held:m.ps.held=true
section
variable{D:Nat->Prop}{w0 w:World}{a b c:aT}{L:List aT}
theorem CR(h:aJ D w0 (a :: b :: c :: L) w):aJ D w0 (a :: b :: c :: L) w:=h
theorem uB(h:aJ D w0 (b :: a :: c :: L) w):aJ D w0 (a :: b :: c :: L) w:=h.perm (.swap _ _ _)
theorem yO(h:aJ D w0 (a :: c :: b :: L) w):aJ D w0 (a :: b :: c :: L) w:=h.perm (.cons _ (.swap _ _ _))
theorem yP(h:aJ D w0 (b :: c :: a :: L) w):aJ D w0 (a :: b :: c :: L) w:=uB (h.perm (.cons _ (.swap _ _ _)))
theorem yQ(h:aJ D w0 (c :: a :: b :: L) w):aJ D w0 (a :: b :: c :: L) w:=yO (h.perm (.swap _ _ _))
theorem CS(h:aJ D w0 (c :: b :: a :: L) w):aJ D w0 (a :: b :: c :: L) w:=yP (h.perm (.swap _ _ _))
end
def JL(b:Nat)(m:SM)(aF:Int):List aT:=[aG m.s (oh m aF) 105,fU m.β wI m.L,Sy m,jH m.tb m.rb b,Uj m,mM m.ps]
structure EJ(m:SM):Prop where
 L0:m.L=0
 held:m.ps.held=false
def gG(key:ByteArray)(h:Int)(b:Nat)(m:SM)(s:Sd):aT:=match s.it with
 |none=>many (JL b m s.tok)
 |some _=>yN key h b m s.tok
def dO(key:ByteArray)(m:SM)(s:Sd):Prop:=match s.it with
 |none=>EJ m
 |some x=>Qm key x m
abbrev uC:=PM.St Sd Cd An
def lV(key:ByteArray):Cd->Cm
 | .get=>{D_ with op:=1,key:=key,aj:=-1}
 | .set fl v=>{D_ with op:=2,key:=key,value:=eX v,flags:=fl,aj:=-1}
def itC(key:ByteArray):Option PM.It->List Value
 |none=>[.string ⟨#[]⟩,.int .u32 0,.string ⟨#[]⟩,.int .i64 0,.int .u64 0,.int .i64 0,.bool false,.bool false]
 |some x=>[.string key,.int .u32 x.fl,.string (eX x.v),.int .i64 0,.int .u64 x.aF,.int .i64 x.last,.bool false,.bool false]
def Ov(key:ByteArray)(a:An):List Value:=.int .i64 a.st :: (itC key a.it ++ [.int .u64 a.num,.bool false,.bool false,.bool false])
def VZ(key:ByteArray)(a:An):Value:=.agg (Ov key a).toArray
def f_(key:ByteArray)(e:PM.Ev Cd An):List Value:=[.int .i64 1,.int .i64 1,.int .i64 e.of,.int .i64 e.seq,.int .i64 0] ++ (lV key e.cmd).vs.toList ++ Ov key e.ans ++ [.slice none 0 0]
def crlf:ByteArray:=⟨#[13,10]⟩
def LX(key:ByteArray):Cd->ByteArray
 | .get=>⟨#[103,101,116,32]⟩ ++ key ++ crlf
 | .set fl v=>⟨#[115,101,116,32]⟩ ++ key ++ ⟨#[32]⟩ ++ dec fl ++ ⟨#[32,48,32]⟩ ++ dec (eX v).size ++ crlf ++ eX v ++ crlf
def iD(key:ByteArray):List Cd->ByteArray
 | []=>⟨#[]⟩
 |c :: l=>LX key c ++ iD key l
def LY(key:ByteArray):Cd×An->ByteArray
 |(.get,a)=>match a.it with
  |none=>⟨#[69,78,68,13,10]⟩
  |some x=>⟨#[86,65,76,85,69,32]⟩ ++ key ++ ⟨#[32]⟩ ++ dec x.fl ++ ⟨#[32]⟩ ++ dec (eX x.v).size ++ crlf ++ eX x.v ++ ⟨#[13,10,69,78,68,13,10]⟩
 |(.set _ _,a)=>⟨#[83,84,79,82,69,68,13,10]⟩
def jK(key:ByteArray):List (Cd×An)->ByteArray
 | []=>⟨#[]⟩
 |x :: l=>LY key x ++ jK key l
theorem JM(x:ByteArray):x ++ (⟨#[]⟩:ByteArray)=x:=ByteArray.ext (by simp[ByteArray.data_append])
theorem JN(x:ByteArray):(⟨#[]⟩:ByteArray) ++ x=x:=ByteArray.ext (by simp[ByteArray.data_append])
theorem JO(key:ByteArray)(l:List (Cd×An))(x:Cd×An):jK key (l ++ [x])=jK key l ++ LY key x:=by
 induction l with
 |nil=>simp only[List.nil_append,jK,JM,JN]
 |cons y l ih=>simp only[List.cons_append,jK,ih,ByteArray.append_assoc]
theorem Bb(key:ByteArray)(l m:List Cd):iD key (l ++ m)=iD key l ++ iD key m:=by
 induction l with
 |nil=>simp only[List.nil_append,iD,JN]
 |cons y l ih=>simp only[List.cons_append,iD,ih,ByteArray.append_assoc]
structure Wl where
 (b cb cc:Nat)
 (av hv:Value)
def vL(l:Wl)(k:PM.Wk Cd An):Array Value:=#[.int .i64 1,.slice (some ⟨l.cb,0,none⟩) 1 l.cc,.bool false,.bool false,.string ⟨#[]⟩,.string ⟨#[]⟩,.int .i64 0,.bool false,.string ⟨#[]⟩,.slice none 0 0,.string ⟨#[]⟩,.int .i64 k.of,.int .i64 k.seq,.int .i64 0,l.av,.int .i64 k.ph,l.hv]
def o_(key:ByteArray)(l:Wl):Option (PM.Wk Cd An)->aT
 |none=>emp
 |some k=>many [aG l.b (vL l k) 143,rowAt (.slice (some ⟨l.cb,0,none⟩) 1 l.cc) 56 16 1 (lV key k.cmd).vs.toList,
  rowAt l.av 52 13 (if k.ph=2 then 1 else 0) (if k.ph=2 then Ov key k.ans else []),rowAt l.hv 3 1 (if k.ph=0 then 0 else 1) (if k.ph=0 then [] else [.int .i64 0])]
def gH(sx:Nat)(f:Nat->Int):aT:=aG sx (fD 18 (λk=>Value.int .u64 (f k))).toArray 156
structure Pl where
 (b mv sx lN nz lh zK pq FT:Nat)
 el:Value
 sn:Nat->Int
 (cb nb:Nat->Nat)
 wp:Nat->Wl
 m:SM
section
variable(key:ByteArray)(h:Int)(bk nw ns nc:Nat)(p:Pl)(s:uC)
def svC:Array Value:=#[.pointer (some ⟨p.m.s,0,none⟩),.pointer (some ⟨p.mv,0,none⟩),.pointer (some ⟨p.sx,0,none⟩),.int .i64 1,.slice (some ⟨p.lN,0,none⟩) nc p.nz,.slice (some ⟨p.lh,0,none⟩) nw p.zK,.slice (some ⟨p.pq,0,none⟩) ns p.FT,p.el]
def tH(w:Nat):Value:=match s.wk w with
 |none=> .pointer none
 |some _=> .pointer (some ⟨(p.wp w).b,0,none⟩)
def hold:Option Nat->Int
 |none=> -1
 |some w=>w
def LZ(j:Nat):Value:=.int .i64 (if j=0 then hold s.holder else-1)
def kN(c:Nat):aT:=(aG (p.cb c) #[.pointer (some ⟨p.nb c,0,none⟩),.int .i64 (s.seq c),.bool (s.busy c)] 86).and (gy (p.nb c) (iD key (s.q c)) (jK key (s.out c)))
def FU:List aT:=[
 aG p.b (svC nw ns nc p) 81,
 rowAt (.slice (some ⟨p.lN,0,none⟩) nc p.nz) 82 1 nc (fD nc (λc=> .pointer (some ⟨p.cb c,0,none⟩))),
 rowAt (.slice (some ⟨p.lh,0,none⟩) nw p.zK) 140 1 nw (fD nw (tH p s)),
 rowAt (.slice (some ⟨p.pq,0,none⟩) ns p.FT) 3 1 ns (fD ns (LZ s)),
 rowAt p.el 136 35 s.ev.length (s.ev.flatMap (f_ key)),
 gG key h bk p.m s.data,
 gH p.sx p.sn,
 gp nc (kN key p s),
 gp nw (λw=>o_ key (p.wp w) (s.wk w))]
def dZ:aT:=many (FU key h bk nw ns nc p s)
end
open PM (Cd An Sd Vl upd upd_same upd_ne)
section
variable{key:ByteArray}{h:Int}{bk nw ns nc:Nat}{p:Pl}{s s':uC}{w w':World}{c:Nat}
theorem om(hR:(dZ key h bk nw ns nc p s).R w)(hc:c<nc):
 Calls prog 40 #[.pointer (some ⟨p.b,0,none⟩),.int .i64 c] w λe w'=>e=.returned (.pointer (some ⟨p.cb c,0,none⟩))/\w=w':=by
 have H:=aJ.open hR;have a4:w.cell? ⟨p.b,4,none⟩=some (.slice (some ⟨p.lN,0,none⟩) nc p.nz):=cA (H.get 0 rfl) 4;have r0:w.cell? ⟨p.lN,c,none⟩=some (.pointer (some ⟨p.cb c,0,none⟩)):=by rw[aB (H.get 1 rfl) c (by rw[eB];exact hc),bP hc]
 have h1:¬(nc:Int)<=c:=by omega
 have h2:(c:Int)<nc:=by omega
 clear H hR;go_enter func40,ntmps40;go_wp2
 go_ret;exact⟨rfl,rfl⟩
theorem CU(hR:(dZ key h bk nw ns nc p s).R w)(hc:c<nc)(h1:∀d,d≠c->s'.q d=s.q d/\s'.out d=s.out d)
 (h2:s'.busy=s.busy/\s'.seq=s.seq/\s'.wk=s.wk/\s'.holder=s.holder/\s'.data=s.data/\s'.ev=s.ev)
 (t:ag (gy (p.nb c) (iD key (s.q c)) (jK key (s.out c))) (gy (p.nb c) (iD key (s'.q c)) (jK key (s'.out c))) w w'):ag (dZ key h bk nw ns nc p s) (dZ key h bk nw ns nc p s') w w':=by
 have H:=aJ.open hR;have g7:(gp nc (kN key p s)).R w:=H.get 7 rfl;have t1:=fo g7 hc (t.right (bz g7 hc));obtain⟨q,busy,seq,out,wk,holder,data,ev⟩:=s;obtain⟨q',JP,seq',out',wk',CV,data',ev'⟩:=s';obtain⟨e1,e2,e3,e4,e5,e6⟩:=h2;dsimp only at e1 e2 e3 e4 e5 e6 h1 t t1;subst e1 e2 e3 e4 e5 e6;have e:∀r,r=(aG (p.cb c) #[.pointer (some ⟨p.nb c,0,none⟩),.int .i64 (seq' c),.bool (JP c)] 86).and (gy (p.nb c) (iD key (q' c)) (jK key (out' c)))->upd (kN key p ⟨q,JP,seq',out,wk',CV,data',ev'⟩) c r=kN key p ⟨q',JP,seq',out',wk',CV,data',ev'⟩:=λr hr=>by
  funext d;by_cases e:d=c
  ·subst e;rw[upd_same,hr];rfl
  ·rw[upd_ne _ _ e];unfold kN;dsimp only;rw[(h1 d e).1,(h1 d e).2]
 rw[e _ rfl] at t1;exact(H.turn 7 rfl t1).shut
theorem EK{n:Int}(hR:(dZ key h bk nw ns nc p s).R w)(hc:c<nc)(hn:((jK key (s.out c)).size:Int)<=n):
 Calls prog 29 #[.pointer (some ⟨p.b,0,none⟩),.int .i64 c,.int .i64 n] w λe w'=>e=.returned (.string (jK key (s.out c)))/\ag (dZ key h bk nw ns nc p s) (dZ key h bk nw ns nc p (PM.wr s c)) w w':=by
 have H:=aJ.open hR;have HC:=hid (om hR hc);have g7:(gp nc (kN key p s)).R w:=H.get 7 rfl;have k0:w.cell? ⟨p.cb c,0,none⟩=some (.pointer (some ⟨p.nb c,0,none⟩)):=cA (bz g7 hc).1 0;have HF:=hid (yA (bz g7 hc).2.1 hn);have HT:=hid (λw' t=>CU (s':=PM.wr s c) (w':=w') hR hc (λd e=>⟨rfl,upd_ne _ _ e⟩) ⟨rfl,rfl,rfl,rfl,rfl,rfl⟩ t);have e1:jK key ((PM.wr s c).out c)=⟨#[]⟩:=by
  show jK key (upd s.out c [] c)=_;rw[upd_same];rfl
 rw[e1] at HT;clear H hR g7 e1 hn;go_enter func29,ntmps29
 go_wp2_with (first
  |(go_at_call 40;refine HC.out.mono ?_;rintro e w1 ⟨rfl,rfl⟩)
  |(go_at_call 78;refine HF.out.mono ?_;rintro e w1 ⟨rfl,ht⟩))
 go_ret;exact⟨rfl,HT.out _ ht⟩
end
section
variable{T E size bytes:Nat}{W:World}{v:Value}{n:Nat}{xs news:List Value}
theorem JQ{ops:Array Oper}{rest:List Oper}{o:Oper}{a:Act}{Q:Exit->Act->World->Prop}(m:Nat)(X:Elem T E size bytes)(hgd:o.guard=none)(s x:Operand)(p:Addr)(c:Nat)
 (ho:o.op=.call {callee:=.builtin .append,args:=#[s,x],argTypes:=#[T,T]}) (hs:a.eval s=v) (hr:(rowAt v E size n xs).R W)
 (hx:a.eval x=.slice (some p) m c) (hl:news.length=m*size) (hnews:∀j u,news[j]?=some u->W.cell? (p.add j)=some u) (h1:∀u∈news,u.oneCell'=true) (hm:0<m) (hn:n+m<=100000000) (hb:bytes<=100000)
 (h:∀g cap w',ag (rowAt v E size n xs) (rowAt (.slice (some ⟨g,0,none⟩) (n+m) cap) E size (n+m) (xs ++ news)) W w'->wpList prog ops Q rest (a.put o.dst (.slice (some ⟨g,0,none⟩) (n+m) cap)) w'):
 wpList prog ops Q (o :: rest) a W:=by
 obtain⟨z,hi,hzs⟩:=X.hi;obtain⟨i0,hi0,hz0,hz1,hz2⟩:=info_parts hi;refine wpList_append_lies W hgd s x T ho 0 E i0 z size bytes X.ht hi0 hz0 hz1 hz2 hzs X.pos v n xs hs hr p m c news hx (by omega) hnews h1 (by omega) (by unfold maxLen;omega) ?_ (Nat.zero_le _) W.heap.size rfl ?_
 ·have:(n+m)*bytes<=100000000*100000:=Nat.mul_le_mul hn hb;omega
 ·intro g cap w' ho' hg hnw hlt;refine h g cap w' ⟨ho',aP.bC hg,λb hb=>?_⟩;have hb:some g=some b:=hb;cases hb;rcases hnw with h2|h2
  ·exact .inl h2
  ·exact .inr (by omega)
end
theorem CW:Elem 62 136 35 296:=⟨underlying62,⟨.agg #[.int .i64 0,.int .i64 0,.int .i64 0,.int .i64 0,.int .i64 0,.int .i64 0,.int .i64 0,.string ⟨#[]⟩,.string ⟨#[]⟩,.int .u32 0,.int .i64 0,.bool false,.int .u64 0,.bool false,.int .u64 0,.int .u64 0,.bool false,.bool false,.int .i64 0,.int .i64 0,.bool false,.int .i64 0,.string ⟨#[]⟩,.int .u32 0,.string ⟨#[]⟩,.int .i64 0,.int .u64 0,.int .i64 0,.bool false,.bool false,.int .u64 0,.bool false,.bool false,.bool false,.slice none 0 0],by kernel_rfl,by kernel_rfl⟩,by decide⟩
theorem JS(w:World):Calls prog 76 #[.slice none 0 0] w λe w'=>e=.returned (.slice none 0 0)/\w=w':=by
 have qT:∀(w:World) (a:Option Addr) (n c n' c':Nat),(binOp .eql 31 (.slice a n c) (.slice none n' c')).run prog w=.ok (.bool (a.isNone)) w:=λw a n c n' c'=>Lib.run_eql_slice_nil w _ _ a n c n' c' underlying31
 go_enter func76,ntmps76;go_wp2
 go_ret;exact⟨rfl,rfl⟩
theorem Ow(key:ByteArray)(x:Cd):(lV key x).vs.toList.length=16:=rfl
theorem Ox(key:ByteArray)(a:An):(Ov key a).length=13:=by
 obtain⟨st,it,num⟩:=a;cases it<;>rfl
theorem jk(key:ByteArray)(e:PM.Ev Cd An):(f_ key e).length=35:=by
 unfold f_;rw[List.length_append,List.length_append,List.length_append,Ow,Ox];rfl
theorem CX(key:ByteArray)(e:PM.Ev Cd An):∀u∈f_ key e,u.oneCell'=true:=by
 obtain⟨o,n,x,st,it,num⟩:=e;cases it<;>simp[f_,Ov,itC,Cm.vs,Value.oneCell']
theorem yR(key:ByteArray)(e:PM.Ev Cd An):(f_ key e)[34]?=some (.slice none 0 0):=by
 obtain⟨o,n,x,st,it,num⟩:=e;cases it<;>rfl
section
variable{key:ByteArray}{h:Int}{bk nw ns nc n:Nat}{p:Pl}{s s':uC}{w w':World}{c:Nat}{cv:Value}{e1 e2:PM.Ev Cd An}
theorem JU{xb c:Nat}(hR:(rowAt (.slice (some ⟨xb,0,none⟩) 2 c) 136 35 2 (f_ key e1 ++ f_ key e2)).R w):
 Calls prog 75 #[.slice (some ⟨xb,0,none⟩) 2 c] w λe w'=> ∃g cap,e=.returned (.slice (some ⟨g,0,none⟩) 2 cap)/\Made (rowAt (.slice (some ⟨g,0,none⟩) 2 cap) 136 35 2 (f_ key e1 ++ f_ key e2)) w w':=by
 have qT:∀(w:World) (a:Option Addr) (n c n' c':Nat),(binOp .eql 62 (.slice a n c) (.slice none n' c')).run prog w=.ok (.bool (a.isNone)) w:=λw a n c n' c'=>Lib.run_eql_slice_nil w _ _ a n c n' c' underlying62
 have hlen:(f_ key e1 ++ f_ key e2).length=2*35:=by rw[List.length_append,jk,jk]
 have hxb:xb<w.heap.size:=(rowAt (.slice (some ⟨xb,0,none⟩) 2 c) 136 35 2 (f_ key e1 ++ f_ key e2)).lt hR rfl;have M0:=nX w 136 35;have hc':∀j u,(f_ key e1 ++ f_ key e2)[j]?=some u->(w.alloc (.cells #[] 136)).cell? ((⟨xb,0,none⟩:Addr).add j)=some u:=λj u hj=>by
  have hc:w.cell? ⟨xb,j,none⟩=some u:=by
   rw[aB hR j (List.getElem?_eq_some_iff.1 hj).1];exact hj
  have h:=((bA w (.cells #[] 136)).cell (p:=⟨xb,j,none⟩) hxb).trans hc;cases j<;>simpa[Addr.add] using h
 have HC:=hid hc';have hone:∀u∈f_ key e1 ++ f_ key e2,u.oneCell'=true:=λu hu=>(List.mem_append.1 hu).elim (CX key e1 u) (CX key e2 u)
 have HL:=hid hlen;have HO:=hid hone;clear hR hc' hlen hone;go_enter func75,ntmps75;go_wp2_with (at_builtin;go_must (refine JQ 2 CW rfl _ _ ⟨xb,0,none⟩ c rfl rfl M0.here rfl HL.out HC.out HO.out (by omega) (by omega) (by omega) ?_))
 intro g cap w2 ht;go_wp2
 go_ret;exact⟨g,cap,rfl,M0.turn ht⟩
theorem dW{α:Type}{xs:List α}{i:Nat}{v:α}(h:xs[i]?=some v):xs.set i v=xs:=by
 apply List.ext_getElem?;intro j;rw[List.getElem?_set];split
 ·rename_i e;subst e;obtain⟨hi,e⟩:=List.getElem?_eq_some_iff.1 h;rw[if_pos hi,h]
 ·rfl
theorem CY(i:Nat)(hi:i<2):(f_ key e1 ++ f_ key e2)[35*i+34]?=some (.slice none 0 0):=by
 rcases(by omega:i=0\/i=1) with rfl|rfl
 ·rw[List.getElem?_append_left (by rw[jk];omega)];exact yR key e1
 ·rw[List.getElem?_append_right (by rw[jk];omega),jk];exact yR key e2
theorem EL(hev:s.ev= [e1,e2])(hR:(dZ key h bk nw ns nc p s).R w):
 Calls prog 25 #[.pointer (some ⟨p.b,0,none⟩)] w λe w'=> ∃g cap,e=.returned (.slice (some ⟨g,0,none⟩) 2 cap)/\Made (rowAt (.slice (some ⟨g,0,none⟩) 2 cap) 136 35 2 (f_ key e1 ++ f_ key e2)) w w':=by
 have H:=aJ.open hR;have hrow:(rowAt p.el 136 35 s.ev.length (s.ev.flatMap (f_ key))).R w:=H.get 4 rfl;have hel:∃xb c,p.el=.slice (some ⟨xb,0,none⟩) 2 c:=by
  rcases hrow.2 with ⟨_,h0⟩|⟨g,cap,cur,e,_⟩
  ·rw[hev] at h0;cases h0
  ·rw[hev] at e;exact⟨_,_,e⟩
 obtain⟨xb,c,hel⟩:=hel;rw[hel,hev] at hrow;have hrow':(rowAt (.slice (some ⟨xb,0,none⟩) 2 c) 136 35 2 (f_ key e1 ++ f_ key e2)).R w:=by
  have e: [e1,e2].flatMap (f_ key)=f_ key e1 ++ f_ key e2:=by simp
  rw[e] at hrow;exact hrow
 have k7:w.cell? ⟨p.b,7,none⟩=some (.slice (some ⟨xb,0,none⟩) 2 c):=by rw[<-hel];exact cA (H.get 0 rfl) 7
 have HC:=hid (JU hrow');have HS:=hid (λw=>JS w);clear hR H hrow hrow' hel hev;go_enter func25,ntmps25;go_wp2_with (go_at_call 75;refine HC.out.mono ?_;rintro e w1 ⟨g,cap,rfl,hm⟩;have HM:=hid hm;clear hm)
 go_loopw [12] (λi wr=> ∃n:Nat,n<=2/\i=.int .i64 n/\Hid (Made (rowAt (.slice (some ⟨g,0,none⟩) 2 cap) 136 35 2 (f_ key e1 ++ f_ key e2)) w wr)) (λi _=>2-(intOf i).toNat)
 case atStart=>exact⟨0,by omega,rfl,HM⟩
 case round=>
  obtain⟨n,hn,rfl,hs⟩:=hrel;by_cases h2:n<2
  ·have hlen:(f_ key e1 ++ f_ key e2).length=70:=by rw[List.length_append,jk,jk]
   have c34:wr.cell? ⟨g,35*n+34,none⟩=some (.slice none 0 0):=by rw[aB hs.out.here _ (by rw[hlen];omega)];exact CY n h2
   have z34:=bn hs.out.here (35*n+34);have HT:=hid (aM hs.out.here (35*n+34) (.slice none 0 0));rw[dW (CY n h2)] at HT;clear hlen;rcases(by omega:n=0\/n=1) with rfl|rfl
   ·simp only[Nat.mul_zero,Nat.zero_add,Nat.mul_one] at c34 z34 HT;go_wp2_with (go_at_call 76;refine(HS.out _).mono ?_;rintro e w2 ⟨rfl,rfl⟩)
    go_roundw;case rel=>exact⟨1,by omega,by first|rfl|simp,hid (hs.out.turn HT.out)⟩
    case measure=>simp[intOf]
   ·simp only[Nat.mul_one,Nat.reduceAdd] at c34 z34 HT;go_wp2_with (go_at_call 76;refine(HS.out _).mono ?_;rintro e w2 ⟨rfl,rfl⟩)
    go_roundw;case rel=>exact⟨2,by omega,by first|rfl|simp,hid (hs.out.turn HT.out)⟩
    case measure=>simp[intOf]
  ·obtain rfl:n=2:=by omega
   go_wp2_with (fail)
   go_ret;exact⟨g,cap,rfl,hs.out⟩
end
theorem JW(w:World):Calls prog 35 #[] w λe w'=>e=.returned (.pointer (some ⟨w.heap.size,0,none⟩))/\Made (gy w.heap.size ⟨#[]⟩ ⟨#[]⟩) w w':=by
 go_enter func35,ntmps35;go_wp2
 go_ret;exact⟨rfl,Made.cells w #[.string ⟨#[]⟩,.string ⟨#[]⟩,.int .i64 0,.bool false] 160⟩
theorem Oy:Elem 79 82 1 8:=⟨underlying79,⟨.pointer none,by kernel_rfl,by kernel_rfl⟩,by decide⟩
section
variable{key:ByteArray}{h:Int}{bk nw ns nc n:Nat}{p:Pl}{s s':uC}{w w':World}{c:Nat}{cv:Value}
def SA(key:ByteArray)(h:Int)(bk nw ns n:Nat)(p:Pl)(cv:Value):List aT:=[
 aG p.b #[.pointer (some ⟨p.m.s,0,none⟩),.pointer (some ⟨p.mv,0,none⟩),.pointer (some ⟨p.sx,0,none⟩),.int .i64 1,cv,.slice (some ⟨p.lh,0,none⟩) nw p.zK,.slice (some ⟨p.pq,0,none⟩) ns p.FT,p.el] 81,
 rowAt cv 82 1 n (fD n (λc=> .pointer (some ⟨p.cb c,0,none⟩))),
 rowAt (.slice (some ⟨p.lh,0,none⟩) nw p.zK) 140 1 nw (fD nw (tH p PM.nk)),
 rowAt (.slice (some ⟨p.pq,0,none⟩) ns p.FT) 3 1 ns (fD ns (LZ PM.nk)),
 rowAt p.el 136 35 0 [],
 gG key h bk p.m PM.UT,
 gH p.sx p.sn,
 gp n (kN key p PM.nk),
 gp nw (λw=>o_ key (p.wp w) none)]
theorem JX{E n size:Nat}{v:Value}{xs:List Value}{w:World}(h:(rowAt v E size n xs).R w):∃a c,v=.slice a n c:=by
 rcases h.2 with ⟨rfl,h0⟩|⟨g,cap,cur,rfl,_⟩
 ·exact⟨none,0,by rw[h0]⟩
 ·exact⟨_,_,rfl⟩
def Pl.more(p:Pl)(n cb nb lN nz:Nat):Pl:={p with cb:=upd p.cb n cb,nb:=upd p.nb n nb,lN:=lN,nz:=nz}
theorem Oz{cb nb lN nz j:Nat}(hj:j<n):kN key (p.more n cb nb lN nz) PM.nk j=kN key p PM.nk j:=by
 unfold kN Pl.more;dsimp only;rw[upd_ne _ _ (by omega),upd_ne _ _ (by omega)]
theorem CZ{cb nb lN nz:Nat}:kN key (p.more n cb nb lN nz) PM.nk n=(aG cb #[.pointer (some ⟨nb,0,none⟩),.int .i64 0,.bool false] 86).and (gy nb ⟨#[]⟩ ⟨#[]⟩):=by
 unfold kN Pl.more;dsimp only;rw[upd_same,upd_same];rfl
theorem yS{cb nb lN nz:Nat}:gp n (kN key (p.more n cb nb lN nz) PM.nk)=gp n (kN key p PM.nk):=by
 unfold gp;rw[gV (λj hj=>Oz hj)]
theorem JY{cb nb lN nz:Nat}:fD n (λc=>Value.pointer (some ⟨p.cb c,0,none⟩)) ++ [.pointer (some ⟨cb,0,none⟩)]=fD (n+1) (λc=>Value.pointer (some ⟨(p.more n cb nb lN nz).cb c,0,none⟩)):=by
 rw[rQ];have e1:(p.more n cb nb lN nz).cb n=cb:=upd_same _ _ _;rw[e1];congr 1;refine gV (λj hj=>?_);have e2:(p.more n cb nb lN nz).cb j=p.cb j:=upd_ne _ _ (by omega);rw[e2]
theorem JZ{cb nb g cap:Nat}{a:Option Addr}{cc:Nat}{D:Nat->Prop}{w0:World}
 (J:aJ D w0 ((aG cb #[.pointer (some ⟨nb,0,none⟩),.int .i64 0,.bool false] 86).and (gy nb ⟨#[]⟩ ⟨#[]⟩) :: (((SA key h bk nw ns n p (.slice a n cc)).set 1 (rowAt (.slice (some ⟨g,0,none⟩) (n+1) cap) 82 1 (n+1) (fD n (λc=> .pointer (some ⟨p.cb c,0,none⟩)) ++ [.pointer (some ⟨cb,0,none⟩)]))).set 0
  (aG p.b #[.pointer (some ⟨p.m.s,0,none⟩),.pointer (some ⟨p.mv,0,none⟩),.pointer (some ⟨p.sx,0,none⟩),.int .i64 1,.slice (some ⟨g,0,none⟩) (n+1) cap,.slice (some ⟨p.lh,0,none⟩) nw p.zK,.slice (some ⟨p.pq,0,none⟩) ns p.FT,p.el] 81))) w):
 aJ D w0 (FU key h bk nw ns (n+1) (p.more n cb nb g cap) PM.nk) w:=by
 have J2:=J.push 7 rfl (r':=gp (n+1) (kN key (p.more n cb nb g cap) PM.nk)) (λha hx hap=>by
  rw[<-yS (cb:=cb) (nb:=nb) (lN:=g) (nz:=cap)] at ha hap;rw[<-CZ (key:=key) (p:=p) (n:=n) (lN:=g) (nz:=cap)] at hx hap;exact RH ha hx hap) (λb hb=>by
  obtain⟨r,hr,hb⟩:=hb;rw[rQ] at hr;rcases List.mem_append.1 hr with h1|h1
  ·refine .inl ?_;rw[<-yS (cb:=cb) (nb:=nb) (lN:=g) (nz:=cap)];exact⟨r,h1,hb⟩
  ·refine .inr ?_;rw[List.mem_singleton.1 h1,CZ] at hb;exact hb)
 rw[JY (p:=p) (nb:=nb) (lN:=g) (nz:=cap)] at J2;exact J2
theorem OA(hR:(many (SA key h bk nw ns n p cv)).R w)(hn:n<8):
 Calls prog 10 #[.pointer (some ⟨p.b,0,none⟩)] w λe w'=>e=.returned (.int .i64 n)/\∃p':Pl,p'.b=p.b/\p'.m=p.m/\ag (many (SA key h bk nw ns n p cv)) (dZ key h bk nw ns (n+1) p' PM.nk) w w':=by
 have H:=aJ.open hR;obtain⟨a,cc,rfl⟩:=JX (H.get 1 rfl);have a4:w.cell? ⟨p.b,4,none⟩=some (.slice a n cc):=cA (H.get 0 rfl) 4;have HM:=hid (λw=>JW w);have hn8:((n:Int) == 8)=false:=by simp;omega
 have hn9:(n:Int)<=8:=by omega
 have HH:=hid H;have HN:=hid hn;clear hR H hn;go_enter func10,ntmps10;go_wp2_with (fail)
 go_upto_region 3 with fail
 have S0:w.drew.cell? ⟨p.b,4,none⟩=some (.slice a n cc):=a4;refine aQ (λw'=>w'.cell? ⟨p.b,4,none⟩=some (.slice a n cc)) 12 (by kernel_rfl) S0 (λhHeld=>?_);refine bY 0 rfl ?_;refine bY 1 rfl ?_;refine bY 2 rfl ?_;refine bY 3 rfl ?_;refine bM 4 rfl ?_;(try simp only[lz])
 refine aC (rs:=[5]) (by as_aux_lemma=>kernel_rfl) (by simp) ?_;refine ax.cons (o:=_) rfl (λK hK=>?_) ax.nil;rw[if_pos (by as_aux_lemma=>rfl)];(try simp only[gI])
 go_simp;(go_at_call 35;refine(HM.out _).mono ?_;rintro e w1 ⟨rfl,hm1⟩;have sH:=hid hm1;clear hm1)
 (try (go_wp2_with fail))
 refine hK.out _ _ (cA ((HH.out.drew.made sH.out).get 1 rfl) 4) (λhS5=>?_);clear hK K;(try simp only[lz])
 refine aC (rs:=[6]) (by as_aux_lemma=>kernel_rfl) (by simp) ?_;refine ax.cons (o:=_) rfl (λK hK=>?_) ax.nil;rw[if_pos (by as_aux_lemma=>rfl)];(try simp only[gI])
 go_simp;refine hK.out _ _ (by assumption) (λhS6=>?_);clear hK K;(try simp only[lz])
 refine aC (rs:=[7]) (by as_aux_lemma=>kernel_rfl) (by simp) ?_;refine ax.cons (o:=_) rfl (λK hK=>?_) ax.nil;rw[if_pos (by as_aux_lemma=>rfl)];(try simp only[gI])
 go_simp;refine hK.out _ _ (cA (((HH.out.drew.made sH.out).alloc _).get 1 rfl) 4) (λUF=>?_);clear hK K;(try simp only[lz])
 refine aC (rs:=[8]) (by as_aux_lemma=>kernel_rfl) (by simp) ?_;refine ax.cons (o:=_) rfl (λK hK=>?_) ax.nil;rw[if_pos (by as_aux_lemma=>rfl)];(try simp only[gI])
 go_simp;refine hK.out _ _ (cA ((((HH.out.drew.made sH.out).alloc _).alloc _).get 1 rfl) 4) (λhS8=>?_);clear hK K;(try simp only[lz])
 have m2:=(sH.out.and (Made.cells w1 #[.pointer (some ⟨w.heap.size,0,none⟩),.int .i64 0,.bool false] 86)).conv (r':=(aG w1.heap.size #[.pointer (some ⟨w.heap.size,0,none⟩),.int .i64 0,.bool false] 86).and (gy w.heap.size ⟨#[]⟩ ⟨#[]⟩)) (λh=>⟨h.2.1,h.1,λb x y=>h.2.2 b y x⟩) (λb hb=>hb.elim .inr .inl);have J2:=HH.out.drew.made m2;have HJ2:=hid J2;clear m2 J2;refine aC (rs:=[9]) (by as_aux_lemma=>kernel_rfl) (by simp) ?_;refine ax.cons (o:=_) rfl (λK hK=>?_) ax.nil;(refine jb Oy rfl _ _ (by rfl) (by rfl) (HJ2.out.get 2 rfl) (by simp only[World.size_alloc];rfl) rfl (by simp[Value.oneCell']) (by omega) (by omega) ?_;intro g cap w2 ht)
 refine hK.out _ _ (cA ((HJ2.out.turn 2 rfl ht).get 1 rfl) 4) (λZY=>?_);clear hK K;(try simp only[lz])
 have J3:=HJ2.out.turn 2 rfl ht;have J4:=J3.turn 1 rfl (ai (J3.get 1 rfl) 4 (.slice (some ⟨g,0,none⟩) (n+1) cap));have b4:w2.cell? ⟨p.b,4,none⟩=some (.slice a n cc):=cA (J3.get 1 rfl) 4;have z4:w2.frozen? ⟨p.b,4,none⟩=false:=cZ (J3.get 1 rfl) 4;have b5:(w2.setCell ⟨p.b,4,none⟩ (.slice (some ⟨g,0,none⟩) (n+1) cap)).cell? ⟨p.b,4,none⟩=some (.slice (some ⟨g,0,none⟩) (n+1) cap):=cA (J4.get 1 rfl) 4;have HE:=hid (JZ J4).shut;clear J3 J4 ht;refine bY 10 rfl ?_;refine bY 11 rfl ?_;(try simp only[lz])
 refine aC (rs:=[12]) (by as_aux_lemma=>kernel_rfl) (by simp) ?_;refine ax.last (o:=_) rfl (λK hK=>?_);rw[if_pos (by as_aux_lemma=>rfl)];(try simp only[gI])
 go_simp;refine hK.out _ _ trivial (λ_=>?_);clear hK K;(try simp only[lz])
 refine aN (by as_aux_lemma=>kernel_rfl) ?_ _;go_wp2_with (fail)
 go_ret;refine⟨by first|rfl|simp,p.more n w1.heap.size w.heap.size g cap,rfl,rfl,HE.out⟩
end
section
variable{D:Nat->Prop}{w0 w:World}{L L2:List aT}
theorem aJ.yT(h:aJ D w0 L w)(ix:List Nat)(hn:ix.Nodup)(he:L2.map some=ix.map (λi=>L[i]?)):aJ D w0 L2 w:=by
 have hlen:L2.length=ix.length:=by have:=congrArg List.length he;simpa using this
 have hget:∀a (ha:a<L2.length),L[ix[a]'(by omega)]?=some L2[a]:=λa ha=>by
  have h1:=congrArg (λl=>l[a]?) he;simp only[List.getElem?_map,List.getElem?_eq_getElem ha,List.getElem?_eq_getElem (show a<ix.length by omega),Option.map_some,Option.some.injEq] at h1;exact h1.symm
 refine⟨λr hr=>?_,List.pairwise_iff_getElem.2 λa b ha hb hab=>?_,λr hr=>?_,h.bL⟩
 ·obtain⟨a,ha,rfl⟩:=List.mem_iff_getElem.1 hr;exact h.all _ (List.mem_of_getElem? (hget a ha))
 ·refine λx hx=>h.apart (hget a ha) (hget b hb) (λe=>?_) x hx
  have:=(List.getElem_inj hn).1 e;omega
 ·obtain⟨a,ha,rfl⟩:=List.mem_iff_getElem.1 hr;exact h.lo _ (List.mem_of_getElem? (hget a ha))
theorem aJ.use{P:Prop}(h:aJ D w0 L w)(f:aJ D w0 L w->P):P:=f h
theorem jo(h:aJ D w0 L w)(E z:Nat):aJ D w0 (rowAt (.slice none 0 0) E z 0 [] :: L) w:=by
 have hn:∀b,¬(rowAt (.slice none 0 0) E z 0 []).B b:=λb hb=>by
  have e:(none:Option Nat)=some b:=hb;cases e
 refine⟨λr hr=>?_,List.pairwise_cons.2 ⟨λr hr b hb=>absurd hb (hn b),h.ap⟩,λr hr b hb=>?_,h.bL⟩
 ·rcases List.mem_cons.1 hr with rfl|h1
  ·exact eu _ _ _
  ·exact h.all r h1
 ·rcases List.mem_cons.1 hr with rfl|h1
  ·exact absurd hb (hn b)
  ·exact h.lo r h1 b hb
theorem vM{r:aT}(h:aJ D w0 L w)(hR:r.R w)(hn:∀b,¬r.B b):aJ D w0 (r :: L) w:=by
 refine⟨λs hr=>?_,List.pairwise_cons.2 ⟨λs hr b hb=>absurd hb (hn b),h.ap⟩,λs hr b hb=>?_,h.bL⟩
 ·rcases List.mem_cons.1 hr with rfl|h1
  ·exact hR
  ·exact h.all s h1
 ·rcases List.mem_cons.1 hr with rfl|h1
  ·exact absurd hb (hn b)
  ·exact h.lo s h1 b hb
theorem EM{g n:Nat}{vs:Array Value}{t:TypeId}(h:(aG g vs t).R w)(hs:vs.size=n)(hm:n<=maxLen):(rowAt (.slice (some ⟨g,0,.none⟩) n n) t 1 n vs.toList).R w:=
 ⟨by simp[hs],.inr ⟨g,n,vs,rfl,Nat.zero_le _,h,Nat.le_refl _,hm,by simp[hs],by rw[Nat.mul_one,<-hs,<-Array.length_toList,List.take_length]⟩⟩
end
end Go.Proofs.YtboehbfagnocpaaGreatDoor
namespace Go.Proofs.YtboehbfagnocpaaGreatDoor.SZ
open Go.RowKit Go.PlainAid
namespace M
def step(f x:Int):Int:=max (x+8) ((x*f / 100+7) / 8*8)
def gen(f h:Int):Nat->Int->List Int
 |0,_=>[]
 |n+1,x=>if x<=h then x :: gen f h n (step f x) else []
def Qn(p f:Int):Prop:=p<512\/65536<p\/p % 8≠0\/f<105\/400<f
instance(p f:Int):Decidable (Qn p f):=by unfold Qn;infer_instance
def row(p f:Int):List Int:=if Qn p f then [] else gen f (p / 2) 62 64 ++ [p]
def errno(p f:Int):Int:=if Qn p f then 1 else 0
theorem ZZ(x f:Int)(hf:105<=f)(hf':f<=400)(hx:0<=x):x*105<=x*f/\x*f<=x*400:=
 ⟨Int.mul_le_mul_of_nonneg_left hf hx,Int.mul_le_mul_of_nonneg_left hf' hx⟩
theorem OB(f x:Int):x+8<=step f x:=by unfold step;omega
theorem C8(f h:Int)(n:Nat)(x:Int)(hx:x<=h):gen f h (n+1) x=x :: gen f h n (step f x):=by rw[gen,if_pos hx]
theorem OC(f h:Int)(n:Nat)(x:Int)(hx:¬x<=h):gen f h n x= []:=by
 cases n with
 |zero=>rfl
 |succ n=>rw[gen,if_neg hx]
theorem EN(f h:Int)(hh:64<=h):gen f h 62 64=64 :: gen f h 61 (step f 64):=C8 f h 61 64 hh
end M
theorem qH(n:Int):bits .and .i64 n 7=n % 8:=by
 have h127:(BitVec.ofInt 64 7).toNat=2 ^ 3-1:=by decide
 have key:(BitVec.ofInt 64 n &&& BitVec.ofInt 64 7).toNat=(n % ((2 ^ 64:Nat):Int)).toNat % 2 ^ 3:=by
  rw[BitVec.toNat_and,BitVec.toNat_ofInt,h127,Nat.and_two_pow_sub_one_eq_mod]
 show IntKind.i64.wrap ((BitVec.ofInt 64 n &&& BitVec.ofInt 64 7).toNat:Nat)=n % 8;rw[key,IntKind.wrap_i64];omega
theorem SC(n:Nat)(h:n<9223372036854775808):n &&& 18446744073709551608=n / 8*8:=by
 apply Nat.eq_of_testBit_eq;intro i;rw[Nat.testBit_and];match i with
 |0=>simp[Nat.testBit_zero];omega
 |1=>rw[Nat.testBit_succ,Nat.testBit_succ,Nat.testBit_succ];simp[Nat.testBit_zero];omega
 |2=>rw[Nat.testBit_succ,Nat.testBit_succ,Nat.testBit_succ,Nat.testBit_succ,Nat.testBit_succ,Nat.testBit_succ];simp[Nat.testBit_zero];omega
 |i+3=>
  simp only[Nat.testBit_succ];have e1:n / 8*8 / 2 / 2 / 2=n / 8:=by omega
  have e2:n / 2 / 2 / 2=n / 8:=by omega
  have e3:18446744073709551608 / 2 / 2 / 2=2 ^ 61-1:=by decide
  rw[e1,e2,e3,Nat.testBit_two_pow_sub_one];by_cases hi:i<61
  ·simp[hi]
  ·have:n / 8<2 ^ i:=Nat.lt_of_lt_of_le (show n / 8<2 ^ 61 by omega) (Nat.pow_le_pow_right (by decide) (by omega));simp[hi,Nat.testBit_lt_two_pow this]
theorem yU(n:Nat)(h:n<9223372036854775808):bits .andNot .i64 (n:Int) 7=((n / 8*8:Nat):Int):=by
 show IntKind.i64.wrap ((BitVec.ofInt 64 (n:Int) &&& ~~~BitVec.ofInt 64 7).toNat:Int)=_;have h1:(~~~BitVec.ofInt 64 7).toNat=18446744073709551608:=by decide
 have h2:(BitVec.ofInt 64 (n:Int)).toNat=n:=by
  rw[BitVec.ofInt_natCast,BitVec.toNat_ofNat];exact Nat.mod_eq_of_lt (by omega)
 rw[BitVec.toNat_and,h1,h2,SC n h,IntKind.wrap_i64];omega
theorem vN(n:Int)(h0:0<=n)(h:n<9223372036854775808):bits .andNot .i64 n 7=n / 8*8:=by
 obtain⟨m,rfl⟩:=Int.eq_ofNat_of_zero_le h0;rw[yU m (by omega)];omega
theorem Tryz.info3:(prog.info? 3).map (λi=>(i.zero,i.size,i.bytes))=some (some (.int .i64 0),1,8):=by kernel_rfl
def qh(p f:Int)(w:World)(e:Ending)(w':World):Prop:=
 ∃v,e=.returned (.tuple #[v,.int .i64 (M.errno p f)])/\w'.ownsRow w.heap.size 3 1 v (M.row p f).length ((M.row p f).map (.int .i64))/\Below w.heap.size w w'
theorem vO{ops:Array Oper}{rest:List Oper}{o:Oper}{a:Act}{Q:Exit->Act->World->Prop}(w0 w:World)(hgd:o.guard=none)(s x:Operand)
 (ho:o.op=.call {callee:=.builtin .append,args:=#[s,x],argTypes:=#[39,39]}) (base:Nat) (v:Value) (n:Nat) (xs:List Int) (u:Int)
 (hs:a.eval s=v) (hown:w.ownsRow base 3 1 v n (xs.map (.int .i64))) (hx:a.eval x=.slice (some ⟨w.heap.size,0,none⟩) 1 1)
 (hbel:Below base w0 w) (hn:n<1000000000000) (hbase:base<=w.heap.size)
 (h:∀g cap w',w'.ownsRow base 3 1 (.slice (some ⟨g,0,none⟩) (n+1) cap) (n+1) ((xs ++ [u]).map (.int .i64))->Below base w0 w'->wpList prog ops Q rest (a.put o.dst (.slice (some ⟨g,0,none⟩) (n+1) cap)) w'):
 wpList prog ops Q (o :: rest) a (w.alloc (.cells #[.int .i64 u] 3)):=by
 obtain⟨i0,hi,hz0,hz1,hz2⟩:=info_parts Tryz.info3;refine wpList_append_own _ hgd s x 39 ho base 3 i0 (.int .i64 0) 1 8 underlying39 hi hz0 hz1 hz2 rfl (by decide) v n _ hs (hown.alloc _) ⟨w.heap.size,0,none⟩ 1 1 [.int .i64 u] hx rfl ?_ ?_ ?_ ?_ ?_ ?_
 ·intro j y hj;match j,hj with
  |0,hj=>simp at hj;subst hj;simp[Addr.add]
 ·intro y hy;simp at hy;subst hy;rfl
 ·unfold maxLen;omega
 ·omega
 ·simp;omega
 ·intro v' w' hown' hgrow hiff;have hb':Below base w0 w':=(hbel.alloc hbase _).grown hgrow (by simp;omega) (λk hk=>(hown.lt k hk).1);rcases hown'.2 with ⟨rfl,h0⟩|⟨g,cap,cur,rfl,_⟩
  ·omega
  ·exact h g cap w' (by simpa using hown') hb'
theorem mY{p f:Int}(h:¬M.Qn p f){w w':World}{v:Value}{n:Nat}{l:List Int}(hr:M.row p f=l)(hn:l.length=n)
 (hown:w'.ownsRow w.heap.size 3 1 v n (l.map (.int .i64))) (hb:Below w.heap.size w w'):qh p f w (.returned (.tuple #[v,.int .i64 0])) w':=by
 subst hr hn;exact⟨v,by rw[show M.errno p f=0 by unfold M.errno;rw[if_neg h]],hown,hb⟩
def V4:Value->Nat| .slice _ n _=>n|_=>0
theorem J_(p f:Int)(w:World)(h:¬M.Qn p f):Calls prog 42 #[.int .i64 p,.int .i64 f] w (qh p f w):=by
 have hb:512<=p/\p<=65536/\p % 8=0/\105<=f/\f<=400:=by unfold M.Qn at h;omega
 obtain⟨h1,h2,h3,h4,h5⟩:=hb;have e7:=qH p;have h3':(p % 8 !=0)=false:=by simp[h3]
 have H3:=hid h3;clear h3;go_enter func42,ntmps42;go_wp2
 go_loopw [6] (λv wr=> ∃(g cap k:Nat) (pre:List Int) (x:Int),v=.slice (some ⟨g,0,none⟩) (k+1) cap/\k<=61/\pre.length=k/\wr.ownsRow w.heap.size 3 1 (.slice (some ⟨g,0,none⟩) (k+1) cap) (k+1) ((pre ++ [x]).map (.int .i64))/\64<=x/\x<=p / 2/\pre ++ x :: M.gen f (p / 2) (61-k) (M.step f x)=M.gen f (p / 2) 62 64/\Below w.heap.size w wr) (λv _=>62-V4 v)
 case atStart=>
  exact⟨_,_,0,[],64,rfl,by omega,rfl,World.ownsRow_lit w #[.int .i64 64] 1 (Nat.le_refl _) (by unfold maxLen;omega) rfl,by omega,by omega,(M.EN f _ (by omega)).symm,(Below.refl _ _).alloc (Nat.le_refl _) _⟩
 case round=>
  obtain⟨g,cap,k,pre,x,rfl,hk,hpl,hown,hx0,hx1,V5,hbel⟩:=hrel;have hsz:=hbel.size;have hlast:=hown.cellAt k (by omega);have Z0:wr.cell? ⟨g,k,none⟩=some (.int .i64 x):=by rw[hlast];simp[<-hpl]
  clear hlast;have hm:=M.ZZ x f h4 h5 (by omega);have hao:=vN (x*f / 100+7) (by omega) (by omega);have hst:M.step f x=max (x+8) ((x*f / 100+7) / 8*8):=rfl;have hif:(if x+8<(x*f / 100+7) / 8*8 then (x*f / 100+7) / 8*8 else x+8)=M.step f x:=by rw[hst];split<;>omega
  have hs1:M.step f x<=200000:=by rw[hst];omega
  have hs2:=M.OB f x;clear hst;have SE:=hid V5;have Hpl:=hid hpl;clear V5 hpl;by_cases hlt:k<61
  ·by_cases hbr:p / 2<M.step f x
   ·go_wp2_with (at_builtin;go_must (refine vO w wr rfl _ _ rfl w.heap.size (.slice (some ⟨g,0,none⟩) (k+1) cap) (k+1) (pre ++ [x]) p rfl hown rfl hbel (by omega) (by omega) ?_);intro g' cap' w' hown' yV)
    go_ret2;refine mY h (l:=pre ++ [x] ++ [p]) ?_ (by simp[Hpl.out]) hown' yV;unfold M.row;rw[if_neg h,<-SE.out,M.OC _ _ _ _ (by omega)]
   ·go_wp2_with (at_builtin;refine vO w wr rfl _ _ rfl w.heap.size (.slice (some ⟨g,0,none⟩) (k+1) cap) (k+1) (pre ++ [x]) (M.step f x) rfl hown rfl hbel (by omega) (by omega) ?_;intro g' cap' w' hown' yV)
    go_roundw;case rel=>
     refine⟨g',cap',k+1,pre ++ [x],M.step f x,rfl,by omega,by simp[Hpl.out],hown',by omega,by omega,?_,yV⟩;rw[<-SE.out,show 61-k=(61-(k+1))+1 by omega,M.C8 _ _ _ _ (by omega)];simp
    case measure=>simp[V4];omega
  ·go_wp2_with (at_builtin;refine vO w wr rfl _ _ rfl w.heap.size (.slice (some ⟨g,0,none⟩) (k+1) cap) (k+1) (pre ++ [x]) p rfl hown rfl hbel (by omega) (by omega) ?_;intro g' cap' w' hown' yV)
   go_ret2;refine mY h (l:=pre ++ [x] ++ [p]) ?_ (by simp[Hpl.out]) hown' yV;unfold M.row;rw[if_neg h,<-SE.out,show 61-k=0 by omega,M.gen]
theorem SF:M.row 512 200=zs:=by decide+kernel
end Go.Proofs.YtboehbfagnocpaaGreatDoor.SZ
namespace Go.Proofs.YtboehbfagnocpaaGreatDoor
open Go.RowKit Go.PlainAid Go.Shelf
open SP
open PM (Cd An Sd Vl)
def Z4(g k:Nat):aT where
 R w:=Ar w g k 1 512 (.slice none 0 0) [0] []
 B b:=b=g\/b=k
 keep h ht hd:=⟨(ht.block _ (Array.getElem?_eq_some_iff.1 h.box).1 (hd _ (.inl rfl))).trans h.box,bI h.own ht (λb hb=>hd b (.inr (by cases hb;rfl))),bI h.jL ht (λb hb=>by cases hb),h.len,h.np1,h.tO,h.ku⟩
 lt h hx:=by
  rcases hx with rfl|rfl
  ·exact(Array.getElem?_eq_some_iff.1 h.box).1
  ·exact(rowAt (.slice (some ⟨_,0,none⟩) 1 1) 3 1 1 ([0].map (.int .i64))).lt h.own rfl
theorem SG(w:World):Calls prog 43 #[.int .i64 1,.int .i64 512] w λe w'=> ∃g k,e=.returned (.tuple #[.pointer (some ⟨g,0,none⟩),.int .i64 0])/\Made (Z4 g k) w w':=
 (Mf 1 512 w (by decide)).mono (λe w' hh=>by
  rcases hh with ⟨h,_⟩|⟨_,g,k,h1,h2,h3,h4,h5⟩
  ·exact absurd h (by decide)
  ·exact⟨g,k,h1,h2,h5,λb hb=>by rcases hb with rfl|rfl<;>assumption⟩)
abbrev OD(zb zc:Nat):aT:=rowAt (.slice (some ⟨zb,0,none⟩) 4 zc) 3 1 4 (ints zs)
theorem SH(w:World):Calls prog 42 #[.int .i64 512,.int .i64 200] w λe w'=> ∃zb zc,e=.returned (.tuple #[.slice (some ⟨zb,0,none⟩) 4 zc,.int .i64 0])/\Made (OD zb zc) w w':=
 (SZ.J_ 512 200 w (by unfold SZ.M.Qn;decide)).mono (λe w' hh=>by
  obtain⟨v,h1,h2,h3⟩:=hh;rw[SZ.SF] at h2;rw[show SZ.M.errno 512 200=0 by decide+kernel] at h1;rcases h2.2 with ⟨_,h0⟩|⟨g,cap,cur,rfl,hb,h4⟩
  ·cases h0
  ·exact⟨g,cap,h1,⟨h2.1,.inr ⟨g,cap,cur,rfl,Nat.zero_le _,h4⟩⟩,h3,λb hb'=>by
    have hb':some g=some b:=hb';cases hb';exact hb⟩)
theorem Ka{g k zb zc:Nat}{w:World}(hA:(Z4 g k).R w)(hz:(OD zb zc).R w):Calls prog 46 #[.pointer (some ⟨g,0,none⟩),.slice (some ⟨zb,0,none⟩) 4 zc] w λe w'=>
 ∃β:Bk,e=.returned (.tuple #[.pointer (some ⟨β.sb,0,none⟩),.int .i64 0])/\β.g=g/\ag (Z4 g k) (fU β wI 0) w w':=by
 have hcap:4<=zc:=by
  rcases hz.2 with ⟨h1,_⟩|⟨g',cap',cur,e,_,_,h3,_⟩
  ·cases h1
  ·cases e;exact h3
 have DD:RI w (.slice (some ⟨zb,0,none⟩) 4 zc) zs:=⟨some ⟨zb,0,none⟩,zc,rfl,λ_=>⟨zb,0,rfl,λi hi=>by
  have hi:i<4:=hi;rw[Nat.zero_add,aB hz i hi];rcases(by omega:i=0\/i=1\/i=2\/i=3) with rfl|rfl|rfl|rfl<;>rfl⟩⟩
 refine(QT (S:=512) hA (by decide) ⟨zb,0,none⟩ 4 zc zs DD hcap ⟨by decide,by decide,by decide,λi hi=>by have hi:i+1<4:=hi;rcases(by omega:i=0\/i=1\/i=2) with rfl|rfl|rfl<;>decide⟩).mono (λe w' hh=>?_);obtain⟨β,h1,h2,h3,h4,h5⟩:=hh;refine⟨β,h1,h4,h2,aP.of_below _ h3,λb hb=>?_⟩;rcases h5 b hb with (h6|h6|h6)|h6
 ·exact .inl (.inl h6)
 ·exact .inl (.inr h6)
 ·cases h6
 ·exact .inr h6
theorem Kb{b:Nat}{w w':World}{e:Ending}(hh:Co b w e w'):∃tb rb,e=.returned (.pointer (some ⟨tb,0,none⟩))/\Made (jH tb rb b) w w':=by
 obtain⟨tb,rb,h1,h2,h3,h4,h5⟩:=hh;refine⟨tb,rb,h1,h2,h3,λx hx=>?_⟩;rcases hx with hx|hx
 ·have hx:x=tb:=hx;rw[hx];exact h4
 ·have hx:x=rb:=hx;rw[hx];exact h5
theorem OE:Elem 103 97 1 8:=⟨underlying103,⟨.pointer none,by kernel_rfl,by kernel_rfl⟩,by decide⟩
def Qo(x:PS):Value:=.pointer (some ⟨x.pb,0,none⟩)
def V6(ls:List PS):List Value:=ls.reverse.map Qo
theorem Kc(x:PS)(ls:List PS):V6 ls ++ [Qo x]=V6 (x :: ls):=by simp[V6]
section
variable{key:ByteArray}{h:Int}{bk:Nat}{w:World}
theorem EO(k:Bool)(hk0:k=false)(w:World){kv:Int}(V7:(if k then 1 else 0)=kv):Calls prog 14 #[.agg #[.int .i64 1,.int .i64 512,.int .i64 200,.int .i64 kv]] w λe w'=>
 ∃m:SM,e=.returned (.tuple #[.pointer (some ⟨m.s,0,none⟩),.int .i64 0])/\EJ m/\m.ps.num=0/\Made (gG key h bk m PM.UT) w w':=by
 have HZ:=hid (λw=>SH w);have HA:=hid (λw=>SG w);have HP:Hid (∀w,Calls prog 44 #[.int .i64 kv] w λe w'=> ∃s:PS,s.Iq=k/\s.held=false/\s.num=0/\e=.returned (.pointer (some ⟨s.pb,0,none⟩))/\Made (mM s) w w'):=hid (λw=>by rw[<-V7];exact NK k hk0 w);have HT:Hid (∀w,Calls prog 45 #[] w λe w'=> ∃tb rb,e=.returned (.pointer (some ⟨tb,0,none⟩))/\Made (jH tb rb bk) w w'):=hid (λw=>(D5 bk w).mono (λe w' hh=>Kb hh));have hmm:∀w:World,(Instr.makeMap 101 none).run prog w=.ok (.map (some w.heap.size)) (w.alloc (.map #[] 0)):=λw=>by rfl
 have J0:=(aJ.none w).cells #[.int .i64 1,.int .i64 512,.int .i64 200,.int .i64 kv] 28;obtain⟨CB,V8⟩:∃CB,w.heap.size=CB:=⟨_,rfl⟩;obtain⟨W0,hW0⟩:∃W0,w.alloc (.cells #[.int .i64 1,.int .i64 512,.int .i64 200,.int .i64 kv] 28)=W0:=⟨_,rfl⟩;rw[V8,hW0] at J0;have HW0:=hid hW0;have wJ:=hid J0;obtain⟨c0,c1,c2,c3⟩:VA W0 CB (.int .i64 1) (.int .i64 512) (.int .i64 200) (.int .i64 kv):=NN (J0.get 0 rfl);clear J0 hW0 V7;go_enter func14,ntmps14;go_upto_region 1 with fail
 rw[HW0.out];clear HW0 V8
 go_wp2_with (first
  |(go_at_call 42;refine(HZ.out _).mono ?_;rintro e w1 ⟨zb,zc,rfl,hm1⟩
    have kM:=hid (wJ.out.made hm1);obtain⟨d0,d1,d2,d3⟩:VA w1 CB (.int .i64 1) (.int .i64 512) (.int .i64 200) (.int .i64 kv):=NN (kM.out.get 1 rfl);clear hm1)
  |(go_at_call 43;refine(HA.out _).mono ?_;rintro e w2 ⟨g,k2,rfl,hm2⟩
    have HJ2:=hid (kM.out.made hm2);obtain⟨e0,e1,e2,e3⟩:VA w2 CB (.int .i64 1) (.int .i64 512) (.int .i64 200) (.int .i64 kv):=NN (HJ2.out.get 2 rfl);clear hm2)
  |(go_at_call 44;refine(HP.out _).mono ?_;rintro e w3 ⟨s0,-,-,-,rfl,wK⟩
    have vP:=hid (HJ2.out.below wK.bel);clear wK)
  |(go_at_call 45;refine(HT.out _).mono ?_;rintro e w4 ⟨tb,rb,rfl,cK⟩
    have vQ:=hid (vP.out.made cK);clear cK)
  |(go_at_call 46
    have J5:=(vQ.out.alloc (.map #[] 0)).cells #[.pointer none,.pointer (some ⟨g,0,none⟩),.slice (some ⟨zb,0,none⟩) 4 zc,.pointer (some ⟨tb,0,none⟩),.slice none 0 0,.int .u64 0,.int .i64 0,.map (some w4.heap.size)] 105;simp only[World.size_alloc] at J5;refine(Ka (J5.get 2 rfl) (J5.get 3 rfl)).mono ?_;rintro e w6 ⟨β,rfl,hg,ht⟩;have J6:=J5.turn 2 rfl ht;have s0:w6.cell? ⟨w4.heap.size+1,0,none⟩=some (.pointer none):=cA (J6.get 0 rfl) 0;have f0:w6.frozen? ⟨w4.heap.size+1,0,none⟩=false:=cZ (J6.get 0 rfl) 0;have OG:=hid (J6.turn 0 rfl (ai (J6.get 0 rfl) 0 (.pointer (some ⟨β.sb,0,none⟩))));have HG:=hid hg;clear J5 J6 ht hg))
 obtain⟨SB,Z5⟩:∃SB,w4.heap.size+1=SB:=⟨_,rfl⟩;obtain⟨cm,hcm⟩:∃cm,Value.map (some w4.heap.size)=cm:=⟨_,rfl⟩;obtain⟨w7,hw7⟩:∃w7,w6.setCell ⟨w4.heap.size+1,0,none⟩ (.pointer (some ⟨β.sb,0,none⟩))=w7:=⟨_,rfl⟩;have J7:=jo OG.out 97 1;rw[hw7] at J7⊢;rw[Z5,hcm] at J7;rw[Z5];have eF:=hid J7;clear J7 hw7 Z5 hcm s0 f0 wJ kM HJ2 vP vQ OG HZ HA HT c0 c1 c2 c3 d0 d1 d2 d3 e0 e1 e2 e3 hmm;obtain⟨ST,hST⟩:∃ST:Option Addr->Nat->Nat->aT,∀a n c,ST a n c=aG SB #[.pointer (some ⟨β.sb,0,none⟩),.pointer (some ⟨g,0,none⟩),.slice (some ⟨zb,0,none⟩) 4 zc,.pointer (some ⟨tb,0,none⟩),.slice a n c,.int .u64 0,.int .i64 0,cm] 105:=⟨_,λ_ _ _=>rfl⟩;obtain⟨CF,Z6⟩:∃CF:aT,CF=aG CB #[.int .i64 1,.int .i64 512,.int .i64 200,.int .i64 kv] 28:=⟨_,rfl⟩;have HST:=hid hST;have HCF:=hid Z6;have HI:Hid (aJ (λ_=>False) w (ST none 0 0 :: rowAt (.slice none 0 0) 97 1 0 (V6 []) :: (([]:List PS).map mM ++ [jH tb rb bk,fU β wI 0,OD zb zc,CF])) w7):=hid (by
  rw[hST,Z6];exact uB eF.out)
 clear hST Z6 eF;go_loopw [54] (λi wr=> ∃(n:Nat) (ls:List PS) (a:Option Addr) (c:Nat),n<=4/\ls.length=n/\i=.int .i64 n/\Hid ((∀x∈ls,x.held=false/\x.num=0)/\aJ (λ_=>False) w (ST a n c :: rowAt (.slice a n c) 97 1 n (V6 ls) :: (ls.map mM ++ [jH tb rb bk,fU β wI 0,OD zb zc,CF])) wr)) (λi _=>4-(intOf i).toNat)
 case atStart=>exact⟨0,[],none,0,by omega,rfl,rfl,hid ⟨λx hx=>absurd hx (by simp),HI.out⟩⟩
 case round=>
  obtain⟨n,ls,a,c,hn4,hls,rfl,hs⟩:=hrel;have HLS:=hid hls;clear hls;by_cases h4:n<4
  ·have h5:(n:Int)<4:=by omega
   go_wp2_with (fail)
   go_upto_region 9 with fail
   have OH:Hid (∀w',(ST a n c).R w'->w'.cell? ⟨SB,4,none⟩=some (.slice a n c)):=hid (λw' hr=>by rw[HST.out] at hr;exact cA hr 4);have XX:Hid (∀w',CF.R w'->w'.cell? ⟨CB,3,none⟩=some (.int .i64 kv)):=hid (λw' hr=>by rw[HCF.out] at hr;exact cA hr 3);have S0:wr.drew.cell? ⟨SB,4,none⟩=some (.slice a n c)/\wr.drew.cell? ⟨CB,3,none⟩=some (.int .i64 kv):=⟨OH.out _ (hs.out.2.drew.get 0 rfl),XX.out _ (hs.out.2.drew.all CF (by simp))⟩;refine aQ (λw'=>w'.cell? ⟨SB,4,none⟩=some (.slice a n c)/\w'.cell? ⟨CB,3,none⟩=some (.int .i64 kv)) 12 (by kernel_rfl) S0 (λhHeld=>?_);refine bY 0 rfl ?_;refine bY 1 rfl ?_;refine bY 2 rfl ?_;refine bY 3 rfl ?_;refine bM 4 rfl ?_;refine bY 5 rfl ?_;refine bM 6 rfl ?_;(try simp only[lz])
   refine aC (rs:=[7]) (by as_aux_lemma=>kernel_rfl) (by simp) ?_;refine ax.cons (o:=_) rfl (λK hK=>?_) ax.nil;rw[if_pos (by as_aux_lemma=>rfl)];(try simp only[gI])
   go_simp;(go_at_call 44;refine(HP.out _).mono ?_;rintro e w8 ⟨x,-,hx1,hx2,rfl,hm⟩;have J8:=hs.out.2.drew.made hm;clear hm)
   (try (go_wp2_with fail))
   refine hK.out _ _ ⟨OH.out _ (J8.get 1 rfl),XX.out _ (J8.all CF (by simp))⟩ (λUF=>?_);clear hK K;(try simp only[lz])
   refine aC (rs:=[8]) (by as_aux_lemma=>kernel_rfl) (by simp) ?_;refine ax.cons (o:=_) rfl (λK hK=>?_) ax.nil;rw[if_pos (by as_aux_lemma=>rfl)];(try simp only[gI])
   go_simp;refine hK.out _ _ ⟨OH.out _ ((J8.alloc _).get 1 rfl),XX.out _ ((J8.alloc _).all CF (by simp))⟩ (λhS8=>?_);clear hK K;(try simp only[lz])
   refine aC (rs:=[9]) (by as_aux_lemma=>kernel_rfl) (by simp) ?_;refine ax.cons (o:=_) rfl (λK hK=>?_) ax.nil;(refine jb OE rfl _ _ (by rfl) (by rfl) (J8.get 2 rfl) (by rfl) rfl (by simp[Value.oneCell']) (by omega) (by omega) ?_;intro g1 cap w9 ht;have J9:=J8.turn 2 rfl ht)
   refine hK.out _ _ ⟨OH.out _ (J9.get 1 rfl),XX.out _ (J9.all CF (by simp))⟩ (λZY=>?_);clear hK K;(try simp only[lz])
   have r9:=J9.get 1 rfl;rw[HST.out] at r9;have b4:w9.cell? ⟨SB,4,none⟩=some (.slice a n c):=cA r9 4;have z4:w9.frozen? ⟨SB,4,none⟩=false:=cZ r9 4;have t9:ag (ST a n c) (ST (some ⟨g1,0,none⟩) (n+1) cap) w9 _:=(by rw[HST.out,HST.out];exact ai r9 4 (.slice (some ⟨g1,0,none⟩) (n+1) cap));have HE:=hid (yQ (J9.turn 1 rfl t9));have HX:=hid (And.intro hx1 hx2);clear J8 J9 t9 r9 ht hx1 hx2;refine bY 10 rfl ?_;refine bY 11 rfl ?_;(try simp only[lz])
   refine aC (rs:=[12]) (by as_aux_lemma=>kernel_rfl) (by simp) ?_;refine ax.last (o:=_) rfl (λK hK=>?_);rw[if_pos (by as_aux_lemma=>rfl)];(try simp only[gI])
   go_simp;refine hK.out _ _ trivial (λ_=>?_);clear hK K;(try simp only[lz])
   refine aN (by as_aux_lemma=>kernel_rfl) ?_ _;go_wp2_with (fail)
   go_roundw;case rel=>
    refine⟨n+1,x :: ls,some ⟨g1,0,none⟩,cap,by omega,by rw[List.length_cons,HLS.out],by first|rfl|simp,hid ⟨λy hy=>?_,?_⟩⟩
    ·rcases List.mem_cons.1 hy with rfl|h1
     ·exact HX.out
     ·exact hs.out.1 y h1
    ·rw[<-Kc];exact HE.out
   case measure=>simp[intOf];omega
  ·obtain rfl:n=4:=by omega
   go_wp2_with (fail)
   go_ret2;obtain⟨hps,J⟩:=hs.out;have hl:=HLS.out;obtain⟨x3,x2,x1,x0,rfl⟩:∃x3 x2 x1 x0,ls= [x3,x2,x1,x0]:=by
    match ls,hl with
    | [x3,x2,x1,x0],_=>exact⟨_,_,_,_,rfl⟩
   obtain⟨qb,qc,hq⟩:∃qb qc,Value.slice a 4 c=.slice (some ⟨qb,0,none⟩) 4 qc:=by
    rcases(J.get 1 rfl).2 with ⟨e,h0⟩|⟨g',cap,cur,e,_⟩
    ·cases h0
    ·exact⟨_,_,e⟩
   simp only[Value.slice.injEq] at hq;obtain⟨rfl,-,rfl⟩:=hq;have hg:=HG.out;subst hg;have J2:=J.yT (L2:=JL bk (⟨SB,β,0,zb,zc,tb,rb,0,qb,c,Qo x1,Qo x2,Qo x3,cm,x0,[]⟩:SM) 0) [0,7,8,6,1,5] (by decide) (by rw[HST.out];rfl);have J3:=(J2.emp).group.fE 0 rfl;exact⟨⟨SB,β,0,zb,zc,tb,rb,0,qb,c,Qo x1,Qo x2,Qo x3,cm,x0,[]⟩,rfl,⟨rfl,(hps x0 (by simp)).1⟩,(hps x0 (by simp)).2,J3⟩
end
def iK(st:Int)(ak:ByteArray)(aZ:Int)(av:ByteArray)(aU aV num:Int):Array Value:=#[.int .i64 st,.string ak,.int .u32 aZ,.string av,.int .i64 0,.int .u64 aU,.int .i64 aV,.bool false,.bool false,.int .u64 num,.bool false,.bool false,.bool false]
def SI(st:Int):ByteArray:=if st=2 then ⟨#[83,84,79,82,69,68]⟩ else if st=4 then ⟨#[69,88,73,83,84,83]⟩ else ⟨#[78,79,84,95,70,79,85,78,68]⟩
theorem EP{st:Int}(hs:st=2\/st=4\/st=5)(ak:ByteArray)(aZ:Int)(av:ByteArray)(aU aV num:Int)(w:World):
 Calls prog 260 #[.agg (iK st ak aZ av aU aV num)] w λe w'=>e=.returned (.string (SI st))/\Below w.heap.size w w':=by
 unfold iK;rcases hs with rfl|rfl|rfl
 ·go_enter func260,ntmps260;go_wp2
  go_ret;exact⟨rfl,bA _ _⟩
 ·go_enter func260,ntmps260;go_wp2
  go_ret;exact⟨rfl,bA _ _⟩
 ·go_enter func260,ntmps260;go_wp2
  go_ret;exact⟨rfl,bA _ _⟩
theorem pz{st:Int}(hs:st=2\/st=4\/st=5){ak av:ByteArray}{aZ aU aV num:Int}{cb cc ab ac:Nat}{w:World}(hc:w.cell? ⟨cb,0,none⟩=some (.int .i64 2))
 (ha:(rowAt (.slice (some ⟨ab,0,none⟩) 1 ac) 52 13 1 (iK st ak aZ av aU aV num).toList).R w):
 Calls prog 205 #[dR 1 (.slice (some ⟨cb,0,none⟩) 1 cc) false false,.slice (some ⟨ab,0,none⟩) 1 ac] w λe w'=>e=.returned (.string (SI st ++ ⟨#[13,10]⟩))/\Below w.heap.size w w':=by
 have hcl:=aL hc;have J:=(aJ.start ha).cells #[.int .i64 1,.slice (some ⟨cb,0,none⟩) 1 cc,.bool false,.bool false,.string ⟨#[]⟩,.string ⟨#[]⟩,.int .i64 0,.bool false,.string ⟨#[]⟩,.slice none 0 0,.string ⟨#[]⟩] 33;have hb:=bA w (.cells #[.int .i64 1,.slice (some ⟨cb,0,none⟩) 1 cc,.bool false,.bool false,.string ⟨#[]⟩,.string ⟨#[]⟩,.int .i64 0,.bool false,.string ⟨#[]⟩,.slice none 0 0,.string ⟨#[]⟩] 33);have c0:=(hb.cell (p:=⟨cb,0,none⟩) hcl).trans hc;obtain⟨N,hN⟩:∃N,w.heap.size=N:=⟨_,rfl⟩;obtain⟨W,hW⟩:∃W,w.alloc (.cells #[.int .i64 1,.slice (some ⟨cb,0,none⟩) 1 cc,.bool false,.bool false,.string ⟨#[]⟩,.string ⟨#[]⟩,.int .i64 0,.bool false,.string ⟨#[]⟩,.slice none 0 0,.string ⟨#[]⟩] 33)=W:=⟨_,rfl⟩;rw[hN,hW] at J;rw[hW] at c0 hb;have HS:=hid (λw'=>EP hs ak aZ av aU aV num w');have hz:(SI st).size+(⟨#[13,10]⟩:ByteArray).size<=100:=by rcases hs with rfl|rfl|rfl<;>decide
 have HW:=hid hW;have HB:=hid hb;obtain⟨r0,r1,r2,r3,r4,r5,r6,r7,r8,r9,nY⟩:nP W N (.int .i64 1) (.slice (some ⟨cb,0,none⟩) 1 cc) (.bool false) (.bool false) (.string ⟨#[]⟩) (.string ⟨#[]⟩) (.int .i64 0) (.bool false) (.string ⟨#[]⟩) (.slice none 0 0) (.string ⟨#[]⟩):=jC (J.get 0 rfl);obtain⟨a0,a1,a2,a3,a4,a5,a6,a7,a8,a9,EH,Ju,a12⟩:RF W ab (.int .i64 st) (.string ak) (.int .u32 aZ) (.string av) (.int .i64 0) (.int .u64 aU) (.int .i64 aV) (.bool false) (.bool false) (.int .u64 num) (.bool false) (.bool false) (.bool false):=Qe (J.get 1 rfl);unfold iK at HS;clear J hc ha hcl hW hb;unfold dR;go_enter func205,ntmps205;go_upto_region 1 with fail
 rw[HW.out];clear HW hN;go_wp2_with (go_at_call 260;refine(HS.out _).mono ?_;rintro e w1 ⟨rfl,hb1⟩)
 go_ret;exact⟨rfl,HB.out.trans (hb1.mono HB.out.size)⟩
section
variable{sx:Nat}{f:Nat->Int}{w:World}
theorem lQ(h:(gH sx f).R w)(k:Nat)(hk:k<18):w.cell? ⟨sx,k,none⟩=some (.int .u64 (f k)):=by
 rw[cA h k];rw[List.getElem?_toArray,bP hk]
theorem jq(h:(gH sx f).R w)(k:Nat)(x:Int):ag (gH sx f) (gH sx (PM.upd f k x)) w (w.setCell ⟨sx,k,none⟩ (.int .u64 x)):=by
 have t:=ai h k (.int .u64 x);have e:((fD 18 (λk=>Value.int .u64 (f k))).toArray.setIfInBounds k (.int .u64 x))=(fD 18 (λj=>Value.int .u64 (PM.upd f k x j))).toArray:=by
  rw[List.setIfInBounds_toArray,gz];congr 1;refine gV (λj _=>?_);by_cases e:j=k
  ·subst e;rw[PM.upd_same,PM.upd_same]
  ·rw[PM.upd_ne _ _ e,PM.upd_ne _ _ e]
 rw[e] at t;exact t
end
theorem ER{sx:Nat}{f:Nat->Int}{w:World}(h:(gH sx f).R w){c:Cm}(hop:c.op=1)(ak:ByteArray)(aZ:Int)(av:ByteArray)(aU aV num:Int):
 Calls prog 146 #[.pointer (some ⟨sx,0,none⟩),.agg c.vs,.agg (iK 1 ak aZ av aU aV num),.int .i64 0] w λe w'=>e=.returned (.tuple #[])/\∃f',ag (gH sx f) (gH sx f') w w':=by
 obtain⟨op,mode,aI,value,flags,exp,tok,ah,delta,aj⟩:=c;dsimp only at hop;subst hop;have J:=((aJ.start h).cells (Cm.vs ⟨1,mode,aI,value,flags,exp,tok,ah,delta,aj⟩) 56).cells (iK 1 ak aZ av aU aV num) 52;simp only[World.size_alloc] at J;obtain⟨N,hN⟩:∃N,w.heap.size=N:=⟨_,rfl⟩;obtain⟨W,hW⟩:∃W,(w.alloc (.cells (Cm.vs ⟨1,mode,aI,value,flags,exp,tok,ah,delta,aj⟩) 56)).alloc (.cells (iK 1 ak aZ av aU aV num) 52)=W:=⟨_,rfl⟩;rw[hN,hW] at J;have HW:=hid hW;unfold Cm.vs iK at HW;dsimp only at HW;have HJ:=hid J;have a0:W.cell? ⟨N+1,0,none⟩=some (.int .i64 1):=cA (J.get 0 rfl) 0;have k0:W.cell? ⟨N,0,none⟩=some (.int .i64 1):=cA (J.get 1 rfl) 0;clear J h hW;unfold Cm.vs iK;dsimp only;go_enter func146,ntmps146;go_upto_region 2 with fail
 rw[HW.out];clear HW hN;have S0:W.drew.cell? ⟨sx,17,none⟩=some (.int .u64 (f 17)):=lQ (HJ.out.get 2 rfl) 17 (by decide);have zf:W.drew.frozen? ⟨sx,17,none⟩=false:=cZ (HJ.out.get 2 rfl) 17;refine aQ (λw'=>w'.cell? ⟨sx,17,none⟩=some (.int .u64 (f 17))) 12 (by kernel_rfl) S0 (λhHeld=>?_);refine bM 0 rfl ?_;refine bM 1 rfl ?_;refine bM 2 rfl ?_;refine bM 3 rfl ?_;refine bM 4 rfl ?_;refine bM 5 rfl ?_;refine bM 6 rfl ?_;refine bM 7 rfl ?_;refine bM 8 rfl ?_;refine bY 9 rfl ?_;refine bY 10 rfl ?_;refine bM 11 rfl ?_;(try simp only[lz])
 refine aC (rs:=[12]) (by as_aux_lemma=>kernel_rfl) (by simp) ?_;refine ax.last (o:=_) rfl (λK hK=>?_);rw[if_pos (by as_aux_lemma=>rfl)];(try simp only[gI])
 go_simp;refine hK.out _ _ trivial (λ_=>?_);clear hK K;(try simp only[lz])
 refine aN (by as_aux_lemma=>kernel_rfl) ?_ _;clear hHeld S0 zf a0 k0;have J1:=(HJ.out.turn 2 rfl (jq (HJ.out.get 2 rfl) 17 (IntKind.u64.wrap (f 17+IntKind.u64.wrap 0)))).drew;obtain⟨W1,hW1⟩:∃W',(W.setCell ⟨sx,17,none⟩ (.int .u64 (IntKind.u64.wrap (f 17+IntKind.u64.wrap 0)))).drew=W':=⟨_,rfl⟩;obtain⟨f1,hf1⟩:∃f',PM.upd f 17 (IntKind.u64.wrap (f 17+IntKind.u64.wrap 0))=f':=⟨_,rfl⟩;rw[hW1,hf1] at J1;rw[hW1];clear HJ hW1 hf1;have HJ:=hid J1;have a0:W1.cell? ⟨N+1,0,none⟩=some (.int .i64 1):=cA (J1.get 0 rfl) 0;have k0:W1.cell? ⟨N,0,none⟩=some (.int .i64 1):=cA (J1.get 1 rfl) 0;clear J1;go_upto_region 5 with fail
 have S0:W1.drew.cell? ⟨sx,0,none⟩=some (.int .u64 (f1 0)):=lQ (HJ.out.get 2 rfl) 0 (by decide);have zf:W1.drew.frozen? ⟨sx,0,none⟩=false:=cZ (HJ.out.get 2 rfl) 0;refine aQ (λw'=>w'.cell? ⟨sx,0,none⟩=some (.int .u64 (f1 0))) 9 (by kernel_rfl) S0 (λhHeld=>?_);refine bM 0 rfl ?_;refine bM 1 rfl ?_;refine bM 2 rfl ?_;refine bM 3 rfl ?_;refine bM 4 rfl ?_;refine bM 5 rfl ?_;refine bY 6 rfl ?_;refine bY 7 rfl ?_;refine bM 8 rfl ?_;(try simp only[lz])
 refine aC (rs:=[9]) (by as_aux_lemma=>kernel_rfl) (by simp) ?_;refine ax.last (o:=_) rfl (λK hK=>?_);rw[if_pos (by as_aux_lemma=>rfl)];(try simp only[gI])
 go_simp;refine hK.out _ _ trivial (λ_=>?_);clear hK K;(try simp only[lz])
 refine aN (by as_aux_lemma=>kernel_rfl) ?_ _;clear hHeld S0 zf a0 k0;have J2:=(HJ.out.turn 2 rfl (jq (HJ.out.get 2 rfl) 0 (IntKind.u64.wrap (f1 0+1)))).drew;obtain⟨W2,hW2⟩:∃W',(W1.setCell ⟨sx,0,none⟩ (.int .u64 (IntKind.u64.wrap (f1 0+1)))).drew=W':=⟨_,rfl⟩;obtain⟨f2,hf2⟩:∃f',PM.upd f1 0 (IntKind.u64.wrap (f1 0+1))=f':=⟨_,rfl⟩;rw[hW2,hf2] at J2;rw[hW2];clear HJ hW2 hf2;have HJ:=hid J2;have a0:W2.cell? ⟨N+1,0,none⟩=some (.int .i64 1):=cA (J2.get 0 rfl) 0;have k0:W2.cell? ⟨N,0,none⟩=some (.int .i64 1):=cA (J2.get 1 rfl) 0;clear J2;go_upto_region 7 with fail
 have S0:W2.drew.cell? ⟨sx,4,none⟩=some (.int .u64 (f2 4)):=lQ (HJ.out.get 2 rfl) 4 (by decide);have zf:W2.drew.frozen? ⟨sx,4,none⟩=false:=cZ (HJ.out.get 2 rfl) 4;refine aQ (λw'=>w'.cell? ⟨sx,4,none⟩=some (.int .u64 (f2 4))) 9 (by kernel_rfl) S0 (λhHeld=>?_);refine bM 0 rfl ?_;refine bM 1 rfl ?_;refine bM 2 rfl ?_;refine bM 3 rfl ?_;refine bM 4 rfl ?_;refine bM 5 rfl ?_;refine bY 6 rfl ?_;refine bY 7 rfl ?_;refine bM 8 rfl ?_;(try simp only[lz])
 refine aC (rs:=[9]) (by as_aux_lemma=>kernel_rfl) (by simp) ?_;refine ax.last (o:=_) rfl (λK hK=>?_);rw[if_pos (by as_aux_lemma=>rfl)];(try simp only[gI])
 go_simp;refine hK.out _ _ trivial (λ_=>?_);clear hK K;(try simp only[lz])
 refine aN (by as_aux_lemma=>kernel_rfl) ?_ _;clear hHeld S0 zf a0 k0;have J3:=(HJ.out.turn 2 rfl (jq (HJ.out.get 2 rfl) 4 (IntKind.u64.wrap (f2 4+1)))).drew;obtain⟨W3,hW3⟩:∃W',(W2.setCell ⟨sx,4,none⟩ (.int .u64 (IntKind.u64.wrap (f2 4+1)))).drew=W':=⟨_,rfl⟩;obtain⟨f3,hf3⟩:∃f',PM.upd f2 4 (IntKind.u64.wrap (f2 4+1))=f':=⟨_,rfl⟩;rw[hW3,hf3] at J3;rw[hW3];clear HJ hW3 hf3;have HJ:=hid J3;have a0:W3.cell? ⟨N+1,0,none⟩=some (.int .i64 1):=cA (J3.get 0 rfl) 0;have k0:W3.cell? ⟨N,0,none⟩=some (.int .i64 1):=cA (J3.get 1 rfl) 0;clear J3;go_wp2_with (fail)
 go_end0;exact⟨rfl,f3,(HJ.out.sub (.cons _ (.cons _ (List.Sublist.refl _)))).one⟩
theorem SK{sx g:Nat}{f:Nat->Int}{w:World}(h:(gH sx f).R w)(hg:∀i x,[Value.int .i64 2,.int .i64 12,.int .i64 4,.int .i64 13,.int .i64 5,.int .i64 14][i]?=some x->w.cell? ⟨g,i,none⟩=some x){st:Int}(hst:st=2\/st=4):
 Calls prog 211 #[.pointer (some ⟨sx,0,none⟩),.int .i64 st,.slice (some ⟨g,0,none⟩) 3 3] w λe w'=>e=.returned (.tuple #[])/\∃f',ag (gH sx f) (gH sx f') w w':=by
 have HJ:=hid (aJ.start h);have HG:Hid (∀w',Below w.heap.size w w'->∀i x,[Value.int .i64 2,.int .i64 12,.int .i64 4,.int .i64 13,.int .i64 5,.int .i64 14][i]?=some x->w'.cell? ⟨g,i,none⟩=some x):=hid (λw' hb i x hi=>(hb.cell (p:=⟨g,i,none⟩) (aL (hg i x hi))).trans (hg i x hi));clear h hg;have hs1:(st=2/\(2 == st)=true)\/(st=4/\(2 == st)=false):=by rcases hst with rfl|rfl<;>decide
 go_enter func211,ntmps211;go_wp2_with (fail)
 go_loopw [10] (λi wr=>(i=.int .i64 0/\wr=w)\/(i=.int .i64 1/\st=4/\Hid (Below w.heap.size w wr))) (λi _=>1-(intOf i).toNat)
 case atStart=>exact .inl ⟨rfl,rfl⟩
 case round=>
  rcases hrel with ⟨rfl,hr⟩|⟨rfl,h4,hb⟩
  ·subst hr;have g0:wr.cell? ⟨g,0,none⟩=some (.int .i64 2):=HG.out wr (Below.refl _ _) 0 _ rfl;have g1:wr.cell? ⟨g,1,none⟩=some (.int .i64 12):=HG.out wr (Below.refl _ _) 1 _ rfl;rcases hst with rfl|rfl
   ·go_upto_region 4 with fail
    have J:=(HJ.out.below (Below.refl _ _)).cells #[.int .i64 2,.int .i64 12] 315;obtain⟨P,hP⟩:∃P,wr.heap.size=P:=⟨_,rfl⟩;obtain⟨X,hX⟩:∃X,wr.alloc (.cells #[.int .i64 2,.int .i64 12] 315)=X:=⟨_,rfl⟩;rw[hP,hX] at J;rw[hP,hX];have S0:X.drew.cell? ⟨P,1,none⟩=some (.int .i64 12)/\X.drew.cell? ⟨sx,12,none⟩=some (.int .u64 (f 12)):=⟨cA (J.get 0 rfl) 1,lQ (J.get 1 rfl) 12 (by decide)⟩;have zf:X.drew.frozen? ⟨sx,12,none⟩=false:=cZ (J.get 1 rfl) 12;have s2:=S0.2;have JJ:=hid (J.turn 1 rfl (jq (J.get 1 rfl) 12 (IntKind.u64.wrap (f 12+1)))).drew;clear J hX hP;refine aQ (λw'=>w'.cell? ⟨P,1,none⟩=some (.int .i64 12)/\w'.cell? ⟨sx,12,none⟩=some (.int .u64 (f 12))) 11 (by kernel_rfl) S0 (λhHeld=>?_);refine bM 0 rfl ?_;refine bM 1 rfl ?_;refine bM 2 rfl ?_;refine bM 3 rfl ?_;refine bM 4 rfl ?_;refine bM 5 rfl ?_;refine bM 6 rfl ?_;refine bM 7 rfl ?_;refine bY 8 rfl ?_;refine bY 9 rfl ?_;refine bM 10 rfl ?_;(try simp only[lz])
    refine aC (rs:=[11]) (by as_aux_lemma=>kernel_rfl) (by simp) ?_;refine ax.last (o:=_) rfl (λK hK=>?_);rw[if_pos (by as_aux_lemma=>rfl)];(try simp only[gI])
    go_simp;refine hK.out _ _ trivial (λ_=>?_);clear hK K;(try simp only[lz])
    refine aN (by as_aux_lemma=>kernel_rfl) ?_ _;clear hHeld S0 zf;go_wp2_with (fail)
    refine bodyPost_ret (results_none rfl _ _ _) rfl ?_;exact⟨rfl,_,(JJ.out.sub (.cons _ (List.Sublist.refl _))).one⟩
   ·go_wp2_with (fail)
    go_roundw;case rel=>exact .inr ⟨by first|rfl|trivial|simp,by first|rfl|trivial,hid (bA _ _)⟩
    case measure=>simp[intOf]
  ·subst h4;have g0:wr.cell? ⟨g,2,none⟩=some (.int .i64 4):=HG.out wr hb.out 2 _ rfl;have g1:wr.cell? ⟨g,3,none⟩=some (.int .i64 13):=HG.out wr hb.out 3 _ rfl;go_upto_region 4 with fail
   have J:=(HJ.out.below hb.out).cells #[.int .i64 4,.int .i64 13] 315;obtain⟨P,hP⟩:∃P,wr.heap.size=P:=⟨_,rfl⟩;obtain⟨X,hX⟩:∃X,wr.alloc (.cells #[.int .i64 4,.int .i64 13] 315)=X:=⟨_,rfl⟩;rw[hP,hX] at J;rw[hP,hX];have S0:X.drew.cell? ⟨P,1,none⟩=some (.int .i64 13)/\X.drew.cell? ⟨sx,13,none⟩=some (.int .u64 (f 13)):=⟨cA (J.get 0 rfl) 1,lQ (J.get 1 rfl) 13 (by decide)⟩;have zf:X.drew.frozen? ⟨sx,13,none⟩=false:=cZ (J.get 1 rfl) 13;have s2:=S0.2;have JJ:=hid (J.turn 1 rfl (jq (J.get 1 rfl) 13 (IntKind.u64.wrap (f 13+1)))).drew;clear J hX hP;refine aQ (λw'=>w'.cell? ⟨P,1,none⟩=some (.int .i64 13)/\w'.cell? ⟨sx,13,none⟩=some (.int .u64 (f 13))) 11 (by kernel_rfl) S0 (λhHeld=>?_);refine bM 0 rfl ?_;refine bM 1 rfl ?_;refine bM 2 rfl ?_;refine bM 3 rfl ?_;refine bM 4 rfl ?_;refine bM 5 rfl ?_;refine bM 6 rfl ?_;refine bM 7 rfl ?_;refine bY 8 rfl ?_;refine bY 9 rfl ?_;refine bM 10 rfl ?_;(try simp only[lz])
   refine aC (rs:=[11]) (by as_aux_lemma=>kernel_rfl) (by simp) ?_;refine ax.last (o:=_) rfl (λK hK=>?_);rw[if_pos (by as_aux_lemma=>rfl)];(try simp only[gI])
   go_simp;refine hK.out _ _ trivial (λ_=>?_);clear hK K;(try simp only[lz])
   refine aN (by as_aux_lemma=>kernel_rfl) ?_ _;clear hHeld S0 zf;go_wp2_with (fail)
   refine bodyPost_ret (results_none rfl _ _ _) rfl ?_;exact⟨rfl,_,(JJ.out.sub (.cons _ (List.Sublist.refl _))).one⟩
theorem count_set{sx:Nat}{f:Nat->Int}{w:World}(h:(gH sx f).R w){c:Cm}(hop:c.op=2){st:Int}(hst:st=2\/st=4)(ak:ByteArray)(aZ:Int)(av:ByteArray)(aU aV num:Int):
 Calls prog 146 #[.pointer (some ⟨sx,0,none⟩),.agg c.vs,.agg (iK st ak aZ av aU aV num),.int .i64 0] w λe w'=>e=.returned (.tuple #[])/\∃f',ag (gH sx f) (gH sx f') w w':=by
 obtain⟨op,mode,aI,value,flags,exp,tok,ah,delta,aj⟩:=c;dsimp only at hop;subst hop;have J:=((aJ.start h).cells (Cm.vs ⟨2,mode,aI,value,flags,exp,tok,ah,delta,aj⟩) 56).cells (iK st ak aZ av aU aV num) 52;simp only[World.size_alloc] at J;obtain⟨N,hN⟩:∃N,w.heap.size=N:=⟨_,rfl⟩;obtain⟨W,hW⟩:∃W,(w.alloc (.cells (Cm.vs ⟨2,mode,aI,value,flags,exp,tok,ah,delta,aj⟩) 56)).alloc (.cells (iK st ak aZ av aU aV num) 52)=W:=⟨_,rfl⟩;rw[hN,hW] at J;have HW:=hid hW;unfold Cm.vs iK at HW;dsimp only at HW;have HJ:=hid J;have a0:W.cell? ⟨N+1,0,none⟩=some (.int .i64 st):=cA (J.get 0 rfl) 0;have k0:W.cell? ⟨N,0,none⟩=some (.int .i64 2):=cA (J.get 1 rfl) 0;clear J h hW;unfold Cm.vs iK;dsimp only;have hg1:¬st<1:=by omega
 have hg2:¬12<st:=by omega
 have hg3:decide (st<1)=false:=by simp;omega
 go_enter func146,ntmps146;go_upto_region 2 with fail
 rw[HW.out];clear HW hN;have S0:W.drew.cell? ⟨sx,17,none⟩=some (.int .u64 (f 17)):=lQ (HJ.out.get 2 rfl) 17 (by decide);have zf:W.drew.frozen? ⟨sx,17,none⟩=false:=cZ (HJ.out.get 2 rfl) 17;refine aQ (λw'=>w'.cell? ⟨sx,17,none⟩=some (.int .u64 (f 17))) 12 (by kernel_rfl) S0 (λhHeld=>?_);refine bM 0 rfl ?_;refine bM 1 rfl ?_;refine bM 2 rfl ?_;refine bM 3 rfl ?_;refine bM 4 rfl ?_;refine bM 5 rfl ?_;refine bM 6 rfl ?_;refine bM 7 rfl ?_;refine bM 8 rfl ?_;refine bY 9 rfl ?_;refine bY 10 rfl ?_;refine bM 11 rfl ?_;(try simp only[lz])
 refine aC (rs:=[12]) (by as_aux_lemma=>kernel_rfl) (by simp) ?_;refine ax.last (o:=_) rfl (λK hK=>?_);rw[if_pos (by as_aux_lemma=>rfl)];(try simp only[gI])
 go_simp;refine hK.out _ _ trivial (λ_=>?_);clear hK K;(try simp only[lz])
 refine aN (by as_aux_lemma=>kernel_rfl) ?_ _;clear hHeld S0 zf a0 k0;have J1:=(HJ.out.turn 2 rfl (jq (HJ.out.get 2 rfl) 17 (IntKind.u64.wrap (f 17+IntKind.u64.wrap 0)))).drew;obtain⟨W1,hW1⟩:∃W',(W.setCell ⟨sx,17,none⟩ (.int .u64 (IntKind.u64.wrap (f 17+IntKind.u64.wrap 0)))).drew=W':=⟨_,rfl⟩;obtain⟨f1,hf1⟩:∃f',PM.upd f 17 (IntKind.u64.wrap (f 17+IntKind.u64.wrap 0))=f':=⟨_,rfl⟩;rw[hW1,hf1] at J1;rw[hW1];clear HJ hW1 hf1;have HJ:=hid J1;have a0:W1.cell? ⟨N+1,0,none⟩=some (.int .i64 st):=cA (J1.get 0 rfl) 0;have k0:W1.cell? ⟨N,0,none⟩=some (.int .i64 2):=cA (J1.get 1 rfl) 0;clear J1;go_upto_region 10 with fail
 have S0:W1.drew.cell? ⟨sx,1,none⟩=some (.int .u64 (f1 1)):=lQ (HJ.out.get 2 rfl) 1 (by decide);have zf:W1.drew.frozen? ⟨sx,1,none⟩=false:=cZ (HJ.out.get 2 rfl) 1;refine aQ (λw'=>w'.cell? ⟨sx,1,none⟩=some (.int .u64 (f1 1))) 9 (by kernel_rfl) S0 (λhHeld=>?_);refine bM 0 rfl ?_;refine bM 1 rfl ?_;refine bM 2 rfl ?_;refine bM 3 rfl ?_;refine bM 4 rfl ?_;refine bM 5 rfl ?_;refine bY 6 rfl ?_;refine bY 7 rfl ?_;refine bM 8 rfl ?_;(try simp only[lz])
 refine aC (rs:=[9]) (by as_aux_lemma=>kernel_rfl) (by simp) ?_;refine ax.last (o:=_) rfl (λK hK=>?_);rw[if_pos (by as_aux_lemma=>rfl)];(try simp only[gI])
 go_simp;refine hK.out _ _ trivial (λ_=>?_);clear hK K;(try simp only[lz])
 refine aN (by as_aux_lemma=>kernel_rfl) ?_ _;clear hHeld S0 zf a0 k0;have J2:=(HJ.out.turn 2 rfl (jq (HJ.out.get 2 rfl) 1 (IntKind.u64.wrap (f1 1+1)))).drew;obtain⟨W2,hW2⟩:∃W',(W1.setCell ⟨sx,1,none⟩ (.int .u64 (IntKind.u64.wrap (f1 1+1)))).drew=W':=⟨_,rfl⟩;obtain⟨f2,hf2⟩:∃f',PM.upd f1 1 (IntKind.u64.wrap (f1 1+1))=f':=⟨_,rfl⟩;rw[hW2,hf2] at J2;rw[hW2];clear HJ hW2 hf2;have HJ:=hid J2;have a0:W2.cell? ⟨N+1,0,none⟩=some (.int .i64 st):=cA (J2.get 0 rfl) 0;have k0:W2.cell? ⟨N,0,none⟩=some (.int .i64 2):=cA (J2.get 1 rfl) 0;clear J2;have k8:W2.cell? ⟨N,8,none⟩=some (.bool ah):=cA (HJ.out.get 1 rfl) 8;cases ah
 ·go_wp2_with (fail)
  go_end0;exact⟨rfl,f2,(HJ.out.sub (.cons _ (.cons _ (List.Sublist.refl _)))).one⟩
 ·have JR:=HJ.out.made (mK W2 #[.int .i64 2,.int .i64 12,.int .i64 4,.int .i64 13,.int .i64 5,.int .i64 14] 315 6 rfl (by decide));have HO:=hid (SK (sx:=sx) (g:=W2.heap.size) (f:=f2) (JR.get 3 rfl) (λi x hi=>by
   have h6:i<6:=(List.getElem?_eq_some_iff.1 hi).1;rw[aB (JR.get 0 rfl) i h6];exact hi) hst)
  have HJ2:=hid JR;clear JR HJ;go_wp2_with (go_at_call 211;refine HO.out.mono ?_;rintro e w9 ⟨rfl,f',ht⟩)
  go_end0;have J9:=HJ2.out.turn 3 rfl ht;exact⟨rfl,f',(J9.sub (.cons _ (.cons _ (.cons _ (List.Sublist.refl _))))).one⟩
open PM (Cd An Sd Vl upd upd_same upd_ne)
theorem ES{every:Int}(he:every=5\/every=9)(w:World):Calls prog 32 #[.int .i64 every] w λe w'=> ∃b,e=.returned (.pointer (some ⟨b,0,none⟩))/\Below w.heap.size w w':=by
 rcases he with rfl|rfl
 ·go_enter func32,ntmps32;go_wp2
  go_ret;exact⟨_,rfl,bA _ _⟩
 ·go_enter func32,ntmps32;go_wp2
  go_ret;exact⟨_,rfl,bA _ _⟩
theorem ET(w:World):Calls prog 33 #[] w λe w'=> ∃sx,e=.returned (.pointer (some ⟨sx,0,none⟩))/\Made (gH sx (λ_=>0)) w w':=by
 go_enter func33,ntmps33;go_wp2
 go_ret;exact⟨_,rfl,Made.cells w (fD 18 (λ_=>Value.int .u64 0)).toArray 156⟩
theorem Ke{n:Int}(hn:n=4\/n=1)(w:World):Calls prog 151 #[.int .u64 1,.int .u64 n] w λe w'=>e=.returned (.tuple #[.int .u64 0,.int .u64 n])/\w=w':=by
 rcases hn with rfl|rfl
 ·have f1:bits .and .u64 1 4294967295=1:=by decide+kernel
  have f2:bits .and .u64 4 4294967295=4:=by decide+kernel
  have f3:bits .and .u64 0 4294967295=0:=by decide+kernel
  go_enter func151,ntmps151;go_wp2
  go_ret2;exact⟨rfl,rfl⟩
 ·have f1:bits .and .u64 1 4294967295=1:=by decide+kernel
  have f3:bits .and .u64 0 4294967295=0:=by decide+kernel
  go_enter func151,ntmps151;go_wp2
  go_ret2;exact⟨rfl,rfl⟩
theorem SL{n:Int}(hn:n=4\/n=1)(w:World):Calls prog 84 #[.int .u64 1,.int .u64 n] w λe w'=>e=.returned (.tuple #[.int .u64 0,.int .u64 n])/\w=w':=by
 have H:=hid (Ke hn w);have hn0:IntKind.u64.wrap n=n:=by rcases hn with rfl|rfl<;>decide
 clear hn;go_enter func84,ntmps84;go_wp2_with (go_at_call 151;refine H.out.mono ?_;rintro e w1 ⟨rfl,rfl⟩)
 go_ret2;exact⟨rfl,rfl⟩
theorem OI:madeCells #[Value.pointer none] 1= #[.pointer none]:=by
 have h:=toList_madeCells_one (Value.pointer none) 1;apply Array.ext';exact h
theorem Tryz.V9:(prog.info? 140).map (λi=>(i.zero,i.size,i.bytes))=some (some (.pointer none),1,8):=by kernel_rfl
theorem OJ:madeCells #[Value.int .i64 0] 1= #[.int .i64 0]:=by
 have h:=toList_madeCells_one (Value.int .i64 0) 1;apply Array.ext';exact h
theorem Tryz.Kg:(prog.info? 3).map (λi=>(i.zero,i.size,i.bytes))=some (some (.int .i64 0),1,8):=by kernel_rfl
theorem Z7{D o S q n cn cm:Nat}{u x:Int}{W:World}(ty:TypeId)(hn:1<=n)(hs:W.cell? ⟨S,q,none⟩=some (.int .i64 x))(hd:W.cell? ⟨D,o,none⟩=some (.int .i64 u))(hf:W.frozen? ⟨D,o,none⟩=false):
 (Builtin.copy_ #[39,39] ty #[.slice (some ⟨D,o,none⟩) n cn,.slice (some ⟨S,q,none⟩) 1 cm]).run prog W=.ok (.int .i64 1) (W.setCell ⟨D,o,none⟩ (.int .i64 x)):=by
 obtain⟨i0,hi,hz0,hz1,hz2⟩:=info_parts Tryz.Kg;have hm:Nat.min 1 n=0+1:=Nat.min_eq_left hn;simp only[Builtin.copy_,run_underlying underlying39,Builtin.lenOf,Builtin.firstCells,sizeOf,typeInfo,hi,hz1,hm];simp[Builtin.copy_,run_underlying underlying39,Builtin.lenOf,Builtin.firstCells,sizeOf,typeInfo,hi,hz1,hm,loadCellsFrom,storeCells,hs,hd,hf,go_sem,Addr.add]
theorem OL(n:Nat)(w:World):(gp n (λ_=>emp)).R w:=by
 refine⟨λr hr=>?_,List.pairwise_iff_getElem.2 λi j hi hj hij b hb=>?_⟩
 ·simp[fD] at hr;obtain⟨_,_,rfl⟩:=hr;exact trivial
 ·simp[fD] at hb;exact hb.elim
theorem Kh{xb:Nat}{w:World}(hc:w.cell? ⟨xb,0,none⟩=some (.int .i64 (-1))):Calls prog 34 #[.slice (some ⟨xb,0,none⟩) 1 1,.int .i64 1] w λe w'=>
 ∃g,e=.returned (.slice (some ⟨g,0,none⟩) 1 1)/\Made (rowAt (.slice (some ⟨g,0,none⟩) 1 1) 3 1 1 [.int .i64 (-1)]) w w':=by
 have H:=hid (λw=>SL (n:=1) (.inr rfl) w)
 have hmk:∀w:World,(Instr.makeSlice 39 (.int .i64 1) (.int .i64 1)).run prog w=.ok (.slice (some ⟨w.heap.size,0,none⟩) 1 1) (w.alloc (.cells #[.int .i64 0] 3)):=
  λw=>by rw[<-OJ];exact run_make_row' (P:=prog) 39 3 (.int .i64 0) 8 underlying39 Tryz.Kg rfl .i64 .i64 1 (by decide) (by decide) w
 have hxb:=aL hc;have M0:=mK w #[.int .i64 0] 3 1 rfl (by decide);have hs0:(w.alloc (.cells #[.int .i64 0] 3)).cell? ⟨xb,0,none⟩=some (.int .i64 (-1)):=((bA w _).cell (p:=⟨xb,0,none⟩) hxb).trans hc;have hcp:=Z7 (D:=w.heap.size) (o:=0) (S:=xb) (q:=0) (n:=1) (cn:=1) (cm:=1) (W:=w.alloc (.cells #[.int .i64 0] 3)) 3 (by decide) hs0 (aB M0.here 0 (by decide)) (bn M0.here 0);have HE:=hid (mK w #[.int .i64 (-1)] 3 1 rfl (by decide));clear M0 hc hs0;go_enter func34,ntmps34
 go_wp2_with (first
  |(go_at_call 84;refine(H.out _).mono ?_;rintro e w1 ⟨rfl,rfl⟩))
 obtain⟨W1,hW1⟩:∃W1,w.alloc (.cells #[.int .i64 (-1)] 3)=W1:=⟨_,rfl⟩;have HE2:=HE.out;rw[hW1] at HE2⊢;have HE3:=hid HE2;clear HE HE2 hW1 hcp;go_loopw [8] (λn wr=>n=.int .i64 1/\wr=W1) (λ_ _=>0)
 case atStart=>exact⟨rfl,rfl⟩
 case round=>
  obtain⟨rfl,hr⟩:=hrel;subst hr;go_wp2_with (fail)
  go_ret;exact⟨w.heap.size,rfl,HE3.out⟩
section
variable{key:ByteArray}{h:Int}{bk:Nat}{w:World}
theorem SN(k:Bool)(hk0:k=false){kv:Int}(V7:(if k then 1 else 0)=kv)(w:World):Calls prog 9 #[.agg #[.int .i64 1,.int .i64 512,.int .i64 200,.int .i64 kv],.int .i64 1,.int .i64 1,.int .i64 9] w λe w'=>
 ∃p:Pl,e=.returned (.tuple #[.pointer (some ⟨p.b,0,none⟩),.int .i64 0])/\EJ p.m/\p.m.ps.num=0/\Made (many (SA key h bk 1 1 0 p (.slice none 0 0))) w w':=by
 have HS:=hid (λw=>EO (key:=key) (h:=h) (bk:=bk) k hk0 w V7);have HMv:=hid (λw=>ES (every:=9) (by decide) w);have OH:=hid (λw=>ET w);have vR:=hid (λ(xb:Nat) (w:World) (hc:w.cell? ⟨xb,0,none⟩=some (.int .i64 (-1)))=>Kh hc)
 have hmk:∀w:World,(Instr.makeSlice 77 (.int .i64 1) (.int .i64 1)).run prog w=.ok (.slice (some ⟨w.heap.size,0,none⟩) 1 1) (w.alloc (.cells #[.pointer none] 140)):=
  λw=>by rw[<-OI];exact run_make_row' (P:=prog) 77 140 (.pointer none) 8 underlying77 Tryz.V9 rfl .i64 .i64 1 (by decide) (by decide) w
 have J0:=(aJ.none w).cells #[.int .i64 1,.int .i64 512,.int .i64 200,.int .i64 kv] 28;obtain⟨CB,V8⟩:∃CB,w.heap.size=CB:=⟨_,rfl⟩;obtain⟨W0,hW0⟩:∃W0,w.alloc (.cells #[.int .i64 1,.int .i64 512,.int .i64 200,.int .i64 kv] 28)=W0:=⟨_,rfl⟩;rw[V8,hW0] at J0;have HW0:=hid hW0;have wJ:=hid J0;obtain⟨c0,c1,c2,c3⟩:VA W0 CB (.int .i64 1) (.int .i64 512) (.int .i64 200) (.int .i64 kv):=NN (J0.get 0 rfl);clear J0 hW0 V7;go_enter func9,ntmps9;go_upto_region 1 with fail
 rw[HW0.out];clear HW0 V8
 go_wp2_with (first
  |(go_at_call 14;refine(HS.out _).mono ?_;rintro e w1 ⟨m,rfl,ho,hn0,hm1⟩;have kM:=hid (wJ.out.made hm1);have HO:=hid (And.intro ho hn0);clear hm1 ho hn0)
  |(go_at_call 32;refine(HMv.out _).mono ?_;rintro e w2 ⟨mv,rfl,hb2⟩;have HJ2:=hid (kM.out.below hb2);clear hb2))
 go_upto_region 5 with fail
 go_cut [8,9] from 42 to 51 (λs8 s9 wx=> ∃b lh pq sx,s8=.pointer (some ⟨b,0,none⟩)/\s9=.int .i64 0/\Hid (aJ (λ_=>False) w [aG b #[.pointer (some ⟨m.s,0,none⟩),.pointer (some ⟨mv,0,none⟩),.pointer (some ⟨sx,0,none⟩),.int .i64 1,.slice none 0 0,.slice (some ⟨lh,0,none⟩) 1 1,.slice (some ⟨pq,0,none⟩) 1 1,.slice none 0 0] 81,aG lh #[.pointer none] 140,rowAt (.slice (some ⟨pq,0,none⟩) 1 1) 3 1 1 [.int .i64 (-1)],gH sx (λ_=>0),gG key h bk m PM.UT] wx))
 case first=>
  go_region_held3 (λ_=>True) (exact trivial) (first
   |(go_at_call 33;refine(OH.out _).mono ?_;rintro e w5 ⟨sx,rfl,uD⟩)
   |(go_at_call 34
     (first
      |(have J:=((((HJ2.out).drew).made uD).cells #[.pointer none] 140).cells #[.int .i64 (-1)] 3;(try simp only[World.size_alloc,World.size_drew] at J);have hq:_=some (Value.int .i64 (-1)):=cA (J.get 0 rfl) 0;(with_reducible refine(vR.out _ _ hq).mono ?_);clear J hq)
      |(have J:=((((HJ2.out).drew).made uD).cells #[.int .i64 (-1)] 3).cells #[.pointer none] 140;(try simp only[World.size_alloc,World.size_drew] at J);have hq:_=some (Value.int .i64 (-1)):=cA (J.get 1 rfl) 0;(with_reducible refine(vR.out _ _ hq).mono ?_);clear J hq)
      |(have J:=(((HJ2.out).drew).made uD).cells #[.int .i64 (-1)] 3;(try simp only[World.size_alloc,World.size_drew] at J);have hq:_=some (Value.int .i64 (-1)):=cA (J.get 0 rfl) 0;(with_reducible refine(vR.out _ _ hq).mono ?_);clear J hq)
      |(have J:=((((HJ2.out).cells #[.pointer none] 140).drew).made uD).cells #[.int .i64 (-1)] 3;(try simp only[World.size_alloc,World.size_drew] at J);have hq:_=some (Value.int .i64 (-1)):=cA (J.get 0 rfl) 0;(with_reducible refine(vR.out _ _ hq).mono ?_);clear J hq)
      |(have J:=((((HJ2.out).cells #[.pointer none] 140).cells #[.int .i64 (-1)] 3).drew).made uD;(try simp only[World.size_alloc,World.size_drew] at J);have hq:_=some (Value.int .i64 (-1)):=cA (J.get 1 rfl) 0;(with_reducible refine(vR.out _ _ hq).mono ?_);clear J hq)
      |(have J:=(((HJ2.out).cells #[.pointer none] 140).cells #[.int .i64 (-1)] 3).drew;(try simp only[World.size_alloc,World.size_drew] at J);have hq:_=some (Value.int .i64 (-1)):=cA (J.get 0 rfl) 0;(with_reducible refine(vR.out _ _ hq).mono ?_);clear J hq)
      |(have J:=((((HJ2.out).cells #[.int .i64 (-1)] 3).drew).made uD).cells #[.pointer none] 140;(try simp only[World.size_alloc,World.size_drew] at J);have hq:_=some (Value.int .i64 (-1)):=cA (J.get 2 rfl) 0;(with_reducible refine(vR.out _ _ hq).mono ?_);clear J hq)
      |(have J:=(((HJ2.out).cells #[.int .i64 (-1)] 3).drew).made uD;(try simp only[World.size_alloc,World.size_drew] at J);have hq:_=some (Value.int .i64 (-1)):=cA (J.get 1 rfl) 0;(with_reducible refine(vR.out _ _ hq).mono ?_);clear J hq)
      |(have J:=((((HJ2.out).cells #[.int .i64 (-1)] 3).cells #[.pointer none] 140).drew).made uD;(try simp only[World.size_alloc,World.size_drew] at J);have hq:_=some (Value.int .i64 (-1)):=cA (J.get 2 rfl) 0;(with_reducible refine(vR.out _ _ hq).mono ?_);clear J hq)
      |(have J:=(((HJ2.out).cells #[.int .i64 (-1)] 3).cells #[.pointer none] 140).drew;(try simp only[World.size_alloc,World.size_drew] at J);have hq:_=some (Value.int .i64 (-1)):=cA (J.get 1 rfl) 0;(with_reducible refine(vR.out _ _ hq).mono ?_);clear J hq)
      |(have J:=((HJ2.out).cells #[.int .i64 (-1)] 3).drew;(try simp only[World.size_alloc,World.size_drew] at J);have hq:_=some (Value.int .i64 (-1)):=cA (J.get 0 rfl) 0;(with_reducible refine(vR.out _ _ hq).mono ?_);clear J hq))
     rintro e w6 ⟨g,rfl,hmD⟩))
  all_goals (go_wp2_with fail)
  all_goals go_meet
  all_goals first
   |(have J:=((((((HJ2.out).drew).made uD).cells #[.pointer none] 140).cells #[.int .i64 (-1)] 3).made hmD).cells #[.pointer (some ⟨m.s,0,none⟩),.pointer (some ⟨mv,0,none⟩),.pointer (some ⟨sx,0,none⟩),.int .i64 1,.slice none 0 0,.slice (some ⟨w5.heap.size,0,none⟩) 1 1,.slice (some ⟨g,0,none⟩) 1 1,.slice none 0 0] 81;(try simp only[World.size_alloc,World.size_drew] at J);(with_reducible refine⟨_,w5.heap.size,g,sx,rfl,rfl,hid (aJ.yT J [0,3,1,4,5] (by decide) ?_)⟩);rfl)
   |(have J:=((((((HJ2.out).drew).made uD).cells #[.int .i64 (-1)] 3).cells #[.pointer none] 140).made hmD).cells #[.pointer (some ⟨m.s,0,none⟩),.pointer (some ⟨mv,0,none⟩),.pointer (some ⟨sx,0,none⟩),.int .i64 1,.slice none 0 0,.slice (some ⟨w5.heap.size+1,0,none⟩) 1 1,.slice (some ⟨g,0,none⟩) 1 1,.slice none 0 0] 81;(try simp only[World.size_alloc,World.size_drew] at J);(with_reducible refine⟨_,w5.heap.size+1,g,sx,rfl,rfl,hid (aJ.yT J [0,2,1,4,5] (by decide) ?_)⟩);rfl)
   |(have J:=((((((HJ2.out).drew).made uD).cells #[.int .i64 (-1)] 3).made hmD).cells #[.pointer none] 140).cells #[.pointer (some ⟨m.s,0,none⟩),.pointer (some ⟨mv,0,none⟩),.pointer (some ⟨sx,0,none⟩),.int .i64 1,.slice none 0 0,.slice (some ⟨w6.heap.size,0,none⟩) 1 1,.slice (some ⟨g,0,none⟩) 1 1,.slice none 0 0] 81;(try simp only[World.size_alloc,World.size_drew] at J);(with_reducible refine⟨_,w6.heap.size,g,sx,rfl,rfl,hid (aJ.yT J [0,1,2,4,5] (by decide) ?_)⟩);rfl)
   |(have J:=((((((HJ2.out).cells #[.pointer none] 140).drew).made uD).cells #[.int .i64 (-1)] 3).made hmD).cells #[.pointer (some ⟨m.s,0,none⟩),.pointer (some ⟨mv,0,none⟩),.pointer (some ⟨sx,0,none⟩),.int .i64 1,.slice none 0 0,.slice (some ⟨w2.heap.size,0,none⟩) 1 1,.slice (some ⟨g,0,none⟩) 1 1,.slice none 0 0] 81;(try simp only[World.size_alloc,World.size_drew] at J);(with_reducible refine⟨_,w2.heap.size,g,sx,rfl,rfl,hid (aJ.yT J [0,4,1,3,5] (by decide) ?_)⟩);rfl)
   |(have J:=((((((HJ2.out).cells #[.pointer none] 140).cells #[.int .i64 (-1)] 3).drew).made uD).made hmD).cells #[.pointer (some ⟨m.s,0,none⟩),.pointer (some ⟨mv,0,none⟩),.pointer (some ⟨sx,0,none⟩),.int .i64 1,.slice none 0 0,.slice (some ⟨w2.heap.size,0,none⟩) 1 1,.slice (some ⟨g,0,none⟩) 1 1,.slice none 0 0] 81;(try simp only[World.size_alloc,World.size_drew] at J);(with_reducible refine⟨_,w2.heap.size,g,sx,rfl,rfl,hid (aJ.yT J [0,4,1,2,5] (by decide) ?_)⟩);rfl)
   |(have J:=((((((HJ2.out).cells #[.pointer none] 140).cells #[.int .i64 (-1)] 3).drew).made hmD).made uD).cells #[.pointer (some ⟨m.s,0,none⟩),.pointer (some ⟨mv,0,none⟩),.pointer (some ⟨sx,0,none⟩),.int .i64 1,.slice none 0 0,.slice (some ⟨w2.heap.size,0,none⟩) 1 1,.slice (some ⟨g,0,none⟩) 1 1,.slice none 0 0] 81;(try simp only[World.size_alloc,World.size_drew] at J);(with_reducible refine⟨_,w2.heap.size,g,sx,rfl,rfl,hid (aJ.yT J [0,4,2,1,5] (by decide) ?_)⟩);rfl)
   |(have J:=((((((HJ2.out).cells #[.int .i64 (-1)] 3).drew).made uD).cells #[.pointer none] 140).made hmD).cells #[.pointer (some ⟨m.s,0,none⟩),.pointer (some ⟨mv,0,none⟩),.pointer (some ⟨sx,0,none⟩),.int .i64 1,.slice none 0 0,.slice (some ⟨w5.heap.size,0,none⟩) 1 1,.slice (some ⟨g,0,none⟩) 1 1,.slice none 0 0] 81;(try simp only[World.size_alloc,World.size_drew] at J);(with_reducible refine⟨_,w5.heap.size,g,sx,rfl,rfl,hid (aJ.yT J [0,2,1,3,5] (by decide) ?_)⟩);rfl)
   |(have J:=((((((HJ2.out).cells #[.int .i64 (-1)] 3).drew).made uD).made hmD).cells #[.pointer none] 140).cells #[.pointer (some ⟨m.s,0,none⟩),.pointer (some ⟨mv,0,none⟩),.pointer (some ⟨sx,0,none⟩),.int .i64 1,.slice none 0 0,.slice (some ⟨w6.heap.size,0,none⟩) 1 1,.slice (some ⟨g,0,none⟩) 1 1,.slice none 0 0] 81;(try simp only[World.size_alloc,World.size_drew] at J);(with_reducible refine⟨_,w6.heap.size,g,sx,rfl,rfl,hid (aJ.yT J [0,1,2,3,5] (by decide) ?_)⟩);rfl)
   |(have J:=((((((HJ2.out).cells #[.int .i64 (-1)] 3).cells #[.pointer none] 140).drew).made uD).made hmD).cells #[.pointer (some ⟨m.s,0,none⟩),.pointer (some ⟨mv,0,none⟩),.pointer (some ⟨sx,0,none⟩),.int .i64 1,.slice none 0 0,.slice (some ⟨w2.heap.size+1,0,none⟩) 1 1,.slice (some ⟨g,0,none⟩) 1 1,.slice none 0 0] 81;(try simp only[World.size_alloc,World.size_drew] at J);(with_reducible refine⟨_,w2.heap.size+1,g,sx,rfl,rfl,hid (aJ.yT J [0,3,1,2,5] (by decide) ?_)⟩);rfl)
   |(have J:=((((((HJ2.out).cells #[.int .i64 (-1)] 3).cells #[.pointer none] 140).drew).made hmD).made uD).cells #[.pointer (some ⟨m.s,0,none⟩),.pointer (some ⟨mv,0,none⟩),.pointer (some ⟨sx,0,none⟩),.int .i64 1,.slice none 0 0,.slice (some ⟨w2.heap.size+1,0,none⟩) 1 1,.slice (some ⟨g,0,none⟩) 1 1,.slice none 0 0] 81;(try simp only[World.size_alloc,World.size_drew] at J);(with_reducible refine⟨_,w2.heap.size+1,g,sx,rfl,rfl,hid (aJ.yT J [0,3,2,1,5] (by decide) ?_)⟩);rfl)
   |(have J:=((((((HJ2.out).cells #[.int .i64 (-1)] 3).drew).made hmD).made uD).cells #[.pointer none] 140).cells #[.pointer (some ⟨m.s,0,none⟩),.pointer (some ⟨mv,0,none⟩),.pointer (some ⟨sx,0,none⟩),.int .i64 1,.slice none 0 0,.slice (some ⟨w5.heap.size,0,none⟩) 1 1,.slice (some ⟨g,0,none⟩) 1 1,.slice none 0 0] 81;(try simp only[World.size_alloc,World.size_drew] at J);(with_reducible refine⟨_,w5.heap.size,g,sx,rfl,rfl,hid (aJ.yT J [0,1,3,2,5] (by decide) ?_)⟩);rfl)
   |(have J:=((((((HJ2.out).cells #[.int .i64 (-1)] 3).drew).made hmD).cells #[.pointer none] 140).made uD).cells #[.pointer (some ⟨m.s,0,none⟩),.pointer (some ⟨mv,0,none⟩),.pointer (some ⟨sx,0,none⟩),.int .i64 1,.slice none 0 0,.slice (some ⟨w6.heap.size,0,none⟩) 1 1,.slice (some ⟨g,0,none⟩) 1 1,.slice none 0 0] 81;(try simp only[World.size_alloc,World.size_drew] at J);(with_reducible refine⟨_,w6.heap.size,g,sx,rfl,rfl,hid (aJ.yT J [0,2,3,1,5] (by decide) ?_)⟩);rfl)
   |fail
 case rest=>
  obtain⟨b,lh,pq,sx,rfl,rfl,hJ⟩:=hcut;go_wp2_with (fail)
  go_ret2;have J1:=hJ.out.turn 1 rfl (ag.conv (r':=rowAt (.slice (some ⟨lh,0,none⟩) 1 1) 140 1 1 [.pointer none]) (hJ.out.get 1 rfl) (λh=>EM h rfl (by decide)) (λb hb=>(by have e:some lh=some b:=hb;cases e;rfl)));have J2:=jo (jo J1 82 1) 136 35;have J3:=vM (r:=gp 0 (kN key (⟨b,mv,sx,0,0,lh,1,pq,1,.slice none 0 0,λ_=>0,λ_=>0,λ_=>0,λ_=>⟨0,0,0,.slice none 0 0,.slice none 0 0⟩,m⟩:Pl) PM.nk)) J2 (Iy _) (λb hb=>(by obtain⟨r,hr,_⟩:=hb;simp[fD] at hr));have J4:=vM (r:=gp 1 (λ_=>emp)) J3 (OL _ _) (λb hb=>(by obtain⟨r,hr,hb⟩:=hb;simp[fD] at hr;obtain⟨_,_,rfl⟩:=hr;exact hb));have J5:=J4.yT (L2:=SA key h bk 1 1 0 (⟨b,mv,sx,0,0,lh,1,pq,1,.slice none 0 0,λ_=>0,λ_=>0,λ_=>0,λ_=>⟨0,0,0,.slice none 0 0,.slice none 0 0⟩,m⟩:Pl) (.slice none 0 0)) [4,3,5,6,2,8,7,1,0] (by decide) rfl;exact⟨⟨b,mv,sx,0,0,lh,1,pq,1,.slice none 0 0,λ_=>0,λ_=>0,λ_=>0,λ_=>⟨0,0,0,.slice none 0 0,.slice none 0 0⟩,m⟩,rfl,HO.out.1,HO.out.2,(J5.emp).group.fE 0 rfl⟩
end
end Go.Proofs.YtboehbfagnocpaaGreatDoor
