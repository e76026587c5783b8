import Derived.Test.YtboehbfagnocpaaGreatDoorKaq
import Derived.Test.YtboehbfagnocpaaGreatDoorKar
set_option linter.unusedVariables false
set_option linter.unusedSimpArgs false
set_option maxRecDepth 100000
set_option maxHeartbeats 40000000
open Go.Proofs.Tryz
open Go.Lib (hid)
namespace Go.Proofs.YtboehbfagnocpaaGreatDoor
open Go.RowKit Go.PlainAid Go.Shelf
open SP
open PM (Cd An Sd Vl)
theorem W9{tok:Nat}{x:PM.It}(h:PM.UU tok x)(ht:tok<=1000000):og x:=⟨mZ h.v,by have:=h.fl;omega,by have:=h.aF;omega,h.last⟩
theorem Ld{key:ByteArray}{h:Int}{b:Nat}(hk:gu key h b)(x:Cd)(hx:PM.TZ x):AX (lV key x):=by
 have h1:W2.aO key=true:=by
  have:=hk.aO;exact this
 cases x with
 |get=>exact⟨.inl rfl,rfl,rfl,rfl,h1,hk.size,by show (0:Nat)<=1000;decide⟩
 |set fl v=>exact⟨.inr (.inl rfl),rfl,rfl,rfl,h1,hk.size,by have:=mZ hx.2;show (eX v).size<=1000;omega⟩
section
variable{key:ByteArray}{h:Int}{b:Nat}{m:SM}{s:Sd}{w:World}
theorem zx(hR:(gG key h b m s).R w):Calls prog 52 #[.pointer (some ⟨m.s,0,none⟩)] w λe w'=>e=.returned (.int .i64 472)/\w=w':=by
 obtain⟨it,tok⟩:=s;cases it with
 |none=>have J:=aJ.open (L:=JL b m tok) hR;exact qy (J.get 0 rfl) (J.get 1 rfl) rfl
 |some x=>have J:=aJ.open (L:=Ba key h b m tok) hR;exact qy (J.get 0 rfl) (J.get 1 rfl) rfl
theorem uJ(hR:(gG key h b m s).R w):w.cell? ⟨m.s,3,none⟩=some (.pointer (some ⟨m.tb,0,none⟩))/\w.cell? ⟨m.s,6,none⟩=some (.int .i64 0):=by
 obtain⟨it,tok⟩:=s;cases it with
 |none=>have J:=aJ.open (L:=JL b m tok) hR;exact⟨cA (J.get 0 rfl) 3,cA (J.get 0 rfl) 6⟩
 |some x=>have J:=aJ.open (L:=Ba key h b m tok) hR;exact⟨cA (J.get 0 rfl) 3,cA (J.get 0 rfl) 6⟩
theorem zy(hR:(gG key h b m s).R w):Calls prog 53 #[.pointer (some ⟨m.tb,0,none⟩)] w λe w'=>e=.returned (.bool false)/\w=w':=by
 obtain⟨it,tok⟩:=s;cases it with
 |none=>have J:=aJ.open (L:=JL b m tok) hR;exact yw (J.get 3 rfl).1
 |some x=>have J:=aJ.open (L:=Ba key h b m tok) hR;exact yw (J.get 3 rfl).1
def oF(key:ByteArray)(h:Int)(b:Nat)(m:SM)(s:Sd)(x:Cd)(w:World)(e:Ending)(w':World):Prop:=
 e=.returned (.tuple #[VZ key (PM.jA s x).2,.slice none 0 0])/\∃m':SM,m'.s=m.s/\m'.ps.num<=m.ps.num+1/\dO key m' (PM.jA s x).1/\ag (gG key h b m s) (gG key h b m' (PM.jA s x).1) w w'
theorem Ps{x0 x':PM.It}{tok wB:Nat}{x:Cd}(hk:gu key h b)(hR:(gG key h b m ⟨some x0,tok⟩).R w)(ho:dO key m ⟨some x0,tok⟩)(hnn:m.ps.num<=1000000){st:Nat}{it:Option PM.It}{num:Nat}(hx':og x')
 (hs:PM.jA ⟨some x0,tok⟩ x=(⟨some x',wB⟩,⟨st,it,num⟩)) {ak av:ByteArray} {aZ aU aV:Int} (ha:VZ key ⟨st,it,num⟩=.agg #[.int .i64 st,.string ak,.int .u32 aZ,.string av,.int .i64 0,.int .u64 aU,.int .i64 aV,.bool false,.bool false,.int .u64 num,.bool false,.bool false,.bool false])
 {st0 TD TE TF TG oD:Int} {ak0 av0:ByteArray} (h0:st0≠0)
 (HA0:∀W,Calls prog 51 #[.agg #[.slice none 0 0,.int .u64 0,.int .i64 0],.int .i64 1,.agg (lV key x).vs,.int .i64 472] W λe w'=> ∃sa sn sc r0,e=.returned (.tuple #[.agg #[.slice sa sn sc,.int .u64 oD,.int .i64 0],.agg #[.int .i64 st0,.string ak0,.int .u32 TD,.string av0,.int .i64 0,.int .u64 TE,.int .i64 TF,.bool false,.bool false,.int .u64 TG,.bool false,.bool false,.bool false]])/\Made r0 W w')
 (HA:∀(W:World) (xb:Nat),aP (gG key h b m ⟨some x0,tok⟩).B w W->(∀j u,(nW key x0.fl (eX x0.v) x0.aF x0.last)[j]?=some u->W.cell? ⟨xb,j,none⟩=some u)->
  Calls prog 51 #[.agg #[.slice (some ⟨xb,0,none⟩) 1 1,.int .u64 tok,.int .i64 0],.int .i64 1,.agg (lV key x).vs,.int .i64 472] W λe w'=> ∃g cap,e=.returned (.tuple #[.agg #[.slice (some ⟨g,0,none⟩) 1 cap,.int .u64 wB,.int .i64 0],.agg #[.int .i64 st,.string ak,.int .u32 aZ,.string av,.int .i64 0,.int .u64 aU,.int .i64 aV,.bool false,.bool false,.int .u64 num,.bool false,.bool false,.bool false]])/\Made (dw g cap key x'.fl (eX x'.v) x'.aF x'.last) W w'):
 Calls prog 18 #[.pointer (some ⟨m.s,0,none⟩),.int .i64 1,.agg (lV key x).vs] w (oF key h b m ⟨some x0,tok⟩ x w):=by
 have hcd:=Bf key x;refine(K8 (fst:=st) (WU:=ak) (WS:=aZ) (WV:=av) (WT:=aU) (fla:=aV) (K9:=num) (r:=gG key h b m ⟨some x0,tok⟩) (P:=λr'=> ∃m':SM,r'=gG key h b m' ⟨some x',wB⟩/\m'.s=m.s/\m'.ps.num<=m.ps.num+1/\dO key m' ⟨some x',wB⟩) hR hcd.2 h0 (λW h=>zx h) (λW h=>uJ h) (λW h=>zy h) HA0 (λW ht hW=>?_)).mono ?_
 ·refine(KX hk hW ho hnn hcd.1 hcd.2 hx' (λW2 xb ht2 hh=>HA W2 xb (ht.trans ht2 (λ_ h=> .inl h)) hh)).mono ?_;rintro e w' ⟨rfl,m',h1,h2,h3,h4⟩;exact⟨rfl,_,⟨m',rfl,h1,h2,h3⟩,h4⟩
 ·rintro e w' ⟨rfl,r',⟨m',rfl,h1,h2,h3⟩,h4⟩;unfold oF;rw[hs];exact⟨by rw[ha],m',h1,h2,h3,h4⟩
theorem Pt{x':PM.It}{tok wB:Nat}{x:Cd}(hk:gu key h b)(hR:(gG key h b m ⟨none,tok⟩).R w)(ho:dO key m ⟨none,tok⟩)(hnn:m.ps.num<=1000000){st:Nat}{it:Option PM.It}{num:Nat}(hx':og x')
 (hs:PM.jA ⟨none,tok⟩ x=(⟨some x',wB⟩,⟨st,it,num⟩)) {ak av:ByteArray} {aZ aU aV:Int} (ha:VZ key ⟨st,it,num⟩=.agg #[.int .i64 st,.string ak,.int .u32 aZ,.string av,.int .i64 0,.int .u64 aU,.int .i64 aV,.bool false,.bool false,.int .u64 num,.bool false,.bool false,.bool false])
 {st0 TD TE TF TG oD:Int} {ak0 av0:ByteArray} (h0:st0≠0)
 (HA0:∀W,Calls prog 51 #[.agg #[.slice none 0 0,.int .u64 0,.int .i64 0],.int .i64 1,.agg (lV key x).vs,.int .i64 472] W λe w'=> ∃sa sn sc r0,e=.returned (.tuple #[.agg #[.slice sa sn sc,.int .u64 oD,.int .i64 0],.agg #[.int .i64 st0,.string ak0,.int .u32 TD,.string av0,.int .i64 0,.int .u64 TE,.int .i64 TF,.bool false,.bool false,.int .u64 TG,.bool false,.bool false,.bool false]])/\Made r0 W w')
 (HA:∀(W:World),
  Calls prog 51 #[.agg #[.slice none 0 0,.int .u64 tok,.int .i64 0],.int .i64 1,.agg (lV key x).vs,.int .i64 472] W λe w'=> ∃g cap,e=.returned (.tuple #[.agg #[.slice (some ⟨g,0,none⟩) 1 cap,.int .u64 wB,.int .i64 0],.agg #[.int .i64 st,.string ak,.int .u32 aZ,.string av,.int .i64 0,.int .u64 aU,.int .i64 aV,.bool false,.bool false,.int .u64 num,.bool false,.bool false,.bool false]])/\Made (dw g cap key x'.fl (eX x'.v) x'.aF x'.last) W w'):
 Calls prog 18 #[.pointer (some ⟨m.s,0,none⟩),.int .i64 1,.agg (lV key x).vs] w (oF key h b m ⟨none,tok⟩ x w):=by
 have hcd:=Bf key x;refine(K8 (fst:=st) (WU:=ak) (WS:=aZ) (WV:=av) (WT:=aU) (fla:=aV) (K9:=num) (r:=gG key h b m ⟨none,tok⟩) (P:=λr'=> ∃m':SM,r'=gG key h b m' ⟨some x',wB⟩/\m'.s=m.s/\m'.ps.num<=m.ps.num+1/\dO key m' ⟨some x',wB⟩) hR hcd.2 h0 (λW h=>zx h) (λW h=>uJ h) (λW h=>zy h) HA0 (λW ht hW=>?_)).mono ?_
 ·refine(K7 hk hW ho hnn hcd.1 hx' HA).mono ?_;rintro e w' ⟨rfl,m',h1,h2,h3,h4⟩;exact⟨rfl,_,⟨m',rfl,h1,h2,h3⟩,h4⟩
 ·rintro e w' ⟨rfl,r',⟨m',rfl,h1,h2,h3⟩,h4⟩;unfold oF;rw[hs];exact⟨by rw[ha],m',h1,h2,h3,h4⟩
theorem Le{w w':World}(hb:Below w.heap.size w w'):Made emp w w':=⟨trivial,hb,λ_ h=>h.elim⟩
theorem TH{x:Cd}(hk:gu key h b)(hR:(gG key h b m s).R w)(ho:dO key m s)(hnn:m.ps.num<=1000000)(FD:s.tok<1000000)(hi:∀y,s.it=some y->PM.UU s.tok y)(hx:PM.TZ x)(hd:s.it=none↔∃fl v,x=.set fl v):
 Calls prog 18 #[.pointer (some ⟨m.s,0,none⟩),.int .i64 1,.agg (lV key x).vs] w (oF key h b m s x w):=by
 have hc:=Ld hk x hx;obtain⟨it,tok⟩:=s;dsimp only at FD hi hd;have h1:(0:Int)<=tok:=by omega
 have h2:(tok:Int)<=1000000:=by omega
 cases it with
 |none=>
  obtain⟨fl,v,rfl⟩:=hd.1 rfl;have hv:=mZ hx.2;have hit:og ⟨fl,v,tok+1,0⟩:=⟨hv,by have:=hx.1;show fl<_;omega,by show tok+1<=_;omega,Nat.zero_le _⟩
  exact Pt hk hR ho hnn hit (ak:=key) (av:=eX v) (aZ:=fl) (aU:=((tok+1:Nat):Int)) (aV:=((0:Nat):Int)) rfl rfl (show (2:Int)≠0 by decide)
   (λW=>(jr (aF:=0) hc (by show (eX v).size<=100;omega) (by decide) (by decide)).mono (λe w' ⟨g,cap,he,hm⟩=>⟨_,_,_,_,he,hm⟩))
   (λW=>jr (aF:=tok) hc (by show (eX v).size<=100;omega) h1 h2)
 |some y=>
  have hy:=W9 (hi y rfl) (by omega);cases x with
  |get=>
   have hit:og {y with last:=1}:=⟨hy.v,hy.fl,hy.aF,Nat.le_refl _⟩
   exact Ps hk hR ho hnn hit (ak:=key) (av:=eX y.v) (aZ:=y.fl) (aU:=y.aF) (aV:=((1:Nat):Int)) rfl rfl (show (5:Int)≠0 by decide)
    (λW=>(wy (aF:=0) hc (by show (0:Nat)<=100;decide) (by decide) (by decide)).mono (λe w' ⟨he,hb⟩=>⟨_,_,_,emp,he,Le hb⟩))
    (λW xb _ hxb=>m_ (aF:=tok) hc (by show (0:Nat)<=100;decide) h1 h2 hxb)
  |set fl v=>exact absurd (hd.2 ⟨fl,v,rfl⟩) (by simp)
end
open Go.RowKit Go.PlainAid
def tE:Value->Option (DataW Unit×List MemPlace)
 | .agg ⟨[.int .i64 a,.int .i64 b]⟩=>if b=0 then some (.lit (.int .i64 a),[]) else none
 |_=>none
theorem Lf(a:Int):tE (.agg #[.int .i64 a,.int .i64 0])=some (.lit (.int .i64 a),[]):=rfl
theorem Lg{v:Value}{a:Int}{ps:List MemPlace}(h:tE v=some (.lit (.int .i64 a),ps)):v=.agg #[.int .i64 a,.int .i64 0]:=by
 unfold tE at h;split at h
 ·rename_i x y;split at h
  ·rename_i e;subst e;simp only[Option.some.injEq,Prod.mk.injEq,DataW.lit.injEq,Lit.int.injEq,true_and] at h;rw[h.1]
  ·cases h
 ·cases h
theorem W_(w:World):(zeroValue 321).run prog w=.ok (.agg #[.int .i64 0,.int .i64 0]) w:=by
 have h:(prog.info? 321).map (λi=>i.zero)=some (some (.agg #[.int .i64 0,.int .i64 0])):=by kernel_rfl
 obtain⟨i,hi,hz⟩:=Option.map_eq_some_iff.1 h;simp[zeroValue,typeInfo,hi,hz]
def fM(mb N:Nat)(o:Option Int):aT where
 R w:=∃D:DataW Unit,w.ownsMap prog 3 tE mb N D/\Maps.has D k0=o.isSome/\∀v,o=some v->D.atKey k0 (.lit (.int .i64 0))=.lit (.int .i64 v)
 B x:=x=mb
 keep:=by
  rintro w w' T ⟨D,⟨es,clock,h1,h2⟩,hD⟩ ht hd;exact⟨D,⟨es,clock,(ht.block _ (Array.getElem?_eq_some_iff.1 h1).1 (hd _ rfl)).trans h1,h2⟩,hD⟩
 lt:=by
  rintro w b ⟨D,ho,_⟩ rfl;exact ho.lt
theorem FE{w:World}{mb N:Nat}{o:Option Int}(h:(fM mb N o).R w):
 (Instr.lookup 244 (.map (some mb)) (.int .i64 0) true).run prog w=.ok (.tuple #[.agg #[.int .i64 (o.getD 0),.int .i64 0],.bool o.isSome]) w:=by
 obtain⟨D,ho,hh,hv⟩:=h;obtain⟨v,ps,hrun,he⟩:=ho.look_ok zX underlying244 (W_ w) (Lf 0) (Maps.keyOf_int_mk underlying3 (a:=0) (by decide));rw[hrun,show Maps.has D (.int .i64 0)=o.isSome from hh];cases o with
 |none=>
  rw[Maps.atKey_of_not_has (show Maps.has D (.int .i64 0)=false from hh)] at he;rw[Lg he];rfl
 |some x=>
  rw[show D.atKey (.int .i64 0) (.lit (.int .i64 0))=.lit (.int .i64 x) from hv x rfl] at he;rw[Lg he];rfl
theorem Lh{w:World}{mb N:Nat}{o:Option Int}(h:(fM mb N o).R w)(v:Int)(hN:N<maxLen):
 ∃w',(Instr.mapUpdate 244 (.map (some mb)) (.int .i64 0) (.agg #[.int .i64 v,.int .i64 0])).run prog w=.ok () w'/\ag (fM mb N o) (fM mb (N+1) (some v)) w w':=by
 obtain⟨D,ho,hh,_⟩:=h;obtain⟨w',hrun,ho',hg⟩:=ho.update zX underlying244 hN (Maps.keyOf_int_mk underlying3 (a:=0) (by decide)) (Lf v);refine⟨w',hrun,⟨_,ho',?_,λx hx=>?_⟩,(aP.bC hg).mono (λb hb=>by injection hb with hb;exact hb.symm),λb hb=> .inl hb⟩
 ·exact Maps.has_put_same ho.isMap (by trivial) _
 ·cases hx;exact Maps.atKey_put_same ho.isMap (by trivial) _ _
theorem Li(w:World):(fM w.heap.size 0 none).R (w.alloc (.map #[] 0)):=
 ⟨.map [],World.ownsMap_made w _ _ _,rfl,λv h=>by cases h⟩
section
variable(st:Int)(ak:ByteArray)(aZ:Int)(av:ByteArray)(aU aV num:Int)(w:World)
theorem FH(h:¬st=12):
 (binOp .eql 52 (.agg #[.int .i64 st,.string ak,.int .u32 aZ,.string av,.int .i64 0,.int .u64 aU,.int .i64 aV,.bool false,.bool false,.int .u64 num,.bool false,.bool false,.bool false]) (.agg #[.int .i64 12,.string ⟨#[]⟩,.int .u32 0,.string ⟨#[]⟩,.int .i64 0,.int .u64 0,.int .i64 0,.bool false,.bool false,.int .u64 0,.bool false,.bool false,.bool false])).run prog w=.ok (.bool false) w:=by
 have hp:prog.stoodInHeld 52=false:=by kernel_rfl
 have hp2:prog.stoodInHeld 50=false:=by kernel_rfl
 simp only[binOp];simp[Op.equal,Op.maxDepth,run_equalIn_struct w _ 52 _ _ underlying52 hp,go_sem,h]
theorem zz:
 (binOp .neq 52 (.agg #[.int .i64 st,.string ak,.int .u32 aZ,.string av,.int .i64 0,.int .u64 aU,.int .i64 aV,.bool false,.bool false,.int .u64 num,.bool false,.bool false,.bool false]) (.agg #[.int .i64 st,.string ak,.int .u32 aZ,.string av,.int .i64 0,.int .u64 aU,.int .i64 aV,.bool false,.bool false,.int .u64 num,.bool false,.bool false,.bool false])).run prog w=.ok (.bool false) w:=by
 have hp:prog.stoodInHeld 52=false:=by kernel_rfl
 have hp2:prog.stoodInHeld 50=false:=by kernel_rfl
 simp only[binOp];simp[Op.equal,Op.maxDepth,run_equalIn_struct w _ 52 _ _ underlying52 hp,run_equalIn_struct w _ 50 _ _ underlying50 hp2,go_sem,I8.toList_inj]
end
def wA(iv:Value)(aF:Int)(mb:Nat):Array Value:=#[iv,.int .u64 aF,.int .i64 0,.int .i64 1,.map (some mb),.int .i64 472]
def pG(wb:Nat)(iv:Value)(aF:Int)(mb:Nat):aT:=aG wb (wA iv aF mb) 246
theorem Lj{fn:Func}{k:Nat}(hres:fn.results= #[.cell k 121]){R:Ending->World->Prop}{tmps:Array Value}{W:World}{N:Nat}{v0 v1 v2:Value}
 (h2:tmps.getD k undef=.pointer (some ⟨N,0,none⟩)) (hb:(aG N #[v0,v1,v2] 121).R W)
 (hR:R (.returned (.agg #[v0,v1,v2])) W):
 bodyPost prog fn R .ret {tmps:=tmps,defers:=[]} W:=by
 refine bodyPost_ret (v:=.agg #[v0,v1,v2]) ?_ rfl hR;have h2':tmps[k]?.getD undef=.pointer (some ⟨N,0,none⟩):=by simpa using h2
 obtain⟨x0,x1,x2⟩:LP W N v0 v1 v2:=vw (hb);simp[results,hres,go_sem,h2',x0,x1,x2]
theorem FI{wb mb:Nat}{aF:Int}{w:World}(h:(pG wb (.slice none 0 0) aF mb).R w):
 Calls prog 212 #[.pointer (some ⟨wb,0,none⟩),.int .i64 1] w λe w'=>e=.returned (.agg #[.slice none 0 0,.int .u64 aF,.int .i64 0])/\Below w.heap.size w w':=by
 have hb0:=bA w (.cells #[.slice none 0 0,.int .u64 0,.int .i64 0] 121);have h0:=(pG wb (.slice none 0 0) aF mb).keep h (aP.of_below (λ_=>False) hb0) (λ_ _ x=>x);have c0:(w.alloc (.cells #[.slice none 0 0,.int .u64 0,.int .i64 0] 121)).cell? ⟨wb,0,none⟩=some (.slice none 0 0):=cA h0 0;have c1:(w.alloc (.cells #[.slice none 0 0,.int .u64 0,.int .i64 0] 121)).cell? ⟨wb,1,none⟩=some (.int .u64 aF):=cA h0 1;have c2:(w.alloc (.cells #[.slice none 0 0,.int .u64 0,.int .i64 0] 121)).cell? ⟨wb,2,none⟩=some (.int .i64 0):=cA h0 2;have J:=((aJ.none w).cells #[.slice none 0 0,.int .u64 0,.int .i64 0] 121).cells #[.slice none 0 0,.int .u64 aF,.int .i64 0] 121;simp only[World.size_alloc] at J;have HJ:=hid J;clear h h0 hb0 J;go_enter func212,ntmps212;go_wp2_with (fail)
 obtain⟨N,hN⟩:∃N,w.heap.size=N:=⟨_,rfl⟩;obtain⟨W,hW⟩:∃W,(w.alloc (.cells #[.slice none 0 0,.int .u64 0,.int .i64 0] 121)).alloc (.cells #[.slice none 0 0,.int .u64 aF,.int .i64 0] 121)=W:=⟨_,rfl⟩;have J0:=HJ.out;rw[hN,hW] at J0;rw[hW];rw[hN];obtain⟨x0,f0,x1,f1,x2,f2⟩:vC W (N+1) (.slice none 0 0) (.int .u64 aF) (.int .i64 0):=jD (J0.get 0 rfl);obtain⟨y0,g0,y1,g1,y2,g2⟩:vC W N (.slice none 0 0) (.int .u64 0) (.int .i64 0):=jD (J0.get 1 rfl);have J1:=J0.turn 0 rfl (ai (J0.get 0 rfl) 0 (.slice none 0 0));have hs:=aK N 121 [.slice none 0 0,.int .u64 aF,.int .i64 0] 0 _ _ (J1.get 1 rfl);rw[show aR 0 [.slice none 0 0,.int .u64 aF,.int .i64 0] #[.slice none 0 0,.int .u64 0,.int .i64 0]= #[.slice none 0 0,.int .u64 aF,.int .i64 0] by simp[aR]] at hs;have J2:=J1.turn 1 rfl hs;simp only[aS] at J2;have HE:=hid (And.intro (J2.get 1 rfl) (J2.fE 1 rfl).bel);have HC1:=hid (J1.get 0 rfl);have n1:¬N+1=N:=by omega
 have n2:¬N=N+1:=by omega
 clear J1 J2 hs J0 HJ hN hW;go_loopw [6,28] (λl i wr=>l=.slice none 0 0/\i=.int .i64 0/\wr=W) (λ_ _ _=>0)
 case atStart=>exact⟨rfl,rfl,rfl⟩
 case round=>
  obtain⟨rfl,rfl,hr⟩:=hrel;subst hr;go_wp2_with (fail)
  exact Lj (N:=N) rfl rfl HE.out.1 ⟨rfl,HE.out.2⟩
theorem Ll{wb mb g cap:Nat}{aF:Int}{ky v:ByteArray}{fl ca la:Int}{w:World}(h:(pG wb (.slice (some ⟨g,0,none⟩) 1 cap) aF mb).R w)(hr:(dw g cap ky fl v ca la).R w):
 Calls prog 212 #[.pointer (some ⟨wb,0,none⟩),.int .i64 1] w λe w'=> ∃g' cap',e=.returned (.agg #[.slice (some ⟨g',0,none⟩) 1 cap',.int .u64 aF,.int .i64 0])/\Made (dw g' cap' ky fl v ca la) w w':=by
 have hb0:=bA w (.cells #[.slice none 0 0,.int .u64 0,.int .i64 0] 121);have h0:=(pG wb (.slice (some ⟨g,0,none⟩) 1 cap) aF mb).keep h (aP.of_below (λ_=>False) hb0) (λ_ _ x=>x);have c0:(w.alloc (.cells #[.slice none 0 0,.int .u64 0,.int .i64 0] 121)).cell? ⟨wb,0,none⟩=some (.slice (some ⟨g,0,none⟩) 1 cap):=cA h0 0;have c1:(w.alloc (.cells #[.slice none 0 0,.int .u64 0,.int .i64 0] 121)).cell? ⟨wb,1,none⟩=some (.int .u64 aF):=cA h0 1;have c2:(w.alloc (.cells #[.slice none 0 0,.int .u64 0,.int .i64 0] 121)).cell? ⟨wb,2,none⟩=some (.int .i64 0):=cA h0 2;have J:=((aJ.none w).cells #[.slice none 0 0,.int .u64 0,.int .i64 0] 121).cells #[.slice (some ⟨g,0,none⟩) 1 cap,.int .u64 aF,.int .i64 0] 121;simp only[World.size_alloc] at J;have HJ:=hid J;have hbW:=(bA w (.cells #[.slice none 0 0,.int .u64 0,.int .i64 0] 121)).trans ((bA (w.alloc (.cells #[.slice none 0 0,.int .u64 0,.int .i64 0] 121)) (.cells #[.slice (some ⟨g,0,none⟩) 1 cap,.int .u64 aF,.int .i64 0] 121)).mono (by simp));have Ur:=(dw g cap ky fl v ca la).keep hr (aP.of_below (λ_=>False) hbW) (λ_ _ x=>x);have HRW:=hid Ur;clear h h0 hb0 J hr hbW Ur;go_enter func212,ntmps212;go_wp2_with (fail)
 obtain⟨N,hN⟩:∃N,w.heap.size=N:=⟨_,rfl⟩;obtain⟨W,hW⟩:∃W,(w.alloc (.cells #[.slice none 0 0,.int .u64 0,.int .i64 0] 121)).alloc (.cells #[.slice (some ⟨g,0,none⟩) 1 cap,.int .u64 aF,.int .i64 0] 121)=W:=⟨_,rfl⟩;have J0:=HJ.out;have Ur:=HRW.out;rw[hW] at Ur;rw[hN,hW] at J0;rw[hW];rw[hN];have wJ:=hid J0;have aaU:=hid Ur;have EY:=hid hN;clear J0 Ur HRW HJ hN hW c0 c1 c2;go_loopw [6,28] (λl i wr=>(l=.slice none 0 0/\i=.int .i64 0/\wr=W)\/(∃g' cap',l=.slice (some ⟨g',0,none⟩) 1 cap'/\i=.int .i64 1/\Hid (aJ (λ_=>False) w [dw g' cap' ky fl v ca la,aG (N+1) #[.slice (some ⟨g,0,none⟩) 1 cap,.int .u64 aF,.int .i64 0] 121,aG N #[.slice none 0 0,.int .u64 0,.int .i64 0] 121] wr))) (λ_ i _=>1-(intOf i).toNat)
 case atStart=>exact .inl ⟨rfl,rfl,rfl⟩
 case round=>
  rcases hrel with ⟨rfl,rfl,hr⟩|⟨g',cap',rfl,rfl,hs⟩
  ·subst hr;obtain⟨i0,i1,i2,i3,i4,i5,i6,i7⟩:Qd wr g (.string ky) (.int .u32 fl) (.string v) (.int .i64 0) (.int .u64 ca) (.int .i64 la) (.bool false) (.bool false):=Ay (aaU.out);have J1:=wJ.out.cells #[.string ky,.int .u32 fl,.string v,.int .i64 0,.int .u64 ca,.int .i64 la,.bool false,.bool false] 50;have kM:=hid J1;clear J1;go_wp2_with (at_builtin;go_must (refine fT si rfl _ _ rfl rfl (eu _ _ _) (by simp only[World.size_alloc];rfl) rfl (by simp[Value.oneCell']) (by omega) (by omega) ?_);intro g1 jP w2 ht)
   have J2:=(jo kM.out 50 8).turn 0 rfl ht;have J3:=J2.yT (L2:=[dw g1 jP ky fl v ca la,aG (N+1) #[.slice (some ⟨g,0,none⟩) 1 cap,.int .u64 aF,.int .i64 0] 121,aG N #[.slice none 0 0,.int .u64 0,.int .i64 0] 121]) [0,2,3] (by decide) rfl;have vP:=hid J3;clear J2 J3 ht kM;go_roundw;case rel=>exact .inr ⟨g1,jP,by first|rfl|simp,by first|rfl|simp,vP⟩
   case measure=>(simp only[intOf];decide)
  ·have J0:=hs.out;obtain⟨x0,f0,x1,f1,x2,f2⟩:vC wr (N+1) (.slice (some ⟨g,0,none⟩) 1 cap) (.int .u64 aF) (.int .i64 0):=jD (J0.get 1 rfl);obtain⟨y0,z0,y1,z1,y2,z2⟩:vC wr N (.slice none 0 0) (.int .u64 0) (.int .i64 0):=jD (J0.get 2 rfl);have J1:=J0.turn 1 rfl (ai (J0.get 1 rfl) 0 (.slice (some ⟨g',0,none⟩) 1 cap'));have hs2:=aK N 121 [.slice (some ⟨g',0,none⟩) 1 cap',.int .u64 aF,.int .i64 0] 0 _ _ (J1.get 2 rfl);rw[show aR 0 [.slice (some ⟨g',0,none⟩) 1 cap',.int .u64 aF,.int .i64 0] #[.slice none 0 0,.int .u64 0,.int .i64 0]= #[.slice (some ⟨g',0,none⟩) 1 cap',.int .u64 aF,.int .i64 0] by simp[aR]] at hs2;have J2:=J1.turn 2 rfl hs2;simp only[aS] at J2;have HE:=hid (And.intro (J2.get 2 rfl) (J2.fE 0 rfl));have n1:¬N+1=N:=by omega
   have n2:¬N=N+1:=by omega
   clear J1 J2 hs2 J0;go_wp2_with (fail)
   exact Lj (N:=N) rfl rfl HE.out.1 ⟨g',cap',rfl,HE.out.2⟩
theorem Pv{wb mb n:Nat}{o:Option Int}{iv:Value}{aF sq op mode flags exp tok delta aj st aZ aU aV num:Int}{aI value ak av:ByteArray}{ah:Bool}{w:World}(ho:(o=none/\sq=1)\/(o=some 1/\sq=2))(h:(pG wb iv aF mb).R w)(hm:(fM mb n o).R w):
 Calls prog 214 #[.pointer (some ⟨wb,0,none⟩),.agg #[.int .i64 1,.int .i64 1,.int .i64 0,.int .i64 sq,.int .i64 0,.int .i64 op,.int .i64 mode,.string aI,.string value,.int .u32 flags,.int .i64 exp,.bool false,.int .u64 tok,.bool ah,.int .u64 delta,.int .u64 0,.bool false,.bool false,.int .i64 0,.int .i64 aj,.bool false,.int .i64 st,.string ak,.int .u32 aZ,.string av,.int .i64 0,.int .u64 aU,.int .i64 aV,.bool false,.bool false,.int .u64 num,.bool false,.bool false,.bool false,.slice none 0 0]] w λe w'=>e=.returned (.bool true)/\Below w.heap.size w w':=by
 have J:=(aJ.none w).cells #[.int .i64 1,.int .i64 1,.int .i64 0,.int .i64 sq,.int .i64 0,.int .i64 op,.int .i64 mode,.string aI,.string value,.int .u32 flags,.int .i64 exp,.bool false,.int .u64 tok,.bool ah,.int .u64 delta,.int .u64 0,.bool false,.bool false,.int .i64 0,.int .i64 aj,.bool false,.int .i64 st,.string ak,.int .u32 aZ,.string av,.int .i64 0,.int .u64 aU,.int .i64 aV,.bool false,.bool false,.int .u64 num,.bool false,.bool false,.bool false,.slice none 0 0] 136;have hb0:=bA w (.cells #[.int .i64 1,.int .i64 1,.int .i64 0,.int .i64 sq,.int .i64 0,.int .i64 op,.int .i64 mode,.string aI,.string value,.int .u32 flags,.int .i64 exp,.bool false,.int .u64 tok,.bool ah,.int .u64 delta,.int .u64 0,.bool false,.bool false,.int .i64 0,.int .i64 aj,.bool false,.int .i64 st,.string ak,.int .u32 aZ,.string av,.int .i64 0,.int .u64 aU,.int .i64 aV,.bool false,.bool false,.int .u64 num,.bool false,.bool false,.bool false,.slice none 0 0] 136);have h0:=(pG wb iv aF mb).keep h (aP.of_below (λ_=>False) hb0) (λ_ _ x=>x);have m0:=(fM mb n o).keep hm (aP.of_below (λ_=>False) hb0) (λ_ _ x=>x);obtain⟨E,hE⟩:∃E,w.heap.size=E:=⟨_,rfl⟩;obtain⟨W,hW⟩:∃W,w.alloc (.cells #[.int .i64 1,.int .i64 1,.int .i64 0,.int .i64 sq,.int .i64 0,.int .i64 op,.int .i64 mode,.string aI,.string value,.int .u32 flags,.int .i64 exp,.bool false,.int .u64 tok,.bool ah,.int .u64 delta,.int .u64 0,.bool false,.bool false,.int .i64 0,.int .i64 aj,.bool false,.int .i64 st,.string ak,.int .u32 aZ,.string av,.int .i64 0,.int .u64 aU,.int .i64 aV,.bool false,.bool false,.int .u64 num,.bool false,.bool false,.bool false,.slice none 0 0] 136)=W:=⟨_,rfl⟩;rw[hW] at J h0 m0 hb0;rw[hE] at J;have HW:=hid hW;have HB:=hid hb0;have HK:Hid (∀w',Below W.heap.size W w'->w'.cell? ⟨wb,4,none⟩=some (.map (some mb))/\w'.cell? ⟨E,2,none⟩=some (.int .i64 0)/\(Instr.lookup 244 (.map (some mb)) (.int .i64 0) true).run prog w'=.ok (.tuple #[.agg #[.int .i64 (o.getD 0),.int .i64 0],.bool o.isSome]) w'):=hid (λw' hb=>⟨cA ((pG wb iv aF mb).keep h0 (aP.of_below (λ_=>False) hb) (λ_ _ x=>x)) 4,cA ((J.below hb).get 0 rfl) 2,FE ((fM mb n o).keep m0 (aP.of_below (λ_=>False) hb) (λ_ _ x=>x))⟩);have S0:=HK.out W (Below.refl _ _);have HJ:Hid (∀w',Below W.heap.size W w'->w'.cell? ⟨E,2,none⟩=some (.int .i64 0)/\w'.cell? ⟨E,3,none⟩=some (.int .i64 sq)/\w'.cell? ⟨E,4,none⟩=some (.int .i64 0)):=hid (λw' hb=>⟨cA ((J.below hb).get 0 rfl) 2,cA ((J.below hb).get 0 rfl) 3,cA ((J.below hb).get 0 rfl) 4⟩);have HO:=hid ho;have HE:=hid hE;clear J h0 m0 hb0 hW h hm ho;go_enter func214,ntmps214;go_upto_region 1 with fail
 rw[HW.out];clear HW;clear hE;go_cut [5,6] from 8 to 16 (λs5 s6 wx=> ∃T,s5=.pointer (some ⟨T,0,none⟩)/\s6=.bool o.isSome/\Hid (aJ (λ_=>False) W [aG T #[.int .i64 (o.getD 0),.int .i64 0] 321] wx))
 case first=>
  go_region_held3 (λw'=>w'.cell? ⟨wb,4,none⟩=some (.map (some mb))/\w'.cell? ⟨E,2,none⟩=some (.int .i64 0)/\(Instr.lookup 244 (.map (some mb)) (.int .i64 0) true).run prog w'=.ok (.tuple #[.agg #[.int .i64 (o.getD 0),.int .i64 0],.bool o.isSome]) w') (first|exact HK.out _ (by go_grown)) (fail)
  all_goals (go_wp2_with fail)
  all_goals go_meet
  all_goals first
   |exact⟨_,rfl,rfl,hid ((aJ.none W).drew.cells #[.int .i64 (o.getD 0),.int .i64 0] 321)⟩
   |exact⟨_,rfl,rfl,hid ((aJ.none W).cells #[.int .i64 (o.getD 0),.int .i64 0] 321).drew⟩
   |fail
 case rest=>
  obtain⟨T,rfl,rfl,hJ⟩:=hcut;have hbc:Below W.heap.size W wc:=(hJ.out.fE 0 rfl).bel;obtain⟨k2,k3,k4⟩:=HJ.out wc hbc;have t0:wc.cell? ⟨T,0,none⟩=some (.int .i64 (o.getD 0)):=cA (hJ.out.get 0 rfl) 0;have HB2:=hid (HB.out.trans (hbc.mono HB.out.size));clear HK S0 HJ HB hbc hJ HE;rcases HO.out with ⟨rfl,rfl⟩|⟨rfl,rfl⟩
  ·clear HO;simp only[Option.isSome] at*;go_wp2_with (fail)
   go_ret;exact⟨by first|rfl|simp,HB2.out⟩
  ·have t1:wc.cell? ⟨T,0,none⟩=some (.int .i64 1):=t0;clear HO t0;simp only[Option.isSome] at*;go_wp2_with (fail)
   go_ret;exact⟨by first|rfl|simp,HB2.out⟩
theorem kr{b:Nat}{vs:Array Value}{t:TypeId}{w:World}(o:Nat)(h:(aG b vs t).R w)(l:List Value)(hl:(vs.toList.drop o).take l.length=l):w.rangeAt b o l:=λj v hv=>by
 rw[cA h (o+j)];rw[<-hl,List.getElem?_take] at hv;split at hv
 ·rw[List.getElem?_drop] at hv;rw[<-hv];simp
 ·cases hv
theorem szE:(prog.info? 136).map (·.size)=some 35:=by kernel_rfl
theorem szA:(prog.info? 52).map (·.size)=some 13:=by kernel_rfl
theorem zA{r0:aT}{wb mb n:Nat}{o:Option Int}{ia:Option Addr}{im ic:Nat}{aF dG sq op mode flags exp tok delta aj st aZ aU aV num lM AY oV:Int}{aI value ak av ky v2:ByteArray}{ah:Bool}{w:World}(Pw:¬st=0)(hst:¬st=12)(ho:(o=none/\sq=1)\/(o=some 1/\sq=2))(hn:n<100)
 (hR:(many [pG wb (.slice ia im ic) aF mb,fM mb n o,r0]).R w)
 (HLv:∀W,(pG wb (.slice ia im ic) aF mb).R W->r0.R W->Calls prog 212 #[.pointer (some ⟨wb,0,none⟩),.int .i64 1] W λe w'=> ∃la ln lc r1,e=.returned (.agg #[.slice la ln lc,.int .u64 aF,.int .i64 0])/\Made r1 W w'/\
  ∀W2,r1.R W2->Calls prog 51 #[.agg #[.slice la ln lc,.int .u64 aF,.int .i64 0],.int .i64 1,.agg #[.int .i64 op,.int .i64 mode,.string aI,.string value,.int .u32 flags,.int .i64 exp,.bool false,.int .u64 tok,.bool ah,.int .u64 delta,.int .u64 0,.bool false,.bool false,.int .i64 0,.int .i64 aj,.bool false],.int .i64 472] W2 λe w''=> ∃g cap,e=.returned (.tuple #[.agg #[.slice (some ⟨g,0,none⟩) 1 cap,.int .u64 dG,.int .i64 0],.agg #[.int .i64 st,.string ak,.int .u32 aZ,.string av,.int .i64 0,.int .u64 aU,.int .i64 aV,.bool false,.bool false,.int .u64 num,.bool false,.bool false,.bool false]])/\Made (dw g cap ky lM v2 AY oV) W2 w''):
 Calls prog 149 #[.pointer (some ⟨wb,0,none⟩),.agg #[.int .i64 1,.int .i64 1,.int .i64 0,.int .i64 sq,.int .i64 0,.int .i64 op,.int .i64 mode,.string aI,.string value,.int .u32 flags,.int .i64 exp,.bool false,.int .u64 tok,.bool ah,.int .u64 delta,.int .u64 0,.bool false,.bool false,.int .i64 0,.int .i64 aj,.bool false,.int .i64 st,.string ak,.int .u32 aZ,.string av,.int .i64 0,.int .u64 aU,.int .i64 aV,.bool false,.bool false,.int .u64 num,.bool false,.bool false,.bool false,.slice none 0 0]] w λe w'=>e=.returned (.bool true)/\∃g cap,ag (many [pG wb (.slice ia im ic) aF mb,fM mb n o,r0]) (many [pG wb (.slice (some ⟨g,0,none⟩) 1 cap) dG mb,fM mb (n+1) (some sq),dw g cap ky lM v2 AY oV]) w w':=by
 have J:=(aJ.open hR).cells #[.int .i64 1,.int .i64 1,.int .i64 0,.int .i64 sq,.int .i64 0,.int .i64 op,.int .i64 mode,.string aI,.string value,.int .u32 flags,.int .i64 exp,.bool false,.int .u64 tok,.bool ah,.int .u64 delta,.int .u64 0,.bool false,.bool false,.int .i64 0,.int .i64 aj,.bool false,.int .i64 st,.string ak,.int .u32 aZ,.string av,.int .i64 0,.int .u64 aU,.int .i64 aV,.bool false,.bool false,.int .u64 num,.bool false,.bool false,.bool false,.slice none 0 0] 136;obtain⟨E,hE⟩:∃E,w.heap.size=E:=⟨_,rfl⟩;obtain⟨W,hW⟩:∃W,w.alloc (.cells #[.int .i64 1,.int .i64 1,.int .i64 0,.int .i64 sq,.int .i64 0,.int .i64 op,.int .i64 mode,.string aI,.string value,.int .u32 flags,.int .i64 exp,.bool false,.int .u64 tok,.bool ah,.int .u64 delta,.int .u64 0,.bool false,.bool false,.int .i64 0,.int .i64 aj,.bool false,.int .i64 st,.string ak,.int .u32 aZ,.string av,.int .i64 0,.int .u64 aU,.int .i64 aV,.bool false,.bool false,.int .u64 num,.bool false,.bool false,.bool false,.slice none 0 0] 136)=W:=⟨_,rfl⟩;rw[hW,hE] at J;have HW:=hid hW;have HJ:=hid J;have TI:¬sq<1:=by rcases ho with ⟨_,rfl⟩|⟨_,rfl⟩<;>decide
 have HHO:=hid (And.intro ho hn);have S0:W.drew.cell? ⟨E,1,none⟩=some (.int .i64 1)/\W.drew.cell? ⟨wb,3,none⟩=some (.int .i64 1):=⟨cA (J.drew.get 0 rfl) 1,cA (show (aG wb (wA (.slice ia im ic) aF mb) 246).R W.drew from J.drew.get 1 rfl) 3⟩;have HH:=hid HLv;have qE:=hid (λw=>FH st ak aZ av aU aV num w hst);have qN:=hid (λw=>zz st ak aZ av aU aV num w);have Qj:=hid Pw;have aaV:=hid hst;clear J hW hR HLv ho hn Pw hst;go_enter func149,ntmps149;go_upto_region 1 with fail
 rw[HW.out];clear HW;clear hE;go_region_held3 (λw'=>w'.cell? ⟨E,1,none⟩=some (.int .i64 1)/\w'.cell? ⟨wb,3,none⟩=some (.int .i64 1)) (exact S0) (fail)
 have e1:W.drew.cell? ⟨E,1,none⟩=some (.int .i64 1):=S0.1;have HLw:=hid (HH.out W.drew (HJ.out.drew.get 1 rfl) (HJ.out.drew.get 3 rfl))
 go_wp2_with (first
  |(go_at_call 212;refine HLw.out.mono ?_;rintro e w1 ⟨la,ln,lc,r1,rfl,hm1,hap⟩
    have J1:=(HJ.out.drew.made hm1).cells #[.slice la ln lc,.int .u64 aF,.int .i64 0] 121;have kM:=hid J1;have HAP:=hid hap;have e34:(w1.alloc (.cells #[.slice la ln lc,.int .u64 aF,.int .i64 0] 121)).cell? ⟨E,34,none⟩=some (.slice none 0 0):=cA (J1.get 2 rfl) 34;clear J1 hm1 hap))
 obtain⟨S5,hS5⟩:∃S5,w1.heap.size=S5:=⟨_,rfl⟩;obtain⟨W3,hW3⟩:∃W3,w1.alloc (.cells #[.slice la ln lc,.int .u64 aF,.int .i64 0] 121)=W3:=⟨_,rfl⟩;have J3:=kM.out;rw[hW3,hS5] at J3;rw[hW3];rw[hS5];have eF:Hid (aJ (many [pG wb (.slice ia im ic) aF mb,fM mb n o,r0]).B w [aG S5 #[.slice la ln lc,.int .u64 aF,.int .i64 0] 121,r1,aG E #[.int .i64 1,.int .i64 1,.int .i64 0,.int .i64 sq,.int .i64 0,.int .i64 op,.int .i64 mode,.string aI,.string value,.int .u32 flags,.int .i64 exp,.bool false,.int .u64 tok,.bool ah,.int .u64 delta,.int .u64 0,.bool false,.bool false,.int .i64 0,.int .i64 aj,.bool false,.int .i64 st,.string ak,.int .u32 aZ,.string av,.int .i64 0,.int .u64 aU,.int .i64 aV,.bool false,.bool false,.int .u64 num,.bool false,.bool false,.bool false,.slice none 0 0] 136,pG wb (.slice ia im ic) aF mb,fM mb n o,r0] W3):=hid J3;clear J3 kM hW3 hS5 e34 HLw HH e1 S0 HJ;go_loopw [30] (λi wr=>i=.int .i64 0/\wr=W3) (λ_ _=>0)
 case atStart=>exact⟨rfl,rfl⟩
 case round=>
  obtain⟨rfl,hr⟩:=hrel;have hr2:=hr.symm;subst hr2;have k0:W3.cell? ⟨E,0,none⟩=some (.int .i64 1):=cA (eF.out.get 2 rfl) 0;go_wp2_with (fail)
  go_upto_region 18 with fail
  have K3:Hid (∀W',Below W3.heap.size W3 W'->Calls prog 51 #[.agg #[.slice la ln lc,.int .u64 aF,.int .i64 0],.int .i64 1,.agg #[.int .i64 op,.int .i64 mode,.string aI,.string value,.int .u32 flags,.int .i64 exp,.bool false,.int .u64 tok,.bool ah,.int .u64 delta,.int .u64 0,.bool false,.bool false,.int .i64 0,.int .i64 aj,.bool false],.int .i64 472] W' λe w''=> ∃g cap,e=.returned (.tuple #[.agg #[.slice (some ⟨g,0,none⟩) 1 cap,.int .u64 dG,.int .i64 0],.agg #[.int .i64 st,.string ak,.int .u32 aZ,.string av,.int .i64 0,.int .u64 aU,.int .i64 aV,.bool false,.bool false,.int .u64 num,.bool false,.bool false,.bool false]])/\Made (dw g cap ky lM v2 AY oV) W' w''):=hid (λW' hb=>HAP.out W' ((eF.out.below hb).get 1 rfl));obtain⟨Q,hQ⟩:∃Q,W3.heap.size=Q:=⟨_,rfl⟩;clear k0 HAP;have F1:=hid (Go.Proofs.YtboehbfagnocpaaGreatDoor.Yh hQ);have F2:=hid (Go.Proofs.YtboehbfagnocpaaGreatDoor.lM hQ);have F3:=hid (Go.Proofs.YtboehbfagnocpaaGreatDoor.Yi hQ);have F4:=hid (Go.Proofs.YtboehbfagnocpaaGreatDoor.Yj hQ);have HS:Hid (∀w',Below W3.heap.size W3 w'->w'.cell? ⟨S5,0,none⟩=some (.slice la ln lc)/\w'.cell? ⟨S5,1,none⟩=some (.int .u64 aF)/\w'.cell? ⟨S5,2,none⟩=some (.int .i64 0)/\w'.cell? ⟨E,1,none⟩=some (.int .i64 1)/\w'.cell? ⟨E,5,none⟩=some (.int .i64 op)/\w'.cell? ⟨E,6,none⟩=some (.int .i64 mode)/\w'.cell? ⟨E,7,none⟩=some (.string aI)/\w'.cell? ⟨E,8,none⟩=some (.string value)/\w'.cell? ⟨E,9,none⟩=some (.int .u32 flags)/\w'.cell? ⟨E,10,none⟩=some (.int .i64 exp)/\w'.cell? ⟨E,11,none⟩=some (.bool false)/\w'.cell? ⟨E,12,none⟩=some (.int .u64 tok)/\w'.cell? ⟨E,13,none⟩=some (.bool ah)/\w'.cell? ⟨E,14,none⟩=some (.int .u64 delta)/\w'.cell? ⟨E,15,none⟩=some (.int .u64 0)/\w'.cell? ⟨E,16,none⟩=some (.bool false)/\w'.cell? ⟨E,17,none⟩=some (.bool false)/\w'.cell? ⟨E,18,none⟩=some (.int .i64 0)/\w'.cell? ⟨E,19,none⟩=some (.int .i64 aj)/\w'.cell? ⟨E,20,none⟩=some (.bool false)/\w'.cell? ⟨wb,5,none⟩=some (.int .i64 472)):=hid (λw' hb=>by
   have h0:=(eF.out.below hb).get 0 rfl;have h1:=(eF.out.below hb).get 2 rfl;have h2:(aG wb (wA (.slice ia im ic) aF mb) 246).R w':=(eF.out.below hb).get 3 rfl;exact⟨cA h0 0,cA h0 1,cA h0 2,cA h1 1,cA h1 5,cA h1 6,cA h1 7,cA h1 8,cA h1 9,cA h1 10,cA h1 11,cA h1 12,cA h1 13,cA h1 14,cA h1 15,cA h1 16,cA h1 17,cA h1 18,cA h1 19,cA h1 20,cA h2 5⟩)
  go_cut [9,10] from 54 to 65 (λs9 s10 wx=> ∃g cap A B,s9=.pointer (some ⟨A,0,none⟩)/\s10=.pointer (some ⟨B,0,none⟩)/\Hid (aJ (many [pG wb (.slice ia im ic) aF mb,fM mb n o,r0]).B w ([aG B #[.int .i64 st,.string ak,.int .u32 aZ,.string av,.int .i64 0,.int .u64 aU,.int .i64 aV,.bool false,.bool false,.int .u64 num,.bool false,.bool false,.bool false] 52,aG A #[.slice (some ⟨g,0,none⟩) 1 cap,.int .u64 dG,.int .i64 0] 121,dw g cap ky lM v2 AY oV] ++ [aG S5 #[.slice la ln lc,.int .u64 aF,.int .i64 0] 121,r1,aG E #[.int .i64 1,.int .i64 1,.int .i64 0,.int .i64 sq,.int .i64 0,.int .i64 op,.int .i64 mode,.string aI,.string value,.int .u32 flags,.int .i64 exp,.bool false,.int .u64 tok,.bool ah,.int .u64 delta,.int .u64 0,.bool false,.bool false,.int .i64 0,.int .i64 aj,.bool false,.int .i64 st,.string ak,.int .u32 aZ,.string av,.int .i64 0,.int .u64 aU,.int .i64 aV,.bool false,.bool false,.int .u64 num,.bool false,.bool false,.bool false,.slice none 0 0] 136,pG wb (.slice ia im ic) aF mb,fM mb n o,r0]) wx))
  case first=>
   go_region_held3 (λw'=>w'.cell? ⟨S5,0,none⟩=some (.slice la ln lc)/\w'.cell? ⟨S5,1,none⟩=some (.int .u64 aF)/\w'.cell? ⟨S5,2,none⟩=some (.int .i64 0)/\w'.cell? ⟨E,1,none⟩=some (.int .i64 1)/\w'.cell? ⟨E,5,none⟩=some (.int .i64 op)/\w'.cell? ⟨E,6,none⟩=some (.int .i64 mode)/\w'.cell? ⟨E,7,none⟩=some (.string aI)/\w'.cell? ⟨E,8,none⟩=some (.string value)/\w'.cell? ⟨E,9,none⟩=some (.int .u32 flags)/\w'.cell? ⟨E,10,none⟩=some (.int .i64 exp)/\w'.cell? ⟨E,11,none⟩=some (.bool false)/\w'.cell? ⟨E,12,none⟩=some (.int .u64 tok)/\w'.cell? ⟨E,13,none⟩=some (.bool ah)/\w'.cell? ⟨E,14,none⟩=some (.int .u64 delta)/\w'.cell? ⟨E,15,none⟩=some (.int .u64 0)/\w'.cell? ⟨E,16,none⟩=some (.bool false)/\w'.cell? ⟨E,17,none⟩=some (.bool false)/\w'.cell? ⟨E,18,none⟩=some (.int .i64 0)/\w'.cell? ⟨E,19,none⟩=some (.int .i64 aj)/\w'.cell? ⟨E,20,none⟩=some (.bool false)/\w'.cell? ⟨wb,5,none⟩=some (.int .i64 472)) (first|exact HS.out _ (by first|(go_grown;done)|(go_grown<;>first|omega|(simp;omega)))|fail) (first
    |(go_at_call 51;refine(K3.out _ (by go_grown)).mono ?_;rintro e w4 ⟨g,cap,rfl,cK⟩;have HM4:=hid cK;(first
     |((with_reducible (have kk:=F1.out w4 cK.bel));obtain⟨_,_,_,_,_,_⟩:=F1.out (w4.alloc (.cells az 52)) (cK.bel.alloc cK.bel.size _);obtain⟨_,_,_,_,_,_⟩:=kk;have r0:=(((eF.out).cells sz 121).drew).made cK;(try simp only[World.size_alloc] at r0);rw[hQ] at r0;have r1:=qa r0 1 rfl (.slice (some ⟨g,0,none⟩) 1 cap) (.int .u64 dG) (.int .i64 0);have dC:=yO ((r1).cells #[.int .i64 st,.string ak,.int .u32 aZ,.string av,.int .i64 0,.int .u64 aU,.int .i64 aV,.bool false,.bool false,.int .u64 num,.bool false,.bool false,.bool false] 52);(try simp only[World.size_alloc,World.size_setCell] at dC);have HR:=hid dC;clear dC;clear r0 r1;have q4:Q<w4.heap.size:=(by have h:=cK.bel.size;simp only[World.size_drew,World.size_alloc] at h;omega);have q5:=Nat.ne_of_lt q4;have q6:=Nat.ne_of_gt q4)
     |((with_reducible (have kk:=F2.out w4 cK.bel));obtain⟨_,_,_,_,_,_,_,_,_,_,_,_,_,_,_,_,_,_,_,_,_,_,_,_,_,_⟩:=F2.out (w4.alloc (.cells sz 121)) (cK.bel.alloc cK.bel.size _);obtain⟨_,_,_,_,_,_,_,_,_,_,_,_,_,_,_,_,_,_,_,_,_,_,_,_,_,_⟩:=kk;have r0:=(((eF.out).cells az 52).drew).made cK;(try simp only[World.size_alloc] at r0);rw[hQ] at r0;have r2:=qd r0 1 rfl (.int .i64 st) (.string ak) (.int .u32 aZ) (.string av) (.int .i64 0) (.int .u64 aU) (.int .i64 aV) (.bool false) (.bool false) (.int .u64 num) (.bool false) (.bool false) (.bool false);have dC:=yP ((r2).cells #[.slice (some ⟨g,0,none⟩) 1 cap,.int .u64 dG,.int .i64 0] 121);(try simp only[World.size_alloc,World.size_setCell] at dC);have HR:=hid dC;clear dC;clear r0 r2;have q4:Q<w4.heap.size:=(by have h:=cK.bel.size;simp only[World.size_drew,World.size_alloc] at h;omega);have q5:=Nat.ne_of_lt q4;have q6:=Nat.ne_of_gt q4)
     |((with_reducible (have kk:=F3.out w4 cK.bel));obtain⟨_,_,_,_,_,_,_,_,_,_,_,_,_,_,_,_,_,_,_,_,_,_,_,_,_,_,_,_,_,_,_,_⟩:=kk;have r0:=((((eF.out).cells sz 121).cells az 52).drew).made cK;(try simp only[World.size_alloc] at r0);rw[hQ] at r0;have r1:=qa r0 2 rfl (.slice (some ⟨g,0,none⟩) 1 cap) (.int .u64 dG) (.int .i64 0);have r2:=qd r1 1 rfl (.int .i64 st) (.string ak) (.int .u32 aZ) (.string av) (.int .i64 0) (.int .u64 aU) (.int .i64 aV) (.bool false) (.bool false) (.int .u64 num) (.bool false) (.bool false) (.bool false);have dC:=yQ r2;(try simp only[World.size_alloc,World.size_setCell] at dC);have HR:=hid dC;clear dC;clear r0 r1 r2;have q4:Q<w4.heap.size:=(by have h:=cK.bel.size;simp only[World.size_drew,World.size_alloc] at h;omega);have q5:=Nat.ne_of_lt q4;have q6:=Nat.ne_of_gt q4)
     |((with_reducible (have kk:=F4.out w4 cK.bel));obtain⟨_,_,_,_,_,_,_,_,_,_,_,_,_,_,_,_,_,_,_,_,_,_,_,_,_,_,_,_,_,_,_,_⟩:=kk;have r0:=((((eF.out).cells az 52).cells sz 121).drew).made cK;(try simp only[World.size_alloc] at r0);rw[hQ] at r0;have r1:=qa r0 1 rfl (.slice (some ⟨g,0,none⟩) 1 cap) (.int .u64 dG) (.int .i64 0);have r2:=qd r1 2 rfl (.int .i64 st) (.string ak) (.int .u32 aZ) (.string av) (.int .i64 0) (.int .u64 aU) (.int .i64 aV) (.bool false) (.bool false) (.int .u64 num) (.bool false) (.bool false) (.bool false);have dC:=CS r2;(try simp only[World.size_alloc,World.size_setCell] at dC);have HR:=hid dC;clear dC;clear r0 r1 r2;have q4:Q<w4.heap.size:=(by have h:=cK.bel.size;simp only[World.size_drew,World.size_alloc] at h;omega);have q5:=Nat.ne_of_lt q4;have q6:=Nat.ne_of_gt q4)
     |(have r0:=((eF.out).drew).made cK;have dC:=CR ((((r0).cells #[.slice (some ⟨g,0,none⟩) 1 cap,.int .u64 dG,.int .i64 0] 121)).cells #[.int .i64 st,.string ak,.int .u32 aZ,.string av,.int .i64 0,.int .u64 aU,.int .i64 aV,.bool false,.bool false,.int .u64 num,.bool false,.bool false,.bool false] 52);(try simp only[World.size_alloc,World.size_setCell] at dC);have HR:=hid dC;clear dC;have lS:=uB ((((r0).cells #[.int .i64 st,.string ak,.int .u32 aZ,.string av,.int .i64 0,.int .u64 aU,.int .i64 aV,.bool false,.bool false,.int .u64 num,.bool false,.bool false,.bool false] 52)).cells #[.slice (some ⟨g,0,none⟩) 1 cap,.int .u64 dG,.int .i64 0] 121);(try simp only[World.size_alloc,World.size_setCell] at lS);have HR2:=hid lS;clear lS;clear r0;skip));have hb4:Below W3.heap.size W3 w4:=Below.trans (by go_grown) (cK.bel.mono (by first|(simp;done)|(simp;omega)));have Tn:=hb4.size;have hne1:¬w4.heap.size=w4.heap.size+1:=(by omega);have hne2:¬w4.heap.size+1=w4.heap.size:=(by omega);have G1:=((Made.cells w4 sz 121).below (bA _ (.cells az 52))).here;have G2:=((Made.cells w4 az 52).below (bA _ (.cells sz 121))).here;obtain⟨_,_,_,_,_,_⟩:=jD G1;obtain⟨_,_,_,_,_,_,_,_,_,_,_,_,_,_,_,_,_,_,_,_,_,_,_,_,_,_⟩:=dM G2;clear G1 G2;clear cK))
   all_goals (go_wp2_with fail)
   all_goals go_meet
   all_goals first
    |((with_reducible refine⟨g,cap,w4.heap.size,w4.heap.size+1,rfl,rfl,?_⟩);exact HR)
    |((with_reducible refine⟨g,cap,w4.heap.size+1,w4.heap.size,rfl,rfl,?_⟩);exact HR2)
    |((with_reducible refine⟨g,cap,_,_,rfl,rfl,?_⟩);exact HR)
    |fail
  case rest=>
   obtain⟨g,cap,A,B,rfl,rfl,hJ⟩:=hcut;clear K3 HS F1 F2 F3 F4;have HlE:=hid (kr 0 (hJ.out.get 5 rfl) [.int .i64 1,.int .i64 1,.int .i64 0,.int .i64 sq,.int .i64 0,.int .i64 op,.int .i64 mode,.string aI,.string value,.int .u32 flags,.int .i64 exp,.bool false,.int .u64 tok,.bool ah,.int .u64 delta,.int .u64 0,.bool false,.bool false,.int .i64 0,.int .i64 aj,.bool false,.int .i64 st,.string ak,.int .u32 aZ,.string av,.int .i64 0,.int .u64 aU,.int .i64 aV,.bool false,.bool false,.int .u64 num,.bool false,.bool false,.bool false,.slice none 0 0] rfl);have OW:=hid (Pv (op:=op) (mode:=mode) (aI:=aI) (value:=value) (flags:=flags) (exp:=exp) (tok:=tok) (ah:=ah) (delta:=delta) (aj:=aj) (st:=st) (ak:=ak) (aZ:=aZ) (av:=av) (aU:=aU) (aV:=aV) (num:=num) HHO.out.1 (hJ.out.get 6 rfl) (hJ.out.get 7 rfl))
   go_wp2_with (first
    |(go_at_call 214;refine OW.out.mono ?_;rintro e w5 ⟨rfl,hb5⟩
      have J5:=hJ.out.below hb5;have L8:=hid J5;have e21:w5.cell? ⟨E,21,none⟩=some (.int .i64 st):=cA (J5.get 5 rfl) 21;have HlA:=hid (kr 21 (J5.get 5 rfl) [.int .i64 st,.string ak,.int .u32 aZ,.string av,.int .i64 0,.int .u64 aU,.int .i64 aV,.bool false,.bool false,.int .u64 num,.bool false,.bool false,.bool false] rfl);have HlB:=hid (kr 0 (J5.get 0 rfl) [.int .i64 st,.string ak,.int .u32 aZ,.string av,.int .i64 0,.int .u64 aU,.int .i64 aV,.bool false,.bool false,.int .u64 num,.bool false,.bool false,.bool false] rfl);have qe:=qE.out w5;have qn:=qN.out w5;have Pw:(st == 0)=false:=by have:=Qj.out;simpa using this
      have Lm:¬st=12:=aaV.out;have TJ:(st == 12)=false:=by simpa using Lm
      obtain⟨a0,a1,a2⟩:LP w5 A (.slice (some ⟨g,0,none⟩) 1 cap) (.int .u64 dG) (.int .i64 0):=vw (J5.get 1 rfl);obtain⟨s0,z0,s1,z1,s2,z2⟩:vC w5 S5 (.slice la ln lc) (.int .u64 aF) (.int .i64 0):=jD (J5.get 3 rfl);clear J5 hb5 HlE)
    |(refine wpList_load_mid rfl 136 _ rfl E 0 (by rfl) [.int .i64 1,.int .i64 1,.int .i64 0,.int .i64 sq,.int .i64 0,.int .i64 op,.int .i64 mode,.string aI,.string value,.int .u32 flags,.int .i64 exp,.bool false,.int .u64 tok,.bool ah,.int .u64 delta,.int .u64 0,.bool false,.bool false,.int .i64 0,.int .i64 aj,.bool false,.int .i64 st,.string ak,.int .u32 aZ,.string av,.int .i64 0,.int .u64 aU,.int .i64 aV,.bool false,.bool false,.int .u64 num,.bool false,.bool false,.bool false,.slice none 0 0] _ HlE.out underlying136 rfl szE ?_)
    |(refine wpList_load_mid rfl 52 _ rfl E 21 (by rfl) [.int .i64 st,.string ak,.int .u32 aZ,.string av,.int .i64 0,.int .u64 aU,.int .i64 aV,.bool false,.bool false,.int .u64 num,.bool false,.bool false,.bool false] _ HlA.out underlying52 rfl szA ?_)
    |(refine wpList_load_mid rfl 52 _ rfl B 0 (by rfl) [.int .i64 st,.string ak,.int .u32 aZ,.string av,.int .i64 0,.int .u64 aU,.int .i64 aV,.bool false,.bool false,.int .u64 num,.bool false,.bool false,.bool false] _ HlB.out underlying52 rfl szA ?_))
   go_upto_region 28 with fail
   have hs:=aK S5 121 [.slice (some ⟨g,0,none⟩) 1 cap,.int .u64 dG,.int .i64 0] 0 _ _ (L8.out.get 3 rfl);rw[show aR 0 [.slice (some ⟨g,0,none⟩) 1 cap,.int .u64 dG,.int .i64 0] #[.slice la ln lc,.int .u64 aF,.int .i64 0]= #[.slice (some ⟨g,0,none⟩) 1 cap,.int .u64 dG,.int .i64 0] by simp[aR]] at hs;have J6:=L8.out.turn 3 rfl hs;simp only[aS,List.set] at J6;obtain⟨W6,hW6⟩:∃W6,((w5.setCell ⟨S5,0,none⟩ (.slice (some ⟨g,0,none⟩) 1 cap)).setCell ⟨S5,1,none⟩ (.int .u64 dG)).setCell ⟨S5,2,none⟩ (.int .i64 0)=W6:=⟨_,rfl⟩;rw[hW6] at J6;rw[hW6];clear hW6 hs L8 e21 qe qn Pw Lm TJ a0 a1 a2 s0 s1 s2 z0 z1 z2 HlA HlB;have OG:=hid J6;obtain⟨w7,hmu,t7⟩:=Lh (w:=W6.drew) (J6.drew.get 7 rfl) sq (by have:=HHO.out.2;unfold maxLen;omega);have zu:=hid (J6.drew.turn 7 rfl t7);have S0:W6.drew.cell? ⟨wb,4,none⟩=some (.map (some mb))/\W6.drew.cell? ⟨E,2,none⟩=some (.int .i64 0)/\W6.drew.cell? ⟨E,3,none⟩=some (.int .i64 sq)/\W6.drew.cell? ⟨E,4,none⟩=some (.int .i64 0):=⟨cA (show (aG wb (wA (.slice ia im ic) aF mb) 246).R W6.drew from J6.drew.get 6 rfl) 4,cA (J6.drew.get 5 rfl) 2,cA (J6.drew.get 5 rfl) 3,cA (J6.drew.get 5 rfl) 4⟩;have S7:w7.cell? ⟨wb,4,none⟩=some (.map (some mb))/\w7.cell? ⟨E,2,none⟩=some (.int .i64 0)/\w7.cell? ⟨E,3,none⟩=some (.int .i64 sq)/\w7.cell? ⟨E,4,none⟩=some (.int .i64 0):=⟨cA (show (aG wb (wA (.slice ia im ic) aF mb) 246).R w7 from zu.out.get 6 rfl) 4,cA (zu.out.get 5 rfl) 2,cA (zu.out.get 5 rfl) 3,cA (zu.out.get 5 rfl) 4⟩;clear J6 t7;go_region_held3 (λw'=>w'.cell? ⟨wb,4,none⟩=some (.map (some mb))/\w'.cell? ⟨E,2,none⟩=some (.int .i64 0)/\w'.cell? ⟨E,3,none⟩=some (.int .i64 sq)/\w'.cell? ⟨E,4,none⟩=some (.int .i64 0)) (first|exact S0|exact S7) (fail)
   clear S0 S7 hmu;go_upto_region 29 with fail
   have J7:=zu.out;have h6:(aG wb (wA (.slice ia im ic) aF mb) 246).R w7:=J7.get 6 rfl;have ta:=aK wb 246 [.slice (some ⟨g,0,none⟩) 1 cap,.int .u64 dG,.int .i64 0] 0 _ _ h6;rw[show aR 0 [.slice (some ⟨g,0,none⟩) 1 cap,.int .u64 dG,.int .i64 0] (wA (.slice ia im ic) aF mb)=wA (.slice (some ⟨g,0,none⟩) 1 cap) dG mb by simp[aR,wA]] at ta;simp only[aS] at ta;have Ja:=J7.turn 6 rfl ta;have tb:=ai ta.here 3 (.int .i64 1);rw[show (wA (.slice (some ⟨g,0,none⟩) 1 cap) dG mb).setIfInBounds 3 (.int .i64 1)=wA (.slice (some ⟨g,0,none⟩) 1 cap) dG mb by simp[wA]] at tb;have Jb:=Ja.turn 6 rfl tb;have K0:w7.drew.cell? ⟨S5,0,none⟩=some (.slice (some ⟨g,0,none⟩) 1 cap)/\w7.drew.cell? ⟨S5,1,none⟩=some (.int .u64 dG)/\w7.drew.cell? ⟨S5,2,none⟩=some (.int .i64 0)/\w7.drew.cell? ⟨E,1,none⟩=some (.int .i64 1):=⟨cA (J7.drew.get 3 rfl) 0,cA (J7.drew.get 3 rfl) 1,cA (J7.drew.get 3 rfl) 2,cA (J7.drew.get 5 rfl) 1⟩;have HKa:=hid (And.intro (show _=some (Value.slice (some ⟨g,0,none⟩) 1 cap) from cA (Ja.drew.get 3 rfl) 0) (And.intro (show _=some (Value.int .u64 dG) from cA (Ja.drew.get 3 rfl) 1) (And.intro (show _=some (Value.int .i64 0) from cA (Ja.drew.get 3 rfl) 2) (show _=some (Value.int .i64 1) from cA (Ja.drew.get 5 rfl) 1))));have HE1:=hid (Jb.drew.yT (L2:=[pG wb (.slice (some ⟨g,0,none⟩) 1 cap) dG mb,fM mb (n+1) (some sq),dw g cap ky lM v2 AY oV]) [6,7,2] (by decide) rfl).shut;have b0:w7.cell? ⟨wb,0,none⟩=some (.slice ia im ic):=cA h6 0;have y0:=cZ h6 0;have b1:w7.cell? ⟨wb,1,none⟩=some (.int .u64 aF):=cA h6 1;have y1:=cZ h6 1;have b2:w7.cell? ⟨wb,2,none⟩=some (.int .i64 0):=cA h6 2;have y2:=cZ h6 2;have b3:w7.cell? ⟨wb,3,none⟩=some (.int .i64 1):=cA h6 3;have y3:=cZ h6 3;have b0':w7.drew.cell? ⟨wb,0,none⟩=some (.slice ia im ic):=b0;have y0':w7.drew.frozen? ⟨wb,0,none⟩=false:=y0;clear Ja Jb ta tb J7 h6;refine aQ (λw'=>w'.cell? ⟨S5,0,none⟩=some (.slice (some ⟨g,0,none⟩) 1 cap)/\w'.cell? ⟨S5,1,none⟩=some (.int .u64 dG)/\w'.cell? ⟨S5,2,none⟩=some (.int .i64 0)/\w'.cell? ⟨E,1,none⟩=some (.int .i64 1)) 10 (by kernel_rfl) K0 (λhHeld=>?_);refine bY 0 rfl ?_;refine bY 1 rfl ?_;refine bM 2 rfl ?_;refine bY 3 rfl ?_;refine bM 4 rfl ?_;refine bY 5 rfl ?_;refine bY 6 rfl ?_;(try simp only[lz])
   refine aC (rs:=[7]) (by as_aux_lemma=>kernel_rfl) (by simp) ?_;refine ax.cons (o:=_) rfl (λK hK=>?_) ax.nil;rw[if_pos (by as_aux_lemma=>rfl)];(try simp only[gI])
   go_simp;refine hK.out _ _ HKa.out (λUF=>?_);clear hK K;(try simp only[lz])
   refine bY 8 rfl ?_;refine bY 9 rfl ?_;(try simp only[lz])
   refine aC (rs:=[10]) (by as_aux_lemma=>kernel_rfl) (by simp) ?_;refine ax.last (o:=_) rfl (λK hK=>?_);rw[if_pos (by as_aux_lemma=>rfl)];(try simp only[gI])
   go_simp;refine hK.out _ _ trivial (λ_=>?_);clear hK K;(try simp only[lz])
   refine aN (by as_aux_lemma=>kernel_rfl) ?_ _;all_goals (go_wp2_with fail)
   all_goals go_ret
   all_goals exact⟨rfl,g,cap,HE1.out⟩
theorem zB{D:Nat->Prop}{w0 w:World}{L:List aT}(h:aJ D w0 L w):(many L).R w:=⟨h.all,h.ap⟩
theorem ng{D:Nat->Prop}{w0 w w':World}{L L2:List aT}(h:aJ D w0 L w)(t:ag (many L) (many L2) w w'):aJ D w0 L2 w':=
 ⟨t.here.1,t.here.2,λr hr b hb=>by
  rcases t.nu b ⟨r,hr,hb⟩ with ⟨s,hs,hx⟩|hx
  ·exact h.lo s hs b hx
  ·exact .inr (Nat.le_trans h.bL.size hx),h.bL.trans t.bL (λb hb=>by obtain⟨s,hs,hx⟩:=hb;exact h.lo s hs b hx)⟩
theorem FJ:(prog.info? 136).map (·.size)=some 35:=by kernel_rfl
abbrev k7:ByteArray:=⟨#[107]⟩
abbrev v8:ByteArray:=⟨#[118]⟩
def zM:List Value:=[.int .i64 1,.int .i64 1,.int .i64 0,.int .i64 1,.int .i64 0,.int .i64 2,.int .i64 0,.string k7,.string v8,.int .u32 3,.int .i64 0,.bool false,.int .u64 0,.bool false,.int .u64 0,.int .u64 0,.bool false,.bool false,.int .i64 0,.int .i64 (-1),.bool false,.int .i64 2,.string k7,.int .u32 3,.string v8,.int .i64 0,.int .u64 1,.int .i64 0,.bool false,.bool false,.int .u64 0,.bool false,.bool false,.bool false,.slice none 0 0]
def BH:List Value:=[.int .i64 1,.int .i64 1,.int .i64 0,.int .i64 2,.int .i64 0,.int .i64 1,.int .i64 0,.string k7,.string ⟨#[]⟩,.int .u32 0,.int .i64 0,.bool false,.int .u64 0,.bool false,.int .u64 0,.int .u64 0,.bool false,.bool false,.int .i64 0,.int .i64 (-1),.bool false,.int .i64 1,.string k7,.int .u32 3,.string v8,.int .i64 0,.int .u64 1,.int .i64 1,.bool false,.bool false,.int .u64 0,.bool false,.bool false,.bool false,.slice none 0 0]
def EZ:Array Value:=#[.int .i64 0,.int .i64 0,.int .i64 0,.int .i64 0,.int .i64 0,.int .i64 0,.int .i64 0,.string ⟨#[]⟩,.string ⟨#[]⟩,.int .u32 0,.int .i64 0,.bool false,.int .u64 0,.bool false,.int .u64 0,.int .u64 0,.bool false,.bool false,.int .i64 0,.int .i64 0,.bool false,.int .i64 0,.string ⟨#[]⟩,.int .u32 0,.string ⟨#[]⟩,.int .i64 0,.int .u64 0,.int .i64 0,.bool false,.bool false,.int .u64 0,.bool false,.bool false,.bool false,.slice none 0 0]
theorem aaX(w:World):(storeCells ⟨w.heap.size,0,none⟩ zM).run prog (w.alloc (.cells EZ 136))=.ok () (w.alloc (.cells zM.toArray 136)):=run_storeCells_new w _ EZ zM.toArray FJ (by rfl) (by simp[zM,BH,Value.oneCell'])
theorem aaY(w:World):(storeCells ⟨w.heap.size,0,none⟩ BH).run prog (w.alloc (.cells EZ 136))=.ok () (w.alloc (.cells BH.toArray 136)):=run_storeCells_new w _ EZ BH.toArray FJ (by rfl) (by simp[zM,BH,Value.oneCell'])
theorem Xa:f_ k7 Qt=zM:=rfl
theorem Xb:f_ k7 Qu=BH:=rfl
theorem TK{wb mb:Nat}{w:World}(hR:(many [pG wb (.slice none 0 0) 0 mb,fM mb 0 none,emp]).R w):
 Calls prog 149 #[.pointer (some ⟨wb,0,none⟩),.agg zM.toArray] w λe w'=>e=.returned (.bool true)/\∃g cap,ag (many [pG wb (.slice none 0 0) 0 mb,fM mb 0 none,emp]) (many [pG wb (.slice (some ⟨g,0,none⟩) 1 cap) 1 mb,fM mb 1 (some 1),dw g cap k7 3 v8 1 0]) w w':=
 zA (aF:=0) (dG:=1) (sq:=1) (by decide) (by decide) (.inl ⟨rfl,rfl⟩) (by decide) hR (λW h1 h2=>(FI h1).mono (λe w' hh=>⟨none,0,0,emp,hh.1,⟨trivial,hh.2,λb hb=>hb.elim⟩,λW2 _=>
  jr (aF:=0) (key:=k7) (value:=v8) (flags:=3) (tok:=0) (delta:=0) (Ld Cn (.set 3 PM.vV) ⟨by decide,Da⟩) (by decide) (by decide) (by decide)⟩))
theorem TL{wb mb g cap:Nat}{w:World}(hR:(many [pG wb (.slice (some ⟨g,0,none⟩) 1 cap) 1 mb,fM mb 1 (some 1),dw g cap k7 3 v8 1 0]).R w):
 Calls prog 149 #[.pointer (some ⟨wb,0,none⟩),.agg BH.toArray] w λe w'=>e=.returned (.bool true)/\∃g' cap',ag (many [pG wb (.slice (some ⟨g,0,none⟩) 1 cap) 1 mb,fM mb 1 (some 1),dw g cap k7 3 v8 1 0]) (many [pG wb (.slice (some ⟨g',0,none⟩) 1 cap') 1 mb,fM mb 2 (some 2),dw g' cap' k7 3 v8 1 1]) w w':=
 zA (aF:=1) (dG:=1) (sq:=2) (by decide) (by decide) (.inr ⟨rfl,rfl⟩) (by decide) hR (λW h1 h2=>(Ll h1 h2).mono (λe w' hh=>by
  obtain⟨g',cap',e1,hm⟩:=hh;refine⟨some ⟨g',0,none⟩,1,cap',dw g' cap' k7 3 v8 1 0,e1,hm,λW2 hr=>?_⟩;exact m_ (aF:=1) (key:=k7) (value:=⟨#[]⟩) (flags:=0) (tok:=0) (ah:=false) (delta:=0) (Ld Cn .get trivial) (by decide) (by decide) (by decide) (λj u hj=>by rw[aB hr j (List.getElem?_eq_some_iff.1 hj).1];exact hj)))
theorem TM{g cap:Nat}{w:World}(hR:(rowAt (.slice (some ⟨g,0,none⟩) 2 cap) 136 35 2 (f_ k7 Qt ++ f_ k7 Qu)).R w):
 Calls prog 83 #[.slice (some ⟨g,0,none⟩) 2 cap,.int .i64 472] w λe w'=> ∃wb,e=.returned (.tuple #[.pointer (some ⟨wb,0,none⟩),.int .i64 (-1)])/\Below w.heap.size w w':=by
 have hmm:∀w:World,(Instr.makeMap 244 none).run prog w=.ok (.map (some w.heap.size)) (w.alloc (.map #[] 0)):=λw=>by rfl
 have hlt:g<w.heap.size:=(rowAt (.slice (some ⟨g,0,none⟩) 2 cap) 136 35 2 (f_ k7 Qt ++ f_ k7 Qu)).lt hR rfl;have HRG:Hid (∀w',Below w.heap.size w w'->w'.rangeAt g 0 zM/\w'.rangeAt g 35 BH):=hid (λw' hb=>by
  have h1:=(rowAt (.slice (some ⟨g,0,none⟩) 2 cap) 136 35 2 (f_ k7 Qt ++ f_ k7 Qu)).keep hR (aP.of_below (λ_=>False) hb) (λ_ _ x=>x);rw[Xa,Xb] at h1;have hl:(zM ++ BH).length=70:=rfl;refine⟨λj v hv=>?_,λj v hv=>?_⟩
  ·have hj:j<35:=(List.getElem?_eq_some_iff.1 hv).1;rw[aB h1 (0+j) (by rw[hl];omega),Nat.zero_add,List.getElem?_append_left hj];exact hv
  ·have hj:j<35:=(List.getElem?_eq_some_iff.1 hv).1;rw[aB h1 (35+j) (by rw[hl];omega),List.getElem?_append_right (show 35<=35+j by omega)];rw[show 35+j-zM.length=j from by show 35+j-35=j;omega];exact hv)
 have M0:Made (fM w.heap.size 0 none) w (w.alloc (.map #[] 0)):=⟨Li w,bA w _,λb hb=>by have e:b=w.heap.size:=hb;omega⟩;have J:=((aJ.none w).made M0).cells (wA (.slice none 0 0) 0 w.heap.size) 246;have J2:=vM (r:=emp) J trivial (λb hb=>hb);simp only[World.size_alloc] at J2;have HJ:Hid (aJ (λ_=>False) w [pG (w.heap.size+1) (.slice none 0 0) 0 w.heap.size,fM w.heap.size 0 none,emp] ((w.alloc (.map #[] 0)).alloc (.cells (wA (.slice none 0 0) 0 w.heap.size) 246))):=hid (J2.yT [1,2,0] (by decide) rfl);unfold wA at HJ;clear M0 J J2 hR;go_enter func83,ntmps83;go_wp2_with (fail)
 obtain⟨mb,hmb⟩:∃mb,w.heap.size=mb:=⟨_,rfl⟩;obtain⟨W,hW⟩:∃W,(w.alloc (.map #[] 0)).alloc (.cells #[.slice none 0 0,.int .u64 0,.int .i64 0,.int .i64 1,.map (some w.heap.size),.int .i64 472] 246)=W:=⟨_,rfl⟩;have wJ:=HJ.out;rw[hW,hmb] at wJ;rw[hW];rw[hmb];have kM:Hid (aJ (λ_=>False) w [pG (mb+1) (.slice none 0 0) 0 mb,fM mb 0 none,emp] W):=hid wJ;clear wJ hW hmb HJ;go_loopw [15] (λi wr=>(i=.int .i64 0/\Hid (aJ (λ_=>False) w [pG (mb+1) (.slice none 0 0) 0 mb,fM mb 0 none,emp] wr))\/(∃g1 c1,i=.int .i64 1/\Hid (aJ (λ_=>False) w [pG (mb+1) (.slice (some ⟨g1,0,none⟩) 1 c1) 1 mb,fM mb 1 (some 1),dw g1 c1 k7 3 v8 1 0] wr))\/(i=.int .i64 2/\Hid (Below w.heap.size w wr))) (λi _=>2-(intOf i).toNat)
 case atStart=>exact .inl ⟨rfl,kM⟩
 case round=>
  rcases hrel with ⟨rfl,hs⟩|⟨g1,c1,rfl,hs⟩|⟨rfl,hs⟩
  ·have hbw:=(hs.out.fE 0 rfl).bel;have HL:=hid (HRG.out wr hbw).1;have HST:=aaX wr;unfold EZ at HST;have HT2:=hid (kr 0 (Made.cells wr zM.toArray 136).here zM rfl);have Tm:=hid (TK (w:=wr.alloc (.cells zM.toArray 136)) (zB (hs.out.alloc (.cells zM.toArray 136))))
   go_wp2_with (first
    |(refine wpList_load_mid rfl 136 _ rfl g 0 (by rfl) zM _ HL.out underlying136 rfl FJ ?_)
    |(refine wpList_load_mid rfl 136 _ rfl wr.heap.size 0 (by rfl) zM _ HT2.out underlying136 rfl FJ ?_)
    |(go_at_call 149;refine Tm.out.mono ?_;rintro e w2 ⟨rfl,hh⟩;have HH:=hid hh;clear hh))
   go_roundw;case rel=>
    obtain⟨g1,c1,ht⟩:=HH.out;exact .inr (.inl ⟨g1,c1,rfl,hid (ng (hs.out.alloc _) ht)⟩)
   case measure=>simp[intOf]
  ·have hbw:=(hs.out.fE 0 rfl).bel;have HL:=hid (HRG.out wr hbw).2;have HST:=aaY wr;unfold EZ at HST;have HT2:=hid (kr 0 (Made.cells wr BH.toArray 136).here BH rfl);have Tm:=hid (TL (w:=wr.alloc (.cells BH.toArray 136)) (zB (hs.out.alloc (.cells BH.toArray 136))))
   go_wp2_with (first
    |(refine wpList_load_mid rfl 136 _ rfl g 35 (by rfl) BH _ HL.out underlying136 rfl FJ ?_)
    |(refine wpList_load_mid rfl 136 _ rfl wr.heap.size 0 (by rfl) BH _ HT2.out underlying136 rfl FJ ?_)
    |(go_at_call 149;refine Tm.out.mono ?_;rintro e w2 ⟨rfl,hh⟩;have HH:=hid hh;clear hh))
   go_roundw;case rel=>
    obtain⟨g2,c2,ht⟩:=HH.out;exact .inr (.inr ⟨rfl,hid ((ng (hs.out.alloc _) ht).fE 0 rfl).bel⟩)
   case measure=>simp[intOf]
  ·go_wp2_with (fail)
   go_ret2;exact⟨_,rfl,hs.out⟩
theorem Lp:Qv k7:=λg cap w hR=>by
 have HR:=hid (TM hR);clear hR;go_enter func31,ntmps31;go_wp2_with (go_at_call 83;refine HR.out.mono ?_;rintro e w1 ⟨wb,rfl,h1⟩)
 go_ret;exact⟨rfl,h1⟩
section
variable{ρ:Operand->Value}{x:Operand}{d:Option Tmp}{ty:TypeId}{ps:String}{af:Array Edge}{gd:Option (Nat×Bool)}{b:Nat}{w:World}
theorem oG{vs:Array Value}{T:TypeId}(h:(aG b vs T).R w)(j:Nat)(u:Value)(hj:vs.toList[j]?=some u):w.cell? ⟨b,j,none⟩=some u:=(cA h j).trans (by rw[<-Array.getElem?_toList];exact hj)
theorem wC{op mode flags exp tok delta aj:Int}{key value:ByteArray}{ah:Bool}(hx:ρ x=.pointer (some ⟨b,0,none⟩))(h:∀j u,(Cm.vs ⟨op,mode,key,value,flags,exp,tok,ah,delta,aj⟩).toList[j]?=some u->w.cell? ⟨b,j,none⟩=some u):
 Sem.run prog (execOp ρ {dst:=d,op:=.load 56 x,type:=ty,pos:=ps,after:=af,guard:=gd}) w=.ok (.value (.agg #[.int .i64 op,.int .i64 mode,.string key,.string value,.int .u32 flags,.int .i64 exp,.bool false,.int .u64 tok,.bool ah,.int .u64 delta,.int .u64 0,.bool false,.bool false,.int .i64 0,.int .i64 aj,.bool false])) w:=by
 have h0:=h 0 _ rfl;have h1:=h 1 _ rfl;have h2:=h 2 _ rfl;have h3:=h 3 _ rfl;have h4:=h 4 _ rfl;have h5:=h 5 _ rfl;have h6:=h 6 _ rfl;have h7:=h 7 _ rfl;have h8:=h 8 _ rfl;have h9:=h 9 _ rfl;have h10:=h 10 _ rfl;have h11:=h 11 _ rfl;have h12:=h 12 _ rfl;have N8:=h 13 _ rfl;have h14:=h 14 _ rfl;have h15:=h 15 _ rfl;go_simp
theorem BI{v0 v1 v2 v3 v4 v5 v6 v7 v8 v9 v10 v11 v12:Value}{T:TypeId}(hx:ρ x=.pointer (some ⟨b,0,none⟩))(h:(aG b #[v0,v1,v2,v3,v4,v5,v6,v7,v8,v9,v10,v11,v12] T).R w):
 Sem.run prog (execOp ρ {dst:=d,op:=.load 52 x,type:=ty,pos:=ps,after:=af,guard:=gd}) w=.ok (.value (.agg #[v0,v1,v2,v3,v4,v5,v6,v7,v8,v9,v10,v11,v12])) w:=by
 obtain⟨h0,h1,h2,h3,h4,h5,h6,h7,h8,h9,h10,h11,h12⟩:rP w b v0 v1 v2 v3 v4 v5 v6 v7 v8 v9 v10 v11 v12:=kW (h);go_simp
end
open PM (Cd An Sd Vl upd upd_same upd_ne)
theorem Px:Elem 141 52 13 96:=⟨underlying141,⟨.agg #[.int .i64 0,.string ⟨#[]⟩,.int .u32 0,.string ⟨#[]⟩,.int .i64 0,.int .u64 0,.int .i64 0,.bool false,.bool false,.int .u64 0,.bool false,.bool false,.bool false],by kernel_rfl,by kernel_rfl⟩,by decide⟩
theorem Lr{key:ByteArray}{sx:Nat}{f:Nat->Int}{sd:Sd}{x:Cd}(hd:sd.it=none↔∃fl v,x=.set fl v){st:Int}(hst:((PM.jA sd x).2.st:Int)=st)(ak:ByteArray)(aZ:Int)(av:ByteArray)(aU aV num:Int)(W:World)(h:(gH sx f).R W):
 Calls prog 146 #[.pointer (some ⟨sx,0,none⟩),.agg (lV key x).vs,.agg (iK st ak aZ av aU aV num),.int .i64 0] W λe w'=>e=.returned (.tuple #[])/\∃f',ag (gH sx f) (gH sx f') W w':=by
 obtain⟨it,tok⟩:=sd;cases x with
 |get=>
  cases it with
  |none=>obtain⟨fl,v,e⟩:=hd.1 rfl;cases e
  |some y=>
   have e:(1:Int)=st:=hst;subst e;exact ER h rfl ak aZ av aU aV num
 |set fl v=>
  have e:(2:Int)=st:=by rw[<-hst];cases it<;>rfl
  exact count_set h rfl (.inl e.symm) ak aZ av aU aV num
theorem Ls(sd:Sd)(x:Cd):((((PM.jA sd x).2.st:Nat):Int) == 12)=false:=by
 obtain⟨it,tok⟩:=sd;cases x<;>cases it<;>rfl
theorem TN(key:ByteArray)(a:An):∃ak aZ av aU aV,Ov key a=(iK a.st ak aZ av aU aV a.num).toList:=by
 obtain⟨st,it,num⟩:=a;cases it with
 |none=>exact⟨⟨#[]⟩,0,⟨#[]⟩,0,0,rfl⟩
 |some y=>exact⟨key,y.fl,eX y.v,y.aF,y.last,rfl⟩
section
variable{key:ByteArray}{h:Int}{bk nw ns nc:Nat}{p:Pl}{s s':uC}{w w':World}{c:Nat}
theorem Lt(hk:gu key h bk)(hR:(dZ key h bk nw ns nc p s).R w){wi:Nat}(hw:wi<nw){k:PM.Wk Cd An}(hkk:s.wk wi=some k)(hp:k.ph=1)
 (ho:dO key p.m s.data) (hnn:p.m.ps.num<=1000000) (FD:s.data.tok<1000000) (hi:∀y,s.data.it=some y->PM.UU s.data.tok y) (hx:PM.TZ k.cmd) (hd:s.data.it=none↔∃fl v,k.cmd=.set fl v) (hev:s.ev.length<=1000):
 Calls prog 81 #[.pointer (some ⟨p.b,0,none⟩),.pointer (some ⟨(p.wp wi).b,0,none⟩)] w λe w'=>
  e=.returned (.tuple #[])/\∃p':Pl,p'.b=p.b/\p'.m.ps.num<=p.m.ps.num+1/\dO key p'.m (PM.jA s.data k.cmd).1/\ag (dZ key h bk nw ns nc p s) (dZ key h bk nw ns nc p' (PM.qX PM.jA s wi k)) w w':=by
 obtain⟨l,hl⟩:∃l,p.wp wi=l:=⟨_,rfl⟩;have HF:Hid (∀w',Below w.heap.size w w'->aJ (many (vT key l k)).B w' (vT key l k) w'):=hid (λw' hb=>by rw[<-hl];exact C_ (vU hR hb) hw hkk);obtain⟨c,hc⟩:∃c,lV key k.cmd=c:=⟨_,rfl⟩;have HC:Hid (∀w',Below w.heap.size w w'->∀j u,c.vs.toList[j]?=some u->w'.cell? ⟨l.cb,j,none⟩=some u):=hid (λw' hb j u hj=>by
  have h1:=(HF.out w' hb).get 1 rfl;rw[hc] at h1;rw[aB h1 j (List.getElem?_eq_some_iff.1 hj).1];exact hj)
 have L6:=hid (λ(W:World) (hW:(gG key h bk p.m s.data).R W)=>TH hk hW ho hnn FD hi hx hd);rw[hc] at L6;have Xc:=hid (λ(st:Int) (hst:((PM.jA s.data k.cmd).2.st:Int)=st) (ak:ByteArray) (aZ:Int) (av:ByteArray) (aU aV num:Int) (W:World) (hW:(gH p.sx p.sn).R W)=>Lr (key:=key) hd hst ak aZ av aU aV num W hW);rw[hc] at Xc;obtain⟨op,mode,aI,value,flags,exp,tok,ah,delta,aj⟩:=c;have HS:Hid (∀w',Below w.heap.size w w'->w'.cell? ⟨l.b,1,none⟩=some (.slice (some ⟨l.cb,0,none⟩) 1 l.cc)/\w'.cell? ⟨l.b,13,none⟩=some (.int .i64 0)/\∀j u,(Cm.vs ⟨op,mode,aI,value,flags,exp,tok,ah,delta,aj⟩).toList[j]?=some u->w'.cell? ⟨l.cb,j,none⟩=some u):=hid (λw' hb=>by
  have h0:=(HF.out w' hb).get 0 rfl;have hC:=HC.out w' hb;exact⟨cA h0 1,cA h0 13,hC⟩)
 have H:=hid (aJ.open hR);have SX:=hid (And.intro hw (And.intro hkk (And.intro hp (And.intro hl hev))));have S0:=HS.out w (Below.refl _ _);have MC:=hid ((Made.cells w (Cm.vs ⟨op,mode,aI,value,flags,exp,tok,ah,delta,aj⟩) 56).drew);unfold Cm.vs at L6 MC Xc;dsimp only at L6 MC Xc;rw[hl];clear hR hw hkk hp hl hk HC ho hnn FD hi hx hd hev;go_enter func81,ntmps81;go_wp2_with (fail)
 go_cut [4] from 7 to 17 (λs4 wx=>s4=.pointer (some ⟨w.heap.size,0,none⟩)/\Hid (Made (aG w.heap.size #[.int .i64 op,.int .i64 mode,.string aI,.string value,.int .u32 flags,.int .i64 exp,.bool false,.int .u64 tok,.bool ah,.int .u64 delta,.int .u64 0,.bool false,.bool false,.int .i64 0,.int .i64 aj,.bool false] 56) w wx))
 case first=>
  refine aQ (λw'=>w'.cell? ⟨l.b,1,none⟩=some (.slice (some ⟨l.cb,0,none⟩) 1 l.cc)/\w'.cell? ⟨l.b,13,none⟩=some (.int .i64 0)/\∀j u,(Cm.vs ⟨op,mode,aI,value,flags,exp,tok,ah,delta,aj⟩).toList[j]?=some u->w'.cell? ⟨l.cb,j,none⟩=some u) 12 (by kernel_rfl) (HS.out _ (below_drewN' w 1)) (λhHeld=>?_);refine bY 0 rfl ?_;refine bY 1 rfl ?_;refine bY 2 rfl ?_;refine bY 3 rfl ?_;refine bM 4 rfl ?_;refine bY 5 rfl ?_;refine bY 6 rfl ?_;refine bY 7 rfl ?_;refine bM 8 rfl ?_;refine bY 9 rfl ?_;(try simp only[lz])
  refine QQ 10 (v:=?_) rfl ?_ ?_;rotate_left
  ·intro w0 hS0;(try simp only[gI])
   refine(wC (by rfl) hS0.2.2).trans ?_
   with_reducible rfl
  (try simp only[lz])
  refine aC (rs:=[11]) (by as_aux_lemma=>kernel_rfl) (by simp) ?_;refine ax.cons (o:=_) rfl (λK hK=>?_) ax.nil;rw[if_pos (by as_aux_lemma=>rfl)];(try simp only[gI])
  go_simp;refine hK.out _ _ (HS.out _ (bA (w.drewN 1) _ |> (below_drewN' w 1).trans)) (λaft=>?_);clear hK K;(try simp only[lz])
  refine aC (rs:=[12]) (by as_aux_lemma=>kernel_rfl) (by simp) ?_;refine ax.last (o:=_) rfl (λK hK=>?_);rw[if_pos (by as_aux_lemma=>rfl)];(try simp only[gI])
  go_simp;refine hK.out _ _ trivial (λ_=>?_);clear hK K;(try simp only[lz])
  refine aN (by as_aux_lemma=>kernel_rfl) ?_ _;(try (go_wp2_with fail))
  go_meet;exact⟨rfl,MC⟩
 case rest=>
  obtain⟨rfl,hm⟩:=hcut;obtain⟨N,hN⟩:∃N,w.heap.size=N:=⟨_,rfl⟩;have J0:=H.out.made hm.out;rw[hN] at J0;rw[hN];obtain⟨ak,aZ,av,aU,aV,hA⟩:=TN key (PM.jA s.data k.cmd).2;obtain⟨QC,hsd⟩:∃QC,(PM.jA s.data k.cmd).1=QC:=⟨_,rfl⟩;obtain⟨st,hst⟩:∃st:Int,((PM.jA s.data k.cmd).2.st:Int)=st:=⟨_,rfl⟩;obtain⟨num,mh⟩:∃num:Int,((PM.jA s.data k.cmd).2.num:Int)=num:=⟨_,rfl⟩;have Uk:VZ key (PM.jA s.data k.cmd).2=.agg (iK st ak aZ av aU aV num):=by
   unfold VZ;rw[hA,hst,mh]
  have HD:Hid (∀W,(gG key h bk p.m s.data).R W->Calls prog 18 #[.pointer (some ⟨p.m.s,0,none⟩),.int .i64 1,.agg #[.int .i64 op,.int .i64 mode,.string aI,.string value,.int .u32 flags,.int .i64 exp,.bool false,.int .u64 tok,.bool ah,.int .u64 delta,.int .u64 0,.bool false,.bool false,.int .i64 0,.int .i64 aj,.bool false]] W λe w'=>e=.returned (.tuple #[.agg #[.int .i64 st,.string ak,.int .u32 aZ,.string av,.int .i64 0,.int .u64 aU,.int .i64 aV,.bool false,.bool false,.int .u64 num,.bool false,.bool false,.bool false],.slice none 0 0])/\∃m':SM,m'.s=p.m.s/\m'.ps.num<=p.m.ps.num+1/\dO key m' QC/\ag (gG key h bk p.m s.data) (gG key h bk m' QC) W w'):=hid (λW hW=>by
   have h1:=L6.out W hW;unfold oF at h1;rw[Uk,hsd] at h1;exact h1)
  have Xd:=hid (Xc.out st hst ak aZ av aU aV num);unfold iK at Xd;have HST:Hid ((st == 12)=false):=hid (by rw[<-hst];exact Ls _ _);clear Xc;have HAn:=hid (And.intro hA (And.intro hsd (And.intro hst mh)));have EY:=hid hN;clear L6 Uk hA hsd hst mh S0 HS HF MC H hm hN;have wJ:=hid J0;clear J0;go_upto_region 1 with fail
  go_cut [5,6] from 18 to 30 (λs5 s6 wx=> ∃(B:Nat) (m':SM),s5=.pointer (some ⟨B,0,none⟩)/\s6=.slice none 0 0/\m'.s=p.m.s/\m'.ps.num<=p.m.ps.num+1/\dO key m' QC/\Hid (aJ (many (FU key h bk nw ns nc p s)).B w (aG B #[.int .i64 st,.string ak,.int .u32 aZ,.string av,.int .i64 0,.int .u64 aU,.int .i64 aV,.bool false,.bool false,.int .u64 num,.bool false,.bool false,.bool false] 52 :: aG N #[.int .i64 op,.int .i64 mode,.string aI,.string value,.int .u32 flags,.int .i64 exp,.bool false,.int .u64 tok,.bool ah,.int .u64 delta,.int .u64 0,.bool false,.bool false,.int .i64 0,.int .i64 aj,.bool false] 56 :: (FU key h bk nw ns nc p s).set 5 (gG key h bk m' QC)) wx))
  case first=>
   have S0:(λw'=>w'.cell? ⟨p.b,0,none⟩=some (.pointer (some ⟨p.m.s,0,none⟩))/\w'.cell? ⟨p.b,3,none⟩=some (.int .i64 1)/\(aG N #[.int .i64 op,.int .i64 mode,.string aI,.string value,.int .u32 flags,.int .i64 exp,.bool false,.int .u64 tok,.bool ah,.int .u64 delta,.int .u64 0,.bool false,.bool false,.int .i64 0,.int .i64 aj,.bool false] 56).R w') wc.drew:=⟨cA (wJ.out.drew.get 1 rfl) 0,cA (wJ.out.drew.get 1 rfl) 3,wJ.out.drew.get 0 rfl⟩;refine aQ (λw'=>w'.cell? ⟨p.b,0,none⟩=some (.pointer (some ⟨p.m.s,0,none⟩))/\w'.cell? ⟨p.b,3,none⟩=some (.int .i64 1)/\(aG N #[.int .i64 op,.int .i64 mode,.string aI,.string value,.int .u32 flags,.int .i64 exp,.bool false,.int .u64 tok,.bool ah,.int .u64 delta,.int .u64 0,.bool false,.bool false,.int .i64 0,.int .i64 aj,.bool false] 56).R w') 14 (by kernel_rfl) S0 (λhHeld=>?_);refine bY 0 rfl ?_;refine bY 1 rfl ?_;refine bY 2 rfl ?_;refine bM 3 rfl ?_;refine bY 4 rfl ?_;refine bY 5 rfl ?_;refine bY 6 rfl ?_;refine bM 7 rfl ?_;(try simp only[lz])
   refine QQ 8 (v:=?_) rfl ?_ ?_;rotate_left
   ·intro w0 hS0;(try simp only[gI])
    refine(wC (by rfl) (oG hS0.2.2)).trans ?_
    with_reducible rfl
   (try simp only[lz])
   refine aC (rs:=[9,13]) (by kernel_rfl) (by simp) ?_;refine ax.cons (o:=_) rfl (λK hK=>?_) (ax.cons (o:=_) rfl (λK hK=>?_) ax.nil)
   ·rw[if_pos (by as_aux_lemma=>rfl)];(try simp only[List.getElem_toArray,List.getElem_cons_succ,List.getElem_cons_zero])
    go_simp;go_at_call 18;refine(HD.out _ (wJ.out.drew.get 6 rfl)).mono ?_;rintro e w6 ⟨rfl,m',hm1,hm2,wK,ht⟩;(try (go_wp2_with fail))
    have J6:=wJ.out.drew.turn 6 rfl ht;refine hK.out _ _ ⟨cA (J6.get 1 rfl) 0,cA (J6.get 1 rfl) 3,J6.get 0 rfl⟩ (λZY=>?_);clear hK K S0 hHeld;(try simp only[Act.put,List.getElem_toArray,List.getElem_cons_succ,List.getElem_cons_zero,List.setIfInBounds_toArray,List.set_cons_zero,List.set_cons_succ])
    refine bY 10 rfl ?_;refine bY 11 rfl ?_;refine bY 12 rfl ?_;(try simp only[lz])
    refine aC (rs:=[13]) (by as_aux_lemma=>kernel_rfl) (by simp) ?_;refine ax.cons (o:=_) rfl (λK hK=>?_) ax.nil;rw[if_pos (by as_aux_lemma=>rfl)];(try simp only[gI])
    go_simp;refine hK.out _ _ ⟨cA ((J6.alloc _).get 1 rfl) 0,cA ((J6.alloc _).get 1 rfl) 3,(J6.alloc _).get 0 rfl⟩ (λXe=>?_);clear hK K;(try simp only[lz])
    have G6:=(Made.cells w6 #[.int .i64 0,.string ⟨#[]⟩,.int .u32 0,.string ⟨#[]⟩,.int .i64 0,.int .u64 0,.int .i64 0,.bool false,.bool false,.int .u64 0,.bool false,.bool false,.bool false] 52).here;have g0:(w6.alloc (.cells #[.int .i64 0,.string ⟨#[]⟩,.int .u32 0,.string ⟨#[]⟩,.int .i64 0,.int .u64 0,.int .i64 0,.bool false,.bool false,.int .u64 0,.bool false,.bool false,.bool false] 52)).cell? ⟨w6.heap.size,0,none⟩=some (.int .i64 0):=cA G6 0;have y0:=cZ G6 0;have g1:(w6.alloc (.cells #[.int .i64 0,.string ⟨#[]⟩,.int .u32 0,.string ⟨#[]⟩,.int .i64 0,.int .u64 0,.int .i64 0,.bool false,.bool false,.int .u64 0,.bool false,.bool false,.bool false] 52)).cell? ⟨w6.heap.size,1,none⟩=some (.string ⟨#[]⟩):=cA G6 1;have y1:=cZ G6 1;have g2:(w6.alloc (.cells #[.int .i64 0,.string ⟨#[]⟩,.int .u32 0,.string ⟨#[]⟩,.int .i64 0,.int .u64 0,.int .i64 0,.bool false,.bool false,.int .u64 0,.bool false,.bool false,.bool false] 52)).cell? ⟨w6.heap.size,2,none⟩=some (.int .u32 0):=cA G6 2;have y2:=cZ G6 2;have g3:(w6.alloc (.cells #[.int .i64 0,.string ⟨#[]⟩,.int .u32 0,.string ⟨#[]⟩,.int .i64 0,.int .u64 0,.int .i64 0,.bool false,.bool false,.int .u64 0,.bool false,.bool false,.bool false] 52)).cell? ⟨w6.heap.size,3,none⟩=some (.string ⟨#[]⟩):=cA G6 3;have y3:=cZ G6 3;have g4:(w6.alloc (.cells #[.int .i64 0,.string ⟨#[]⟩,.int .u32 0,.string ⟨#[]⟩,.int .i64 0,.int .u64 0,.int .i64 0,.bool false,.bool false,.int .u64 0,.bool false,.bool false,.bool false] 52)).cell? ⟨w6.heap.size,4,none⟩=some (.int .i64 0):=cA G6 4;have y4:=cZ G6 4;have g5:(w6.alloc (.cells #[.int .i64 0,.string ⟨#[]⟩,.int .u32 0,.string ⟨#[]⟩,.int .i64 0,.int .u64 0,.int .i64 0,.bool false,.bool false,.int .u64 0,.bool false,.bool false,.bool false] 52)).cell? ⟨w6.heap.size,5,none⟩=some (.int .u64 0):=cA G6 5;have y5:=cZ G6 5;have g6:(w6.alloc (.cells #[.int .i64 0,.string ⟨#[]⟩,.int .u32 0,.string ⟨#[]⟩,.int .i64 0,.int .u64 0,.int .i64 0,.bool false,.bool false,.int .u64 0,.bool false,.bool false,.bool false] 52)).cell? ⟨w6.heap.size,6,none⟩=some (.int .i64 0):=cA G6 6;have y6:=cZ G6 6;have g7:(w6.alloc (.cells #[.int .i64 0,.string ⟨#[]⟩,.int .u32 0,.string ⟨#[]⟩,.int .i64 0,.int .u64 0,.int .i64 0,.bool false,.bool false,.int .u64 0,.bool false,.bool false,.bool false] 52)).cell? ⟨w6.heap.size,7,none⟩=some (.bool false):=cA G6 7;have y7:=cZ G6 7;have g8:(w6.alloc (.cells #[.int .i64 0,.string ⟨#[]⟩,.int .u32 0,.string ⟨#[]⟩,.int .i64 0,.int .u64 0,.int .i64 0,.bool false,.bool false,.int .u64 0,.bool false,.bool false,.bool false] 52)).cell? ⟨w6.heap.size,8,none⟩=some (.bool false):=cA G6 8;have y8:=cZ G6 8;have g9:(w6.alloc (.cells #[.int .i64 0,.string ⟨#[]⟩,.int .u32 0,.string ⟨#[]⟩,.int .i64 0,.int .u64 0,.int .i64 0,.bool false,.bool false,.int .u64 0,.bool false,.bool false,.bool false] 52)).cell? ⟨w6.heap.size,9,none⟩=some (.int .u64 0):=cA G6 9;have y9:=cZ G6 9;have g10:(w6.alloc (.cells #[.int .i64 0,.string ⟨#[]⟩,.int .u32 0,.string ⟨#[]⟩,.int .i64 0,.int .u64 0,.int .i64 0,.bool false,.bool false,.int .u64 0,.bool false,.bool false,.bool false] 52)).cell? ⟨w6.heap.size,10,none⟩=some (.bool false):=cA G6 10;have Yd:=cZ G6 10;have g11:(w6.alloc (.cells #[.int .i64 0,.string ⟨#[]⟩,.int .u32 0,.string ⟨#[]⟩,.int .i64 0,.int .u64 0,.int .i64 0,.bool false,.bool false,.int .u64 0,.bool false,.bool false,.bool false] 52)).cell? ⟨w6.heap.size,11,none⟩=some (.bool false):=cA G6 11;have y11:=cZ G6 11;have g12:(w6.alloc (.cells #[.int .i64 0,.string ⟨#[]⟩,.int .u32 0,.string ⟨#[]⟩,.int .i64 0,.int .u64 0,.int .i64 0,.bool false,.bool false,.int .u64 0,.bool false,.bool false,.bool false] 52)).cell? ⟨w6.heap.size,12,none⟩=some (.bool false):=cA G6 12;have y12:=cZ G6 12;have HR:=hid (J6.cells #[.int .i64 st,.string ak,.int .u32 aZ,.string av,.int .i64 0,.int .u64 aU,.int .i64 aV,.bool false,.bool false,.int .u64 num,.bool false,.bool false,.bool false] 52);clear J6;refine aC (rs:=[14]) (by as_aux_lemma=>kernel_rfl) (by simp) ?_;refine ax.last (o:=_) rfl (λK hK=>?_);rw[if_pos (by as_aux_lemma=>rfl)];(try simp only[gI])
    go_simp;refine hK.out _ _ trivial (λ_=>?_);clear hK K;(try simp only[lz])
    refine XE 15 rfl ?_;(try simp only[lz])
    refine aN (by as_aux_lemma=>kernel_rfl) ?_ _;(try (go_wp2_with fail))
    go_meet;exact⟨_,m',rfl,rfl,hm1,hm2,wK,HR⟩
   ·rw[if_pos (by as_aux_lemma=>rfl)];(try simp only[List.getElem_toArray,List.getElem_cons_succ,List.getElem_cons_zero])
    go_simp;have J1:=(wJ.out.cells #[.int .i64 0,.string ⟨#[]⟩,.int .u32 0,.string ⟨#[]⟩,.int .i64 0,.int .u64 0,.int .i64 0,.bool false,.bool false,.int .u64 0,.bool false,.bool false,.bool false] 52).drew;obtain⟨B0,hB0⟩:∃B0,wc.heap.size=B0:=⟨_,rfl⟩;obtain⟨W1,hW1⟩:∃W1,(wc.alloc (.cells #[.int .i64 0,.string ⟨#[]⟩,.int .u32 0,.string ⟨#[]⟩,.int .i64 0,.int .u64 0,.int .i64 0,.bool false,.bool false,.int .u64 0,.bool false,.bool false,.bool false] 52)).drew=W1:=⟨_,rfl⟩;rw[hB0,hW1] at J1;rw[hW1];rw[hB0];refine hK.out _ _ ⟨cA (J1.get 2 rfl) 0,cA (J1.get 2 rfl) 3,J1.get 1 rfl⟩ (λXe=>?_);clear hK K S0 hHeld;(try simp only[Act.put,List.getElem_toArray,List.getElem_cons_succ,List.getElem_cons_zero,List.setIfInBounds_toArray,List.set_cons_zero,List.set_cons_succ])
    refine aC (rs:=[9]) (by as_aux_lemma=>kernel_rfl) (by simp) ?_;refine ax.cons (o:=_) rfl (λK hK=>?_) ax.nil;rw[if_pos (by as_aux_lemma=>rfl)];(try simp only[gI])
    go_simp;(go_at_call 18;refine(HD.out _ (J1.get 7 rfl)).mono ?_;rintro e w6 ⟨rfl,m',hm1,hm2,wK,ht⟩;have J6:=J1.turn 7 rfl ht)
    (try (go_wp2_with fail))
    refine hK.out _ _ ⟨cA (J6.get 2 rfl) 0,cA (J6.get 2 rfl) 3,J6.get 1 rfl⟩ (λZY=>?_);clear hK K;(try simp only[lz])
    clear Xe;have r6:(aG B0 #[.int .i64 0,.string ⟨#[]⟩,.int .u32 0,.string ⟨#[]⟩,.int .i64 0,.int .u64 0,.int .i64 0,.bool false,.bool false,.int .u64 0,.bool false,.bool false,.bool false] 52).R w6:=J6.get 0 rfl;obtain⟨z0,f0,z1,f1,z2,f2,z3,f3,z4,f4,z5,f5,z6,f6,z7,f7,z8,f8,z9,f9,z10,f10,z11,f11,z12,f12⟩:iy w6 B0 (.int .i64 0) (.string ⟨#[]⟩) (.int .u32 0) (.string ⟨#[]⟩) (.int .i64 0) (.int .u64 0) (.int .i64 0) (.bool false) (.bool false) (.int .u64 0) (.bool false) (.bool false) (.bool false):=dM (r6);have hs:=aK B0 52 [.int .i64 st,.string ak,.int .u32 aZ,.string av,.int .i64 0,.int .u64 aU,.int .i64 aV,.bool false,.bool false,.int .u64 num,.bool false,.bool false,.bool false] 0 _ _ r6;rw[show aR 0 [.int .i64 st,.string ak,.int .u32 aZ,.string av,.int .i64 0,.int .u64 aU,.int .i64 aV,.bool false,.bool false,.int .u64 num,.bool false,.bool false,.bool false] #[.int .i64 0,.string ⟨#[]⟩,.int .u32 0,.string ⟨#[]⟩,.int .i64 0,.int .u64 0,.int .i64 0,.bool false,.bool false,.int .u64 0,.bool false,.bool false,.bool false]= #[.int .i64 st,.string ak,.int .u32 aZ,.string av,.int .i64 0,.int .u64 aU,.int .i64 aV,.bool false,.bool false,.int .u64 num,.bool false,.bool false,.bool false] by simp[aR]] at hs;have J7:=J6.turn 0 rfl hs;simp only[aS,List.set] at J7;have HR:=hid J7;clear J6 J7 r6 hs J1;refine bY 10 rfl ?_;refine bY 11 rfl ?_;refine bY 12 rfl ?_;(try simp only[lz])
    refine aC (rs:=[14]) (by as_aux_lemma=>kernel_rfl) (by simp) ?_;refine ax.last (o:=_) rfl (λK hK=>?_);rw[if_pos (by as_aux_lemma=>rfl)];(try simp only[gI])
    go_simp;refine hK.out _ _ trivial (λ_=>?_);clear hK K;(try simp only[lz])
    refine XE 15 rfl ?_;(try simp only[lz])
    refine aN (by as_aux_lemma=>kernel_rfl) ?_ _;(try (go_wp2_with fail))
    go_meet;exact⟨_,m',rfl,rfl,hm1,hm2,wK,HR⟩
  case rest=>
   obtain⟨B,m',rfl,rfl,hm1,hm2,wK,hJ⟩:=hcut;have sH:=hid (And.intro hm1 (And.intro hm2 wK));clear hm1 hm2 wK wJ HD;obtain⟨ea,ec,Ul⟩:∃a c,p.el=.slice a s.ev.length c:=JX (hJ.out.get 6 rfl);obtain⟨xs,hxs⟩:∃xs,s.ev.flatMap (f_ key)=xs:=⟨_,rfl⟩;obtain⟨L5,hL5⟩:∃L,(FU key h bk nw ns nc p s).set 5 (gG key h bk m' QC)=L:=⟨_,rfl⟩;have hL:=SX.out;obtain⟨hw,hkk,hp,hl,hev⟩:=hL;have HL:Hid (∀w',(gp nw (λw=>o_ key (p.wp w) (s.wk w))).R w'->(aG l.b (vL l k) 143).R w'):=hid (λw' hf=>by
    have h1:=bz hf hw;rw[hkk,hl] at h1;exact(aJ.open h1).get 0 rfl)
   have hrow:(rowAt (.slice ea s.ev.length ec) 136 35 s.ev.length xs).R wc.drew:=by
    have h1:=hJ.out.drew.get 6 rfl;rw[<-Ul,<-hxs];exact h1
   have hp7:(svC nw ns nc p)[7]?=some (.slice ea s.ev.length ec):=by rw[<-Ul];rfl
   have HP7:=hid hp7;have HEA:=hid Ul;have HXS:=hid hxs;have HCn:Hid (∀W,(gH p.sx p.sn).R W->Calls prog 146 #[.pointer (some ⟨p.sx,0,none⟩),.agg #[.int .i64 op,.int .i64 mode,.string aI,.string value,.int .u32 flags,.int .i64 exp,.bool false,.int .u64 tok,.bool ah,.int .u64 delta,.int .u64 0,.bool false,.bool false,.int .i64 0,.int .i64 aj,.bool false],.agg #[.int .i64 st,.string ak,.int .u32 aZ,.string av,.int .i64 0,.int .u64 aU,.int .i64 aV,.bool false,.bool false,.int .u64 num,.bool false,.bool false,.bool false],.int .i64 0] W λe w'=>e=.returned (.tuple #[])/\∃f',ag (gH p.sx p.sn) (gH p.sx f') W w'):=Xd;have Lm:(st == 12)=false:=HST.out;clear hL5 L5 hp7;go_upto_region 2 with fail
   have We:Hid (∀w',aJ (many (FU key h bk nw ns nc p s)).B w (aG B #[.int .i64 st,.string ak,.int .u32 aZ,.string av,.int .i64 0,.int .u64 aU,.int .i64 aV,.bool false,.bool false,.int .u64 num,.bool false,.bool false,.bool false] 52 :: aG N #[.int .i64 op,.int .i64 mode,.string aI,.string value,.int .u32 flags,.int .i64 exp,.bool false,.int .u64 tok,.bool ah,.int .u64 delta,.int .u64 0,.bool false,.bool false,.int .i64 0,.int .i64 aj,.bool false] 56 :: (FU key h bk nw ns nc p s).set 5 (gG key h bk m' QC)) w'->(λw'=>w'.cell? ⟨p.b,7,none⟩=some (.slice ea s.ev.length ec)/\w'.cell? ⟨p.b,3,none⟩=some (.int .i64 1)/\w'.cell? ⟨l.b,11,none⟩=some (.int .i64 k.of)/\w'.cell? ⟨l.b,12,none⟩=some (.int .i64 k.seq)/\w'.cell? ⟨l.b,13,none⟩=some (.int .i64 0)/\(aG N #[.int .i64 op,.int .i64 mode,.string aI,.string value,.int .u32 flags,.int .i64 exp,.bool false,.int .u64 tok,.bool ah,.int .u64 delta,.int .u64 0,.bool false,.bool false,.int .i64 0,.int .i64 aj,.bool false] 56).R w'/\(aG B #[.int .i64 st,.string ak,.int .u32 aZ,.string av,.int .i64 0,.int .u64 aU,.int .i64 aV,.bool false,.bool false,.int .u64 num,.bool false,.bool false,.bool false] 52).R w') w'):=hid (λw' J=>⟨(cA (J.get 2 rfl) 7).trans HP7.out,cA (J.get 2 rfl) 3,cA (HL.out _ (J.get 10 rfl)) 11,cA (HL.out _ (J.get 10 rfl)) 12,cA (HL.out _ (J.get 10 rfl)) 13,J.get 1 rfl,J.get 0 rfl⟩);have S0:=We.out wc.drew hJ.out.drew;refine aQ (λw'=>w'.cell? ⟨p.b,7,none⟩=some (.slice ea s.ev.length ec)/\w'.cell? ⟨p.b,3,none⟩=some (.int .i64 1)/\w'.cell? ⟨l.b,11,none⟩=some (.int .i64 k.of)/\w'.cell? ⟨l.b,12,none⟩=some (.int .i64 k.seq)/\w'.cell? ⟨l.b,13,none⟩=some (.int .i64 0)/\(aG N #[.int .i64 op,.int .i64 mode,.string aI,.string value,.int .u32 flags,.int .i64 exp,.bool false,.int .u64 tok,.bool ah,.int .u64 delta,.int .u64 0,.bool false,.bool false,.int .i64 0,.int .i64 aj,.bool false] 56).R w'/\(aG B #[.int .i64 st,.string ak,.int .u32 aZ,.string av,.int .i64 0,.int .u64 aU,.int .i64 aV,.bool false,.bool false,.int .u64 num,.bool false,.bool false,.bool false] 52).R w') 29 (by kernel_rfl) S0 (λhHeld=>?_);refine bY 0 rfl ?_;refine bY 1 rfl ?_;refine bY 2 rfl ?_;refine bY 3 rfl ?_;refine bM 4 rfl ?_;refine bY 5 rfl ?_;refine bY 6 rfl ?_;refine bY 7 rfl ?_;refine bM 8 rfl ?_;refine bY 9 rfl ?_;refine bY 10 rfl ?_;refine bY 11 rfl ?_;refine bM 12 rfl ?_;refine bY 13 rfl ?_;refine bY 14 rfl ?_;refine bY 15 rfl ?_;refine bM 16 rfl ?_;refine bY 17 rfl ?_;refine bY 18 rfl ?_;refine bY 19 rfl ?_;refine bM 20 rfl ?_;(try simp only[lz])
   refine QQ 21 (v:=?_) rfl ?_ ?_;rotate_left
   ·intro w0 hS0;(try simp only[gI])
    refine(wC (by rfl) (oG hS0.2.2.2.2.2.1)).trans ?_
    with_reducible rfl
   (try simp only[lz])
   refine QQ 22 (v:=?_) rfl ?_ ?_;rotate_left
   ·intro w0 hS0;(try simp only[gI])
    refine(BI (by rfl) hS0.2.2.2.2.2.2).trans ?_
    with_reducible rfl
   (try simp only[lz])
   refine bY 23 rfl ?_;refine bY 24 rfl ?_;(try simp only[lz])
   refine aC (rs:=[25]) (by as_aux_lemma=>kernel_rfl) (by simp) ?_;refine ax.cons (o:=_) rfl (λK hK=>?_) ax.nil;rw[if_pos (by as_aux_lemma=>rfl)];(try simp only[gI])
   go_simp;refine hK.out _ _ (We.out _ (hJ.out.drew.alloc _)) (λaa0=>?_);clear hK K;(try simp only[lz])
   refine aC (rs:=[26]) (by as_aux_lemma=>kernel_rfl) (by simp) ?_;refine ax.cons (o:=_) rfl (λK hK=>?_) ax.nil;(refine jb CW rfl _ _ (by rfl) (by rfl) hrow (by rfl) rfl (by simp[Value.oneCell']) (by have:=SX.out.2.2.2.2;omega) (by omega) ?_;intro g7 Py w7 Xf;have ht8:ag (rowAt p.el 136 35 s.ev.length (s.ev.flatMap (f_ key))) _ _ _:=(by rw[HEA.out,HXS.out];exact Xf);have J7:=hJ.out.drew.turn 6 rfl ht8)
   refine hK.out _ _ ⟨(cA (J7.get 2 rfl) 7).trans HP7.out,cA (J7.get 2 rfl) 3,cA (HL.out _ (J7.get 10 rfl)) 11,cA (HL.out _ (J7.get 10 rfl)) 12,cA (HL.out _ (J7.get 10 rfl)) 13,J7.get 1 rfl,J7.get 0 rfl⟩ (λaa1=>?_);clear hK K;(try simp only[lz])
   clear hrow Xf ht8;have b7:w7.cell? ⟨p.b,7,none⟩=some (.slice ea s.ev.length ec):=(cA (J7.get 2 rfl) 7).trans HP7.out;have z7:w7.frozen? ⟨p.b,7,none⟩=false:=cZ (J7.get 2 rfl) 7;have J8:=J7.turn 2 rfl (ai (J7.get 2 rfl) 7 (.slice (some ⟨g7,0,none⟩) (s.ev.length+1) Py));have BC:=hid J8;clear J7 J8;refine bY 27 rfl ?_;refine bY 28 rfl ?_;(try simp only[lz])
   refine aC (rs:=[29]) (by as_aux_lemma=>kernel_rfl) (by simp) ?_;refine ax.last (o:=_) rfl (λK hK=>?_);rw[if_pos (by as_aux_lemma=>rfl)];(try simp only[gI])
   go_simp;refine hK.out _ _ trivial (λ_=>?_);clear hK K;(try simp only[lz])
   refine aN (by as_aux_lemma=>kernel_rfl) ?_ _;obtain⟨w8,hw8⟩:∃w8,w7.setCell ⟨p.b,7,none⟩ (.slice (some ⟨g7,0,none⟩) (s.ev.length+1) Py)=w8:=⟨_,rfl⟩;have J8:=BC.out;rw[hw8] at J8;rw[hw8];have qA:=hid J8;clear BC J8 hw8 b7 z7 S0 hHeld aa0 aa1 We;go_upto_region 3 with fail
   have S0:(λw'=>w'.cell? ⟨p.b,2,none⟩=some (.pointer (some ⟨p.sx,0,none⟩))/\(aG N #[.int .i64 op,.int .i64 mode,.string aI,.string value,.int .u32 flags,.int .i64 exp,.bool false,.int .u64 tok,.bool ah,.int .u64 delta,.int .u64 0,.bool false,.bool false,.int .i64 0,.int .i64 aj,.bool false] 56).R w'/\(aG B #[.int .i64 st,.string ak,.int .u32 aZ,.string av,.int .i64 0,.int .u64 aU,.int .i64 aV,.bool false,.bool false,.int .u64 num,.bool false,.bool false,.bool false] 52).R w') w8.drew:=⟨cA (qA.out.drew.get 2 rfl) 2,qA.out.drew.get 1 rfl,qA.out.drew.get 0 rfl⟩;refine aQ (λw'=>w'.cell? ⟨p.b,2,none⟩=some (.pointer (some ⟨p.sx,0,none⟩))/\(aG N #[.int .i64 op,.int .i64 mode,.string aI,.string value,.int .u32 flags,.int .i64 exp,.bool false,.int .u64 tok,.bool ah,.int .u64 delta,.int .u64 0,.bool false,.bool false,.int .i64 0,.int .i64 aj,.bool false] 56).R w'/\(aG B #[.int .i64 st,.string ak,.int .u32 aZ,.string av,.int .i64 0,.int .u64 aU,.int .i64 aV,.bool false,.bool false,.int .u64 num,.bool false,.bool false,.bool false] 52).R w') 8 (by kernel_rfl) S0 (λhHeld=>?_);refine bY 0 rfl ?_;refine bY 1 rfl ?_;refine bY 2 rfl ?_;refine bM 3 rfl ?_;(try simp only[lz])
   refine QQ 4 (v:=?_) rfl ?_ ?_;rotate_left
   ·intro w0 hS0;(try simp only[gI])
    refine(wC (by rfl) (oG hS0.2.1)).trans ?_
    with_reducible rfl
   (try simp only[lz])
   refine QQ 5 (v:=?_) rfl ?_ ?_;rotate_left
   ·intro w0 hS0;(try simp only[gI])
    refine(BI (by rfl) hS0.2.2).trans ?_
    with_reducible rfl
   (try simp only[lz])
   refine bY 6 rfl ?_;refine bY 7 rfl ?_;(try simp only[lz])
   refine aC (rs:=[8]) (by as_aux_lemma=>kernel_rfl) (by simp) ?_;refine ax.last (o:=_) rfl (λK hK=>?_);rw[if_pos (by as_aux_lemma=>rfl)];(try simp only[gI])
   go_simp;(go_at_call 146;refine(HCn.out _ (qA.out.drew.get 8 rfl)).mono ?_;rintro e w9 ⟨rfl,f9,ht9⟩)
   (try (go_wp2_with fail))
   refine hK.out _ _ trivial (λ_=>?_);clear hK K;(try simp only[lz])
   refine aN (by as_aux_lemma=>kernel_rfl) ?_ _;have J9:=qA.out.drew.turn 8 rfl ht9;have lT:=hid J9;have q0:w9.cell? ⟨B,0,none⟩=some (.int .i64 st):=cA (J9.get 0 rfl) 0;clear J9 ht9 qA S0 hHeld;go_wp2_with (fail)
   go_upto_region 6 with fail
   have HLW:Hid (∀w',(gp nw (λw=>o_ key (p.wp w) (s.wk w))).R w'->aJ (many (vT key l k)).B w' (vT key l k) w'):=hid (λw' hf=>by
    have h1:=bz hf hw;rw[hkk,hl] at h1;exact aJ.open h1)
   obtain⟨aa,ac,Ym⟩:∃a c,l.av=.slice a 0 c:=by
    have h1:=(HLW.out _ (lT.out.get 10 rfl)).get 2 rfl;rw[hp] at h1;exact JX h1
   have BB:=hid Ym;have hph:=hp;have Yn:vT key l k= [aG l.b (vL l k) 143,rowAt (.slice (some ⟨l.cb,0,none⟩) 1 l.cc) 56 16 1 (lV key k.cmd).vs.toList,rowAt (.slice aa 0 ac) 52 13 0 [],rowAt l.hv 3 1 1 [.int .i64 0]]:=by
    unfold vT;rw[hph,Ym];rfl
   have Yo:=HLW.out _ (lT.out.drew.get 10 rfl);rw[Yn] at Yo;have hr0:(rowAt (.slice aa 0 ac) 52 13 0 []).R w9.drew:=Yo.get 2 rfl;have Yp:Hid (∀w',(aG l.b (vL l k) 143).R w'->w'.cell? ⟨l.b,14,none⟩=some (.slice aa 0 ac)):=hid (λw' hr=>(cA hr 14).trans (by rw[<-Ym];rfl));have HTK:Hid (∀(r':aT) (w' w'':World),ag (many (vT key l k)) r' w' w''->ag (o_ key (p.wp wi) (s.wk wi)) r' w' w''):=hid (λr' w' w'' t=>by rw[hkk,hl];exact t);rw[Yn] at HTK;have HEW:=hid Yn;have HHK:=hid Yo;have HG9:=hid (bz (lT.out.drew.get 10 rfl) hw);have HF9:Hid (∀(r':aT) (w'':World),ag (o_ key (p.wp wi) (s.wk wi)) r' w9.drew w''->ag (gp nw (λw=>o_ key (p.wp w) (s.wk w))) (gp nw (PM.upd (λw=>o_ key (p.wp w) (s.wk w)) wi r')) w9.drew w''):=hid (λr' w'' t=>fo (lT.out.drew.get 10 rfl) hw t);clear Yo Yn Ym;have S0:(λw'=>w'.cell? ⟨l.b,14,none⟩=some (.slice aa 0 ac)/\(aG B #[.int .i64 st,.string ak,.int .u32 aZ,.string av,.int .i64 0,.int .u64 aU,.int .i64 aV,.bool false,.bool false,.int .u64 num,.bool false,.bool false,.bool false] 52).R w') w9.drew:=⟨Yp.out _ (HHK.out.get 0 rfl),lT.out.drew.get 0 rfl⟩;refine aQ (λw'=>w'.cell? ⟨l.b,14,none⟩=some (.slice aa 0 ac)/\(aG B #[.int .i64 st,.string ak,.int .u32 aZ,.string av,.int .i64 0,.int .u64 aU,.int .i64 aV,.bool false,.bool false,.int .u64 num,.bool false,.bool false,.bool false] 52).R w') 11 (by kernel_rfl) S0 (λhHeld=>?_);refine bY 0 rfl ?_;refine bY 1 rfl ?_;refine bY 2 rfl ?_;refine bY 3 rfl ?_;refine bY 4 rfl ?_;refine bM 5 rfl ?_;(try simp only[lz])
   refine QQ 6 (v:=?_) rfl ?_ ?_;rotate_left
   ·intro w0 hS0;(try simp only[gI])
    refine(BI (by rfl) hS0.2).trans ?_
    with_reducible rfl
   (try simp only[lz])
   refine aC (rs:=[7]) (by as_aux_lemma=>kernel_rfl) (by simp) ?_;refine ax.cons (o:=_) rfl (λK hK=>?_) ax.nil;rw[if_pos (by as_aux_lemma=>rfl)];(try simp only[gI])
   go_simp;refine hK.out _ _ ⟨Yp.out _ ((HHK.out.alloc _).get 0 rfl),(lT.out.drew.alloc _).get 0 rfl⟩ (λUF=>?_);clear hK K;(try simp only[lz])
   refine aC (rs:=[8]) (by as_aux_lemma=>kernel_rfl) (by simp) ?_;refine ax.cons (o:=_) rfl (λK hK=>?_) ax.nil;(refine jb Px rfl _ _ (by rfl) (by rfl) hr0 (by rfl) rfl (by simp[Value.oneCell']) (by omega) (by omega) ?_;intro g1 jP w10 ht;have FQ:=HHK.out.turn 2 rfl ht;have J11:=lT.out.drew.turn 10 rfl (HF9.out _ _ (HTK.out _ _ _ FQ.shut)))
   refine hK.out _ _ ⟨Yp.out _ (FQ.get 0 rfl),J11.get 0 rfl⟩ (λhS8=>?_);clear hK K;(try simp only[lz])
   have b14:w10.cell? ⟨l.b,14,none⟩=some (.slice aa 0 ac):=Yp.out _ (FQ.get 0 rfl);have z14:w10.frozen? ⟨l.b,14,none⟩=false:=cZ (FQ.get 0 rfl) 14;have b15:w10.cell? ⟨l.b,15,none⟩=some (.int .i64 k.ph):=cA (FQ.get 0 rfl) 15;have z15:w10.frozen? ⟨l.b,15,none⟩=false:=cZ (FQ.get 0 rfl) 15;have t1:=ai (FQ.get 0 rfl) 14 (.slice (some ⟨g1,0,none⟩) (0+1) jP);have t2:=t1.trans (ai t1.here 15 (.int .i64 2));have aa4:=HAn.out;obtain⟨hA,hsd,hst,mh⟩:=aa4;obtain⟨l',hl'⟩:∃l':Wl,l'= {l with av:=.slice (some ⟨g1,0,none⟩) 1 jP}:=⟨_,rfl⟩;obtain⟨k',hk'⟩:∃k':PM.Wk Cd An,k'= {k with ph:=2,ans:=(PM.jA s.data k.cmd).2}:=⟨_,rfl⟩;have ec:((vL l k).setIfInBounds 14 (.slice (some ⟨g1,0,none⟩) (0+1) jP)).setIfInBounds 15 (.int .i64 2)=vL l' k':=by rw[hl',hk'];simp[vL]
   rw[ec] at t2;have T3:=(FQ.turn 0 rfl t2).shut;have er:many ((([aG l.b (vL l k) 143,rowAt (.slice (some ⟨l.cb,0,none⟩) 1 l.cc) 56 16 1 (lV key k.cmd).vs.toList,rowAt (.slice aa 0 ac) 52 13 0 [],rowAt l.hv 3 1 1 [.int .i64 0]]:List aT).set 2 (rowAt (.slice (some ⟨g1,0,none⟩) (0+1) jP) 52 13 (0+1) ([] ++ (#[.int .i64 st,.string ak,.int .u32 aZ,.string av,.int .i64 0,.int .u64 aU,.int .i64 aV,.bool false,.bool false,.int .u64 num,.bool false,.bool false,.bool false]:Array Value).toList))).set 0 (aG l.b (vL l' k') 143))=o_ key l' (some k'):=by
    rw[hl',hk'];show many [_,_,_,_]=many [_,_,_,_];dsimp only;rw[if_pos rfl,if_pos rfl,if_neg (by decide),if_neg (by decide),hA,hst,mh];rfl
   rw[er] at T3;have Yq:=lT.out.drew.turn 10 rfl (HF9.out _ _ (HTK.out _ _ _ T3));rw[<-Bg] at Yq;obtain⟨hm1,hm2,wK⟩:=sH.out;obtain⟨p',hp'⟩:∃p':Pl,p'= {p with el:=.slice (some ⟨g7,0,none⟩) (s.ev.length+1) Py,sn:=f9,m:=m',wp:=PM.upd p.wp wi l'}:=⟨_,rfl⟩;have e0:(svC nw ns nc p).setIfInBounds 7 (.slice (some ⟨g7,0,none⟩) (s.ev.length+1) Py)=svC nw ns nc p':=by rw[hp'];simp[svC,hm1]
   have e4:xs ++ (#[.int .i64 1,.int .i64 1,.int .i64 k.of,.int .i64 k.seq,.int .i64 0,.int .i64 op,.int .i64 mode,.string aI,.string value,.int .u32 flags,.int .i64 exp,.bool false,.int .u64 tok,.bool ah,.int .u64 delta,.int .u64 0,.bool false,.bool false,.int .i64 0,.int .i64 aj,.bool false,.int .i64 st,.string ak,.int .u32 aZ,.string av,.int .i64 0,.int .u64 aU,.int .i64 aV,.bool false,.bool false,.int .u64 num,.bool false,.bool false,.bool false,.slice none 0 0]:Array Value).toList=(PM.qX PM.jA s wi k).ev.flatMap (f_ key):=by
    show _=(s.ev ++ [_]).flatMap (f_ key);rw[List.flatMap_append,HXS.out,List.flatMap_singleton];unfold f_;dsimp only;rw[hA,hst,mh,hc];rfl
   have hlen:(PM.qX PM.jA s wi k).ev.length=s.ev.length+1:=by
    show (s.ev ++ [_]).length=_;rw[List.length_append,List.length_singleton]
   have hrow:=Kt (nw:=nw) (p:=p) (s:=s) (l':=l') (k':=k') (ho:=s.holder) hkk (by rw[hl',hl]);rw[e0,e4] at Yq;have HE:Hid (ag (dZ key h bk nw ns nc p s) (dZ key h bk nw ns nc p' (PM.qX PM.jA s wi k)) w ((w10.setCell ⟨l.b,14,none⟩ (.slice (some ⟨g1,0,none⟩) (0+1) jP)).setCell ⟨l.b,15,none⟩ (.int .i64 2))):=hid (by
    have h6:=(Yq.sub (.cons _ (.cons _ (List.Sublist.refl _)))).shut;show ag _ (many (FU key h bk nw ns nc p' (PM.qX PM.jA s wi k))) w _;unfold FU;rw[hlen];have e8:PM.upd s.wk wi (some k')=(PM.qX PM.jA s wi k).wk:=by rw[hk'];rfl
    rw[<-hsd] at h6;subst hp';rw[show fD nw (tH _ (PM.qX PM.jA s wi k))=fD nw (tH p s) from(by rw[hk'] at hrow;exact hrow)];rw[e8] at h6;exact h6)
   have HFin:Hid (p'.b=p.b/\p'.m.ps.num<=p.m.ps.num+1/\dO key p'.m (PM.jA s.data k.cmd).1):=hid (by rw[hp',hsd];exact⟨rfl,hm2,wK⟩);clear Yq T3 t1 t2 FQ J11 er ec e0 e4 hlen hrow ht hp' hA hsd hst mh hm1 hm2 wK hr0;refine bY 9 rfl ?_;refine bY 10 rfl ?_;(try simp only[lz])
   refine aC (rs:=[11]) (by as_aux_lemma=>kernel_rfl) (by simp) ?_;refine ax.last (o:=_) rfl (λK hK=>?_);rw[if_pos (by as_aux_lemma=>rfl)];(try simp only[gI])
   go_simp;refine hK.out _ _ trivial (λ_=>?_);clear hK K;(try simp only[lz])
   refine XE 12 rfl ?_;(try simp only[lz])
   refine XE 13 rfl ?_;(try simp only[lz])
   refine aC (rs:=[14]) (by as_aux_lemma=>kernel_rfl) (by simp) ?_;refine ax.UR (by as_aux_lemma=>kernel_rfl) (o:=_) rfl (λK hK=>?_) ax.nil;rw[if_pos (by as_aux_lemma=>rfl)];(try simp only[gI])
   go_simp;refine hK.out _ _ trivial (λ_=>?_);clear hK K;(try simp only[lz])
   refine aN (by as_aux_lemma=>kernel_rfl) ?_ _;go_wp2_with (fail)
   go_end0;exact⟨rfl,p',HFin.out.1,HFin.out.2.1,HFin.out.2.2,HE.out⟩
end
end Go.Proofs.YtboehbfagnocpaaGreatDoor
