import Derived.Test.YtboehbfagnocpaaGreatDoorKan
set_option linter.unusedVariables false
set_option linter.unusedSimpArgs false
set_option maxRecDepth 100000
set_option maxHeartbeats 40000000
open Go.Proofs.Tryz
open Go.Lib (hid)
namespace Go.Proofs.YtboehbfagnocpaaGreatDoor
open Go.RowKit Go.PlainAid Go.Shelf
open W2.P (mk)
theorem Br{f:ByteArray}(h:1<=f.size):f.extract 0 1=⟨#[GB.hd f]⟩:=by
 have h1:(f.extract 0 1).size=1:=by simp;omega
 have h2:=KR h1;rw[h2];congr 2;unfold GB.hd;rw[ByteArray.data_extract,Array.toList_extract];obtain⟨⟨l⟩⟩:=f;match l,h with
 |x :: l,_=>rfl
theorem O6(l:List ByteArray)(c:UInt8):(l.map GB.hd).contains c=l.any (λf=>GB.hd f == c):=by
 induction l with
 |nil=>rfl
 |cons x l ih=>
  rw[List.map_cons,List.contains_cons,List.any_cons,ih];congr 1;rw[Bool.eq_iff_iff,beq_iff_eq,beq_iff_eq];exact⟨Eq.symm,Eq.symm⟩
theorem O7(l:List ByteArray){k:Nat}(hk:k<l.length)(h1:1<=(GB.wd l k).size):mk ((l.take k).map GB.hd) ++ (GB.wd l k).extract 0 1=mk ((l.take (k+1)).map GB.hd):=by
 have e:GB.wd l k=l[k]:=by unfold GB.wd;rw[List.getElem?_eq_getElem hk];rfl
 rw[Br h1,e,List.take_succ_eq_append_getElem hk,List.map_append];apply ByteArray.ext;simp[mk,ByteArray.data_append]
def Bt(c:Nat)(op:Int)(r:Option ByteArray)(l:List ByteArray)(w:World)(e:Ending)(w':World):Prop:=
 e=.returned (.tuple #[.string (pV r),.bool (r.isNone && l.any (λf=>GB.hd f == 98)),.bool (r.isNone && l.any (λf=>GB.hd f == 113))])/\ag (bF c op) (bF c op) w w'
theorem Bt.bad{c:Nat}{op:Int}{t:ByteArray}{l:List ByteArray}{w w':World}{r:Option ByteArray}(hr:r=some t)(h:ag (bF c op) (bF c op) w w'):Bt c op r l w (.returned (.tuple #[.string t,.bool false,.bool false])) w':=by
 subst hr;exact⟨rfl,h⟩
theorem aam{c b o n cap:Nat}{op:Int}{a:Option Addr}{al:List UInt8}{l:List ByteArray}{w:World}(hl:l.length=n)(hw:1<=n->a=some ⟨b,o,none⟩/\Ws w b o n l/\b≠c)(hn:n<=1000000)(hc:(bF c op).R w)
 (h1:∀i,i<n->1<=(GB.wd l i).size) (hs:∀i,(GB.wd l i).size<=1000000) (hE:Er w) (h5:5<c):
 Calls prog 314 #[.pointer (some ⟨c,0,none⟩),.string (mk al),.slice a n cap] w (Bt c op (GB.rW al (decide (op=3)) [] l) l w):=by
 have HC:=hid hc;have HW:=hid hw;have HG:=hid (And.intro hl (And.intro h1 (And.intro hs (And.intro hE h5))));obtain⟨al',hal⟩:∃al',mk al=al':=⟨_,rfl⟩;have Um:=hid hal;rw[hal];clear hc hw hl h1 hs hE h5 hal;go_enter func314,ntmps314;go_wp2_with (fail)
 go_loopw [9,14] (λsn i wr=> ∃(k:Nat) (s:ByteArray),k<=n/\i=.int .i64 k/\sn=.string s/\Hid (s=mk ((l.take k).map GB.hd))/\Hid (GB.rW al (decide (op=3)) [] l=GB.rW al (decide (op=3)) ((l.take k).map GB.hd) (l.drop k))/\Hid (ag (bF c op) (bF c op) w wr)) (λ_ i _=>n-(intOf i).toNat)
 case atStart=>exact⟨0,_,Nat.zero_le _,rfl,rfl,hid rfl,hid rfl,hid (ag.rfl' HC.out)⟩
 case round=>
  obtain⟨k,s,hk,rfl,rfl,HS,HF,HT⟩:=hrel;by_cases hlt:k<n
  ·obtain⟨ha,hW0,hbc⟩:=HW.out (by omega);subst ha;have Ui:=hW0.bL HT.out.bL (λe=>hbc e);have hx:=Ui.2.2 k hlt;have hst:=yH (all:=al) (math:=decide (op=3)) (l:=l) (k:=k) (by have:=HG.out.1;omega);have hsn:=O7 l (k:=k) (by have:=HG.out.1;omega) (HG.out.2.1 k hlt);have hf1:=HG.out.2.1 k hlt;have hf2:=HG.out.2.2.1 k;obtain⟨f,hf⟩:∃f,GB.wd l k=f:=⟨_,rfl⟩;rw[hf] at hx hst hf1 hf2 hsn;have hg:=get_bt f;have hfi:(1:Int)<=f.size:=by omega
   have hfz:(0:Int)<f.size:=by omega
   have hki:(k:Int)<n:=by omega
   have HST:=hid (HF.out.trans hst);have HSN:=hid hsn;have h1:=hid (show∀w',Calls prog 337 #[.string al',.string (f.extract 0 1)] w' λe w''=>e=.returned (.bool (al.contains (GB.hd f)))/\w''=w' from λw'=>by
    rw[Br hf1,<-ou,<-Um.out];exact Tryz.strings_Contains_one (mk al) (GB.hd f) w')
   have h2:=hid (show∀w',Calls prog 337 #[.string s,.string (f.extract 0 1)] w' λe w''=>e=.returned (.bool (((l.take k).map GB.hd).contains (GB.hd f)))/\w''=w' from λw'=>by
    rw[Br hf1,<-ou,HS.out];exact Tryz.strings_Contains_one (mk ((l.take k).map GB.hd)) (GB.hd f) w')
   have h3:=hid (show∀W',Below wr.heap.size wr W'->Calls prog 338 #[.pointer (some ⟨c,0,none⟩),.int .u8 (bt f 0),.string (f.extract 1 f.size)] W' λe w'=>e=.returned (.bool (GB.arg (decide (op=3)) (GB.hd f) (GB.tl f)))/\ag (bF c op) (bF c op) w w' from λW' hb=>by
    have ht:=HT.out.below hb;rw[<-kZ hf1];exact(aal (fl:=GB.hd f) (s:=f.extract 1 f.size) ht.here (by simp;omega) (HG.out.2.2.2.1.bL ht.bL (λe=>by have e':5=c:=e;have:=HG.out.2.2.2.2;omega)) HG.out.2.2.2.2).mono (λe w' ⟨h1,h2⟩=>⟨h1,ht.trans h2⟩))
   clear hst hf hW0 hbc Ui hsn;obtain⟨q1,hq1⟩:∃q1,al.contains (GB.hd f)=q1:=⟨_,rfl⟩;obtain⟨q2,hq2⟩:∃q2,((l.take k).map GB.hd).contains (GB.hd f)=q2:=⟨_,rfl⟩;obtain⟨q3,hq3⟩:∃q3,GB.arg (decide (op=3)) (GB.hd f) (GB.tl f)=q3:=⟨_,rfl⟩;rw[hq1,hq2,hq3] at HST;rw[hq1] at h1;rw[hq2] at h2;rw[hq3] at h3;clear hq1 hq2 hq3;cases q1
   ·have HE:=hid (show GB.rW al (decide (op=3)) [] l=some GB.NV from HST.out.trans (if_pos rfl));go_wp2_with (go_at_call 337;with_reducible refine(h1.out _).mono ?_;rintro e w1 ⟨rfl,rfl⟩)
    go_ret3
    exact Bt.bad HE.out HT.out
   ·cases q2
    ·go_upto_region 9 with (go_at_call 337;first|(with_reducible refine(h1.out _).mono ?_)|(with_reducible refine(h2.out _).mono ?_);rintro e w1 ⟨rfl,rfl⟩)
     go_cut [29] from 30 to 36 (λs29 wx=>s29=.bool (!q3)/\Hid (ag (bF c op) (bF c op) w wx))
     case first=>
      go_region_with (go_at_call 338;refine(h3.out _ (by go_grown)).mono ?_;rintro e w1 ⟨rfl,ht1⟩;have HT1:=hid ht1;clear ht1)
      all_goals (go_wp2_with fail)
      all_goals (go_meet;exact⟨rfl,HT1⟩)
     case rest=>
      obtain⟨rfl,HT1⟩:=hcut;cases q3
      ·have HE:=hid (show GB.rW al (decide (op=3)) [] l=some GB.NY from HST.out.trans (by rw[if_neg (by simp),if_neg (by simp),if_pos rfl]));go_wp2_with (fail)
       go_ret3
       exact Bt.bad HE.out HT1.out
      ·have HE:=hid (show GB.rW al (decide (op=3)) [] l=GB.rW al (decide (op=3)) ((l.take (k+1)).map GB.hd) (l.drop (k+1)) from HST.out.trans (by rw[if_neg (by simp),if_neg (by simp),if_neg (by simp)]));have hss:s.size+(f.extract 0 1).size<=2000000:=by
        have h1:s.size<=k:=by rw[HS.out,W2.P.dP,List.length_map,List.length_take];omega
        have h2:(f.extract 0 1).size<=1:=by simp;omega
        omega
       have aan:=hid (show s ++ f.extract 0 1=mk ((l.take (k+1)).map GB.hd) by rw[HS.out,HSN.out]);go_wp2_with (fail)
       go_roundw;case rel=>exact⟨k+1,_,by omega,by go_num,rfl,aan,HE,HT1⟩
       case measure=>simp[intOf];omega
    ·have HE:=hid (show GB.rW al (decide (op=3)) [] l=some GB.NW from HST.out.trans (by rw[if_neg (by simp),if_pos rfl]));go_wp2_with (go_at_call 337;first|(with_reducible refine(h1.out _).mono ?_)|(with_reducible refine(h2.out _).mono ?_);rintro e w1 ⟨rfl,rfl⟩)
     go_ret3
     exact Bt.bad HE.out HT.out
  ·have hki:¬(k:Int)<n:=by omega
   have hnk:l.take k=l:=List.take_of_length_le (by have:=HG.out.1;omega);have HE:=hid (show GB.rW al (decide (op=3)) [] l=none by rw[HF.out,CE (by have:=HG.out.1;omega)]);have h4:=hid (show∀(c:UInt8) w',Calls prog 337 #[.string s,.string ⟨#[c]⟩] w' λe w''=>e=.returned (.bool (l.any (λf=>GB.hd f == c)))/\w''=w' from λc w'=>by
    rw[<-O6,<-ou,HS.out,hnk];exact Tryz.strings_Contains_one (mk (l.map GB.hd)) c w')
   clear hnk;go_wp2_with (go_at_call 337;refine(h4.out _ _).mono ?_;rintro e w1 ⟨rfl,rfl⟩)
   go_ret3
   exact⟨by rw[HE.out];rfl,HT.out⟩
theorem O8{fn:Func}{k m:Nat}(hres:fn.results= #[.cell k 56,.tmp m]){R:Ending->World->Prop}{tmps:Array Value}{W:World}{N:Nat}{vm v0 v1 v2 v3 v4 v5 v6 v7 v8 v9 v10 v11 v12 v13 v14 v15:Value}
 (h2:tmps.getD k undef=.pointer (some ⟨N,0,none⟩)) (hm:tmps.getD m undef=vm) (hb:(aG N #[v0,v1,v2,v3,v4,v5,v6,v7,v8,v9,v10,v11,v12,v13,v14,v15] 56).R W)
 (hR:R (.returned (.tuple #[.agg #[v0,v1,v2,v3,v4,v5,v6,v7,v8,v9,v10,v11,v12,v13,v14,v15],vm])) W):
 bodyPost prog fn R .ret {tmps:=tmps,defers:=[]} W:=by
 refine bodyPost_ret (v:=.tuple #[.agg #[v0,v1,v2,v3,v4,v5,v6,v7,v8,v9,v10,v11,v12,v13,v14,v15],vm]) ?_ rfl hR;have h2':tmps[k]?.getD undef=.pointer (some ⟨N,0,none⟩):=by simpa using h2
 have h3':tmps[m]?.getD undef=vm:=by simpa using hm
 obtain⟨x0,x1,x2,x3,x4,x5,x6,x7,x8,x9,lJ,R8,R9,x13,x14,x15⟩:vB W N v0 v1 v2 v3 v4 v5 v6 v7 v8 v9 v10 v11 v12 v13 v14 v15:=oM (hb);simp[results,hres,go_sem,h2',h3',x0,x1,x2,x3,x4,x5,x6,x7,x8,x9,lJ,R8,R9,x13,x14,x15]
def O9(nm:ByteArray):Int:=if nm=GB.IM then 7 else if nm=GB.zH then 1 else if nm=GB.oO then 2 else if nm=GB.zI then 5 else if nm=GB.nU then 3 else 0
def Bu(op dl:Int):Array Value:=#[.int .i64 op,.int .i64 0,.string ⟨#[]⟩,.string ⟨#[]⟩,.int .u32 0,.int .i64 0,.bool false,.int .u64 0,.bool false,.int .u64 dl,.int .u64 0,.bool false,.bool false,.int .i64 0,.int .i64 (-1),.bool false]
theorem KS{nm:ByteArray}(h:GB.vG nm=true):decide (O9 nm=3)=decide (nm=GB.nU):=by
 rcases GB.iI h with rfl|rfl|rfl|rfl|rfl|rfl<;>rfl
def wM(op:Int)(al:ByteArray)(w:World)(e:Ending)(w':World):Prop:=∃dl,e=.returned (.tuple #[.agg (Bu op dl),.string al])/\Below w.heap.size w w'
theorem wM.fin{fn:Func}(hres:fn.results= #[.cell 2 56,.tmp 3]){tmps:Array Value}{w:World}{N:Nat}{op dl:Int}{al:ByteArray}(hN:w.heap.size=N)(h2:tmps.getD 2 undef=.pointer (some ⟨N,0,none⟩))(hm:tmps.getD 3 undef=.string al):
 bodyPost prog fn (wM op al w) .ret {tmps:=tmps,defers:=[]} (w.alloc (.cells (Bu op dl) 56)):=
 O8 hres h2 hm (hN ▸ aA w _ 56) ⟨dl,rfl,bA w _⟩
theorem Dh(w:World):Calls prog 289 #[.string ⟨#[109,110]⟩] w (wM 0 ⟨#[]⟩ w):=by
 go_enter func289,ntmps289;go_wp2
 exact wM.fin rfl rfl rfl rfl
theorem O_(w:World):Calls prog 289 #[.string ⟨#[109,101]⟩] w (wM 7 ⟨#[98]⟩ w):=by
 go_enter func289,ntmps289;go_wp2
 exact wM.fin rfl rfl rfl rfl
theorem Pb(w:World):Calls prog 289 #[.string ⟨#[109,103]⟩] w (wM 1 ⟨#[98,99,102,107,113,115,116,118,79,78,82,84]⟩ w):=by
 go_enter func289,ntmps289;go_wp2
 exact wM.fin rfl rfl rfl rfl
theorem Pf(w:World):Calls prog 289 #[.string ⟨#[109,115]⟩] w (wM 2 ⟨#[98,99,107,113,73,67,70,77,79,84]⟩ w):=by
 go_enter func289,ntmps289;go_wp2
 exact wM.fin rfl rfl rfl rfl
theorem Ph(w:World):Calls prog 289 #[.string ⟨#[109,100]⟩] w (wM 5 ⟨#[98,107,113,73,67,79,84]⟩ w):=by
 go_enter func289,ntmps289;go_wp2
 exact wM.fin rfl rfl rfl rfl
theorem Pj(w:World):Calls prog 289 #[.string ⟨#[109,97]⟩] w (wM 3 ⟨#[98,99,107,113,116,118,67,68,74,77,78,79,84]⟩ w):=by
 go_enter func289,ntmps289;go_wp2
 exact wM.fin rfl rfl rfl rfl
theorem Qx{nm:ByteArray}(h:GB.vG nm=true)(w:World):Calls prog 289 #[.string nm] w (wM (O9 nm) (mk (GB.allow nm)) w):=by
 rcases GB.iI h with rfl|rfl|rfl|rfl|rfl|rfl
 ·exact Dh w
 ·exact O_ w
 ·exact Pb w
 ·exact Pf w
 ·exact Ph w
 ·exact Pj w
end Go.Proofs.YtboehbfagnocpaaGreatDoor
