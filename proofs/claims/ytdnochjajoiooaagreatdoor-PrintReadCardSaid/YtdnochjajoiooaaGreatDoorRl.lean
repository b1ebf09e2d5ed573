/- The contracts of tree.Set, and of a node and its kids as the examples of layer 8 put them together. The contract of bonsailaw08.long: long, or else small. -/
import Derived.Test.YtdnochjajoiooaaGreatDoorRc
import Derived.Test.YtdnochjajoiooaaGreatDoorSz
import Derived.Test.YtdnochjajoiooaaGreatDoorGo
namespace Go.Proofs.YtdnochjajoiooaaGreatDoor
open Go.RowKit
set_option linter.unusedSimpArgs false
set_option linter.unusedVariables false
def Iq (a b c d:Int):Nd:=⟨1,a,b,c,d,⟨#[]⟩,0,0,[]⟩
set_option maxRecDepth 100000 in
set_option maxHeartbeats 1600000 in
theorem VM (a b c d:Int) (w:World) (h1:U64 a) (h2:U64 b) (h3:U64 c) (h4:U64 d):
  Calls Tryz.prog 15 #[.agg #[.int .u64 a,.int .u64 b,.int .u64 c,.int .u64 d]] w (FL (Iq a b c d) w):=by
 unfold FL;have HWF:=qd (show(Iq a b c d).wf from⟨by simp[Iq],by simp[Iq];decide,by simp[Iq],h1,h2,h3,h4⟩);have HB0:=qd (bx2 w (.cells #[.int .u64 a,.int .u64 b,.int .u64 c,.int .u64 d] 39) (.cells #[.slice none 0 0,.int .i64 0] 24));have hk:=Ad (w.alloc (.cells #[.int .u64 a,.int .u64 b,.int .u64 c,.int .u64 d] 39)) (.cells #[.slice none 0 0,.int .i64 0] 24);rw[World.size_alloc]at hk;have HK0:=qd hk;clear hk h1 h2 h3 h4;have HSZ:=qd (show ∀x,((w.alloc (.cells #[.int .u64 a,.int .u64 b,.int .u64 c,.int .u64 d] 39)).alloc (.cells #[.slice none 0 0,.int .i64 0] 24)).heap.size<=x↔w.heap.size+2<=x from fun x=>by simp);go_enter Tryz.func15,Tryz.ntmps15
 go_wp2_with (go_at_call 33;refine(IH (Iq a b c d) _ HWF.out rfl).mono ?_;rintro e w1 ⟨b1,rfl,ht,hb⟩;have HT:=qd ht;have HB:=qd (Below.step HB0.out hb);obtain⟨t1,t2,t3,t4⟩:=Bd (Ae hb HK0.out);clear ht hb)
 refine bodyPost_ret (v:=.agg #[.slice (some ⟨b1,0,none⟩) 1 1,.int .i64 0]) (by simp[results,Tryz.results15,go_sem,t1,t2]) rfl ?_;refine⟨b1,rfl,(HT.out.agree (fun x hx _=> ?_)).mono (fun x _ hx=> ?_),(HB.out.setCell (p:=⟨w.heap.size+1,0,none⟩) (by simp) _).setCell (p:=⟨w.heap.size+1,1,none⟩) (by simp) _⟩
 ·have hx:=(HSZ.out x).1 hx;exact(Below.heap_setCell _ _ _ _ (by show x≠w.heap.size+1;omega)).trans (Below.heap_setCell _ _ _ _ (by show x≠w.heap.size+1;omega))
 ·have hx:=(HSZ.out x).1 hx;show w.heap.size<=x;omega
set_option maxRecDepth 100000 in
set_option maxHeartbeats 3200000 in
theorem Xj (n:Nd) (K:Value) (L:Option Addr) (lc:Nat) (ks:List Lt) (S:Nat->Prop) (w:World) (hn:n.wf) (hL:ttL.row w S L ks) (hl:ks.length<=16777216) (FU:(ks.map fun t=>t.ls.length).sum<=16777216) (hkk:∀t∈ks,(∀l∈t.ls,l.nd.kids.length<=4294967296)/\(Aw (t.ls.map Ln.nd)).length<=4611686018427387904) (hok:okT n (ks.map Lt.tr)=true):
  Calls Tryz.prog 12 #[ndV n K,.slice L ks.length lc] w (TreePost (ofT n (ks.map Lt.tr)) w):=by
 have HB0:=qd (bx2 w (.cells #[.int .u8 n.kind,.int .u64 n.s0,.int .u64 n.s1,.int .u64 n.s2,.int .u64 n.s3,.string n.text,.int .i64 n.mn,.int .i64 n.mx,K] 42) (.cells #[.slice none 0 0,.int .i64 0] 24));have hk:=Ad (w.alloc (.cells #[.int .u8 n.kind,.int .u64 n.s0,.int .u64 n.s1,.int .u64 n.s2,.int .u64 n.s3,.string n.text,.int .i64 n.mn,.int .i64 n.mx,K] 42)) (.cells #[.slice none 0 0,.int .i64 0] 24);rw[World.size_alloc]at hk;have HK0:=qd hk;clear hk;have HC:=qd (Xg n K L lc ks S _ hn (hL.below HB0.out) hl FU hkk hok);clear hn hL FU hkk hok;unfold TreePost;go_enter Tryz.func12,Tryz.ntmps12
 go_wp2_with fail
 refine HC.out.mono ?_;rintro e w1 ⟨⟨A,c,ls,root⟩,he,htr,hto,hb⟩;simp only[Lt.val]at he;subst he;have HTR:=qd htr;have HTO:=qd hto;have HB1:=qd (Below.step HB0.out hb);have HK1:=qd (Ae hb HK0.out);have HZ:=qd (show w.heap.size+2<=w1.heap.size/\ ∀x,(((w.alloc (.cells #[.int .u8 n.kind,.int .u64 n.s0,.int .u64 n.s1,.int .u64 n.s2,.int .u64 n.s3,.string n.text,.int .i64 n.mn,.int .i64 n.mx,K] 42)).alloc (.cells #[.slice none 0 0,.int .i64 0] 24)).heap.size<=x↔w.heap.size+2<=x)from⟨by have:=hb.size;simp at this;omega,fun x=>by simp⟩);clear htr hto hb HB0 HK0 HC;have HN:=qd (Ad w1 (.cells #[.slice A ls.length c,.int .i64 root] 24));obtain⟨q1,q2,_,_⟩:=Bd HN.out;obtain⟨t1,t2,t3,t4⟩:=Bd (A7 (p:=.cells #[.slice A ls.length c,.int .i64 root] 24) HK1.out);go_wp2_with fail
 refine bodyPost_ret (v:=.agg #[.slice A ls.length c,.int .i64 root]) (by simp[results,Tryz.results12,go_sem,t1,t2]) rfl ?_;refine⟨⟨A,c,ls,root⟩,rfl,HTR.out,?_,?_⟩
 ·have h:=HTO.out.below (bx1 w1 (.cells #[.slice A ls.length c,.int .i64 root] 24));refine(h.agree (fun x hx _=> ?_)).mono (fun x _ hx=> ?_)
  ·have hx:=(HZ.out.2 x).1 hx;exact(Below.heap_setCell _ _ _ _ (by show x≠w.heap.size+1;omega)).trans (Below.heap_setCell _ _ _ _ (by show x≠w.heap.size+1;omega))
  ·have hx:=(HZ.out.2 x).1 hx;show w.heap.size<=x;omega
 ·exact((HB1.out.alloc (by have:=HZ.out.1;omega) _).setCell (p:=⟨w.heap.size+1,0,none⟩) (by simp) _).setCell (p:=⟨w.heap.size+1,1,none⟩) (by simp) _
def KD (T:Tr):Bool:=decide (T.nodes.length<=1000)&&(T.nodes.all fun n=>decide (n.kids.length<=1000))&&decide ((Aw T.nodes).length<=1000)
structure TX (w:World) (T:Tr) (t:Lt):Prop where
 inn:t.inn w (fun _=>True)
 tr:t.tr=T
 small:KD T=true
theorem TX.below {w w':World} {T:Tr} {t:Lt} (h:TX w T t) (hb:Below w.heap.size w w'):TX w' T t:=⟨h.inn.below hb,h.tr,h.small⟩
theorem TX.len {w:World} {T:Tr} {t:Lt} (h:TX w T t):t.ls.length<=1000/\(∀l∈t.ls,l.nd.kids.length<=1000)/\(Aw (t.ls.map Ln.nd)).length<=1000:=by
 have h1:=h.small;simp only[KD,Bool.and_eq_true,decide_eq_true_eq,List.all_eq_true]at h1;have h2:T.nodes=t.ls.map Ln.nd:=by rw[<-h.tr];rfl
 rw[h2]at h1;refine⟨by simpa using h1.1.1,fun l hl=>h1.1.2 _ (List.mem_map.2 ⟨l,hl,rfl⟩),h1.2⟩
theorem TX.leaf {w':World} {w:World} {n:Nd} {b:Nat} (h:TreeOwn w' (w.heap.size <= ·) ⟨some ⟨b,0,none⟩,1,[⟨n,none,0⟩],0⟩) (hs:KD ⟨[n],0⟩=true):TX w' ⟨[n],0⟩ ⟨some ⟨b,0,none⟩,1,[⟨n,none,0⟩],0⟩:=
 ⟨h.inn.mono (fun _ _ _=>trivial),rfl,hs⟩
theorem F8 (n:Nd) (ks:List Lt) (Ts:List Tr) (nb:Nat) (w:World) (hn:n.wf) (hh:w.heap[nb]?=some (.cells (ttL.all ks).toArray 24 (0,0))) (hT:ks.map Lt.tr=Ts) (hk:∀t∈ks,∃T,TX w T t) (hl:ks.length<=2) (hok:okT n Ts=true) (hs:KD (ofT n Ts)=true) (K:Value) (m lc:Nat) (hm:ks.length=m):
  Calls Tryz.prog 12 #[ndV n K,.slice (some ⟨nb,0,none⟩) m lc] w fun e w'=>∃v:Lt,e=.returned (.agg #[.slice v.A v.ls.length v.c,.int .i64 v.root])/\TX w' (ofT n Ts) v/\TreeOwn w' (fun _=>True) v/\Below w.heap.size w w':=by
 subst hT hm
 have hrow:ttL.row w (fun _=>True) (some ⟨nb,0,none⟩) ks:=⟨⟨Be hh,fun _ _ _=>trivial⟩,fun t ht=>by
  obtain⟨T,h⟩:=hk t ht;exact h.inn⟩
 have FU:(ks.map fun t=>t.ls.length).sum<=16777216:=by
  have h1:∀x∈(ks.map fun t=>t.ls.length),x<=1000:=fun x hx=>by
   obtain⟨t,ht,rfl⟩:=List.mem_map.1 hx;obtain⟨T,h⟩:=hk t ht;exact h.len.1
  match ks,hl,h1 with
  |[],_,_=>simp
  |[a],_,h1=>have h2:=h1 a.ls.length (by simp);simp;omega
  |[a,b],_,h1=>have h2:=h1 a.ls.length (by simp);have h3:=h1 b.ls.length (by simp);simp;omega
 refine(Xj n K (some ⟨nb,0,none⟩) lc ks _ w hn hrow (by omega) FU (fun t ht=> ?_) hok).mono ?_
 ·obtain⟨T,h⟩:=hk t ht;have h2:=h.len;exact⟨fun l hl=>by have:=h2.2.1 l hl;omega,by have:=h2.2.2;omega⟩
 ·rintro e w' ⟨v,rfl,htr,hto,hb⟩;exact⟨v,rfl,⟨hto.inn.mono (fun _ _ _=>trivial),htr,hs⟩,hto.mono (fun _ _ _=>trivial),hb⟩
theorem Ju {w:World} {T:Tr} {t:Lt} (h:TX w T t) (hp:PTabs w) {l:List UInt8} (hl:BX T=l):Calls Tryz.prog 6 #[.agg #[.slice t.A t.ls.length t.c,.int .i64 t.root]] w fun e w'=>e=.returned (.string ⟨l.toArray⟩)/\Below w.heap.size w w':=by
 have h1:=Rs t _ w h.inn (by have:=h.len.1;omega) hp;rw[h.tr,hl]at h1;exact h1
def LS (t:Lt):Prop:=t.ls.length<=3000/\ ∀l∈t.ls,l.nd.kids.length<=3000
def VN (ks:List Lt) (w:World) (e:Ending) (w':World):Prop:=∃r,e=.returned (.bool r)/\(r=false-> ∀t∈ks,LS t)/\Below w.heap.size w w'
def Xk (w:World) (ks:List Lt) (i n:Value) (wr:World):Prop:=∃p nn:Nat,p<=ks.length/\i=.int .i64 p/\n=.int .i64 nn/\nn<=9000/\Hid (nn<3000-> ∀t∈ks.take p,LS t)/\Hid (Below w.heap.size w wr)
def XD (w:World) (ks:List Lt) (p:Nat) (ls:List Ln) (i n:Value) (wr:World):Prop:=∃q nn:Nat,q<=ls.length/\i=.int .i64 q/\n=.int .i64 nn/\nn<=9000/\Hid (nn<3000->q<=nn/\(∀t∈ks.take p,LS t)/\ ∀l∈ls.take q,l.nd.kids.length<=3000)/\Hid (Below w.heap.size w wr)
set_option maxRecDepth 100000 in
set_option maxHeartbeats 12800000 in
theorem VO (ks:List Lt) (L:Option Addr) (lc:Nat) (S:Nat->Prop) (w:World) (hL:ttL.row w S L ks) (hl:ks.length<=100000):
  Calls Tryz.prog 5 #[.slice L ks.length lc] w (VN ks w):=by
 have HL:=qd hL;clear hL;go_enter Tryz.func5,Tryz.ntmps5
 go_wp2_with fail
 go_loopw [4,3] (fun i n wr=>Xk w ks i n wr) (fun i _ _=>ks.length-(intOf i).toNat)
 case atStart=>exact⟨0,0,Nat.zero_le _,rfl,rfl,by omega,qd (by simp),qd (Below.refl _ _)⟩
 case round=>
  obtain⟨p,nn,hp,rfl,rfl,hn,HS,HB⟩:=hrel;by_cases hgo:p<ks.length/\nn<3000
  ·obtain⟨hp1,hn1⟩:=hgo;have i1:(p:Int)<(ks.length:Int):=by omega
   have i2:(0:Int)<=(p:Int):=by omega
   have i3:(nn:Int)<3000:=by omega
   obtain⟨b,o,hLL,_,_,x0,x1⟩:=Uq (HL.out.below HB.out) p hp1;subst hLL
   have HXX:=qd (show ∀w',Below w.heap.size w w'->w'.cell? ⟨b,o+p*2,none⟩=some (.slice ks[p].A ks[p].ls.length ks[p].c)from fun w' h=>by
    obtain⟨b',o',e,_,_,h0,_⟩:=Uq (HL.out.below h) p hp1;cases e;exact h0)
   have HIN:=qd (show ∀w',Below w.heap.size w w'->Lt.inn w' S ks[p]from fun w' hb=>(HL.out.below hb).sub p hp1);have HTK:=qd (show ks.take (p+1)=ks.take p++[ks[p]]from List.take_succ_eq_append_getElem hp1);generalize ks[p]=t at *;obtain⟨A,c,ls,root⟩:=t;simp only at HXX x0 x1;clear x0 x1;go_wp2_with fail
   go_loopw [5,3] (fun i n wx=>XD w ks p ls i n wx) (fun i _ _=>ls.length-(intOf i).toNat)
   case atStart=>exact⟨0,nn+1,Nat.zero_le _,rfl,by go_num,by omega,qd (fun h=>⟨Nat.zero_le _,HS.out (by omega),by simp⟩),HB⟩
   case round=>
    clear HS HB hn i3 hn1;obtain⟨q,n2,hq,rfl,rfl,hn2,HS2,HB⟩:=hrel;have x0:=HXX.out wr HB.out;by_cases hgo2:q<ls.length/\n2<3000
    ·obtain⟨hq1,hn3⟩:=hgo2;have j1:(q:Int)<(ls.length:Int):=by omega
     have j2:(0:Int)<=(q:Int):=by omega
     have j3:(n2:Int)<3000:=by omega
     have HSN:=qd (HIN.out wr HB.out).2;have hll:ls.length<=281474976710656:=(HIN.out wr HB.out).1;obtain⟨nb,no,hnb,_,_,v0,v1,v2,v3,v4,v5,v6,v7,v8⟩:=D3 HSN.out q hq1;have hts:=(HSN.out.sub q hq1).1.2.1;have hkl:=(HSN.out.sub q hq1).1.2.2.1;have HTN:=qd (show ls.take (q+1)=ls.take q++[ls[q]]from List.take_succ_eq_append_getElem hq1);generalize ls[q]=nd at *;simp only at hnb;rw[hnb]at x0;have hw0:IntKind.i64.wrap ((n2:Int)+1)=(n2:Int)+1:=IntWalk.i64_in _ (by omega);have hw1:IntKind.i64.wrap ((n2:Int)+1+min 3000 (nd.nd.kids.length:Int))=(n2:Int)+1+min 3000 (nd.nd.kids.length:Int):=IntWalk.i64_in _ (by omega);obtain⟨n3,hn3'⟩:∃n3:Nat,(n3:Int)=(n2:Int)+1+min 3000 (nd.nd.kids.length:Int)+min 3000 (nd.nd.text.size:Int)/20:=⟨n2+1+min 3000 nd.nd.kids.length+min 3000 nd.nd.text.size/20,by omega⟩;have hb3:n3<=9000:=by omega
     have HFX:=qd (show n3<3000->n2<3000/\n2+1<=n3/\nd.nd.kids.length<=3000 from fun h=>by omega);have HN3:=qd hn3';clear hn3'
     as_aux_lemma=>
      go_wp2_with fail
      go_quiet (fail)
      clear hw0 hw1;rw[<-HN3.out];go_wp2_with fail
      refine⟨⟨q+1,n3,by omega,by go_num,rfl,hb3,qd (fun h=> ?_),qd (HB.out.trans ((Nz (Below.refl _ _) _).mono HB.out.size))⟩,by simp only[intOf];omega⟩;have h3:=HFX.out h;have h2:=HS2.out h3.1;refine⟨by omega,h2.2.1,fun l hl=> ?_⟩;rw[HTN.out]at hl;rcases List.mem_append.1 hl with hl|hl
      ·exact h2.2.2 l hl
      ·simp only[List.mem_singleton]at hl;subst hl;exact h3.2.2
    ·have HNX:=qd (show n2<3000-> ∀t∈ks.take (p+1),LS t from fun h=>by
      have h2:=HS2.out h;have hqq:q=ls.length:=by omega
      intro t ht;rw[HTK.out]at ht;rcases List.mem_append.1 ht with ht|ht
      ·exact h2.2.1 t ht
      ·simp only[List.mem_singleton]at ht;subst ht;exact⟨by show ls.length<=3000;omega,fun l hl=>h2.2.2 l (by rw[hqq,List.take_length];exact hl)⟩)
     by_cases hq1:q<ls.length
     ·have j1:(q:Int)<(ls.length:Int):=by omega
      have j3:¬(n2:Int)<3000:=by omega
      as_aux_lemma=>
       go_wp2_with fail
       exact⟨⟨p+1,n2,by omega,by go_num,rfl,hn2,HNX,HB⟩,by simp only[intOf];omega⟩
     ·have j1:¬(q:Int)<(ls.length:Int):=by omega
      as_aux_lemma=>
       go_wp2_with fail
       exact⟨⟨p+1,n2,by omega,by go_num,rfl,hn2,HNX,HB⟩,by simp only[intOf];omega⟩
  ·by_cases hp1:p<ks.length
   ·have i1:(p:Int)<(ks.length:Int):=by omega
    have i3:¬(nn:Int)<3000:=by omega
    have i4:(3000:Int)<=(nn:Int):=by omega
    as_aux_lemma=>
     go_wp2_with fail
     go_ret;exact⟨true,rfl,(fun h=>by cases h),HB.out⟩
   ·have hpe:p=ks.length:=by omega
    have HSE:=qd (show nn<3000-> ∀t∈ks,LS t from fun h=>by
     have h2:=HS.out h;rw[hpe,List.take_length]at h2;exact h2)
    have i1:¬(p:Int)<(ks.length:Int):=by omega
    clear HS hpe;by_cases hn1:nn<3000
    ·have i3:(nn:Int)<3000:=by omega
     have i4:¬(3000:Int)<=(nn:Int):=by omega
     as_aux_lemma=>
      go_wp2_with fail
      go_ret;exact⟨false,rfl,fun _=>HSE.out hn1,HB.out⟩
    ·have i3:¬(nn:Int)<3000:=by omega
     have i4:(3000:Int)<=(nn:Int):=by omega
     as_aux_lemma=>
      go_wp2_with fail
      go_ret;exact⟨true,rfl,(fun h=>by cases h),HB.out⟩
end Go.Proofs.YtdnochjajoiooaaGreatDoor
