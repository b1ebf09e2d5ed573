/- The contracts of tree.Set, and of a node and its kids as the examples of layer 8 put them together. -/
import Derived.Test.YtdnochjajoiooaaDoorRc
import Derived.Test.YtdnochjajoiooaaDoorIo
import Derived.Test.YtdnochjajoiooaaDoorGo
namespace Go.Proofs.YtdnochjajoiooaaDoor
open Go.RowKit
set_option linter.unusedSimpArgs false
set_option linter.unusedVariables false
def setLf (a b c d:Int):Nd:=⟨1,a,b,c,d,⟨#[]⟩,0,0,[]⟩
set_option maxRecDepth 100000 in
set_option maxHeartbeats 1600000 in
theorem tset_any (a b c d:Int) (w:World) (h1:U64 a) (h2:U64 b) (h3:U64 c) (h4:U64 d):
  Calls Tryd.prog 8 #[.agg #[.int .u64 a,.int .u64 b,.int .u64 c,.int .u64 d]] w (LeafPost (setLf a b c d) w):=by
 unfold LeafPost
 have HWF:=Lib.hid (show(setLf a b c d).wf from⟨by simp[setLf],by simp[setLf];decide,by simp[setLf],h1,h2,h3,h4⟩)
 have HB0:=Lib.hid (bx2 w (.cells #[.int .u64 a,.int .u64 b,.int .u64 c,.int .u64 d] 31) (.cells #[.slice none 0 0,.int .i64 0] 25))
 have hk:=bx_new (w.alloc (.cells #[.int .u64 a,.int .u64 b,.int .u64 c,.int .u64 d] 31)) (.cells #[.slice none 0 0,.int .i64 0] 25)
 rw[World.size_alloc]at hk
 have HK0:=Lib.hid hk
 clear hk h1 h2 h3 h4
 have HSZ:=Lib.hid (show ∀x,((w.alloc (.cells #[.int .u64 a,.int .u64 b,.int .u64 c,.int .u64 d] 31)).alloc (.cells #[.slice none 0 0,.int .i64 0] 25)).heap.size≤x↔w.heap.size+2≤x from fun x=>by simp)
 go_enter Tryd.func8,Tryd.ntmps8
 go_wp2_with (go_at_call 30;refine(leaf_any (setLf a b c d) _ HWF.out rfl).mono ?_;rintro e w1 ⟨b1,rfl,ht,hb⟩;have HT:=Lib.hid ht;have HB:=Lib.hid (Below.step HB0.out hb);obtain⟨t1,t2,t3,t4⟩:=blk2 (bx_kept hb HK0.out);clear ht hb)
 refine bodyPost_ret (v:=.agg #[.slice (some ⟨b1,0,none⟩) 1 1,.int .i64 0]) (by simp[results,Tryd.results8,go_sem,t1,t2]) rfl ?_
 refine⟨b1,rfl,(HT.out.agree (fun x hx _=> ?_)).mono (fun x _ hx=> ?_),(HB.out.setCell (p:=⟨w.heap.size+1,0,none⟩) (by simp) _).setCell (p:=⟨w.heap.size+1,1,none⟩) (by simp) _⟩
 ·have hx:=(HSZ.out x).1 hx
  exact(Below.heap_setCell _ _ _ _ (by show x≠w.heap.size+1;omega)).trans (Below.heap_setCell _ _ _ _ (by show x≠w.heap.size+1;omega))
 ·have hx:=(HSZ.out x).1 hx
  show w.heap.size≤x;omega
set_option maxRecDepth 100000 in
set_option maxHeartbeats 3200000 in
theorem of8_any (n:Nd) (K:Value) (L:Option Addr) (lc:Nat) (ks:List Lt) (S:Nat→Prop) (w:World) (hn:n.wf) (hL:ttL.row w S L ks) (hl:ks.length≤16777216) (hsum:(ks.map fun t=>t.ls.length).sum≤16777216) (hkk:∀t∈ks,(∀l∈t.ls,l.nd.kids.length≤4294967296)∧(kidsOf (t.ls.map Ln.nd)).length≤4611686018427387904) (hok:okT n (ks.map Lt.tr)=true):
  Calls Tryd.prog 10 #[ndV n K,.slice L ks.length lc] w (TreePost (ofT n (ks.map Lt.tr)) w):=by
 have HB0:=Lib.hid (bx2 w (.cells #[.int .u8 n.kind,.int .u64 n.s0,.int .u64 n.s1,.int .u64 n.s2,.int .u64 n.s3,.string n.text,.int .i64 n.mn,.int .i64 n.mx,K] 35) (.cells #[.slice none 0 0,.int .i64 0] 25))
 have hk:=bx_new (w.alloc (.cells #[.int .u8 n.kind,.int .u64 n.s0,.int .u64 n.s1,.int .u64 n.s2,.int .u64 n.s3,.string n.text,.int .i64 n.mn,.int .i64 n.mx,K] 35)) (.cells #[.slice none 0 0,.int .i64 0] 25)
 rw[World.size_alloc]at hk
 have HK0:=Lib.hid hk;clear hk
 have HC:=Lib.hid (rof_any n K L lc ks S _ hn (hL.below HB0.out) hl hsum hkk hok)
 clear hn hL hsum hkk hok
 unfold TreePost
 go_enter Tryd.func10,Tryd.ntmps10
 go_wp2_with fail
 refine HC.out.mono ?_
 rintro e w1 ⟨⟨A,c,ls,root⟩,he,htr,hto,hb⟩
 simp only[Lt.val]at he;subst he
 have HTR:=Lib.hid htr;have HTO:=Lib.hid hto;have HB1:=Lib.hid (Below.step HB0.out hb);have HK1:=Lib.hid (bx_kept hb HK0.out)
 have HZ:=Lib.hid (show w.heap.size+2≤w1.heap.size∧ ∀x,(((w.alloc (.cells #[.int .u8 n.kind,.int .u64 n.s0,.int .u64 n.s1,.int .u64 n.s2,.int .u64 n.s3,.string n.text,.int .i64 n.mn,.int .i64 n.mx,K] 35)).alloc (.cells #[.slice none 0 0,.int .i64 0] 25)).heap.size≤x↔w.heap.size+2≤x)from⟨by have:=hb.size;simp at this;omega,fun x=>by simp⟩)
 clear htr hto hb HB0 HK0 HC
 have HN:=Lib.hid (bx_new w1 (.cells #[.slice A ls.length c,.int .i64 root] 25))
 obtain⟨q1,q2,_,_⟩:=blk2 HN.out
 obtain⟨t1,t2,t3,t4⟩:=blk2 (bx_old (p:=.cells #[.slice A ls.length c,.int .i64 root] 25) HK1.out)
 go_wp2_with fail
 refine bodyPost_ret (v:=.agg #[.slice A ls.length c,.int .i64 root]) (by simp[results,Tryd.results10,go_sem,t1,t2]) rfl ?_
 refine⟨⟨A,c,ls,root⟩,rfl,HTR.out,?_,?_⟩
 ·have h:=HTO.out.below (bx1 w1 (.cells #[.slice A ls.length c,.int .i64 root] 25))
  refine(h.agree (fun x hx _=> ?_)).mono (fun x _ hx=> ?_)
  ·have hx:=(HZ.out.2 x).1 hx
   exact(Below.heap_setCell _ _ _ _ (by show x≠w.heap.size+1;omega)).trans (Below.heap_setCell _ _ _ _ (by show x≠w.heap.size+1;omega))
  ·have hx:=(HZ.out.2 x).1 hx
   show w.heap.size≤x;omega
 ·exact((HB1.out.alloc (by have:=HZ.out.1;omega) _).setCell (p:=⟨w.heap.size+1,0,none⟩) (by simp) _).setCell (p:=⟨w.heap.size+1,1,none⟩) (by simp) _
def smallTx (T:Tr):Bool:=decide (T.nodes.length≤1000)&&(T.nodes.all fun n=>decide (n.kids.length≤1000))&&decide ((kidsOf T.nodes).length≤1000)
structure TX (w:World) (T:Tr) (t:Lt):Prop where
 inn:t.inn w (fun _=>True)
 tr:t.tr=T
 small:smallTx T=true
theorem TX.below {w w':World} {T:Tr} {t:Lt} (h:TX w T t) (hb:Below w.heap.size w w'):TX w' T t:=⟨h.inn.below hb,h.tr,h.small⟩
theorem TX.len {w:World} {T:Tr} {t:Lt} (h:TX w T t):t.ls.length≤1000∧(∀l∈t.ls,l.nd.kids.length≤1000)∧(kidsOf (t.ls.map Ln.nd)).length≤1000:=by
 have h1:=h.small
 simp only[smallTx,Bool.and_eq_true,decide_eq_true_eq,List.all_eq_true]at h1
 have h2:T.nodes=t.ls.map Ln.nd:=by rw[←h.tr];rfl
 rw[h2]at h1
 refine⟨by simpa using h1.1.1,fun l hl=>h1.1.2 _ (List.mem_map.2 ⟨l,hl,rfl⟩),h1.2⟩
theorem TX.leaf {w':World} {w:World} {n:Nd} {b:Nat} (h:TreeOwn w' (w.heap.size ≤ ·) ⟨some ⟨b,0,none⟩,1,[⟨n,none,0⟩],0⟩) (hs:smallTx ⟨[n],0⟩=true):TX w' ⟨[n],0⟩ ⟨some ⟨b,0,none⟩,1,[⟨n,none,0⟩],0⟩:=
 ⟨h.inn.mono (fun _ _ _=>trivial),rfl,hs⟩
theorem of8_row (n:Nd) (ks:List Lt) (Ts:List Tr) (nb:Nat) (w:World) (hn:n.wf) (hh:w.heap[nb]?=some (.cells (ttL.all ks).toArray 25 (0,0))) (hT:ks.map Lt.tr=Ts) (hk:∀t∈ks,∃T,TX w T t) (hl:ks.length≤2) (hok:okT n Ts=true) (hs:smallTx (ofT n Ts)=true) (K:Value) (m lc:Nat) (hm:ks.length=m):
  Calls Tryd.prog 10 #[ndV n K,.slice (some ⟨nb,0,none⟩) m lc] w fun e w'=>∃v:Lt,e=.returned (.agg #[.slice v.A v.ls.length v.c,.int .i64 v.root])∧TX w' (ofT n Ts) v∧TreeOwn w' (fun _=>True) v∧Below w.heap.size w w':=by
 subst hT hm
 have hrow:ttL.row w (fun _=>True) (some ⟨nb,0,none⟩) ks:=⟨⟨row_blk hh,fun _ _ _=>trivial⟩,fun t ht=>by
  obtain⟨T,h⟩:=hk t ht;exact h.inn⟩
 have hsum:(ks.map fun t=>t.ls.length).sum≤16777216:=by
  have h1:∀x∈(ks.map fun t=>t.ls.length),x≤1000:=fun x hx=>by
   obtain⟨t,ht,rfl⟩:=List.mem_map.1 hx
   obtain⟨T,h⟩:=hk t ht;exact h.len.1
  match ks,hl,h1 with
  |[],_,_=>simp
  |[a],_,h1=>have h2:=h1 a.ls.length (by simp);simp;omega
  |[a,b],_,h1=>have h2:=h1 a.ls.length (by simp);have h3:=h1 b.ls.length (by simp);simp;omega
 refine(of8_any n K (some ⟨nb,0,none⟩) lc ks _ w hn hrow (by omega) hsum (fun t ht=> ?_) hok).mono ?_
 ·obtain⟨T,h⟩:=hk t ht
  have h2:=h.len
  exact⟨fun l hl=>by have:=h2.2.1 l hl;omega,by have:=h2.2.2;omega⟩
 ·rintro e w' ⟨v,rfl,htr,hto,hb⟩
  exact⟨v,rfl,⟨hto.inn.mono (fun _ _ _=>trivial),htr,hs⟩,hto.mono (fun _ _ _=>trivial),hb⟩
theorem ptree_tx {w:World} {T:Tr} {t:Lt} (h:TX w T t) (hp:PTabs w) {l:List UInt8} (hl:treeB T=l):Calls Tryd.prog 11 #[.agg #[.slice t.A t.ls.length t.c,.int .i64 t.root]] w fun e w'=>e=.returned (.string ⟨l.toArray⟩)∧Below w.heap.size w w':=by
 have h1:=ptree_t t _ w h.inn (by have:=h.len.1;omega) hp
 rw[h.tr,hl]at h1
 exact h1
end Go.Proofs.YtdnochjajoiooaaDoor
