/- append onto a row of the call's own: what is known of the new one, and of where it lies; slices.Reverse of it. -/
import Derived.Test.YtdnochjajoiooaaDoorPn
import Derived.Test.YtdnochjajoiooaaDoorQm
import Derived.Test.YtdnochjajoiooaaDoorShelf
import Derived.Test.YtdnochjajoiooaaDoorDj
import Derived.Maps.AppendAt
import Derived.Deep.RegionLaw
import Derived.Sort.OwnSortedInts
import Derived.Deep.RegionHeld3
namespace Go.Proofs.YtdnochjajoiooaaDoor
open Go.RowKit Go.Sort
end Go.Proofs.YtdnochjajoiooaaDoor
/- The contract of tree.behind. -/
namespace Go.Proofs.YtdnochjajoiooaaDoor
open Go.RowKit
set_option linter.unusedSimpArgs false
set_option linter.unusedVariables false
def natsV (l:List Nat):List Value:=l.map fun k:Nat=>Value.int .i64 (k:Int)
theorem natsV_length (l:List Nat):(natsV l).length=l.length:=by simp[natsV]
theorem natsV_one (l:List Nat):∀u∈natsV l,u.oneCell'=true:=fun u hu=>by
 obtain⟨k,_,rfl⟩:=List.mem_map.1 hu;rfl
theorem natsV_append (l m:List Nat):natsV (l++m)=natsV l++natsV m:=by simp[natsV]
theorem kids_nats (l:List Nd) (i:Nat) (hi:i<l.length) (h:∀k∈l[i].kids,0≤k):intL.all l[i].kids=natsV (kidsAt l i):=by
 rw[intL_all]
 simp only[natsV,kidsAt,List.getElem?_eq_getElem hi,Option.map_some,Option.getD_some,List.map_map]
 refine List.map_congr_left fun k hk=> ?_
 have:=h k hk
 simp only[Function.comp_apply]
 rw[show((k.toNat:Nat):Int)=k by omega]
theorem ndBlk {w:World} {S:Nat→Prop} {b o:Nat} {l:List Ln} (h:ndL.row w S (some ⟨b,o,none⟩) l) (hl:0<l.length):b<w.heap.size:=by
 obtain⟨b',o',e,_,hb,_⟩:=ndRow h 0 hl
 cases e;exact hb
def sliceLen:Value→Nat|.slice _ n _=>n|_=>0
end Go.Proofs.YtdnochjajoiooaaDoor
/- What a call owns of trees:rows of its own;and plain laws of the row of what stands behind a node. -/
namespace Go.Proofs.YtdnochjajoiooaaDoor
open Go.RowKit
set_option linter.unusedSimpArgs false
set_option linter.unusedVariables false
theorem flat_split {α β:Type} (f:α→List β):∀(L:List α) (pre:List β) (p:β) (suf:List β),L.flatMap f=pre++p::suf→ ∃L1 a L2 pre' suf',L=L1++a::L2∧f a=pre'++p::suf'∧pre=L1.flatMap f++pre'
 |[],pre,p,suf,h=>by simp at h
 |x::L,pre,p,suf,h=>by
  rw[List.flatMap_cons,List.append_eq_append_iff]at h
  rcases h with⟨a',h1,h2⟩|⟨c',h1,h2⟩
  ·obtain⟨L1,a,L2,pre',suf',e1,e2,e3⟩:=flat_split f L a' p suf h2
   exact⟨x::L1,a,L2,pre',suf',by rw[e1];rfl,e2,by rw[h1,e3,List.flatMap_cons,List.append_assoc]⟩
  ·cases c' with
   |nil=>
    simp only[List.nil_append]at h2
    obtain⟨L1,a,L2,pre',suf',e1,e2,e3⟩:=flat_split f L [] p suf (by simpa using h2.symm)
    refine⟨x::L1,a,L2,pre',suf',by rw[e1];rfl,e2,?_⟩
    rw[List.flatMap_cons,List.append_assoc,←e3,List.append_nil]
    simpa using h1.symm
   |cons c c'=>
    simp only[List.cons_append,List.cons.injEq]at h2
    exact⟨[],x,L,pre,c',rfl,by rw[h1,h2.1],by simp⟩
theorem kid_ahead {l:List Nd} (h:Ahead l):∀(i:Nat) (pre:List Nat) (p:Nat) (suf:List Nat),postN l i=pre++p::suf→ ∀z∈kidsAt l p,z∈pre:=by
 intro i
 induction i using Nat.strongRecOn with
 |_ i ih=>
  intro pre p suf e z hz
  rw[postN_eq h]at e
  rcases List.eq_nil_or_concat suf with rfl|⟨s',b,hs⟩
  ·have:=List.append_inj' e rfl
   obtain⟨e1,e2⟩:=this
   cases e2
   rw[←e1]
   exact List.mem_flatMap.2 ⟨z,hz,by rw[postN_eq h];simp⟩
  ·rw[List.concat_eq_append]at hs
   subst hs
   rw[show pre++p::(s'++[b])=(pre++p::s')++[b]by simp]at e
   obtain⟨e1,_⟩:=List.append_inj' e rfl
   obtain⟨L1,a,L2,pre',suf',e2,e3,e4⟩:=flat_split _ _ _ _ _ e1
   have ha:a∈kidsAt l i:=by rw[e2];simp
   have:=ih a (h i a ha) pre' p suf' e3 z hz
   rw[e4,List.mem_append]
   exact .inr this
theorem kid_before {l:List Nd} (h:Ahead l) {i k:Nat} (hk:k<(postN l i).length) {z:Nat} (hz:z∈kidsAt l (postN l i)[k]):∃j,j<k∧(postN l i)[j]?=some z:=by
 have e:postN l i=(postN l i).take k++(postN l i)[k]::(postN l i).drop (k+1):=by rw[←List.drop_eq_getElem_cons hk,List.take_append_drop]
 have hm:=kid_ahead h i _ _ _ e z hz
 obtain⟨j,hj,ej⟩:=List.mem_iff_getElem.1 hm
 rw[List.length_take]at hj
 refine⟨j,by omega,?_⟩
 rw[List.getElem_take]at ej
 rw[List.getElem?_eq_getElem (by omega),ej]
theorem idx_of {L:List Nat} (h:L.Nodup) {j z:Nat} (hj:L[j]?=some z):L.idxOf z=j:=by
 obtain⟨hl,e⟩:=List.getElem?_eq_some_iff.1 hj
 rw[←e]
 exact h.idxOf_getElem j hl
def OwnS (w:World) (S:Nat→Prop) (e:TypeId) (size:Nat) (V:Option Addr) (n c:Nat) (xs:List Value):Prop:=w.ownsRow 0 e size (.slice V n c) n xs∧ ∀k,blkOf V=some k→S k
theorem OwnS.agree {w w':World} {S:Nat→Prop} {e:TypeId} {size n c:Nat} {V:Option Addr} {xs:List Value} (h:OwnS w S e size V n c xs) (hg:Agree S w w'):OwnS w' S e size V n c xs:=
 ⟨own_agree h.1 fun k hk=>hg k (h.2 k hk) (own_blk h.1 k hk).2,h.2⟩
theorem OwnS.mono {w:World} {S T:Nat→Prop} {e:TypeId} {size n c:Nat} {V:Option Addr} {xs:List Value} (h:OwnS w S e size V n c xs) (hS:∀k,k<w.heap.size→S k→T k):OwnS w T e size V n c xs:=
 ⟨h.1,fun k hk=>hS k (own_blk h.1 k hk).2 (h.2 k hk)⟩
theorem own_ownS {w:World} {B:Nat} {e:TypeId} {size n c:Nat} {V:Option Addr} {xs:List Value} (h:w.ownsRow B e size (.slice V n c) n xs):OwnS w (B ≤ ·) e size V n c xs:=⟨own_mono h (Nat.zero_le _),fun k hk=>(own_blk h k hk).1⟩
theorem OwnS.own {w:World} {B:Nat} {e:TypeId} {size n c:Nat} {V:Option Addr} {xs:List Value} (h:OwnS w (B ≤ ·) e size V n c xs):w.ownsRow B e size (.slice V n c) n xs:=by
 refine⟨h.1.1,?_⟩
 rcases h.1.2 with h1|⟨g,cap,cur,hv,hb,r⟩
 ·exact .inl h1
 ·cases hv
  exact .inr ⟨g,_,cur,rfl,h.2 g rfl,r⟩
theorem OwnS.row {w:World} {S:Nat→Prop} {e:TypeId} {size n c:Nat} {V:Option Addr} {xs:List Value} (h:OwnS w S e size V n c xs):RowIn w S V xs:=
 own_rowIn h.1 fun ad e=>h.2 ad.block (by subst e;rfl)
theorem OwnS.nil (w:World) (S:Nat→Prop) (e:TypeId) (size:Nat):OwnS w S e size none 0 0 []:=⟨World.ownsRow_nil _ _ _ _,fun k hk=>by cases hk⟩
def NdOwn (w:World) (S:Nat→Prop) (l:Ln):Prop:=l.nd.wf∧OwnS w S 3 1 l.A l.nd.kids.length l.c (intL.all l.nd.kids)
theorem NdOwn.agree {w w':World} {S:Nat→Prop} {l:Ln} (h:NdOwn w S l) (hg:Agree S w w'):NdOwn w' S l:=⟨h.1,h.2.agree hg⟩
theorem NdOwn.mono {w:World} {S T:Nat→Prop} {l:Ln} (h:NdOwn w S l) (hS:∀k,k<w.heap.size→S k→T k):NdOwn w T l:=⟨h.1,h.2.mono hS⟩
theorem NdOwn.inn {w:World} {S:Nat→Prop} {l:Ln} (h:NdOwn w S l):ndL.inn w S l:=⟨h.1,h.2.row,fun x _=>trivial⟩
structure TreeOwn (w:World) (S:Nat→Prop) (t:Lt):Prop where
 len:t.ls.length≤281474976710656
 row:OwnS w S 35 9 t.A t.ls.length t.c (ndL.all t.ls)
 kids:∀l∈t.ls,NdOwn w S l
theorem TreeOwn.agree {w w':World} {S:Nat→Prop} {t:Lt} (h:TreeOwn w S t) (hg:Agree S w w'):TreeOwn w' S t:=⟨h.len,h.row.agree hg,fun l hl=>(h.kids l hl).agree hg⟩
theorem TreeOwn.mono {w:World} {S T:Nat→Prop} {t:Lt} (h:TreeOwn w S t) (hS:∀k,k<w.heap.size→S k→T k):TreeOwn w T t:=⟨h.len,h.row.mono hS,fun l hl=>(h.kids l hl).mono hS⟩
theorem TreeOwn.below {w w':World} {S:Nat→Prop} {t:Lt} (h:TreeOwn w S t) (hb:Below w.heap.size w w'):TreeOwn w' S t:=h.agree (below_all hb)
theorem TreeOwn.inn {w:World} {S:Nat→Prop} {t:Lt} (h:TreeOwn w S t):t.inn w S:=⟨h.len,h.row.row,fun l hl=>(h.kids l hl).inn⟩
set_option maxRecDepth 100000 in
set_option maxHeartbeats 800000 in
theorem build9 (w:World) (v0 v1 v2 v3 v4 v5 v6 v7 v8:Value):(Instr.buildSlice 23 1 #[(0,.agg #[v0,v1,v2,v3,v4,v5,v6,v7,v8])]).run Tryd.prog w=.ok (.slice (some ⟨w.heap.size,0,none⟩) 1 1) (w.alloc (.cells #[v0,v1,v2,v3,v4,v5,v6,v7,v8] 35)):=by
 go_simp
set_option maxRecDepth 100000 in
set_option maxHeartbeats 800000 in
theorem load9 (w:World) (b:Nat) (v0 v1 v2 v3 v4 v5 v6 v7 v8:Value) (T:TypeId) (h:w.heap[b]?=some (.cells #[v0,v1,v2,v3,v4,v5,v6,v7,v8] T (0,0))):(Instr.loadAt 35 (.pointer (some ⟨b,0,none⟩))).run Tryd.prog w=.ok (.agg #[v0,v1,v2,v3,v4,v5,v6,v7,v8]) w:=by
 obtain⟨h0,h1,h2,h3,h4,h5,h6,h7,h8,_⟩:=blk9 h
 go_simp
def TreePost (t:Tr) (w:World) (e:Ending) (w':World):Prop:=∃v:Lt,e=.returned v.val∧v.tr=t∧TreeOwn w' (w.heap.size ≤ ·) v∧Below w.heap.size w w'
end Go.Proofs.YtdnochjajoiooaaDoor
