/- Plain data of trees, rules and grammars, and the plain laws of layer 4: no program in sight. -/
import Derived.Test.YtdnochjajoiooaaDoorPn
import Derived.WalkKit
import Derived.Below
namespace Go.Proofs.YtdnochjajoiooaaDoor
open Go.RowKit
structure Nd where
 kind:Int
 s0:Int
 s1:Int
 s2:Int
 s3:Int
 text:ByteArray
 mn:Int
 mx:Int
 kids:List Int
deriving DecidableEq
structure Tr where
 nodes:List Nd
 root:Int
deriving DecidableEq
structure Df where
 name:ByteArray
 body:Tr
deriving DecidableEq
def noSet (n:Nd):Bool:=decide (n.s0=0∧n.s1=0∧n.s2=0∧n.s3=0)
def noText (n:Nd):Bool:=decide (n.text.size=0)
def noNum (n:Nd):Bool:=decide (n.mn=0∧n.mx=0)
def fitN (n:Nd) (k:Int):Bool:=
 if n.kind=0 then noSet n&&noText n&&noNum n&&decide (k=0)
 else if n.kind=1 then noText n&&noNum n&&decide (k=0)
 else if n.kind=2 then noSet n&&noNum n&&decide (k=0)&&decide (1≤n.text.size∧n.text.size≤255)
 else if n.kind=3 then noSet n&&noNum n&&decide (k=0)&&mayL n.text.data.toList
 else if n.kind=4 then noSet n&&noText n&&noNum n&&decide (2≤k)
 else if n.kind=5 then noSet n&&noText n&&noNum n&&decide (2≤k)
 else if n.kind=6 then noSet n&&noText n&&decide (k=1)&&decide (0≤n.mn∧n.mn≤99∧(n.mx = -1∨(n.mn≤n.mx∧n.mx≤99)))
 else if n.kind=7 then noSet n&&noText n&&noNum n&&decide (k=1)
 else if n.kind=8 then noSet n&&noText n&&noNum n&&decide (k=1)
 else if n.kind=9 then noSet n&&noNum n&&decide (k=1)&&mayL n.text.data.toList
 else false
def kidsOf (l:List Nd):List Int:=l.flatMap Nd.kids
def ndOk (i:Nat) (n:Nd):Bool:=fitN n n.kids.length&&n.kids.all fun k=>decide (0≤k∧k<(i:Int))
def rightP (t:Tr):Prop:=
 (0≤t.root∧t.root<(t.nodes.length:Int))∧(∀i n,t.nodes[i]?=some n→ndOk i n=true) ∧
  ∀i,i<t.nodes.length→(kidsOf t.nodes).count (i:Int)=if (i:Int)=t.root then 0 else 1
def rightT (t:Tr):Bool:=
 decide (0≤t.root∧t.root<(t.nodes.length:Int))&&((List.range t.nodes.length).all fun i=>(t.nodes[i]?.map (ndOk i)).getD true) &&
  (List.range t.nodes.length).all fun i=>(kidsOf t.nodes).count (i:Int)==if (i:Int)=t.root then 0 else 1
theorem rightT_iff (t:Tr):rightT t=true↔rightP t:=by
 simp only[rightT,rightP,Bool.and_eq_true,decide_eq_true_eq,List.all_eq_true,List.mem_range,and_assoc]
 refine⟨fun⟨h1,h2,h3,h4⟩=>⟨h1,h2,fun i n hn=> ?_,fun i hi=>by simpa using h4 i hi⟩,fun⟨h1,h2,h3,h4⟩=>⟨h1,h2,fun i hi=> ?_,fun i hi=>by simpa using h4 i hi⟩⟩
 ·have hi:i<t.nodes.length:=(List.getElem?_eq_some_iff.1 hn).1
  have:=h3 i hi
  rw[hn]at this;simpa using this
 ·rw[List.getElem?_eq_getElem hi]
  simpa using h3 i _ (List.getElem?_eq_getElem hi)
def kidsAt (l:List Nd) (i:Nat):List Nat:=((l[i]?.map Nd.kids).getD []).map Int.toNat
def postF (l:List Nd):Nat→Nat→List Nat
 |0,i=>[i]
 |f+1,i=>(kidsAt l i).flatMap (postF l f)++[i]
def postN (l:List Nd) (i:Nat):List Nat:=postF l (i+1) i
def Ahead (l:List Nd):Prop:=∀i k,k∈kidsAt l i→k<i
theorem postF_stable {l:List Nd} (h:Ahead l):∀(f g i:Nat),i<f→i<g→postF l f i=postF l g i
 |0,_,_,hf,_=>by omega
 |_,0,_,_,hg=>by omega
 |f+1,g+1,i,hf,hg=>by
  simp only[postF]
  congr 1
  simp only[List.flatMap]
  congr 1
  exact List.map_congr_left fun k hk=>postF_stable h f g k (by have:=h i k hk;omega) (by have:=h i k hk;omega)
theorem postN_eq {l:List Nd} (h:Ahead l) (i:Nat):postN l i=(kidsAt l i).flatMap (postN l)++[i]:=by
 show(kidsAt l i).flatMap (postF l i)++[i]=_
 congr 1
 simp only[List.flatMap]
 congr 1
 exact List.map_congr_left fun k hk=>postF_stable h i (k+1) k (h i k hk) (by omega)
theorem rightP_kid {t:Tr} (h:rightP t) {i:Nat} {n:Nd} (hn:t.nodes[i]?=some n) {k:Int} (hk:k∈n.kids):0≤k∧k<(i:Int):=by
 have:=h.2.1 i n hn
 simp only[ndOk,Bool.and_eq_true,List.all_eq_true,decide_eq_true_eq]at this
 exact this.2 k hk
theorem rightP_fit {t:Tr} (h:rightP t) {i:Nat} {n:Nd} (hn:t.nodes[i]?=some n):fitN n n.kids.length=true:=by
 have:=h.2.1 i n hn
 simp only[ndOk,Bool.and_eq_true]at this
 exact this.1
theorem rightP_ahead {t:Tr} (h:rightP t):Ahead t.nodes:=fun i k hk=>by
 simp only[kidsAt,List.mem_map]at hk
 obtain⟨z,hz,rfl⟩:=hk
 cases e:t.nodes[i]? with
 |none=>rw[e]at hz;simp at hz
 |some n=>
  rw[e]at hz
  have:=rightP_kid h e (k:=z) (by simpa using hz)
  omega
theorem postN_le {l:List Nd} (h:Ahead l):∀i j,j∈postN l i→j≤i:=by
 intro i
 induction i using Nat.strongRecOn with
 |_ i ih=>
  intro j hj
  rw[postN_eq h]at hj
  rcases List.mem_append.1 hj with hj|hj
  ·obtain⟨k,hk,hj⟩:=List.mem_flatMap.1 hj
   have:=h i k hk
   have:=ih k this j hj
   omega
  ·simp at hj;omega
theorem sum_swap (c:Nat→Nat):∀(n:Nat) (L:List Nat),(∀k∈L,k<n)→(L.map c).sum=((List.range n).map fun k=>L.count k*c k).sum
 |n,[],_=>by
  simp only[List.map_nil,List.sum_nil,List.count_nil,Nat.zero_mul]
  induction List.range n with
  |nil=>rfl
  |cons _ _ ih=>simpa using ih
 |n,a::L,h=>by
  have ih:=sum_swap c n L (fun k hk=>h k (List.mem_cons_of_mem _ hk))
  have ha:=h a List.mem_cons_self
  rw[List.map_cons,List.sum_cons,ih]
  have:∀m,a<m→c a+((List.range m).map fun k=>L.count k*c k).sum=((List.range m).map fun k=>(a::L).count k*c k).sum:=by
   intro m
   induction m with
   |zero=>intro h;omega
   |succ m ihm=>
    intro hm
    rw[List.range_succ,List.map_append,List.map_append,List.sum_append,List.sum_append]
    simp only[List.map_cons,List.map_nil,List.sum_cons,List.sum_nil,Nat.add_zero]
    by_cases e:a=m
    ·subst e
     have e0:((List.range a).map fun k=>(a::L).count k*c k)=(List.range a).map fun k=>L.count k*c k:=by
      refine List.map_congr_left fun k hk=> ?_
      have:k<a:=List.mem_range.1 hk
      rw[List.count_cons_of_ne (by omega)]
     rw[e0,List.count_cons_self,Nat.add_mul,Nat.one_mul];omega
    ·have:=ihm (by omega)
     rw[←this,List.count_cons_of_ne e];omega
  exact this n ha
theorem root_sum (n root:Nat) (ks:Nat→List Nat) (c d:Nat→Nat) (hroot:root<n) (hk:∀i,i<n→ ∀k∈ks i,k<n)
  (hc:∀i,i<n→c i=d i+((ks i).map c).sum) (hdeg:∀k,k<n→((List.range n).flatMap ks).count k=if k=root then 0 else 1):c root=((List.range n).map d).sum:=by
 have h1:((List.range n).map c).sum=((List.range n).map d).sum+(((List.range n).flatMap ks).map c).sum:=by
  have:∀L:List Nat,(∀i∈L,i<n)→(L.map c).sum=(L.map d).sum+((L.flatMap ks).map c).sum:=by
   intro L
   induction L with
   |nil=>intro _;rfl
   |cons a L ih=>
    intro h
    have ih:=ih (fun i hi=>h i (List.mem_cons_of_mem _ hi))
    simp only[List.map_cons,List.sum_cons,List.flatMap_cons,List.map_append,List.sum_append]
    rw[hc a (h a List.mem_cons_self),ih];omega
  exact this _ (fun i hi=>List.mem_range.1 hi)
 have h2:=sum_swap c n ((List.range n).flatMap ks) (fun k hk'=>by
  obtain⟨i,hi,hk'⟩:=List.mem_flatMap.1 hk'
  exact hk i (List.mem_range.1 hi) k hk')
 have h3:∀m,m≤n→((List.range m).map c).sum=((List.range m).map fun k=>((List.range n).flatMap ks).count k*c k).sum+if root<m then c root else 0:=by
  intro m
  induction m with
  |zero=>intro _;simp
  |succ m ihm=>
   intro hm
   rw[List.range_succ,List.map_append,List.map_append,List.sum_append,List.sum_append,ihm (by omega)]
   simp only[List.map_cons,List.map_nil,List.sum_cons,List.sum_nil,Nat.add_zero]
   rw[hdeg m (by omega)]
   by_cases e:m=root
   ·subst e;simp
   ·simp only[if_neg e,Nat.one_mul]
    by_cases e2:root<m
    ·rw[if_pos e2,if_pos (by omega)];omega
    ·rw[if_neg e2,if_neg (by omega)];omega
 have:=h3 n (Nat.le_refl _)
 rw[if_pos hroot]at this
 rw[h1,h2]at this
 omega
theorem kidsAt_flat (l:List Nd) (h:∀n∈l,∀k∈n.kids,0≤k) (j:Nat):((List.range l.length).flatMap (kidsAt l)).count j=(kidsOf l).count (j:Int):=by
 have e:(List.range l.length).flatMap (kidsAt l)=(kidsOf l).map Int.toNat:=by
  rw[kidsOf,List.map_flatMap]
  have:∀m,m≤l.length→(List.range m).flatMap (kidsAt l)=(l.take m).flatMap fun n=>n.kids.map Int.toNat:=by
   intro m
   induction m with
   |zero=>intro _;simp
   |succ m ih=>
    intro hm
    rw[List.range_succ,List.flatMap_append,ih (by omega),List.take_succ_eq_append_getElem (by omega),List.flatMap_append]
    simp[kidsAt,List.getElem?_eq_getElem (show m<l.length by omega)]
  have h2:=this l.length (Nat.le_refl _)
  rw[List.take_length]at h2
  exact h2
 rw[e,List.count_eq_countP,List.count_eq_countP,List.countP_map]
 have hk:∀k∈kidsOf l,0≤k:=fun k hk=>by
  obtain⟨n,hn,hk⟩:=List.mem_flatMap.1 hk
  exact h n hn k hk
 refine List.countP_congr fun k hk'=> ?_
 have:=hk k hk'
 simp only[Function.comp_apply,beq_iff_eq]
 omega
theorem count_flatMap' (j:Nat) (g:Nat→List Nat):∀L:List Nat,(L.flatMap g).count j=(L.map fun k=>(g k).count j).sum
 |[]=>rfl
 |a::L=>by rw[List.flatMap_cons,List.count_append,count_flatMap' j g L];rfl
theorem post_count {t:Tr} (h:rightP t) (i j:Nat) (hi:i<t.nodes.length):(postN t.nodes i).count j≤1:=by
 have hA:=rightP_ahead h
 by_cases hj:j<t.nodes.length
 ·have hroot:t.root.toNat<t.nodes.length:=by have:=h.1;omega
  have hkn:∀n∈t.nodes,∀k∈n.kids,0≤k:=fun n hn k hk=>by
   obtain⟨i,hi⟩:=List.mem_iff_getElem?.1 hn
   exact(rightP_kid h hi hk).1
  have hdeg:∀k,k<t.nodes.length→((List.range t.nodes.length).flatMap (kidsAt t.nodes)).count k=if k=t.root.toNat then 0 else 1:=fun k hk=>by
   rw[kidsAt_flat _ hkn,h.2.2 k hk]
   have:=h.1
   by_cases e:(k:Int)=t.root
   ·rw[if_pos e,if_pos (by omega)]
   ·rw[if_neg e,if_neg (by omega)]
  have hc:∀i,(postN t.nodes i).count j=(if i=j then 1 else 0)+((kidsAt t.nodes i).map fun k=>(postN t.nodes k).count j).sum:=fun i=>by
   rw[postN_eq hA,List.count_append,count_flatMap',List.count_singleton]
   simp only[beq_iff_eq];omega
  have hr:=root_sum t.nodes.length t.root.toNat (kidsAt t.nodes) (fun i=>(postN t.nodes i).count j) (fun i=>if i=j then 1 else 0) hroot
   (fun i hi k hk=>by have:=hA i k hk;omega) (fun i _=>hc i) hdeg
  have h1:((List.range t.nodes.length).map fun i=>if i=j then 1 else 0).sum≤1:=by
   have:∀m,((List.range m).map fun i=>if i=j then 1 else 0).sum=if j<m then 1 else 0:=by
    intro m
    induction m with
    |zero=>rfl
    |succ m ih=>
     rw[List.range_succ,List.map_append,List.sum_append,ih]
     simp only[List.map_cons,List.map_nil,List.sum_cons,List.sum_nil,Nat.add_zero]
     by_cases e:m=j
     ·subst e;simp
     ·by_cases e2:j<m
      ·rw[if_pos e2,if_neg e,if_pos (by omega)]
      ·rw[if_neg e2,if_neg e,if_neg (by omega)]
   rw[this];split <;> omega
  have up:∀d i,t.nodes.length-i=d→i<t.nodes.length→(postN t.nodes i).count j≤(postN t.nodes t.root.toNat).count j:=by
   intro d
   induction d using Nat.strongRecOn with
   |_ d ih=>
    intro i hd hi
    by_cases e:i=t.root.toNat
    ·subst e;exact Nat.le_refl _
    ·have h2:=hdeg i hi
     rw[if_neg e]at h2
     have h3:i∈(List.range t.nodes.length).flatMap (kidsAt t.nodes):=List.count_pos_iff.1 (by omega)
     obtain⟨p,hp,hik⟩:=List.mem_flatMap.1 h3
     have hp':p<t.nodes.length:=List.mem_range.1 hp
     have hlt:=hA p i hik
     have h4:=ih (t.nodes.length-p) (by omega) p rfl hp'
     have h5:=hc p
     have h6:(postN t.nodes i).count j≤((kidsAt t.nodes p).map fun k=>(postN t.nodes k).count j).sum:=by
      have:∀L:List Nat,i∈L→(postN t.nodes i).count j≤(L.map fun k=>(postN t.nodes k).count j).sum:=by
       intro L
       induction L with
       |nil=>intro h;cases h
       |cons a L ihL=>
        intro h
        simp only[List.map_cons,List.sum_cons]
        rcases List.mem_cons.1 h with rfl|h
        ·omega
        ·have:=ihL h;omega
      exact this _ hik
     omega
  have:=up _ i rfl hi
  omega
 ·rw[List.count_eq_zero.2 (fun hm=> ?_)]
  ·omega
  ·have:=postN_le hA i j hm
   omega
theorem post_nodup {t:Tr} (h:rightP t) (i:Nat) (hi:i<t.nodes.length):(postN t.nodes i).Nodup:=
 List.nodup_iff_count.2 fun j=>post_count h i j hi
theorem nodup_length {l:List Nat} {n:Nat} (h:l.Nodup) (hn:∀k∈l,k<n):l.length≤n:=by
 have:=List.Nodup.length_le_of_subset h (l₂:=List.range n) (fun k hk=>List.mem_range.2 (hn k hk))
 simpa using this
theorem post_length {t:Tr} (h:rightP t) (i:Nat) (hi:i<t.nodes.length):(postN t.nodes i).length≤t.nodes.length:=
 nodup_length (post_nodup h i hi) fun k hk=>by have:=postN_le (rightP_ahead h) i k hk;omega
def placed (post:List Nat) (n:Nd):Nd:={n with kids:=n.kids.map fun k=>(post.idxOf k.toNat:Int)}
def ndAt (l:List Nd) (i:Nat):Nd:=(l[i]?).getD ⟨0,0,0,0,0,⟨#[]⟩,0,0,[]⟩
def takenL (l:List Nd) (i:Nat):List Nd:=(postN l i).map fun p=>placed (postN l i) (ndAt l p)
def takenT (t:Tr) (i:Nat):Tr:=⟨takenL t.nodes i,((postN t.nodes i).length:Int)-1⟩
def sameT (a b:Tr):Bool:=rightT a&&rightT b&&decide (takenL a.nodes a.root.toNat=takenL b.nodes b.root.toNat)
theorem root_length {t:Tr} (h:rightP t):(postN t.nodes t.root.toNat).length=t.nodes.length:=by
 have hA:=rightP_ahead h
 have hkn:∀n∈t.nodes,∀k∈n.kids,0≤k:=fun n hn k hk=>by
  obtain⟨i,hi⟩:=List.mem_iff_getElem?.1 hn
  exact(rightP_kid h hi hk).1
 have hdeg:∀k,k<t.nodes.length→((List.range t.nodes.length).flatMap (kidsAt t.nodes)).count k=if k=t.root.toNat then 0 else 1:=fun k hk=>by
  rw[kidsAt_flat _ hkn,h.2.2 k hk]
  have:=h.1
  by_cases e:(k:Int)=t.root
  ·rw[if_pos e,if_pos (by omega)]
  ·rw[if_neg e,if_neg (by omega)]
 have len_flat:∀L:List Nat,(L.flatMap (postN t.nodes)).length=(L.map fun k=>(postN t.nodes k).length).sum:=by
  intro L
  induction L with
  |nil=>rfl
  |cons a L ih=>simp only[List.flatMap_cons,List.length_append,ih,List.map_cons,List.sum_cons]
 have:=root_sum t.nodes.length t.root.toNat (kidsAt t.nodes) (fun i=>(postN t.nodes i).length) (fun _=>1) (by have:=h.1;omega)
  (fun i hi k hk=>by have:=hA i k hk;omega) (fun i _=>by rw[postN_eq hA,List.length_append,len_flat];simp;omega) hdeg
 have one:∀m,((List.range m).map fun _=>1).sum=m:=fun m=>by
  induction m with
  |zero=>rfl
  |succ m ih=>rw[List.range_succ,List.map_append,List.sum_append,ih];rfl
 exact Eq.trans this (one _)
theorem sameT_symm {a b:Tr} (h:sameT a b=true):sameT b a=true:=by
 simp only[sameT,Bool.and_eq_true,decide_eq_true_eq]at h ⊢
 exact⟨⟨h.1.2,h.1.1⟩,h.2.symm⟩
theorem sameT_trans {a b c:Tr} (h:sameT a b=true) (k:sameT b c=true):sameT a c=true:=by
 simp only[sameT,Bool.and_eq_true,decide_eq_true_eq]at h k ⊢
 exact⟨⟨h.1.1,k.1.2⟩,h.2.trans k.2⟩
theorem walk_start {l:List Nd} (i:Nat):[i].flatMap (postN l)++([]:List Nat).reverse=postN l i:=by simp
theorem walk_step {l:List Nd} (h:Ahead l) {o:List Nat} {i j:Nat} {seen:List Nat} (e:(o++[i]).flatMap (postN l)++seen.reverse=postN l j):
  (o++kidsAt l i).flatMap (postN l)++(seen++[i]).reverse=postN l j:=by
 rw[←e]
 simp only[List.flatMap_append,List.flatMap_cons,List.flatMap_nil,List.append_nil,List.reverse_append,List.reverse_cons,List.reverse_nil,List.nil_append]
 rw[postN_eq h i]
 simp
theorem walk_end {l:List Nd} {j:Nat} {seen:List Nat} (e:([]:List Nat).flatMap (postN l)++seen.reverse=postN l j):seen.reverse=postN l j:=by simpa using e
theorem postN_ne (l:List Nd) (i:Nat):1≤(postN l i).length:=by show 1≤(postF l (i+1) i).length;simp[postF]
theorem flat_le (l:List Nd):∀o:List Nat,o.length≤(o.flatMap (postN l)).length
 |[]=>Nat.le_refl _
 |a::o=>by
  have:=flat_le l o;have:=postN_ne l a
  simp only[List.flatMap_cons,List.length_append,List.length_cons];omega
theorem walk_bound {l:List Nd} {o seen:List Nat} {j:Nat} (e:o.flatMap (postN l)++seen.reverse=postN l j):o.length+seen.length≤(postN l j).length:=by
 have:=flat_le l o
 rw[←e,List.length_append,List.length_reverse];omega
theorem walk_mem {l:List Nd} {o seen:List Nat} {j:Nat} (h:Ahead l) (e:o.flatMap (postN l)++seen.reverse=postN l j):(∀k∈o,k≤j)∧ ∀k∈seen,k≤j:=by
 refine⟨fun k hk=>postN_le h j k ?_,fun k hk=>postN_le h j k ?_⟩
 ·rw[←e,List.mem_append];left
  exact List.mem_flatMap.2 ⟨k,hk,by rw[postN_eq h];simp⟩
 ·rw[←e,List.mem_append];right;simpa using hk
end Go.Proofs.YtdnochjajoiooaaDoor
/- Rows of structs in memory,and what hangs on them:which blocks they lie in. No program in sight. -/
namespace Go.Proofs.YtdnochjajoiooaaDoor
open Go.RowKit
def Agree (S:Nat→Prop) (w w':World):Prop:=∀k,S k→k<w.heap.size→w'.heap[k]?=w.heap[k]?
theorem Agree.mono {S T:Nat→Prop} {w w':World} (h:Agree S w w') (hS:∀k,k<w.heap.size→T k→S k):Agree T w w':=fun k hk hl=>h k (hS k hl hk) hl
theorem Agree.refl (S:Nat→Prop) (w:World):Agree S w w:=fun _ _ _=>rfl
theorem Agree.trans {S:Nat→Prop} {a b c:World} (h:Agree S a b) (k:Agree S b c) (hs:a.heap.size≤b.heap.size):Agree S a c:=fun i hi hl=>(k i hi (by omega)).trans (h i hi hl)
theorem below_all {S:Nat→Prop} {w w':World} (h:Below w.heap.size w w'):Agree S w w':=fun k _ hl=>h.block k hl
def RowIn (w:World) (S:Nat→Prop) (A:Option Addr) (xs:List Value):Prop:=RowAt w A xs∧(xs≠[]→ ∀ad,A=some ad→S ad.block)
theorem RowIn.lt {w:World} {S:Nat→Prop} {A:Option Addr} {xs:List Value} (h:RowIn w S A xs) (hx:xs≠[]):∃ad,A=some ad∧S ad.block∧ad.block<w.heap.size:=by
 cases xs with
 |nil=>exact absurd rfl hx
 |cons u r=>
  obtain⟨ad,e,hc⟩:=h.1 0 u rfl
  have:=cellLt hc
  rw[add_block]at this
  exact⟨ad,e,h.2 hx ad e,this⟩
theorem RowIn.agree {w w':World} {S:Nat→Prop} {A:Option Addr} {xs:List Value} (h:RowIn w S A xs) (hg:Agree S w w'):RowIn w' S A xs:=
 ⟨fun j u hu=>by
  obtain⟨ad,e,hc⟩:=h.1 j u hu
  refine⟨ad,e,?_⟩
  have hl:=cellLt hc
  have hs:=h.2 (fun e=>by rw[e]at hu;simp at hu) ad e
  rw[←hc]
  exact World.cell?_of_block (hg _ (by rw[add_block];exact hs) hl),h.2⟩
theorem RowIn.mono {w:World} {S T:Nat→Prop} {A:Option Addr} {xs:List Value} (h:RowIn w S A xs) (hS:∀k,k<w.heap.size→S k→T k):RowIn w T A xs:=
 ⟨h.1,fun hx ad e=>by
  obtain⟨ad',e',h1,h2⟩:=h.lt hx
  rw[e]at e';cases e'
  exact hS _ h2 h1⟩
theorem RowIn.nil (w:World) (S:Nat→Prop) (A:Option Addr):RowIn w S A []:=⟨fun j u hu=>by simp at hu,fun h=>absurd rfl h⟩
theorem own_rowIn {w:World} {base:Nat} {e:TypeId} {size n c:Nat} {A:Option Addr} {xs:List Value} {S:Nat→Prop} (h:w.ownsRow base e size (.slice A n c) n xs) (hS:∀ad,A=some ad→S ad.block):RowIn w S A xs:=
 ⟨RowAt.own h,fun _=>hS⟩
structure Lay (α:Type) where
 size:Nat
 cells:α→List Value
 len:∀x,(cells x).length=size
 one:∀x,∀u∈cells x,u.oneCell'=true
 inn:World→(Nat→Prop)→α→Prop
 agree:∀{w w':World} {S:Nat→Prop} {x:α},inn w S x→Agree S w w'→inn w' S x
 mono:∀{w:World} {S T:Nat→Prop} {x:α},inn w S x→(∀k,k<w.heap.size→S k→T k)→inn w T x
section
variable {α:Type} (L:Lay α)
def Lay.all (l:List α):List Value:=l.flatMap L.cells
@[simp] theorem Lay.all_nil:L.all []=[]:=rfl
theorem Lay.all_append (l m:List α):L.all (l++m)=L.all l++L.all m:=by simp[Lay.all]
theorem Lay.all_one (x:α):L.all [x]=L.cells x:=by simp[Lay.all]
theorem Lay.all_length (l:List α):(L.all l).length=l.length*L.size:=by
 induction l with
 |nil=>simp
 |cons x l ih=>
  have e:L.all (x::l)=L.cells x++L.all l:=by simp[Lay.all]
  rw[e,List.length_append,L.len,ih,List.length_cons,Nat.add_mul];omega
theorem Lay.all_one' (l:List α):∀u∈L.all l,u.oneCell'=true:=fun u hu=>by
 obtain⟨x,_,hu⟩:=List.mem_flatMap.1 hu
 exact L.one x u hu
theorem Lay.all_at (l:List α) (i j:Nat) (hi:i<l.length) (hj:j<L.size):(L.all l)[i*L.size+j]?=(L.cells l[i])[j]? :=by
 induction l generalizing i with
 |nil=>simp at hi
 |cons x l ih=>
  have e:L.all (x::l)=L.cells x++L.all l:=by simp[Lay.all]
  rw[e]
  cases i with
  |zero=>rw[Nat.zero_mul,Nat.zero_add,List.getElem?_append_left (by rw[L.len];exact hj)];rfl
  |succ i=>
   rw[List.getElem?_append_right (by rw[L.len,Nat.add_mul];omega),L.len]
   rw[show(i+1)*L.size+j-L.size=i*L.size+j by rw[Nat.add_mul];omega]
   simp only[List.length_cons]at hi
   rw[ih i (by omega)];rfl
def Lay.row (w:World) (S:Nat→Prop) (A:Option Addr) (l:List α):Prop:=RowIn w S A (L.all l)∧ ∀x∈l,L.inn w S x
variable {L}
theorem Lay.row.agree {w w':World} {S:Nat→Prop} {A:Option Addr} {l:List α} (h:L.row w S A l) (hg:Agree S w w'):L.row w' S A l:=⟨h.1.agree hg,fun x hx=>L.agree (h.2 x hx) hg⟩
theorem Lay.row.mono {w:World} {S T:Nat→Prop} {A:Option Addr} {l:List α} (h:L.row w S A l) (hS:∀k,k<w.heap.size→S k→T k):L.row w T A l:=⟨h.1.mono hS,fun x hx=>L.mono (h.2 x hx) hS⟩
theorem Lay.row.below {w w':World} {S:Nat→Prop} {A:Option Addr} {l:List α} (h:L.row w S A l) (hg:Below w.heap.size w w'):L.row w' S A l:=h.agree (below_all hg)
theorem Lay.row.nil (w:World) (S:Nat→Prop) (A:Option Addr):L.row w S A []:=⟨RowIn.nil _ _ _,by simp⟩
theorem Lay.row.rowAt {w:World} {S:Nat→Prop} {A:Option Addr} {l:List α} (h:L.row w S A l):RowAt w A (L.all l):=h.1.1
theorem Lay.row.at {w:World} {S:Nat→Prop} {A:Option Addr} {l:List α} (h:L.row w S A l) (h0:0<L.size) (i:Nat) (hi:i<l.length):
  ∃b o,A=some ⟨b,o,none⟩∧S b∧b<w.heap.size∧ ∀j u,(L.cells l[i])[j]?=some u→w.cell? ⟨b,o+(i*L.size+j),none⟩=some u:=by
 have hne:L.all l≠[]:=fun e=>by
  have h1:=L.all_length l
  rw[e,List.length_nil]at h1
  have:=Nat.mul_pos (show 0<l.length by omega) h0
  omega
 obtain⟨ad,rfl,hS,hlt⟩:=h.1.lt hne
 obtain⟨b,o,sp⟩:=ad
 have hsp:sp=none:=by
  have hu:∃u,(L.all l)[0]?=some u:=by
   cases e:L.all l with
   |nil=>exact absurd e hne
   |cons u r=>exact⟨u,rfl⟩
  obtain⟨u,hu⟩:=hu
  obtain⟨_,e,hc⟩:=h.1.1 0 u hu
  cases e
  cases sp with
  |none=>rfl
  |some x=>
   rw[Addr.add_zero']at hc
   unfold World.cell? at hc
   split at hc <;> simp at hc
 subst hsp
 refine⟨b,o,rfl,hS,hlt,fun j u hu=> ?_⟩
 have hj:j<L.size:=by have:=(List.getElem?_eq_some_iff.1 hu).1;rwa [L.len]at this
 obtain⟨_,e,hc⟩:=h.1.1 (i*L.size+j) u ((L.all_at l i j hi hj).trans hu)
 cases e
 rw[Addr.add_lit]at hc
 exact hc
theorem Lay.row.sub {w:World} {S:Nat→Prop} {A:Option Addr} {l:List α} (h:L.row w S A l) (i:Nat) (hi:i<l.length):L.inn w S l[i]:=h.2 _ (List.getElem_mem hi)
end
def intL:Lay Int where
 size:=1
 cells n:=[.int .i64 n]
 len _:=rfl
 one _ u hu:=by simp at hu;subst hu;rfl
 inn _ _ _:=True
 agree _ _:=trivial
 mono _ _:=trivial
theorem intL_all (l:List Int):intL.all l=l.map (Value.int .i64):=by
 induction l with
 |nil=>rfl
 |cons x l ih=>show Value.int .i64 x::intL.all l=_;rw[ih];rfl
theorem intRow {w:World} {S:Nat→Prop} {A:Option Addr} {l:List Int} (h:intL.row w S A l) (i:Nat) (hi:i<l.length):∃b o,A=some ⟨b,o,none⟩∧S b∧b<w.heap.size∧w.cell? ⟨b,o+i,none⟩=some (.int .i64 l[i]):=by
 obtain⟨b,o,e,hS,hl,hc⟩:=h.at (by decide) i hi
 refine⟨b,o,e,hS,hl,?_⟩
 have:=hc 0 _ rfl
 simpa[intL]using this
structure Ln where
 nd:Nd
 A:Option Addr
 c:Nat
abbrev Ln.kv (n:Ln):Value:=.slice n.A n.nd.kids.length n.c
abbrev ndV (n:Nd) (K:Value):Value:=.agg #[.int .u8 n.kind,.int .u64 n.s0,.int .u64 n.s1,.int .u64 n.s2,.int .u64 n.s3,.string n.text,.int .i64 n.mn,.int .i64 n.mx,K]
abbrev Ln.val (n:Ln):Value:=ndV n.nd n.kv
def U64 (z:Int):Prop:=0≤z∧z<18446744073709551616
def Nd.wf (n:Nd):Prop:=(0≤n.kind∧n.kind≤255)∧n.text.size≤281474976710656∧n.kids.length≤281474976710656∧U64 n.s0∧U64 n.s1∧U64 n.s2∧U64 n.s3
def ndL:Lay Ln where
 size:=9
 cells n:=[.int .u8 n.nd.kind,.int .u64 n.nd.s0,.int .u64 n.nd.s1,.int .u64 n.nd.s2,.int .u64 n.nd.s3,.string n.nd.text,.int .i64 n.nd.mn,.int .i64 n.nd.mx,n.kv]
 len _:=rfl
 one _ u hu:=by
  simp only[List.mem_cons,List.not_mem_nil,or_false]at hu
  rcases hu with rfl|rfl|rfl|rfl|rfl|rfl|rfl|rfl|rfl <;> rfl
 inn w S n:=n.nd.wf∧intL.row w S n.A n.nd.kids
 agree h hg:=⟨h.1,h.2.agree hg⟩
 mono h hS:=⟨h.1,h.2.mono hS⟩
theorem ndRow {w:World} {S:Nat→Prop} {A:Option Addr} {l:List Ln} (h:ndL.row w S A l) (i:Nat) (hi:i<l.length):
  ∃b o,A=some ⟨b,o,none⟩∧S b∧b<w.heap.size∧w.cell? ⟨b,o+i*9,none⟩=some (.int .u8 l[i].nd.kind)∧w.cell? ⟨b,o+i*9+1,none⟩=some (.int .u64 l[i].nd.s0)∧w.cell? ⟨b,o+i*9+2,none⟩=some (.int .u64 l[i].nd.s1) ∧
   w.cell? ⟨b,o+i*9+3,none⟩=some (.int .u64 l[i].nd.s2)∧w.cell? ⟨b,o+i*9+4,none⟩=some (.int .u64 l[i].nd.s3)∧w.cell? ⟨b,o+i*9+5,none⟩=some (.string l[i].nd.text) ∧
   w.cell? ⟨b,o+i*9+6,none⟩=some (.int .i64 l[i].nd.mn)∧w.cell? ⟨b,o+i*9+7,none⟩=some (.int .i64 l[i].nd.mx)∧w.cell? ⟨b,o+i*9+8,none⟩=some (.slice l[i].A l[i].nd.kids.length l[i].c):=by
 obtain⟨b,o,e,hS,hl,hc⟩:=h.at (by decide) i hi
 have hc:∀j u,(ndL.cells l[i])[j]?=some u→w.cell? ⟨b,o+i*9+j,none⟩=some u:=fun j u hu=>by rw[Nat.add_assoc];exact hc j u hu
 exact⟨b,o,e,hS,hl,hc 0 _ rfl,hc 1 _ rfl,hc 2 _ rfl,hc 3 _ rfl,hc 4 _ rfl,hc 5 _ rfl,hc 6 _ rfl,hc 7 _ rfl,hc 8 _ rfl⟩
structure Lt where
 A:Option Addr
 c:Nat
 ls:List Ln
 root:Int
def Lt.tr (t:Lt):Tr:=⟨t.ls.map Ln.nd,t.root⟩
abbrev Lt.val (t:Lt):Value:=.agg #[.slice t.A t.ls.length t.c,.int .i64 t.root]
def Lt.inn (w:World) (S:Nat→Prop) (t:Lt):Prop:=t.ls.length≤281474976710656∧ndL.row w S t.A t.ls
theorem Lt.inn.agree {w w':World} {S:Nat→Prop} {t:Lt} (h:t.inn w S) (hg:Agree S w w'):t.inn w' S:=⟨h.1,h.2.agree hg⟩
theorem Lt.inn.mono {w:World} {S T:Nat→Prop} {t:Lt} (h:t.inn w S) (hS:∀k,k<w.heap.size→S k→T k):t.inn w T:=⟨h.1,h.2.mono hS⟩
theorem Lt.inn.below {w w':World} {S:Nat→Prop} {t:Lt} (h:t.inn w S) (hg:Below w.heap.size w w'):t.inn w' S:=Lt.inn.agree h (below_all hg)
structure Ld where
 name:ByteArray
 t:Lt
def Ld.df (d:Ld):Df:=⟨d.name,d.t.tr⟩
abbrev Ld.val (d:Ld):Value:=.agg #[.string d.name,.slice d.t.A d.t.ls.length d.t.c,.int .i64 d.t.root]
def dfL:Lay Ld where
 size:=3
 cells d:=[.string d.name,.slice d.t.A d.t.ls.length d.t.c,.int .i64 d.t.root]
 len _:=rfl
 one _ u hu:=by
  simp only[List.mem_cons,List.not_mem_nil,or_false]at hu
  rcases hu with rfl|rfl|rfl <;> rfl
 inn w S d:=d.name.size≤281474976710656∧d.t.inn w S
 agree h hg:=⟨h.1,h.2.agree hg⟩
 mono h hS:=⟨h.1,h.2.mono hS⟩
theorem dfRow {w:World} {S:Nat→Prop} {A:Option Addr} {l:List Ld} (h:dfL.row w S A l) (i:Nat) (hi:i<l.length):
  ∃b o,A=some ⟨b,o,none⟩∧S b∧b<w.heap.size∧w.cell? ⟨b,o+i*3,none⟩=some (.string l[i].name)∧w.cell? ⟨b,o+i*3+1,none⟩=some (.slice l[i].t.A l[i].t.ls.length l[i].t.c)∧w.cell? ⟨b,o+i*3+2,none⟩=some (.int .i64 l[i].t.root):=by
 obtain⟨b,o,e,hS,hl,hc⟩:=h.at (by decide) i hi
 have hc:∀j u,(dfL.cells l[i])[j]?=some u→w.cell? ⟨b,o+i*3+j,none⟩=some u:=fun j u hu=>by rw[Nat.add_assoc];exact hc j u hu
 exact⟨b,o,e,hS,hl,hc 0 _ rfl,hc 1 _ rfl,hc 2 _ rfl⟩
theorem dfSub {w:World} {S:Nat→Prop} {A:Option Addr} {l:List Ld} (h:dfL.row w S A l) (i:Nat) (hi:i<l.length):l[i].t.inn w S:=(h.sub i hi).2
theorem ndWf {w:World} {S:Nat→Prop} {A:Option Addr} {l:List Ln} (h:ndL.row w S A l) (i:Nat) (hi:i<l.length):l[i].nd.wf:=(h.sub i hi).1
theorem ndSub {w:World} {S:Nat→Prop} {A:Option Addr} {l:List Ln} (h:ndL.row w S A l) (i:Nat) (hi:i<l.length):intL.row w S l[i].A l[i].nd.kids:=(h.sub i hi).2
structure Le where
 kind:Int
 d:Ld
abbrev Le.val (e:Le):Value:=.agg #[.int .u8 e.kind,.string e.d.name,.slice e.d.t.A e.d.t.ls.length e.d.t.c,.int .i64 e.d.t.root]
end Go.Proofs.YtdnochjajoiooaaDoor
/- The plain laws of layer 30 (diffs):no program in sight. -/
namespace Go.Proofs.YtdnochjajoiooaaDoor
open Go.RowKit
def sameD (x y:Df):Bool:=decide (x.name=y.name)&&sameT x.body y.body
theorem sameD_symm (x y:Df):sameD x y=sameD y x:=by
 have:∀x y,sameD x y=true→sameD y x=true:=fun x y h=>by
  simp only[sameD,Bool.and_eq_true,decide_eq_true_eq]at h ⊢
  exact⟨h.1.symm,sameT_symm h.2⟩
 rw[Bool.eq_iff_iff];exact⟨this x y,this y x⟩
theorem sameD_trans {x y z:Df} (h:sameD x y=true) (k:sameD y z=true):sameD x z=true:=by
 simp only[sameD,Bool.and_eq_true,decide_eq_true_eq]at h k ⊢
 exact⟨h.1.trans k.1,sameT_trans h.2 k.2⟩
end Go.Proofs.YtdnochjajoiooaaDoor
/- Plain laws of diffs:turned about,by way of a third one,of a row and itself. -/
namespace Go.Proofs.YtdnochjajoiooaaDoor
set_option linter.unusedSimpArgs false
set_option linter.unusedVariables false
inductive Al:List Df→List Df→Nat→Prop
 |nil:Al [] [] 0
 |del (x:Df) {a b:List Df} {n:Nat} (h:Al a b n):Al (x::a) b (n+1)
 |ins (y:Df) {a b:List Df} {n:Nat} (h:Al a b n):Al a (y::b) (n+1)
 |keep {x y:Df} {a b:List Df} {n:Nat} (hs:sameD x y=true) (h:Al a b n):Al (x::a) (y::b) n
theorem Al.symm {a b:List Df} {n:Nat} (h:Al a b n):Al b a n:=by
 induction h with
 |nil=>exact .nil
 |del x _ ih=>exact .ins x ih
 |ins y _ ih=>exact .del y ih
 |keep hs _ ih=>exact .keep (by rw[sameD_symm];exact hs) ih
theorem Al.trans (N:Nat):∀(a b c:List Df) (n m:Nat),a.length+b.length+c.length≤N→Al a b n→Al b c m→ ∃k,k≤n+m∧Al a c k:=by
 induction N with
 |zero=>
  intro a b c n m h h1 h2
  obtain rfl:a=[]:=List.eq_nil_of_length_eq_zero (by omega)
  obtain rfl:c=[]:=List.eq_nil_of_length_eq_zero (by omega)
  exact⟨0,by omega,.nil⟩
 |succ N ih=>
  intro a b c n m h h1 h2
  cases h1 with
  |nil=>exact⟨m,by omega,h2⟩
  |@del x a _ n h1=>
   simp only[List.length_cons]at h
   obtain⟨k,hk,hA⟩:=ih a b c n m (by omega) h1 h2
   exact⟨k+1,by omega,.del x hA⟩
  |@ins y _ b n h1=>
   simp only[List.length_cons]at h
   cases h2 with
   |@del _ _ _ m h2=>
    obtain⟨k,hk,hA⟩:=ih a b c n m (by omega) h1 h2
    exact⟨k,by omega,hA⟩
   |@ins z _ c m h2=>
    simp only[List.length_cons]at h
    obtain⟨k,hk,hA⟩:=ih a (y::b) c (n+1) m (by simp only[List.length_cons];omega) (.ins y h1) h2
    exact⟨k+1,by omega,.ins z hA⟩
   |@keep _ z _ c m hs h2=>
    simp only[List.length_cons]at h
    obtain⟨k,hk,hA⟩:=ih a b c n m (by omega) h1 h2
    exact⟨k+1,by omega,.ins z hA⟩
  |@keep x y a b n hs h1=>
   simp only[List.length_cons]at h
   cases h2 with
   |@del _ _ _ m h2=>
    obtain⟨k,hk,hA⟩:=ih a b c n m (by omega) h1 h2
    exact⟨k+1,by omega,.del x hA⟩
   |@ins z _ c m h2=>
    simp only[List.length_cons]at h
    obtain⟨k,hk,hA⟩:=ih (x::a) (y::b) c n m (by simp only[List.length_cons];omega) (.keep hs h1) h2
    exact⟨k+1,by omega,.ins z hA⟩
   |@keep _ z _ c m hs2 h2=>
    simp only[List.length_cons]at h
    obtain⟨k,hk,hA⟩:=ih a b c n m (by omega) h1 h2
    exact⟨k,by omega,.keep (sameD_trans hs hs2) hA⟩
end Go.Proofs.YtdnochjajoiooaaDoor
