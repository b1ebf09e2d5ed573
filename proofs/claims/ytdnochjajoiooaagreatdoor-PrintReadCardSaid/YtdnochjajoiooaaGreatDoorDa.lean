/- Plain data of trees, rules and grammars, and the plain laws of layer 4: no program in sight. -/
import Derived.Test.YtdnochjajoiooaaGreatDoorPn
import Derived.WalkKit
import Derived.Below
namespace Go.Proofs.YtdnochjajoiooaaGreatDoor
open Go.RowKit
structure Nd where
 kind:Int
 s0:Int
 s1:Int
 s2:Int
 s3:Int
 text:ByteArray
 mn:Int
 mx:Int
 kids:List Int
deriving DecidableEq
structure Tr where
 nodes:List Nd
 root:Int
deriving DecidableEq
structure Df where
 name:ByteArray
 body:Tr
deriving DecidableEq
def BQ (n:Nd):Bool:=decide (n.s0=0/\n.s1=0/\n.s2=0/\n.s3=0)
def Ay (n:Nd):Bool:=decide (n.text.size=0)
def Ah (n:Nd):Bool:=decide (n.mn=0/\n.mx=0)
def Am (n:Nd) (k:Int):Bool:=
 if n.kind=0 then BQ n&&Ay n&&Ah n&&decide (k=0)
 else if n.kind=1 then Ay n&&Ah n&&decide (k=0)
 else if n.kind=2 then BQ n&&Ah n&&decide (k=0)&&decide (1<=n.text.size/\n.text.size<=255)
 else if n.kind=3 then BQ n&&Ah n&&decide (k=0)&&Cb n.text.data.toList
 else if n.kind=4 then BQ n&&Ay n&&Ah n&&decide (2<=k)
 else if n.kind=5 then BQ n&&Ay n&&Ah n&&decide (2<=k)
 else if n.kind=6 then BQ n&&Ay n&&decide (k=1)&&decide (0<=n.mn/\n.mn<=99/\(n.mx = -1\/(n.mn<=n.mx/\n.mx<=99)))
 else if n.kind=7 then BQ n&&Ay n&&Ah n&&decide (k=1)
 else if n.kind=8 then BQ n&&Ay n&&Ah n&&decide (k=1)
 else if n.kind=9 then BQ n&&Ah n&&decide (k=1)&&Cb n.text.data.toList
 else false
def Aw (l:List Nd):List Int:=l.flatMap Nd.kids
def Ma (i:Nat) (n:Nd):Bool:=Am n n.kids.length&&n.kids.all fun k=>decide (0<=k/\k<(i:Int))
def Bv (t:Tr):Prop:=
 (0<=t.root/\t.root<(t.nodes.length:Int))/\(∀i n,t.nodes[i]?=some n->Ma i n=true) /\
  ∀i,i<t.nodes.length->(Aw t.nodes).count (i:Int)=if (i:Int)=t.root then 0 else 1
def AA (t:Tr):Bool:=
 decide (0<=t.root/\t.root<(t.nodes.length:Int))&&((List.range t.nodes.length).all fun i=>(t.nodes[i]?.map (Ma i)).getD true) &&
  (List.range t.nodes.length).all fun i=>(Aw t.nodes).count (i:Int)==if (i:Int)=t.root then 0 else 1
theorem AM (t:Tr):AA t=true↔Bv t:=by
 simp only[AA,Bv,Bool.and_eq_true,decide_eq_true_eq,List.all_eq_true,List.mem_range,and_assoc];refine⟨fun⟨h1,h2,h3,h4⟩=>⟨h1,h2,fun i n hn=> ?_,fun i hi=>by simpa using h4 i hi⟩,fun⟨h1,h2,h3,h4⟩=>⟨h1,h2,fun i hi=> ?_,fun i hi=>by simpa using h4 i hi⟩⟩
 ·have hi:i<t.nodes.length:=(List.getElem?_eq_some_iff.1 hn).1;have:=h3 i hi;rw[hn]at this;simpa using this
 ·rw[List.getElem?_eq_getElem hi];simpa using h3 i _ (List.getElem?_eq_getElem hi)
def Ab (l:List Nd) (i:Nat):List Nat:=((l[i]?.map Nd.kids).getD []).map Int.toNat
def Kb (l:List Nd):Nat->Nat->List Nat
 |0,i=>[i]
 |f+1,i=>(Ab l i).flatMap (Kb l f)++[i]
def Ak (l:List Nd) (i:Nat):List Nat:=Kb l (i+1) i
def AR (l:List Nd):Prop:=∀i k,k∈Ab l i->k<i
theorem IC {l:List Nd} (h:AR l):∀(f g i:Nat),i<f->i<g->Kb l f i=Kb l g i
 |0,_,_,hf,_=>by omega
 |_,0,_,_,hg=>by omega
 |f+1,g+1,i,hf,hg=>by
  simp only[Kb];congr 1;simp only[List.flatMap];congr 1;exact List.map_congr_left fun k hk=>IC h f g k (by have:=h i k hk;omega) (by have:=h i k hk;omega)
theorem AW {l:List Nd} (h:AR l) (i:Nat):Ak l i=(Ab l i).flatMap (Ak l)++[i]:=by
 show(Ab l i).flatMap (Kb l i)++[i]=_;congr 1;simp only[List.flatMap];congr 1;exact List.map_congr_left fun k hk=>IC h i (k+1) k (h i k hk) (by omega)
theorem Bw {t:Tr} (h:Bv t) {i:Nat} {n:Nd} (hn:t.nodes[i]?=some n) {k:Int} (hk:k∈n.kids):0<=k/\k<(i:Int):=by
 have:=h.2.1 i n hn;simp only[Ma,Bool.and_eq_true,List.all_eq_true,decide_eq_true_eq]at this;exact this.2 k hk
theorem DD {t:Tr} (h:Bv t) {i:Nat} {n:Nd} (hn:t.nodes[i]?=some n):Am n n.kids.length=true:=by
 have:=h.2.1 i n hn;simp only[Ma,Bool.and_eq_true]at this;exact this.1
theorem AE {t:Tr} (h:Bv t):AR t.nodes:=fun i k hk=>by
 simp only[Ab,List.mem_map]at hk;obtain⟨z,hz,rfl⟩:=hk;cases e:t.nodes[i]? with
 |none=>rw[e]at hz;simp at hz
 |some n=>
  rw[e]at hz;have:=Bw h e (k:=z) (by simpa using hz);omega
theorem Cr {l:List Nd} (h:AR l):∀i j,j∈Ak l i->j<=i:=by
 intro i;induction i using Nat.strongRecOn with
 |_ i ih=>
  intro j hj;rw[AW h]at hj;rcases List.mem_append.1 hj with hj|hj
  ·obtain⟨k,hk,hj⟩:=List.mem_flatMap.1 hj;have:=h i k hk;have:=ih k this j hj;omega
  ·simp at hj;omega
theorem Ok (c:Nat->Nat):∀(n:Nat) (L:List Nat),(∀k∈L,k<n)->(L.map c).sum=((List.range n).map fun k=>L.count k*c k).sum
 |n,[],_=>by
  simp only[List.map_nil,List.sum_nil,List.count_nil,Nat.zero_mul];induction List.range n with
  |nil=>rfl
  |cons _ _ ih=>simpa using ih
 |n,a::L,h=>by
  have ih:=Ok c n L (fun k hk=>h k (List.mem_cons_of_mem _ hk));have ha:=h a List.mem_cons_self;rw[List.map_cons,List.sum_cons,ih]
  have:∀m,a<m->c a+((List.range m).map fun k=>L.count k*c k).sum=((List.range m).map fun k=>(a::L).count k*c k).sum:=by
   intro m;induction m with
   |zero=>intro h;omega
   |succ m ihm=>
    intro hm;rw[List.range_succ,List.map_append,List.map_append,List.sum_append,List.sum_append];simp only[List.map_cons,List.map_nil,List.sum_cons,List.sum_nil,Nat.add_zero];by_cases e:a=m
    ·subst e
     have e0:((List.range a).map fun k=>(a::L).count k*c k)=(List.range a).map fun k=>L.count k*c k:=by
      refine List.map_congr_left fun k hk=> ?_
      have:k<a:=List.mem_range.1 hk;rw[List.count_cons_of_ne (by omega)]
     rw[e0,List.count_cons_self,Nat.add_mul,Nat.one_mul];omega
    ·have:=ihm (by omega);rw[<-this,List.count_cons_of_ne e];omega
  exact this n ha
theorem Om (n root:Nat) (ks:Nat->List Nat) (c d:Nat->Nat) (hroot:root<n) (hk:∀i,i<n-> ∀k∈ks i,k<n)
  (hc:∀i,i<n->c i=d i+((ks i).map c).sum) (hdeg:∀k,k<n->((List.range n).flatMap ks).count k=if k=root then 0 else 1):c root=((List.range n).map d).sum:=by
 have h1:((List.range n).map c).sum=((List.range n).map d).sum+(((List.range n).flatMap ks).map c).sum:=by
  have:∀L:List Nat,(∀i∈L,i<n)->(L.map c).sum=(L.map d).sum+((L.flatMap ks).map c).sum:=by
   intro L;induction L with
   |nil=>intro _;rfl
   |cons a L ih=>
    intro h;have ih:=ih (fun i hi=>h i (List.mem_cons_of_mem _ hi));simp only[List.map_cons,List.sum_cons,List.flatMap_cons,List.map_append,List.sum_append];rw[hc a (h a List.mem_cons_self),ih];omega
  exact this _ (fun i hi=>List.mem_range.1 hi)
 have h2:=Ok c n ((List.range n).flatMap ks) (fun k hk'=>by
  obtain⟨i,hi,hk'⟩:=List.mem_flatMap.1 hk';exact hk i (List.mem_range.1 hi) k hk')
 have h3:∀m,m<=n->((List.range m).map c).sum=((List.range m).map fun k=>((List.range n).flatMap ks).count k*c k).sum+if root<m then c root else 0:=by
  intro m;induction m with
  |zero=>intro _;simp
  |succ m ihm=>
   intro hm;rw[List.range_succ,List.map_append,List.map_append,List.sum_append,List.sum_append,ihm (by omega)];simp only[List.map_cons,List.map_nil,List.sum_cons,List.sum_nil,Nat.add_zero];rw[hdeg m (by omega)];by_cases e:m=root
   ·subst e;simp
   ·simp only[if_neg e,Nat.one_mul];by_cases e2:root<m
    ·rw[if_pos e2,if_pos (by omega)];omega
    ·rw[if_neg e2,if_neg (by omega)];omega
 have:=h3 n (Nat.le_refl _);rw[if_pos hroot]at this;rw[h1,h2]at this;omega
theorem Kc (l:List Nd) (h:∀n∈l,∀k∈n.kids,0<=k) (j:Nat):((List.range l.length).flatMap (Ab l)).count j=(Aw l).count (j:Int):=by
 have e:(List.range l.length).flatMap (Ab l)=(Aw l).map Int.toNat:=by
  rw[Aw,List.map_flatMap]
  have:∀m,m<=l.length->(List.range m).flatMap (Ab l)=(l.take m).flatMap fun n=>n.kids.map Int.toNat:=by
   intro m;induction m with
   |zero=>intro _;simp
   |succ m ih=>
    intro hm;rw[List.range_succ,List.flatMap_append,ih (by omega),List.take_succ_eq_append_getElem (by omega),List.flatMap_append];simp[Ab,List.getElem?_eq_getElem (show m<l.length by omega)]
  have h2:=this l.length (Nat.le_refl _);rw[List.take_length]at h2;exact h2
 rw[e,List.count_eq_countP,List.count_eq_countP,List.countP_map]
 have hk:∀k∈Aw l,0<=k:=fun k hk=>by
  obtain⟨n,hn,hk⟩:=List.mem_flatMap.1 hk;exact h n hn k hk
 refine List.countP_congr fun k hk'=> ?_
 have:=hk k hk';simp only[Function.comp_apply,beq_iff_eq];omega
theorem GA (j:Nat) (g:Nat->List Nat):∀L:List Nat,(L.flatMap g).count j=(L.map fun k=>(g k).count j).sum
 |[]=>rfl
 |a::L=>by rw[List.flatMap_cons,List.count_append,GA j g L];rfl
theorem PM {t:Tr} (h:Bv t) (i j:Nat) (hi:i<t.nodes.length):(Ak t.nodes i).count j<=1:=by
 have hA:=AE h;by_cases hj:j<t.nodes.length
 ·have hroot:t.root.toNat<t.nodes.length:=by have:=h.1;omega
  have hkn:∀n∈t.nodes,∀k∈n.kids,0<=k:=fun n hn k hk=>by
   obtain⟨i,hi⟩:=List.mem_iff_getElem?.1 hn;exact(Bw h hi hk).1
  have hdeg:∀k,k<t.nodes.length->((List.range t.nodes.length).flatMap (Ab t.nodes)).count k=if k=t.root.toNat then 0 else 1:=fun k hk=>by
   rw[Kc _ hkn,h.2.2 k hk];have:=h.1;by_cases e:(k:Int)=t.root
   ·rw[if_pos e,if_pos (by omega)]
   ·rw[if_neg e,if_neg (by omega)]
  have hc:∀i,(Ak t.nodes i).count j=(if i=j then 1 else 0)+((Ab t.nodes i).map fun k=>(Ak t.nodes k).count j).sum:=fun i=>by
   rw[AW hA,List.count_append,GA,List.count_singleton];simp only[beq_iff_eq];omega
  have hr:=Om t.nodes.length t.root.toNat (Ab t.nodes) (fun i=>(Ak t.nodes i).count j) (fun i=>if i=j then 1 else 0) hroot
   (fun i hi k hk=>by have:=hA i k hk;omega) (fun i _=>hc i) hdeg
  have h1:((List.range t.nodes.length).map fun i=>if i=j then 1 else 0).sum<=1:=by
   have:∀m,((List.range m).map fun i=>if i=j then 1 else 0).sum=if j<m then 1 else 0:=by
    intro m;induction m with
    |zero=>rfl
    |succ m ih=>
     rw[List.range_succ,List.map_append,List.sum_append,ih];simp only[List.map_cons,List.map_nil,List.sum_cons,List.sum_nil,Nat.add_zero];by_cases e:m=j
     ·subst e;simp
     ·by_cases e2:j<m
      ·rw[if_pos e2,if_neg e,if_pos (by omega)]
      ·rw[if_neg e2,if_neg e,if_neg (by omega)]
   rw[this];split <;> omega
  have up:∀d i,t.nodes.length-i=d->i<t.nodes.length->(Ak t.nodes i).count j<=(Ak t.nodes t.root.toNat).count j:=by
   intro d;induction d using Nat.strongRecOn with
   |_ d ih=>
    intro i hd hi;by_cases e:i=t.root.toNat
    ·subst e;exact Nat.le_refl _
    ·have h2:=hdeg i hi;rw[if_neg e]at h2;have h3:i∈(List.range t.nodes.length).flatMap (Ab t.nodes):=List.count_pos_iff.1 (by omega);obtain⟨p,hp,hik⟩:=List.mem_flatMap.1 h3;have hp':p<t.nodes.length:=List.mem_range.1 hp;have hlt:=hA p i hik;have h4:=ih (t.nodes.length-p) (by omega) p rfl hp';have h5:=hc p
     have h6:(Ak t.nodes i).count j<=((Ab t.nodes p).map fun k=>(Ak t.nodes k).count j).sum:=by
      have:∀L:List Nat,i∈L->(Ak t.nodes i).count j<=(L.map fun k=>(Ak t.nodes k).count j).sum:=by
       intro L;induction L with
       |nil=>intro h;cases h
       |cons a L ihL=>
        intro h;simp only[List.map_cons,List.sum_cons];rcases List.mem_cons.1 h with rfl|h
        ·omega
        ·have:=ihL h;omega
      exact this _ hik
     omega
  have:=up _ i rfl hi;omega
 ·rw[List.count_eq_zero.2 (fun hm=> ?_)]
  ·omega
  ·have:=Cr hA i j hm;omega
theorem EU {t:Tr} (h:Bv t) (i:Nat) (hi:i<t.nodes.length):(Ak t.nodes i).Nodup:=
 List.nodup_iff_count.2 fun j=>PM h i j hi
theorem Dk {l:List Nat} {n:Nat} (h:l.Nodup) (hn:∀k∈l,k<n):l.length<=n:=by
 have:=List.Nodup.length_le_of_subset h (l₂:=List.range n) (fun k hk=>List.mem_range.2 (hn k hk));simpa using this
theorem CW {t:Tr} (h:Bv t) (i:Nat) (hi:i<t.nodes.length):(Ak t.nodes i).length<=t.nodes.length:=
 Dk (EU h i hi) fun k hk=>by have:=Cr (AE h) i k hk;omega
def AB (post:List Nat) (n:Nd):Nd:={n with kids:=n.kids.map fun k=>(post.idxOf k.toNat:Int)}
def An (l:List Nd) (i:Nat):Nd:=(l[i]?).getD ⟨0,0,0,0,0,⟨#[]⟩,0,0,[]⟩
def BH (l:List Nd) (i:Nat):List Nd:=(Ak l i).map fun p=>AB (Ak l i) (An l p)
def EV (t:Tr) (i:Nat):Tr:=⟨BH t.nodes i,((Ak t.nodes i).length:Int)-1⟩
def Dy (a b:Tr):Bool:=AA a&&AA b&&decide (BH a.nodes a.root.toNat=BH b.nodes b.root.toNat)
theorem Fv {t:Tr} (h:Bv t):(Ak t.nodes t.root.toNat).length=t.nodes.length:=by
 have hA:=AE h
 have hkn:∀n∈t.nodes,∀k∈n.kids,0<=k:=fun n hn k hk=>by
  obtain⟨i,hi⟩:=List.mem_iff_getElem?.1 hn;exact(Bw h hi hk).1
 have hdeg:∀k,k<t.nodes.length->((List.range t.nodes.length).flatMap (Ab t.nodes)).count k=if k=t.root.toNat then 0 else 1:=fun k hk=>by
  rw[Kc _ hkn,h.2.2 k hk];have:=h.1;by_cases e:(k:Int)=t.root
  ·rw[if_pos e,if_pos (by omega)]
  ·rw[if_neg e,if_neg (by omega)]
 have len_flat:∀L:List Nat,(L.flatMap (Ak t.nodes)).length=(L.map fun k=>(Ak t.nodes k).length).sum:=by
  intro L;induction L with
  |nil=>rfl
  |cons a L ih=>simp only[List.flatMap_cons,List.length_append,ih,List.map_cons,List.sum_cons]
 have:=Om t.nodes.length t.root.toNat (Ab t.nodes) (fun i=>(Ak t.nodes i).length) (fun _=>1) (by have:=h.1;omega)
  (fun i hi k hk=>by have:=hA i k hk;omega) (fun i _=>by rw[AW hA,List.length_append,len_flat];simp;omega) hdeg
 have one:∀m,((List.range m).map fun _=>1).sum=m:=fun m=>by
  induction m with
  |zero=>rfl
  |succ m ih=>rw[List.range_succ,List.map_append,List.sum_append,ih];rfl
 exact Eq.trans this (one _)
theorem Nu {a b:Tr} (h:Dy a b=true):a.nodes.length=b.nodes.length:=by
 simp only[Dy,Bool.and_eq_true,decide_eq_true_eq]at h;obtain⟨⟨ha,hb⟩,he⟩:=h;have:=congrArg List.length he;simp only[BH,List.length_map]at this;rw[Fv ((AM _).1 ha),Fv ((AM _).1 hb)]at this;exact this
theorem PN {a b:Tr} (h:Dy a b=true):Dy b a=true:=by
 simp only[Dy,Bool.and_eq_true,decide_eq_true_eq]at h ⊢;exact⟨⟨h.1.2,h.1.1⟩,h.2.symm⟩
theorem On {a b c:Tr} (h:Dy a b=true) (k:Dy b c=true):Dy a c=true:=by
 simp only[Dy,Bool.and_eq_true,decide_eq_true_eq]at h k ⊢;exact⟨⟨h.1.1,k.1.2⟩,h.2.trans k.2⟩
theorem PO {l:List Nd} (i:Nat):[i].flatMap (Ak l)++([]:List Nat).reverse=Ak l i:=by simp
theorem J7 {l:List Nd} (h:AR l) {o:List Nat} {i j:Nat} {seen:List Nat} (e:(o++[i]).flatMap (Ak l)++seen.reverse=Ak l j):
  (o++Ab l i).flatMap (Ak l)++(seen++[i]).reverse=Ak l j:=by
 rw[<-e];simp only[List.flatMap_append,List.flatMap_cons,List.flatMap_nil,List.append_nil,List.reverse_append,List.reverse_cons,List.reverse_nil,List.nil_append];rw[AW h i];simp
theorem KV {l:List Nd} {j:Nat} {seen:List Nat} (e:([]:List Nat).flatMap (Ak l)++seen.reverse=Ak l j):seen.reverse=Ak l j:=by simpa using e
theorem EW (l:List Nd) (i:Nat):1<=(Ak l i).length:=by show 1<=(Kb l (i+1) i).length;simp[Kb]
theorem ID (l:List Nd):∀o:List Nat,o.length<=(o.flatMap (Ak l)).length
 |[]=>Nat.le_refl _
 |a::o=>by
  have:=ID l o;have:=EW l a;simp only[List.flatMap_cons,List.length_append,List.length_cons];omega
theorem Ei {l:List Nd} {o seen:List Nat} {j:Nat} (e:o.flatMap (Ak l)++seen.reverse=Ak l j):o.length+seen.length<=(Ak l j).length:=by
 have:=ID l o;rw[<-e,List.length_append,List.length_reverse];omega
theorem Oo {l:List Nd} {o seen:List Nat} {j:Nat} (h:AR l) (e:o.flatMap (Ak l)++seen.reverse=Ak l j):(∀k∈o,k<=j)/\ ∀k∈seen,k<=j:=by
 refine⟨fun k hk=>Cr h j k ?_,fun k hk=>Cr h j k ?_⟩
 ·rw[<-e,List.mem_append];left;exact List.mem_flatMap.2 ⟨k,hk,by rw[AW h];simp⟩
 ·rw[<-e,List.mem_append];right;simpa using hk
end Go.Proofs.YtdnochjajoiooaaGreatDoor
/- Rows of structs in memory,and what hangs on them:which blocks they lie in. No program in sight. -/
namespace Go.Proofs.YtdnochjajoiooaaGreatDoor
open Go.RowKit
def Agree (S:Nat->Prop) (w w':World):Prop:=∀k,S k->k<w.heap.size->w'.heap[k]?=w.heap[k]?
theorem Agree.mono {S T:Nat->Prop} {w w':World} (h:Agree S w w') (hS:∀k,k<w.heap.size->T k->S k):Agree T w w':=fun k hk hl=>h k (hS k hl hk) hl
theorem Agree.refl (S:Nat->Prop) (w:World):Agree S w w:=fun _ _ _=>rfl
theorem Agree.trans {S:Nat->Prop} {a b c:World} (h:Agree S a b) (k:Agree S b c) (hs:a.heap.size<=b.heap.size):Agree S a c:=fun i hi hl=>(k i hi (by omega)).trans (h i hi hl)
theorem Oq {B:Nat} {w w':World} (h:Below B w w'):Agree (· < B) w w':=fun k hk _=>h.block k hk
theorem AF {S:Nat->Prop} {w w':World} (h:Below w.heap.size w w'):Agree S w w':=fun k _ hl=>h.block k hl
theorem Sv (w:World) (a:Addr) (u:Value):Agree (· ≠ a.block) w (w.setCell a u):=fun k hk _=>Below.heap_setCell w a u k hk
theorem KW (S:Nat->Prop) (w:World):Agree S w w.drew:=fun _ _ _=>rfl
def RowIn (w:World) (S:Nat->Prop) (A:Option Addr) (xs:List Value):Prop:=RowAt w A xs/\(xs≠[]-> ∀ad,A=some ad->S ad.block)
theorem RowIn.lt {w:World} {S:Nat->Prop} {A:Option Addr} {xs:List Value} (h:RowIn w S A xs) (hx:xs≠[]):∃ad,A=some ad/\S ad.block/\ad.block<w.heap.size:=by
 cases xs with
 |nil=>exact absurd rfl hx
 |cons u r=>
  obtain⟨ad,e,hc⟩:=h.1 0 u rfl;have:=AP hc;rw[JQ]at this;exact⟨ad,e,h.2 hx ad e,this⟩
theorem RowIn.agree {w w':World} {S:Nat->Prop} {A:Option Addr} {xs:List Value} (h:RowIn w S A xs) (hg:Agree S w w'):RowIn w' S A xs:=
 ⟨fun j u hu=>by
  obtain⟨ad,e,hc⟩:=h.1 j u hu;refine⟨ad,e,?_⟩;have hl:=AP hc;have hs:=h.2 (fun e=>by rw[e]at hu;simp at hu) ad e;rw[<-hc];exact World.cell?_of_block (hg _ (by rw[JQ];exact hs) hl),h.2⟩
theorem RowIn.mono {w:World} {S T:Nat->Prop} {A:Option Addr} {xs:List Value} (h:RowIn w S A xs) (hS:∀k,k<w.heap.size->S k->T k):RowIn w T A xs:=
 ⟨h.1,fun hx ad e=>by
  obtain⟨ad',e',h1,h2⟩:=h.lt hx;rw[e]at e';cases e';exact hS _ h2 h1⟩
theorem RowIn.nil (w:World) (S:Nat->Prop) (A:Option Addr):RowIn w S A []:=⟨fun j u hu=>by simp at hu,fun h=>absurd rfl h⟩
theorem RowAt.rowIn {w:World} {A:Option Addr} {xs:List Value} (h:RowAt w A xs):RowIn w (· < w.heap.size) A xs:=
 ⟨h,fun hx ad e=>by
  cases xs with
  |nil=>exact absurd rfl hx
  |cons u r=>
   obtain⟨ad',e',hc⟩:=h 0 u rfl;rw[e]at e';cases e';have:=AP hc;rwa [JQ]at this⟩
theorem Hk {w:World} {base:Nat} {e:TypeId} {size n c:Nat} {A:Option Addr} {xs:List Value} {S:Nat->Prop} (h:w.ownsRow base e size (.slice A n c) n xs) (hS:∀ad,A=some ad->S ad.block):RowIn w S A xs:=
 ⟨RowAt.own h,fun _=>hS⟩
theorem Sw {w:World} {base:Nat} {e:TypeId} {size n c:Nat} {A:Option Addr} {xs:List Value} (h:w.ownsRow base e size (.slice A n c) n xs):∀ad,A=some ad->base<=ad.block/\ad.block<w.heap.size:=fun ad e=>by
 subst e;exact World.ownsRow.lt h ad.block rfl
structure Lay (α:Type) where
 size:Nat
 cells:α->List Value
 len:∀x,(cells x).length=size
 one:∀x,∀u∈cells x,u.oneCell'=true
 inn:World->(Nat->Prop)->α->Prop
 agree:∀{w w':World} {S:Nat->Prop} {x:α},inn w S x->Agree S w w'->inn w' S x
 mono:∀{w:World} {S T:Nat->Prop} {x:α},inn w S x->(∀k,k<w.heap.size->S k->T k)->inn w T x
section
variable {α:Type} (L:Lay α)
def Lay.all (l:List α):List Value:=l.flatMap L.cells
@[simp] theorem Lay.all_nil:L.all []=[]:=rfl
theorem Lay.all_append (l m:List α):L.all (l++m)=L.all l++L.all m:=by simp[Lay.all]
theorem Lay.all_one (x:α):L.all [x]=L.cells x:=by simp[Lay.all]
theorem Lay.all_length (l:List α):(L.all l).length=l.length*L.size:=by
 induction l with
 |nil=>simp
 |cons x l ih=>
  have e:L.all (x::l)=L.cells x++L.all l:=by simp[Lay.all]
  rw[e,List.length_append,L.len,ih,List.length_cons,Nat.add_mul];omega
theorem Lay.all_one' (l:List α):∀u∈L.all l,u.oneCell'=true:=fun u hu=>by
 obtain⟨x,_,hu⟩:=List.mem_flatMap.1 hu;exact L.one x u hu
theorem Lay.all_at (l:List α) (i j:Nat) (hi:i<l.length) (hj:j<L.size):(L.all l)[i*L.size+j]?=(L.cells l[i])[j]? :=by
 induction l generalizing i with
 |nil=>simp at hi
 |cons x l ih=>
  have e:L.all (x::l)=L.cells x++L.all l:=by simp[Lay.all]
  rw[e];cases i with
  |zero=>rw[Nat.zero_mul,Nat.zero_add,List.getElem?_append_left (by rw[L.len];exact hj)];rfl
  |succ i=>
   rw[List.getElem?_append_right (by rw[L.len,Nat.add_mul];omega),L.len];rw[show(i+1)*L.size+j-L.size=i*L.size+j by rw[Nat.add_mul];omega];simp only[List.length_cons]at hi;rw[ih i (by omega)];rfl
def Lay.row (w:World) (S:Nat->Prop) (A:Option Addr) (l:List α):Prop:=RowIn w S A (L.all l)/\ ∀x∈l,L.inn w S x
variable {L}
theorem Lay.row.agree {w w':World} {S:Nat->Prop} {A:Option Addr} {l:List α} (h:L.row w S A l) (hg:Agree S w w'):L.row w' S A l:=⟨h.1.agree hg,fun x hx=>L.agree (h.2 x hx) hg⟩
theorem Lay.row.mono {w:World} {S T:Nat->Prop} {A:Option Addr} {l:List α} (h:L.row w S A l) (hS:∀k,k<w.heap.size->S k->T k):L.row w T A l:=⟨h.1.mono hS,fun x hx=>L.mono (h.2 x hx) hS⟩
theorem Lay.row.below {w w':World} {S:Nat->Prop} {A:Option Addr} {l:List α} (h:L.row w S A l) (hg:Below w.heap.size w w'):L.row w' S A l:=h.agree (AF hg)
theorem Lay.row.nil (w:World) (S:Nat->Prop) (A:Option Addr):L.row w S A []:=⟨RowIn.nil _ _ _,by simp⟩
theorem Lay.row.rowAt {w:World} {S:Nat->Prop} {A:Option Addr} {l:List α} (h:L.row w S A l):RowAt w A (L.all l):=h.1.1
theorem Lay.row.at {w:World} {S:Nat->Prop} {A:Option Addr} {l:List α} (h:L.row w S A l) (h0:0<L.size) (i:Nat) (hi:i<l.length):
  ∃b o,A=some ⟨b,o,none⟩/\S b/\b<w.heap.size/\ ∀j u,(L.cells l[i])[j]?=some u->w.cell? ⟨b,o+(i*L.size+j),none⟩=some u:=by
 have hne:L.all l≠[]:=fun e=>by
  have h1:=L.all_length l;rw[e,List.length_nil]at h1;have:=Nat.mul_pos (show 0<l.length by omega) h0;omega
 obtain⟨ad,rfl,hS,hlt⟩:=h.1.lt hne;obtain⟨b,o,sp⟩:=ad
 have hsp:sp=none:=by
  have hu:∃u,(L.all l)[0]?=some u:=by
   cases e:L.all l with
   |nil=>exact absurd e hne
   |cons u r=>exact⟨u,rfl⟩
  obtain⟨u,hu⟩:=hu;obtain⟨_,e,hc⟩:=h.1.1 0 u hu;cases e;cases sp with
  |none=>rfl
  |some x=>
   rw[Addr.add_zero']at hc;unfold World.cell? at hc;split at hc <;> simp at hc
 subst hsp;refine⟨b,o,rfl,hS,hlt,fun j u hu=> ?_⟩;have hj:j<L.size:=by have:=(List.getElem?_eq_some_iff.1 hu).1;rwa [L.len]at this
 obtain⟨_,e,hc⟩:=h.1.1 (i*L.size+j) u ((L.all_at l i j hi hj).trans hu);cases e;rw[Addr.add_lit]at hc;exact hc
theorem Lay.row.sub {w:World} {S:Nat->Prop} {A:Option Addr} {l:List α} (h:L.row w S A l) (i:Nat) (hi:i<l.length):L.inn w S l[i]:=h.2 _ (List.getElem_mem hi)
end
def Az:Lay Int where
 size:=1
 cells n:=[.int .i64 n]
 len _:=rfl
 one _ u hu:=by simp at hu;subst hu;rfl
 inn _ _ _:=True
 agree _ _:=trivial
 mono _ _:=trivial
theorem CX (l:List Int):Az.all l=l.map (Value.int .i64):=by
 induction l with
 |nil=>rfl
 |cons x l ih=>show Value.int .i64 x::Az.all l=_;rw[ih];rfl
theorem E9 {w:World} {S:Nat->Prop} {A:Option Addr} {l:List Int} (h:Az.row w S A l) (i:Nat) (hi:i<l.length):∃b o,A=some ⟨b,o,none⟩/\S b/\b<w.heap.size/\w.cell? ⟨b,o+i,none⟩=some (.int .i64 l[i]):=by
 obtain⟨b,o,e,hS,hl,hc⟩:=h.at (by decide) i hi;refine⟨b,o,e,hS,hl,?_⟩;have:=hc 0 _ rfl;simpa[Az]using this
structure Ln where
 nd:Nd
 A:Option Addr
 c:Nat
abbrev Ln.kv (n:Ln):Value:=.slice n.A n.nd.kids.length n.c
abbrev ndV (n:Nd) (K:Value):Value:=.agg #[.int .u8 n.kind,.int .u64 n.s0,.int .u64 n.s1,.int .u64 n.s2,.int .u64 n.s3,.string n.text,.int .i64 n.mn,.int .i64 n.mx,K]
abbrev Ln.val (n:Ln):Value:=ndV n.nd n.kv
def U64 (z:Int):Prop:=0<=z/\z<18446744073709551616
def Nd.wf (n:Nd):Prop:=(0<=n.kind/\n.kind<=255)/\n.text.size<=281474976710656/\n.kids.length<=281474976710656/\U64 n.s0/\U64 n.s1/\U64 n.s2/\U64 n.s3
def ndL:Lay Ln where
 size:=9
 cells n:=[.int .u8 n.nd.kind,.int .u64 n.nd.s0,.int .u64 n.nd.s1,.int .u64 n.nd.s2,.int .u64 n.nd.s3,.string n.nd.text,.int .i64 n.nd.mn,.int .i64 n.nd.mx,n.kv]
 len _:=rfl
 one _ u hu:=by
  simp only[List.mem_cons,List.not_mem_nil,or_false]at hu;rcases hu with rfl|rfl|rfl|rfl|rfl|rfl|rfl|rfl|rfl <;> rfl
 inn w S n:=n.nd.wf/\Az.row w S n.A n.nd.kids
 agree h hg:=⟨h.1,h.2.agree hg⟩
 mono h hS:=⟨h.1,h.2.mono hS⟩
theorem D3 {w:World} {S:Nat->Prop} {A:Option Addr} {l:List Ln} (h:ndL.row w S A l) (i:Nat) (hi:i<l.length):
  ∃b o,A=some ⟨b,o,none⟩/\S b/\b<w.heap.size/\w.cell? ⟨b,o+i*9,none⟩=some (.int .u8 l[i].nd.kind)/\w.cell? ⟨b,o+i*9+1,none⟩=some (.int .u64 l[i].nd.s0)/\w.cell? ⟨b,o+i*9+2,none⟩=some (.int .u64 l[i].nd.s1) /\
   w.cell? ⟨b,o+i*9+3,none⟩=some (.int .u64 l[i].nd.s2)/\w.cell? ⟨b,o+i*9+4,none⟩=some (.int .u64 l[i].nd.s3)/\w.cell? ⟨b,o+i*9+5,none⟩=some (.string l[i].nd.text) /\
   w.cell? ⟨b,o+i*9+6,none⟩=some (.int .i64 l[i].nd.mn)/\w.cell? ⟨b,o+i*9+7,none⟩=some (.int .i64 l[i].nd.mx)/\w.cell? ⟨b,o+i*9+8,none⟩=some (.slice l[i].A l[i].nd.kids.length l[i].c):=by
 obtain⟨b,o,e,hS,hl,hc⟩:=h.at (by decide) i hi;have hc:∀j u,(ndL.cells l[i])[j]?=some u->w.cell? ⟨b,o+i*9+j,none⟩=some u:=fun j u hu=>by rw[Nat.add_assoc];exact hc j u hu
 exact⟨b,o,e,hS,hl,hc 0 _ rfl,hc 1 _ rfl,hc 2 _ rfl,hc 3 _ rfl,hc 4 _ rfl,hc 5 _ rfl,hc 6 _ rfl,hc 7 _ rfl,hc 8 _ rfl⟩
structure Lt where
 A:Option Addr
 c:Nat
 ls:List Ln
 root:Int
def Lt.tr (t:Lt):Tr:=⟨t.ls.map Ln.nd,t.root⟩
abbrev Lt.val (t:Lt):Value:=.agg #[.slice t.A t.ls.length t.c,.int .i64 t.root]
def Lt.inn (w:World) (S:Nat->Prop) (t:Lt):Prop:=t.ls.length<=281474976710656/\ndL.row w S t.A t.ls
theorem Lt.inn.agree {w w':World} {S:Nat->Prop} {t:Lt} (h:t.inn w S) (hg:Agree S w w'):t.inn w' S:=⟨h.1,h.2.agree hg⟩
theorem Lt.inn.mono {w:World} {S T:Nat->Prop} {t:Lt} (h:t.inn w S) (hS:∀k,k<w.heap.size->S k->T k):t.inn w T:=⟨h.1,h.2.mono hS⟩
theorem Lt.inn.below {w w':World} {S:Nat->Prop} {t:Lt} (h:t.inn w S) (hg:Below w.heap.size w w'):t.inn w' S:=Lt.inn.agree h (AF hg)
structure Ld where
 name:ByteArray
 t:Lt
def Ld.df (d:Ld):Df:=⟨d.name,d.t.tr⟩
abbrev Ld.val (d:Ld):Value:=.agg #[.string d.name,.slice d.t.A d.t.ls.length d.t.c,.int .i64 d.t.root]
def dfL:Lay Ld where
 size:=3
 cells d:=[.string d.name,.slice d.t.A d.t.ls.length d.t.c,.int .i64 d.t.root]
 len _:=rfl
 one _ u hu:=by
  simp only[List.mem_cons,List.not_mem_nil,or_false]at hu;rcases hu with rfl|rfl|rfl <;> rfl
 inn w S d:=d.name.size<=281474976710656/\d.t.inn w S
 agree h hg:=⟨h.1,h.2.agree hg⟩
 mono h hS:=⟨h.1,h.2.mono hS⟩
theorem Mb {w:World} {S:Nat->Prop} {A:Option Addr} {l:List Ln} (h:ndL.row w S A l) (i:Nat) (hi:i<l.length):l[i].nd.wf:=(h.sub i hi).1
theorem EX {w:World} {S:Nat->Prop} {A:Option Addr} {l:List Ln} (h:ndL.row w S A l) (i:Nat) (hi:i<l.length):Az.row w S l[i].A l[i].nd.kids:=(h.sub i hi).2
structure Le where
 kind:Int
 d:Ld
abbrev Le.val (e:Le):Value:=.agg #[.int .u8 e.kind,.string e.d.name,.slice e.d.t.A e.d.t.ls.length e.d.t.c,.int .i64 e.d.t.root]
end Go.Proofs.YtdnochjajoiooaaGreatDoor
/- The plain laws of layer 30 (diffs):no program in sight. -/
namespace Go.Proofs.YtdnochjajoiooaaGreatDoor
open Go.RowKit
def Gz (x y:Df):Bool:=decide (x.name=y.name)&&Dy x.body y.body
theorem PP (x y:Df):Gz x y=Gz y x:=by
 have:∀x y,Gz x y=true->Gz y x=true:=fun x y h=>by
  simp only[Gz,Bool.and_eq_true,decide_eq_true_eq]at h ⊢;exact⟨h.1.symm,PN h.2⟩
 rw[Bool.eq_iff_iff];exact⟨this x y,this y x⟩
theorem Ot {x y z:Df} (h:Gz x y=true) (k:Gz y z=true):Gz x z=true:=by
 simp only[Gz,Bool.and_eq_true,decide_eq_true_eq]at h k ⊢;exact⟨h.1.trans k.1,On h.2 k.2⟩
def CG:List Df->List Df->Nat
 |[],b=>b.length
 |x::a,[]=>(x::a).length
 |x::a,y::b=>if Gz x y then CG a b else 1+min (CG a (y::b)) (CG (x::a) b)
theorem Hl (a:List Df):CG a []=a.length:=by cases a <;> rw[CG]
theorem EY (x y:Df) (a b:List Df):CG (x::a) (y::b)=if Gz x y then CG a b else 1+min (CG a (y::b)) (CG (x::a) b):=by rw[CG]
theorem My (n:Nat):∀a b:List Df,a.length+b.length<=n-> ∀x y,CG (x::a) b<=1+CG a b/\CG a (y::b)<=1+CG a b/\CG a b<=1+CG (x::a) b/\CG a b<=1+CG a (y::b):=by
 induction n using Nat.strongRecOn with
 |_ n ih=>
  intro a b hn x y;have nil1:∀l:List Df,CG [] l=l.length:=fun l=>by rw[CG]
  refine⟨?_,?_,?_,?_⟩
  ·cases b with
   |nil=>rw[Hl,Hl];simp;omega
   |cons z b=>
    rw[EY];split
    ·have:=ih (n-1) (by simp only[List.length_cons]at hn;omega) a b (by simp only[List.length_cons]at hn;omega) x z;omega
    ·omega
  ·cases a with
   |nil=>rw[nil1,nil1];simp;omega
   |cons z a=>
    rw[EY];split
    ·have:=ih (n-1) (by simp only[List.length_cons]at hn;omega) a b (by simp only[List.length_cons]at hn;omega) z y;omega
    ·omega
  ·cases b with
   |nil=>rw[Hl,Hl];simp;omega
   |cons z b=>
    have h1:=ih (n-1) (by simp only[List.length_cons]at hn;omega) a b (by simp only[List.length_cons]at hn;omega) x z;rw[EY];split
    ·omega
    ·omega
  ·cases a with
   |nil=>rw[nil1,nil1];simp;omega
   |cons z a=>
    have h1:=ih (n-1) (by simp only[List.length_cons]at hn;omega) a b (by simp only[List.length_cons]at hn;omega) z y;rw[EY];split
    ·omega
    ·omega
theorem Ui (x:Df) (a b:List Df):CG (x::a) b<=1+CG a b:=(My _ a b (Nat.le_refl _) x x).1
theorem Uj (y:Df) (a b:List Df):CG a (y::b)<=1+CG a b:=(My _ a b (Nat.le_refl _) y y).2.1
end Go.Proofs.YtdnochjajoiooaaGreatDoor
/- Plain laws of diffs:turned about,by way of a third one,of a row and itself. -/
namespace Go.Proofs.YtdnochjajoiooaaGreatDoor
set_option linter.unusedSimpArgs false
set_option linter.unusedVariables false
inductive Al:List Df->List Df->Nat->Prop
 |nil:Al [] [] 0
 |del (x:Df) {a b:List Df} {n:Nat} (h:Al a b n):Al (x::a) b (n+1)
 |ins (y:Df) {a b:List Df} {n:Nat} (h:Al a b n):Al a (y::b) (n+1)
 |keep {x y:Df} {a b:List Df} {n:Nat} (hs:Gz x y=true) (h:Al a b n):Al (x::a) (y::b) n
theorem Al.symm {a b:List Df} {n:Nat} (h:Al a b n):Al b a n:=by
 induction h with
 |nil=>exact .nil
 |del x _ ih=>exact .ins x ih
 |ins y _ ih=>exact .del y ih
 |keep hs _ ih=>exact .keep (by rw[PP];exact hs) ih
theorem Al.need {a b:List Df} {n:Nat} (h:Al a b n):CG a b<=n:=by
 induction h with
 |nil=>rw[CG];simp
 |@del x a b n _ ih=>have:=Ui x a b;omega
 |@ins y a b n _ ih=>have:=Uj y a b;omega
 |keep hs _ ih=>rw[EY,if_pos hs];exact ih
theorem Al.trans (N:Nat):∀(a b c:List Df) (n m:Nat),a.length+b.length+c.length<=N->Al a b n->Al b c m-> ∃k,k<=n+m/\Al a c k:=by
 induction N with
 |zero=>
  intro a b c n m h h1 h2;obtain rfl:a=[]:=List.eq_nil_of_length_eq_zero (by omega);obtain rfl:c=[]:=List.eq_nil_of_length_eq_zero (by omega);exact⟨0,by omega,.nil⟩
 |succ N ih=>
  intro a b c n m h h1 h2;cases h1 with
  |nil=>exact⟨m,by omega,h2⟩
  |@del x a _ n h1=>
   simp only[List.length_cons]at h;obtain⟨k,hk,hA⟩:=ih a b c n m (by omega) h1 h2;exact⟨k+1,by omega,.del x hA⟩
  |@ins y _ b n h1=>
   simp only[List.length_cons]at h;cases h2 with
   |@del _ _ _ m h2=>
    obtain⟨k,hk,hA⟩:=ih a b c n m (by omega) h1 h2;exact⟨k,by omega,hA⟩
   |@ins z _ c m h2=>
    simp only[List.length_cons]at h;obtain⟨k,hk,hA⟩:=ih a (y::b) c (n+1) m (by simp only[List.length_cons];omega) (.ins y h1) h2;exact⟨k+1,by omega,.ins z hA⟩
   |@keep _ z _ c m hs h2=>
    simp only[List.length_cons]at h;obtain⟨k,hk,hA⟩:=ih a b c n m (by omega) h1 h2;exact⟨k+1,by omega,.ins z hA⟩
  |@keep x y a b n hs h1=>
   simp only[List.length_cons]at h;cases h2 with
   |@del _ _ _ m h2=>
    obtain⟨k,hk,hA⟩:=ih a b c n m (by omega) h1 h2;exact⟨k+1,by omega,.del x hA⟩
   |@ins z _ c m h2=>
    simp only[List.length_cons]at h;obtain⟨k,hk,hA⟩:=ih (x::a) (y::b) c n m (by simp only[List.length_cons];omega) (.keep hs h1) h2;exact⟨k+1,by omega,.ins z hA⟩
   |@keep _ z _ c m hs2 h2=>
    simp only[List.length_cons]at h;obtain⟨k,hk,hA⟩:=ih a b c n m (by omega) h1 h2;exact⟨k,by omega,.keep (Ot hs hs2) hA⟩
end Go.Proofs.YtdnochjajoiooaaGreatDoor
