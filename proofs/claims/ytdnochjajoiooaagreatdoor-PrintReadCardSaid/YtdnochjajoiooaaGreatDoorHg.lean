/- Plain texts of trees: signs, literals, classes, counts, nodes; no program in sight. -/
import Derived.Test.YtdnochjajoiooaaGreatDoorHm
import Derived.Test.YtdnochjajoiooaaGreatDoorDa
import Derived.Test.YtdnochjajoiooaaGreatDoorPn
import Derived.Test.YtdnochjajoiooaaGreatDoorQb
import Derived.Lib.TrailingZeros
import Derived.Test.YtdnochjajoiooaaGreatDoorDq
import Derived.Test.YtdnochjajoiooaaGreatDoorLc
namespace Go.Proofs.YtdnochjajoiooaaGreatDoor
set_option linter.unusedSimpArgs false
set_option linter.unusedVariables false
def U0 (n:Nd):List Nat:=[n.s0.toNat,n.s1.toNat,n.s2.toNat,n.s3.toNat]
def U1 (n:Nd):List UInt8:=C3 (Cz (U0 n))
def Lq (n:Int):List UInt8:=Lib.itoa n
def CA (lo hi:Int):List UInt8:=
 if ¬(0<=lo/\lo<=99/\(hi = -1\/(lo<=hi/\hi<=99)))then[]
 else if lo=0/\hi=1 then[63]else if lo=0/\hi = -1 then[42]else if lo=1/\hi = -1 then[43]
 else if hi=lo then[123]++Lq lo++[125]
 else if hi = -1 then[123]++Lq lo++[44,125]
 else[123]++Lq lo++[44]++Lq hi++[125]
def AC (k d:Int):Bool:=
 if k=5 then decide (d=5)
 else if k=4\/k=7\/k=8 then decide (d=4\/d=5)
 else if k=6 then decide (d=4\/d=5\/d=6\/d=7\/d=8)
 else false
def AJ (n:Nd):List UInt8:=
 if n.kind=0\/n.kind=2 then JS n.text.data.toList
 else if n.kind=1 then U1 n
 else if n.kind=3 then n.text.data.toList
 else if n.kind=7 then[38]else if n.kind=8 then[33]
 else if n.kind=9 then[60]++n.text.data.toList++[58,32]
 else[]
def AK (n:Nd):List UInt8:=if n.kind=6 then CA n.mn n.mx else if n.kind=9 then[62]else[]
def AN (n:Nd):List UInt8:=if n.kind=4 then[32]else if n.kind=5 then[32,47,32]else[]
def Lr (l:List Nd):Nat->Nat->Nat->Bool->List UInt8
 |0,_,_,_=>[]
 |f+1,i,j,w=>
  (if j=0 then(if w then[40]else[])++AJ (An l i)else[]) ++
  (((Ab l i).zipIdx).drop j).flatMap (fun p=>(if 0<p.2 then AN (An l i)else[])++Lr l f p.1 0 (AC (An l i).kind (An l p.1).kind)) ++
  AK (An l i)++(if w then[41]else[])
def Ff (l:List Nd) (i j:Nat) (w:Bool):List UInt8:=Lr l (i+1) i j w
theorem IK {l:List Nd} (h:AR l):∀(f g i j:Nat) (w:Bool),i<f->i<g->Lr l f i j w=Lr l g i j w
 |0,_,_,_,_,hf,_=>by omega
 |_,0,_,_,_,_,hg=>by omega
 |f+1,g+1,i,j,w,hf,hg=>by
  simp only[Lr];congr 3;simp only[List.flatMap];congr 1;refine List.map_congr_left fun p hp=> ?_
  have hk:p.1∈Ab l i:=by
   have h1:=List.mem_of_mem_drop hp;obtain⟨a,b⟩:=p;have h2:=List.mem_zipIdx h1;simp only at h2 ⊢;rw[h2.2.2];exact List.getElem_mem _
  have:=h i p.1 hk;congr 1;exact IK h f g p.1 0 _ (by omega) (by omega)
theorem Ex {l:List Nd} (h:AR l) (i j:Nat) (w:Bool):Ff l i j w =
  (if j=0 then(if w then[40]else[])++AJ (An l i)else[]) ++
  (((Ab l i).zipIdx).drop j).flatMap (fun p=>(if 0<p.2 then AN (An l i)else[])++Ff l p.1 0 (AC (An l i).kind (An l p.1).kind)) ++
  AK (An l i)++(if w then[41]else[]):=by
 show Lr l (i+1) i j w=_;simp only[Lr];congr 3;simp only[List.flatMap];congr 1;refine List.map_congr_left fun p hp=> ?_
 have hk:p.1∈Ab l i:=by
  have h1:=List.mem_of_mem_drop hp;obtain⟨a,b⟩:=p;have h2:=List.mem_zipIdx h1;simp only at h2 ⊢;rw[h2.2.2];exact List.getElem_mem _
 have:=h i p.1 hk;congr 1;exact IK h i (p.1+1) p.1 0 _ (by omega) (by omega)
theorem U2 {l:List Nd} (h:AR l) (i j:Nat) (w:Bool) (hj:j<(Ab l i).length):Ff l i j w =
  (if j=0 then(if w then[40]else[])++AJ (An l i)else[])++(if 0<j then AN (An l i)else[]) ++
   Ff l (Ab l i)[j] 0 (AC (An l i).kind (An l (Ab l i)[j]).kind)++Ff l i (j+1) w:=by
 rw[Ex h i j w,Ex h i (j+1) w];have hz:j<((Ab l i).zipIdx).length:=by simpa using hj
 rw[List.drop_eq_getElem_cons hz];simp only[List.flatMap_cons,List.getElem_zipIdx,Nat.zero_add,if_neg (show ¬(j+1=0)by omega),List.nil_append,List.append_assoc]
theorem U3 {l:List Nd} (h:AR l) (i j:Nat) (w:Bool) (hj:(Ab l i).length<=j):Ff l i j w =
  (if j=0 then(if w then[40]else[])++AJ (An l i)else[])++AK (An l i)++(if w then[41]else[]):=by
 rw[Ex h i j w,List.drop_of_length_le (by simpa using hj)];simp only[List.flatMap_nil,List.append_nil]
def BX (t:Tr):List UInt8:=if AA t then Ff t.nodes t.root.toNat 0 false else[]
def IL (l:List Nd):Nat->Nat->Nat->Nat
 |0,_,_=>1
 |f+1,i,j=>1+(((Ab l i).drop j).map fun k=>1+IL l f k 0).sum
def GK (l:List Nd) (i j:Nat):Nat:=IL l (i+1) i j
theorem IM {l:List Nd} (h:AR l):∀(f g i j:Nat),i<f->i<g->IL l f i j=IL l g i j
 |0,_,_,_,hf,_=>by omega
 |_,0,_,_,_,hg=>by omega
 |f+1,g+1,i,j,hf,hg=>by
  simp only[IL];congr 2;refine List.map_congr_left fun k hk=> ?_
  have:=h i k (List.mem_of_mem_drop hk);rw[IM h f g k 0 (by omega) (by omega)]
theorem IO {l:List Nd} (h:AR l) (i j:Nat):GK l i j=1+(((Ab l i).drop j).map fun k=>1+GK l k 0).sum:=by
 show IL l (i+1) i j=_;simp only[IL];congr 2;refine List.map_congr_left fun k hk=> ?_
 have:=h i k (List.mem_of_mem_drop hk);rw[IM h i (k+1) k 0 (by omega) (by omega)];rfl
theorem U4 {l:List Nd} (h:AR l) (i j:Nat) (hj:j<(Ab l i).length):GK l i j=1+GK l (Ab l i)[j] 0+GK l i (j+1):=by
 rw[IO h i j,IO h i (j+1),List.drop_eq_getElem_cons hj];simp only[List.map_cons,List.sum_cons];omega
theorem SF {l:List Nd} (h:AR l) (i j:Nat) (hj:(Ab l i).length<=j):GK l i j=1:=by
 rw[IO h i j,List.drop_of_length_le hj];rfl
theorem M7:∀n:Nat,n<100->(Lib.itoa (n:Int)).length<=2:=fun n h=>by
 rw[Jo];by_cases h1:n<10
 ·rw[Lib.decDigits_one h1];simp
 ·rw[Lib.decDigits_two h1 h];simp
theorem Qj (lo hi:Int):(CA lo hi).length<=7:=by
 unfold CA;split
 ·simp
 rename_i h
 simp only[Decidable.not_not]at h
 have h1:(Lq lo).length<=2:=by
  have:=M7 lo.toNat (by omega);rw[show((lo.toNat:Nat):Int)=lo by omega]at this;exact this
 split
 ·simp
 split
 ·simp
 split
 ·simp
 split
 ·simp only[List.length_append,List.length_singleton];omega
 split
 ·simp only[List.length_append,List.length_cons,List.length_nil];omega
 ·rename_i h4 h5
  have h2:(Lq hi).length<=2:=by
   have:=M7 hi.toNat (by omega);rw[show((hi.toNat:Nat):Int)=hi by omega]at this;exact this
  simp only[List.length_append,List.length_singleton];omega
theorem U5 {l:List Nd} (h:AR l) (C:Nat) (hC:∀i,(AJ (An l i)).length+(AK (An l i)).length+5<=C):∀i w,(Ff l i 0 w).length+3<=C*(Ak l i).length:=by
 intro i;induction i using Nat.strongRecOn with
 |_ i ih=>
  intro w;rw[Ex h,AW h];simp only[if_true,List.drop_zero,List.length_append,List.length_singleton];have hb:∀w:Bool,(if w=true then[(40:UInt8)]else[]).length<=1/\(if w=true then[(41:UInt8)]else[]).length<=1:=fun w=>by cases w <;> simp
  have h1:=hb w
  have hk:∀(m:List Nat) (n:Nat),(∀k∈m,k<i)->((m.zipIdx n).flatMap fun p=>(if 0<p.2 then AN (An l i)else[])++Ff l p.1 0 (AC (An l i).kind (An l p.1).kind)).length<=C*(m.flatMap (Ak l)).length:=by
   intro m;induction m with
   |nil=>intro n _;simp
   |cons k m ihm=>
    intro n hm;have h2:=ihm (n+1) fun z hz=>hm z (List.mem_cons_of_mem _ hz)
    have h3:=ih k (hm k List.mem_cons_self) (AC (An l i).kind (An l k).kind)
    have h4:(if 0<n then AN (An l i)else[]).length<=3:=by
     split
     ·unfold AN;split
      ·simp
      ·split <;> simp
     ·simp
    simp only[List.zipIdx_cons,List.flatMap_cons,List.length_append,Nat.mul_add];omega
  have h5:=hk (Ab l i) 0 (fun k hk=>h i k hk);have h6:=hC i;simp only[Nat.mul_add,Nat.mul_one];omega
theorem SG {n:Nd} {k:Int} (h:Am n k=true):(AJ n).length<=2306:=by
 unfold Am at h;unfold AJ;by_cases h0:n.kind=0
 ·rw[if_pos (.inl h0)];rw[if_pos h0]at h;simp only[Bool.and_eq_true,Ay,decide_eq_true_eq]at h;have h1:=Pv n.text.data.toList;have h2:n.text.data.toList.length=0:=h.1.1.2;omega
 rw[if_neg h0]at h;by_cases h1:n.kind=1
 ·rw[if_neg (by omega),if_pos h1];exact QK _
 rw[if_neg h1]at h;by_cases h2:n.kind=2
 ·rw[if_pos (.inr h2)];rw[if_pos h2]at h;simp only[Bool.and_eq_true,decide_eq_true_eq]at h;have h1:=Pv n.text.data.toList;have h2:n.text.data.toList.length<=255:=h.2.2;omega
 rw[if_neg h2]at h;rw[if_neg (by omega),if_neg h1];by_cases h3:n.kind=3
 ·rw[if_pos h3];rw[if_pos h3]at h;simp only[Bool.and_eq_true,Cb,decide_eq_true_eq]at h;have:=h.2.2.1;omega
 rw[if_neg h3]at h ⊢;split
 ·simp
 split
 ·simp
 split
 ·rename_i h7 h8 h9
  rw[if_neg (by omega),if_neg (by omega),if_neg (by omega),if_neg h7,if_neg h8,if_pos h9]at h;simp only[Bool.and_eq_true,Cb,decide_eq_true_eq]at h;have:=h.2.2.1;simp only[List.length_append,List.length_cons,List.length_nil];omega
 ·simp
theorem Qk (n:Nd):(AK n).length<=7:=by
 unfold AK;split
 ·exact Qj _ _
 ·split <;> simp
theorem U6 {t:Tr} (h:Bv t) (i:Nat):∃k,Am (An t.nodes i) k=true:=by
 unfold An;cases e:t.nodes[i]? with
 |none=>exact⟨0,by decide⟩
 |some n=>exact⟨_,DD h e⟩
theorem JD (t:Tr):(BX t).length<=2400*t.nodes.length:=by
 unfold BX;split
 ·rename_i h
  have hr:=(AM t).1 h
  have h1:=U5 (AE hr) 2400 (fun i=>by
   obtain⟨k,hk⟩:=U6 hr i;have:=SG hk;have:=Qk (An t.nodes i);omega) t.root.toNat false
  have h2:=CW hr t.root.toNat (by have:=hr.1;omega);have h3:=Nat.mul_le_mul_left 2400 h2;omega
 ·simp
end Go.Proofs.YtdnochjajoiooaaGreatDoor
/- Plain:a node's text,put together of its kids' texts;the stack of nodes that are being written. -/
namespace Go.Proofs.YtdnochjajoiooaaGreatDoor
set_option linter.unusedSimpArgs false
set_option linter.unusedVariables false
def Ee (sep:List UInt8):List (List UInt8)->List UInt8
 |[]=>[]
 |x::r=>x++r.flatMap (sep ++ ·)
theorem OE (sep:List UInt8) (g:Nat->List UInt8):∀(m:List Nat) (n:Nat),0<n->((m.zipIdx n).flatMap fun p=>(if 0<p.2 then sep else[])++g p.1)=(m.map g).flatMap (sep ++ ·)
 |[],_,_=>rfl
 |k::m,n,hn=>by
  simp only[List.zipIdx_cons,List.flatMap_cons,List.map_cons,if_pos hn,OE sep g m (n+1) (by omega)]
theorem U7 (sep:List UInt8) (g:Nat->List UInt8) (m:List Nat):((m.zipIdx).flatMap fun p=>(if 0<p.2 then sep else[])++g p.1)=Ee sep (m.map g):=by
 cases m with
 |nil=>rfl
 |cons k m=>
  simp only[List.zipIdx_cons,List.flatMap_cons,List.map_cons,Ee,OE sep g m (0+1) (by omega)];simp
def Ct (l:List Nd) (i:Nat):List UInt8:=Ff l i 0 false
def D0 (w:Bool) (s:List UInt8):List UInt8:=if w then[40]++s++[41]else s
theorem SH {l:List Nd} (h:AR l) (i:Nat) (w:Bool):Ff l i 0 w=D0 w (Ct l i):=by
 unfold Ct D0;rw[Ex h i 0 w,Ex h i 0 false];cases w <;> simp
theorem K7 {l:List Nd} (h:AR l) (i:Nat):Ct l i=AJ (An l i)++Ee (AN (An l i)) ((Ab l i).map fun k=>D0 (AC (An l i).kind (An l k).kind) (Ct l k))++AK (An l i):=by
 have e:∀p:Nat×Nat,((if 0<p.2 then AN (An l i)else[])++Ff l p.1 0 (AC (An l i).kind (An l p.1).kind))=(if 0<p.2 then AN (An l i)else[])++(fun k=>D0 (AC (An l i).kind (An l k).kind) (Ct l k)) p.1:=fun p=>by rw[SH h]
 conv=>lhs;unfold Ct
 rw[Ex h i 0 false];simp only[List.drop_zero,e];have hz:=U7 (AN (An l i)) (fun k=>D0 (AC (An l i).kind (An l k).kind) (Ct l k)) (Ab l i);rw[hz];simp
structure Opp where
 node:Nat
 kid:Nat
 wrapped:Bool
def Ls (l:List Nd) (o:Opp):List UInt8:=Ff l o.node o.kid o.wrapped
def D1 (l:List Nd) (st:List Opp):List UInt8:=st.reverse.flatMap (Ls l)
def D2 (l:List Nd) (st:List Opp):Nat:=(st.map fun o=>GK l o.node o.kid).sum
theorem Ey (l:List Nd) (st:List Opp) (o:Opp):D1 l (st++[o])=Ls l o++D1 l st:=by simp[D1]
theorem Fw (l:List Nd) (st:List Opp) (o:Opp):D2 l (st++[o])=D2 l st+GK l o.node o.kid:=by simp[D2]
theorem Wp {l:List Nd} (h:AR l) (st:List Opp) (i j:Nat) (w:Bool) (hj:j<(Ab l i).length):
  D1 l (st++[⟨i,j,w⟩])=((if j=0 then(if w then[40]else[])++AJ (An l i)else[])++(if 0<j then AN (An l i)else[])) ++
   D1 l (st++[⟨i,j+1,w⟩]++[⟨(Ab l i)[j],0,AC (An l i).kind (An l (Ab l i)[j]).kind⟩]) /\
  D2 l (st++[⟨i,j,w⟩])=1+D2 l (st++[⟨i,j+1,w⟩]++[⟨(Ab l i)[j],0,AC (An l i).kind (An l (Ab l i)[j]).kind⟩]):=by
 constructor
 ·rw[Ey,Ey,Ey];show Ff l i j w++_=_;rw[U2 h i j w hj];simp only[Ls,List.append_assoc]
 ·rw[Fw,Fw,Fw];simp only;rw[U4 h i j hj];omega
theorem Xz {l:List Nd} (h:AR l) (st:List Opp) (i j:Nat) (w:Bool) (hj:(Ab l i).length<=j):
  D1 l (st++[⟨i,j,w⟩])=((if j=0 then(if w then[40]else[])++AJ (An l i)else[])++AK (An l i)++(if w then[41]else[]))++D1 l st /\
  D2 l (st++[⟨i,j,w⟩])=1+D2 l st:=by
 constructor
 ·rw[Ey];show Ff l i j w++_=_;rw[U3 h i j w hj]
 ·rw[Fw];simp only;rw[SF h i j hj];omega
end Go.Proofs.YtdnochjajoiooaaGreatDoor
/- Plain:forms of nodes and their texts;depths,sizes,names,places;whether a grammar may be. -/
namespace Go.Proofs.YtdnochjajoiooaaGreatDoor
set_option linter.unusedSimpArgs false
set_option linter.unusedVariables false
structure FineL (l:List Nd):Prop where
 ahead:AR l
 fit:∀i,Am (An l i) (Ab l i).length=true
theorem Ki (l:List Nd) (i:Nat):(Ab l i).length=(An l i).kids.length:=by
 unfold Ab An;cases l[i]? <;> simp
theorem OG {t:Tr} (h:Bv t):FineL t.nodes:=⟨AE h,fun i=>by
 rw[Ki];unfold An;cases e:t.nodes[i]? with
 |none=>decide
 |some n=>exact DD h e⟩
def Rt (n:Nd):Prop:=0<=n.mn/\n.mn<=99/\(n.mx = -1\/(n.mn<=n.mx/\n.mx<=99))
theorem Ej {n:Nd} {k:Nat} (h:Am n k=true):(n.kind=0/\n.text.size=0/\k=0)\/(n.kind=1/\k=0)\/(n.kind=2/\k=0/\1<=n.text.size)\/(n.kind=3/\k=0/\Cb n.text.data.toList=true) \/
  (n.kind=4/\2<=k)\/(n.kind=5/\2<=k)\/(n.kind=6/\k=1/\Rt n)\/(n.kind=7/\k=1)\/(n.kind=8/\k=1)\/(n.kind=9/\k=1/\Cb n.text.data.toList=true):=by
 unfold Am at h;unfold Rt;split at h
 ·simp only[Bool.and_eq_true,Ay,decide_eq_true_eq]at h;exact .inl ⟨by assumption,by omega,by omega⟩
 split at h
 ·simp only[Bool.and_eq_true,Ay,decide_eq_true_eq]at h;exact .inr (.inl ⟨by assumption,by omega⟩)
 split at h
 ·simp only[Bool.and_eq_true,Ay,decide_eq_true_eq]at h;exact .inr (.inr (.inl ⟨by assumption,by omega,by omega⟩))
 split at h
 ·simp only[Bool.and_eq_true,Ay,decide_eq_true_eq]at h;exact .inr (.inr (.inr (.inl ⟨by assumption,by omega,h.2⟩)))
 split at h
 ·simp only[Bool.and_eq_true,Ay,decide_eq_true_eq]at h;exact .inr (.inr (.inr (.inr (.inl ⟨by assumption,by omega⟩))))
 split at h
 ·simp only[Bool.and_eq_true,Ay,decide_eq_true_eq]at h;exact .inr (.inr (.inr (.inr (.inr (.inl ⟨by assumption,by omega⟩)))))
 split at h
 ·simp only[Bool.and_eq_true,Ay,decide_eq_true_eq]at h;exact .inr (.inr (.inr (.inr (.inr (.inr (.inl ⟨by assumption,by omega,h.2⟩))))))
 split at h
 ·simp only[Bool.and_eq_true,Ay,decide_eq_true_eq]at h;exact .inr (.inr (.inr (.inr (.inr (.inr (.inr (.inl ⟨by assumption,by omega⟩)))))))
 split at h
 ·simp only[Bool.and_eq_true,Ay,decide_eq_true_eq]at h;exact .inr (.inr (.inr (.inr (.inr (.inr (.inr (.inr (.inl ⟨by assumption,by omega⟩))))))))
 split at h
 ·simp only[Bool.and_eq_true,Ay,decide_eq_true_eq]at h;exact .inr (.inr (.inr (.inr (.inr (.inr (.inr (.inr (.inr (⟨by assumption,by omega,h.2⟩)))))))))
 ·cases h
theorem OH {l:List UInt8} (h:Cb l=true):∃c r,l=c::r/\AO c.toNat=true/\ ∀x∈l,Ce x=true:=by
 simp only[Cb,decide_eq_true_eq]at h;obtain⟨h1,_,h2⟩:=h;cases l with
 |nil=>exact absurd rfl h1
 |cons c r=>
  by_cases hc:AO c.toNat=true
  ·refine⟨c,r,rfl,hc,fun x hx=> ?_⟩;simp only[B0,hc,if_true,List.cons.injEq,true_and]at h2;rcases List.mem_cons.1 hx with rfl|hx
   ·simp[Ce,hc]
   ·rw[<-h2]at hx;have h3:=List.all_takeWhile (l:=r) (p:=Ce);rw[List.all_eq_true]at h3;exact h3 x hx
  ·simp only[B0,hc]at h2;simp at h2
def Xo (c:UInt8):Prop:=c=34\/c=46\/c=91\/c=60\/AO c.toNat=true
theorem SI {c:UInt8} (h:AO c.toNat=true):c≠40/\c≠34/\c≠91/\c≠46/\c≠60/\c≠38/\c≠33/\c≠47:=by
 refine⟨?_,?_,?_,?_,?_,?_,?_,?_⟩ <;> (intro e;subst e;revert h;decide)
theorem OI {c:UInt8} (h:Xo c):c≠40/\c≠38/\c≠33/\c≠47:=by
 rcases h with rfl|rfl|rfl|rfl|h
 ·decide
 ·decide
 ·decide
 ·decide
 ·have:=SI h;exact⟨this.1,this.2.2.2.2.2.1,this.2.2.2.2.2.2.1,this.2.2.2.2.2.2.2⟩
theorem Ql (f:Nat->Bool):C3 f=[46]\/ ∃x,Fo 93 x/\C3 f=91::(x++[93]):=by
 unfold C3;split
 ·exact .inl rfl
 ·exact .inr ⟨(Co f).flatMap Cm,Kr _ fun x _=>Q6 x,by simp⟩
section
variable {l:List Nd} (H:FineL l)
include H
theorem Hp {i:Nat} (h:(An l i).kind=0\/(An l i).kind=1\/(An l i).kind=2\/(An l i).kind=3):Ct l i=AJ (An l i)/\Ab l i=[]:=by
 have hk:Ab l i=[]:=by
  have:=Ej (H.fit i);apply List.eq_nil_of_length_eq_zero;omega
 refine⟨?_,hk⟩;rw[K7 H.ahead,hk];have hb:AK (An l i)=[]:=by unfold AK;rw[if_neg (by omega),if_neg (by omega)]
 simp[Ee,hb]
end
section
variable {l:List Nd} (H:FineL l)
include H
theorem IP {i:Nat} (h:(An l i).kind=6\/(An l i).kind=7\/(An l i).kind=8\/(An l i).kind=9):∃k,Ab l i=[k]/\Ct l i=AJ (An l i)++D0 (AC ((An l i).kind) ((An l k).kind)) (Ct l k)++AK (An l i):=by
 have hk:(Ab l i).length=1:=by have:=Ej (H.fit i);omega
 obtain⟨k,hk⟩:=List.length_eq_one_iff.1 hk;refine⟨k,hk,?_⟩;rw[K7 H.ahead,hk];simp[Ee]
end
section
variable {l:List Nd} (H:FineL l)
include H
theorem M8 {i:Nat} (h:¬((An l i).kind=4\/(An l i).kind=5\/(An l i).kind=6\/(An l i).kind=7\/(An l i).kind=8)):∃c t,Ct l i=c::t/\Xo c:=by
 rcases Ej (H.fit i)with⟨e,_⟩|⟨e,_⟩|⟨e,_⟩|⟨e,_,hm⟩|⟨e,_⟩|⟨e,_⟩|⟨e,_⟩|⟨e,_⟩|⟨e,_⟩|⟨e,_⟩
 ·rw[(Hp H (.inl e)).1];unfold AJ;rw[if_pos (.inl e)];exact⟨34,_,rfl,.inl rfl⟩
 ·rw[(Hp H (.inr (.inl e))).1];unfold AJ;rw[if_neg (by omega),if_pos e];rcases Ql (Cz (U0 (An l i)))with h|⟨x,_,h⟩
  ·exact⟨46,[],h,.inr (.inl rfl)⟩
  ·exact⟨91,_,h,.inr (.inr (.inl rfl))⟩
 ·rw[(Hp H (.inr (.inr (.inl e)))).1];unfold AJ;rw[if_pos (.inr e)];exact⟨34,_,rfl,.inl rfl⟩
 ·rw[(Hp H (.inr (.inr (.inr e)))).1];unfold AJ;rw[if_neg (by omega),if_neg (by omega),if_pos e];obtain⟨c,r,hc,hl,_⟩:=OH hm;exact⟨c,r,hc,.inr (.inr (.inr (.inr hl)))⟩
 ·exact absurd (.inl e) h
 ·exact absurd (.inr (.inl e)) h
 ·exact absurd (.inr (.inr (.inl e))) h
 ·exact absurd (.inr (.inr (.inr (.inl e)))) h
 ·exact absurd (.inr (.inr (.inr (.inr e)))) h
 ·obtain⟨k,_,ht⟩:=IP H (i:=i) (.inr (.inr (.inr e)));rw[ht];unfold AJ;rw[if_neg (by omega),if_neg (by omega),if_neg (by omega),if_neg (by omega),if_neg (by omega),if_pos e];exact⟨60,_,rfl,.inr (.inr (.inr (.inl rfl)))⟩
end
section
variable {l:List Nd} (H:FineL l)
include H
theorem SJ (k:Nat):∃c t,D0 (decide ((An l k).kind=4\/(An l k).kind=5\/(An l k).kind=6\/(An l k).kind=7\/(An l k).kind=8)) (Ct l k)=c::t/\c≠38/\c≠33/\c≠47:=by
 by_cases hk:(An l k).kind=4\/(An l k).kind=5\/(An l k).kind=6\/(An l k).kind=7\/(An l k).kind=8
 ·rw[decide_eq_true hk];exact⟨40,_,rfl,by decide⟩
 ·rw[decide_eq_false hk];obtain⟨c,t,e,hc⟩:=M8 H hk;exact⟨c,t,e,(OI hc).2⟩
end
section
variable {l:List Nd} (H:FineL l)
include H
theorem U8 {i:Nat} (h:(An l i).kind=6):∃k,Ab l i=[k]/\Ct l i=D0 (decide ((An l k).kind=4\/(An l k).kind=5\/(An l k).kind=6\/(An l k).kind=7\/(An l k).kind=8)) (Ct l k)++CA (An l i).mn (An l i).mx:=by
 obtain⟨k,hk,ht⟩:=IP H (i:=i) (.inl h);refine⟨k,hk,?_⟩;rw[ht];unfold AJ AK AC;rw[if_neg (by omega),if_neg (by omega),if_neg (by omega),if_neg (by omega),if_neg (by omega),if_neg (by omega),if_pos h,if_neg (by omega),if_neg (by omega),if_pos h];simp
end
section
variable {l:List Nd} (H:FineL l)
include H
theorem SK (k:Nat):∃c t,D0 (decide ((An l k).kind=4\/(An l k).kind=5)) (Ct l k)=c::t/\c≠47:=by
 by_cases hk:(An l k).kind=4\/(An l k).kind=5
 ·rw[decide_eq_true hk];exact⟨40,_,rfl,by decide⟩
 ·rw[decide_eq_false hk];show ∃c t,Ct l k=c::t/\c≠47;by_cases h6:(An l k).kind=6
  ·obtain⟨z,_,ht⟩:=U8 H h6;obtain⟨c,t,e,hc⟩:=SJ H z;rw[ht,e];exact⟨c,_,rfl,hc.2.2⟩
  by_cases h7:(An l k).kind=7
  ·obtain⟨z,_,ht⟩:=IP H (i:=k) (.inr (.inl h7));rw[ht];unfold AJ;rw[if_neg (by omega),if_neg (by omega),if_neg (by omega),if_pos h7];exact⟨38,_,rfl,by decide⟩
  by_cases h8:(An l k).kind=8
  ·obtain⟨z,_,ht⟩:=IP H (i:=k) (.inr (.inr (.inl h8)));rw[ht];unfold AJ;rw[if_neg (by omega),if_neg (by omega),if_neg (by omega),if_neg (by omega),if_pos h8];exact⟨33,_,rfl,by decide⟩
  obtain⟨c,t,e,hc⟩:=M8 H (i:=k) (by omega);exact⟨c,t,e,(OI hc).2.2.2⟩
end
theorem M9 {a:ByteArray} (h:a.size=0):a.data.toList=[]:=List.eq_nil_of_length_eq_zero h
theorem Wq {l:List Nd} (H:FineL l):∀i,Ct l i≠[]:=by
 intro i;induction i using Nat.strongRecOn with
 |_ i ih=>
  by_cases h:(An l i).kind=4\/(An l i).kind=5
  ·rw[K7 H.ahead];have hk:2<=(Ab l i).length:=by have:=Ej (H.fit i);omega
   cases hks:Ab l i with
   |nil=>rw[hks]at hk;simp at hk
   |cons k ks=>
    have hkk:=ih k (H.ahead i k (by rw[hks];simp));intro e;simp only[List.map_cons,Ee,List.append_eq_nil_iff]at e;have e1:=e.1.2.1;unfold D0 at e1;split at e1
    ·simp at e1
    ·exact hkk e1
  ·obtain⟨c,t,e,_⟩:=SK H i;rw[decide_eq_false h]at e;intro e2;rw[show D0 false (Ct l i)=Ct l i from rfl,e2]at e;cases e
theorem U9 {t:Tr} (h:AA t=true):BX t≠[]:=by
 unfold BX;rw[if_pos h];exact Wq (OG ((AM t).1 h)) _
theorem UA {t:Tr} (h:AA t=false):BX t=[]:=by
 unfold BX;rw[if_neg (by simp[h])]
end Go.Proofs.YtdnochjajoiooaaGreatDoor
