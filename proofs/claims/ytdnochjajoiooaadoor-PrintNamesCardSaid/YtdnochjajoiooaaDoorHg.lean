/- Plain texts of trees: signs, literals, classes, counts, nodes; no program in sight. -/
import Derived.Test.YtdnochjajoiooaaDoorHm
import Derived.Test.YtdnochjajoiooaaDoorDa
import Derived.Test.YtdnochjajoiooaaDoorPn
import Derived.Test.YtdnochjajoiooaaDoorQb
import Derived.Lib.TrailingZeros
import Derived.Test.YtdnochjajoiooaaDoorHt
import Derived.Test.YtdnochjajoiooaaDoorQc
namespace Go.Proofs.YtdnochjajoiooaaDoor
set_option linter.unusedSimpArgs false
set_option linter.unusedVariables false
def wordsN (n:Nd):List Nat:=[n.s0.toNat,n.s1.toNat,n.s2.toNat,n.s3.toNat]
def classB (n:Nd):List UInt8:=classF (hasW (wordsN n))
def numB (n:Int):List UInt8:=Lib.itoa n
def countB (lo hi:Int):List UInt8:=
 if ¬(0≤lo∧lo≤99∧(hi = -1∨(lo≤hi∧hi≤99)))then[]
 else if lo=0∧hi=1 then[63]else if lo=0∧hi = -1 then[42]else if lo=1∧hi = -1 then[43]
 else if hi=lo then[123]++numB lo++[125]
 else if hi = -1 then[123]++numB lo++[44,125]
 else[123]++numB lo++[44]++numB hi++[125]
def wrapsK (k d:Int):Bool:=
 if k=5 then decide (d=5)
 else if k=4∨k=7∨k=8 then decide (d=4∨d=5)
 else if k=6 then decide (d=4∨d=5∨d=6∨d=7∨d=8)
 else false
def aheadB (n:Nd):List UInt8:=
 if n.kind=0∨n.kind=2 then litB n.text.data.toList
 else if n.kind=1 then classB n
 else if n.kind=3 then n.text.data.toList
 else if n.kind=7 then[38]else if n.kind=8 then[33]
 else if n.kind=9 then[60]++n.text.data.toList++[58,32]
 else[]
def behindB (n:Nd):List UInt8:=if n.kind=6 then countB n.mn n.mx else if n.kind=9 then[62]else[]
def betweenB (n:Nd):List UInt8:=if n.kind=4 then[32]else if n.kind=5 then[32,47,32]else[]
def restF (l:List Nd):Nat→Nat→Nat→Bool→List UInt8
 |0,_,_,_=>[]
 |f+1,i,j,w=>
  (if j=0 then(if w then[40]else[])++aheadB (ndAt l i)else[]) ++
  (((kidsAt l i).zipIdx).drop j).flatMap (fun p=>(if 0<p.2 then betweenB (ndAt l i)else[])++restF l f p.1 0 (wrapsK (ndAt l i).kind (ndAt l p.1).kind)) ++
  behindB (ndAt l i)++(if w then[41]else[])
def restN (l:List Nd) (i j:Nat) (w:Bool):List UInt8:=restF l (i+1) i j w
theorem restF_stable {l:List Nd} (h:Ahead l):∀(f g i j:Nat) (w:Bool),i<f→i<g→restF l f i j w=restF l g i j w
 |0,_,_,_,_,hf,_=>by omega
 |_,0,_,_,_,_,hg=>by omega
 |f+1,g+1,i,j,w,hf,hg=>by
  simp only[restF]
  congr 3
  simp only[List.flatMap]
  congr 1
  refine List.map_congr_left fun p hp=> ?_
  have hk:p.1∈kidsAt l i:=by
   have h1:=List.mem_of_mem_drop hp
   obtain⟨a,b⟩:=p
   have h2:=List.mem_zipIdx h1
   simp only at h2 ⊢
   rw[h2.2.2];exact List.getElem_mem _
  have:=h i p.1 hk
  congr 1
  exact restF_stable h f g p.1 0 _ (by omega) (by omega)
theorem restN_eq {l:List Nd} (h:Ahead l) (i j:Nat) (w:Bool):restN l i j w =
  (if j=0 then(if w then[40]else[])++aheadB (ndAt l i)else[]) ++
  (((kidsAt l i).zipIdx).drop j).flatMap (fun p=>(if 0<p.2 then betweenB (ndAt l i)else[])++restN l p.1 0 (wrapsK (ndAt l i).kind (ndAt l p.1).kind)) ++
  behindB (ndAt l i)++(if w then[41]else[]):=by
 show restF l (i+1) i j w=_
 simp only[restF]
 congr 3
 simp only[List.flatMap]
 congr 1
 refine List.map_congr_left fun p hp=> ?_
 have hk:p.1∈kidsAt l i:=by
  have h1:=List.mem_of_mem_drop hp
  obtain⟨a,b⟩:=p
  have h2:=List.mem_zipIdx h1
  simp only at h2 ⊢
  rw[h2.2.2];exact List.getElem_mem _
 have:=h i p.1 hk
 congr 1
 exact restF_stable h i (p.1+1) p.1 0 _ (by omega) (by omega)
theorem rest_kid {l:List Nd} (h:Ahead l) (i j:Nat) (w:Bool) (hj:j<(kidsAt l i).length):restN l i j w =
  (if j=0 then(if w then[40]else[])++aheadB (ndAt l i)else[])++(if 0<j then betweenB (ndAt l i)else[]) ++
   restN l (kidsAt l i)[j] 0 (wrapsK (ndAt l i).kind (ndAt l (kidsAt l i)[j]).kind)++restN l i (j+1) w:=by
 rw[restN_eq h i j w,restN_eq h i (j+1) w]
 have hz:j<((kidsAt l i).zipIdx).length:=by simpa using hj
 rw[List.drop_eq_getElem_cons hz]
 simp only[List.flatMap_cons,List.getElem_zipIdx,Nat.zero_add,if_neg (show ¬(j+1=0)by omega),List.nil_append,List.append_assoc]
theorem rest_end {l:List Nd} (h:Ahead l) (i j:Nat) (w:Bool) (hj:(kidsAt l i).length≤j):restN l i j w =
  (if j=0 then(if w then[40]else[])++aheadB (ndAt l i)else[])++behindB (ndAt l i)++(if w then[41]else[]):=by
 rw[restN_eq h i j w,List.drop_of_length_le (by simpa using hj)]
 simp only[List.flatMap_nil,List.append_nil]
def treeB (t:Tr):List UInt8:=if rightT t then restN t.nodes t.root.toNat 0 false else[]
def defB (d:Df):List UInt8:=if treeB d.body=[]∨ ¬mayL d.name.data.toList then[]else d.name.data.toList++[32,60,45,32]++treeB d.body++[10]
def gramB:List Df→Option (List UInt8)
 |[]=>some []
 |d::ds=>if defB d=[]then none else(gramB ds).map (defB d ++ ·)
def stepF (l:List Nd):Nat→Nat→Nat→Nat
 |0,_,_=>1
 |f+1,i,j=>1+(((kidsAt l i).drop j).map fun k=>1+stepF l f k 0).sum
def stepN (l:List Nd) (i j:Nat):Nat:=stepF l (i+1) i j
theorem stepF_stable {l:List Nd} (h:Ahead l):∀(f g i j:Nat),i<f→i<g→stepF l f i j=stepF l g i j
 |0,_,_,_,hf,_=>by omega
 |_,0,_,_,_,hg=>by omega
 |f+1,g+1,i,j,hf,hg=>by
  simp only[stepF]
  congr 2
  refine List.map_congr_left fun k hk=> ?_
  have:=h i k (List.mem_of_mem_drop hk)
  rw[stepF_stable h f g k 0 (by omega) (by omega)]
theorem stepN_eq {l:List Nd} (h:Ahead l) (i j:Nat):stepN l i j=1+(((kidsAt l i).drop j).map fun k=>1+stepN l k 0).sum:=by
 show stepF l (i+1) i j=_
 simp only[stepF]
 congr 2
 refine List.map_congr_left fun k hk=> ?_
 have:=h i k (List.mem_of_mem_drop hk)
 rw[stepF_stable h i (k+1) k 0 (by omega) (by omega)];rfl
theorem step_kid {l:List Nd} (h:Ahead l) (i j:Nat) (hj:j<(kidsAt l i).length):stepN l i j=1+stepN l (kidsAt l i)[j] 0+stepN l i (j+1):=by
 rw[stepN_eq h i j,stepN_eq h i (j+1),List.drop_eq_getElem_cons hj]
 simp only[List.map_cons,List.sum_cons]
 omega
theorem stepN_end {l:List Nd} (h:Ahead l) (i j:Nat) (hj:(kidsAt l i).length≤j):stepN l i j=1:=by
 rw[stepN_eq h i j,List.drop_of_length_le hj];rfl
theorem itoa_len2:∀n:Nat,n<100→(Lib.itoa (n:Int)).length≤2:=fun n h=>by
 rw[itoa_nat]
 by_cases h1:n<10
 ·rw[Lib.decDigits_one h1];simp
 ·rw[Lib.decDigits_two h1 h];simp
theorem countB_len (lo hi:Int):(countB lo hi).length≤7:=by
 unfold countB
 split
 ·simp
 rename_i h
 simp only[Decidable.not_not]at h
 have h1:(numB lo).length≤2:=by
  have:=itoa_len2 lo.toNat (by omega)
  rw[show((lo.toNat:Nat):Int)=lo by omega]at this
  exact this
 split
 ·simp
 split
 ·simp
 split
 ·simp
 split
 ·simp only[List.length_append,List.length_singleton];omega
 split
 ·simp only[List.length_append,List.length_cons,List.length_nil];omega
 ·rename_i h4 h5
  have h2:(numB hi).length≤2:=by
   have:=itoa_len2 hi.toNat (by omega)
   rw[show((hi.toNat:Nat):Int)=hi by omega]at this
   exact this
  simp only[List.length_append,List.length_singleton];omega
theorem rest_len {l:List Nd} (h:Ahead l) (C:Nat) (hC:∀i,(aheadB (ndAt l i)).length+(behindB (ndAt l i)).length+5≤C):∀i w,(restN l i 0 w).length+3≤C*(postN l i).length:=by
 intro i
 induction i using Nat.strongRecOn with
 |_ i ih=>
  intro w
  rw[restN_eq h,postN_eq h]
  simp only[if_true,List.drop_zero,List.length_append,List.length_singleton]
  have hb:∀w:Bool,(if w=true then[(40:UInt8)]else[]).length≤1∧(if w=true then[(41:UInt8)]else[]).length≤1:=fun w=>by cases w <;> simp
  have h1:=hb w
  have hk:∀(m:List Nat) (n:Nat),(∀k∈m,k<i)→((m.zipIdx n).flatMap fun p=>(if 0<p.2 then betweenB (ndAt l i)else[])++restN l p.1 0 (wrapsK (ndAt l i).kind (ndAt l p.1).kind)).length≤C*(m.flatMap (postN l)).length:=by
   intro m
   induction m with
   |nil=>intro n _;simp
   |cons k m ihm=>
    intro n hm
    have h2:=ihm (n+1) fun z hz=>hm z (List.mem_cons_of_mem _ hz)
    have h3:=ih k (hm k List.mem_cons_self) (wrapsK (ndAt l i).kind (ndAt l k).kind)
    have h4:(if 0<n then betweenB (ndAt l i)else[]).length≤3:=by
     split
     ·unfold betweenB;split
      ·simp
      ·split <;> simp
     ·simp
    simp only[List.zipIdx_cons,List.flatMap_cons,List.length_append,Nat.mul_add]
    omega
  have h5:=hk (kidsAt l i) 0 (fun k hk=>h i k hk)
  have h6:=hC i
  simp only[Nat.mul_add,Nat.mul_one]
  omega
theorem ahead_len {n:Nd} {k:Int} (h:fitN n k=true):(aheadB n).length≤2306:=by
 unfold fitN at h
 unfold aheadB
 by_cases h0:n.kind=0
 ·rw[if_pos (.inl h0)]
  rw[if_pos h0]at h
  simp only[Bool.and_eq_true,noText,decide_eq_true_eq]at h
  have h1:=litB_len n.text.data.toList
  have h2:n.text.data.toList.length=0:=h.1.1.2
  omega
 rw[if_neg h0]at h
 by_cases h1:n.kind=1
 ·rw[if_neg (by omega),if_pos h1];exact classF_len _
 rw[if_neg h1]at h
 by_cases h2:n.kind=2
 ·rw[if_pos (.inr h2)]
  rw[if_pos h2]at h
  simp only[Bool.and_eq_true,decide_eq_true_eq]at h
  have h1:=litB_len n.text.data.toList
  have h2:n.text.data.toList.length≤255:=h.2.2
  omega
 rw[if_neg h2]at h
 rw[if_neg (by omega),if_neg h1]
 by_cases h3:n.kind=3
 ·rw[if_pos h3]
  rw[if_pos h3]at h
  simp only[Bool.and_eq_true,mayL,decide_eq_true_eq]at h
  have:=h.2.2.1
  omega
 rw[if_neg h3]at h ⊢
 split
 ·simp
 split
 ·simp
 split
 ·rename_i h7 h8 h9
  rw[if_neg (by omega),if_neg (by omega),if_neg (by omega),if_neg h7,if_neg h8,if_pos h9]at h
  simp only[Bool.and_eq_true,mayL,decide_eq_true_eq]at h
  have:=h.2.2.1
  simp only[List.length_append,List.length_cons,List.length_nil]
  omega
 ·simp
theorem behind_len (n:Nd):(behindB n).length≤7:=by
 unfold behindB
 split
 ·exact countB_len _ _
 ·split <;> simp
theorem ndAt_fit {t:Tr} (h:rightP t) (i:Nat):∃k,fitN (ndAt t.nodes i) k=true:=by
 unfold ndAt
 cases e:t.nodes[i]? with
 |none=>exact⟨0,by decide⟩
 |some n=>exact⟨_,rightP_fit h e⟩
theorem treeB_len (t:Tr):(treeB t).length≤2400*t.nodes.length:=by
 unfold treeB
 split
 ·rename_i h
  have hr:=(rightT_iff t).1 h
  have h1:=rest_len (rightP_ahead hr) 2400 (fun i=>by
   obtain⟨k,hk⟩:=ndAt_fit hr i
   have:=ahead_len hk;have:=behind_len (ndAt t.nodes i);omega) t.root.toNat false
  have h2:=post_length hr t.root.toNat (by have:=hr.1;omega)
  have h3:=Nat.mul_le_mul_left 2400 h2
  omega
 ·simp
end Go.Proofs.YtdnochjajoiooaaDoor
/- Plain:a node's text,put together of its kids' texts;the stack of nodes that are being written. -/
namespace Go.Proofs.YtdnochjajoiooaaDoor
set_option linter.unusedSimpArgs false
set_option linter.unusedVariables false
def joinB (sep:List UInt8):List (List UInt8)→List UInt8
 |[]=>[]
 |x::r=>x++r.flatMap (sep ++ ·)
theorem zip_flat (sep:List UInt8) (g:Nat→List UInt8):∀(m:List Nat) (n:Nat),0<n→((m.zipIdx n).flatMap fun p=>(if 0<p.2 then sep else[])++g p.1)=(m.map g).flatMap (sep ++ ·)
 |[],_,_=>rfl
 |k::m,n,hn=>by
  simp only[List.zipIdx_cons,List.flatMap_cons,List.map_cons,if_pos hn,zip_flat sep g m (n+1) (by omega)]
theorem zip_join (sep:List UInt8) (g:Nat→List UInt8) (m:List Nat):((m.zipIdx).flatMap fun p=>(if 0<p.2 then sep else[])++g p.1)=joinB sep (m.map g):=by
 cases m with
 |nil=>rfl
 |cons k m=>
  simp only[List.zipIdx_cons,List.flatMap_cons,List.map_cons,joinB,zip_flat sep g m (0+1) (by omega)]
  simp
def textNp (l:List Nd) (i:Nat):List UInt8:=restN l i 0 false
def wrapB (w:Bool) (s:List UInt8):List UInt8:=if w then[40]++s++[41]else s
theorem rest_wrap {l:List Nd} (h:Ahead l) (i:Nat) (w:Bool):restN l i 0 w=wrapB w (textNp l i):=by
 unfold textNp wrapB
 rw[restN_eq h i 0 w,restN_eq h i 0 false]
 cases w <;> simp
theorem text_eq {l:List Nd} (h:Ahead l) (i:Nat):textNp l i=aheadB (ndAt l i)++joinB (betweenB (ndAt l i)) ((kidsAt l i).map fun k=>wrapB (wrapsK (ndAt l i).kind (ndAt l k).kind) (textNp l k))++behindB (ndAt l i):=by
 have e:∀p:Nat×Nat,((if 0<p.2 then betweenB (ndAt l i)else[])++restN l p.1 0 (wrapsK (ndAt l i).kind (ndAt l p.1).kind))=(if 0<p.2 then betweenB (ndAt l i)else[])++(fun k=>wrapB (wrapsK (ndAt l i).kind (ndAt l k).kind) (textNp l k)) p.1:=fun p=>by rw[rest_wrap h]
 conv=>lhs;unfold textNp
 rw[restN_eq h i 0 false]
 simp only[List.drop_zero,e]
 have hz:=zip_join (betweenB (ndAt l i)) (fun k=>wrapB (wrapsK (ndAt l i).kind (ndAt l k).kind) (textNp l k)) (kidsAt l i)
 rw[hz]
 simp
structure Opp where
 node:Nat
 kid:Nat
 wrapped:Bool
def opRest (l:List Nd) (o:Opp):List UInt8:=restN l o.node o.kid o.wrapped
def stRest (l:List Nd) (st:List Opp):List UInt8:=st.reverse.flatMap (opRest l)
def stStep (l:List Nd) (st:List Opp):Nat:=(st.map fun o=>stepN l o.node o.kid).sum
theorem stRest_snoc (l:List Nd) (st:List Opp) (o:Opp):stRest l (st++[o])=opRest l o++stRest l st:=by simp[stRest]
theorem stStep_snoc (l:List Nd) (st:List Opp) (o:Opp):stStep l (st++[o])=stStep l st+stepN l o.node o.kid:=by simp[stStep]
theorem st_push {l:List Nd} (h:Ahead l) (st:List Opp) (i j:Nat) (w:Bool) (hj:j<(kidsAt l i).length):
  stRest l (st++[⟨i,j,w⟩])=((if j=0 then(if w then[40]else[])++aheadB (ndAt l i)else[])++(if 0<j then betweenB (ndAt l i)else[])) ++
   stRest l (st++[⟨i,j+1,w⟩]++[⟨(kidsAt l i)[j],0,wrapsK (ndAt l i).kind (ndAt l (kidsAt l i)[j]).kind⟩]) ∧
  stStep l (st++[⟨i,j,w⟩])=1+stStep l (st++[⟨i,j+1,w⟩]++[⟨(kidsAt l i)[j],0,wrapsK (ndAt l i).kind (ndAt l (kidsAt l i)[j]).kind⟩]):=by
 constructor
 ·rw[stRest_snoc,stRest_snoc,stRest_snoc]
  show restN l i j w++_=_
  rw[rest_kid h i j w hj]
  simp only[opRest,List.append_assoc]
 ·rw[stStep_snoc,stStep_snoc,stStep_snoc]
  simp only
  rw[step_kid h i j hj]
  omega
theorem st_pop {l:List Nd} (h:Ahead l) (st:List Opp) (i j:Nat) (w:Bool) (hj:(kidsAt l i).length≤j):
  stRest l (st++[⟨i,j,w⟩])=((if j=0 then(if w then[40]else[])++aheadB (ndAt l i)else[])++behindB (ndAt l i)++(if w then[41]else[]))++stRest l st ∧
  stStep l (st++[⟨i,j,w⟩])=1+stStep l st:=by
 constructor
 ·rw[stRest_snoc]
  show restN l i j w++_=_
  rw[rest_end h i j w hj]
 ·rw[stStep_snoc]
  simp only
  rw[stepN_end h i j hj]
  omega
end Go.Proofs.YtdnochjajoiooaaDoor
/- Plain:forms of nodes and their texts;depths,sizes,names,places;whether a grammar may be. -/
namespace Go.Proofs.YtdnochjajoiooaaDoor
set_option linter.unusedSimpArgs false
set_option linter.unusedVariables false
structure FineL (l:List Nd):Prop where
 ahead:Ahead l
 fit:∀i,fitN (ndAt l i) (kidsAt l i).length=true
theorem kids_length (l:List Nd) (i:Nat):(kidsAt l i).length=(ndAt l i).kids.length:=by
 unfold kidsAt ndAt
 cases l[i]? <;> simp
theorem rightP_fine {t:Tr} (h:rightP t):FineL t.nodes:=⟨rightP_ahead h,fun i=>by
 rw[kids_length]
 unfold ndAt
 cases e:t.nodes[i]? with
 |none=>decide
 |some n=>exact rightP_fit h e⟩
def countOk (n:Nd):Prop:=0≤n.mn∧n.mn≤99∧(n.mx = -1∨(n.mn≤n.mx∧n.mx≤99))
theorem fit_cases {n:Nd} {k:Nat} (h:fitN n k=true):(n.kind=0∧n.text.size=0∧k=0)∨(n.kind=1∧k=0)∨(n.kind=2∧k=0∧1≤n.text.size)∨(n.kind=3∧k=0∧mayL n.text.data.toList=true) ∨
  (n.kind=4∧2≤k)∨(n.kind=5∧2≤k)∨(n.kind=6∧k=1∧countOk n)∨(n.kind=7∧k=1)∨(n.kind=8∧k=1)∨(n.kind=9∧k=1∧mayL n.text.data.toList=true):=by
 unfold fitN at h
 unfold countOk
 split at h
 ·simp only[Bool.and_eq_true,noText,decide_eq_true_eq]at h
  exact .inl ⟨by assumption,by omega,by omega⟩
 split at h
 ·simp only[Bool.and_eq_true,noText,decide_eq_true_eq]at h
  exact .inr (.inl ⟨by assumption,by omega⟩)
 split at h
 ·simp only[Bool.and_eq_true,noText,decide_eq_true_eq]at h
  exact .inr (.inr (.inl ⟨by assumption,by omega,by omega⟩))
 split at h
 ·simp only[Bool.and_eq_true,noText,decide_eq_true_eq]at h
  exact .inr (.inr (.inr (.inl ⟨by assumption,by omega,h.2⟩)))
 split at h
 ·simp only[Bool.and_eq_true,noText,decide_eq_true_eq]at h
  exact .inr (.inr (.inr (.inr (.inl ⟨by assumption,by omega⟩))))
 split at h
 ·simp only[Bool.and_eq_true,noText,decide_eq_true_eq]at h
  exact .inr (.inr (.inr (.inr (.inr (.inl ⟨by assumption,by omega⟩)))))
 split at h
 ·simp only[Bool.and_eq_true,noText,decide_eq_true_eq]at h
  exact .inr (.inr (.inr (.inr (.inr (.inr (.inl ⟨by assumption,by omega,h.2⟩))))))
 split at h
 ·simp only[Bool.and_eq_true,noText,decide_eq_true_eq]at h
  exact .inr (.inr (.inr (.inr (.inr (.inr (.inr (.inl ⟨by assumption,by omega⟩)))))))
 split at h
 ·simp only[Bool.and_eq_true,noText,decide_eq_true_eq]at h
  exact .inr (.inr (.inr (.inr (.inr (.inr (.inr (.inr (.inl ⟨by assumption,by omega⟩))))))))
 split at h
 ·simp only[Bool.and_eq_true,noText,decide_eq_true_eq]at h
  exact .inr (.inr (.inr (.inr (.inr (.inr (.inr (.inr (.inr (⟨by assumption,by omega,h.2⟩)))))))))
 ·cases h
theorem may_form {l:List UInt8} (h:mayL l=true):∃c r,l=c::r∧isLetter c.toNat=true∧ ∀x∈l,alnum x=true:=by
 simp only[mayL,decide_eq_true_eq]at h
 obtain⟨h1,_,h2⟩:=h
 cases l with
 |nil=>exact absurd rfl h1
 |cons c r=>
  by_cases hc:isLetter c.toNat=true
  ·refine⟨c,r,rfl,hc,fun x hx=> ?_⟩
   simp only[takeL,hc,if_true,List.cons.injEq,true_and]at h2
   rcases List.mem_cons.1 hx with rfl|hx
   ·simp[alnum,hc]
   ·rw[←h2]at hx
    have h3:=List.all_takeWhile (l:=r) (p:=alnum)
    rw[List.all_eq_true]at h3
    exact h3 x hx
  ·simp only[takeL,hc]at h2
   simp at h2
def atomH (c:UInt8):Prop:=c=34∨c=46∨c=91∨c=60∨isLetter c.toNat=true
theorem letter_no {c:UInt8} (h:isLetter c.toNat=true):c≠40∧c≠34∧c≠91∧c≠46∧c≠60∧c≠38∧c≠33∧c≠47:=by
 refine⟨?_,?_,?_,?_,?_,?_,?_,?_⟩ <;> (intro e;subst e;revert h;decide)
theorem atomH_no {c:UInt8} (h:atomH c):c≠40∧c≠38∧c≠33∧c≠47:=by
 rcases h with rfl|rfl|rfl|rfl|h
 ·decide
 ·decide
 ·decide
 ·decide
 ·have:=letter_no h;exact⟨this.1,this.2.2.2.2.2.1,this.2.2.2.2.2.2.1,this.2.2.2.2.2.2.2⟩
theorem class_form (f:Nat→Bool):classF f=[46]∨ ∃x,Passed 93 x∧classF f=91::(x++[93]):=by
 unfold classF
 split
 ·exact .inl rfl
 ·exact .inr ⟨(runsF f).flatMap runB,passed_flat _ fun x _=>passed_run x,by simp⟩
section
variable {l:List Nd} (H:FineL l)
include H
theorem leaf_text {i:Nat} (h:(ndAt l i).kind=0∨(ndAt l i).kind=1∨(ndAt l i).kind=2∨(ndAt l i).kind=3):textNp l i=aheadB (ndAt l i)∧kidsAt l i=[]:=by
 have hk:kidsAt l i=[]:=by
  have:=fit_cases (H.fit i)
  apply List.eq_nil_of_length_eq_zero
  omega
 refine⟨?_,hk⟩
 rw[text_eq H.ahead,hk]
 have hb:behindB (ndAt l i)=[]:=by unfold behindB;rw[if_neg (by omega),if_neg (by omega)]
 simp[joinB,hb]
end
section
variable {l:List Nd} (H:FineL l)
include H
theorem one_text {i:Nat} (h:(ndAt l i).kind=6∨(ndAt l i).kind=7∨(ndAt l i).kind=8∨(ndAt l i).kind=9):∃k,kidsAt l i=[k]∧textNp l i=aheadB (ndAt l i)++wrapB (wrapsK ((ndAt l i).kind) ((ndAt l k).kind)) (textNp l k)++behindB (ndAt l i):=by
 have hk:(kidsAt l i).length=1:=by have:=fit_cases (H.fit i);omega
 obtain⟨k,hk⟩:=List.length_eq_one_iff.1 hk
 refine⟨k,hk,?_⟩
 rw[text_eq H.ahead,hk]
 simp[joinB]
end
section
variable {l:List Nd} (H:FineL l)
include H
theorem atom_head {i:Nat} (h:¬((ndAt l i).kind=4∨(ndAt l i).kind=5∨(ndAt l i).kind=6∨(ndAt l i).kind=7∨(ndAt l i).kind=8)):∃c t,textNp l i=c::t∧atomH c:=by
 rcases fit_cases (H.fit i)with⟨e,_⟩|⟨e,_⟩|⟨e,_⟩|⟨e,_,hm⟩|⟨e,_⟩|⟨e,_⟩|⟨e,_⟩|⟨e,_⟩|⟨e,_⟩|⟨e,_⟩
 ·rw[(leaf_text H (.inl e)).1];unfold aheadB;rw[if_pos (.inl e)];exact⟨34,_,rfl,.inl rfl⟩
 ·rw[(leaf_text H (.inr (.inl e))).1];unfold aheadB;rw[if_neg (by omega),if_pos e]
  rcases class_form (hasW (wordsN (ndAt l i)))with h|⟨x,_,h⟩
  ·exact⟨46,[],h,.inr (.inl rfl)⟩
  ·exact⟨91,_,h,.inr (.inr (.inl rfl))⟩
 ·rw[(leaf_text H (.inr (.inr (.inl e)))).1];unfold aheadB;rw[if_pos (.inr e)];exact⟨34,_,rfl,.inl rfl⟩
 ·rw[(leaf_text H (.inr (.inr (.inr e)))).1];unfold aheadB;rw[if_neg (by omega),if_neg (by omega),if_pos e]
  obtain⟨c,r,hc,hl,_⟩:=may_form hm
  exact⟨c,r,hc,.inr (.inr (.inr (.inr hl)))⟩
 ·exact absurd (.inl e) h
 ·exact absurd (.inr (.inl e)) h
 ·exact absurd (.inr (.inr (.inl e))) h
 ·exact absurd (.inr (.inr (.inr (.inl e)))) h
 ·exact absurd (.inr (.inr (.inr (.inr e)))) h
 ·obtain⟨k,_,ht⟩:=one_text H (i:=i) (.inr (.inr (.inr e)))
  rw[ht];unfold aheadB
  rw[if_neg (by omega),if_neg (by omega),if_neg (by omega),if_neg (by omega),if_neg (by omega),if_pos e]
  exact⟨60,_,rfl,.inr (.inr (.inr (.inl rfl)))⟩
end
section
variable {l:List Nd} (H:FineL l)
include H
theorem prim_head (k:Nat):∃c t,wrapB (decide ((ndAt l k).kind=4∨(ndAt l k).kind=5∨(ndAt l k).kind=6∨(ndAt l k).kind=7∨(ndAt l k).kind=8)) (textNp l k)=c::t∧c≠38∧c≠33∧c≠47:=by
 by_cases hk:(ndAt l k).kind=4∨(ndAt l k).kind=5∨(ndAt l k).kind=6∨(ndAt l k).kind=7∨(ndAt l k).kind=8
 ·rw[decide_eq_true hk];exact⟨40,_,rfl,by decide⟩
 ·rw[decide_eq_false hk]
  obtain⟨c,t,e,hc⟩:=atom_head H hk
  exact⟨c,t,e,(atomH_no hc).2⟩
end
section
variable {l:List Nd} (H:FineL l)
include H
theorem rep_text {i:Nat} (h:(ndAt l i).kind=6):∃k,kidsAt l i=[k]∧textNp l i=wrapB (decide ((ndAt l k).kind=4∨(ndAt l k).kind=5∨(ndAt l k).kind=6∨(ndAt l k).kind=7∨(ndAt l k).kind=8)) (textNp l k)++countB (ndAt l i).mn (ndAt l i).mx:=by
 obtain⟨k,hk,ht⟩:=one_text H (i:=i) (.inl h)
 refine⟨k,hk,?_⟩
 rw[ht]
 unfold aheadB behindB wrapsK
 rw[if_neg (by omega),if_neg (by omega),if_neg (by omega),if_neg (by omega),if_neg (by omega),if_neg (by omega),if_pos h,if_neg (by omega),if_neg (by omega),if_pos h]
 simp
end
section
variable {l:List Nd} (H:FineL l)
include H
theorem unit_head (k:Nat):∃c t,wrapB (decide ((ndAt l k).kind=4∨(ndAt l k).kind=5)) (textNp l k)=c::t∧c≠47:=by
 by_cases hk:(ndAt l k).kind=4∨(ndAt l k).kind=5
 ·rw[decide_eq_true hk];exact⟨40,_,rfl,by decide⟩
 ·rw[decide_eq_false hk]
  show ∃c t,textNp l k=c::t∧c≠47
  by_cases h6:(ndAt l k).kind=6
  ·obtain⟨z,_,ht⟩:=rep_text H h6
   obtain⟨c,t,e,hc⟩:=prim_head H z
   rw[ht,e];exact⟨c,_,rfl,hc.2.2⟩
  by_cases h7:(ndAt l k).kind=7
  ·obtain⟨z,_,ht⟩:=one_text H (i:=k) (.inr (.inl h7))
   rw[ht];unfold aheadB
   rw[if_neg (by omega),if_neg (by omega),if_neg (by omega),if_pos h7]
   exact⟨38,_,rfl,by decide⟩
  by_cases h8:(ndAt l k).kind=8
  ·obtain⟨z,_,ht⟩:=one_text H (i:=k) (.inr (.inr (.inl h8)))
   rw[ht];unfold aheadB
   rw[if_neg (by omega),if_neg (by omega),if_neg (by omega),if_neg (by omega),if_pos h8]
   exact⟨33,_,rfl,by decide⟩
  obtain⟨c,t,e,hc⟩:=atom_head H (i:=k) (by omega)
  exact⟨c,t,e,(atomH_no hc).2.2.2⟩
end
theorem text_ne {l:List Nd} (H:FineL l):∀i,textNp l i≠[]:=by
 intro i
 induction i using Nat.strongRecOn with
 |_ i ih=>
  by_cases h:(ndAt l i).kind=4∨(ndAt l i).kind=5
  ·rw[text_eq H.ahead]
   have hk:2≤(kidsAt l i).length:=by have:=fit_cases (H.fit i);omega
   cases hks:kidsAt l i with
   |nil=>rw[hks]at hk;simp at hk
   |cons k ks=>
    have hkk:=ih k (H.ahead i k (by rw[hks];simp))
    intro e
    simp only[List.map_cons,joinB,List.append_eq_nil_iff]at e
    have e1:=e.1.2.1
    unfold wrapB at e1
    split at e1
    ·simp at e1
    ·exact hkk e1
  ·obtain⟨c,t,e,_⟩:=unit_head H i
   rw[decide_eq_false h]at e
   intro e2
   rw[show wrapB false (textNp l i)=textNp l i from rfl,e2]at e
   cases e
theorem treeB_ne {t:Tr} (h:rightT t=true):treeB t≠[]:=by
 unfold treeB;rw[if_pos h]
 exact text_ne (rightP_fine ((rightT_iff t).1 h)) _
theorem treeB_no {t:Tr} (h:rightT t=false):treeB t=[]:=by
 unfold treeB;rw[if_neg (by simp[h])]
def okD (d:Df):Prop:=mayL d.name.data.toList=true∧rightT d.body=true
theorem defB_ok {d:Df} (h:okD d):defB d=d.name.data.toList++[32,60,45,32]++treeB d.body++[10]:=by
 unfold defB
 rw[if_neg (fun k=>k.elim (treeB_ne h.2) (fun k=>k h.1))]
theorem defB_iff (d:Df):defB d≠[]↔okD d:=by
 constructor
 ·intro h
  unfold defB at h
  split at h
  ·exact absurd rfl h
  ·rename_i k
   simp only[not_or,Decidable.not_not]at k
   refine⟨k.2,?_⟩
   cases hr:rightT d.body with
   |true=>rfl
   |false=>exact absurd (treeB_no hr) k.1
 ·intro h
  rw[defB_ok h]
  simp
theorem gramB_ok:∀g:List Df,(∀d∈g,okD d)→gramB g=some (g.flatMap defB)
 |[],_=>rfl
 |d::g,h=>by
  rw[gramB,if_neg ((defB_iff d).2 (h d List.mem_cons_self)),gramB_ok g fun x hx=>h x (List.mem_cons_of_mem _ hx)]
  rfl
theorem gramB_no:∀g:List Df,(¬∀d∈g,okD d)→gramB g=none
 |[],h=>absurd (by simp) h
 |d::g,h=>by
  by_cases hd:okD d
  ·have h2:¬∀x∈g,okD x:=fun k=>h (fun x hx=>by
    rcases List.mem_cons.1 hx with rfl|hx
    ·exact hd
    ·exact k x hx)
   rw[gramB,if_neg ((defB_iff d).2 hd),gramB_no g h2];rfl
  ·rw[gramB,if_pos (Decidable.not_not.1 fun k=>hd ((defB_iff d).1 k))]
def gramT (g:List Df):List UInt8:=(gramB g).getD []
end Go.Proofs.YtdnochjajoiooaaDoor
