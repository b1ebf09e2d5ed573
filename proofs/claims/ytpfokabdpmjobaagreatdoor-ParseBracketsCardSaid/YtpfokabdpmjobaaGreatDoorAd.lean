/- Plain: trees as such, and the arenas that they stand in. -/
import Derived.Test.YtpfokabdpmjobaaGreatDoorHt
namespace Go.Proofs.YtpfokabdpmjobaaGreatDoor
set_option linter.unusedSimpArgs false
set_option linter.unusedVariables false
inductive TT where
 |mk:Nd→List TT→TT
def TT.nd:TT→Nd
 |.mk n _=>n
def TT.kids:TT→List TT
 |.mk _ k=>k
theorem TT.ind {P:TT→Prop} (h:∀n ks,(∀t∈ks,P t)→P (.mk n ks)):∀t,P t
 |.mk n ks=>h n ks (go ks)
 where go:∀ts:List TT,∀t∈ts,P t
  |[],_,h=>nomatch h
  |t::ts,x,hx=>(List.mem_cons.1 hx).elim (fun e=>e▸TT.ind h t) (fun m=>go ts x m)
def flatT:TT→List Nd
 |.mk n ks=>catN 0 (go ks)++[{n with kids:=endsN 0 (go ks)}]
 where go:List TT→List (List Nd)
  |[]=>[]
  |t::ts=>flatT t::go ts
theorem flatT_go:∀ts,flatT.go ts=ts.map flatT
 |[]=>rfl
 |t::ts=>by rw[flatT.go,flatT_go ts];rfl
theorem flatT_mk (n:Nd) (ks:List TT):flatT (.mk n ks)=catN 0 (ks.map flatT)++[{n with kids:=endsN 0 (ks.map flatT)}]:=by rw[flatT,flatT_go]
def treeOf (x:TT):Tr:=⟨flatT x,((flatT x).length:Int)-1⟩
def denF (l:List Nd):Nat→Nat→TT
 |0,i=>.mk (bareN (ndAt l i)) []
 |f+1,i=>.mk (bareN (ndAt l i)) ((kidsAt l i).map (denF l f))
def den (l:List Nd) (i:Nat):TT:=denF l (i+1) i
theorem denF_stable {l:List Nd} (h:Ahead l):∀(f g i:Nat),i<f→i<g→denF l f i=denF l g i
 |0,_,_,hf,_=>by omega
 |_,0,_,_,hg=>by omega
 |f+1,g+1,i,hf,hg=>by
  simp only[denF]
  congr 1
  exact List.map_congr_left fun k hk=>denF_stable h f g k (by have:=h i k hk;omega) (by have:=h i k hk;omega)
theorem den_eq {l:List Nd} (h:Ahead l) (i:Nat):den l i=.mk (bareN (ndAt l i)) ((kidsAt l i).map (den l)):=by
 show denF l (i+1) i=_
 simp only[denF]
 congr 1
 exact List.map_congr_left fun k hk=>denF_stable h i (k+1) k (h i k hk) (by omega)
theorem post_sub {l:List Nd} (h:Ahead l) {i k:Nat} (hk:k∈kidsAt l i) (hn:(postN l i).Nodup):(postN l k).Nodup:=by
 rw[postN_eq h,List.nodup_append]at hn
 obtain⟨a,b,e⟩:=List.append_of_mem hk
 have:=hn.1
 rw[e,List.flatMap_append,List.flatMap_cons,List.nodup_append]at this
 exact(List.nodup_append.1 this.2.1).1
theorem taken_flat {l:List Nd} (h:Ahead l):∀i,(postN l i).Nodup→takenL l i=flatT (den l i):=by
 intro i
 induction i using Nat.strongRecOn with
 |_ i ih=>
  intro hn
  rw[taken_split h hn,den_eq h,flatT_mk,List.map_map]
  have e:(kidsAt l i).map (takenL l)=(kidsAt l i).map (flatT ∘ den l):=List.map_congr_left fun k hk=>ih k (h i k hk) (post_sub h hk hn)
  rw[e]
  rfl
theorem takenT_of {t:Tr} (h:Ahead t.nodes) {i:Nat} (hn:(postN t.nodes i).Nodup):takenT t i=treeOf (den t.nodes i):=by
 unfold takenT treeOf
 rw[←taken_flat h i hn,taken_length]
def Rep (l:List Nd):TT→Nat→Prop
 |.mk n ks,i=>∃m,l[i]?=some m∧bareN m=n∧go m.kids ks
 where go:List Int→List TT→Prop
  |[],[]=>True
  |z::zs,t::ts=>(0≤z∧Rep l t z.toNat)∧go zs ts
  |_,_=>False
theorem rep_go {l:List Nd}:∀(zs:List Int) (ts:List TT),Rep.go l zs ts↔zs.length=ts.length∧ ∀j (h:j<zs.length) (h':j<ts.length),0≤zs[j]∧Rep l ts[j] zs[j].toNat
 |[],[]=>by simp[Rep.go]
 |[],_::_=>by simp[Rep.go]
 |_::_,[]=>by simp[Rep.go]
 |z::zs,t::ts=>by
  rw[Rep.go,rep_go zs ts]
  constructor
  ·rintro⟨h0,h1,h2⟩
   refine⟨by simp[h1],fun j h h'=> ?_⟩
   cases j with
   |zero=>exact h0
   |succ j=>exact h2 j (by simpa using h) (by simpa using h')
  ·rintro⟨h1,h2⟩
   refine⟨h2 0 (by simp) (by simp),by simpa using h1,fun j h h'=> ?_⟩
   exact h2 (j+1) (by simpa using h) (by simpa using h')
theorem rep_iff {l:List Nd} {n:Nd} {ks:List TT} {i:Nat}:Rep l (.mk n ks) i↔ ∃m,l[i]?=some m∧bareN m=n∧m.kids.length=ks.length∧ ∀j (h:j<m.kids.length) (h':j<ks.length),0≤m.kids[j]∧Rep l ks[j] m.kids[j].toNat:=by
 rw[Rep]
 simp only[rep_go]
theorem Rep.lt {l:List Nd} {x:TT} {i:Nat} (h:Rep l x i):i<l.length:=by
 cases x with
 |mk n ks=>
  obtain⟨m,hm,_⟩:=rep_iff.1 h
  exact(List.getElem?_eq_some_iff.1 hm).1
theorem Rep.append {l m:List Nd} {x:TT}:∀{i:Nat},Rep l x i→Rep (l++m) x i:=by
 induction x using TT.ind with
 |h n ks ih=>
  intro i h
  obtain⟨a,ha,hb,hl,hk⟩:=rep_iff.1 h
  refine rep_iff.2 ⟨a,?_,hb,hl,fun j h1 h2=>⟨(hk j h1 h2).1,ih _ (List.getElem_mem h2) (hk j h1 h2).2⟩⟩
  rw[List.getElem?_append_left (List.getElem?_eq_some_iff.1 ha).1];exact ha
theorem Rep.unique {l:List Nd} {x:TT}:∀{y:TT} {i:Nat},Rep l x i→Rep l y i→x=y:=by
 induction x using TT.ind with
 |h n ks ih=>
  intro y i h k
  cases y with
  |mk n' ks'=>
   obtain⟨a,ha,hb,hl,hk⟩:=rep_iff.1 h
   obtain⟨a',ha',hb',hl',hk'⟩:=rep_iff.1 k
   rw[ha]at ha';cases ha'
   rw[hb]at hb';subst hb'
   congr 1
   refine List.ext_getElem (by omega) fun j h1 h2=> ?_
   exact ih _ (List.getElem_mem h1) (hk j (by omega) h1).2 (hk' j (by omega) h2).2
def AheadZ (l:List Nd):Prop:=∀(i:Nat) (n:Nd),l[i]?=some n→ ∀k∈n.kids,0≤k∧k<(i:Int)
theorem AheadZ.ahead {l:List Nd} (h:AheadZ l):Ahead l:=fun i k hk=>by
 simp only[kidsAt,List.mem_map]at hk
 obtain⟨z,hz,rfl⟩:=hk
 cases e:l[i]? with
 |none=>rw[e]at hz;simp at hz
 |some n=>
  rw[e]at hz
  have:=h i n e z (by simpa using hz)
  omega
theorem right_aheadZ {t:Tr} (h:rightP t):AheadZ t.nodes:=fun i n hn k hk=>rightP_kid h hn hk
theorem rep_den {l:List Nd} (h:AheadZ l):∀i,i<l.length→Rep l (den l i) i:=by
 have hA:=h.ahead
 intro i
 induction i using Nat.strongRecOn with
 |_ i ih=>
  intro hi
  have e:=List.getElem?_eq_getElem hi
  have en:ndAt l i=l[i]:=by simp[ndAt,e]
  have ek:kidsAt l i=l[i].kids.map Int.toNat:=by rw[kidsAt_nd,en]
  rw[den_eq hA]
  refine rep_iff.2 ⟨l[i],e,by rw[en],by rw[ek];simp,fun j h1 h2=> ?_⟩
  have hk:=h i _ e _ (List.getElem_mem h1)
  refine⟨hk.1,?_⟩
  have:=ih l[i].kids[j].toNat (by omega) (by omega)
  simpa[ek]using this
theorem Rep.den {l:List Nd} {x:TT} (hA:AheadZ l) {i:Nat} (h:Rep l x i):den l i=x:=
 (rep_den hA i h.lt).unique h
def bareTT:TT→Prop
 |.mk n ks=>n.kids=[]∧go ks
 where go:List TT→Prop
  |[]=>True
  |t::ts=>bareTT t∧go ts
theorem bareTT_go:∀ts,bareTT.go ts↔ ∀t∈ts,bareTT t
 |[]=>by simp[bareTT.go]
 |t::ts=>by rw[bareTT.go,bareTT_go ts];simp
theorem bareTT_mk {n:Nd} {ks:List TT}:bareTT (.mk n ks)↔n.kids=[]∧ ∀t∈ks,bareTT t:=by rw[bareTT,bareTT_go]
theorem bare_of {n:Nd} (h:n.kids=[]):bareN n=n:=by cases n;simp only[bareN]at h ⊢;rw[h]
theorem flat_ne (x:TT):1≤(flatT x).length:=by cases x with|mk n ks=>rw[flatT_mk];simp
theorem ends_length':∀(off:Nat) (T:List (List Nd)),(endsN off T).length=T.length
 |_,[]=>rfl
 |off,t::ts=>by simp only[endsN,List.length_cons,ends_length']
theorem rep_cat:∀(ks:List TT) (pre:List Nd),(∀t∈ks,∀p:List Nd,Rep (p++(flatT t).map (shiftN p.length)) t (p.length+((flatT t).length-1))) →
  ∀j (h:j<(endsN pre.length (ks.map flatT)).length) (h':j<ks.length),0≤(endsN pre.length (ks.map flatT))[j]∧Rep (pre++catN pre.length (ks.map flatT)) ks[j] ((endsN pre.length (ks.map flatT))[j]).toNat
 |[],pre,_,j,_,h'=>by simp at h'
 |t::ts,pre,hP,0,h,h'=>by
  have h1:=hP t List.mem_cons_self pre
  have h2:=flat_ne t
  simp only[List.map_cons,endsN,catN,List.getElem_cons_zero]
  refine⟨by omega,?_⟩
  rw[show((((pre.length+(flatT t).length:Nat):Int)-1).toNat)=pre.length+((flatT t).length-1)by omega,←List.append_assoc]
  exact h1.append
 |t::ts,pre,hP,j+1,h,h'=>by
  have ih:=rep_cat ts (pre++(flatT t).map (shiftN pre.length)) (fun x hx=>hP x (List.mem_cons_of_mem _ hx)) j
  simp only[List.length_append,List.length_map]at ih
  simp only[List.map_cons,endsN,catN,List.getElem_cons_succ,←List.append_assoc]
  exact ih (by simpa[endsN]using h) (by simpa using h')
theorem shift_bare (p:Nat) (n:Nd):bareN (shiftN p n)=bareN n:=rfl
theorem cat_shift:∀(off p:Nat) (T:List (List Nd)),(catN off T).map (shiftN p)=catN (p+off) T
 |_,_,[]=>rfl
 |off,p,t::ts=>by
  simp only[catN,List.map_append,List.map_map,cat_shift (off+t.length) p ts]
  congr 1
  ·refine List.map_congr_left fun n _=> ?_
   simp only[Function.comp_apply,shiftN,List.map_map]
   congr 1
   refine List.map_congr_left fun z _=> ?_
   simp only[Function.comp_apply];omega
  ·congr 1;omega
theorem ends_shift:∀(off p:Nat) (T:List (List Nd)),(endsN off T).map (· + (p:Int))=endsN (p+off) T
 |_,_,[]=>rfl
 |off,p,t::ts=>by
  simp only[endsN,List.map_cons,ends_shift (off+t.length) p ts]
  congr 1
  ·omega
  ·congr 1;omega
theorem rep_flat {x:TT}:bareTT x→ ∀pre:List Nd,Rep (pre++(flatT x).map (shiftN pre.length)) x (pre.length+((flatT x).length-1)):=by
 induction x using TT.ind with
 |h n ks ih=>
  intro hb pre
  obtain⟨hn,hk⟩:=bareTT_mk.1 hb
  have h1:=rep_cat ks pre fun t ht p=>ih t ht (hk t ht) p
  have hl:(catN 0 (ks.map flatT)).length=(catN pre.length (ks.map flatT)).length:=by
   rw[show pre.length=pre.length+0 by omega,←cat_shift];simp
  rw[flatT_mk,List.map_append,cat_shift,←List.append_assoc,Nat.add_zero]
  refine rep_iff.2 ⟨shiftN pre.length {n with kids:=endsN 0 (ks.map flatT)},?_,?_,?_,fun j h2 h3=> ?_⟩
  ·rw[List.getElem?_append_right (by simp[hl])]
   simp[hl]
  ·rw[shift_bare];exact bare_of hn▸rfl
  ·simp[shiftN,ends_length']
  ·have e:(shiftN pre.length {n with kids:=endsN 0 (ks.map flatT)}).kids=endsN pre.length (ks.map flatT):=by
    show(endsN 0 (ks.map flatT)).map (· + (pre.length:Int))=_
    rw[ends_shift,Nat.add_zero]
   have h2':j<(endsN pre.length (ks.map flatT)).length:=by rw[←e];exact h2
   have e2:(shiftN pre.length {n with kids:=endsN 0 (ks.map flatT)}).kids[j]=(endsN pre.length (ks.map flatT))[j]:=by simp only[e]
   rw[e2]
   exact⟨(h1 j h2' h3).1,(h1 j h2' h3).2.append⟩
theorem rep_treeOf {x:TT} (h:bareTT x):Rep (flatT x) x ((flatT x).length-1):=by
 have h1:=rep_flat h []
 have e:(flatT x).map (shiftN 0)=flatT x:=by
  refine Eq.trans (List.map_congr_left fun n _=> ?_) (List.map_id _)
  cases n;simp[shiftN]
 simpa[e]using h1
end Go.Proofs.YtpfokabdpmjobaaGreatDoor
/- Plain:what makes a tree normal. -/
namespace Go.Proofs.YtpfokabdpmjobaaGreatDoor
set_option linter.unusedSimpArgs false
set_option linter.unusedVariables false
def emptyN:Nd:=⟨0,0,0,0,0,⟨#[]⟩,0,0,[]⟩
def setN:Nd:=⟨1,0,0,0,0,⟨#[]⟩,0,0,[]⟩
def seqN:Nd:=⟨4,0,0,0,0,⟨#[]⟩,0,0,[]⟩
def choN:Nd:=⟨5,0,0,0,0,⟨#[]⟩,0,0,[]⟩
abbrev TT.kd (x:TT):Int:=x.nd.kind
def fitTT:TT→Prop
 |.mk n ks=>(n.kids=[]∧fitN n ks.length=true)∧go ks
 where go:List TT→Prop
  |[]=>True
  |t::ts=>fitTT t∧go ts
theorem fitTT_go:∀ts,fitTT.go ts↔ ∀t∈ts,fitTT t
 |[]=>by simp[fitTT.go]
 |t::ts=>by rw[fitTT.go,fitTT_go ts];simp
theorem fitTT_mk {n:Nd} {ks:List TT}:fitTT (.mk n ks)↔(n.kids=[]∧fitN n ks.length=true)∧ ∀t∈ks,fitTT t:=by rw[fitTT,fitTT_go]
theorem fit_bareTT {x:TT}:fitTT x→bareTT x:=by
 induction x using TT.ind with
 |h n ks ih=>intro h;obtain⟨⟨h1,_⟩,h2⟩:=fitTT_mk.1 h;exact bareTT_mk.2 ⟨h1,fun t ht=>ih t ht (h2 t ht)⟩
theorem plain_nd {n:Nd} {k:Int} (hk:n.kids=[]) (h:fitN n k=true) (h4:n.kind=4∨n.kind=5):n={seqN with kind:=n.kind}∧2≤k:=by
 obtain⟨kind,s0,s1,s2,s3,text,mn,mx,kids⟩:=n
 simp only at hk h4
 subst hk
 rcases h4 with rfl|rfl <;>
 ·simp[fitN,noSet,noText,noNum]at h
  obtain⟨⟨⟨⟨rfl,rfl,rfl,rfl⟩,ht⟩,rfl,rfl⟩,h2⟩:=h
  refine⟨?_,h2⟩
  have:text=⟨#[]⟩:=by
   cases text with
   |mk d=>rw[Array.eq_empty_of_size_eq_zero (show d.size=0 from congrArg ByteArray.size ht)]
  rw[this];rfl
theorem fit_seq {k:Nat} (h:2≤k):fitN seqN k=true∧fitN choN k=true:=by
 constructor <;> simp[fitN,seqN,choN,noSet,noText,noNum,h,ByteArray.size] <;> omega
theorem fit_leafs:fitTT (.mk emptyN [])∧fitTT (.mk setN []):=⟨fitTT_mk.2 ⟨⟨rfl,by decide⟩,by simp⟩,fitTT_mk.2 ⟨⟨rfl,by decide⟩,by simp⟩⟩
def openTT (kind:Int):TT→List TT
 |.mk n ks=>if n.kind=kind then go ks else if kind=4∧n.kind=0 then[]else[.mk n ks]
 where go:List TT→List TT
  |[]=>[]
  |t::ts=>openTT kind t++go ts
theorem openTT_go (kind:Int):∀ts,openTT.go kind ts=ts.flatMap (openTT kind)
 |[]=>rfl
 |t::ts=>by rw[openTT.go,openTT_go kind ts];rfl
theorem openTT_mk (kind:Int) (n:Nd) (ks:List TT):openTT kind (.mk n ks)=if n.kind=kind then ks.flatMap (openTT kind)else if kind=4∧n.kind=0 then[]else[.mk n ks]:=by rw[openTT,openTT_go]
def joined (n none:Nd):List TT→TT
 |[]=>.mk none []
 |[x]=>x
 |x::y::l=>.mk n (x::y::l)
theorem joined_two (n none:Nd) {l:List TT} (h:2≤l.length):joined n none l=.mk n l:=by
 match l,h with
 |_::_::_,_=>rfl
def joinTT (n:Nd) (l:List TT):TT:=
 if n.kind=4 then joined n emptyN (l.flatMap (openTT 4))else if n.kind=5 then joined n setN (l.flatMap (openTT 5))else .mk n l
def makeTT:TT→TT
 |.mk n ks=>joinTT n (go ks)
 where go:List TT→List TT
  |[]=>[]
  |t::ts=>makeTT t::go ts
theorem makeTT_go:∀ts,makeTT.go ts=ts.map makeTT
 |[]=>rfl
 |t::ts=>by rw[makeTT.go,makeTT_go ts];rfl
theorem makeTT_mk (n:Nd) (ks:List TT):makeTT (.mk n ks)=joinTT n (ks.map makeTT):=by rw[makeTT,makeTT_go]
def shutTT:TT→Prop
 |.mk n ks=>go n.kind ks
 where go (k:Int):List TT→Prop
  |[]=>True
  |t::ts=>((k=4→t.nd.kind≠4∧t.nd.kind≠0)∧(k=5→t.nd.kind≠5))∧shutTT t∧go k ts
theorem shutTT_go (k:Int):∀ts,shutTT.go k ts↔ ∀t∈ts,((k=4→t.kd≠4∧t.kd≠0)∧(k=5→t.kd≠5))∧shutTT t
 |[]=>by simp[shutTT.go]
 |t::ts=>by rw[shutTT.go,shutTT_go k ts];simp only[List.mem_cons,forall_eq_or_imp,and_assoc]
theorem shutTT_mk {n:Nd} {ks:List TT}:shutTT (.mk n ks)↔ ∀t∈ks,((n.kind=4→t.kd≠4∧t.kd≠0)∧(n.kind=5→t.kd≠5))∧shutTT t:=by rw[shutTT,shutTT_go]
theorem open_other {kind:Int} {x:TT} (h:x.kd≠kind) (h0:kind=4→x.kd≠0):openTT kind x=[x]:=by
 cases x with
 |mk n ks=>
  have h:n.kind≠kind:=h
  rw[openTT_mk,if_neg h,if_neg (fun e=>h0 e.1 e.2)]
theorem flatMap_self {α:Type} {f:α→List α}:∀{l:List α},(∀x∈l,f x=[x])→l.flatMap f=l
 |[],_=>rfl
 |x::l,h=>by rw[List.flatMap_cons,h x List.mem_cons_self,flatMap_self fun y hy=>h y (List.mem_cons_of_mem _ hy)];rfl
theorem open_shut {kind:Int} {x:TT} (hk:kind=4∨kind=5) (hs:shutTT x):openTT kind x=if x.kd=kind then x.kids else if kind=4∧x.kd=0 then[]else[x]:=by
 cases x with
 |mk n ks=>
  rw[openTT_mk]
  show _=if n.kind=kind then ks else if kind=4∧n.kind=0 then[]else[.mk n ks]
  by_cases h:n.kind=kind
  ·rw[if_pos h,if_pos h]
   refine flatMap_self fun t ht=> ?_
   have:=(shutTT_mk.1 hs t ht).1
   refine open_other ?_ ?_
   ·rcases hk with rfl|rfl
    ·exact(this.1 h).1
    ·exact this.2 h
   ·rintro rfl;exact(this.1 h).2
  ·rw[if_neg h,if_neg h]
theorem open_mem {kind:Int} {x y:TT} (hk:kind=4∨kind=5) (hs:shutTT x) (hf:fitTT x) (hy:y∈openTT kind x):y.kd≠kind∧(kind=4→y.kd≠0)∧shutTT y∧fitTT y:=by
 rw[open_shut hk hs]at hy
 split at hy
 ·rename_i h
  cases x with
  |mk n ks=>
   simp only[TT.kd,TT.nd,TT.kids]at h hy
   have h1:=shutTT_mk.1 hs y hy
   have h2:=(fitTT_mk.1 hf).2 y hy
   rcases hk with rfl|rfl
   ·exact⟨(h1.1.1 h).1,fun _=>(h1.1.1 h).2,h1.2,h2⟩
   ·exact⟨h1.1.2 h,fun e=>absurd e (by decide),h1.2,h2⟩
 ·split at hy
  ·simp at hy
  ·simp only[List.mem_singleton]at hy
   subst hy
   rename_i h h0
   exact⟨h,fun e e2=>h0 ⟨e,e2⟩,hs,hf⟩
theorem joined_ok {n none:Nd} {l:List TT} (hn:(n.kind=4∧none=emptyN)∨(n.kind=5∧none=setN)) (hnk:n={seqN with kind:=n.kind})
  (hl:∀y∈l,y.kd≠n.kind∧(n.kind=4→y.kd≠0)∧shutTT y∧fitTT y):fitTT (joined n none l)∧shutTT (joined n none l):=by
 match l with
 |[]=>
  rcases hn with⟨_,rfl⟩|⟨_,rfl⟩
  ·exact⟨fit_leafs.1,shutTT_mk.2 (by simp)⟩
  ·exact⟨fit_leafs.2,shutTT_mk.2 (by simp)⟩
 |[x]=>exact⟨(hl x (by simp)).2.2.2,(hl x (by simp)).2.2.1⟩
 |x::y::r=>
  show fitTT (.mk n _)∧shutTT (.mk n _)
  refine⟨fitTT_mk.2 ⟨⟨by rw[hnk];rfl,?_⟩,fun t ht=>(hl t ht).2.2.2⟩,shutTT_mk.2 fun t ht=>⟨⟨fun e=> ?_,fun e=> ?_⟩,(hl t ht).2.2.1⟩⟩
  ·have h2:=fit_seq (k:=(x::y::r).length) (by simp)
   rcases hn with⟨e,_⟩|⟨e,_⟩
   ·rw[hnk,e];exact h2.1
   ·rw[hnk,e];exact h2.2
  ·have:=(hl t ht);rw[e]at this;exact⟨this.1,this.2.1 rfl⟩
  ·have:=(hl t ht);rw[e]at this;exact this.1
theorem make_ok {x:TT}:fitTT x→fitTT (makeTT x)∧shutTT (makeTT x):=by
 induction x using TT.ind with
 |h n ks ih=>
  intro hf
  obtain⟨⟨hk,hn⟩,hks⟩:=fitTT_mk.1 hf
  have ih:∀t∈ks.map makeTT,fitTT t∧shutTT t:=fun t ht=>by
   obtain⟨k,hk,rfl⟩:=List.mem_map.1 ht
   exact ih k hk (hks k hk)
  have hlen:(ks.map makeTT).length=ks.length:=by simp
  rw[makeTT_mk]
  generalize ks.map makeTT=L at *
  unfold joinTT
  split
  ·rename_i h4
   refine joined_ok (.inl ⟨h4,rfl⟩) (plain_nd hk hn (.inl h4)).1 fun y hy=> ?_
   obtain⟨z,hz,hy⟩:=List.mem_flatMap.1 hy
   have:=open_mem (.inl rfl) (ih z hz).2 (ih z hz).1 hy
   rw[h4];exact⟨this.1,fun _=>this.2.1 rfl,this.2.2⟩
  split
  ·rename_i h5
   refine joined_ok (.inr ⟨h5,rfl⟩) (plain_nd hk hn (.inr h5)).1 fun y hy=> ?_
   obtain⟨z,hz,hy⟩:=List.mem_flatMap.1 hy
   have:=open_mem (.inr rfl) (ih z hz).2 (ih z hz).1 hy
   rw[h5];exact⟨this.1,fun e=>absurd e (by decide),this.2.2⟩
  ·rename_i h4 h5
   exact⟨fitTT_mk.2 ⟨⟨hk,by rw[hlen];exact hn⟩,fun t ht=>(ih t ht).1⟩,shutTT_mk.2 fun t ht=>⟨⟨fun e=>absurd e h4,fun e=>absurd e h5⟩,(ih t ht).2⟩⟩
theorem make_self {x:TT}:fitTT x→shutTT x→makeTT x=x:=by
 induction x using TT.ind with
 |h n ks ih=>
  intro hf hs
  obtain⟨⟨hk,hn⟩,hks⟩:=fitTT_mk.1 hf
  have hss:=shutTT_mk.1 hs
  have e:ks.map makeTT=ks:=by
   refine Eq.trans (List.map_congr_left fun t ht=>ih t ht (hks t ht) (hss t ht).2) (List.map_id _)
  rw[makeTT_mk,e]
  unfold joinTT
  split
  ·rename_i h4
   have h2:=(plain_nd hk hn (.inl h4)).2
   rw[flatMap_self fun t ht=>open_other ((hss t ht).1.1 h4).1 (fun _=>((hss t ht).1.1 h4).2)]
   exact joined_two _ _ (by omega)
  split
  ·rename_i h5
   have h2:=(plain_nd hk hn (.inr h5)).2
   rw[flatMap_self fun t ht=>open_other ((hss t ht).1.2 h5) (fun e=>absurd e (by decide))]
   exact joined_two _ _ (by omega)
  ·rfl
theorem make_make {x:TT} (h:fitTT x):makeTT (makeTT x)=makeTT x:=make_self (make_ok h).1 (make_ok h).2
end Go.Proofs.YtpfokabdpmjobaaGreatDoor
/- Plain:how expr.Make goes about it:an arena of what is joined,then its parts opened. -/
namespace Go.Proofs.YtpfokabdpmjobaaGreatDoor
set_option linter.unusedSimpArgs false
set_option linter.unusedVariables false
def joinJ (n:Nd) (l:List TT):TT:=
 if n.kind=4 then joined n emptyN (l.filter fun x=>decide (x.kd≠0))else if n.kind=5 then joined n setN l else .mk n l
def jTT:TT→TT
 |.mk n ks=>joinJ n (go ks)
 where go:List TT→List TT
  |[]=>[]
  |t::ts=>jTT t::go ts
theorem jTT_go:∀ts,jTT.go ts=ts.map jTT
 |[]=>rfl
 |t::ts=>by rw[jTT.go,jTT_go ts];rfl
theorem jTT_mk (n:Nd) (ks:List TT):jTT (.mk n ks)=joinJ n (ks.map jTT):=by rw[jTT,jTT_go]
def spread (k:Int) (x:TT):List TT:=if (k=4∨k=5)∧x.kd=k then x.kids else[x]
def flTT:TT→TT
 |.mk n ks=>.mk n ((go ks).flatMap (spread n.kind))
 where go:List TT→List TT
  |[]=>[]
  |t::ts=>flTT t::go ts
theorem flTT_go:∀ts,flTT.go ts=ts.map flTT
 |[]=>rfl
 |t::ts=>by rw[flTT.go,flTT_go ts];rfl
theorem flTT_mk (n:Nd) (ks:List TT):flTT (.mk n ks)=.mk n ((ks.map flTT).flatMap (spread n.kind)):=by rw[flTT,flTT_go]
theorem fl_nd (x:TT):(flTT x).nd=x.nd:=by cases x with|mk n ks=>rw[flTT_mk];rfl
theorem fl_kd (x:TT):(flTT x).kd=x.kd:=congrArg Nd.kind (fl_nd x)
theorem flat_len_ge {α β:Type} {f:α→List β}:∀{l:List α},(∀x∈l,1≤(f x).length)→l.length≤(l.flatMap f).length
 |[],_=>Nat.le_refl _
 |x::l,h=>by
  have:=h x List.mem_cons_self
  have:=flat_len_ge (l:=l) fun y hy=>h y (List.mem_cons_of_mem _ hy)
  simp only[List.flatMap_cons,List.length_append,List.length_cons];omega
theorem flatMap_filter {α β:Type} {p:α→Bool} {f g:α→List β}:∀{l:List α},(∀x∈l,f x=if p x then g x else[])→l.flatMap f=(l.filter p).flatMap g
 |[],_=>rfl
 |x::l,h=>by
  have h1:=h x List.mem_cons_self
  have h2:=flatMap_filter (p:=p) (f:=f) (g:=g) (l:=l) fun y hy=>h y (List.mem_cons_of_mem _ hy)
  rw[List.flatMap_cons,h1,h2]
  cases hp:p x
  ·rw[List.filter_cons_of_neg (by simp[hp])];rfl
  ·rw[List.filter_cons_of_pos hp,List.flatMap_cons];rfl
theorem spread_ge {k:Int} {x:TT} (hf:fitTT x):1≤(spread k x).length:=by
 unfold spread
 split
 ·rename_i h
  cases x with
  |mk n ks=>
   obtain⟨⟨hk,hn⟩,_⟩:=fitTT_mk.1 hf
   have:=(plain_nd hk hn (by have:=h.2;simp only[TT.kd,TT.nd]at this;omega)).2
   simp only[TT.kids];omega
 ·simp
theorem joined_fl {n none:Nd} {k:Int} (hk:k=4∨k=5) (hn:n.kind=k) (hnk:n={seqN with kind:=n.kind}) (hnone:flTT (.mk none [])=.mk none []):
  ∀L:List TT,(∀y∈L,fitTT (flTT y))→flTT (joined n none L)=joined n none ((L.map flTT).flatMap (spread k))
 |[],_=>hnone
 |[y],h=>by
  have hy:=h y (by simp)
  show flTT y=joined n none ([flTT y].flatMap (spread k))
  simp only[List.flatMap_cons,List.flatMap_nil,List.append_nil]
  unfold spread
  split
  ·rename_i hh
   generalize flTT y=z at *
   cases z with
   |mk m ks=>
    obtain⟨⟨hm,hf⟩,_⟩:=fitTT_mk.1 hy
    have hmk:m.kind=k:=hh.2
    have:=plain_nd hm hf (by omega)
    rw[show(TT.mk m ks).kids=ks from rfl,joined_two _ _ (by omega),hnk,this.1,hn,hmk]
  ·rfl
 |x::y::r,h=>by
  show flTT (.mk n (x::y::r))=_
  rw[flTT_mk,hn,joined_two]
  have:=flat_len_ge (f:=spread k) (l:=(x::y::r).map flTT) fun z hz=>by
   obtain⟨u,hu,rfl⟩:=List.mem_map.1 hz
   exact spread_ge (h u hu)
  simp only[List.length_map,List.length_cons]at this
  omega
theorem fl_j {x:TT}:fitTT x→flTT (jTT x)=makeTT x:=by
 induction x using TT.ind with
 |h n ks ih=>
  intro hf
  obtain⟨⟨hk,hn⟩,hks⟩:=fitTT_mk.1 hf
  have e:ks.map makeTT=(ks.map jTT).map flTT:=by
   rw[List.map_map];exact List.map_congr_left fun t ht=>(ih t ht (hks t ht)).symm
  have hL:∀y∈ks.map jTT,fitTT (flTT y)∧shutTT (flTT y):=fun y hy=>by
   obtain⟨t,ht,rfl⟩:=List.mem_map.1 hy
   rw[ih t ht (hks t ht)];exact make_ok (hks t ht)
  rw[makeTT_mk,jTT_mk,e]
  generalize ks.map jTT=L at *
  unfold joinJ joinTT
  by_cases h4:n.kind=4
  ·rw[if_pos h4,if_pos h4,joined_fl (.inl rfl) h4 (plain_nd hk hn (.inl h4)).1 rfl _ fun y hy=>(hL y (List.mem_filter.1 hy).1).1]
   congr 1
   rw[List.flatMap_map,List.flatMap_map]
   symm
   refine flatMap_filter fun y hy=> ?_
   rw[open_shut (.inl rfl) (hL y hy).2,fl_kd]
   unfold spread
   rw[fl_kd]
   by_cases h0:y.kd=0
   ·simp[h0]
   ·simp[h0]
  ·rw[if_neg h4,if_neg h4]
   by_cases h5:n.kind=5
   ·rw[if_pos h5,if_pos h5,joined_fl (.inr rfl) h5 (plain_nd hk hn (.inr h5)).1 rfl _ fun y hy=>(hL y hy).1]
    congr 1
    rw[List.flatMap_map,List.flatMap_map]
    symm
    have:∀y∈L,openTT 5 (flTT y)=spread 5 (flTT y):=fun y hy=>by
     rw[open_shut (.inr rfl) (hL y hy).2]
     unfold spread
     by_cases hy5:(flTT y).kd=5
     ·simp[hy5]
     ·simp[hy5]
    rw[List.flatMap_def,List.flatMap_def,List.map_congr_left this]
   ·rw[if_neg h5,if_neg h5,flTT_mk]
    congr 1
    refine flatMap_self fun y _=> ?_
    unfold spread
    rw[if_neg (by omega)]
def openAF (l:List Nd) (kind:Int):Nat→Nat→List Nat
 |0,i=>[i]
 |f+1,i=>if (ndAt l i).kind=kind then(kidsAt l i).flatMap (openAF l kind f)else[i]
def openA (l:List Nd) (kind:Int) (i:Nat):List Nat:=openAF l kind (i+1) i
theorem flatMap_congr' {α β:Type} {f g:α→List β} {l:List α} (h:∀x∈l,f x=g x):l.flatMap f=l.flatMap g:=by
 rw[List.flatMap_def,List.flatMap_def,List.map_congr_left h]
theorem openAF_stable {l:List Nd} (h:Ahead l) (kind:Int):∀(f g i:Nat),i<f→i<g→openAF l kind f i=openAF l kind g i
 |0,_,_,hf,_=>by omega
 |_,0,_,_,hg=>by omega
 |f+1,g+1,i,hf,hg=>by
  simp only[openAF]
  split
  ·exact flatMap_congr' fun k hk=>openAF_stable h kind f g k (by have:=h i k hk;omega) (by have:=h i k hk;omega)
  ·rfl
theorem openA_eq {l:List Nd} (h:Ahead l) (kind:Int) (i:Nat):openA l kind i=if (ndAt l i).kind=kind then(kidsAt l i).flatMap (openA l kind)else[i]:=by
 show openAF l kind (i+1) i=_
 simp only[openAF]
 split
 ·exact flatMap_congr' fun k hk=>openAF_stable h kind i (k+1) k (h i k hk) (by omega)
 ·rfl
def partsA (l:List Nd) (i:Nat):List Nat:=
 if (ndAt l i).kind=4∨(ndAt l i).kind=5 then(kidsAt l i).flatMap (openA l (ndAt l i).kind)else kidsAt l i
theorem openA_le {l:List Nd} (h:Ahead l) (kind:Int):∀i j,j∈openA l kind i→j≤i:=by
 intro i
 induction i using Nat.strongRecOn with
 |_ i ih=>
  intro j hj
  rw[openA_eq h]at hj
  split at hj
  ·obtain⟨k,hk,hj⟩:=List.mem_flatMap.1 hj
   have:=h i k hk
   have:=ih k this j hj
   omega
  ·simp at hj;omega
theorem partsA_lt {l:List Nd} (h:Ahead l) {i j:Nat} (hj:j∈partsA l i):j<i:=by
 unfold partsA at hj
 split at hj
 ·obtain⟨k,hk,hj⟩:=List.mem_flatMap.1 hj
  have:=h i k hk
  have:=openA_le h _ k j hj
  omega
 ·exact h i j hj
theorem openA_kind {l:List Nd} (h:Ahead l) (kind:Int):∀i j,j∈openA l kind i→(ndAt l j).kind≠kind:=by
 intro i
 induction i using Nat.strongRecOn with
 |_ i ih=>
  intro j hj
  rw[openA_eq h]at hj
  split at hj
  ·obtain⟨k,hk,hj⟩:=List.mem_flatMap.1 hj
   exact ih k (h i k hk) j hj
  ·simp at hj;subst hj;assumption
def starN (l:List Nd) (i:Nat):Nd:={ndAt l i with kids:=(partsA l i).map fun k:Nat=>(k:Int)}
def starL (l:List Nd):List Nd:=(List.range l.length).map (starN l)
theorem star_length (l:List Nd):(starL l).length=l.length:=by simp[starL]
theorem star_at (l:List Nd) (i:Nat) (hi:i<l.length):(starL l)[i]?=some (starN l i):=by simp[starL,hi]
theorem star_nd (l:List Nd) (i:Nat) (hi:i<l.length):ndAt (starL l) i=starN l i:=by simp[ndAt,star_at l i hi]
theorem kids_none (l:List Nd) (i:Nat) (hi:¬i<l.length):kidsAt l i=[]:=by
 unfold kidsAt;rw[List.getElem?_eq_none (by omega)];rfl
theorem star_kids (l:List Nd) (i:Nat) (hi:i<l.length):kidsAt (starL l) i=partsA l i:=by
 rw[kidsAt_nd,star_nd l i hi,starN,List.map_map]
 exact(List.map_congr_left fun k _=>by simp).trans (List.map_id _)
def Mixed (l m:List Nd):Prop:=m.length=l.length∧ ∀i,i<l.length→ndAt m i=ndAt l i∨ndAt m i=starN l i
theorem Mixed.kind {l m:List Nd} (h:Mixed l m) (i:Nat):(ndAt m i).kind=(ndAt l i).kind:=by
 by_cases hi:i<l.length
 ·rcases h.2 i hi with e|e <;> rw[e];rfl
 ·have hm:=h.1
  unfold ndAt;rw[List.getElem?_eq_none (by omega),List.getElem?_eq_none (by omega)]
theorem Mixed.kids {l m:List Nd} (h:Mixed l m) (i:Nat):kidsAt m i=kidsAt l i∨kidsAt m i=partsA l i:=by
 by_cases hi:i<l.length
 ·rcases h.2 i hi with e|e
  ·left;rw[kidsAt_nd,e,←kidsAt_nd]
  ·right;rw[kidsAt_nd,e,←star_nd l i hi,←kidsAt_nd,star_kids l i hi]
 ·left;rw[kids_none l i hi,kids_none m i (by have:=h.1;omega)]
theorem Mixed.ahead {l m:List Nd} (h:Mixed l m) (hA:Ahead l):Ahead m:=fun i k hk=>by
 rcases h.kids i with e|e
 ·exact hA i k (e▸hk)
 ·exact partsA_lt hA (e▸hk)
theorem Mixed.open {l m:List Nd} (h:Mixed l m) (hA:Ahead l) {kind:Int} (hk:kind=4∨kind=5):∀i,openA m kind i=openA l kind i:=by
 intro i
 induction i using Nat.strongRecOn with
 |_ i ih=>
  rw[openA_eq (h.ahead hA),openA_eq hA,h.kind]
  split
  ·rename_i hi
   rcases h.kids i with e|e
   ·rw[e];exact flatMap_congr' fun k hk=>ih k (hA i k hk)
   ·rw[e]
    have e2:partsA l i=(kidsAt l i).flatMap (openA l kind):=by unfold partsA;rw[hi,if_pos hk]
    rw[e2]
    rw[flatMap_self]
    intro x hx
    obtain⟨k,hk1,hx⟩:=List.mem_flatMap.1 hx
    have h1:=openA_kind hA kind k x hx
    rw[openA_eq (h.ahead hA),h.kind,if_neg h1]
  ·rfl
theorem Mixed.parts {l m:List Nd} (h:Mixed l m) (hA:Ahead l) (i:Nat):partsA m i=partsA l i:=by
 rcases h.kids i with e|e
 ·unfold partsA
  rw[h.kind,e]
  split
  ·rename_i hk
   exact flatMap_congr' fun k _=>h.open hA hk k
  ·rfl
 ·unfold partsA
  rw[h.kind,e]
  split
  ·rename_i hk
   rw[flatMap_congr' fun k _=>h.open hA hk k]
   have e2:partsA l i=(kidsAt l i).flatMap (openA l (ndAt l i).kind):=by unfold partsA;rw[if_pos hk]
   rw[e2,flatMap_self]
   intro x hx
   obtain⟨k,hk1,hx⟩:=List.mem_flatMap.1 hx
   rw[openA_eq hA,if_neg (openA_kind hA _ k x hx)]
  ·rename_i hk
   unfold partsA;rw[if_neg hk]
theorem Mixed.refl (l:List Nd):Mixed l l:=⟨rfl,fun _ _=>.inl rfl⟩
theorem star_kidsAll (l:List Nd) (hA:Ahead l) (i:Nat):kidsAt (starL l) i=partsA l i:=by
 by_cases hi:i<l.length
 ·exact star_kids l i hi
 ·rw[kids_none _ i (by rw[star_length];exact hi)]
  unfold partsA
  rw[kids_none l i hi];split <;> rfl
theorem star_aheadZ {l:List Nd} (hA:Ahead l):AheadZ (starL l):=fun i n hn k hk=>by
 have hi:i<l.length:=by rw[←star_length l];exact(List.getElem?_eq_some_iff.1 hn).1
 rw[star_at l i hi]at hn;cases hn
 obtain⟨j,hj,rfl⟩:=List.mem_map.1 hk
 have:=partsA_lt hA hj
 omega
theorem star_den {l:List Nd} (hA:Ahead l):∀i,i<l.length→den (starL l) i=flTT (den l i):=by
 have hS:=(star_aheadZ hA).ahead
 intro i
 induction i using Nat.strongRecOn with
 |_ i ih=>
  intro hi
  rw[den_eq hS,den_eq hA,flTT_mk,star_kidsAll l hA,star_nd l i hi]
  have hb:bareN (starN l i)=bareN (ndAt l i):=rfl
  rw[hb]
  congr 1
  have ih2:∀k∈kidsAt l i,den (starL l) k=flTT (den l k):=fun k hk=>ih k (hA i k hk) (by have:=hA i k hk;omega)
  have hkd:∀k,(flTT (den l k)).kd=(ndAt l k).kind:=fun k=>by rw[fl_kd,den_eq hA];rfl
  have hkn:(bareN (ndAt l i)).kind=(ndAt l i).kind:=rfl
  rw[hkn]
  unfold partsA
  by_cases hk:(ndAt l i).kind=4∨(ndAt l i).kind=5
  ·rw[if_pos hk,List.map_flatMap,List.map_map,List.flatMap_map]
   refine flatMap_congr' fun k hki=> ?_
   unfold spread
   rw[Function.comp_apply,hkd k]
   by_cases e:(ndAt l k).kind=(ndAt l i).kind
   ·rw[if_pos ⟨hk,e⟩,←ih2 k hki,den_eq hS,star_kidsAll l hA]
    show _=(partsA l k).map (den (starL l))
    rw[openA_eq hA,if_pos e]
    unfold partsA
    rw[e,if_pos hk]
   ·rw[if_neg (fun h=>e h.2),openA_eq hA,if_neg e]
    simp only[List.map_cons,List.map_nil]
    rw[ih2 k hki]
  ·rw[if_neg hk]
   rw[flatMap_self]
   ·rw[List.map_map];exact List.map_congr_left ih2
   ·intro x _
    unfold spread
    rw[if_neg (fun h=>hk h.1)]
theorem flat_sub {α β:Type} {f g:α→List β}:∀{l:List α},(∀x∈l,(f x).Sublist (g x))→(l.flatMap f).Sublist (l.flatMap g)
 |[],_=>List.Sublist.slnil
 |x::l,h=>by
  rw[List.flatMap_cons,List.flatMap_cons]
  exact List.Sublist.append (h x List.mem_cons_self) (flat_sub fun y hy=>h y (List.mem_cons_of_mem _ hy))
theorem star_post {l:List Nd} (hA:Ahead l):∀i,(postN (starL l) i).Sublist (postN l i):=by
 have hS:=(star_aheadZ hA).ahead
 intro i
 induction i using Nat.strongRecOn with
 |_ i ih=>
  rw[postN_eq hS,postN_eq hA,star_kidsAll l hA]
  refine List.Sublist.append ?_ (List.Sublist.refl _)
  unfold partsA
  by_cases hk:(ndAt l i).kind=4∨(ndAt l i).kind=5
  ·rw[if_pos hk,List.flatMap_assoc]
   refine flat_sub fun k hki=> ?_
   have ihk:=ih k (hA i k hki)
   by_cases e:(ndAt l k).kind=(ndAt l i).kind
   ·rw[openA_eq hA,if_pos e]
    rw[postN_eq hS,star_kidsAll l hA]at ihk
    have e2:partsA l k=(kidsAt l k).flatMap (openA l (ndAt l i).kind):=by unfold partsA;rw[e,if_pos hk]
    rw[e2]at ihk
    exact(List.sublist_append_left _ _).trans ihk
   ·rw[openA_eq hA,if_neg e]
    simpa using ihk
  ·rw[if_neg hk]
   exact flat_sub fun k hki=>ih k (hA i k hki)
end Go.Proofs.YtpfokabdpmjobaaGreatDoor
/- Plain:expr.Make's arena,node by node. -/
namespace Go.Proofs.YtpfokabdpmjobaaGreatDoor
set_option linter.unusedSimpArgs false
set_option linter.unusedVariables false
def addJ (al:List Nd) (n none:Nd):List Int→List Nd×Int
 |[]=>(al++[none],(al.length:Int))
 |[x]=>(al,x)
 |x::y::ks=>(al++[{n with kids:=x::y::ks}],(al.length:Int))
def partJ (al:List Nd) (n:Nd) (ks:List Int):List Int:=ks.filter fun k=>decide (n.kind≠4)||decide ((ndAt al k.toNat).kind≠0)
def stepJ (al:List Nd) (n:Nd) (ks:List Int):List Nd×Int:=
 if n.kind=4 then addJ al n emptyN (partJ al n ks)else if n.kind=5 then addJ al n setN (partJ al n ks)else(al++[{n with kids:=ks}],(al.length:Int))
theorem nd_append {l m:List Nd} {i:Nat} (hi:i<l.length):ndAt (l++m) i=ndAt l i:=by
 unfold ndAt;rw[List.getElem?_append_left hi]
theorem nd_last (l:List Nd) (n:Nd):ndAt (l++[n]) l.length=n:=by simp[ndAt]
theorem kids_append {l m:List Nd} {i:Nat} (hi:i<l.length):kidsAt (l++m) i=kidsAt l i:=by
 rw[kidsAt_nd,kidsAt_nd,nd_append hi]
theorem AheadZ.add {l:List Nd} {n:Nd} (h:AheadZ l) (hn:∀k∈n.kids,0≤k∧k<(l.length:Int)):AheadZ (l++[n]):=fun i m hm k hk=>by
 by_cases hi:i<l.length
 ·rw[List.getElem?_append_left hi]at hm;exact h i m hm k hk
 ·have:=(List.getElem?_eq_some_iff.1 hm).1
  simp only[List.length_append,List.length_cons,List.length_nil]at this
  obtain rfl:i=l.length:=by omega
  simp at hm;subst hm;exact hn k hk
theorem post_append {l m:List Nd} (h:Ahead l) (h2:Ahead (l++m)):∀i,i<l.length→postN (l++m) i=postN l i:=by
 intro i
 induction i using Nat.strongRecOn with
 |_ i ih=>
  intro hi
  rw[postN_eq h,postN_eq h2,kids_append hi]
  congr 1
  exact flatMap_congr' fun k hk=>ih k (h i k hk) (by have:=h i k hk;omega)
def usedN (ns:List Nd) (i:Nat):List Nat:=(kidsOf (ns.take i)).map Int.toNat
def openN (ns:List Nd) (i:Nat):List Nat:=(List.range i).filter fun j=>decide (j∉usedN ns i)
theorem count_toNat {L:List Int} (h:∀k∈L,0≤k) (x:Nat):(L.map Int.toNat).count x=L.count (x:Int):=by
 rw[List.count_eq_countP,List.count_eq_countP,List.countP_map]
 refine List.countP_congr fun k hk=> ?_
 have:=h k hk
 simp only[Function.comp_apply,beq_iff_eq]
 omega
theorem right_kidsNonneg {t:Tr} (h:rightP t):∀k∈kidsOf t.nodes,0≤k:=fun k hk=>by
 obtain⟨n,hn,hk⟩:=List.mem_flatMap.1 hk
 obtain⟨i,hi⟩:=List.mem_iff_getElem?.1 hn
 exact(rightP_kid h hi hk).1
theorem used_succ (ns:List Nd) (i:Nat) (hi:i<ns.length):usedN ns (i+1)=usedN ns i++kidsAt ns i:=by
 unfold usedN
 rw[List.take_succ_eq_append_getElem hi,kidsOf,List.flatMap_append,List.map_append]
 simp[kidsAt,List.getElem?_eq_getElem hi,kidsOf]
theorem used_count {t:Tr} (h:rightP t) (i x:Nat) (hx:x<t.nodes.length):(usedN t.nodes i).count x≤1:=by
 have e:kidsOf t.nodes=kidsOf (t.nodes.take i)++kidsOf (t.nodes.drop i):=by
  unfold kidsOf;rw[←List.flatMap_append,List.take_append_drop]
 unfold usedN
 rw[count_toNat fun k hk=>right_kidsNonneg h k (by rw[e];exact List.mem_append_left _ hk)]
 have:=h.2.2 x hx
 rw[e,List.count_append]at this
 split at this <;> omega
theorem used_lt {t:Tr} (h:rightP t) (i x:Nat) (hi:i≤t.nodes.length) (hx:x∈usedN t.nodes i):x+1<i+0∨x+1≤i:=by
 obtain⟨z,hz,rfl⟩:=List.mem_map.1 hx
 obtain⟨n,hn,hk⟩:=List.mem_flatMap.1 hz
 obtain⟨j,hj⟩:=List.mem_iff_getElem?.1 hn
 have hji:j<i:=by have:=(List.getElem?_eq_some_iff.1 hj).1;rw[List.length_take]at this;omega
 rw[List.getElem?_take_of_lt hji]at hj
 have:=rightP_kid h hj hk
 omega
theorem not_used_last {t:Tr} (h:rightP t) (i:Nat) (hi:i<t.nodes.length):i∉usedN t.nodes (i+1):=fun hx=>by
 rw[used_succ _ i hi]at hx
 rcases List.mem_append.1 hx with hx|hx
 ·have:=used_lt h i i (by omega) hx;omega
 ·have:=rightP_ahead h i i hx;omega
theorem open_perm {t:Tr} (h:rightP t) (i:Nat) (hi:i<t.nodes.length):
  ∃W:List Nat,openN t.nodes (i+1)=W++[i]∧(kidsAt t.nodes i++W).Perm (openN t.nodes i)∧ ∀j∈W,j<i:=by
 refine⟨(List.range i).filter fun j=>decide (j∉usedN t.nodes (i+1)),?_,?_,fun j hj=>List.mem_range.1 (List.mem_filter.1 hj).1⟩
 ·unfold openN
  rw[List.range_succ,List.filter_append]
  congr 1
  rw[List.filter_cons_of_pos (by simpa using not_used_last h i hi)];rfl
 ·rw[List.perm_iff_count]
  intro x
  have hK:∀k∈kidsAt t.nodes i,k<i:=fun k hk=>rightP_ahead h i k hk
  have hf:∀p:Nat→Bool,((List.range i).filter p).count x=if x<i∧p x=true then 1 else 0:=fun p=>by
   have hnd:((List.range i).filter p).Nodup:=List.Sublist.nodup List.filter_sublist List.nodup_range
   by_cases hm:x∈(List.range i).filter p
   ·rw[if_pos (by have:=List.mem_filter.1 hm;exact⟨List.mem_range.1 this.1,this.2⟩)]
    exact Nat.le_antisymm (List.nodup_iff_count.1 hnd x) (List.count_pos_iff.2 hm)
   ·rw[if_neg (fun hh=>hm (List.mem_filter.2 ⟨List.mem_range.2 hh.1,hh.2⟩))]
    exact List.count_eq_zero.2 hm
  unfold openN
  rw[List.count_append,hf,hf]
  by_cases hxi:x<i
  ·have hc:=used_count h (i+1) x (by omega)
   rw[used_succ _ i hi,List.count_append]at hc
   have e1:(x∈usedN t.nodes i)↔0<(usedN t.nodes i).count x:=List.count_pos_iff.symm
   have e2:(x∈kidsAt t.nodes i)↔0<(kidsAt t.nodes i).count x:=List.count_pos_iff.symm
   simp only[decide_eq_true_eq,used_succ _ i hi,List.mem_append,e1,e2,hxi,true_and]
   by_cases a:0<(usedN t.nodes i).count x
   ·rw[if_neg (by omega),if_neg (by omega)];omega
   ·by_cases b:0<(kidsAt t.nodes i).count x
    ·rw[if_neg (by omega),if_pos (by omega)];omega
    ·rw[if_pos (by omega),if_pos (by omega)];omega
  ·rw[if_neg (fun hh=>hxi hh.1),if_neg (fun hh=>hxi hh.1)]
   have:x∉kidsAt t.nodes i:=fun hh=>hxi (hK x hh)
   rw[List.count_eq_zero.2 this]
theorem open_root {t:Tr} (h:rightP t):t.root.toNat∈openN t.nodes t.nodes.length:=by
 have h0:=h.1
 have h1:=h.2.2 t.root.toNat (by omega)
 rw[if_pos (by omega)]at h1
 refine List.mem_filter.2 ⟨List.mem_range.2 (by omega),?_⟩
 simp only[decide_eq_true_eq]
 intro hx
 unfold usedN at hx
 rw[List.take_length]at hx
 have:=List.count_pos_iff.2 hx
 rw[count_toNat (right_kidsNonneg h)]at this
 omega
structure MakeInv (t:Tr) (i:Nat) (al:List Nd) (pl:Nat→Int):Prop where
 ahead:AheadZ al
 nonneg:∀j,j<i→0≤pl j
 rep:∀j,j<i→Rep al (jTT (den t.nodes j)) (pl j).toNat
 apart:((openN t.nodes i).flatMap fun j=>postN al (pl j).toNat).Nodup
theorem rep_kind {l:List Nd} {x:TT} {i:Nat} (h:Rep l x i):(ndAt l i).kind=x.kd:=by
 cases x with
 |mk n ks=>
  obtain⟨m,hm,hb,_⟩:=rep_iff.1 h
  unfold ndAt
  rw[hm]
  exact kind_bare' hb
 where kind_bare' {n m:Nd} (h:bareN m=n):m.kind=n.kind:=by rw[←h];rfl
theorem rep_add {al:List Nd} {n:Nd} {ks:List Int} {xs:List TT} (hl:ks.length=xs.length) (h:∀j (h1:j<ks.length) (h2:j<xs.length),0≤ks[j]∧Rep al xs[j] ks[j].toNat):
  Rep (al++[{n with kids:=ks}]) (.mk (bareN n) xs) al.length:=by
 refine rep_iff.2 ⟨{n with kids:=ks},by simp,rfl,hl,fun j h1 h2=>⟨(h j h1 h2).1,(h j h1 h2).2.append⟩⟩
theorem rep_leaf {al:List Nd} {n:Nd} (h:n.kids=[]):Rep (al++[n]) (.mk n []) al.length:=
 rep_iff.2 ⟨n,by simp,bare_of h,by rw[h];rfl,fun j h1 h2=>by simp at h2⟩
theorem filter_map_pair {al:List Nd} {p:TT→Bool} {q:Int→Bool}:∀(ks:List Int) (xs:List TT),ks.length=xs.length→(∀j (h1:j<ks.length) (h2:j<xs.length),(0≤ks[j]∧Rep al xs[j] ks[j].toNat)∧q ks[j]=p xs[j]) →
  (ks.filter q).length=(xs.filter p).length∧ ∀j (h1:j<(ks.filter q).length) (h2:j<(xs.filter p).length),0≤(ks.filter q)[j]∧Rep al (xs.filter p)[j] (ks.filter q)[j].toNat
 |[],[],_,_=>⟨rfl,fun j h1 _=>by simp at h1⟩
 |[],_::_,h,_=>by simp at h
 |_::_,[],h,_=>by simp at h
 |k::ks,x::xs,hl,h=>by
  have h0:=h 0 (by simp) (by simp)
  simp only[List.getElem_cons_zero]at h0
  obtain⟨ih1,ih2⟩:=filter_map_pair (p:=p) (q:=q) ks xs (by simpa using hl) fun j h1 h2=>h (j+1) (by simpa using h1) (by simpa using h2)
  cases hp:p x
  ·rw[List.filter_cons_of_neg (by simp[h0.2,hp]),List.filter_cons_of_neg (by simp[hp])]
   exact⟨ih1,ih2⟩
  ·have hq:q k=true:=by rw[h0.2,hp]
   simp only[List.filter_cons_of_pos hq,List.filter_cons_of_pos hp]
   refine⟨by simp[ih1],fun j h1 h2=> ?_⟩
   cases j with
   |zero=>exact h0.1
   |succ j=>exact ih2 j (by simpa using h1) (by simpa using h2)
theorem rep_stepJ {al:List Nd} {n:Nd} {ks:List Int} {xs:List TT} (hl:ks.length=xs.length) (h:∀j (h1:j<ks.length) (h2:j<xs.length),0≤ks[j]∧Rep al xs[j] ks[j].toNat):
  0≤(stepJ al n ks).2∧Rep (stepJ al n ks).1 (joinJ (bareN n) xs) (stepJ al n ks).2.toNat:=by
 have hadd:∀(none:Nd) (ks:List Int) (xs:List TT),none.kids=[]→ks.length=xs.length→(∀j (h1:j<ks.length) (h2:j<xs.length),0≤ks[j]∧Rep al xs[j] ks[j].toNat) →
   0≤(addJ al n none ks).2∧Rep (addJ al n none ks).1 (joined (bareN n) none xs) (addJ al n none ks).2.toNat:=by
  intro none ks xs hnone hl h
  match ks,xs,hl with
  |[],[],_=>exact⟨by simp[addJ],by simpa[addJ,joined]using rep_leaf hnone⟩
  |[k],[x],_=>exact⟨(h 0 (by simp) (by simp)).1,(h 0 (by simp) (by simp)).2⟩
  |k::k2::ks,x::x2::xs,hl=>exact⟨by simp[addJ],by
    have:=rep_add (al:=al) (n:=n) hl h
    simpa[addJ,joined]using this⟩
 unfold stepJ joinJ
 have hkind:(bareN n).kind=n.kind:=rfl
 rw[hkind]
 by_cases h4:n.kind=4
 ·rw[if_pos h4,if_pos h4]
  obtain⟨f1,f2⟩:=filter_map_pair (al:=al) (p:=fun x=>decide (x.kd≠0)) (q:=fun k=>decide (n.kind≠4)||decide ((ndAt al k.toNat).kind≠0)) ks xs hl fun j h1 h2=>⟨h j h1 h2,by rw[rep_kind (h j h1 h2).2];simp[h4]⟩
  exact hadd emptyN _ _ rfl f1 f2
 ·rw[if_neg h4,if_neg h4]
  have e:partJ al n ks=ks:=by
   unfold partJ
   rw[List.filter_eq_self]
   intro k _;simp[h4]
  by_cases h5:n.kind=5
  ·rw[if_pos h5,if_pos h5,e]
   exact hadd setN _ _ rfl hl h
  ·rw[if_neg h5,if_neg h5]
   exact⟨by simp,by simpa using rep_add (n:=n) hl h⟩
theorem addJ_shape (al:List Nd) (n none:Nd) (hnone:none.kids=[]) (ks:List Int):∃L:List Int,L=ks∧((∃x,L=[x]∧addJ al n none ks=(al,x))∨ ∃m:Nd,m.kids=L∧addJ al n none ks=(al++[m],(al.length:Int))):=by
 match ks with
 |[]=>exact⟨[],rfl,.inr ⟨none,hnone,rfl⟩⟩
 |[x]=>exact⟨[x],rfl,.inl ⟨x,rfl,rfl⟩⟩
 |x::y::ks=>exact⟨x::y::ks,rfl,.inr ⟨{n with kids:=x::y::ks},rfl,rfl⟩⟩
theorem stepJ_shape (al:List Nd) (n:Nd) (ks:List Int):∃L:List Int,L.Sublist ks∧((∃x,L=[x]∧stepJ al n ks=(al,x))∨ ∃m:Nd,m.kids=L∧stepJ al n ks=(al++[m],(al.length:Int))):=by
 unfold stepJ
 split
 ·obtain⟨L,rfl,h⟩:=addJ_shape al n emptyN rfl (partJ al n ks)
  exact⟨_,List.filter_sublist,h⟩
 split
 ·obtain⟨L,rfl,h⟩:=addJ_shape al n setN rfl (partJ al n ks)
  exact⟨_,List.filter_sublist,h⟩
 ·exact⟨ks,List.Sublist.refl _,.inr ⟨_,rfl,rfl⟩⟩
theorem flat_subl {α β:Type} {f:α→List β} {l m:List α} (h:l.Sublist m):(l.flatMap f).Sublist (m.flatMap f):=by
 induction h with
 |slnil=>exact List.Sublist.refl _
 |cons a _ ih=>rw[List.flatMap_cons];exact ih.trans (List.sublist_append_right _ _)
 |cons_cons a _ ih=>rw[List.flatMap_cons,List.flatMap_cons];exact List.Sublist.append (List.Sublist.refl _) ih
theorem MakeInv.start (t:Tr) (pl:Nat→Int):MakeInv t 0 [] pl:=⟨fun i n hn=>by simp at hn,fun j hj=>absurd hj (by omega),fun j hj=>absurd hj (by omega),by simp[openN]⟩
theorem MakeInv.step {t:Tr} (h:rightP t) {i:Nat} {al:List Nd} {pl:Nat→Int} (inv:MakeInv t i al pl) {n:Nd} (hn:t.nodes[i]?=some n):
  MakeInv t (i+1) (stepJ al n (n.kids.map fun z=>pl z.toNat)).1 (fun j=>if j=i then(stepJ al n (n.kids.map fun z=>pl z.toNat)).2 else pl j):=by
 obtain⟨hi,hni⟩:=List.getElem?_eq_some_iff.1 hn
 have hA:=rightP_ahead h
 have hkid:∀z∈n.kids,0≤z∧z.toNat<i:=fun z hz=>by have:=rightP_kid h hn hz;omega
 have hnd:ndAt t.nodes i=n:=by unfold ndAt;rw[hn];rfl
 have hke:kidsAt t.nodes i=n.kids.map Int.toNat:=by rw[kidsAt_nd,hnd]
 have hden:jTT (den t.nodes i)=joinJ (bareN n) ((n.kids.map fun z=>z.toNat).map fun j=>jTT (den t.nodes j)):=by
  rw[den_eq hA,jTT_mk,hnd,hke,List.map_map];rfl
 have hR:=rep_stepJ (al:=al) (n:=n) (ks:=n.kids.map fun z=>pl z.toNat) (xs:=(n.kids.map fun z=>z.toNat).map fun j=>jTT (den t.nodes j)) (by simp) fun j h1 h2=>by
  simp only[List.length_map]at h1
  have:=hkid _ (List.getElem_mem h1)
  simp only[List.getElem_map]
  exact⟨inv.nonneg _ this.2,inv.rep _ this.2⟩
 rw[←hden]at hR
 have hks:∀k∈n.kids.map (fun z=>pl z.toNat),0≤k∧k<(al.length:Int):=fun k hk=>by
  obtain⟨z,hz,rfl⟩:=List.mem_map.1 hk
  have h1:=hkid z hz
  have h2:=inv.nonneg _ h1.2
  have h3:=(inv.rep _ h1.2).lt
  omega
 have hflat:(kidsAt t.nodes i).flatMap (fun j=>postN al (pl j).toNat)=(n.kids.map fun z=>pl z.toNat).flatMap fun k=>postN al k.toNat:=by
  rw[hke,List.flatMap_map,List.flatMap_map]
 generalize hKs:(n.kids.map fun z=>pl z.toNat)=ks at *
 obtain⟨W,hW,hperm,hWi⟩:=open_perm h i hi
 have hap:((ks.flatMap fun k=>postN al k.toNat)++W.flatMap fun j=>postN al (pl j).toNat).Nodup:=by
  have:=(hperm.flatMap_right fun j=>postN al (pl j).toNat).nodup_iff.2 inv.apart
  rwa [List.flatMap_append,hflat]at this
 have hWlt:∀x∈W.flatMap fun j=>postN al (pl j).toNat,x<al.length:=fun x hx=>by
  obtain⟨j,hj,hx⟩:=List.mem_flatMap.1 hx
  have:=postN_le inv.ahead.ahead _ x hx
  have:=(inv.rep j (hWi j hj)).lt
  omega
 obtain⟨L,hLs,hsh⟩:=stepJ_shape al n ks
 have hLk:∀k∈L,0≤k∧k<(al.length:Int):=fun k hk=>hks k (hLs.subset hk)
 have hsubL:(L.flatMap fun k=>postN al k.toNat).Sublist (ks.flatMap fun k=>postN al k.toNat):=flat_subl hLs
 have hnW:((W.flatMap fun j=>postN al (pl j).toNat)++L.flatMap fun k=>postN al k.toNat).Nodup:=by
  refine List.perm_append_comm.nodup_iff.1 (List.Sublist.nodup (List.Sublist.append hsubL (List.Sublist.refl _)) hap)
 have hWF:∀(f:Nat→Int) (y:Int),W.flatMap (fun j=>postN al ((fun j=>if j=i then y else pl j) j).toNat)=W.flatMap fun j=>postN al (pl j).toNat:=fun _ y=>
  flatMap_congr' fun j hj=>by have:=hWi j hj;simp[show j≠i by omega]
 rcases hsh with⟨x,rfl,e⟩|⟨m,rfl,e⟩
 ·rw[e]at hR ⊢
  refine⟨inv.ahead,fun j hj=> ?_,fun j hj=> ?_,?_⟩
  ·by_cases ej:j=i
   ·simp only[ej,if_true];exact hR.1
   ·simp only[ej,if_false];exact inv.nonneg j (by omega)
  ·by_cases ej:j=i
   ·subst ej;simp only[if_true];exact hR.2
   ·simp only[ej,if_false];exact inv.rep j (by omega)
  ·rw[hW,List.flatMap_append,hWF pl]
   simpa using hnW
 ·rw[e]at hR ⊢
  have hA2:AheadZ (al++[m]):=inv.ahead.add hLk
  refine⟨hA2,fun j hj=> ?_,fun j hj=> ?_,?_⟩
  ·by_cases ej:j=i
   ·simp only[ej,if_true];exact hR.1
   ·simp only[ej,if_false];exact inv.nonneg j (by omega)
  ·by_cases ej:j=i
   ·subst ej;simp only[if_true];exact hR.2
   ·simp only[ej,if_false];exact(inv.rep j (by omega)).append
  ·have hpo:∀p,p<al.length→postN (al++[m]) p=postN al p:=post_append inv.ahead.ahead hA2.ahead
   have e1:(W.flatMap fun j=>postN (al++[m]) ((fun j=>if j=i then(al.length:Int)else pl j) j).toNat)=W.flatMap fun j=>postN al (pl j).toNat:=flatMap_congr' fun j hj=>by
    have hji:=hWi j hj
    simp only[show j≠i by omega,if_false]
    exact hpo _ (inv.rep j hji).lt
   have e2:postN (al++[m]) al.length=(m.kids.flatMap fun k=>postN al k.toNat)++[al.length]:=by
    rw[postN_eq hA2.ahead,kidsAt_nd,nd_last,List.flatMap_map]
    congr 1
    exact flatMap_congr' fun k hk=>hpo _ (by have:=hLk k hk;omega)
   rw[hW,List.flatMap_append,e1]
   simp only[List.flatMap_cons,List.flatMap_nil,List.append_nil,if_true,Int.toNat_natCast,e2]
   rw[←List.append_assoc,List.nodup_append]
   refine⟨hnW,by simp,fun a ha b hb hab=> ?_⟩
   simp only[List.mem_singleton]at hb
   subst hb;subst hab
   rcases List.mem_append.1 ha with ha|ha
   ·exact absurd (hWlt _ ha) (by omega)
   ·obtain⟨k,hk,ha⟩:=List.mem_flatMap.1 ha
    have:=postN_le inv.ahead.ahead _ _ ha
    have:=hLk k hk
    omega
theorem MakeInv.nodup {t:Tr} (h:rightP t) {al:List Nd} {pl:Nat→Int} (inv:MakeInv t t.nodes.length al pl):(postN al (pl t.root.toNat).toNat).Nodup:=by
 have:=open_root h
 obtain⟨a,b,e⟩:=List.append_of_mem this
 have hap:=inv.apart
 rw[e,List.flatMap_append,List.flatMap_cons,List.nodup_append]at hap
 exact(List.nodup_append.1 hap.2.1).1
theorem fit_bare' (n:Nd) (k:Int):fitN (bareN n) k=fitN n k:=rfl
theorem right_fit {t:Tr} (h:rightP t):∀i,i<t.nodes.length→fitTT (den t.nodes i):=by
 have hA:=rightP_ahead h
 intro i
 induction i using Nat.strongRecOn with
 |_ i ih=>
  intro hi
  have hn:=List.getElem?_eq_getElem hi
  have hnd:ndAt t.nodes i=t.nodes[i]:=by unfold ndAt;rw[hn];rfl
  rw[den_eq hA,fitTT_mk]
  refine⟨⟨rfl,?_⟩,fun x hx=> ?_⟩
  ·rw[fit_bare',List.length_map,kidsAt_nd,List.length_map,hnd]
   exact rightP_fit h hn
  ·obtain⟨k,hk,rfl⟩:=List.mem_map.1 hx
   have:=hA i k hk
   exact ih k this (by omega)
theorem MakeInv.done {t:Tr} (h:rightP t) (hf:fitTT (den t.nodes t.root.toNat)) {al:List Nd} {pl:Nat→Int} (inv:MakeInv t t.nodes.length al pl):
  (postN (starL al) (pl t.root.toNat).toNat).Nodup∧takenT ⟨starL al,0⟩ (pl t.root.toNat).toNat=treeOf (makeTT (den t.nodes t.root.toNat)):=by
 have hr:t.root.toNat<t.nodes.length:=by have:=h.1;omega
 have hrep:=inv.rep _ hr
 have hnd:(postN al (pl t.root.toNat).toNat).Nodup:=by
  have:=open_root h
  obtain⟨a,b,e⟩:=List.append_of_mem this
  have hap:=inv.apart
  rw[e,List.flatMap_append,List.flatMap_cons,List.nodup_append]at hap
  exact(List.nodup_append.1 hap.2.1).1
 have hn2:=List.Sublist.nodup (star_post inv.ahead.ahead _) hnd
 refine⟨hn2,?_⟩
 rw[takenT_of (t:=⟨starL al,0⟩) (star_aheadZ inv.ahead.ahead).ahead hn2]
 congr 1
 show den (starL al) _=_
 rw[star_den inv.ahead.ahead _ hrep.lt,hrep.den inv.ahead,fl_j hf]
end Go.Proofs.YtpfokabdpmjobaaGreatDoor
