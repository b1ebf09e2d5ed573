/- Plain: trees as such, and the arenas that they stand in. -/
import Derived.Test.YtdnochjajoiooaaGreatDoorDq
namespace Go.Proofs.YtdnochjajoiooaaGreatDoor
set_option linter.unusedSimpArgs false
set_option linter.unusedVariables false
inductive TT where
 |mk:Nd->List TT->TT
def TT.nd:TT->Nd
 |.mk n _=>n
def TT.kids:TT->List TT
 |.mk _ k=>k
theorem TT.ind {P:TT->Prop} (h:∀n ks,(∀t∈ks,P t)->P (.mk n ks)):∀t,P t
 |.mk n ks=>h n ks (go ks)
 where go:∀ts:List TT,∀t∈ts,P t
  |[],_,h=>nomatch h
  |t::ts,x,hx=>(List.mem_cons.1 hx).elim (fun e=>e▸TT.ind h t) (fun m=>go ts x m)
def BJ:TT->List Nd
 |.mk n ks=>G2 0 (go ks)++[{n with kids:=CR 0 (go ks)}]
 where go:List TT->List (List Nd)
  |[]=>[]
  |t::ts=>BJ t::go ts
theorem NS:∀ts,BJ.go ts=ts.map BJ
 |[]=>rfl
 |t::ts=>by rw[BJ.go,NS ts];rfl
theorem G5 (n:Nd) (ks:List TT):BJ (.mk n ks)=G2 0 (ks.map BJ)++[{n with kids:=CR 0 (ks.map BJ)}]:=by rw[BJ,NS]
def DC (x:TT):Tr:=⟨BJ x,((BJ x).length:Int)-1⟩
def PB (l:List Nd):Nat->Nat->TT
 |0,i=>.mk (DJ (An l i)) []
 |f+1,i=>.mk (DJ (An l i)) ((Ab l i).map (PB l f))
def den (l:List Nd) (i:Nat):TT:=PB l (i+1) i
theorem JV {l:List Nd} (h:AR l):∀(f g i:Nat),i<f->i<g->PB l f i=PB l g i
 |0,_,_,hf,_=>by omega
 |_,0,_,_,hg=>by omega
 |f+1,g+1,i,hf,hg=>by
  simp only[PB];congr 1;exact List.map_congr_left fun k hk=>JV h f g k (by have:=h i k hk;omega) (by have:=h i k hk;omega)
theorem ER {l:List Nd} (h:AR l) (i:Nat):den l i=.mk (DJ (An l i)) ((Ab l i).map (den l)):=by
 show PB l (i+1) i=_;simp only[PB];congr 1;exact List.map_congr_left fun k hk=>JV h i (k+1) k (h i k hk) (by omega)
theorem NT {l:List Nd} (h:AR l) {i k:Nat} (hk:k∈Ab l i) (hn:(Ak l i).Nodup):(Ak l k).Nodup:=by
 rw[AW h,List.nodup_append]at hn;obtain⟨a,b,e⟩:=List.append_of_mem hk;have:=hn.1;rw[e,List.flatMap_append,List.flatMap_cons,List.nodup_append]at this;exact(List.nodup_append.1 this.2.1).1
theorem Ir {l:List Nd} (h:AR l):∀i,(Ak l i).Nodup->BH l i=BJ (den l i):=by
 intro i;induction i using Nat.strongRecOn with
 |_ i ih=>
  intro hn;rw[O3 h hn,ER h,G5,List.map_map];have e:(Ab l i).map (BH l)=(Ab l i).map (BJ ∘ den l):=List.map_congr_left fun k hk=>ih k (h i k hk) (NT h hk hn)
  rw[e];rfl
theorem Si {t:Tr} (h:AR t.nodes) {i:Nat} (hn:(Ak t.nodes i).Nodup):EV t i=DC (den t.nodes i):=by
 unfold EV DC;rw[<-Ir h i hn,DQ]
def Rep (l:List Nd):TT->Nat->Prop
 |.mk n ks,i=>∃m,l[i]?=some m/\DJ m=n/\go m.kids ks
 where go:List Int->List TT->Prop
  |[],[]=>True
  |z::zs,t::ts=>(0<=z/\Rep l t z.toNat)/\go zs ts
  |_,_=>False
theorem TR {l:List Nd}:∀(zs:List Int) (ts:List TT),Rep.go l zs ts↔zs.length=ts.length/\ ∀j (h:j<zs.length) (h':j<ts.length),0<=zs[j]/\Rep l ts[j] zs[j].toNat
 |[],[]=>by simp[Rep.go]
 |[],_::_=>by simp[Rep.go]
 |_::_,[]=>by simp[Rep.go]
 |z::zs,t::ts=>by
  rw[Rep.go,TR zs ts];constructor
  ·rintro⟨h0,h1,h2⟩;refine⟨by simp[h1],fun j h h'=> ?_⟩;cases j with
   |zero=>exact h0
   |succ j=>exact h2 j (by simpa using h) (by simpa using h')
  ·rintro⟨h1,h2⟩;refine⟨h2 0 (by simp) (by simp),by simpa using h1,fun j h h'=> ?_⟩;exact h2 (j+1) (by simpa using h) (by simpa using h')
theorem EG {l:List Nd} {n:Nd} {ks:List TT} {i:Nat}:Rep l (.mk n ks) i↔ ∃m,l[i]?=some m/\DJ m=n/\m.kids.length=ks.length/\ ∀j (h:j<m.kids.length) (h':j<ks.length),0<=m.kids[j]/\Rep l ks[j] m.kids[j].toNat:=by
 rw[Rep];simp only[TR]
theorem Rep.lt {l:List Nd} {x:TT} {i:Nat} (h:Rep l x i):i<l.length:=by
 cases x with
 |mk n ks=>
  obtain⟨m,hm,_⟩:=EG.1 h;exact(List.getElem?_eq_some_iff.1 hm).1
theorem Rep.append {l m:List Nd} {x:TT}:∀{i:Nat},Rep l x i->Rep (l++m) x i:=by
 induction x using TT.ind with
 |h n ks ih=>
  intro i h;obtain⟨a,ha,hb,hl,hk⟩:=EG.1 h;refine EG.2 ⟨a,?_,hb,hl,fun j h1 h2=>⟨(hk j h1 h2).1,ih _ (List.getElem_mem h2) (hk j h1 h2).2⟩⟩;rw[List.getElem?_append_left (List.getElem?_eq_some_iff.1 ha).1];exact ha
theorem Rep.unique {l:List Nd} {x:TT}:∀{y:TT} {i:Nat},Rep l x i->Rep l y i->x=y:=by
 induction x using TT.ind with
 |h n ks ih=>
  intro y i h k;cases y with
  |mk n' ks'=>
   obtain⟨a,ha,hb,hl,hk⟩:=EG.1 h;obtain⟨a',ha',hb',hl',hk'⟩:=EG.1 k;rw[ha]at ha';cases ha';rw[hb]at hb';subst hb';congr 1;refine List.ext_getElem (by omega) fun j h1 h2=> ?_
   exact ih _ (List.getElem_mem h1) (hk j (by omega) h1).2 (hk' j (by omega) h2).2
def AheadZ (l:List Nd):Prop:=∀(i:Nat) (n:Nd),l[i]?=some n-> ∀k∈n.kids,0<=k/\k<(i:Int)
theorem AheadZ.ahead {l:List Nd} (h:AheadZ l):AR l:=fun i k hk=>by
 simp only[Ab,List.mem_map]at hk;obtain⟨z,hz,rfl⟩:=hk;cases e:l[i]? with
 |none=>rw[e]at hz;simp at hz
 |some n=>
  rw[e]at hz;have:=h i n e z (by simpa using hz);omega
theorem VV {l:List Nd} (h:AheadZ l):∀i,i<l.length->Rep l (den l i) i:=by
 have hA:=h.ahead;intro i;induction i using Nat.strongRecOn with
 |_ i ih=>
  intro hi;have e:=List.getElem?_eq_getElem hi;have en:An l i=l[i]:=by simp[An,e]
  have ek:Ab l i=l[i].kids.map Int.toNat:=by rw[B6,en]
  rw[ER hA];refine EG.2 ⟨l[i],e,by rw[en],by rw[ek];simp,fun j h1 h2=> ?_⟩;have hk:=h i _ e _ (List.getElem_mem h1);refine⟨hk.1,?_⟩;have:=ih l[i].kids[j].toNat (by omega) (by omega);simpa[ek]using this
theorem Rep.den {l:List Nd} {x:TT} (hA:AheadZ l) {i:Nat} (h:Rep l x i):den l i=x:=
 (VV hA i h.lt).unique h
theorem Rf {n:Nd} (h:n.kids=[]):DJ n=n:=by cases n;simp only[DJ]at h ⊢;rw[h]
theorem Np (x:TT):1<=(BJ x).length:=by cases x with|mk n ks=>rw[G5];simp
theorem I7:∀(off:Nat) (T:List (List Nd)),(CR off T).length=T.length
 |_,[]=>rfl
 |off,t::ts=>by simp only[CR,List.length_cons,I7]
theorem Jw:∀(off p:Nat) (T:List (List Nd)),(G2 off T).map (Gi p)=G2 (p+off) T
 |_,_,[]=>rfl
 |off,p,t::ts=>by
  simp only[G2,List.map_append,List.map_map,Jw (off+t.length) p ts];congr 1
  ·refine List.map_congr_left fun n _=> ?_
   simp only[Function.comp_apply,Gi,List.map_map];congr 1;refine List.map_congr_left fun z _=> ?_
   simp only[Function.comp_apply];omega
  ·congr 1;omega
theorem KI:∀(off p:Nat) (T:List (List Nd)),(CR off T).map (· + (p:Int))=CR (p+off) T
 |_,_,[]=>rfl
 |off,p,t::ts=>by
  simp only[CR,List.map_cons,KI (off+t.length) p ts];congr 1
  ·omega
  ·congr 1;omega
end Go.Proofs.YtdnochjajoiooaaGreatDoor
/- Plain:what makes a tree normal. -/
namespace Go.Proofs.YtdnochjajoiooaaGreatDoor
set_option linter.unusedSimpArgs false
set_option linter.unusedVariables false
def Bi:Nd:=⟨0,0,0,0,0,⟨#[]⟩,0,0,[]⟩
def KJ:Nd:=⟨1,0,0,0,0,⟨#[]⟩,0,0,[]⟩
def F9:Nd:=⟨4,0,0,0,0,⟨#[]⟩,0,0,[]⟩
def CT:Nd:=⟨5,0,0,0,0,⟨#[]⟩,0,0,[]⟩
abbrev TT.kd (x:TT):Int:=x.nd.kind
def BL:TT->Prop
 |.mk n ks=>(n.kids=[]/\Am n ks.length=true)/\go ks
 where go:List TT->Prop
  |[]=>True
  |t::ts=>BL t/\go ts
theorem NU:∀ts,BL.go ts↔ ∀t∈ts,BL t
 |[]=>by simp[BL.go]
 |t::ts=>by rw[BL.go,NU ts];simp
theorem BG {n:Nd} {ks:List TT}:BL (.mk n ks)↔(n.kids=[]/\Am n ks.length=true)/\ ∀t∈ks,BL t:=by rw[BL,NU]
theorem FE {n:Nd} {k:Int} (hk:n.kids=[]) (h:Am n k=true) (h4:n.kind=4\/n.kind=5):n={F9 with kind:=n.kind}/\2<=k:=by
 obtain⟨kind,s0,s1,s2,s3,text,mn,mx,kids⟩:=n;simp only at hk h4;subst hk;rcases h4 with rfl|rfl <;>
 ·simp[Am,BQ,Ay,Ah]at h;obtain⟨⟨⟨⟨rfl,rfl,rfl,rfl⟩,ht⟩,rfl,rfl⟩,h2⟩:=h;refine⟨?_,h2⟩
  have:text=⟨#[]⟩:=by
   cases text with
   |mk d=>rw[Array.eq_empty_of_size_eq_zero (show d.size=0 from congrArg ByteArray.size ht)]
  rw[this];rfl
theorem Nq {k:Nat} (h:2<=k):Am F9 k=true/\Am CT k=true:=by
 constructor <;> simp[Am,F9,CT,BQ,Ay,Ah,h,ByteArray.size] <;> omega
theorem Jy:BL (.mk Bi [])/\BL (.mk KJ []):=⟨BG.2 ⟨⟨rfl,by decide⟩,by simp⟩,BG.2 ⟨⟨rfl,by decide⟩,by simp⟩⟩
def CU (kind:Int):TT->List TT
 |.mk n ks=>if n.kind=kind then go ks else if kind=4/\n.kind=0 then[]else[.mk n ks]
 where go:List TT->List TT
  |[]=>[]
  |t::ts=>CU kind t++go ts
theorem Mm (kind:Int):∀ts,CU.go kind ts=ts.flatMap (CU kind)
 |[]=>rfl
 |t::ts=>by rw[CU.go,Mm kind ts];rfl
theorem Jz (kind:Int) (n:Nd) (ks:List TT):CU kind (.mk n ks)=if n.kind=kind then ks.flatMap (CU kind)else if kind=4/\n.kind=0 then[]else[.mk n ks]:=by rw[CU,Mm]
def CQ (n none:Nd):List TT->TT
 |[]=>.mk none []
 |[x]=>x
 |x::y::l=>.mk n (x::y::l)
theorem KK (n none:Nd) {l:List TT} (h:2<=l.length):CQ n none l=.mk n l:=by
 match l,h with
 |_::_::_,_=>rfl
def KL (n:Nd) (l:List TT):TT:=
 if n.kind=4 then CQ n Bi (l.flatMap (CU 4))else if n.kind=5 then CQ n KJ (l.flatMap (CU 5))else .mk n l
def Bo:TT->TT
 |.mk n ks=>KL n (go ks)
 where go:List TT->List TT
  |[]=>[]
  |t::ts=>Bo t::go ts
theorem Mn:∀ts,Bo.go ts=ts.map Bo
 |[]=>rfl
 |t::ts=>by rw[Bo.go,Mn ts];rfl
theorem J0 (n:Nd) (ks:List TT):Bo (.mk n ks)=KL n (ks.map Bo):=by rw[Bo,Mn]
def CV:TT->Prop
 |.mk n ks=>go n.kind ks
 where go (k:Int):List TT->Prop
  |[]=>True
  |t::ts=>((k=4->t.nd.kind≠4/\t.nd.kind≠0)/\(k=5->t.nd.kind≠5))/\CV t/\go k ts
theorem Mo (k:Int):∀ts,CV.go k ts↔ ∀t∈ts,((k=4->t.kd≠4/\t.kd≠0)/\(k=5->t.kd≠5))/\CV t
 |[]=>by simp[CV.go]
 |t::ts=>by rw[CV.go,Mo k ts];simp only[List.mem_cons,forall_eq_or_imp,and_assoc]
theorem EM {n:Nd} {ks:List TT}:CV (.mk n ks)↔ ∀t∈ks,((n.kind=4->t.kd≠4/\t.kd≠0)/\(n.kind=5->t.kd≠5))/\CV t:=by rw[CV,Mo]
theorem PC {kind:Int} {x:TT} (h:x.kd≠kind) (h0:kind=4->x.kd≠0):CU kind x=[x]:=by
 cases x with
 |mk n ks=>
  have h:n.kind≠kind:=h;rw[Jz,if_neg h,if_neg (fun e=>h0 e.1 e.2)]
theorem Di {α:Type} {f:α->List α}:∀{l:List α},(∀x∈l,f x=[x])->l.flatMap f=l
 |[],_=>rfl
 |x::l,h=>by rw[List.flatMap_cons,h x List.mem_cons_self,Di fun y hy=>h y (List.mem_cons_of_mem _ hy)];rfl
theorem J1 {kind:Int} {x:TT} (hk:kind=4\/kind=5) (hs:CV x):CU kind x=if x.kd=kind then x.kids else if kind=4/\x.kd=0 then[]else[x]:=by
 cases x with
 |mk n ks=>
  rw[Jz];show _=if n.kind=kind then ks else if kind=4/\n.kind=0 then[]else[.mk n ks]
  by_cases h:n.kind=kind
  ·rw[if_pos h,if_pos h];refine Di fun t ht=> ?_
   have:=(EM.1 hs t ht).1;refine PC ?_ ?_
   ·rcases hk with rfl|rfl
    ·exact(this.1 h).1
    ·exact this.2 h
   ·rintro rfl;exact(this.1 h).2
  ·rw[if_neg h,if_neg h]
theorem NV {kind:Int} {x y:TT} (hk:kind=4\/kind=5) (hs:CV x) (hf:BL x) (hy:y∈CU kind x):y.kd≠kind/\(kind=4->y.kd≠0)/\CV y/\BL y:=by
 rw[J1 hk hs]at hy;split at hy
 ·rename_i h
  cases x with
  |mk n ks=>
   simp only[TT.kd,TT.nd,TT.kids]at h hy;have h1:=EM.1 hs y hy;have h2:=(BG.1 hf).2 y hy;rcases hk with rfl|rfl
   ·exact⟨(h1.1.1 h).1,fun _=>(h1.1.1 h).2,h1.2,h2⟩
   ·exact⟨h1.1.2 h,fun e=>absurd e (by decide),h1.2,h2⟩
 ·split at hy
  ·simp at hy
  ·simp only[List.mem_singleton]at hy;subst hy;rename_i h h0
   exact⟨h,fun e e2=>h0 ⟨e,e2⟩,hs,hf⟩
theorem Mp {n none:Nd} {l:List TT} (hn:(n.kind=4/\none=Bi)\/(n.kind=5/\none=KJ)) (hnk:n={F9 with kind:=n.kind})
  (hl:∀y∈l,y.kd≠n.kind/\(n.kind=4->y.kd≠0)/\CV y/\BL y):BL (CQ n none l)/\CV (CQ n none l):=by
 match l with
 |[]=>
  rcases hn with⟨_,rfl⟩|⟨_,rfl⟩
  ·exact⟨Jy.1,EM.2 (by simp)⟩
  ·exact⟨Jy.2,EM.2 (by simp)⟩
 |[x]=>exact⟨(hl x (by simp)).2.2.2,(hl x (by simp)).2.2.1⟩
 |x::y::r=>
  show BL (.mk n _)/\CV (.mk n _);refine⟨BG.2 ⟨⟨by rw[hnk];rfl,?_⟩,fun t ht=>(hl t ht).2.2.2⟩,EM.2 fun t ht=>⟨⟨fun e=> ?_,fun e=> ?_⟩,(hl t ht).2.2.1⟩⟩
  ·have h2:=Nq (k:=(x::y::r).length) (by simp);rcases hn with⟨e,_⟩|⟨e,_⟩
   ·rw[hnk,e];exact h2.1
   ·rw[hnk,e];exact h2.2
  ·have:=(hl t ht);rw[e]at this;exact⟨this.1,this.2.1 rfl⟩
  ·have:=(hl t ht);rw[e]at this;exact this.1
theorem Rg {x:TT}:BL x->BL (Bo x)/\CV (Bo x):=by
 induction x using TT.ind with
 |h n ks ih=>
  intro hf;obtain⟨⟨hk,hn⟩,hks⟩:=BG.1 hf
  have ih:∀t∈ks.map Bo,BL t/\CV t:=fun t ht=>by
   obtain⟨k,hk,rfl⟩:=List.mem_map.1 ht;exact ih k hk (hks k hk)
  have hlen:(ks.map Bo).length=ks.length:=by simp
  rw[J0];generalize ks.map Bo=L at *;unfold KL;split
  ·rename_i h4
   refine Mp (.inl ⟨h4,rfl⟩) (FE hk hn (.inl h4)).1 fun y hy=> ?_
   obtain⟨z,hz,hy⟩:=List.mem_flatMap.1 hy;have:=NV (.inl rfl) (ih z hz).2 (ih z hz).1 hy;rw[h4];exact⟨this.1,fun _=>this.2.1 rfl,this.2.2⟩
  split
  ·rename_i h5
   refine Mp (.inr ⟨h5,rfl⟩) (FE hk hn (.inr h5)).1 fun y hy=> ?_
   obtain⟨z,hz,hy⟩:=List.mem_flatMap.1 hy;have:=NV (.inr rfl) (ih z hz).2 (ih z hz).1 hy;rw[h5];exact⟨this.1,fun e=>absurd e (by decide),this.2.2⟩
  ·rename_i h4 h5
   exact⟨BG.2 ⟨⟨hk,by rw[hlen];exact hn⟩,fun t ht=>(ih t ht).1⟩,EM.2 fun t ht=>⟨⟨fun e=>absurd e h4,fun e=>absurd e h5⟩,(ih t ht).2⟩⟩
end Go.Proofs.YtdnochjajoiooaaGreatDoor
/- Plain:how expr.Make goes about it:an arena of what is CQ,then its parts opened. -/
namespace Go.Proofs.YtdnochjajoiooaaGreatDoor
set_option linter.unusedSimpArgs false
set_option linter.unusedVariables false
def Mq (n:Nd) (l:List TT):TT:=
 if n.kind=4 then CQ n Bi (l.filter fun x=>decide (x.kd≠0))else if n.kind=5 then CQ n KJ l else .mk n l
def jTT:TT->TT
 |.mk n ks=>Mq n (go ks)
 where go:List TT->List TT
  |[]=>[]
  |t::ts=>jTT t::go ts
theorem TS:∀ts,jTT.go ts=ts.map jTT
 |[]=>rfl
 |t::ts=>by rw[jTT.go,TS ts];rfl
theorem TU (n:Nd) (ks:List TT):jTT (.mk n ks)=Mq n (ks.map jTT):=by rw[jTT,TS]
def DL (k:Int) (x:TT):List TT:=if (k=4\/k=5)/\x.kd=k then x.kids else[x]
def Ec:TT->TT
 |.mk n ks=>.mk n ((go ks).flatMap (DL n.kind))
 where go:List TT->List TT
  |[]=>[]
  |t::ts=>Ec t::go ts
theorem Rh:∀ts,Ec.go ts=ts.map Ec
 |[]=>rfl
 |t::ts=>by rw[Ec.go,Rh ts];rfl
theorem Kz (n:Nd) (ks:List TT):Ec (.mk n ks)=.mk n ((ks.map Ec).flatMap (DL n.kind)):=by rw[Ec,Rh]
theorem XQ (x:TT):(Ec x).nd=x.nd:=by cases x with|mk n ks=>rw[Kz];rfl
theorem TV (x:TT):(Ec x).kd=x.kd:=congrArg Nd.kind (XQ x)
theorem JW {α β:Type} {f:α->List β}:∀{l:List α},(∀x∈l,1<=(f x).length)->l.length<=(l.flatMap f).length
 |[],_=>Nat.le_refl _
 |x::l,h=>by
  have:=h x List.mem_cons_self;have:=JW (l:=l) fun y hy=>h y (List.mem_cons_of_mem _ hy)
  simp only[List.flatMap_cons,List.length_append,List.length_cons];omega
theorem G6 {α β:Type} {p:α->Bool} {f g:α->List β}:∀{l:List α},(∀x∈l,f x=if p x then g x else[])->l.flatMap f=(l.filter p).flatMap g
 |[],_=>rfl
 |x::l,h=>by
  have h1:=h x List.mem_cons_self;have h2:=G6 (p:=p) (f:=f) (g:=g) (l:=l) fun y hy=>h y (List.mem_cons_of_mem _ hy)
  rw[List.flatMap_cons,h1,h2];cases hp:p x
  ·rw[List.filter_cons_of_neg (by simp[hp])];rfl
  ·rw[List.filter_cons_of_pos hp,List.flatMap_cons];rfl
theorem Sj {k:Int} {x:TT} (hf:BL x):1<=(DL k x).length:=by
 unfold DL;split
 ·rename_i h
  cases x with
  |mk n ks=>
   obtain⟨⟨hk,hn⟩,_⟩:=BG.1 hf;have:=(FE hk hn (by have:=h.2;simp only[TT.kd,TT.nd]at this;omega)).2;simp only[TT.kids];omega
 ·simp
theorem Mr {n none:Nd} {k:Int} (hk:k=4\/k=5) (hn:n.kind=k) (hnk:n={F9 with kind:=n.kind}) (hnone:Ec (.mk none [])=.mk none []):
  ∀L:List TT,(∀y∈L,BL (Ec y))->Ec (CQ n none L)=CQ n none ((L.map Ec).flatMap (DL k))
 |[],_=>hnone
 |[y],h=>by
  have hy:=h y (by simp);show Ec y=CQ n none ([Ec y].flatMap (DL k));simp only[List.flatMap_cons,List.flatMap_nil,List.append_nil];unfold DL;split
  ·rename_i hh
   generalize Ec y=z at *;cases z with
   |mk m ks=>
    obtain⟨⟨hm,hf⟩,_⟩:=BG.1 hy;have hmk:m.kind=k:=hh.2;have:=FE hm hf (by omega);rw[show(TT.mk m ks).kids=ks from rfl,KK _ _ (by omega),hnk,this.1,hn,hmk]
  ·rfl
 |x::y::r,h=>by
  show Ec (.mk n (x::y::r))=_;rw[Kz,hn,KK]
  have:=JW (f:=DL k) (l:=(x::y::r).map Ec) fun z hz=>by
   obtain⟨u,hu,rfl⟩:=List.mem_map.1 hz;exact Sj (h u hu)
  simp only[List.length_map,List.length_cons]at this;omega
theorem Yy {x:TT}:BL x->Ec (jTT x)=Bo x:=by
 induction x using TT.ind with
 |h n ks ih=>
  intro hf;obtain⟨⟨hk,hn⟩,hks⟩:=BG.1 hf
  have e:ks.map Bo=(ks.map jTT).map Ec:=by
   rw[List.map_map];exact List.map_congr_left fun t ht=>(ih t ht (hks t ht)).symm
  have hL:∀y∈ks.map jTT,BL (Ec y)/\CV (Ec y):=fun y hy=>by
   obtain⟨t,ht,rfl⟩:=List.mem_map.1 hy;rw[ih t ht (hks t ht)];exact Rg (hks t ht)
  rw[J0,TU,e];generalize ks.map jTT=L at *;unfold Mq KL;by_cases h4:n.kind=4
  ·rw[if_pos h4,if_pos h4,Mr (.inl rfl) h4 (FE hk hn (.inl h4)).1 rfl _ fun y hy=>(hL y (List.mem_filter.1 hy).1).1];congr 1;rw[List.flatMap_map,List.flatMap_map];symm
   refine G6 fun y hy=> ?_
   rw[J1 (.inl rfl) (hL y hy).2,TV];unfold DL;rw[TV];by_cases h0:y.kd=0
   ·simp[h0]
   ·simp[h0]
  ·rw[if_neg h4,if_neg h4];by_cases h5:n.kind=5
   ·rw[if_pos h5,if_pos h5,Mr (.inr rfl) h5 (FE hk hn (.inr h5)).1 rfl _ fun y hy=>(hL y hy).1];congr 1;rw[List.flatMap_map,List.flatMap_map];symm
    have:∀y∈L,CU 5 (Ec y)=DL 5 (Ec y):=fun y hy=>by
     rw[J1 (.inr rfl) (hL y hy).2];unfold DL;by_cases hy5:(Ec y).kd=5
     ·simp[hy5]
     ·simp[hy5]
    rw[List.flatMap_def,List.flatMap_def,List.map_congr_left this]
   ·rw[if_neg h5,if_neg h5,Kz];congr 1;refine Di fun y _=> ?_
    unfold DL;rw[if_neg (by omega)]
def Is (l:List Nd) (kind:Int):Nat->Nat->List Nat
 |0,i=>[i]
 |f+1,i=>if (An l i).kind=kind then(Ab l i).flatMap (Is l kind f)else[i]
def Ed (l:List Nd) (kind:Int) (i:Nat):List Nat:=Is l kind (i+1) i
theorem B2 {α β:Type} {f g:α->List β} {l:List α} (h:∀x∈l,f x=g x):l.flatMap f=l.flatMap g:=by
 rw[List.flatMap_def,List.flatMap_def,List.map_congr_left h]
theorem Ig {l:List Nd} (h:AR l) (kind:Int):∀(f g i:Nat),i<f->i<g->Is l kind f i=Is l kind g i
 |0,_,_,hf,_=>by omega
 |_,0,_,_,hg=>by omega
 |f+1,g+1,i,hf,hg=>by
  simp only[Is];split
  ·exact B2 fun k hk=>Ig h kind f g k (by have:=h i k hk;omega) (by have:=h i k hk;omega)
  ·rfl
theorem Cg {l:List Nd} (h:AR l) (kind:Int) (i:Nat):Ed l kind i=if (An l i).kind=kind then(Ab l i).flatMap (Ed l kind)else[i]:=by
 show Is l kind (i+1) i=_;simp only[Is];split
 ·exact B2 fun k hk=>Ig h kind i (k+1) k (h i k hk) (by omega)
 ·rfl
def B5 (l:List Nd) (i:Nat):List Nat:=
 if (An l i).kind=4\/(An l i).kind=5 then(Ab l i).flatMap (Ed l (An l i).kind)else Ab l i
theorem TW {l:List Nd} (h:AR l) (kind:Int):∀i j,j∈Ed l kind i->j<=i:=by
 intro i;induction i using Nat.strongRecOn with
 |_ i ih=>
  intro j hj;rw[Cg h]at hj;split at hj
  ·obtain⟨k,hk,hj⟩:=List.mem_flatMap.1 hj;have:=h i k hk;have:=ih k this j hj;omega
  ·simp at hj;omega
theorem Hh {l:List Nd} (h:AR l) {i j:Nat} (hj:j∈B5 l i):j<i:=by
 unfold B5 at hj;split at hj
 ·obtain⟨k,hk,hj⟩:=List.mem_flatMap.1 hj;have:=h i k hk;have:=TW h _ k j hj;omega
 ·exact h i j hj
theorem KM {l:List Nd} (h:AR l) (kind:Int):∀i j,j∈Ed l kind i->(An l j).kind≠kind:=by
 intro i;induction i using Nat.strongRecOn with
 |_ i ih=>
  intro j hj;rw[Cg h]at hj;split at hj
  ·obtain⟨k,hk,hj⟩:=List.mem_flatMap.1 hj;exact ih k (h i k hk) j hj
  ·simp at hj;subst hj;assumption
def JX (l:List Nd) (i:Nat):Nd:={An l i with kids:=(B5 l i).map fun k:Nat=>(k:Int)}
def Br (l:List Nd):List Nd:=(List.range l.length).map (JX l)
theorem JY (l:List Nd):(Br l).length=l.length:=by simp[Br]
theorem Ri (l:List Nd) (i:Nat) (hi:i<l.length):(Br l)[i]?=some (JX l i):=by simp[Br,hi]
theorem K0 (l:List Nd) (i:Nat) (hi:i<l.length):An (Br l) i=JX l i:=by simp[An,Ri l i hi]
theorem Hi (l:List Nd) (i:Nat) (hi:¬i<l.length):Ab l i=[]:=by
 unfold Ab;rw[List.getElem?_eq_none (by omega)];rfl
theorem Ms (l:List Nd) (i:Nat) (hi:i<l.length):Ab (Br l) i=B5 l i:=by
 rw[B6,K0 l i hi,JX,List.map_map];exact(List.map_congr_left fun k _=>by simp).trans (List.map_id _)
def Mixed (l m:List Nd):Prop:=m.length=l.length/\ ∀i,i<l.length->An m i=An l i\/An m i=JX l i
theorem Mixed.kind {l m:List Nd} (h:Mixed l m) (i:Nat):(An m i).kind=(An l i).kind:=by
 by_cases hi:i<l.length
 ·rcases h.2 i hi with e|e <;> rw[e];rfl
 ·have hm:=h.1;unfold An;rw[List.getElem?_eq_none (by omega),List.getElem?_eq_none (by omega)]
theorem Mixed.kids {l m:List Nd} (h:Mixed l m) (i:Nat):Ab m i=Ab l i\/Ab m i=B5 l i:=by
 by_cases hi:i<l.length
 ·rcases h.2 i hi with e|e
  ·left;rw[B6,e,<-B6]
  ·right;rw[B6,e,<-K0 l i hi,<-B6,Ms l i hi]
 ·left;rw[Hi l i hi,Hi m i (by have:=h.1;omega)]
theorem Mixed.ahead {l m:List Nd} (h:Mixed l m) (hA:AR l):AR m:=fun i k hk=>by
 rcases h.kids i with e|e
 ·exact hA i k (e▸hk)
 ·exact Hh hA (e▸hk)
theorem Mixed.open {l m:List Nd} (h:Mixed l m) (hA:AR l) {kind:Int} (hk:kind=4\/kind=5):∀i,Ed m kind i=Ed l kind i:=by
 intro i;induction i using Nat.strongRecOn with
 |_ i ih=>
  rw[Cg (h.ahead hA),Cg hA,h.kind];split
  ·rename_i hi
   rcases h.kids i with e|e
   ·rw[e];exact B2 fun k hk=>ih k (hA i k hk)
   ·rw[e];have e2:B5 l i=(Ab l i).flatMap (Ed l kind):=by unfold B5;rw[hi,if_pos hk]
    rw[e2];rw[Di];intro x hx;obtain⟨k,hk1,hx⟩:=List.mem_flatMap.1 hx;have h1:=KM hA kind k x hx;rw[Cg (h.ahead hA),h.kind,if_neg h1]
  ·rfl
theorem Mixed.parts {l m:List Nd} (h:Mixed l m) (hA:AR l) (i:Nat):B5 m i=B5 l i:=by
 rcases h.kids i with e|e
 ·unfold B5;rw[h.kind,e];split
  ·rename_i hk
   exact B2 fun k _=>h.open hA hk k
  ·rfl
 ·unfold B5;rw[h.kind,e];split
  ·rename_i hk
   rw[B2 fun k _=>h.open hA hk k];have e2:B5 l i=(Ab l i).flatMap (Ed l (An l i).kind):=by unfold B5;rw[if_pos hk]
   rw[e2,Di];intro x hx;obtain⟨k,hk1,hx⟩:=List.mem_flatMap.1 hx;rw[Cg hA,if_neg (KM hA _ k x hx)]
  ·rename_i hk
   unfold B5;rw[if_neg hk]
theorem Mixed.refl (l:List Nd):Mixed l l:=⟨rfl,fun _ _=>.inl rfl⟩
theorem DM (l:List Nd) (hA:AR l) (i:Nat):Ab (Br l) i=B5 l i:=by
 by_cases hi:i<l.length
 ·exact Ms l i hi
 ·rw[Hi _ i (by rw[JY];exact hi)];unfold B5;rw[Hi l i hi];split <;> rfl
theorem Cq {l:List Nd} (hA:AR l):AheadZ (Br l):=fun i n hn k hk=>by
 have hi:i<l.length:=by rw[<-JY l];exact(List.getElem?_eq_some_iff.1 hn).1
 rw[Ri l i hi]at hn;cases hn;obtain⟨j,hj,rfl⟩:=List.mem_map.1 hk;have:=Hh hA hj;omega
theorem TY {l:List Nd} (hA:AR l):∀i,i<l.length->den (Br l) i=Ec (den l i):=by
 have hS:=(Cq hA).ahead;intro i;induction i using Nat.strongRecOn with
 |_ i ih=>
  intro hi;rw[ER hS,ER hA,Kz,DM l hA,K0 l i hi];have hb:DJ (JX l i)=DJ (An l i):=rfl;rw[hb];congr 1;have ih2:∀k∈Ab l i,den (Br l) k=Ec (den l k):=fun k hk=>ih k (hA i k hk) (by have:=hA i k hk;omega)
  have hkd:∀k,(Ec (den l k)).kd=(An l k).kind:=fun k=>by rw[TV,ER hA];rfl
  have hkn:(DJ (An l i)).kind=(An l i).kind:=rfl;rw[hkn];unfold B5;by_cases hk:(An l i).kind=4\/(An l i).kind=5
  ·rw[if_pos hk,List.map_flatMap,List.map_map,List.flatMap_map];refine B2 fun k hki=> ?_
   unfold DL;rw[Function.comp_apply,hkd k];by_cases e:(An l k).kind=(An l i).kind
   ·rw[if_pos ⟨hk,e⟩,<-ih2 k hki,ER hS,DM l hA];show _=(B5 l k).map (den (Br l));rw[Cg hA,if_pos e];unfold B5;rw[e,if_pos hk]
   ·rw[if_neg (fun h=>e h.2),Cg hA,if_neg e];simp only[List.map_cons,List.map_nil];rw[ih2 k hki]
  ·rw[if_neg hk];rw[Di]
   ·rw[List.map_map];exact List.map_congr_left ih2
   ·intro x _;unfold DL;rw[if_neg (fun h=>hk h.1)]
theorem Ev {α β:Type} {f g:α->List β}:∀{l:List α},(∀x∈l,(f x).Sublist (g x))->(l.flatMap f).Sublist (l.flatMap g)
 |[],_=>List.Sublist.slnil
 |x::l,h=>by
  rw[List.flatMap_cons,List.flatMap_cons];exact List.Sublist.append (h x List.mem_cons_self) (Ev fun y hy=>h y (List.mem_cons_of_mem _ hy))
theorem J2 {l:List Nd} (hA:AR l):∀i,(Ak (Br l) i).Sublist (Ak l i):=by
 have hS:=(Cq hA).ahead;intro i;induction i using Nat.strongRecOn with
 |_ i ih=>
  rw[AW hS,AW hA,DM l hA];refine List.Sublist.append ?_ (List.Sublist.refl _);unfold B5;by_cases hk:(An l i).kind=4\/(An l i).kind=5
  ·rw[if_pos hk,List.flatMap_assoc];refine Ev fun k hki=> ?_
   have ihk:=ih k (hA i k hki);by_cases e:(An l k).kind=(An l i).kind
   ·rw[Cg hA,if_pos e];rw[AW hS,DM l hA]at ihk;have e2:B5 l k=(Ab l k).flatMap (Ed l (An l i).kind):=by unfold B5;rw[e,if_pos hk]
    rw[e2]at ihk;exact(List.sublist_append_left _ _).trans ihk
   ·rw[Cg hA,if_neg e];simpa using ihk
  ·rw[if_neg hk];exact Ev fun k hki=>ih k (hA i k hki)
end Go.Proofs.YtdnochjajoiooaaGreatDoor
/- Plain:expr.Make's arena,node by node. -/
namespace Go.Proofs.YtdnochjajoiooaaGreatDoor
set_option linter.unusedSimpArgs false
set_option linter.unusedVariables false
def Gg (al:List Nd) (n none:Nd):List Int->List Nd×Int
 |[]=>(al++[none],(al.length:Int))
 |[x]=>(al,x)
 |x::y::ks=>(al++[{n with kids:=x::y::ks}],(al.length:Int))
def Cn (al:List Nd) (n:Nd) (ks:List Int):List Int:=ks.filter fun k=>decide (n.kind≠4)||decide ((An al k.toNat).kind≠0)
def DI (al:List Nd) (n:Nd) (ks:List Int):List Nd×Int:=
 if n.kind=4 then Gg al n Bi (Cn al n ks)else if n.kind=5 then Gg al n KJ (Cn al n ks)else(al++[{n with kids:=ks}],(al.length:Int))
theorem Sk {l m:List Nd} {i:Nat} (hi:i<l.length):An (l++m) i=An l i:=by
 unfold An;rw[List.getElem?_append_left hi]
theorem VW (l:List Nd) (n:Nd):An (l++[n]) l.length=n:=by simp[An]
theorem NW {l m:List Nd} {i:Nat} (hi:i<l.length):Ab (l++m) i=Ab l i:=by
 rw[B6,B6,Sk hi]
theorem AheadZ.add {l:List Nd} {n:Nd} (h:AheadZ l) (hn:∀k∈n.kids,0<=k/\k<(l.length:Int)):AheadZ (l++[n]):=fun i m hm k hk=>by
 by_cases hi:i<l.length
 ·rw[List.getElem?_append_left hi]at hm;exact h i m hm k hk
 ·have:=(List.getElem?_eq_some_iff.1 hm).1;simp only[List.length_append,List.length_cons,List.length_nil]at this;obtain rfl:i=l.length:=by omega
  simp at hm;subst hm;exact hn k hk
theorem NX {l m:List Nd} (h:AR l) (h2:AR (l++m)):∀i,i<l.length->Ak (l++m) i=Ak l i:=by
 intro i;induction i using Nat.strongRecOn with
 |_ i ih=>
  intro hi;rw[AW h,AW h2,NW hi];congr 1;exact B2 fun k hk=>ih k (h i k hk) (by have:=h i k hk;omega)
def FF (ns:List Nd) (i:Nat):List Nat:=(Aw (ns.take i)).map Int.toNat
def KO (ns:List Nd) (i:Nat):List Nat:=(List.range i).filter fun j=>decide (j∉FF ns i)
theorem JZ {L:List Int} (h:∀k∈L,0<=k) (x:Nat):(L.map Int.toNat).count x=L.count (x:Int):=by
 rw[List.count_eq_countP,List.count_eq_countP,List.countP_map];refine List.countP_congr fun k hk=> ?_
 have:=h k hk;simp only[Function.comp_apply,beq_iff_eq];omega
theorem FG {t:Tr} (h:Bv t):∀k∈Aw t.nodes,0<=k:=fun k hk=>by
 obtain⟨n,hn,hk⟩:=List.mem_flatMap.1 hk;obtain⟨i,hi⟩:=List.mem_iff_getElem?.1 hn;exact(Bw h hi hk).1
theorem J3 (ns:List Nd) (i:Nat) (hi:i<ns.length):FF ns (i+1)=FF ns i++Ab ns i:=by
 unfold FF;rw[List.take_succ_eq_append_getElem hi,Aw,List.flatMap_append,List.map_append];simp[Ab,List.getElem?_eq_getElem hi,Aw]
theorem PD {t:Tr} (h:Bv t) (i x:Nat) (hx:x<t.nodes.length):(FF t.nodes i).count x<=1:=by
 have e:Aw t.nodes=Aw (t.nodes.take i)++Aw (t.nodes.drop i):=by
  unfold Aw;rw[<-List.flatMap_append,List.take_append_drop]
 unfold FF;rw[JZ fun k hk=>FG h k (by rw[e];exact List.mem_append_left _ hk)];have:=h.2.2 x hx;rw[e,List.count_append]at this;split at this <;> omega
theorem VX {t:Tr} (h:Bv t) (i x:Nat) (hi:i<=t.nodes.length) (hx:x∈FF t.nodes i):x+1<i+0\/x+1<=i:=by
 obtain⟨z,hz,rfl⟩:=List.mem_map.1 hx;obtain⟨n,hn,hk⟩:=List.mem_flatMap.1 hz;obtain⟨j,hj⟩:=List.mem_iff_getElem?.1 hn;have hji:j<i:=by have:=(List.getElem?_eq_some_iff.1 hj).1;rw[List.length_take]at this;omega
 rw[List.getElem?_take_of_lt hji]at hj;have:=Bw h hj hk;omega
theorem LZ {t:Tr} (h:Bv t) (i:Nat) (hi:i<t.nodes.length):i∉FF t.nodes (i+1):=fun hx=>by
 rw[J3 _ i hi]at hx;rcases List.mem_append.1 hx with hx|hx
 ·have:=VX h i i (by omega) hx;omega
 ·have:=AE h i i hx;omega
theorem Sl {t:Tr} (h:Bv t) (i:Nat) (hi:i<t.nodes.length):
  ∃W:List Nat,KO t.nodes (i+1)=W++[i]/\(Ab t.nodes i++W).Perm (KO t.nodes i)/\ ∀j∈W,j<i:=by
 refine⟨(List.range i).filter fun j=>decide (j∉FF t.nodes (i+1)),?_,?_,fun j hj=>List.mem_range.1 (List.mem_filter.1 hj).1⟩
 ·unfold KO;rw[List.range_succ,List.filter_append];congr 1;rw[List.filter_cons_of_pos (by simpa using LZ h i hi)];rfl
 ·rw[List.perm_iff_count];intro x;have hK:∀k∈Ab t.nodes i,k<i:=fun k hk=>AE h i k hk
  have hf:∀p:Nat->Bool,((List.range i).filter p).count x=if x<i/\p x=true then 1 else 0:=fun p=>by
   have hnd:((List.range i).filter p).Nodup:=List.Sublist.nodup List.filter_sublist List.nodup_range;by_cases hm:x∈(List.range i).filter p
   ·rw[if_pos (by have:=List.mem_filter.1 hm;exact⟨List.mem_range.1 this.1,this.2⟩)];exact Nat.le_antisymm (List.nodup_iff_count.1 hnd x) (List.count_pos_iff.2 hm)
   ·rw[if_neg (fun hh=>hm (List.mem_filter.2 ⟨List.mem_range.2 hh.1,hh.2⟩))];exact List.count_eq_zero.2 hm
  unfold KO;rw[List.count_append,hf,hf];by_cases hxi:x<i
  ·have hc:=PD h (i+1) x (by omega);rw[J3 _ i hi,List.count_append]at hc;have e1:(x∈FF t.nodes i)↔0<(FF t.nodes i).count x:=List.count_pos_iff.symm;have e2:(x∈Ab t.nodes i)↔0<(Ab t.nodes i).count x:=List.count_pos_iff.symm;simp only[decide_eq_true_eq,J3 _ i hi,List.mem_append,e1,e2,hxi,true_and];by_cases a:0<(FF t.nodes i).count x
   ·rw[if_neg (by omega),if_neg (by omega)];omega
   ·by_cases b:0<(Ab t.nodes i).count x
    ·rw[if_neg (by omega),if_pos (by omega)];omega
    ·rw[if_pos (by omega),if_pos (by omega)];omega
  ·rw[if_neg (fun hh=>hxi hh.1),if_neg (fun hh=>hxi hh.1)];have:x∉Ab t.nodes i:=fun hh=>hxi (hK x hh)
   rw[List.count_eq_zero.2 this]
theorem Mt {t:Tr} (h:Bv t):t.root.toNat∈KO t.nodes t.nodes.length:=by
 have h0:=h.1;have h1:=h.2.2 t.root.toNat (by omega);rw[if_pos (by omega)]at h1;refine List.mem_filter.2 ⟨List.mem_range.2 (by omega),?_⟩;simp only[decide_eq_true_eq];intro hx;unfold FF at hx;rw[List.take_length]at hx;have:=List.count_pos_iff.2 hx;rw[JZ (FG h)]at this;omega
structure MakeInv (t:Tr) (i:Nat) (al:List Nd) (pl:Nat->Int):Prop where
 ahead:AheadZ al
 nonneg:∀j,j<i->0<=pl j
 rep:∀j,j<i->Rep al (jTT (den t.nodes j)) (pl j).toNat
 apart:((KO t.nodes i).flatMap fun j=>Ak al (pl j).toNat).Nodup
theorem TZ {l:List Nd} {x:TT} {i:Nat} (h:Rep l x i):(An l i).kind=x.kd:=by
 cases x with
 |mk n ks=>
  obtain⟨m,hm,hb,_⟩:=EG.1 h;unfold An;rw[hm];exact kind_bare' hb
 where kind_bare' {n m:Nd} (h:DJ m=n):m.kind=n.kind:=by rw[<-h];rfl
theorem Nr {al:List Nd} {n:Nd} {ks:List Int} {xs:List TT} (hl:ks.length=xs.length) (h:∀j (h1:j<ks.length) (h2:j<xs.length),0<=ks[j]/\Rep al xs[j] ks[j].toNat):
  Rep (al++[{n with kids:=ks}]) (.mk (DJ n) xs) al.length:=by
 refine EG.2 ⟨{n with kids:=ks},by simp,rfl,hl,fun j h1 h2=>⟨(h j h1 h2).1,(h j h1 h2).2.append⟩⟩
theorem Ua {al:List Nd} {n:Nd} (h:n.kids=[]):Rep (al++[n]) (.mk n []) al.length:=
 EG.2 ⟨n,by simp,Rf h,by rw[h];rfl,fun j h1 h2=>by simp at h2⟩
theorem Gy {al:List Nd} {p:TT->Bool} {q:Int->Bool}:∀(ks:List Int) (xs:List TT),ks.length=xs.length->(∀j (h1:j<ks.length) (h2:j<xs.length),(0<=ks[j]/\Rep al xs[j] ks[j].toNat)/\q ks[j]=p xs[j]) ->
  (ks.filter q).length=(xs.filter p).length/\ ∀j (h1:j<(ks.filter q).length) (h2:j<(xs.filter p).length),0<=(ks.filter q)[j]/\Rep al (xs.filter p)[j] (ks.filter q)[j].toNat
 |[],[],_,_=>⟨rfl,fun j h1 _=>by simp at h1⟩
 |[],_::_,h,_=>by simp at h
 |_::_,[],h,_=>by simp at h
 |k::ks,x::xs,hl,h=>by
  have h0:=h 0 (by simp) (by simp);simp only[List.getElem_cons_zero]at h0;obtain⟨ih1,ih2⟩:=Gy (p:=p) (q:=q) ks xs (by simpa using hl) fun j h1 h2=>h (j+1) (by simpa using h1) (by simpa using h2)
  cases hp:p x
  ·rw[List.filter_cons_of_neg (by simp[h0.2,hp]),List.filter_cons_of_neg (by simp[hp])];exact⟨ih1,ih2⟩
  ·have hq:q k=true:=by rw[h0.2,hp]
   simp only[List.filter_cons_of_pos hq,List.filter_cons_of_pos hp];refine⟨by simp[ih1],fun j h1 h2=> ?_⟩;cases j with
   |zero=>exact h0.1
   |succ j=>exact ih2 j (by simpa using h1) (by simpa using h2)
theorem Sm {al:List Nd} {n:Nd} {ks:List Int} {xs:List TT} (hl:ks.length=xs.length) (h:∀j (h1:j<ks.length) (h2:j<xs.length),0<=ks[j]/\Rep al xs[j] ks[j].toNat):
  0<=(DI al n ks).2/\Rep (DI al n ks).1 (Mq (DJ n) xs) (DI al n ks).2.toNat:=by
 have hadd:∀(none:Nd) (ks:List Int) (xs:List TT),none.kids=[]->ks.length=xs.length->(∀j (h1:j<ks.length) (h2:j<xs.length),0<=ks[j]/\Rep al xs[j] ks[j].toNat) ->
   0<=(Gg al n none ks).2/\Rep (Gg al n none ks).1 (CQ (DJ n) none xs) (Gg al n none ks).2.toNat:=by
  intro none ks xs hnone hl h;match ks,xs,hl with
  |[],[],_=>exact⟨by simp[Gg],by simpa[Gg,CQ]using Ua hnone⟩
  |[k],[x],_=>exact⟨(h 0 (by simp) (by simp)).1,(h 0 (by simp) (by simp)).2⟩
  |k::k2::ks,x::x2::xs,hl=>exact⟨by simp[Gg],by
    have:=Nr (al:=al) (n:=n) hl h;simpa[Gg,CQ]using this⟩
 unfold DI Mq;have hkind:(DJ n).kind=n.kind:=rfl;rw[hkind];by_cases h4:n.kind=4
 ·rw[if_pos h4,if_pos h4];obtain⟨f1,f2⟩:=Gy (al:=al) (p:=fun x=>decide (x.kd≠0)) (q:=fun k=>decide (n.kind≠4)||decide ((An al k.toNat).kind≠0)) ks xs hl fun j h1 h2=>⟨h j h1 h2,by rw[TZ (h j h1 h2).2];simp[h4]⟩
  exact hadd Bi _ _ rfl f1 f2
 ·rw[if_neg h4,if_neg h4]
  have e:Cn al n ks=ks:=by
   unfold Cn;rw[List.filter_eq_self];intro k _;simp[h4]
  by_cases h5:n.kind=5
  ·rw[if_pos h5,if_pos h5,e];exact hadd KJ _ _ rfl hl h
  ·rw[if_neg h5,if_neg h5];exact⟨by simp,by simpa using Nr (n:=n) hl h⟩
theorem KP (al:List Nd) (n none:Nd) (hnone:none.kids=[]) (ks:List Int):∃L:List Int,L=ks/\((∃x,L=[x]/\Gg al n none ks=(al,x))\/ ∃m:Nd,m.kids=L/\Gg al n none ks=(al++[m],(al.length:Int))):=by
 match ks with
 |[]=>exact⟨[],rfl,.inr ⟨none,hnone,rfl⟩⟩
 |[x]=>exact⟨[x],rfl,.inl ⟨x,rfl,rfl⟩⟩
 |x::y::ks=>exact⟨x::y::ks,rfl,.inr ⟨{n with kids:=x::y::ks},rfl,rfl⟩⟩
theorem Ka (al:List Nd) (n:Nd) (ks:List Int):∃L:List Int,L.Sublist ks/\((∃x,L=[x]/\DI al n ks=(al,x))\/ ∃m:Nd,m.kids=L/\DI al n ks=(al++[m],(al.length:Int))):=by
 unfold DI;split
 ·obtain⟨L,rfl,h⟩:=KP al n Bi rfl (Cn al n ks);exact⟨_,List.filter_sublist,h⟩
 split
 ·obtain⟨L,rfl,h⟩:=KP al n KJ rfl (Cn al n ks);exact⟨_,List.filter_sublist,h⟩
 ·exact⟨ks,List.Sublist.refl _,.inr ⟨_,rfl,rfl⟩⟩
theorem Sn {α β:Type} {f:α->List β} {l m:List α} (h:l.Sublist m):(l.flatMap f).Sublist (m.flatMap f):=by
 induction h with
 |slnil=>exact List.Sublist.refl _
 |cons a _ ih=>rw[List.flatMap_cons];exact ih.trans (List.sublist_append_right _ _)
 |cons_cons a _ ih=>rw[List.flatMap_cons,List.flatMap_cons];exact List.Sublist.append (List.Sublist.refl _) ih
theorem MakeInv.start (t:Tr) (pl:Nat->Int):MakeInv t 0 [] pl:=⟨fun i n hn=>by simp at hn,fun j hj=>absurd hj (by omega),fun j hj=>absurd hj (by omega),by simp[KO]⟩
theorem MakeInv.step {t:Tr} (h:Bv t) {i:Nat} {al:List Nd} {pl:Nat->Int} (inv:MakeInv t i al pl) {n:Nd} (hn:t.nodes[i]?=some n):
  MakeInv t (i+1) (DI al n (n.kids.map fun z=>pl z.toNat)).1 (fun j=>if j=i then(DI al n (n.kids.map fun z=>pl z.toNat)).2 else pl j):=by
 obtain⟨hi,hni⟩:=List.getElem?_eq_some_iff.1 hn;have hA:=AE h;have hkid:∀z∈n.kids,0<=z/\z.toNat<i:=fun z hz=>by have:=Bw h hn hz;omega
 have hnd:An t.nodes i=n:=by unfold An;rw[hn];rfl
 have hke:Ab t.nodes i=n.kids.map Int.toNat:=by rw[B6,hnd]
 have hden:jTT (den t.nodes i)=Mq (DJ n) ((n.kids.map fun z=>z.toNat).map fun j=>jTT (den t.nodes j)):=by
  rw[ER hA,TU,hnd,hke,List.map_map];rfl
 have hR:=Sm (al:=al) (n:=n) (ks:=n.kids.map fun z=>pl z.toNat) (xs:=(n.kids.map fun z=>z.toNat).map fun j=>jTT (den t.nodes j)) (by simp) fun j h1 h2=>by
  simp only[List.length_map]at h1;have:=hkid _ (List.getElem_mem h1);simp only[List.getElem_map];exact⟨inv.nonneg _ this.2,inv.rep _ this.2⟩
 rw[<-hden]at hR
 have hks:∀k∈n.kids.map (fun z=>pl z.toNat),0<=k/\k<(al.length:Int):=fun k hk=>by
  obtain⟨z,hz,rfl⟩:=List.mem_map.1 hk;have h1:=hkid z hz;have h2:=inv.nonneg _ h1.2;have h3:=(inv.rep _ h1.2).lt;omega
 have hflat:(Ab t.nodes i).flatMap (fun j=>Ak al (pl j).toNat)=(n.kids.map fun z=>pl z.toNat).flatMap fun k=>Ak al k.toNat:=by
  rw[hke,List.flatMap_map,List.flatMap_map]
 generalize hKs:(n.kids.map fun z=>pl z.toNat)=ks at *;obtain⟨W,hW,hperm,hWi⟩:=Sl h i hi
 have hap:((ks.flatMap fun k=>Ak al k.toNat)++W.flatMap fun j=>Ak al (pl j).toNat).Nodup:=by
  have:=(hperm.flatMap_right fun j=>Ak al (pl j).toNat).nodup_iff.2 inv.apart;rwa [List.flatMap_append,hflat]at this
 have hWlt:∀x∈W.flatMap fun j=>Ak al (pl j).toNat,x<al.length:=fun x hx=>by
  obtain⟨j,hj,hx⟩:=List.mem_flatMap.1 hx;have:=Cr inv.ahead.ahead _ x hx;have:=(inv.rep j (hWi j hj)).lt;omega
 obtain⟨L,hLs,hsh⟩:=Ka al n ks;have hLk:∀k∈L,0<=k/\k<(al.length:Int):=fun k hk=>hks k (hLs.subset hk)
 have hsubL:(L.flatMap fun k=>Ak al k.toNat).Sublist (ks.flatMap fun k=>Ak al k.toNat):=Sn hLs
 have hnW:((W.flatMap fun j=>Ak al (pl j).toNat)++L.flatMap fun k=>Ak al k.toNat).Nodup:=by
  refine List.perm_append_comm.nodup_iff.1 (List.Sublist.nodup (List.Sublist.append hsubL (List.Sublist.refl _)) hap)
 have hWF:∀(f:Nat->Int) (y:Int),W.flatMap (fun j=>Ak al ((fun j=>if j=i then y else pl j) j).toNat)=W.flatMap fun j=>Ak al (pl j).toNat:=fun _ y=>
  B2 fun j hj=>by have:=hWi j hj;simp[show j≠i by omega]
 rcases hsh with⟨x,rfl,e⟩|⟨m,rfl,e⟩
 ·rw[e]at hR ⊢;refine⟨inv.ahead,fun j hj=> ?_,fun j hj=> ?_,?_⟩
  ·by_cases ej:j=i
   ·simp only[ej,if_true];exact hR.1
   ·simp only[ej,if_false];exact inv.nonneg j (by omega)
  ·by_cases ej:j=i
   ·subst ej;simp only[if_true];exact hR.2
   ·simp only[ej,if_false];exact inv.rep j (by omega)
  ·rw[hW,List.flatMap_append,hWF pl];simpa using hnW
 ·rw[e]at hR ⊢;have hA2:AheadZ (al++[m]):=inv.ahead.add hLk;refine⟨hA2,fun j hj=> ?_,fun j hj=> ?_,?_⟩
  ·by_cases ej:j=i
   ·simp only[ej,if_true];exact hR.1
   ·simp only[ej,if_false];exact inv.nonneg j (by omega)
  ·by_cases ej:j=i
   ·subst ej;simp only[if_true];exact hR.2
   ·simp only[ej,if_false];exact(inv.rep j (by omega)).append
  ·have hpo:∀p,p<al.length->Ak (al++[m]) p=Ak al p:=NX inv.ahead.ahead hA2.ahead
   have e1:(W.flatMap fun j=>Ak (al++[m]) ((fun j=>if j=i then(al.length:Int)else pl j) j).toNat)=W.flatMap fun j=>Ak al (pl j).toNat:=B2 fun j hj=>by
    have hji:=hWi j hj;simp only[show j≠i by omega,if_false];exact hpo _ (inv.rep j hji).lt
   have e2:Ak (al++[m]) al.length=(m.kids.flatMap fun k=>Ak al k.toNat)++[al.length]:=by
    rw[AW hA2.ahead,B6,VW,List.flatMap_map];congr 1;exact B2 fun k hk=>hpo _ (by have:=hLk k hk;omega)
   rw[hW,List.flatMap_append,e1];simp only[List.flatMap_cons,List.flatMap_nil,List.append_nil,if_true,Int.toNat_natCast,e2];rw[<-List.append_assoc,List.nodup_append];refine⟨hnW,by simp,fun a ha b hb hab=> ?_⟩;simp only[List.mem_singleton]at hb;subst hb;subst hab;rcases List.mem_append.1 ha with ha|ha
   ·exact absurd (hWlt _ ha) (by omega)
   ·obtain⟨k,hk,ha⟩:=List.mem_flatMap.1 ha;have:=Cr inv.ahead.ahead _ _ ha;have:=hLk k hk;omega
theorem MakeInv.nodup {t:Tr} (h:Bv t) {al:List Nd} {pl:Nat->Int} (inv:MakeInv t t.nodes.length al pl):(Ak al (pl t.root.toNat).toNat).Nodup:=by
 have:=Mt h;obtain⟨a,b,e⟩:=List.append_of_mem this;have hap:=inv.apart;rw[e,List.flatMap_append,List.flatMap_cons,List.nodup_append]at hap;exact(List.nodup_append.1 hap.2.1).1
theorem So (n:Nd) (k:Int):Am (DJ n) k=Am n k:=rfl
theorem Mu {t:Tr} (h:Bv t):∀i,i<t.nodes.length->BL (den t.nodes i):=by
 have hA:=AE h;intro i;induction i using Nat.strongRecOn with
 |_ i ih=>
  intro hi;have hn:=List.getElem?_eq_getElem hi;have hnd:An t.nodes i=t.nodes[i]:=by unfold An;rw[hn];rfl
  rw[ER hA,BG];refine⟨⟨rfl,?_⟩,fun x hx=> ?_⟩
  ·rw[So,List.length_map,B6,List.length_map,hnd];exact DD h hn
  ·obtain⟨k,hk,rfl⟩:=List.mem_map.1 hx;have:=hA i k hk;exact ih k this (by omega)
theorem MakeInv.done {t:Tr} (h:Bv t) (hf:BL (den t.nodes t.root.toNat)) {al:List Nd} {pl:Nat->Int} (inv:MakeInv t t.nodes.length al pl):
  (Ak (Br al) (pl t.root.toNat).toNat).Nodup/\EV ⟨Br al,0⟩ (pl t.root.toNat).toNat=DC (Bo (den t.nodes t.root.toNat)):=by
 have hr:t.root.toNat<t.nodes.length:=by have:=h.1;omega
 have hrep:=inv.rep _ hr
 have hnd:(Ak al (pl t.root.toNat).toNat).Nodup:=by
  have:=Mt h;obtain⟨a,b,e⟩:=List.append_of_mem this;have hap:=inv.apart;rw[e,List.flatMap_append,List.flatMap_cons,List.nodup_append]at hap;exact(List.nodup_append.1 hap.2.1).1
 have hn2:=List.Sublist.nodup (J2 inv.ahead.ahead _) hnd;refine⟨hn2,?_⟩;rw[Si (t:=⟨Br al,0⟩) (Cq inv.ahead.ahead).ahead hn2];congr 1;show den (Br al) _=_;rw[TY inv.ahead.ahead _ hrep.lt,hrep.den inv.ahead,Yy hf]
end Go.Proofs.YtdnochjajoiooaaGreatDoor
