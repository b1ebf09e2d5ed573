/- Plain: the arena of a tree that fits is right; what is made normal is normal. -/
import Derived.Test.YtpfokabdpmjobaaGreatDoorAd
namespace Go.Proofs.YtpfokabdpmjobaaGreatDoor
open Go.RowKit
set_option linter.unusedSimpArgs false
set_option linter.unusedVariables false
structure Grove (N:List Nd) (R:Nat→Prop):Prop where
 lt:∀p,R p→p<N.length
 ok:∀i n,N[i]?=some n→ndOk i n=true
 root:∀p,R p→(kidsOf N).count (p:Int)=0
 kid:∀p,p<N.length→ ¬R p→(kidsOf N).count (p:Int)=1
theorem Grove.nil:Grove [] (fun _=>False):=⟨fun _ h=>h.elim,fun i n h=>by simp at h,fun _ h=>h.elim,fun p h=>by simp at h⟩
theorem Grove.congr {N:List Nd} {R R':Nat→Prop} (h:Grove N R) (e:∀p,R p↔R' p):Grove N R':=(funext fun p=>propext (e p):R=R')▸h
theorem kidsOf_append (N M:List Nd):kidsOf (N++M)=kidsOf N++kidsOf M:=by simp[kidsOf]
theorem kidsOf_one (n:Nd):kidsOf [n]=n.kids:=by simp[kidsOf]
theorem Grove.far {N:List Nd} {R:Nat→Prop} (h:Grove N R):(kidsOf N).count (N.length:Int)=0:=by
 refine List.count_eq_zero.2 fun hm=> ?_
 obtain⟨n,hn,hk⟩:=List.mem_flatMap.1 hm
 obtain⟨i,hi,rfl⟩:=List.mem_iff_getElem.1 hn
 have:=h.ok i _ (List.getElem?_eq_getElem hi)
 simp only[ndOk,Bool.and_eq_true,List.all_eq_true,decide_eq_true_eq]at this
 have:=(this.2 _ hk).2
 omega
theorem Grove.push {N:List Nd} {R:Nat→Prop} (h:Grove N R) {n:Nd} (hf:fitN n n.kids.length=true) (hk:∀k∈n.kids,0≤k∧R k.toNat) (hn:n.kids.Nodup):
  Grove (N++[n]) (fun p=>p=N.length∨(R p∧(p:Int)∉n.kids)):=by
 have hc:∀p:Nat,(kidsOf (N++[n])).count (p:Int)=(kidsOf N).count (p:Int)+n.kids.count (p:Int):=fun p=>by rw[kidsOf_append,kidsOf_one,List.count_append]
 have h0:n.kids.count (N.length:Int)=0:=List.count_eq_zero.2 fun hm=>by
  have:=h.lt _ (hk _ hm).2
  simp at this
 refine⟨fun p hp=> ?_,fun i m hm=> ?_,fun p hp=> ?_,fun p hp hr=> ?_⟩
 ·rw[List.length_append]
  rcases hp with rfl|hp
  ·simp
  ·have:=h.lt p hp.1;omega
 ·by_cases hi:i<N.length
  ·rw[List.getElem?_append_left hi]at hm;exact h.ok i m hm
  ·have hl:=(List.getElem?_eq_some_iff.1 hm).1
   simp only[List.length_append,List.length_singleton]at hl
   obtain rfl:i=N.length:=by omega
   rw[List.getElem?_append_right (Nat.le_refl _),Nat.sub_self]at hm
   simp only[List.getElem?_cons_zero,Option.some.injEq]at hm
   subst hm
   simp only[ndOk,hf,Bool.true_and,List.all_eq_true,decide_eq_true_eq]
   intro k hk'
   have h1:=hk k hk'
   have:=h.lt _ h1.2
   omega
 ·rw[hc]
  rcases hp with rfl|hp
  ·rw[h.far,h0]
  ·rw[h.root p hp.1,List.count_eq_zero.2 hp.2]
 ·rw[hc]
  by_cases e:p=N.length
  ·exact absurd (.inl e) hr
  ·have hp:p<N.length:=by rw[List.length_append]at hp;simp at hp;omega
   by_cases hR:R p
   ·have hm:(p:Int)∈n.kids:=Decidable.byContradiction fun hx=>hr (.inr ⟨hR,hx⟩)
    rw[h.root p hR,hn.count,if_pos hm]
   ·rw[h.kid p hp hR,List.count_eq_zero.2 fun hm=>hR (by simpa using(hk _ hm).2)]
theorem Grove.right {N:List Nd} {r:Nat} (h:Grove N (fun p=>p=r)):rightP ⟨N,(r:Int)⟩:=by
 have hl:=h.lt r rfl
 refine⟨⟨by show(0:Int)≤r;omega,by show(r:Int)<_;exact_mod_cast hl⟩,h.ok,fun i hi=> ?_⟩
 show(kidsOf N).count (i:Int)=if (i:Int)=(r:Int)then 0 else 1
 split
 ·rename_i e;exact h.root i (by exact_mod_cast e)
 ·rename_i e;exact h.kid i hi fun e'=>e (by rw[e'])
theorem fitN_kids (n:Nd) (ks:List Int) (k:Int):fitN {n with kids:=ks} k=fitN n k:=rfl
theorem ends_ge:∀(T:List (List Nd)) (off:Nat),(∀t∈T,1≤t.length)→ ∀z∈endsN off T,(off:Int)≤z
 |[],_,_,z,h=>by simp[endsN]at h
 |t::ts,off,ht,z,h=>by
  have h1:=ht t List.mem_cons_self
  simp only[endsN,List.mem_cons]at h
  rcases h with rfl|h
  ·omega
  ·have:=ends_ge ts (off+t.length) (fun t h=>ht t (List.mem_cons_of_mem _ h)) z h;omega
theorem ends_nodup:∀(T:List (List Nd)) (off:Nat),(∀t∈T,1≤t.length)→(endsN off T).Nodup
 |[],_,_=>by simp[endsN]
 |t::ts,off,ht=>by
  have h1:=ht t List.mem_cons_self
  have h2:∀t'∈ts,1≤t'.length:=fun t h=>ht t (List.mem_cons_of_mem _ h)
  simp only[endsN,List.nodup_cons]
  refine⟨fun hm=> ?_,ends_nodup ts _ h2⟩
  have:=ends_ge ts (off+t.length) h2 _ hm;omega
theorem grove_cat:∀(ks:List TT) (N:List Nd) (R:Nat→Prop),(∀x∈ks,∀M Q,Grove M Q→Grove (M++(flatT x).map (shiftN M.length)) (fun p=>Q p∨p=M.length+((flatT x).length-1)))→Grove N R →
  Grove (N++catN N.length (ks.map flatT)) (fun p=>R p∨(p:Int)∈endsN N.length (ks.map flatT))
 |[],N,R,_,h=>by
  simp only[List.map_nil,catN,endsN,List.append_nil]
  exact h.congr fun p=>by simp
 |x::ks,N,R,hx,h=>by
  have h1:=hx x List.mem_cons_self N R h
  have h2:=grove_cat ks _ _ (fun y hy=>hx y (List.mem_cons_of_mem _ hy)) h1
  have hl:=flat_ne x
  simp only[List.length_append,List.length_map,List.append_assoc]at h2
  simp only[List.map_cons,catN,endsN]
  refine h2.congr fun p=> ?_
  simp only[List.mem_cons]
  constructor
  ·rintro((h3|rfl)|h3)
   ·exact .inl h3
   ·exact .inr (.inl (by omega))
   ·exact .inr (.inr h3)
  ·rintro(h3|h3|h3)
   ·exact .inl (.inl h3)
   ·exact .inl (.inr (by omega))
   ·exact .inr h3
theorem grove_flat {x:TT}:fitTT x→ ∀N R,Grove N R→Grove (N++(flatT x).map (shiftN N.length)) (fun p=>R p∨p=N.length+((flatT x).length-1)):=by
 induction x using TT.ind with
 |h n ks ih=>
  intro hf N R h
  obtain⟨⟨hk,hn⟩,hks⟩:=fitTT_mk.1 hf
  have h1:=grove_cat ks N R (fun y hy=>ih y hy (hks y hy)) h
  have hne:∀t∈ks.map flatT,1≤t.length:=fun t ht=>by obtain⟨y,_,rfl⟩:=List.mem_map.1 ht;exact flat_ne y
  have hl:(catN 0 (ks.map flatT)).length=(catN N.length (ks.map flatT)).length:=by
   rw[show N.length=N.length+0 by omega,←cat_shift];simp
  have hs:(flatT (.mk n ks)).map (shiftN N.length)=catN N.length (ks.map flatT)++[{n with kids:=endsN N.length (ks.map flatT)}]:=by
   rw[flatT_mk,List.map_append,cat_shift,Nat.add_zero,List.map_singleton]
   congr 2
   show({n with kids:=(endsN 0 (ks.map flatT)).map (· + (N.length:Int))}:Nd)=_
   rw[ends_shift,Nat.add_zero]
  have hlen:(flatT (.mk n ks)).length=(catN N.length (ks.map flatT)).length+1:=by rw[flatT_mk,List.length_append,hl];rfl
  rw[hs,←List.append_assoc]
  refine(h1.push (n:={n with kids:=endsN N.length (ks.map flatT)}) (by rw[fitN_kids];simp only[ends_length',List.length_map];exact hn) (fun k hk'=> ?_) (ends_nodup _ _ hne)).congr fun p=> ?_
  ·have:=ends_ge _ _ hne k hk'
   refine⟨by omega,.inr ?_⟩
   rw[show((k.toNat:Nat):Int)=k by omega];exact hk'
  ·rw[List.length_append,hlen]
   constructor
   ·rintro(h2|⟨h2|h2,h3⟩)
    ·exact .inr (by omega)
    ·exact .inl h2
    ·exact absurd h2 h3
   ·rintro(h2|h2)
    ·refine .inr ⟨.inl h2,fun h3=> ?_⟩
     have h4:=ends_ge _ _ hne _ h3
     have h5:=h.lt p h2
     omega
    ·exact .inl (by omega)
theorem right_treeOf {x:TT} (h:fitTT x):rightP (treeOf x):=by
 have h1:=grove_flat h [] _ Grove.nil
 have e:(flatT x).map (shiftN 0)=flatT x:=by
  refine Eq.trans (List.map_congr_left fun n _=> ?_) (List.map_id _)
  cases n;simp[shiftN]
 simp only[List.nil_append,List.length_nil,e,Nat.zero_add]at h1
 have hl:=flat_ne x
 have h2:=(h1.congr (R':=fun p=>p=(flatT x).length-1) fun p=>by simp).right
 have e2:treeOf x=⟨flatT x,(((flatT x).length-1:Nat):Int)⟩:=by unfold treeOf;congr 1;omega
 rw[e2];exact h2
theorem den_treeOf {x:TT} (h:fitTT x):den (treeOf x).nodes (treeOf x).root.toNat=x:=by
 have hl:=flat_ne x
 have h1:=rep_treeOf (fit_bareTT h)
 have e:(treeOf x).root.toNat=(flatT x).length-1:=by unfold treeOf;simp only;omega
 rw[e]
 exact h1.den (right_aheadZ (right_treeOf h))
theorem shut_den {l:List Nd} (hA:Ahead l):∀i,shutTT (den l i)↔ ∀p∈postN l i,shutN l (ndAt l p)=true:=by
 intro i
 induction i using Nat.strongRecOn with
 |_ i ih=>
  rw[den_eq hA,shutTT_mk,postN_eq hA]
  have hk:∀k,(den l k).kd=(ndAt l k).kind:=fun k=>by rw[den_eq hA];rfl
  have hs:shutN l (ndAt l i)=true↔ ∀k∈kidsAt l i,((ndAt l i).kind=4→(ndAt l k).kind≠4∧(ndAt l k).kind≠0)∧((ndAt l i).kind=5→(ndAt l k).kind≠5):=by
   unfold shutN
   rw[kidsAt_nd]
   by_cases h:(ndAt l i).kind=4∨(ndAt l i).kind=5
   ·rw[if_pos h,List.all_eq_true]
    simp only[List.mem_map,forall_exists_index,and_imp,forall_apply_eq_imp_iff₂,decide_eq_true_eq]
    rcases h with h|h
    ·simp only[h,true_implies,show((4:Int)=5)=False from by decide,false_implies,and_true]
    ·simp only[h,true_implies,show((5:Int)=4)=False from by decide,false_implies,true_and,and_false,not_false_iff,and_true]
   ·rw[if_neg h]
    refine⟨fun _ k _=>⟨fun e=>absurd (.inl e) h,fun e=>absurd (.inr e) h⟩,fun _=>rfl⟩
  constructor
  ·intro h p hp
   rcases List.mem_append.1 hp with hp|hp
   ·obtain⟨k,hk',hp⟩:=List.mem_flatMap.1 hp
    exact(ih k (hA i k hk')).1 (h _ (List.mem_map.2 ⟨k,hk',rfl⟩)).2 p hp
   ·rw[List.mem_singleton.1 hp,hs]
    intro k hk'
    have:=(h _ (List.mem_map.2 ⟨k,hk',rfl⟩)).1
    rw[hk]at this;exact this
  ·intro h t ht
   obtain⟨k,hk',rfl⟩:=List.mem_map.1 ht
   refine⟨?_,(ih k (hA i k hk')).2 fun p hp=>h p (List.mem_append.2 (.inl (List.mem_flatMap.2 ⟨k,hk',hp⟩)))⟩
   rw[hk]
   exact hs.1 (h i (List.mem_append.2 (.inr (List.mem_singleton.2 rfl)))) k hk'
theorem all_post {t:Tr} (h:rightP t) (p:Nat) (hp:p<t.nodes.length):p∈postN t.nodes t.root.toNat:=by
 have hr:t.root.toNat<t.nodes.length:=by have:=h.1;omega
 apply Decidable.byContradiction
 intro hn
 have h1:(p::postN t.nodes t.root.toNat).Nodup:=List.nodup_cons.2 ⟨hn,post_nodup h _ hr⟩
 have h2:=nodup_length h1 (n:=t.nodes.length) (fun k hk=>by
  rcases List.mem_cons.1 hk with rfl|hk
  ·exact hp
  ·have:=postN_le (rightP_ahead h) _ k hk;omega)
 rw[List.length_cons,root_length h]at h2
 omega
theorem norm_den {t:Tr} (h:rightP t):normT t=true↔shutTT (den t.nodes t.root.toNat):=by
 have hr:t.root.toNat<t.nodes.length:=by have:=h.1;omega
 unfold normT
 rw[(rightT_iff _).2 h,Bool.true_and,shut_den (rightP_ahead h),List.all_eq_true]
 constructor
 ·intro ha p hp
  have hl:p<t.nodes.length:=by have:=postN_le (rightP_ahead h) _ p hp;omega
  have e:ndAt t.nodes p=t.nodes[p]:=by simp[ndAt,hl]
  rw[e];exact ha _ (List.getElem_mem hl)
 ·intro ha n hn
  obtain⟨p,hp,rfl⟩:=List.mem_iff_getElem.1 hn
  have e:ndAt t.nodes p=t.nodes[p]:=by simp[ndAt,hp]
  rw[←e];exact ha p (all_post h p hp)
theorem norm_make {x:TT} (h:fitTT x):normT (treeOf (makeTT x))=true:=
 (norm_den (right_treeOf (make_ok h).1)).2 (by rw[den_treeOf (make_ok h).1];exact(make_ok h).2)
abbrev denT (t:Tr):TT:=den t.nodes t.root.toNat
end Go.Proofs.YtpfokabdpmjobaaGreatDoor
