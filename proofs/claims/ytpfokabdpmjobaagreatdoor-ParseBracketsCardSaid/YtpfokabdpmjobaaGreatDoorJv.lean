/- The reading of a choice, round by round, plain: the arena and the machine. -/
import Derived.Test.YtpfokabdpmjobaaGreatDoorJu
import Derived.Test.YtpfokabdpmjobaaGreatDoorJd
namespace Go.Proofs.YtpfokabdpmjobaaGreatDoor
set_option linter.unusedSimpArgs false
set_option linter.unusedVariables false
theorem makes_true (W:List Wd):Makes W fun _ _=>True:=⟨fun _ _ _ _=>trivial,fun _=>trivial,fun _ _ _=>trivial,fun _ _ _ _ _ _ _=>trivial,fun _ _ _ _ _=>trivial,fun _ _ _ _ _ _=>trivial,fun _ _ _ _ _=>trivial⟩
def hsum (os:List Ol):Nat:=(os.map fun o=>o.heads.length).sum
abbrev obsR (os:List Ol):List Ob:=os.reverse.map Ol.ob
theorem obs_snoc (os0:List Ol) (top:Ol):obsR (os0++[top])=top.ob::obsR os0:=by simp[obsR]
theorem opens_snoc (os0:List Ol) (top:Ol):opensP (obsR (os0++[top]))=(top.ways++top.parts)++opensP (obsR os0):=by simp[opensP,Ol.ob]
theorem hsum_snoc (os0:List Ol) (top:Ol):hsum (os0++[top])=hsum os0+top.heads.length:=by simp[hsum]
structure ChI (W:List Wd) (s0 s:PS) (ls:List Ln) (os:List Ol):Prop where
 go:goP W s=goP W s0
 le:s.i≤W.length
 sim:SimS (ndsL ls) (obsR os) s.st
 fine:Fine (ndsL ls) (opensP (obsR os))
 good:GoodS (fun _ _=>True) s.calls s.st
 num:ls.length+hsum os≤3*s.i
 len:os.length≤s.i+1
theorem Fine.opens_le {l:List Nd} {P:List Int} (h:Fine l P):P.length≤l.length:=by
 have:=h.perm.length_eq
 simp[ints]at this;omega
theorem ChI.step {W:List Wd} {s0 s s':PS} {ls ls':List Ln} {os os':List Ol} (h:ChI W s0 s ls os) (hW:∀x∈W,mayS x) (hs:stepP W s=.inl s') (hsim:SimS (ndsL ls') (obsR os') s'.st) (hf:Fine (ndsL ls') (opensP (obsR os'))) (hn:ls'.length+hsum os'≤3*s'.i) (hl:os'.length≤s'.i+1):ChI W s0 s' ls' os':=
 ⟨(go_more h.le hs).symm.trans h.go,(step_lt hs).2,hsim,hf,good_step (makes_true W) hW h.good hs,hn,hl⟩
theorem ChI.top {W:List Wd} {s0 s:PS} {ls:List Ln} {os:List Ol} (h:ChI W s0 s ls os):∃os0 top b rest,os=os0++[top]∧s.st=b::rest∧SimO (ndsL ls) top.ob b∧SimS (ndsL ls) (obsR os0) rest:=by
 have hg:=h.good.1
 have hs:=h.sim
 rcases List.eq_nil_or_concat os with rfl|⟨os0,top,e⟩
 ·have:=hs.length
  cases hst:s.st with
  |nil=>rw[hst]at hg;exact hg.elim
  |cons b r=>rw[hst]at this;simp[obsR]at this
 ·rw[List.concat_eq_append]at e
  subst e
  rw[obs_snoc]at hs
  cases hst:s.st with
  |nil=>rw[hst]at hg;exact hg.elim
  |cons b rest=>rw[hst]at hs;exact⟨os0,top,b,rest,rfl,rfl,hs.1,hs.2⟩
theorem ChI.prim {W:List Wd} {s0 s:PS} {ls lsA lsB:List Ln} {os os0:List Ol} {top top':Ol} {b:Op} {rest:List Op} {i1:Nat} {t:TT} {z:Int} {P:List Int} {calls':List Nat} (h:ChI W s0 s ls os) (hW:∀x∈W,mayS x)
  (hs:stepP W s=.inl ⟨(primT W b i1 t).2,(primT W b i1 t).1::rest,calls'⟩) (hO:SimO (ndsL lsA) top.ob b) (hS:SimS (ndsL lsA) (obsR os0) rest) (hP:P.Perm (opensP (obsR (os0++[top]))))
  (hpre:∃m,ndsL lsB=ndsL lsA++m) (hz:RepZ (ndsL lsB) z (headT top.heads (suffT W (W.length-i1) i1 t).1)) (hf:Fine (ndsL lsB) (z::P)) (htop:top'.ob={top.ob with heads:=[],parts:=top.parts++[z]})
  (hlen:lsB.length=lsA.length+((suffT W (W.length-i1) i1 t).2-i1)+top.heads.length) (hnum:lsA.length+hsum (os0++[top])≤3*i1) (hol:os0.length≤i1):ChI W s0 ⟨(primT W b i1 t).2,(primT W b i1 t).1::rest,calls'⟩ lsB (os0++[top']):=by
 obtain⟨m,hm⟩:=hpre
 have hhd:b.heads=top.heads:=hO.heads.symm
 have hge:=prim_ge W b i1 t
 have hh0:top'.heads.length=0:=by have:=congrArg Ob.heads htop;simp[Ol.ob]at this;simp[this]
 have hw0:top'.ways=top.ways:=by have:=congrArg Ob.ways htop;simpa[Ol.ob]using this
 have hp0:top'.parts=top.parts++[z]:=by have:=congrArg Ob.parts htop;simpa[Ol.ob]using this
 refine h.step hW hs ?_ ?_ ?_ ?_
 ·rw[obs_snoc,htop]
  refine⟨⟨hO.fin,hO.name,rfl,?_,?_,fun k hk=>by cases hk⟩,?_⟩
  ·rw[hm];exact hO.ways.append
  ·refine RepL.snoc (by rw[hm];exact hO.parts.append) ?_
   rw[hhd];exact hz
  ·rw[hm];exact hS.append
 ·refine hf.re ?_
  rw[opens_snoc,hw0,hp0]
  refine(List.Perm.cons z hP).trans ?_
  rw[opens_snoc]
  have e:top.ways++(top.parts++[z])++opensP (obsR os0)=(top.ways++top.parts)++z::opensP (obsR os0):=by simp
  rw[e]
  exact List.perm_middle.symm
 ·rw[hsum_snoc]at hnum ⊢
  have e2:(primT W b i1 t).2=(suffT W (W.length-i1) i1 t).2:=rfl
  have:=(suff_ge W (W.length-i1) i1 t).1
  show lsB.length+(hsum os0+top'.heads.length)≤3*(primT W b i1 t).2
  rw[hh0,hlen,e2]
  omega
 ·have:=hge.1
  show(os0++[top']).length≤(primT W b i1 t).2+1
  simp;omega
theorem ChI.head {W:List Wd} {s0 s:PS} {ls:List Ln} {os0:List Ol} {top top':Ol} {b:Op} {rest:List Op} (h:ChI W s0 s ls (os0++[top])) (hW:∀x∈W,mayS x) (hst:s.st=b::rest) (hl:isLeaf W s.i=false) (hk:kdW W s.i=4∨kdW W s.i=5)
  (htop:top'.ob={top.ob with heads:=top.heads++[headK (kdW W s.i)]}):ChI W s0 ⟨s.i+1,{b with heads:=b.heads++[headK (kdW W s.i)]}::rest,s.calls⟩ ls (os0++[top']):=by
 have hsim:=h.sim
 rw[obs_snoc,hst]at hsim
 have hh0:top'.heads=top.heads++[headK (kdW W s.i)]:=by have:=congrArg Ob.heads htop;simpa[Ol.ob]using this
 have hw0:top'.ways=top.ways:=by have:=congrArg Ob.ways htop;simpa[Ol.ob]using this
 have hp0:top'.parts=top.parts:=by have:=congrArg Ob.parts htop;simpa[Ol.ob]using this
 refine h.step hW (s':=⟨s.i+1,{b with heads:=b.heads++[headK (kdW W s.i)]}::rest,s.calls⟩) ?_ ?_ ?_ ?_ ?_
 ·unfold stepP;rw[hst];simp only[hl,hk,if_true,Bool.false_eq_true,if_false];rfl
 ·rw[obs_snoc,htop]
  refine⟨⟨hsim.1.fin,hsim.1.name,?_,hsim.1.ways,hsim.1.parts,fun k hk'=> ?_⟩,hsim.2⟩
  ·show top.heads++_=b.heads++_
   rw[show b.heads=top.heads from hsim.1.heads.symm]
  ·rcases List.mem_append.1 hk' with hk'|hk'
   ·exact hsim.1.hd k hk'
   ·rw[List.mem_singleton.1 hk'];unfold headK;split <;> simp
 ·have:=h.fine;rw[opens_snoc]at this ⊢;rw[hw0,hp0];exact this
 ·have:=h.num;rw[hsum_snoc]at this ⊢;rw[hh0];simp only[List.length_append,List.length_singleton];omega
 ·have:=h.len;simp only[List.length_append,List.length_singleton]at this ⊢;omega
theorem ChI.open_ok {W:List Wd} {s0 s:PS} {ls:List Ln} {os:List Ol} (h:ChI W s0 s ls os) (hW:∀x∈W,mayS x) (hl:isLeaf W s.i=false) (hk:kdW W s.i=9∨kdW W s.i=11) (hok:(openR W s.i).1=true):
  ∃st,ChI W s0 ⟨(openR W s.i).2.1,st,s.calls⟩ ls (os++[newOl (openR W s.i).2.2.1 (openR W s.i).2.2.2]):=by
 obtain⟨os0,top,b,rest,rfl,hst,hO,hS⟩:=h.top
 have hsim:=h.sim;rw[hst]at hsim
 have n45:¬(kdW W s.i=4∨kdW W s.i=5):=by omega
 have hfine:∀fn nm,Fine (ndsL ls) (opensP (obsR (os0++[top]++[newOl fn nm]))):=fun fn nm=>by rw[opens_snoc];exact h.fine
 have hnum:∀fn nm,ls.length+hsum (os0++[top]++[newOl fn nm])≤3*s.i:=fun fn nm=>by rw[hsum_snoc];exact h.num
 rcases hk with hk|hk
 ·have e:openR W s.i=(true,s.i+1,10,[]):=by unfold openR;rw[if_pos hk]
  rw[e]
  refine⟨⟨10,[],[],[],[]⟩::s.st,h.step hW ?_ ?_ (hfine _ _) ?_ ?_⟩
  ·unfold stepP;rw[hst];simp[hl,hk]
  ·rw[obs_snoc,hst];exact⟨⟨rfl,rfl,rfl,RepL.nil _,RepL.nil _,fun k hk=>by cases hk⟩,hsim⟩
  ·exact Nat.le_trans (hnum 10 []) (by show 3*s.i≤3*(s.i+1);omega)
  ·have:=h.len;simp only[List.length_append,List.length_singleton]at this ⊢;omega
 ·have n9:¬kdW W s.i=9:=by omega
  by_cases n1:kdW W (s.i+1)=1
  ·by_cases n13:kdW W (s.i+2)=13
   ·have e:openR W s.i=(true,s.i+3,12,(wdW W (s.i+1)).text):=by unfold openR;rw[if_neg n9,if_pos n1,if_pos n13]
    rw[e]
    refine⟨⟨12,(wdW W (s.i+1)).text,[],[],[]⟩::s.st,h.step hW ?_ ?_ (hfine _ _) ?_ ?_⟩
    ·unfold stepP;rw[hst];simp[hl,hk,n1,n13]
    ·rw[obs_snoc,hst];exact⟨⟨rfl,rfl,rfl,RepL.nil _,RepL.nil _,fun k hk=>by cases hk⟩,hsim⟩
    ·exact Nat.le_trans (hnum 12 (wdW W (s.i+1)).text) (by show 3*s.i≤3*(s.i+3);omega)
    ·have:=h.len;simp only[List.length_append,List.length_singleton]at this ⊢;omega
   ·unfold openR at hok;rw[if_neg n9,if_pos n1,if_neg n13]at hok;cases hok
  ·unfold openR at hok;rw[if_neg n9,if_neg n1]at hok;cases hok
theorem ChI.open_no {W:List Wd} {s0 s:PS} {ls:List Ln} {os:List Ol} (h:ChI W s0 s ls os) (hl:isLeaf W s.i=false) (hk:kdW W s.i=9∨kdW W s.i=11) (hok:(openR W s.i).1=false):goP W s0=(.fail (openR W s.i).2.1,s.calls):=by
 obtain⟨os0,top,b,rest,rfl,hst,hO,hS⟩:=h.top
 have n45:¬(kdW W s.i=4∨kdW W s.i=5):=by omega
 rw[←h.go]
 rcases hk with hk|hk
 ·unfold openR at hok;rw[if_pos hk]at hok;cases hok
 ·have n9:¬kdW W s.i=9:=by omega
  by_cases n1:kdW W (s.i+1)=1
  ·by_cases n13:kdW W (s.i+2)=13
   ·unfold openR at hok;rw[if_neg n9,if_pos n1,if_pos n13]at hok;cases hok
   ·refine go_end h.le ?_
    unfold stepP openR;rw[hst];simp[hl,hk,n1,n13]
  ·refine go_end h.le ?_
   unfold stepP openR;rw[hst];simp[hl,hk,n1]
structure Plain (W:List Wd) (i:Nat):Prop where
 leaf:isLeaf W i=false
 k4:kdW W i≠4
 k5:kdW W i≠5
 k9:kdW W i≠9
 k11:kdW W i≠11
theorem ChI.heads_no {W:List Wd} {s0 s:PS} {ls:List Ln} {os0:List Ol} {top:Ol} (h:ChI W s0 s ls (os0++[top])) (hp:Plain W s.i) (hh:top.heads≠[]):goP W s0=(.fail s.i,s.calls):=by
 have hsim:=h.sim
 rw[obs_snoc]at hsim
 rw[←h.go]
 refine go_end h.le ?_
 cases hst:s.st with
 |nil=>rw[hst]at hsim;exact hsim.elim
 |cons b rest=>
  rw[hst]at hsim
  have hb:b.heads≠[]:=by rw[←hsim.1.heads];exact hh
  unfold stepP;rw[hst];simp[hp.leaf,hp.k4,hp.k5,hp.k9,hp.k11,hb]
structure WayI (W:List Wd) (s0 s:PS) (ls lsA:List Ln) (os0:List Ol) (top:Ol) (b:Op) (rest:List Op) (z:Int):Prop where
 inv:ChI W s0 s ls (os0++[top])
 plain:Plain W s.i
 st:s.st=b::rest
 heads:top.heads=[]
 pre:∃m,ndsL lsA=ndsL ls++m
 rep:RepL (ndsL lsA) (top.ways++[z]) (wayT b).ways
 fine:Fine (ndsL lsA) ((top.ways++[z])++opensP (obsR os0))
 simO:SimO (ndsL lsA) {top.ob with ways:=top.ways++[z],parts:=[]} (wayT b)
 simS:SimS (ndsL lsA) (obsR os0) rest
 len:lsA.length≤ls.length+1
theorem ChI.way {W:List Wd} {s0 s:PS} {ls lsA:List Ln} {os0:List Ol} {top:Ol} (h:ChI W s0 s ls (os0++[top])) (hp:Plain W s.i) (hh:top.heads=[]) (hl:ndsL lsA=(unitA (ndsL ls) seqN top.parts).1):
  ∃b rest,WayI W s0 s ls lsA os0 top b rest (unitA (ndsL ls) seqN top.parts).2:=by
 have hsim:=h.sim
 rw[obs_snoc]at hsim
 cases hst:s.st with
 |nil=>rw[hst]at hsim;exact hsim.elim
 |cons b rest=>
  rw[hst]at hsim
  obtain⟨m,hm⟩:=unitA_pre (ndsL ls) seqN top.parts
  have hu:=rep_unitA (n:=seqN) rfl hsim.1.parts
  have hw:RepL (ndsL lsA) (top.ways++[(unitA (ndsL ls) seqN top.parts).2]) (wayT b).ways:=by
   refine RepL.snoc ?_ ?_
   ·rw[hl,hm];exact hsim.1.ways.append
   ·rw[hl];exact hu
  have hf:=h.fine
  rw[opens_snoc]at hf
  have hf2:Fine (ndsL ls) (top.parts++(top.ways++opensP (obsR os0))):=hf.re (by
   rw[List.append_assoc,←List.append_assoc top.parts]
   refine(List.perm_append_comm_assoc top.ways top.parts _).trans ?_
   rw[List.append_assoc])
  have hf3:=fine_unitA (n:=seqN) (fun k hk=>fit_seqN k hk) hf2
  have hlen:lsA.length≤ls.length+1:=by
   have e:lsA.length=(ndsL lsA).length:=by simp[ndsL]
   rw[e,hl]
   match top.parts with
   |[]=>simp[unitA,addA]
   |[x]=>simp[unitA]
   |x::y::l=>simp[unitA,addA]
  refine⟨b,rest,h,hp,hst,hh,⟨m,by rw[hl,hm]⟩,hw,?_,⟨hsim.1.fin,hsim.1.name,?_,hw,RepL.nil _,fun k hk=>hsim.1.hd k hk⟩,by rw[hl,hm];exact hsim.2.append,hlen⟩
  ·rw[hl]
   refine hf3.re ?_
   rw[List.append_assoc]
   exact List.perm_middle.symm
  ·exact hsim.1.heads
theorem WayI.slash {W:List Wd} {s0 s:PS} {ls lsA:List Ln} {os0:List Ol} {top top':Ol} {b:Op} {rest:List Op} {z:Int} (h:WayI W s0 s ls lsA os0 top b rest z) (hW:∀x∈W,mayS x) (hk:kdW W s.i=3) (htop:top'.ob={top.ob with ways:=top.ways++[z],parts:=[]}):
  ChI W s0 ⟨s.i+1,wayT b::rest,s.calls⟩ lsA (os0++[top']):=by
 have hb:b.heads=[]:=by
  have:=h.simO.heads
  have e:(wayT b).heads=b.heads:=rfl
  rw[e]at this;rw[←this];exact h.heads
 have hh0:top'.heads=top.heads:=by have:=congrArg Ob.heads htop;simpa[Ol.ob]using this
 have hw0:top'.ways=top.ways++[z]:=by have:=congrArg Ob.ways htop;simpa[Ol.ob]using this
 have hp0:top'.parts=[]:=by have:=congrArg Ob.parts htop;simpa[Ol.ob]using this
 refine h.inv.step hW (s':=⟨s.i+1,wayT b::rest,s.calls⟩) ?_ ?_ ?_ ?_ ?_
 ·unfold stepP;rw[h.st];simp[h.plain.leaf,hk,hb]
 ·rw[obs_snoc,htop];exact⟨h.simO,h.simS⟩
 ·rw[opens_snoc,hw0,hp0,List.append_nil];exact h.fine
 ·have h1:=h.inv.num;have h2:=h.len;rw[hsum_snoc]at h1 ⊢;rw[hh0];show _≤3*(s.i+1);omega
 ·have:=h.inv.len;simp only[List.length_append,List.length_singleton]at this ⊢;show _≤s.i+1+1;omega
theorem unitA_len (l:List Nd) (n:Nd) (zs:List Int):(unitA l n zs).1.length≤l.length+1:=by
 match zs with
 |[]=>simp[unitA,addA]
 |[x]=>simp[unitA]
 |x::y::l=>simp[unitA,addA]
structure EndI (W:List Wd) (s0 s:PS) (lsB:List Ln) (os0:List Ol) (top:Ol) (b:Op) (rest:List Op) (z:Int):Prop where
 rep:RepZ (ndsL lsB) z (joinP choN (wayT b).ways)
 fine:Fine (ndsL lsB) (z::opensP (obsR os0))
 simS:SimS (ndsL lsB) (obsR os0) rest
 st:s.st=b::rest
 go:goP W s=goP W s0
 le:s.i≤W.length
 plain:Plain W s.i
 k3:kdW W s.i≠3
 heads:b.heads=[]
 good:GoodS (fun _ _=>True) s.calls s.st
 num:lsB.length+hsum os0≤3*s.i+2
 len:os0.length+1≤s.i+1
 fin:top.fin=b.fin
 name:top.name=b.name
theorem WayI.ends {W:List Wd} {s0 s:PS} {ls lsA lsB:List Ln} {os0:List Ol} {top:Ol} {b:Op} {rest:List Op} {z:Int} (h:WayI W s0 s ls lsA os0 top b rest z) (hk:kdW W s.i≠3) (hl:ndsL lsB=(unitA (ndsL lsA) choN (top.ways++[z])).1):
  EndI W s0 s lsB os0 top b rest (unitA (ndsL lsA) choN (top.ways++[z])).2:=by
 obtain⟨m,hm⟩:=unitA_pre (ndsL lsA) choN (top.ways++[z])
 have hu:=rep_unitA (n:=choN) rfl h.rep
 have hb:b.heads=[]:=by
  have:=h.simO.heads
  have e:(wayT b).heads=b.heads:=rfl
  rw[e]at this;rw[←this];exact h.heads
 refine⟨by rw[hl];exact hu,by rw[hl];exact fine_unitA (fun k hk=>fit_choN k hk) h.fine,by rw[hl,hm];exact h.simS.append,h.st,h.inv.go,h.inv.le,h.plain,hk,hb,h.inv.good,?_,?_,h.simO.fin,h.simO.name⟩
 ·have h1:=h.inv.num;have h2:=h.len;rw[hsum_snoc,h.heads]at h1
  have e:lsB.length=(ndsL lsB).length:=by simp[ndsL]
  have h3:=unitA_len (ndsL lsA) choN (top.ways++[z])
  have e2:(ndsL lsA).length=lsA.length:=by simp[ndsL]
  rw[e,hl];simp only[List.length_nil,Nat.add_zero]at h1;omega
 ·have:=h.inv.len;simpa using this
theorem EndI.done {W:List Wd} {s0 s:PS} {lsB:List Ln} {os0:List Ol} {top:Ol} {b:Op} {rest:List Op} {z:Int} (h:EndI W s0 s lsB os0 top b rest z) (hf:top.fin=0):goP W s0=(.done s.i (joinP choN (wayT b).ways),s.calls)∧Fine (ndsL lsB) [z]∧os0=[]:=by
 have hb0:b.fin=0:=by rw[←h.fin];exact hf
 have hg:=h.good.1
 rw[h.st]at hg
 have hr:rest=[]:=by
  cases rest with
  |nil=>rfl
  |cons u r=>rcases hg.1 with e|⟨e,_⟩ <;> rw[hb0]at e <;> cases e
 have ho:os0=[]:=by
  have:=h.simS.length
  rw[hr]at this
  simpa[obsR]using this
 refine⟨?_,?_,ho⟩
 ·rw[←h.go]
  refine go_end h.le ?_
  unfold stepP;rw[h.st];simp[h.plain.leaf,h.plain.k4,h.plain.k5,h.plain.k9,h.plain.k11,h.heads,h.k3,hb0]
 ·have:=h.fine;rw[ho]at this;simpa[opensP,obsR]using this
theorem EndI.fail {W:List Wd} {s0 s:PS} {lsB:List Ln} {os0:List Ol} {top:Ol} {b:Op} {rest:List Op} {z:Int} (h:EndI W s0 s lsB os0 top b rest z) (hf:top.fin≠0) (hk:kdW W s.i≠top.fin):goP W s0=(.fail s.i,s.calls):=by
 rw[h.fin]at hf hk
 rw[←h.go]
 refine go_end h.le ?_
 unfold stepP;rw[h.st];simp[h.plain.leaf,h.plain.k4,h.plain.k5,h.plain.k9,h.plain.k11,h.heads,h.k3,hf,hk]
structure ShutI (W:List Wd) (s:PS) (lsC:List Ln) (os1:List Ol) (upo:Ol) (up:Op) (rest':List Op) (t:TT) (z:Int):Prop where
 step:stepP W s=.inl ⟨(primT W up (s.i+1) t).2,(primT W up (s.i+1) t).1::rest',s.calls⟩
 rep:RepZ (ndsL lsC) z t
 fine:Fine (ndsL lsC) (z::opensP (obsR (os1++[upo])))
 simO:SimO (ndsL lsC) upo.ob up
 simS:SimS (ndsL lsC) (obsR os1) rest'
 num:lsC.length+hsum (os1++[upo])≤3*(s.i+1)
 len:os1.length≤s.i+1
theorem EndI.shut {W:List Wd} {s0 s:PS} {lsB lsC:List Ln} {os0:List Ol} {top:Ol} {b:Op} {rest:List Op} {z z':Int} (h:EndI W s0 s lsB os0 top b rest z) (hf:top.fin≠0) (hk:kdW W s.i=top.fin)
  (hc:(top.fin=10∧lsC=lsB∧z'=z)∨(top.fin=12∧ndsL lsC=addA (ndsL lsB) (capN top.name) [z]∧z'=(lsB.length:Int))):
  ∃os1 upo up rest',os0=os1++[upo]∧rest=up::rest'∧ShutI W s lsC os1 upo up rest' (endT b (joinP choN (wayT b).ways)) z':=by
 have hg:=h.good.1
 rw[h.st]at hg
 have hb0:b.fin≠0:=by rw[←h.fin];exact hf
 cases rest with
 |nil=>exact absurd hg hb0
 |cons up rest'=>
  have hmay:top.fin=12→mayL top.name=true:=fun e=>by
   rcases hg.1 with e'|⟨_,e'⟩
   ·rw[←h.fin]at e';omega
   ·rw[h.name];exact e'
  have hs:=h.simS
  rcases List.eq_nil_or_concat os0 with rfl|⟨os1,upo,e⟩
  ·have:=hs.length;simp[obsR]at this
  rw[List.concat_eq_append]at e
  subst e
  have hstep:stepP W s=.inl ⟨(primT W up (s.i+1) (endT b (joinP choN (wayT b).ways))).2,(primT W up (s.i+1) (endT b (joinP choN (wayT b).ways))).1::rest',s.calls⟩:=by
   have hk':kdW W s.i=b.fin:=by rw[hk];exact h.fin
   have n1:=h.plain.k4;have n2:=h.plain.k5;have n3:=h.plain.k9;have n4:=h.plain.k11;have n5:=h.k3
   rw[hk']at n1 n2 n3 n4 n5
   unfold stepP;rw[h.st];simp[h.plain.leaf,hk',n1,n2,n3,n4,n5,h.heads,hb0]
  have hnum:=h.num
  have hlen:os1.length≤s.i+1:=by have:=h.len;simp at this;omega
  rw[obs_snoc]at hs
  refine⟨os1,upo,up,rest',rfl,rfl,?_⟩
  rcases hc with⟨h10,rfl,rfl⟩|⟨h12,hl,rfl⟩
  ·have e10:endT b (joinP choN (wayT b).ways)=joinP choN (wayT b).ways:=by unfold endT;rw[if_neg (by rw[←h.fin];omega)]
   exact⟨hstep,by rw[e10];exact h.rep,h.fine,hs.1,hs.2,by omega,hlen⟩
  ·have e12:endT b (joinP choN (wayT b).ways)=.mk (capN top.name) [joinP choN (wayT b).ways]:=by unfold endT;rw[if_pos (by rw[←h.fin];exact h12),h.name]
   have eB:(ndsL lsB).length=lsB.length:=by simp[ndsL]
   have eC:lsC.length=lsB.length+1:=by have:=congrArg List.length hl;simpa[ndsL,addA]using this
   have hr:=rep_addA (l:=ndsL lsB) (n:=capN top.name) rfl h.rep.one
   have hfn:=Fine.add (ks:=[z]) (P:=opensP (obsR (os1++[upo]))) h.fine (n:=capN top.name) (fit_cap (hmay h12))
   rw[eB]at hr hfn
   refine⟨hstep,by rw[e12,hl];exact hr,by rw[hl];exact hfn,?_,?_,by omega,hlen⟩
   ·rw[hl];exact hs.1.append
   ·rw[hl];exact hs.2.append
theorem ShutI.next {W:List Wd} {s0 s:PS} {ls lsC lsD:List Ln} {os os1:List Ol} {upo upo':Ol} {up:Op} {rest':List Op} {t:TT} {z z':Int} (h:ShutI W s lsC os1 upo up rest' t z) (hi:ChI W s0 s ls os) (hW:∀x∈W,mayS x)
  (hpre:∃m,ndsL lsD=ndsL lsC++m) (hz:RepZ (ndsL lsD) z' (headT upo.heads (suffT W (W.length-(s.i+1)) (s.i+1) t).1)) (hf:Fine (ndsL lsD) (z'::opensP (obsR (os1++[upo])))) (htop:upo'.ob={upo.ob with heads:=[],parts:=upo.parts++[z']})
  (hlen:lsD.length=lsC.length+((suffT W (W.length-(s.i+1)) (s.i+1) t).2-(s.i+1))+upo.heads.length):ChI W s0 ⟨(primT W up (s.i+1) t).2,(primT W up (s.i+1) t).1::rest',s.calls⟩ lsD (os1++[upo']):=
 hi.prim hW h.step h.simO h.simS (List.Perm.refl _) hpre hz hf htop hlen h.num h.len
theorem ChI.leafN {W:List Wd} {s0 s:PS} {ls lsD:List Ln} {os0:List Ol} {top top':Ol} {x:Ln} {z':Int} (h:ChI W s0 s ls (os0++[top])) (hW:∀x∈W,mayS x) (hl:isLeaf W s.i=true) (hx:x.nd=leafW (wdW W s.i)) (hpre:∃m,ndsL lsD=ndsL (ls++[x])++m)
  (hz:RepZ (ndsL lsD) z' (headT top.heads (suffT W (W.length-(s.i+1)) (s.i+1) (.mk (leafW (wdW W s.i)) [])).1)) (hf:Fine (ndsL lsD) (z'::opensP (obsR (os0++[top])))) (htop:top'.ob={top.ob with heads:=[],parts:=top.parts++[z']})
  (hlen:lsD.length=(ls++[x]).length+((suffT W (W.length-(s.i+1)) (s.i+1) (.mk (leafW (wdW W s.i)) [])).2-(s.i+1))+top.heads.length):
  ∃st,ChI W s0 ⟨(suffT W (W.length-(s.i+1)) (s.i+1) (.mk (leafW (wdW W s.i)) [])).2,st,if kdW W s.i=1 then s.calls++[s.i]else s.calls⟩ lsD (os0++[top']):=by
 have hsim:=h.sim
 rw[obs_snoc]at hsim
 cases hst:s.st with
 |nil=>rw[hst]at hsim;exact hsim.elim
 |cons b rest=>
  rw[hst]at hsim
  have e:ndsL (ls++[x])=ndsL ls++[x.nd]:=by simp[ndsL]
  refine⟨(primT W b (s.i+1) (.mk (leafW (wdW W s.i)) [])).1::rest,h.prim (b:=b) (rest:=rest) (lsA:=ls++[x]) hW ?_ (by rw[e];exact hsim.1.append) (by rw[e];exact hsim.2.append) (List.Perm.refl _) hpre hz hf htop hlen ?_ ?_⟩
  ·unfold stepP;rw[hst];simp[hl]
  ·have:=h.num;simp only[List.length_append,List.length_singleton];omega
  ·have:=h.len;simp at this;omega
theorem ChI.leafF {W:List Wd} {s0 s:PS} {ls:List Ln} {os:List Ol} {x:Ln} (h:ChI W s0 s ls os) (hW:∀x∈W,mayS x) (hl:isLeaf W s.i=true) (hx:x.nd=leafW (wdW W s.i)):
  RepZ (ndsL (ls++[x])) (ls.length:Int) (.mk (leafW (wdW W s.i)) [])∧Fine (ndsL (ls++[x])) ((ls.length:Int)::opensP (obsR os)):=by
 have hk0:=leaf_kids (wdW W s.i)
 have e:ndsL (ls++[x])=addA (ndsL ls) (leafW (wdW W s.i)) []:=by
  have e1:({leafW (wdW W s.i)with kids:=[]}:Nd)=leafW (wdW W s.i):=by rw[←hk0]
  simp[ndsL,addA,e1,hx]
 have eB:(ndsL ls).length=ls.length:=by simp[ndsL]
 have hlt:=leaf_lt hl
 have hm:mayS (wdW W s.i):=by rw[wd_at hlt];exact hW _ (List.getElem_mem hlt)
 have hkk:(wdW W s.i).kind=1∨(wdW W s.i).kind=15∨(wdW W s.i).kind=16:=by
  rw[kd_wd]
  unfold isLeaf at hl
  simp only[Bool.or_eq_true,Bool.and_eq_true,decide_eq_true_eq]at hl
  omega
 have hr:=rep_addA (l:=ndsL ls) (n:=leafW (wdW W s.i)) hk0 (RepL.nil _)
 have hfn:=Fine.add (ks:=[]) (P:=opensP (obsR os)) h.fine (n:=leafW (wdW W s.i)) (fit_leaf hm hkk)
 rw[eB]at hr hfn
 rw[e];exact⟨hr,hfn⟩
end Go.Proofs.YtpfokabdpmjobaaGreatDoor
