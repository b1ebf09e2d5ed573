/- The reading of a choice, round by round, plain: the arena and the machine. What the end of a choice does with the reader's rows. -/
import Derived.Test.YtdnochjajoiooaaGreatDoorJu
import Derived.Test.YtdnochjajoiooaaGreatDoorJi
namespace Go.Proofs.YtdnochjajoiooaaGreatDoor
set_option linter.unusedSimpArgs false
set_option linter.unusedVariables false
theorem Q0 (W:List Wd):Makes W fun _ _=>True:=⟨fun _ _ _ _=>trivial,fun _=>trivial,fun _ _ _=>trivial,fun _ _ _ _ _ _ _=>trivial,fun _ _ _ _ _=>trivial,fun _ _ _ _ _ _=>trivial,fun _ _ _ _ _=>trivial⟩
def FU (os:List Ol):Nat:=(os.map fun o=>o.heads.length).sum
abbrev C6 (os:List Ol):List Ob:=os.reverse.map Ol.ob
theorem Dd (os0:List Ol) (top:Ol):C6 (os0++[top])=top.ob::C6 os0:=by simp[C6]
theorem Cv (os0:List Ol) (top:Ol):BC (C6 (os0++[top]))=(top.ways++top.parts)++BC (C6 os0):=by simp[BC,Ol.ob]
theorem CP (os0:List Ol) (top:Ol):FU (os0++[top])=FU os0+top.heads.length:=by simp[FU]
structure ChI (W:List Wd) (s0 s:PS) (ls:List Ln) (os:List Ol):Prop where
 go:goP W s=goP W s0
 le:s.i<=W.length
 sim:SimS (A8 ls) (C6 os) s.st
 fine:Fine (A8 ls) (BC (C6 os))
 good:MD (fun _ _=>True) s.calls s.st
 num:ls.length+FU os<=3*s.i
 len:os.length<=s.i+1
theorem Fine.opens_le {l:List Nd} {P:List Int} (h:Fine l P):P.length<=l.length:=by
 have:=h.perm.length_eq;simp[Mg]at this;omega
theorem ChI.step {W:List Wd} {s0 s s':PS} {ls ls':List Ln} {os os':List Ol} (h:ChI W s0 s ls os) (hW:∀x∈W,Cw x) (hs:AL W s=.inl s') (hsim:SimS (A8 ls') (C6 os') s'.st) (hf:Fine (A8 ls') (BC (C6 os'))) (hn:ls'.length+FU os'<=3*s'.i) (hl:os'.length<=s'.i+1):ChI W s0 s' ls' os':=
 ⟨(EH h.le hs).symm.trans h.go,(IR hs).2,hsim,hf,MG (Q0 W) hW h.good hs,hn,hl⟩
theorem ChI.top {W:List Wd} {s0 s:PS} {ls:List Ln} {os:List Ol} (h:ChI W s0 s ls os):∃os0 top b rest,os=os0++[top]/\s.st=b::rest/\SimO (A8 ls) top.ob b/\SimS (A8 ls) (C6 os0) rest:=by
 have hg:=h.good.1;have hs:=h.sim;rcases List.eq_nil_or_concat os with rfl|⟨os0,top,e⟩
 ·have:=hs.length;cases hst:s.st with
  |nil=>rw[hst]at hg;exact hg.elim
  |cons b r=>rw[hst]at this;simp[C6]at this
 ·rw[List.concat_eq_append]at e;subst e;rw[Dd]at hs;cases hst:s.st with
  |nil=>rw[hst]at hg;exact hg.elim
  |cons b rest=>rw[hst]at hs;exact⟨os0,top,b,rest,rfl,rfl,hs.1,hs.2⟩
theorem ChI.prim {W:List Wd} {s0 s:PS} {ls lsA lsB:List Ln} {os os0:List Ol} {top top':Ol} {b:Op} {rest:List Op} {i1:Nat} {t:TT} {z:Int} {P:List Int} {calls':List Nat} (h:ChI W s0 s ls os) (hW:∀x∈W,Cw x)
  (hs:AL W s=.inl ⟨(B8 W b i1 t).2,(B8 W b i1 t).1::rest,calls'⟩) (hO:SimO (A8 lsA) top.ob b) (hS:SimS (A8 lsA) (C6 os0) rest) (hP:P.Perm (BC (C6 (os0++[top]))))
  (hpre:∃m,A8 lsB=A8 lsA++m) (hz:RepZ (A8 lsB) z (Fi top.heads (B4 W (W.length-i1) i1 t).1)) (hf:Fine (A8 lsB) (z::P)) (htop:top'.ob={top.ob with heads:=[],parts:=top.parts++[z]})
  (hlen:lsB.length=lsA.length+((B4 W (W.length-i1) i1 t).2-i1)+top.heads.length) (hnum:lsA.length+FU (os0++[top])<=3*i1) (hol:os0.length<=i1):ChI W s0 ⟨(B8 W b i1 t).2,(B8 W b i1 t).1::rest,calls'⟩ lsB (os0++[top']):=by
 obtain⟨m,hm⟩:=hpre;have hhd:b.heads=top.heads:=hO.heads.symm;have hge:=N5 W b i1 t;have hh0:top'.heads.length=0:=by have:=congrArg Ob.heads htop;simp[Ol.ob]at this;simp[this]
 have hw0:top'.ways=top.ways:=by have:=congrArg Ob.ways htop;simpa[Ol.ob]using this
 have hp0:top'.parts=top.parts++[z]:=by have:=congrArg Ob.parts htop;simpa[Ol.ob]using this
 refine h.step hW hs ?_ ?_ ?_ ?_
 ·rw[Dd,htop];refine⟨⟨hO.fin,hO.name,rfl,?_,?_,fun k hk=>by cases hk⟩,?_⟩
  ·rw[hm];exact hO.ways.append
  ·refine RepL.snoc (by rw[hm];exact hO.parts.append) ?_;rw[hhd];exact hz
  ·rw[hm];exact hS.append
 ·refine hf.re ?_;rw[Cv,hw0,hp0];refine(List.Perm.cons z hP).trans ?_;rw[Cv];have e:top.ways++(top.parts++[z])++BC (C6 os0)=(top.ways++top.parts)++z::BC (C6 os0):=by simp
  rw[e];exact List.perm_middle.symm
 ·rw[CP]at hnum ⊢;have e2:(B8 W b i1 t).2=(B4 W (W.length-i1) i1 t).2:=rfl;have:=(Hq W (W.length-i1) i1 t).1;show lsB.length+(FU os0+top'.heads.length)<=3*(B8 W b i1 t).2;rw[hh0,hlen,e2];omega
 ·have:=hge.1;show(os0++[top']).length<=(B8 W b i1 t).2+1;simp;omega
theorem ChI.head {W:List Wd} {s0 s:PS} {ls:List Ln} {os0:List Ol} {top top':Ol} {b:Op} {rest:List Op} (h:ChI W s0 s ls (os0++[top])) (hW:∀x∈W,Cw x) (hst:s.st=b::rest) (hl:AU W s.i=false) (hk:kdW W s.i=4\/kdW W s.i=5)
  (htop:top'.ob={top.ob with heads:=top.heads++[MQ (kdW W s.i)]}):ChI W s0 ⟨s.i+1,{b with heads:=b.heads++[MQ (kdW W s.i)]}::rest,s.calls⟩ ls (os0++[top']):=by
 have hsim:=h.sim;rw[Dd,hst]at hsim;have hh0:top'.heads=top.heads++[MQ (kdW W s.i)]:=by have:=congrArg Ob.heads htop;simpa[Ol.ob]using this
 have hw0:top'.ways=top.ways:=by have:=congrArg Ob.ways htop;simpa[Ol.ob]using this
 have hp0:top'.parts=top.parts:=by have:=congrArg Ob.parts htop;simpa[Ol.ob]using this
 refine h.step hW (s':=⟨s.i+1,{b with heads:=b.heads++[MQ (kdW W s.i)]}::rest,s.calls⟩) ?_ ?_ ?_ ?_ ?_
 ·unfold AL;rw[hst];simp only[hl,hk,if_true,Bool.false_eq_true,if_false];rfl
 ·rw[Dd,htop];refine⟨⟨hsim.1.fin,hsim.1.name,?_,hsim.1.ways,hsim.1.parts,fun k hk'=> ?_⟩,hsim.2⟩
  ·show top.heads++_=b.heads++_;rw[show b.heads=top.heads from hsim.1.heads.symm]
  ·rcases List.mem_append.1 hk' with hk'|hk'
   ·exact hsim.1.hd k hk'
   ·rw[List.mem_singleton.1 hk'];unfold MQ;split <;> simp
 ·have:=h.fine;rw[Cv]at this ⊢;rw[hw0,hp0];exact this
 ·have:=h.num;rw[CP]at this ⊢;rw[hh0];simp only[List.length_append,List.length_singleton];omega
 ·have:=h.len;simp only[List.length_append,List.length_singleton]at this ⊢;omega
theorem ChI.open_ok {W:List Wd} {s0 s:PS} {ls:List Ln} {os:List Ol} (h:ChI W s0 s ls os) (hW:∀x∈W,Cw x) (hl:AU W s.i=false) (hk:kdW W s.i=9\/kdW W s.i=11) (hok:(BF W s.i).1=true):
  ∃st,ChI W s0 ⟨(BF W s.i).2.1,st,s.calls⟩ ls (os++[C5 (BF W s.i).2.2.1 (BF W s.i).2.2.2]):=by
 obtain⟨os0,top,b,rest,rfl,hst,hO,hS⟩:=h.top;have hsim:=h.sim;rw[hst]at hsim;have n45:¬(kdW W s.i=4\/kdW W s.i=5):=by omega
 have hfine:∀fn nm,Fine (A8 ls) (BC (C6 (os0++[top]++[C5 fn nm]))):=fun fn nm=>by rw[Cv];exact h.fine
 have hnum:∀fn nm,ls.length+FU (os0++[top]++[C5 fn nm])<=3*s.i:=fun fn nm=>by rw[CP];exact h.num
 rcases hk with hk|hk
 ·have e:BF W s.i=(true,s.i+1,10,[]):=by unfold BF;rw[if_pos hk]
  rw[e];refine⟨⟨10,[],[],[],[]⟩::s.st,h.step hW ?_ ?_ (hfine _ _) ?_ ?_⟩
  ·unfold AL;rw[hst];simp[hl,hk]
  ·rw[Dd,hst];exact⟨⟨rfl,rfl,rfl,RepL.nil _,RepL.nil _,fun k hk=>by cases hk⟩,hsim⟩
  ·exact Nat.le_trans (hnum 10 []) (by show 3*s.i<=3*(s.i+1);omega)
  ·have:=h.len;simp only[List.length_append,List.length_singleton]at this ⊢;omega
 ·have n9:¬kdW W s.i=9:=by omega
  by_cases n1:kdW W (s.i+1)=1
  ·by_cases n13:kdW W (s.i+2)=13
   ·have e:BF W s.i=(true,s.i+3,12,(wdW W (s.i+1)).text):=by unfold BF;rw[if_neg n9,if_pos n1,if_pos n13]
    rw[e];refine⟨⟨12,(wdW W (s.i+1)).text,[],[],[]⟩::s.st,h.step hW ?_ ?_ (hfine _ _) ?_ ?_⟩
    ·unfold AL;rw[hst];simp[hl,hk,n1,n13]
    ·rw[Dd,hst];exact⟨⟨rfl,rfl,rfl,RepL.nil _,RepL.nil _,fun k hk=>by cases hk⟩,hsim⟩
    ·exact Nat.le_trans (hnum 12 (wdW W (s.i+1)).text) (by show 3*s.i<=3*(s.i+3);omega)
    ·have:=h.len;simp only[List.length_append,List.length_singleton]at this ⊢;omega
   ·unfold BF at hok;rw[if_neg n9,if_pos n1,if_neg n13]at hok;cases hok
  ·unfold BF at hok;rw[if_neg n9,if_neg n1]at hok;cases hok
theorem ChI.open_no {W:List Wd} {s0 s:PS} {ls:List Ln} {os:List Ol} (h:ChI W s0 s ls os) (hl:AU W s.i=false) (hk:kdW W s.i=9\/kdW W s.i=11) (hok:(BF W s.i).1=false):goP W s0=(.fail (BF W s.i).2.1,s.calls):=by
 obtain⟨os0,top,b,rest,rfl,hst,hO,hS⟩:=h.top;have n45:¬(kdW W s.i=4\/kdW W s.i=5):=by omega
 rw[<-h.go];rcases hk with hk|hk
 ·unfold BF at hok;rw[if_pos hk]at hok;cases hok
 ·have n9:¬kdW W s.i=9:=by omega
  by_cases n1:kdW W (s.i+1)=1
  ·by_cases n13:kdW W (s.i+2)=13
   ·unfold BF at hok;rw[if_neg n9,if_pos n1,if_pos n13]at hok;cases hok
   ·refine JH h.le ?_;unfold AL BF;rw[hst];simp[hl,hk,n1,n13]
  ·refine JH h.le ?_;unfold AL BF;rw[hst];simp[hl,hk,n1]
structure Plain (W:List Wd) (i:Nat):Prop where
 leaf:AU W i=false
 k4:kdW W i≠4
 k5:kdW W i≠5
 k9:kdW W i≠9
 k11:kdW W i≠11
theorem ChI.heads_no {W:List Wd} {s0 s:PS} {ls:List Ln} {os0:List Ol} {top:Ol} (h:ChI W s0 s ls (os0++[top])) (hp:Plain W s.i) (hh:top.heads≠[]):goP W s0=(.fail s.i,s.calls):=by
 have hsim:=h.sim;rw[Dd]at hsim;rw[<-h.go];refine JH h.le ?_;cases hst:s.st with
 |nil=>rw[hst]at hsim;exact hsim.elim
 |cons b rest=>
  rw[hst]at hsim;have hb:b.heads≠[]:=by rw[<-hsim.1.heads];exact hh
  unfold AL;rw[hst];simp[hp.leaf,hp.k4,hp.k5,hp.k9,hp.k11,hb]
structure WayI (W:List Wd) (s0 s:PS) (ls lsA:List Ln) (os0:List Ol) (top:Ol) (b:Op) (rest:List Op) (z:Int):Prop where
 inv:ChI W s0 s ls (os0++[top])
 plain:Plain W s.i
 st:s.st=b::rest
 heads:top.heads=[]
 pre:∃m,A8 lsA=A8 ls++m
 rep:RepL (A8 lsA) (top.ways++[z]) (CF b).ways
 fine:Fine (A8 lsA) ((top.ways++[z])++BC (C6 os0))
 simO:SimO (A8 lsA) {top.ob with ways:=top.ways++[z],parts:=[]} (CF b)
 simS:SimS (A8 lsA) (C6 os0) rest
 len:lsA.length<=ls.length+1
theorem ChI.way {W:List Wd} {s0 s:PS} {ls lsA:List Ln} {os0:List Ol} {top:Ol} (h:ChI W s0 s ls (os0++[top])) (hp:Plain W s.i) (hh:top.heads=[]) (hl:A8 lsA=(Cd (A8 ls) F9 top.parts).1):
  ∃b rest,WayI W s0 s ls lsA os0 top b rest (Cd (A8 ls) F9 top.parts).2:=by
 have hsim:=h.sim;rw[Dd]at hsim;cases hst:s.st with
 |nil=>rw[hst]at hsim;exact hsim.elim
 |cons b rest=>
  rw[hst]at hsim;obtain⟨m,hm⟩:=MB (A8 ls) F9 top.parts;have hu:=MC (n:=F9) rfl hsim.1.parts
  have hw:RepL (A8 lsA) (top.ways++[(Cd (A8 ls) F9 top.parts).2]) (CF b).ways:=by
   refine RepL.snoc ?_ ?_
   ·rw[hl,hm];exact hsim.1.ways.append
   ·rw[hl];exact hu
  have hf:=h.fine;rw[Cv]at hf
  have hf2:Fine (A8 ls) (top.parts++(top.ways++BC (C6 os0))):=hf.re (by
   rw[List.append_assoc,<-List.append_assoc top.parts];refine(List.perm_append_comm_assoc top.ways top.parts _).trans ?_;rw[List.append_assoc])
  have hf3:=Ly (n:=F9) (fun k hk=>OP k hk) hf2
  have hlen:lsA.length<=ls.length+1:=by
   have e:lsA.length=(A8 lsA).length:=by simp[A8]
   rw[e,hl];match top.parts with
   |[]=>simp[Cd,EI]
   |[x]=>simp[Cd]
   |x::y::l=>simp[Cd,EI]
  refine⟨b,rest,h,hp,hst,hh,⟨m,by rw[hl,hm]⟩,hw,?_,⟨hsim.1.fin,hsim.1.name,?_,hw,RepL.nil _,fun k hk=>hsim.1.hd k hk⟩,by rw[hl,hm];exact hsim.2.append,hlen⟩
  ·rw[hl];refine hf3.re ?_;rw[List.append_assoc];exact List.perm_middle.symm
  ·exact hsim.1.heads
theorem WayI.slash {W:List Wd} {s0 s:PS} {ls lsA:List Ln} {os0:List Ol} {top top':Ol} {b:Op} {rest:List Op} {z:Int} (h:WayI W s0 s ls lsA os0 top b rest z) (hW:∀x∈W,Cw x) (hk:kdW W s.i=3) (htop:top'.ob={top.ob with ways:=top.ways++[z],parts:=[]}):
  ChI W s0 ⟨s.i+1,CF b::rest,s.calls⟩ lsA (os0++[top']):=by
 have hb:b.heads=[]:=by
  have:=h.simO.heads;have e:(CF b).heads=b.heads:=rfl;rw[e]at this;rw[<-this];exact h.heads
 have hh0:top'.heads=top.heads:=by have:=congrArg Ob.heads htop;simpa[Ol.ob]using this
 have hw0:top'.ways=top.ways++[z]:=by have:=congrArg Ob.ways htop;simpa[Ol.ob]using this
 have hp0:top'.parts=[]:=by have:=congrArg Ob.parts htop;simpa[Ol.ob]using this
 refine h.inv.step hW (s':=⟨s.i+1,CF b::rest,s.calls⟩) ?_ ?_ ?_ ?_ ?_
 ·unfold AL;rw[h.st];simp[h.plain.leaf,hk,hb]
 ·rw[Dd,htop];exact⟨h.simO,h.simS⟩
 ·rw[Cv,hw0,hp0,List.append_nil];exact h.fine
 ·have h1:=h.inv.num;have h2:=h.len;rw[CP]at h1 ⊢;rw[hh0];show _<=3*(s.i+1);omega
 ·have:=h.inv.len;simp only[List.length_append,List.length_singleton]at this ⊢;show _<=s.i+1+1;omega
theorem Tc (l:List Nd) (n:Nd) (zs:List Int):(Cd l n zs).1.length<=l.length+1:=by
 match zs with
 |[]=>simp[Cd,EI]
 |[x]=>simp[Cd]
 |x::y::l=>simp[Cd,EI]
structure EndI (W:List Wd) (s0 s:PS) (lsB:List Ln) (os0:List Ol) (top:Ol) (b:Op) (rest:List Op) (z:Int):Prop where
 rep:RepZ (A8 lsB) z (C4 CT (CF b).ways)
 fine:Fine (A8 lsB) (z::BC (C6 os0))
 simS:SimS (A8 lsB) (C6 os0) rest
 st:s.st=b::rest
 go:goP W s=goP W s0
 le:s.i<=W.length
 plain:Plain W s.i
 k3:kdW W s.i≠3
 heads:b.heads=[]
 good:MD (fun _ _=>True) s.calls s.st
 num:lsB.length+FU os0<=3*s.i+2
 len:os0.length+1<=s.i+1
 fin:top.fin=b.fin
 name:top.name=b.name
theorem WayI.ends {W:List Wd} {s0 s:PS} {ls lsA lsB:List Ln} {os0:List Ol} {top:Ol} {b:Op} {rest:List Op} {z:Int} (h:WayI W s0 s ls lsA os0 top b rest z) (hk:kdW W s.i≠3) (hl:A8 lsB=(Cd (A8 lsA) CT (top.ways++[z])).1):
  EndI W s0 s lsB os0 top b rest (Cd (A8 lsA) CT (top.ways++[z])).2:=by
 obtain⟨m,hm⟩:=MB (A8 lsA) CT (top.ways++[z]);have hu:=MC (n:=CT) rfl h.rep
 have hb:b.heads=[]:=by
  have:=h.simO.heads;have e:(CF b).heads=b.heads:=rfl;rw[e]at this;rw[<-this];exact h.heads
 refine⟨by rw[hl];exact hu,by rw[hl];exact Ly (fun k hk=>OQ k hk) h.fine,by rw[hl,hm];exact h.simS.append,h.st,h.inv.go,h.inv.le,h.plain,hk,hb,h.inv.good,?_,?_,h.simO.fin,h.simO.name⟩
 ·have h1:=h.inv.num;have h2:=h.len;rw[CP,h.heads]at h1;have e:lsB.length=(A8 lsB).length:=by simp[A8]
  have h3:=Tc (A8 lsA) CT (top.ways++[z]);have e2:(A8 lsA).length=lsA.length:=by simp[A8]
  rw[e,hl];simp only[List.length_nil,Nat.add_zero]at h1;omega
 ·have:=h.inv.len;simpa using this
theorem EndI.done {W:List Wd} {s0 s:PS} {lsB:List Ln} {os0:List Ol} {top:Ol} {b:Op} {rest:List Op} {z:Int} (h:EndI W s0 s lsB os0 top b rest z) (hf:top.fin=0):goP W s0=(.done s.i (C4 CT (CF b).ways),s.calls)/\Fine (A8 lsB) [z]/\os0=[]:=by
 have hb0:b.fin=0:=by rw[<-h.fin];exact hf
 have hg:=h.good.1;rw[h.st]at hg
 have hr:rest=[]:=by
  cases rest with
  |nil=>rfl
  |cons u r=>rcases hg.1 with e|⟨e,_⟩ <;> rw[hb0]at e <;> cases e
 have ho:os0=[]:=by
  have:=h.simS.length;rw[hr]at this;simpa[C6]using this
 refine⟨?_,?_,ho⟩
 ·rw[<-h.go];refine JH h.le ?_;unfold AL;rw[h.st];simp[h.plain.leaf,h.plain.k4,h.plain.k5,h.plain.k9,h.plain.k11,h.heads,h.k3,hb0]
 ·have:=h.fine;rw[ho]at this;simpa[BC,C6]using this
theorem EndI.fail {W:List Wd} {s0 s:PS} {lsB:List Ln} {os0:List Ol} {top:Ol} {b:Op} {rest:List Op} {z:Int} (h:EndI W s0 s lsB os0 top b rest z) (hf:top.fin≠0) (hk:kdW W s.i≠top.fin):goP W s0=(.fail s.i,s.calls):=by
 rw[h.fin]at hf hk;rw[<-h.go];refine JH h.le ?_;unfold AL;rw[h.st];simp[h.plain.leaf,h.plain.k4,h.plain.k5,h.plain.k9,h.plain.k11,h.heads,h.k3,hf,hk]
structure ShutI (W:List Wd) (s:PS) (lsC:List Ln) (os1:List Ol) (upo:Ol) (up:Op) (rest':List Op) (t:TT) (z:Int):Prop where
 step:AL W s=.inl ⟨(B8 W up (s.i+1) t).2,(B8 W up (s.i+1) t).1::rest',s.calls⟩
 rep:RepZ (A8 lsC) z t
 fine:Fine (A8 lsC) (z::BC (C6 (os1++[upo])))
 simO:SimO (A8 lsC) upo.ob up
 simS:SimS (A8 lsC) (C6 os1) rest'
 num:lsC.length+FU (os1++[upo])<=3*(s.i+1)
 len:os1.length<=s.i+1
theorem EndI.shut {W:List Wd} {s0 s:PS} {lsB lsC:List Ln} {os0:List Ol} {top:Ol} {b:Op} {rest:List Op} {z z':Int} (h:EndI W s0 s lsB os0 top b rest z) (hf:top.fin≠0) (hk:kdW W s.i=top.fin)
  (hc:(top.fin=10/\lsC=lsB/\z'=z)\/(top.fin=12/\A8 lsC=EI (A8 lsB) (Fh top.name) [z]/\z'=(lsB.length:Int))):
  ∃os1 upo up rest',os0=os1++[upo]/\rest=up::rest'/\ShutI W s lsC os1 upo up rest' (G3 b (C4 CT (CF b).ways)) z':=by
 have hg:=h.good.1;rw[h.st]at hg;have hb0:b.fin≠0:=by rw[<-h.fin];exact hf
 cases rest with
 |nil=>exact absurd hg hb0
 |cons up rest'=>
  have hmay:top.fin=12->Cb top.name=true:=fun e=>by
   rcases hg.1 with e'|⟨_,e'⟩
   ·rw[<-h.fin]at e';omega
   ·rw[h.name];exact e'
  have hs:=h.simS;rcases List.eq_nil_or_concat os0 with rfl|⟨os1,upo,e⟩
  ·have:=hs.length;simp[C6]at this
  rw[List.concat_eq_append]at e;subst e
  have hstep:AL W s=.inl ⟨(B8 W up (s.i+1) (G3 b (C4 CT (CF b).ways))).2,(B8 W up (s.i+1) (G3 b (C4 CT (CF b).ways))).1::rest',s.calls⟩:=by
   have hk':kdW W s.i=b.fin:=by rw[hk];exact h.fin
   have n1:=h.plain.k4;have n2:=h.plain.k5;have n3:=h.plain.k9;have n4:=h.plain.k11;have n5:=h.k3;rw[hk']at n1 n2 n3 n4 n5;unfold AL;rw[h.st];simp[h.plain.leaf,hk',n1,n2,n3,n4,n5,h.heads,hb0]
  have hnum:=h.num;have hlen:os1.length<=s.i+1:=by have:=h.len;simp at this;omega
  rw[Dd]at hs;refine⟨os1,upo,up,rest',rfl,rfl,?_⟩;rcases hc with⟨h10,rfl,rfl⟩|⟨h12,hl,rfl⟩
  ·have e10:G3 b (C4 CT (CF b).ways)=C4 CT (CF b).ways:=by unfold G3;rw[if_neg (by rw[<-h.fin];omega)]
   exact⟨hstep,by rw[e10];exact h.rep,h.fine,hs.1,hs.2,by omega,hlen⟩
  ·have e12:G3 b (C4 CT (CF b).ways)=.mk (Fh top.name) [C4 CT (CF b).ways]:=by unfold G3;rw[if_pos (by rw[<-h.fin];exact h12),h.name]
   have eB:(A8 lsB).length=lsB.length:=by simp[A8]
   have eC:lsC.length=lsB.length+1:=by have:=congrArg List.length hl;simpa[A8,EI]using this
   have hr:=FP (l:=A8 lsB) (n:=Fh top.name) rfl h.rep.one;have hfn:=Fine.add (ks:=[z]) (P:=BC (C6 (os1++[upo]))) h.fine (n:=Fh top.name) (Rv (hmay h12));rw[eB]at hr hfn;refine⟨hstep,by rw[e12,hl];exact hr,by rw[hl];exact hfn,?_,?_,by omega,hlen⟩
   ·rw[hl];exact hs.1.append
   ·rw[hl];exact hs.2.append
theorem ShutI.next {W:List Wd} {s0 s:PS} {ls lsC lsD:List Ln} {os os1:List Ol} {upo upo':Ol} {up:Op} {rest':List Op} {t:TT} {z z':Int} (h:ShutI W s lsC os1 upo up rest' t z) (hi:ChI W s0 s ls os) (hW:∀x∈W,Cw x)
  (hpre:∃m,A8 lsD=A8 lsC++m) (hz:RepZ (A8 lsD) z' (Fi upo.heads (B4 W (W.length-(s.i+1)) (s.i+1) t).1)) (hf:Fine (A8 lsD) (z'::BC (C6 (os1++[upo])))) (htop:upo'.ob={upo.ob with heads:=[],parts:=upo.parts++[z']})
  (hlen:lsD.length=lsC.length+((B4 W (W.length-(s.i+1)) (s.i+1) t).2-(s.i+1))+upo.heads.length):ChI W s0 ⟨(B8 W up (s.i+1) t).2,(B8 W up (s.i+1) t).1::rest',s.calls⟩ lsD (os1++[upo']):=
 hi.prim hW h.step h.simO h.simS (List.Perm.refl _) hpre hz hf htop hlen h.num h.len
theorem ChI.leafN {W:List Wd} {s0 s:PS} {ls lsD:List Ln} {os0:List Ol} {top top':Ol} {x:Ln} {z':Int} (h:ChI W s0 s ls (os0++[top])) (hW:∀x∈W,Cw x) (hl:AU W s.i=true) (hx:x.nd=B7 (wdW W s.i)) (hpre:∃m,A8 lsD=A8 (ls++[x])++m)
  (hz:RepZ (A8 lsD) z' (Fi top.heads (B4 W (W.length-(s.i+1)) (s.i+1) (.mk (B7 (wdW W s.i)) [])).1)) (hf:Fine (A8 lsD) (z'::BC (C6 (os0++[top])))) (htop:top'.ob={top.ob with heads:=[],parts:=top.parts++[z']})
  (hlen:lsD.length=(ls++[x]).length+((B4 W (W.length-(s.i+1)) (s.i+1) (.mk (B7 (wdW W s.i)) [])).2-(s.i+1))+top.heads.length):
  ∃st,ChI W s0 ⟨(B4 W (W.length-(s.i+1)) (s.i+1) (.mk (B7 (wdW W s.i)) [])).2,st,if kdW W s.i=1 then s.calls++[s.i]else s.calls⟩ lsD (os0++[top']):=by
 have hsim:=h.sim;rw[Dd]at hsim;cases hst:s.st with
 |nil=>rw[hst]at hsim;exact hsim.elim
 |cons b rest=>
  rw[hst]at hsim;have e:A8 (ls++[x])=A8 ls++[x.nd]:=by simp[A8]
  refine⟨(B8 W b (s.i+1) (.mk (B7 (wdW W s.i)) [])).1::rest,h.prim (b:=b) (rest:=rest) (lsA:=ls++[x]) hW ?_ (by rw[e];exact hsim.1.append) (by rw[e];exact hsim.2.append) (List.Perm.refl _) hpre hz hf htop hlen ?_ ?_⟩
  ·unfold AL;rw[hst];simp[hl]
  ·have:=h.num;simp only[List.length_append,List.length_singleton];omega
  ·have:=h.len;simp at this;omega
theorem ChI.leafF {W:List Wd} {s0 s:PS} {ls:List Ln} {os:List Ol} {x:Ln} (h:ChI W s0 s ls os) (hW:∀x∈W,Cw x) (hl:AU W s.i=true) (hx:x.nd=B7 (wdW W s.i)):
  RepZ (A8 (ls++[x])) (ls.length:Int) (.mk (B7 (wdW W s.i)) [])/\Fine (A8 (ls++[x])) ((ls.length:Int)::BC (C6 os)):=by
 have hk0:=JI (wdW W s.i)
 have e:A8 (ls++[x])=EI (A8 ls) (B7 (wdW W s.i)) []:=by
  have e1:({B7 (wdW W s.i)with kids:=[]}:Nd)=B7 (wdW W s.i):=by rw[<-hk0]
  simp[A8,EI,e1,hx]
 have eB:(A8 ls).length=ls.length:=by simp[A8]
 have hlt:=Hs hl;have hm:Cw (wdW W s.i):=by rw[Lx hlt];exact hW _ (List.getElem_mem hlt)
 have hkk:(wdW W s.i).kind=1\/(wdW W s.i).kind=15\/(wdW W s.i).kind=16:=by
  rw[Km];unfold AU at hl;simp only[Bool.or_eq_true,Bool.and_eq_true,decide_eq_true_eq]at hl;omega
 have hr:=FP (l:=A8 ls) (n:=B7 (wdW W s.i)) hk0 (RepL.nil _);have hfn:=Fine.add (ks:=[]) (P:=BC (C6 os)) h.fine (n:=B7 (wdW W s.i)) (OR hm hkk);rw[eB]at hr hfn;rw[e];exact⟨hr,hfn⟩
open Go.RowKit
def Dch:Ow->Prop
 |.nodes=>True
 |.kids=>True
 |.list=>True
 |.ways _=>True
 |.parts _=>True
 |.heads _=>True
 |_=>False
theorem RFact.refit {w:World} {B H:Nat} {f f':Nat->Ow} {R:Rd} {o x:Ow} (h:RFact w B f H R o) (hf:∀k,f k≠x->f' k=f k) (ho:o≠x):RFact w B f' H R o:=by
 have key:∀{k:Nat},f k=o->f' k=o:=fun e=>(hf _ (by rw[e];exact ho)).trans e
 have keyO:∀{e:TypeId} {size n c:Nat} {V:Option Addr} {xs:List Value},OwnF w B f o e size V n c xs->OwnF w B f' o e size V n c xs:=fun h=>⟨h.1,fun k hk=>key (h.2 k hk)⟩
 cases o with
 |out=>exact fun p hp=>⟨(h p hp).1,key (h p hp).2⟩
 |tmp=>trivial
 |box=>exact⟨h.1,h.2.1,key h.2.2⟩
 |words=>exact keyO h
 |nodes=>exact keyO h
 |kids=>exact fun l hl=>⟨(h l hl).1,keyO (h l hl).2⟩
 |list=>exact keyO h
 |ways j=>exact fun hj=>keyO (h hj)
 |parts j=>exact fun hj=>keyO (h hj)
 |heads j=>exact fun hj=>keyO (h hj)
 |defs=>exact keyO h
 |body j=>exact fun hj=>⟨(h hj).1,(h hj).2.mono fun k _ hk=>⟨key hk.1,hk.2⟩⟩
 |names=>exact keyO h
 |calls=>exact keyO h
def NE (f:Nat->Ow) (a b:Ow):Nat->Ow:=fun k=>if f k=a then b else f k
theorem RdM.retag {D:Ow->Prop} {w:World} {B H:Nat} {f:Nat->Ow} {R:Rd} (h:RdM D w B f H R) (a b:Ow):RdM (fun o=>D o\/o=a) w B (NE f a b) H R:=fun o ho=>
 (h o (fun hd=>ho (.inl hd))).refit (x:=a) (fun k hk=>by unfold NE;rw[if_neg hk]) (fun e=>ho (.inr e))
theorem OwnF.retag {w:World} {B:Nat} {f:Nat->Ow} {a:Ow} {e:TypeId} {size n c:Nat} {V:Option Addr} {xs:List Value} (h:OwnF w B f a e size V n c xs) (b:Ow):OwnF w B (NE f a b) b e size V n c xs:=
 ⟨h.1,fun k hk=>by unfold NE;rw[if_pos (h.2 k hk)]⟩
theorem RdM.back {D:Ow->Prop} {w:World} {B H:Nat} {f:Nat->Ow} {R:Rd} {a:Ow} (h:RdM (fun o=>D o\/o=a) w B f H R) (ha:RFact w B f H R a):RdM D w B f H R:=fun o ho=>by
 by_cases e:o=a
 ·subst e;exact ha
 ·exact h o (fun hd=>hd.elim ho e)
theorem RdM.pop {D:Ow->Prop} {w:World} {B H:Nat} {f:Nat->Ow} {R:Rd} {os1:List Ol} {top:Ol} (h:RdM (fun o=>D o\/o=.ways os1.length) w B f H R) (hD:¬D .box/\ ¬D .list) (hos:R.os=os1++[top]):
  RdM D (w.setCell ⟨H,4,none⟩ (.slice R.lA os1.length R.lc)) B f H {R with os:=os1}/\Below B w (w.setCell ⟨H,4,none⟩ (.slice R.lA os1.length R.lc)):=by
 have hD1:¬(fun o=>D o\/o=.ways os1.length) .box:=fun h=>h.elim hD.1 (fun e=>by cases e)
 have hD2:¬(fun o=>D o\/o=.ways os1.length) .list:=fun h=>h.elim hD.2 (fun e=>by cases e)
 obtain⟨hbx,hBH,hfH⟩:=h .box hD1;have hl:=h .list hD2;have k:KeepF (fun o=>o=.box) f f w (w.setCell ⟨H,4,none⟩ (.slice R.lA os1.length R.lc)):=KeepF.set hfH;have hlen:os1.length<=R.os.length:=by rw[hos];simp
 have hcut:OwnF w B f .list 99 5 R.lA os1.length R.lc (olL.all os1):=by
  refine⟨?_,hl.2⟩;have h1:=Hz hl.1 hlen
  have e:(olL.all R.os).take (os1.length*5)=olL.all os1:=by
   rw[hos,olL.all_append];have e2:os1.length*5=(olL.all os1).length:=(olL.all_length os1).symm;rw[e2,List.take_left'];rfl
  rw[e]at h1;exact h1
 have key:∀j (hj:j<os1.length),R.os[j]'(by omega)=os1[j]:=fun j hj=>by simp[hos,List.getElem_append_left hj]
 refine⟨fun o ho=> ?_,(Below.refl B w).setCell (p:=⟨H,4,none⟩) hBH _⟩;by_cases hb:o=.box
 ·subst hb;refine⟨?_,hBH,hfH⟩;have:=As (i:=4) hbx (.slice R.lA os1.length R.lc);simpa[Rd.cells]using this
 ·have go:∀o',o'=o->(¬(D o'\/o'=.ways os1.length))->RFact (w.setCell ⟨H,4,none⟩ (.slice R.lA os1.length R.lc)) B f H R o':=fun o' e hn=>(h o' hn).keep k (by rw[e];exact hb)
  cases o with
  |box=>exact absurd rfl hb
  |list=>exact hcut.keep k (by simp)
  |ways j=>
   intro hj;have hj':j<os1.length:=hj;have h1:=go (.ways j) rfl (fun hx=>hx.elim ho (fun e=>by cases e;omega)) (by show j<R.os.length;omega);rw[key j hj']at h1;exact h1
  |parts j=>
   intro hj;have hj':j<os1.length:=hj;have h1:=go (.parts j) rfl (fun hx=>hx.elim ho (fun e=>by cases e)) (by show j<R.os.length;omega);rw[key j hj']at h1;exact h1
  |heads j=>
   intro hj;have hj':j<os1.length:=hj;have h1:=go (.heads j) rfl (fun hx=>hx.elim ho (fun e=>by cases e)) (by show j<R.os.length;omega);rw[key j hj']at h1;exact h1
  |out=>exact go .out rfl (fun hx=>hx.elim ho (fun e=>by cases e))
  |tmp=>trivial
  |words=>exact go .words rfl (fun hx=>hx.elim ho (fun e=>by cases e))
  |nodes=>exact go .nodes rfl (fun hx=>hx.elim ho (fun e=>by cases e))
  |kids=>exact go .kids rfl (fun hx=>hx.elim ho (fun e=>by cases e))
  |defs=>exact go .defs rfl (fun hx=>hx.elim ho (fun e=>by cases e))
  |body j=>exact go (.body j) rfl (fun hx=>hx.elim ho (fun e=>by cases e))
  |names=>exact go .names rfl (fun hx=>hx.elim ho (fun e=>by cases e))
  |calls=>exact go .calls rfl (fun hx=>hx.elim ho (fun e=>by cases e))
theorem RdM.arena {D:Ow->Prop} {w:World} {B H:Nat} {f:Nat->Ow} {R:Rd} (h:RdM D w B f H R) (hD:¬D .nodes/\ ¬D .kids):ndL.row w (fun _=>True) R.nA R.ls:=
 ⟨Hk (h .nodes hD.1).1 (fun _ _=>trivial),fun l hl=>⟨(h .kids hD.2 l hl).1,⟨Hk (h .kids hD.2 l hl).2.1 (fun _ _=>trivial),fun _ _=>trivial⟩⟩⟩
theorem RdM.made {D:Ow->Prop} {w w2:World} {B H:Nat} {f:Nat->Ow} {R:Rd} {v:Lt} (h:RdM D w B f H R) (hb:Below w.heap.size w w2) (ht:TreeOwn w2 (w.heap.size <= ·) v) (hB:B<=w.heap.size) (o:Ow):
  ∃f2,RdM D w2 B f2 H R/\TreeOwn w2 (fun k=>f2 k=o/\B<=k) v:=by
 refine⟨fun k=>if k<w.heap.size then f k else o,fun x hx=>(h x hx).keep (X:=fun _=>False) ⟨hb.size,fun k hk _=>hb.block k hk,fun k hk=>if_pos hk⟩ id,ht.mono fun k _ hk=>⟨if_neg (by omega),by omega⟩⟩
theorem RdM.dropParts {D:Ow->Prop} {w:World} {B H g:Nat} {f:Nat->Ow} {R:Rd} {os0:List Ol} {top:Ol} (h:RdM (fun o=>D o\/o=.parts os0.length) w B f H R) (hD:¬D .list) (hos:R.os=os0++[top]) (hg:R.lA=some ⟨g,0,none⟩):
  RdM D (w.setCell ⟨g,os0.length*5+3,none⟩ (.slice none 0 0)) B f H {R with os:=os0++[{top with pA:=none,pc:=0,parts:=[]}]}/\Below B w (w.setCell ⟨g,os0.length*5+3,none⟩ (.slice none 0 0)):=by
 have hj:os0.length<R.os.length:=by rw[hos];simp
 have e:R.os[os0.length]=top:=by simp[hos]
 have hD1:¬(fun o=>D o\/o=.parts os0.length) .list:=fun h=>h.elim hD (fun e=>by cases e)
 have h1:=RdM.setOpen (o':={top with pA:=none,pc:=0,parts:=[]}) (v:=.slice none 0 0) h hD1 hj (c:=3) (by decide) hg (by rw[e];rfl)
  (fun hx=>by have h2:=h (.ways os0.length) hx hj;rw[e]at h2;exact h2) (fun hx=>absurd (.inr rfl) hx) (fun hx=>by have h2:=h (.heads os0.length) hx hj;rw[e]at h2;exact h2)
 have e2:R.os.set os0.length {top with pA:=none,pc:=0,parts:=[]}=os0++[{top with pA:=none,pc:=0,parts:=[]}]:=by rw[hos];simp
 refine⟨?_,h1.2.2⟩;have h2:=h1.1;rw[e2]at h2;refine h2.back (fun hj2=> ?_);have e3:(os0++[{top with pA:=none,pc:=0,parts:=[]}])[os0.length]'hj2={top with pA:=none,pc:=0,parts:=[]}:=by simp
 show OwnF _ _ _ _ _ _ ((os0++[{top with pA:=none,pc:=0,parts:=[]}])[os0.length]'hj2).pA _ _ _;rw[e3];exact OwnF.nil _ _ _ _ _ _
theorem EndI.fins {W:List Wd} {s0 s:PS} {lsB:List Ln} {os0:List Ol} {top:Ol} {b:Op} {rest:List Op} {z:Int} (h:EndI W s0 s lsB os0 top b rest z) (hf:top.fin≠0):top.fin=10\/(top.fin=12/\Cb top.name=true):=by
 have hg:=h.good.1;rw[h.st]at hg;have hb0:b.fin≠0:=by rw[<-h.fin];exact hf
 cases rest with
 |nil=>exact absurd hg hb0
 |cons up rest'=>
  rcases hg.1 with e|⟨e,e'⟩
  ·left;rw[h.fin];exact e
  ·right;rw[h.fin,h.name];exact⟨e,e'⟩
theorem WF {t:List UInt8} (h:Cb t=true) (z:Int):({Fh t with kids:=[z]}:Nd).wf:=by
 simp only[Cb,decide_eq_true_eq]at h;have h0:U64 0:=by unfold U64;omega
 exact⟨by simp[Fh],by simp[Fh,ByteArray.size];omega,by simp,h0,h0,h0,h0⟩
theorem US {l:List Nd} {z:Int} {t:TT} (hf:Fine l [z]) (hr:RepZ l z t):den l z.toNat=t:=Rep.den hf.ahead hr.2
end Go.Proofs.YtdnochjajoiooaaGreatDoor
