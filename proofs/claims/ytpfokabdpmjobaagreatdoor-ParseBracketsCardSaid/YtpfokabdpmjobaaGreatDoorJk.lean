/- Plain: the law of ParseRight. The words of a text, LF, and another text; plain. -/
import Derived.Test.YtpfokabdpmjobaaGreatDoorJi
import Derived.Test.YtpfokabdpmjobaaGreatDoorJh
namespace Go.Proofs.YtpfokabdpmjobaaGreatDoor
set_option linter.unusedSimpArgs false
set_option linter.unusedVariables false
theorem ReadsP.gram {s:List UInt8} {W:List Wd} {l:List (Nat×TT)} {cs:List Nat} (h:ReadsP s W l cs):gramP s=if (judgeW W s.length l cs).2≠0 then([],judgeW W s.length l cs)else(l.map (defW W),0,0):=by
 unfold gramP
 rw[h.read,h.begun]
 simp
theorem ReadsP.names {s:List UInt8} {W:List Wd} {l:List (Nat×TT)} {cs:List Nat} (h:ReadsP s W l cs):namesP s=namesW W l:=by
 unfold namesP
 rw[h.read,h.begun]
 simp
theorem gram_err {s:List UInt8} {l cs p e} (h:readW s=((l,cs),p,e)) (he:e≠0):gramP s=([],p,e):=by unfold gramP;rw[h];simp[he]
theorem names_err {s:List UInt8} {l cs p e} (h:readW s=((l,cs),p,e)) (he:e≠0):namesP s=[]:=by unfold namesP;rw[h];simp[he]
theorem gram_form {s:List UInt8} (h:(gramP s).2.2=4) (hs:¬65536<s.length):(readW s).2.2=4∧(gramP s).2.1=(readW s).2.1:=by
 rcases read_cases hs with⟨W,l,cs,hr⟩|⟨p,hr,_⟩|⟨l,cs,p,hr,_⟩
 ·rw[hr.gram]at h
  have:(judgeW W s.length l cs).2≠4:=by
   unfold judgeW
   split
   ·simp
   ·split
    ·simp
    ·split <;> simp
  split at h
  ·exact absurd h this
  ·simp at h
 ·rw[gram_err hr (by decide),hr];simp
 ·rw[gram_err hr (by decide),hr];simp
def NoTwice (nm:List (List UInt8)):Prop:=∀i (hi:i<nm.length) k (hk:k<i),nm[k]≠nm[i]
theorem twice_none {nm:List (List UInt8)} (h:twiceW nm=none):NoTwice nm:=by
 intro i hi k hk e
 unfold twiceW at h
 have h1:=List.find?_eq_none.1 h i (List.mem_range.2 hi)
 simp only[decide_eq_true_eq]at h1
 apply h1
 rw[show nm.getD i []=nm[k]by simp[List.getD,hi,e]]
 exact List.mem_take_iff_getElem.2 ⟨k,by omega,rfl⟩
theorem lack_none {W:List Wd} {nm:List (List UInt8)} {cs:List Nat} (h:lackW W nm cs=none):∀c∈cs,textW W c∈nm:=by
 intro c hc
 have h1:=List.find?_eq_none.1 h c hc
 simpa using h1
structure RightP (s:List UInt8):Prop where
 le:(gramP s).2.1≤s.length
 ok:(gramP s).2.2=0↔(gramP s).1≠[]
 form:(gramP s).2.2=4↔namesP s=[]
 pre:(gramP s).2.2=4→(gramP (s.take (gramP s).2.1)).2.2=4→(gramP s).2.1≤(gramP (s.take (gramP s).2.1)).2.1
 err:(gramP s).2.2=0∨(gramP s).2.2=4∨(gramP s).2.2=6∨(gramP s).2.2=41∨(gramP s).2.2=40
 good:(gramP s).2.2=0→(gramP s).2.1=0∧(gramP s).1.map (fun d=>d.name)=(namesP s).map (fun t=>⟨t.toArray⟩)∧NoTwice (namesP s) ∧
  ∀d∈(gramP s).1,mayL d.name.data.toList=true∧mayT d.body=true∧normT d.body=true∧ ∀n∈d.body.nodes,n.kind=3→n.text.data.toList∈namesP s
theorem right_p {s:List UInt8} (hs:¬65536<s.length):RightP s:=by
 have hform:=gram_form (s:=s)
 rcases read_cases hs with⟨W,l,cs,hr⟩|⟨p,hr,hp,hpre⟩|⟨l,cs,p,hr,hp,hpre⟩
 ·have hg:=hr.gram
  have hn:=hr.names
  have hnn:namesP s≠[]:=by rw[hn];unfold namesW;simpa using hr.ne
  cases ht:twiceW (namesW W l)with
  |some i=>
   have hj:judgeW W s.length l cs=((wdW W ((l.map Prod.fst).getD i 0)).frm,6):=by unfold judgeW;rw[ht]
   have hi:i<l.length:=by
    have:=List.mem_of_find?_eq_some ht
    simpa[namesW]using this
   rw[hj]at hg
   simp at hg
   have hk:=(hr.ofs _ (List.getElem_mem hi)).1
   have hlt:(l[i]).1<W.length:=kd_lt (by omega)
   have hfr:=(begun_take hs hr.begun hlt).1
   have e:(gramP s).2.1=W[l[i].1].frm:=by rw[hg];simp[hi,wd_at hlt]
   refine⟨by omega,by rw[hg];simp,by rw[hg];simpa using hnn,by rw[hg];simp,by rw[hg];simp,by rw[hg];simp⟩
  |none=>
   cases hk:lackW W (namesW W l) cs with
   |some c=>
    have hj:judgeW W s.length l cs=((wdW W c).frm,41):=by unfold judgeW;rw[ht,hk]
    rw[hj]at hg
    simp at hg
    have hc:=hr.calls c (List.mem_of_find?_eq_some hk)
    have hlt:c<W.length:=kd_lt (by omega)
    have hfr:=(begun_take hs hr.begun hlt).1
    have e:(gramP s).2.1=W[c].frm:=by rw[hg];simp[wd_at hlt]
    refine⟨by omega,by rw[hg];simp,by rw[hg];simpa using hnn,by rw[hg];simp,by rw[hg];simp,by rw[hg];simp⟩
   |none=>
    cases hl:largeW l with
    |true=>
     have hj:judgeW W s.length l cs=(s.length,40):=by unfold judgeW;rw[ht,hk];simp[hl]
     rw[hj]at hg
     simp at hg
     refine⟨by rw[hg];exact Nat.le_refl _,by rw[hg];simp,by rw[hg];simpa using hnn,by rw[hg];simp,by rw[hg];simp,by rw[hg];simp⟩
    |false=>
     have hj:judgeW W s.length l cs=(0,0):=by unfold judgeW;rw[ht,hk];simp[hl]
     rw[hj]at hg
     simp at hg
     refine⟨by rw[hg];exact Nat.zero_le _,by rw[hg];simpa using hr.ne,by rw[hg];simpa using hnn,by rw[hg];simp,by rw[hg];simp,fun _=>⟨by rw[hg],?_,?_,?_⟩⟩
     ·rw[hg,hn];simp only[namesW,List.map_map];rfl
     ·rw[hn];exact twice_none ht
     ·rw[hg,hn]
      intro d hd
      obtain⟨p,hp,rfl⟩:=List.mem_map.1 hd
      obtain⟨h1,h2,h3⟩:=hr.ofs p hp
      have hlt:p.1<W.length:=kd_lt (by omega)
      refine⟨?_,?_,norm_make h2,fun n hn hk3=> ?_⟩
      ·have:=(hr.may _ (List.getElem_mem hlt)).1 (by rw[←kd_at hlt];exact h1)
       show mayL (textW W p.1)=true
       unfold textW
       rw[wd_at hlt];exact this
      ·unfold largeW at hl
       simp only[Bool.or_eq_false_iff,List.any_eq_false]at hl
       have:=hl.2 p hp
       show mayT (bodyT p.2)=true
       simpa using this
      ·have ha:=all_flat (p:=calledN W cs) (fun n k hn hk=>hn hk) (all_make (fun h=>by simp[emptyN]at h) (fun h=>by simp[setN]at h) h3) n hn
       obtain⟨c,hc,e⟩:=ha hk3
       rw[e]
       exact lack_none hk c hc
 ·have hg:=gram_err hr (by decide)
  have hn:=names_err hr (by decide)
  refine⟨by rw[hg];exact hp,by rw[hg];simp,by rw[hg,hn];simp,fun _ h4=> ?_,by rw[hg];simp,by rw[hg];simp⟩
  rw[hg]at h4 ⊢
  simp only at h4 ⊢
  obtain⟨h5,h6⟩:=gram_form h4 (by rw[List.length_take];omega)
  rw[h6]
  exact hpre h5
 ·have hg:=gram_err hr (by decide)
  have hn:=names_err hr (by decide)
  refine⟨by rw[hg];exact hp,by rw[hg];simp,by rw[hg,hn];simp,fun _ h4=> ?_,by rw[hg];simp,by rw[hg];simp⟩
  rw[hg]at h4
  exact absurd (gram_form h4 (by rw[List.length_take];omega)).1 hpre
end Go.Proofs.YtpfokabdpmjobaaGreatDoor
namespace Go.Proofs.YtpfokabdpmjobaaGreatDoor
set_option linter.unusedSimpArgs false
set_option linter.unusedVariables false
theorem skip_in:∀(b:Bool) (l r:List UInt8),skipM b l<l.length→skipM b (l++r)=skipM b l
 |b,[],r,h=>by simp at h
 |true,c::l,r,h=>by
  simp only[skipM,List.length_cons]at h
  simp only[List.cons_append,skipM]
  rw[skip_in _ l r (by omega)]
 |false,c::l,r,h=>by
  simp only[skipM,List.length_cons]at h
  simp only[List.cons_append,skipM]
  split
  ·rename_i h1
   rw[if_pos h1]at h
   rw[skip_in _ l r (by omega)]
  ·rename_i h1
   rw[if_neg h1]at h
   split
   ·rename_i h2
    rw[if_pos h2]at h
    rw[skip_in _ l r (by omega)]
   ·rfl
theorem skip_line:∀(b:Bool) (l t:List UInt8),skipM b l=l.length→skipM b (l++10::t)=l.length+1+skipM false t
 |true,[],t,h=>by simp[skipM]
 |false,[],t,h=>by simp[skipM,partB]
 |true,c::l,t,h=>by
  simp only[skipM,List.length_cons]at h
  simp only[List.cons_append,skipM,List.length_cons]
  rw[skip_line _ l t (by omega)];omega
 |false,c::l,t,h=>by
  simp only[skipM,List.length_cons]at h
  simp only[List.cons_append,skipM,List.length_cons]
  split
  ·rename_i h1
   rw[if_pos h1]at h
   rw[skip_line _ l t (by omega)];omega
  ·rename_i h1
   rw[if_neg h1]at h
   split
   ·rename_i h2
    rw[if_pos h2]at h
    rw[skip_line _ l t (by omega)];omega
   ·rename_i h2
    rw[if_neg h2]at h;omega
def moveW (a:Nat) (x:Wd):Wd:={x with frm:=a+x.frm,til:=a+x.til}
theorem bare_move (a:Nat) (l:List Wd):(l.map (moveW a)).map bareW=l.map bareW:=by rw[List.map_map];rfl
section
variable (p t:List UInt8)
theorem drop_pre (a:Nat):(p++t).drop (p.length+a)=t.drop a:=by
 rw[List.drop_append];simp
theorem word_shift (a:Nat):wordL (p++t) (p.length+a)=(wordL t a).map (moveW p.length):=by
 unfold wordL
 rw[drop_pre p t a]
 cases headW (t.drop a)with
 |none=>rfl
 |some w=>simp[moveW,Nat.add_assoc]
theorem next_shift (a:Nat):nextL (p++t) (p.length+a)=p.length+nextL t a:=by
 unfold nextL
 rw[drop_pre];omega
theorem raw_shift:∀(f a:Nat),rawL (p++t) f (p.length+a)=((rawL t f a).1.map (moveW p.length),(rawL t f a).2.map (p.length + ·))
 |0,a=>rfl
 |f+1,a=>by
  rw[rawL,rawL,word_shift]
  by_cases h:t.length≤a
  ·rw[if_pos h,if_pos (by rw[List.length_append];omega)];rfl
  ·rw[if_neg h,if_neg (by rw[List.length_append];omega)]
   cases hw:wordL t a with
   |none=>rfl
   |some w=>
    simp only[Option.map_some]
    have e:(moveW p.length w).til=p.length+w.til:=rfl
    rw[e,next_shift,raw_shift f]
    rfl
theorem RW_shift (a:Nat):RW (p++t) (p.length+a)=((RW t a).1.map (moveW p.length),(RW t a).2.map (p.length + ·)):=by
 unfold RW
 rw[show(p++t).length+1-(p.length+a)=t.length+1-a by rw[List.length_append];omega]
 exact raw_shift p t _ a
end
theorem drop_left' {s r:List UInt8} {a:Nat} (h:a≤s.length):(s++r).drop a=s.drop a++r:=List.drop_append_of_le_length h
theorem line_run (s t:List UInt8):∀(ls:List Wd) (a:Nat),a≤s.length→Stand s a ls →
  RW (s++10::t) (nextL (s++10::t) a)=(ls++(RW (s++10::t) (nextL (s++10::t) (s.length+1))).1,(RW (s++10::t) (nextL (s++10::t) (s.length+1))).2)
 |[],a,ha,hst=>by
  have h1:s.length≤nextL s a:=hst
  have e:nextL (s++10::t) a=nextL (s++10::t) (s.length+1):=by
   have h2:skipM false (s.drop a)=(s.drop a).length:=by
    have h3:=skipM_le false (s.drop a)
    unfold nextL at h1
    rw[List.length_drop]at h3 ⊢;omega
   unfold nextL
   rw[drop_left' ha,skip_line _ _ _ h2,List.length_drop]
   have e2:(s++10::t).drop (s.length+1)=t:=by rw[List.drop_append];simp
   rw[e2];omega
  rw[e];rfl
 |x::r,a,ha,hst=>by
  obtain⟨h1,h2,h3⟩:=hst
  have hn:nextL (s++10::t) a=nextL s a:=by
   unfold nextL at h1 ⊢
   rw[drop_left' ha,skip_in _ _ _ (by rw[List.length_drop];omega)]
  rw[hn]
  have hq2:=h2
  unfold wordL at hq2
  cases hq:headW (s.drop (nextL s a))with
  |none=>rw[hq]at hq2;cases hq2
  |some z=>
   rw[hq]at hq2
   have hl:=head_len hq
   rw[List.length_drop]at hl
   have hz:headW ((s++10::t).drop (nextL s a))=some z:=by
    rw[drop_left' (by omega)]
    refine head_ag hq (fun j hj=> ?_) ⟨fun hk c hc=> ?_,fun hk hc=> ?_⟩
    ·rw[List.getElem?_append_left (by rw[List.length_drop];omega)]
    ·rcases Nat.lt_or_ge z.til (s.drop (nextL s a)).length with h4|h4
     ·rw[List.getElem?_append_left h4]at hc
      exact head_name hq hk c hc
     ·have e:z.til=(s.drop (nextL s a)).length:=by rw[List.length_drop]at h4 ⊢;omega
      rw[e,List.getElem?_append_right (Nat.le_refl _),Nat.sub_self]at hc
      simp at hc
      subst hc;decide
    ·have hh:=head_sign hq hk
     rcases Nat.lt_or_ge 1 (s.drop (nextL s a)).length with h4|h4
     ·rw[List.getElem?_append_left h4]at hc
      exact hh.2 hc
     ·have e:(s.drop (nextL s a)).length=1:=by rw[List.length_drop]at h4 ⊢;omega
      rw[List.getElem?_append_right (by omega),e]at hc
      simp at hc
   have hw:wordL (s++10::t) (nextL s a)=some x:=by
    unfold wordL;rw[hz];exact hq2
   have ht:x.til≤s.length:=by
    simp only[Option.map_some,Option.some.injEq]at hq2
    rw[←hq2];simp only;omega
   rw[RW_word (by rw[List.length_append];omega) hw,line_run s t r x.til ht h3]
   rfl
theorem words_line {s t:List UInt8} {ls lt:List Wd} (hb:s.length+t.length+1≤65536) (hs:wordsL s=(ls,0,0)) (ht:wordsL t=(lt,0,0)):wordsL (s++10::t)=(ls++lt.map (moveW (s.length+1)),0,0):=by
 have h1:=(words_stand (by omega) hs).2
 have h2:=line_run s t ls 0 (Nat.zero_le _) h1
 have e:s++10::t=(s++[10])++t:=by simp
 have h3:RW (s++10::t) (nextL (s++10::t) (s.length+1))=(lt.map (moveW (s.length+1)),none):=by
  have h4:=RW_shift (s++[10]) t (nextL t 0)
  have h5:=next_shift (s++[10]) t 0
  have el:(s++[10]).length=s.length+1:=by simp
  rw[el,←e]at h4 h5
  rw[Nat.add_zero]at h5
  rw[h5,h4]
  rw[wordsL_of (by omega)]at ht
  cases hr:(RW t (nextL t 0)).2 with
  |some p=>rw[hr]at ht;simp at ht
  |none=>
   rw[hr]at ht
   simp only[Prod.mk.injEq]at ht
   rw[ht.1];rfl
 rw[h3]at h2
 rw[wordsL_of (by rw[List.length_append,List.length_cons];omega),h2]
end Go.Proofs.YtpfokabdpmjobaaGreatDoor
