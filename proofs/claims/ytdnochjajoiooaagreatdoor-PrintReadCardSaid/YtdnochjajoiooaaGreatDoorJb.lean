/- The parser, plain: what a row of words denotes; the nodes that it makes. The parser's arena, plain: what lies in it, and what it says. -/
import Derived.Test.YtdnochjajoiooaaGreatDoorLa
import Derived.Test.YtdnochjajoiooaaGreatDoorAd
import Derived.Test.YtdnochjajoiooaaGreatDoorKd
namespace Go.Proofs.YtdnochjajoiooaaGreatDoor
set_option linter.unusedSimpArgs false
set_option linter.unusedVariables false
def kdW (W:List Wd) (i:Nat):Nat:=(W[i]?.map Wd.kind).getD 0
def wdW (W:List Wd) (i:Nat):Wd:=W[i]?.getD ⟨0,0,0,[],0,0,0,0,0,0⟩
def Ii (t:List UInt8):Nd:=⟨3,0,0,0,0,⟨t.toArray⟩,0,0,[]⟩
def Ij (t:List UInt8):Nd:=⟨2,0,0,0,0,⟨t.toArray⟩,0,0,[]⟩
def Mf (x:Wd):Nd:=⟨1,x.s0,x.s1,x.s2,x.s3,⟨#[]⟩,0,0,[]⟩
def FB (lo hi:Int):Nd:=⟨6,0,0,0,0,⟨#[]⟩,lo,hi,[]⟩
def CZ (k:Nat):Nd:=⟨k,0,0,0,0,⟨#[]⟩,0,0,[]⟩
def Fh (t:List UInt8):Nd:=⟨9,0,0,0,0,⟨t.toArray⟩,0,0,[]⟩
def B7 (x:Wd):Nd:=if x.kind=1 then Ii x.text else if x.kind=15 then(if x.text=[]then Bi else Ij x.text)else Mf x
def AU (W:List Wd) (i:Nat):Bool:=(decide (kdW W i=1)&&decide (kdW W (i+1)≠2))||decide (kdW W i=15)||decide (kdW W i=16)
def CE (W:List Wd) (i:Nat):Option (Int×Int):=
 if kdW W i=6 then some (0,1)else if kdW W i=7 then some (0, -1)else if kdW W i=8 then some (1, -1)else if kdW W i=14 then some ((wdW W i).low,(wdW W i).high)else none
structure Op where
 fin:Nat
 name:List UInt8
 ways:List TT
 parts:List TT
 heads:List Nat
def B4 (W:List Wd):Nat->Nat->TT->TT×Nat
 |0,i,t=>(t,i)
 |f+1,i,t=>match CE W i with
  |none=>(t,i)
  |some (lo,hi)=>B4 W f (i+1) (.mk (FB lo hi) [t])
def Fi (hs:List Nat) (t:TT):TT:=hs.foldr (fun h t=>.mk (CZ h) [t]) t
def B8 (W:List Wd) (top:Op) (i:Nat) (t:TT):Op×Nat:=
 ({top with heads:=[],parts:=top.parts++[Fi top.heads (B4 W (W.length-i) i t).1]},(B4 W (W.length-i) i t).2)
def C4 (n:Nd):List TT->TT
 |[]=>.mk Bi []
 |[x]=>x
 |l=>.mk n l
inductive PR where
 |fail:Nat->PR
 |done:Nat->TT->PR
structure PS where
 i:Nat
 st:List Op
 calls:List Nat
def CF (top:Op):Op:={top with ways:=top.ways++[C4 F9 top.parts],parts:=[]}
def G3 (top:Op) (t:TT):TT:=if top.fin=12 then .mk (Fh top.name) [t]else t
def AL (W:List Wd) (s:PS):PS ⊕ PR:=
 match s.st with
 |[]=>.inr (.fail s.i)
 |top::rest=>
  if AU W s.i then
   .inl ⟨(B8 W top (s.i+1) (.mk (B7 (wdW W s.i)) [])).2,(B8 W top (s.i+1) (.mk (B7 (wdW W s.i)) [])).1::rest,if kdW W s.i=1 then s.calls++[s.i]else s.calls⟩
  else if kdW W s.i=4\/kdW W s.i=5 then .inl ⟨s.i+1,{top with heads:=top.heads++[if kdW W s.i=4 then 7 else 8]}::rest,s.calls⟩
  else if kdW W s.i=9 then .inl ⟨s.i+1,⟨10,[],[],[],[]⟩::top::rest,s.calls⟩
  else if kdW W s.i=11 then
   if kdW W (s.i+1)=1 then if kdW W (s.i+2)=13 then .inl ⟨s.i+3,⟨12,(wdW W (s.i+1)).text,[],[],[]⟩::top::rest,s.calls⟩else .inr (.fail (s.i+2))else .inr (.fail (s.i+1))
  else if top.heads≠[]then .inr (.fail s.i)
  else if kdW W s.i=3 then .inl ⟨s.i+1,CF top::rest,s.calls⟩
  else if top.fin=0 then .inr (.done s.i (C4 CT (CF top).ways))
  else if kdW W s.i≠top.fin then .inr (.fail s.i)
  else match rest with
   |[]=>.inr (.fail s.i)
   |up::rest'=>.inl ⟨(B8 W up (s.i+1) (G3 top (C4 CT (CF top).ways))).2,(B8 W up (s.i+1) (G3 top (C4 CT (CF top).ways))).1::rest',s.calls⟩
def Id (W:List Wd):Nat->PS->PR×List Nat
 |0,s=>(.fail s.i,s.calls)
 |f+1,s=>match AL W s with
  |.inl s'=>Id W f s'
  |.inr r=>(r,s.calls)
def DS:Op:=⟨0,[],[],[],[]⟩
def Dn (W:List Wd) (i:Nat) (calls:List Nat):PR×List Nat:=Id W (W.length+1-i) ⟨i,[DS],calls⟩
inductive RR where
 |fail:Nat->RR
 |done:List (Nat×TT)->List Nat->RR
def UF (W:List Wd):Nat->Nat->List (Nat×TT)->List Nat->RR
 |0,i,_,_=>.fail i
 |f+1,i,acc,calls=>
  if kdW W i≠1 then .fail i
  else if kdW W (i+1)≠2 then .fail (i+1)
  else match Dn W (i+2) calls with
   |(.fail j,_)=>.fail j
   |(.done j t,cs)=>if W.length<=j then .done (acc++[(i,t)]) cs else UF W f j (acc++[(i,t)]) cs
def UG (W:List Wd):RR:=UF W (W.length+1) 0 [] []
def A4 (s:List UInt8):List Wd×Nat×Nat:=
 if (AD s).2.2=0 then((AD s).1,s.length,0)else if (AD s).2.2=4 then((AD (s.take (AD s).2.1)).1,(AD s).2.1,4)else((AD s).1,(AD s).2.1,(AD s).2.2)
def Ek (W:List Wd) (fin i:Nat):Nat:=(W[i]?.map Wd.frm).getD fin
theorem FO {W:List Wd} {i:Nat} (h:kdW W i≠0):i<W.length:=by
 rcases Nat.lt_or_ge i W.length with h1|h1
 ·exact h1
 ·exact absurd (by simp[kdW,List.getElem?_eq_none h1]) h
theorem UH {W:List Wd} {i:Nat} (h:i<W.length):kdW W i=W[i].kind:=by simp[kdW,h]
theorem Lx {W:List Wd} {i:Nat} (h:i<W.length):wdW W i=W[i]:=by simp[wdW,h]
theorem N4 {W:List Wd} {i:Nat} (h:W.length<=i):kdW W i=0:=by simp[kdW,List.getElem?_eq_none h]
theorem JG {W:List Wd} {i:Nat} {p:Int×Int} (h:CE W i=some p):i<W.length:=by
 apply FO;intro h0;simp[CE,h0]at h
theorem Hq (W:List Wd):∀(f i:Nat) (t:TT),i<=(B4 W f i t).2/\(i<=W.length->(B4 W f i t).2<=W.length)
 |0,i,t=>⟨Nat.le_refl _,id⟩
 |f+1,i,t=>by
  rw[B4];cases h:CE W i with
  |none=>exact⟨Nat.le_refl _,id⟩
  |some p=>
   obtain⟨lo,hi⟩:=p;have:=Hq W f (i+1) (.mk (FB lo hi) [t]);have hl:=JG h;simp only;exact⟨by have:=this.1;omega,fun _=>this.2 (by omega)⟩
theorem Em {W:List Wd} {i:Nat} {t:TT} (h:CE W i=none):B4 W (W.length-i) i t=(t,i):=by
 cases hf:W.length-i with
 |zero=>rfl
 |succ f=>rw[B4,h]
theorem Hr {W:List Wd} {i:Nat} {t:TT} {lo hi:Int} (h:CE W i=some (lo,hi)):B4 W (W.length-i) i t=B4 W (W.length-(i+1)) (i+1) (.mk (FB lo hi) [t]):=by
 have hl:=JG h;obtain⟨f,hf⟩:∃f,W.length-i=f+1:=⟨W.length-i-1,by omega⟩;rw[hf,B4,h,show W.length-(i+1)=f by omega]
theorem N5 (W:List Wd) (top:Op) (i:Nat) (t:TT):i<=(B8 W top i t).2/\(i<=W.length->(B8 W top i t).2<=W.length):=Hq W _ _ _
theorem Hs {W:List Wd} {i:Nat} (h:AU W i=true):i<W.length:=by
 apply FO;intro h0;simp[AU,h0]at h
theorem IR {W:List Wd} {s s':PS} (h:AL W s=.inl s'):s.i<s'.i/\s'.i<=W.length:=by
 obtain⟨i,st,calls⟩:=s;cases st with
 |nil=>simp[AL]at h
 |cons top rest=>
  simp only[AL]at h;split at h
  ·rename_i h1
   have hl:=Hs h1;injection h with h;subst h
   have:=N5 W top (i+1) (.mk (B7 (wdW W i)) []);exact⟨by show i<(B8 W top (i+1) _).2;omega,this.2 (by omega)⟩
  split at h
  ·rename_i h1
   have hl:=FO (W:=W) (i:=i) (by omega);injection h with h;subst h
   exact⟨Nat.lt_succ_self _,hl⟩
  split at h
  ·rename_i h1
   have hl:=FO (W:=W) (i:=i) (by omega);injection h with h;subst h
   exact⟨Nat.lt_succ_self _,hl⟩
  split at h
  ·split at h
   ·split at h
    ·rename_i h3
     have hl:=FO (W:=W) (i:=i+2) (by omega);injection h with h;subst h
     exact⟨by show i<i+3;omega,by show i+3<=W.length;omega⟩
    ·cases h
   ·cases h
  split at h
  ·cases h
  split at h
  ·have hl:=FO (W:=W) (i:=i) (by omega);injection h with h;subst h
   exact⟨Nat.lt_succ_self _,hl⟩
  split at h
  ·cases h
  split at h
  ·cases h
  ·rename_i h1 h2
   cases rest with
   |nil=>cases h
   |cons up rest=>
    have hl:=FO (W:=W) (i:=i) (by omega);injection h with h;subst h
    have:=N5 W up (i+1) (G3 top (C4 CT (CF top).ways));exact⟨by show i<(B8 W up (i+1) _).2;omega,this.2 (by omega)⟩
theorem OM {W:List Wd}:∀(f g:Nat) (s:PS),s.i<=W.length->W.length<s.i+f->W.length<s.i+g->Id W f s=Id W g s
 |0,_,s,h,hf,_=>by omega
 |_,0,s,h,_,hg=>by omega
 |f+1,g+1,s,h,hf,hg=>by
  rw[Id,Id];cases hs:AL W s with
  |inl s'=>
   have:=IR hs;exact OM f g s' this.2 (by omega) (by omega)
  |inr r=>rfl
def goP (W:List Wd) (s:PS):PR×List Nat:=Id W (W.length+1-s.i) s
theorem EH {W:List Wd} {s s':PS} (hi:s.i<=W.length) (h:AL W s=.inl s'):goP W s=goP W s':=by
 have h1:=IR h;unfold goP;obtain⟨f,hf⟩:∃f,W.length+1-s.i=f+1:=⟨W.length-s.i,by omega⟩;rw[hf,Id,h];exact OM _ _ s' h1.2 (by omega) (by omega)
theorem JH {W:List Wd} {s:PS} {r:PR} (hi:s.i<=W.length) (h:AL W s=.inr r):goP W s=(r,s.calls):=by
 unfold goP;obtain⟨f,hf⟩:∃f,W.length+1-s.i=f+1:=⟨W.length-s.i,by omega⟩;rw[hf,Id,h]
structure Ob where
 fin:Nat
 name:List UInt8
 ways:List Int
 parts:List Int
 heads:List Nat
def EI (l:List Nd) (n:Nd) (ks:List Int):List Nd:=l++[{n with kids:=ks}]
def Cd (l:List Nd) (n:Nd):List Int->List Nd×Int
 |[]=>(EI l Bi [],l.length)
 |[z]=>(l,z)
 |zs=>(EI l n zs,l.length)
theorem UI (l:List Nd) (n:Nd) (ks:List Int):(EI l n ks).length=l.length+1:=by simp[EI]
def Mg (n:Nat):List Int:=(List.range n).map fun i:Nat=>(i:Int)
theorem ON {n:Nat} {z:Int}:z∈Mg n↔0<=z/\z<(n:Int):=by
 simp only[Mg,List.mem_map,List.mem_range];constructor
 ·rintro⟨i,hi,rfl⟩;omega
 ·rintro⟨h0,h1⟩;exact⟨z.toNat,by omega,by omega⟩
theorem MA (n:Nat):Mg (n+1)=Mg n++[(n:Int)]:=by simp[Mg,List.range_succ]
theorem Qr {n i:Nat} (hi:i<n):(Mg n).count (i:Int)=1:=by
 induction n with
 |zero=>omega
 |succ n ih=>
  rw[MA,List.count_append];rcases Nat.lt_or_ge i n with h|h
  ·rw[ih h,List.count_singleton];have:((n:Int)==(i:Int))=false:=by simp;omega
   simp[this]
  ·obtain rfl:i=n:=by omega
   rw[List.count_eq_zero.2 (fun hm=>by have:=(ON.1 hm).2;omega)];simp
structure Fine (l:List Nd) (P:List Int):Prop where
 perm:(Aw l++P).Perm (Mg l.length)
 fit:∀n∈l,Am n n.kids.length=true
 ahead:AheadZ l
theorem Fine.nil:Fine [] []:=⟨by simp[Aw,Mg],by simp,fun i n h=>by simp at h⟩
theorem Fine.re {l:List Nd} {P P':List Int} (h:Fine l P) (hp:P.Perm P'):Fine l P':=⟨(List.Perm.append_left _ hp.symm).trans h.perm,h.fit,h.ahead⟩
theorem Fine.mem {l:List Nd} {P:List Int} (h:Fine l P) {z:Int} (hz:z∈P):0<=z/\z<(l.length:Int):=ON.1 (h.perm.mem_iff.1 (List.mem_append_right _ hz))
theorem Fine.add {l:List Nd} {ks P:List Int} (h:Fine l (ks++P)) {n:Nd} (hn:Am n ks.length=true):Fine (EI l n ks) ((l.length:Int)::P):=by
 have hk:Aw (EI l n ks)=Aw l++ks:=by simp[EI,Aw]
 refine⟨?_,fun m hm=> ?_,?_⟩
 ·rw[hk,UI,MA]
  have h1:(Aw l++ks++((l.length:Int)::P)).Perm ((l.length:Int)::(Aw l++(ks++P))):=by
   rw[<-List.append_assoc (Aw l) ks P];exact List.perm_middle
  exact h1.trans ((List.Perm.cons _ h.perm).trans (List.perm_append_singleton _ _).symm)
 ·rcases List.mem_append.1 hm with hm|hm
  ·exact h.fit m hm
  ·obtain rfl:=List.mem_singleton.1 hm;exact hn
 ·exact h.ahead.add fun k hk=>h.mem (List.mem_append_left _ hk)
theorem Fine.right {l:List Nd} {z:Int} (h:Fine l [z]):AA ⟨l,z⟩=true:=by
 refine(AM _).2 ⟨h.mem (by simp),fun i n hn=> ?_,fun i hi=> ?_⟩
 ·have hm:n∈l:=List.mem_of_getElem? hn;simp only[Ma,Bool.and_eq_true,List.all_eq_true,decide_eq_true_eq];exact⟨h.fit n hm,fun k hk=>h.ahead i n hn k hk⟩
 ·have h1:=h.perm.count_eq (i:Int);rw[List.count_append,Qr hi,List.count_singleton]at h1;by_cases e:(i:Int)=z
  ·rw[if_pos e];simp[e]at h1;simpa[e]using h1
  ·rw[if_neg e];have:(z==(i:Int))=false:=by simp;omega
   simpa[this]using h1
def RepL (l:List Nd) (zs:List Int) (ts:List TT):Prop:=zs.length=ts.length/\ ∀j (h:j<zs.length) (h':j<ts.length),0<=zs[j]/\Rep l ts[j] zs[j].toNat
def RepZ (l:List Nd) (z:Int) (t:TT):Prop:=0<=z/\Rep l t z.toNat
theorem RepZ.append {l m:List Nd} {z:Int} {t:TT} (h:RepZ l z t):RepZ (l++m) z t:=⟨h.1,h.2.append⟩
theorem RepL.append {l m:List Nd} {zs:List Int} {ts:List TT} (h:RepL l zs ts):RepL (l++m) zs ts:=⟨h.1,fun j h1 h2=>⟨(h.2 j h1 h2).1,(h.2 j h1 h2).2.append⟩⟩
theorem RepL.nil (l:List Nd):RepL l [] []:=⟨rfl,fun j h=>by simp at h⟩
theorem RepL.snoc {l:List Nd} {zs:List Int} {ts:List TT} {z:Int} {t:TT} (h:RepL l zs ts) (hz:RepZ l z t):RepL l (zs++[z]) (ts++[t]):=by
 refine⟨by simp[h.1],fun j h1 h2=> ?_⟩;by_cases hj:j<zs.length
 ·rw[List.getElem_append_left hj,List.getElem_append_left (by have:=h.1;omega)];exact h.2 j hj _
 ·have e:j=zs.length:=by simp at h1;omega
  subst e;simp only[List.getElem_append_right (Nat.le_refl _),Nat.sub_self,List.getElem_cons_zero];rw[List.getElem_append_right (by have:=h.1;omega)];simp only[h.1,Nat.sub_self,List.getElem_cons_zero];exact hz
theorem RepZ.one {l:List Nd} {z:Int} {t:TT} (h:RepZ l z t):RepL l [z] [t]:=by simpa using(RepL.nil l).snoc h
theorem FP {l:List Nd} {n:Nd} {ks:List Int} {ts:List TT} (hn:n.kids=[]) (h:RepL l ks ts):RepZ (EI l n ks) l.length (.mk n ts):=by
 refine⟨by omega,?_⟩;have:=Nr (n:=n) h.1 h.2;rw[Rf hn]at this;simpa[EI]using this
theorem MB (l:List Nd) (n:Nd) (zs:List Int):∃m,(Cd l n zs).1=l++m:=by
 match zs with
 |[]=>exact⟨_,rfl⟩
 |[z]=>exact⟨[],by simp[Cd]⟩
 |_::_::_=>exact⟨_,rfl⟩
theorem MC {l:List Nd} {n:Nd} {zs:List Int} {ts:List TT} (hn:n.kids=[]) (h:RepL l zs ts):RepZ (Cd l n zs).1 (Cd l n zs).2 (C4 n ts):=by
 match zs,ts,h with
 |[],[],_=>exact FP (n:=Bi) rfl (RepL.nil l)
 |[z],[t],h=>exact h.2 0 (by simp) (by simp)
 |a::b::zs,x::y::ts,h=>exact FP hn h
 |[],_::_,h=>have:=h.1;simp at this
 |[_],[],h=>have:=h.1;simp at this
 |[_],_::_::_,h=>have:=h.1;simp at this
 |_::_::_,[],h=>have:=h.1;simp at this
 |_::_::_,[_],h=>have:=h.1;simp at this
theorem Ly {l:List Nd} {n:Nd} {zs P:List Int} (hn:∀k:Nat,2<=k->Am n k=true) (h:Fine l (zs++P)):Fine (Cd l n zs).1 ((Cd l n zs).2::P):=by
 match zs with
 |[]=>exact Fine.add (ks:=[]) (n:=Bi) (by simpa using h) (by decide)
 |[z]=>simpa[Cd]using h
 |a::b::zs=>exact h.add (hn _ (by simp))
structure SimO (l:List Nd) (a:Ob) (b:Op):Prop where
 fin:a.fin=b.fin
 name:a.name=b.name
 heads:a.heads=b.heads
 ways:RepL l a.ways b.ways
 parts:RepL l a.parts b.parts
 hd:∀k∈a.heads,k=7\/k=8
theorem SimO.append {l m:List Nd} {a:Ob} {b:Op} (h:SimO l a b):SimO (l++m) a b:=⟨h.fin,h.name,h.heads,h.ways.append,h.parts.append,h.hd⟩
def SimS (l:List Nd):List Ob->List Op->Prop
 |[],[]=>True
 |a::xs,b::ys=>SimO l a b/\SimS l xs ys
 |_,_=>False
theorem SimS.append {l m:List Nd}:∀{xs:List Ob} {ys:List Op},SimS l xs ys->SimS (l++m) xs ys
 |[],[],_=>trivial
 |a::xs,b::ys,h=>⟨h.1.append,h.2.append⟩
 |[],_::_,h=>h.elim
 |_::_,[],h=>h.elim
theorem SimS.length {l:List Nd}:∀{xs:List Ob} {ys:List Op},SimS l xs ys->xs.length=ys.length
 |[],[],_=>rfl
 |a::xs,b::ys,h=>by simp[h.2.length]
 |[],_::_,h=>h.elim
 |_::_,[],h=>h.elim
def OO:List Op->Prop
 |[]=>False
 |[b]=>b.fin=0
 |b::ys=>(b.fin=10\/b.fin=12/\Cb b.name=true)/\OO ys
def BC (xs:List Ob):List Int:=xs.flatMap fun a=>a.ways++a.parts
theorem XY:(⟨#[]⟩:ByteArray)=ByteArray.empty:=rfl
theorem OP (k:Nat) (h:2<=k):Am F9 k=true:=(Nq h).1
theorem OQ (k:Nat) (h:2<=k):Am CT k=true:=(Nq h).2
theorem Rv {t:List UInt8} (h:Cb t=true):Am (Fh t) 1=true:=by simp[Am,Fh,BQ,Ah,h]
theorem OR {x:Wd} (hm:Cw x) (hk:x.kind=1\/x.kind=15\/x.kind=16):Am (B7 x) 0=true:=by
 unfold B7;rcases hk with h|h|h
 ·rw[if_pos h];simp[Am,Ii,BQ,Ah,hm.1 h]
 ·rw[if_neg (by omega),if_pos h];by_cases e:x.text=[]
  ·rw[if_pos e];decide
  ·rw[if_neg e];have h1:=hm.2.1 h
   have h2:1<=x.text.length:=by
    cases hx:x.text with
    |nil=>exact absurd hx e
    |cons a l=>simp
   simp only[Am,Ij,BQ,Ah,ByteArray.size,List.size_toArray];simp[h1,h2]
 ·rw[if_neg (by omega),if_neg (by omega)];simp[Am,Mf,Ay,Ah,XY]
theorem JI (x:Wd):(B7 x).kids=[]:=by
 unfold B7;split
 ·rfl
 ·split
  ·split <;> rfl
  ·rfl
theorem Rw {W:List Wd} {i:Nat} {lo hi:Int} (hm:∀x∈W,Cw x) (h:CE W i=some (lo,hi)):Am (FB lo hi) 1=true:=by
 have hl:=JG h
 have key:0<=lo/\lo<=99/\(hi = -1\/lo<=hi/\hi<=99):=by
  unfold CE at h;split at h
  ·cases h;omega
  split at h
  ·cases h;omega
  split at h
  ·cases h;omega
  split at h
  ·rename_i h14
   rw[Lx hl]at h;rw[UH hl]at h14;cases h;exact(hm W[i] (List.getElem_mem hl)).2.2.1 h14
  ·cases h
 simp[Am,FB,BQ,Ay,key,XY]
end Go.Proofs.YtdnochjajoiooaaGreatDoor
