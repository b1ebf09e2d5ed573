/- Parts of the proof. -/
import Derived.Test.YtdnochjajoiooaaGreatDoorLk
import Derived.Test.YtdnochjajoiooaaGreatDoorCu
import Derived.Test.YtdnochjajoiooaaGreatDoorJb
import Derived.Test.YtdnochjajoiooaaGreatDoorKd
import Derived.Test.YtdnochjajoiooaaGreatDoorAd
import Derived.Test.YtdnochjajoiooaaGreatDoorHm
namespace Go.Proofs.YtdnochjajoiooaaGreatDoor
open Go.RowKit
theorem Wv (s t:ByteArray) (ht:t.data.toList=B0 s.data.toList) (h1:0<s.size) (h2:s.size<=32):(t.toList==s.toList)=Cb s.data.toList:=by
 have hn:s.data.toList≠[]:=by rw[Du s h1];simp
 have e1:=Ar s;have e2:=Ar t;rw[Bool.eq_iff_iff];simp only[Cb,decide_eq_true_eq,beq_iff_eq,Lib.toList_data,ht];exact⟨fun h=>⟨hn,by omega,h⟩,fun h=>h.2.2⟩
set_option maxHeartbeats 400000 in
theorem IU (s:ByteArray) (w:World) (hs:s.size<=281474976710656):
  Calls Tryz.prog 70 #[.string s] w fun e w'=>e=.returned (.bool (Cb s.data.toList))/\w=w':=by
 by_cases h0:0<s.size
 ·have⟨e1,e2⟩:=Bb s h0;by_cases h1:s.size<=32
  ·go_enter Tryz.func70,Tryz.ntmps70
   go_wp2_with fail
   refine(Tu _ _ hs).mono ?_;rintro e w' ⟨t,rfl,ht,rfl⟩;have HM:=qd (Wv s t ht h0 h1);clear ht;go_wp2_with fail
   go_ret;exact⟨Aj HM.out,rfl⟩
  ·have HM:=qd (show Cb s.data.toList=false by have:=Ar s;simp only[Cb,decide_eq_false_iff_not];rintro⟨_,h,_⟩;omega);go_enter Tryz.func70,Tryz.ntmps70
   go_wp2_with fail
   go_ret;exact⟨Aj HM.out.symm,rfl⟩
 ·have⟨e1,e2,e3⟩:=AH s h0;have HM:=qd (show Cb s.data.toList=false by rw[e3];rfl);go_enter Tryz.func70,Tryz.ntmps70
  go_wp2_with fail
  go_ret;exact⟨Aj HM.out.symm,rfl⟩
end Go.Proofs.YtdnochjajoiooaaGreatDoor
namespace Go.Proofs.YtdnochjajoiooaaGreatDoor
open Go.RowKit
set_option maxHeartbeats 400000 in
theorem IV (n:Int) (w:World) (h0: -9223372036854775808<=n) (h1:n<=9223372036854775807) (ht:Tab w):
  Calls Tryz.prog 36 #[.int .i64 n] w fun e w'=>e=.returned (.string ⟨(Lib.itoa n).toArray⟩)/\Below w.heap.size w w':=by
 go_enter Tryz.func36,Tryz.ntmps36
 go_wp2_with (first|(go_at_call 60;refine(Tryz.strconv_Itoa n h0 h1 _ ht).mono ?_;rintro e w' ⟨rfl,k,os,rfl⟩))
 go_ret;exact⟨rfl,PK _ _ _⟩
set_option linter.unusedSimpArgs false
set_option linter.unusedVariables false
structure Makes (W:List Wd) (P:List Nat->TT->Prop):Prop where
 mono:∀C D t,P C t->P (C++D) t
 empty:∀C,P C (.mk Bi [])
 leaf:∀C i,AU W i=true->P (if kdW W i=1 then C++[i]else C) (.mk (B7 (wdW W i)) [])
 rep:∀C i lo hi t,CE W i=some (lo,hi)->P C t->P C (.mk (FB lo hi) [t])
 head:∀C k t,k=7\/k=8->P C t->P C (.mk (CZ k) [t])
 seq:∀C n l,n=F9\/n=CT->2<=l.length->(∀t∈l,P C t)->P C (.mk n l)
 cap:∀C nm t,Cb nm=true->P C t->P C (.mk (Fh nm) [t])
def GoodO (P:List Nat->TT->Prop) (C:List Nat) (o:Op):Prop:=(∀t∈o.ways,P C t)/\(∀t∈o.parts,P C t)/\(∀k∈o.heads,k=7\/k=8)
def MD (P:List Nat->TT->Prop) (C:List Nat) (st:List Op):Prop:=OO st/\ ∀o∈st,GoodO P C o
variable {W:List Wd} {P:List Nat->TT->Prop}
theorem GoodO.mono (hM:Makes W P) {C D:List Nat} {o:Op} (h:GoodO P C o):GoodO P (C++D) o:=⟨fun t ht=>hM.mono _ _ _ (h.1 t ht),fun t ht=>hM.mono _ _ _ (h.2.1 t ht),h.2.2⟩
theorem ME (hM:Makes W P) {C:List Nat}:∀(f i:Nat) (t:TT),P C t->P C (B4 W f i t).1
 |0,i,t,h=>h
 |f+1,i,t,h=>by
  rw[B4];cases hs:CE W i with
  |none=>exact h
  |some p=>
   obtain⟨lo,hi⟩:=p;exact ME hM f (i+1) _ (hM.rep C i lo hi t hs h)
theorem MF (hM:Makes W P) {C:List Nat} {t:TT} (h:P C t):∀hs:List Nat,(∀k∈hs,k=7\/k=8)->P C (Fi hs t)
 |[],_=>h
 |k::hs,hk=>hM.head C k _ (hk k (by simp)) (MF hM h hs fun x hx=>hk x (List.mem_cons_of_mem _ hx))
theorem JJ (hM:Makes W P) {C:List Nat} {o:Op} {i:Nat} {t:TT} (h:GoodO P C o) (ht:P C t):GoodO P C (B8 W o i t).1:=
 ⟨h.1,fun x hx=>by
  rcases List.mem_append.1 hx with hx|hx
  ·exact h.2.1 x hx
  ·obtain rfl:=List.mem_singleton.1 hx;exact MF hM (ME hM _ _ _ ht) _ h.2.2,fun k hk=>by cases hk⟩
theorem JK (hM:Makes W P) {C:List Nat} {n:Nd} {l:List TT} (hn:n=F9\/n=CT) (h:∀t∈l,P C t):P C (C4 n l):=by
 match l with
 |[]=>exact hM.empty C
 |[x]=>exact h x (by simp)
 |x::y::l=>exact hM.seq C n _ hn (by simp) h
theorem IW (hM:Makes W P) {C:List Nat} {o:Op} (h:GoodO P C o):GoodO P C (CF o):=
 ⟨fun t ht=>by
  rcases List.mem_append.1 ht with ht|ht
  ·exact h.1 t ht
  ·obtain rfl:=List.mem_singleton.1 ht;exact JK hM (.inl rfl) h.2.1,fun t ht=>(by cases ht),h.2.2⟩
theorem GO {a b:Op} {st:List Op} (h:OO (a::st)) (hf:b.fin=a.fin) (hn:b.name=a.name):OO (b::st):=by
 cases st with
 |nil=>exact hf.trans h
 |cons c st=>exact⟨by rw[hf,hn];exact h.1,h.2⟩
theorem UJ {a b:Op} {st:List Op} (h:OO (a::b::st)):OO (b::st):=h.2
theorem MG (hM:Makes W P) (hW:∀x∈W,Cw x) {s s':PS} (h:MD P s.calls s.st) (hs:AL W s=.inl s'):MD P s'.calls s'.st:=by
 obtain⟨i,st,C⟩:=s;simp only at h;cases st with
 |nil=>simp[AL]at hs
 |cons top rest=>
  obtain⟨hk,hg⟩:=h;have ht:=hg top (by simp);have hr:∀o∈rest,GoodO P C o:=fun o ho=>hg o (List.mem_cons_of_mem _ ho)
  simp only[AL]at hs;split at hs
  ·rename_i h1
   injection hs with hs;subst hs
   have hl:=hM.leaf C i h1;by_cases h2:kdW W i=1
   ·rw[if_pos h2]at hl;simp only[if_pos h2]
    exact⟨GO hk rfl rfl,fun o ho=>by
     rcases List.mem_cons.1 ho with rfl|ho
     ·exact JJ hM (ht.mono hM) hl
     ·exact(hr o ho).mono hM⟩
   ·rw[if_neg h2]at hl;simp only[if_neg h2]
    exact⟨GO hk rfl rfl,fun o ho=>by
     rcases List.mem_cons.1 ho with rfl|ho
     ·exact JJ hM ht hl
     ·exact hr o ho⟩
  split at hs
  ·rename_i h1
   injection hs with hs;subst hs
   refine⟨GO hk rfl rfl,fun o ho=> ?_⟩;rcases List.mem_cons.1 ho with rfl|ho
   ·refine⟨ht.1,ht.2.1,fun k hk=> ?_⟩;rcases List.mem_append.1 hk with hk|hk
    ·exact ht.2.2 k hk
    ·obtain rfl:=List.mem_singleton.1 hk;split <;> simp
   ·exact hr o ho
  split at hs
  ·injection hs with hs;subst hs
   refine⟨⟨.inl rfl,hk⟩,fun o ho=> ?_⟩;rcases List.mem_cons.1 ho with rfl|ho
   ·exact⟨by simp,by simp,by simp⟩
   ·exact hg o ho
  split at hs
  ·split at hs
   ·rename_i h3
    split at hs
    ·injection hs with hs;subst hs
     have hl:=FO (W:=W) (i:=i+1) (by omega);have hm:=hW W[i+1] (List.getElem_mem hl);refine⟨⟨.inr ⟨rfl,?_⟩,hk⟩,fun o ho=> ?_⟩
     ·show Cb (wdW W (i+1)).text=true;rw[Lx hl];exact hm.1 (by rw[<-UH hl];exact h3)
     ·rcases List.mem_cons.1 ho with rfl|ho
      ·exact⟨by simp,by simp,by simp⟩
      ·exact hg o ho
    ·cases hs
   ·cases hs
  split at hs
  ·cases hs
  split at hs
  ·injection hs with hs;subst hs
   refine⟨GO hk rfl rfl,fun o ho=> ?_⟩;rcases List.mem_cons.1 ho with rfl|ho
   ·exact IW hM ht
   ·exact hr o ho
  split at hs
  ·cases hs
  split at hs
  ·cases hs
  ·cases rest with
   |nil=>cases hs
   |cons up rest=>
    injection hs with hs;subst hs
    have hu:=hr up (by simp);have hj:P C (C4 CT (CF top).ways):=JK hM (.inr rfl) (IW hM ht).1;refine⟨GO (UJ hk) rfl rfl,fun o ho=> ?_⟩;rcases List.mem_cons.1 ho with rfl|ho
    ·refine JJ hM hu ?_;unfold G3;split
     ·rename_i h12
      have:Cb top.name=true:=by
       rcases hk.1 with h|h
       ·omega
       ·exact h.2
      exact hM.cap C _ _ this hj
     ·exact hj
    ·exact hr o (List.mem_cons_of_mem _ ho)
theorem Ht (hW:∀x∈W,Cw x):Makes W fun _ t=>BL t where
 mono _ _ _ h:=h
 empty _:=Jy.1
 leaf C i h:=by
  have hl:=Hs h;refine BG.2 ⟨⟨JI _,?_⟩,by simp⟩;rw[Lx hl];refine OR (hW _ (List.getElem_mem hl)) ?_;simp only[AU,UH hl,Bool.or_eq_true,Bool.and_eq_true,decide_eq_true_eq]at h;omega
 rep C i lo hi t hs h:=BG.2 ⟨⟨rfl,Rw hW hs⟩,fun x hx=>by obtain rfl:=List.mem_singleton.1 hx;exact h⟩
 head C k t hk h:=BG.2 ⟨⟨rfl,by show Am (CZ k) 1=true;rcases hk with rfl|rfl <;> decide⟩,fun x hx=>by obtain rfl:=List.mem_singleton.1 hx;exact h⟩
 seq C n l hn hl h:=BG.2 ⟨⟨(by rcases hn with rfl|rfl <;> rfl),hn.elim (fun e=>e▸OP _ hl) (fun e=>e▸OQ _ hl)⟩,h⟩
 cap C nm t hm h:=BG.2 ⟨⟨rfl,Rv hm⟩,fun x hx=>by obtain rfl:=List.mem_singleton.1 hx;exact h⟩
end Go.Proofs.YtdnochjajoiooaaGreatDoor
namespace Go.Proofs.YtdnochjajoiooaaGreatDoor
set_option linter.unusedSimpArgs false
set_option linter.unusedVariables false
def Fx (x:Wd):Wd:={x with frm:=0,til:=0}
theorem N6 (W:List Wd) (i:Nat):kdW (W.map Fx) i=kdW W i:=by
 simp only[kdW,List.getElem?_map,Option.map_map];rfl
theorem N7 (W:List Wd) (i:Nat):wdW (W.map Fx) i=Fx (wdW W i):=by
 simp only[wdW,List.getElem?_map];cases W[i]? <;> rfl
theorem UK (W:List Wd) (i:Nat):CE (W.map Fx) i=CE W i:=by simp only[CE,N6,N7];rfl
theorem SO (W:List Wd) (i:Nat):B7 (wdW (W.map Fx) i)=B7 (wdW W i):=by rw[N7];rfl
theorem OS (W:List Wd) (i:Nat):AU (W.map Fx) i=AU W i:=by simp only[AU,N6]
theorem MH (W:List Wd):∀(f i:Nat) (t:TT),B4 (W.map Fx) f i t=B4 W f i t
 |0,i,t=>rfl
 |f+1,i,t=>by
  rw[B4,B4,UK];cases CE W i with
  |none=>rfl
  |some p=>exact MH W f (i+1) _
theorem SP (W:List Wd) (top:Op) (i:Nat) (t:TT):B8 (W.map Fx) top i t=B8 W top i t:=by simp only[B8,MH,List.length_map]
theorem SQ (W:List Wd) (i:Nat):(wdW (W.map Fx) i).text=(wdW W i).text:=by rw[N7];rfl
theorem SS (W:List Wd) (s:PS):AL (W.map Fx) s=AL W s:=by
 simp only[AL,OS,N6,SO,SP,SQ]
theorem OT (W:List Wd):∀(f:Nat) (s:PS),Id (W.map Fx) f s=Id W f s
 |0,s=>rfl
 |f+1,s=>by
  rw[Id,Id,SS];cases AL W s with
  |inl s'=>exact OT W f s'
  |inr r=>rfl
theorem OU (W:List Wd) (i:Nat) (C:List Nat):Dn (W.map Fx) i C=Dn W i C:=by simp only[Dn,OT,List.length_map]
section
variable (A V:List Wd)
theorem DT (i:Nat):kdW (A++V) (A.length+i)=kdW V i:=by
 simp only[kdW,List.getElem?_append_right (Nat.le_add_right A.length i),Nat.add_sub_cancel_left]
theorem FQ (i:Nat):wdW (A++V) (A.length+i)=wdW V i:=by
 simp only[wdW,List.getElem?_append_right (Nat.le_add_right A.length i),Nat.add_sub_cancel_left]
theorem MI (i j:Nat):kdW (A++V) (A.length+i+j)=kdW V (i+j):=by rw[Nat.add_assoc];exact DT A V _
theorem ST (i j:Nat):wdW (A++V) (A.length+i+j)=wdW V (i+j):=by rw[Nat.add_assoc];exact FQ A V _
theorem SU (i:Nat):CE (A++V) (A.length+i)=CE V i:=by simp only[CE,DT,FQ]
theorem N8 (i:Nat):AU (A++V) (A.length+i)=AU V i:=by simp only[AU,DT,MI]
theorem Lz:∀(f i:Nat) (t:TT),B4 (A++V) f (A.length+i) t=((B4 V f i t).1,A.length+(B4 V f i t).2)
 |0,i,t=>rfl
 |f+1,i,t=>by
  rw[B4,B4,SU];cases CE V i with
  |none=>rfl
  |some p=>exact Lz f (i+1) _
theorem Qs (top:Op) (i:Nat) (t:TT):B8 (A++V) top (A.length+i) t=((B8 V top i t).1,A.length+(B8 V top i t).2):=by
 simp only[B8];rw[show(A++V).length-(A.length+i)=V.length-i by rw[List.length_append];omega,Lz]
def I1 (a:Nat):PR->PR
 |.fail k=>.fail (a+k)
 |.done j t=>.done (a+j) t
def Gl (a:Nat) (D:List Nat) (s:PS):PS:=⟨a+s.i,s.st,D++s.calls.map (a + ·)⟩
def FR (a:Nat) (D:List Nat):PS ⊕ PR->PS ⊕ PR
 |.inl s=>.inl (Gl a D s)
 |.inr r=>.inr (I1 a r)
theorem Qt (D:List Nat) (s:PS):AL (A++V) (Gl A.length D s)=FR A.length D (AL V s):=by
 obtain⟨i,st,C⟩:=s;have p1:=fun top t=>Qs A V top (i+1) t
 have e1:A.length+(i+1)=A.length+i+1:=rfl;rw[e1]at p1;cases st with
 |nil=>rfl
 |cons top rest=>
  simp only[AL,Gl,N8,DT,MI,FQ,ST,p1];split
  ·simp only[FR,Gl];split <;> simp
  split
  ·simp only[FR,Gl,Nat.add_assoc]
  split
  ·simp only[FR,Gl,Nat.add_assoc]
  split
  ·split
   ·split
    ·simp only[FR,Gl,Nat.add_assoc]
    ·simp only[FR,I1,Nat.add_assoc]
   ·simp only[FR,I1,Nat.add_assoc]
  split
  ·simp only[FR,I1]
  split
  ·simp only[FR,Gl,Nat.add_assoc]
  split
  ·simp only[FR,I1]
  split
  ·simp only[FR,I1]
  ·cases rest with
   |nil=>simp only[FR,I1]
   |cons up rest=>simp only[FR,Gl]
end
section
variable {V Z:List Wd}
theorem Gm {i:Nat} (h:i<V.length):kdW (V++Z) i=kdW V i:=by simp only[kdW,List.getElem?_append_left h]
theorem N9 {i:Nat} (h:i<V.length):wdW (V++Z) i=wdW V i:=by simp only[wdW,List.getElem?_append_left h]
def DU (Z:List Wd):Prop:=kdW Z 0≠2/\kdW Z 0≠6/\kdW Z 0≠7/\kdW Z 0≠8/\kdW Z 0≠14
theorem DV:kdW (V++Z) V.length=kdW Z 0:=DT V Z 0
theorem OV {i:Nat} (h:i<V.length):CE (V++Z) i=CE V i:=by simp only[CE,Gm h,N9 h]
theorem L0 (hz:DU Z):CE (V++Z) V.length=none:=by
 obtain⟨_,h1,h2,h3,h4⟩:=hz;simp only[CE,DV,if_neg h1,if_neg h2,if_neg h3,if_neg h4]
theorem Ww {i:Nat} (h:V.length<=i):CE V i=none:=by simp[CE,N4 h]
theorem MJ (hz:DU Z):∀(n i:Nat) (t:TT),V.length-i=n->i<=V.length->B4 (V++Z) ((V++Z).length-i) i t=B4 V (V.length-i) i t
 |0,i,t,hn,hi=>by
  obtain rfl:i=V.length:=by omega
  rw[Em (L0 hz),Em (Ww (Nat.le_refl _))]
 |n+1,i,t,hn,hi=>by
  have hlt:i<V.length:=by omega
  cases h:CE V i with
  |none=>rw[Em h,Em (by rw[OV hlt];exact h)]
  |some p=>
   obtain⟨lo,hi'⟩:=p;rw[Hr h,Hr (by rw[OV hlt];exact h)];exact MJ hz n (i+1) _ (by omega) (by omega)
theorem SV (hz:DU Z) {top:Op} {i:Nat} {t:TT} (hi:i<=V.length):B8 (V++Z) top i t=B8 V top i t:=by simp only[B8,MJ hz _ i _ rfl hi]
theorem Kk (hz:DU Z) {i:Nat} (h:i<V.length):AU (V++Z) i=AU V i:=by
 simp only[AU,Gm h];rcases Nat.lt_or_ge (i+1) V.length with h1|h1
 ·rw[Gm h1]
 ·obtain e:i+1=V.length:=by omega
  rw[e,DV,N4 (Nat.le_refl _)];simp[hz.1]
theorem SW (hz:DU Z) {s:PS} (h:s.i<V.length) (hn:∀k,AL V s≠.inr (.fail k)):AL (V++Z) s=AL V s:=by
 obtain⟨i,st,C⟩:=s;cases st with
 |nil=>rfl
 |cons top rest=>
  have p1:=fun top t=>SV (Z:=Z) hz (top:=top) (i:=i+1) (t:=t) (show i+1<=V.length from h)
  simp only at h;by_cases h11:kdW V i=11
  ·have hl:AU V i=false:=by simp[AU,h11]
   simp only[AL,hl,h11]at hn;simp at hn;by_cases h1:kdW V (i+1)=1
   ·by_cases h2:kdW V (i+2)=13
    ·have l2:i+2<V.length:=FO (by omega);simp only[AL,Kk hz h,Gm h,Gm (show i+1<V.length by omega),Gm l2,N9 (show i+1<V.length by omega),hl,h11,h1,h2];simp
    ·simp[h1,h2]at hn
   ·simp[h1]at hn
  ·simp only[AL,Kk hz h,Gm h,N9 h,p1,if_neg h11]
end
section
variable {V Z:List Wd}
theorem UL {W:List Wd} {i:Nat} {st:List Op} {C:List Nat} {j:Nat} {t:TT} (hi:W.length<=i) (h:AL W ⟨i,st,C⟩=.inr (.done j t)):
  j=i/\ ∃top rest,st=top::rest/\top.heads=[]/\top.fin=0/\t=C4 CT (CF top).ways:=by
 cases st with
 |nil=>simp[AL]at h
 |cons top rest=>
  have h0:kdW W i=0:=N4 hi;have hl:AU W i=false:=by simp[AU,h0]
  simp only[AL,hl,h0]at h;simp only[Bool.false_eq_true,if_false,Nat.reduceEqDiff,or_self,ne_eq]at h;split at h
  ·cases h
  ·rename_i h1
   split at h
   ·rename_i h2
    injection h with h;injection h with e1 e2
    exact⟨e1.symm,top,rest,rfl,by simpa using h1,h2,e2.symm⟩
   ·rename_i h2
    split at h
    ·cases h
    ·cases rest with
     |nil=>cases h
     |cons up rest=>cases h
end
def Ik (p:Nd->Prop):TT->Prop
 |.mk n ks=>p n/\go ks
 where go:List TT->Prop
  |[]=>True
  |t::ts=>Ik p t/\go ts
theorem OW (p:Nd->Prop):∀ts,Ik.go p ts↔ ∀t∈ts,Ik p t
 |[]=>by simp[Ik.go]
 |t::ts=>by rw[Ik.go,OW p ts];simp
theorem L3 {p:Nd->Prop} {n:Nd} {ks:List TT}:Ik p (.mk n ks)↔p n/\ ∀t∈ks,Ik p t:=by rw[Ik,OW]
def Wx (W:List Wd) (C:List Nat) (n:Nd):Prop:=n.kind=3-> ∃i∈C,n.text=⟨(wdW W i).text.toArray⟩
def PR.at:PR->Nat
 |.fail k=>k
 |.done k _=>k
section
variable {V Z:List Wd}
end
theorem MK {s:List UInt8}:∀x∈(AD s).1,Cw x:=by
 intro x hx;unfold AD at hx;split at hx
 ·cases hx
 split at hx
 ·cases hx
 ·exact raw_may s _ _ x hx
 where raw_may (s:List UInt8):∀(f a:Nat),∀x∈(DY s f a).1,Cw x
  |0,a,x,hx=>by simp[DY]at hx
  |f+1,a,x,hx=>by
   rw[DY]at hx;split at hx
   ·cases hx
   ·cases hw:B9 s a with
    |none=>rw[hw]at hx;cases hx
    |some w=>
     rw[hw]at hx;rcases List.mem_cons.1 hx with rfl|hx
     ·exact UW hw
     ·exact raw_may s f _ x hx
open Go.RowKit
structure Grove (N:List Nd) (R:Nat->Prop):Prop where
 lt:∀p,R p->p<N.length
 ok:∀i n,N[i]?=some n->Ma i n=true
 root:∀p,R p->(Aw N).count (p:Int)=0
 kid:∀p,p<N.length-> ¬R p->(Aw N).count (p:Int)=1
theorem Grove.nil:Grove [] (fun _=>False):=⟨fun _ h=>h.elim,fun i n h=>by simp at h,fun _ h=>h.elim,fun p h=>by simp at h⟩
theorem Grove.congr {N:List Nd} {R R':Nat->Prop} (h:Grove N R) (e:∀p,R p↔R' p):Grove N R':=(funext fun p=>propext (e p):R=R')▸h
theorem Mh (N M:List Nd):Aw (N++M)=Aw N++Aw M:=by simp[Aw]
theorem Qu (n:Nd):Aw [n]=n.kids:=by simp[Aw]
theorem Grove.far {N:List Nd} {R:Nat->Prop} (h:Grove N R):(Aw N).count (N.length:Int)=0:=by
 refine List.count_eq_zero.2 fun hm=> ?_
 obtain⟨n,hn,hk⟩:=List.mem_flatMap.1 hm;obtain⟨i,hi,rfl⟩:=List.mem_iff_getElem.1 hn;have:=h.ok i _ (List.getElem?_eq_getElem hi);simp only[Ma,Bool.and_eq_true,List.all_eq_true,decide_eq_true_eq]at this;have:=(this.2 _ hk).2;omega
theorem Grove.push {N:List Nd} {R:Nat->Prop} (h:Grove N R) {n:Nd} (hf:Am n n.kids.length=true) (hk:∀k∈n.kids,0<=k/\R k.toNat) (hn:n.kids.Nodup):
  Grove (N++[n]) (fun p=>p=N.length\/(R p/\(p:Int)∉n.kids)):=by
 have hc:∀p:Nat,(Aw (N++[n])).count (p:Int)=(Aw N).count (p:Int)+n.kids.count (p:Int):=fun p=>by rw[Mh,Qu,List.count_append]
 have h0:n.kids.count (N.length:Int)=0:=List.count_eq_zero.2 fun hm=>by
  have:=h.lt _ (hk _ hm).2;simp at this
 refine⟨fun p hp=> ?_,fun i m hm=> ?_,fun p hp=> ?_,fun p hp hr=> ?_⟩
 ·rw[List.length_append];rcases hp with rfl|hp
  ·simp
  ·have:=h.lt p hp.1;omega
 ·by_cases hi:i<N.length
  ·rw[List.getElem?_append_left hi]at hm;exact h.ok i m hm
  ·have hl:=(List.getElem?_eq_some_iff.1 hm).1;simp only[List.length_append,List.length_singleton]at hl;obtain rfl:i=N.length:=by omega
   rw[List.getElem?_append_right (Nat.le_refl _),Nat.sub_self]at hm;simp only[List.getElem?_cons_zero,Option.some.injEq]at hm;subst hm;simp only[Ma,hf,Bool.true_and,List.all_eq_true,decide_eq_true_eq];intro k hk';have h1:=hk k hk';have:=h.lt _ h1.2;omega
 ·rw[hc];rcases hp with rfl|hp
  ·rw[h.far,h0]
  ·rw[h.root p hp.1,List.count_eq_zero.2 hp.2]
 ·rw[hc];by_cases e:p=N.length
  ·exact absurd (.inl e) hr
  ·have hp:p<N.length:=by rw[List.length_append]at hp;simp at hp;omega
   by_cases hR:R p
   ·have hm:(p:Int)∈n.kids:=Decidable.byContradiction fun hx=>hr (.inr ⟨hR,hx⟩)
    rw[h.root p hR,hn.count,if_pos hm]
   ·rw[h.kid p hp hR,List.count_eq_zero.2 fun hm=>hR (by simpa using(hk _ hm).2)]
theorem Grove.right {N:List Nd} {r:Nat} (h:Grove N (fun p=>p=r)):Bv ⟨N,(r:Int)⟩:=by
 have hl:=h.lt r rfl;refine⟨⟨by show(0:Int)<=r;omega,by show(r:Int)<_;exact_mod_cast hl⟩,h.ok,fun i hi=> ?_⟩;show(Aw N).count (i:Int)=if (i:Int)=(r:Int)then 0 else 1
 split
 ·rename_i e;exact h.root i (by exact_mod_cast e)
 ·rename_i e;exact h.kid i hi fun e'=>e (by rw[e'])
theorem SX (n:Nd) (ks:List Int) (k:Int):Am {n with kids:=ks} k=Am n k:=rfl
theorem K8:∀(T:List (List Nd)) (off:Nat),(∀t∈T,1<=t.length)-> ∀z∈CR off T,(off:Int)<=z
 |[],_,_,z,h=>by simp[CR]at h
 |t::ts,off,ht,z,h=>by
  have h1:=ht t List.mem_cons_self;simp only[CR,List.mem_cons]at h;rcases h with rfl|h
  ·omega
  ·have:=K8 ts (off+t.length) (fun t h=>ht t (List.mem_cons_of_mem _ h)) z h;omega
theorem L4:∀(T:List (List Nd)) (off:Nat),(∀t∈T,1<=t.length)->(CR off T).Nodup
 |[],_,_=>by simp[CR]
 |t::ts,off,ht=>by
  have h1:=ht t List.mem_cons_self;have h2:∀t'∈ts,1<=t'.length:=fun t h=>ht t (List.mem_cons_of_mem _ h)
  simp only[CR,List.nodup_cons];refine⟨fun hm=> ?_,L4 ts _ h2⟩;have:=K8 ts (off+t.length) h2 _ hm;omega
theorem ML:∀(ks:List TT) (N:List Nd) (R:Nat->Prop),(∀x∈ks,∀M Q,Grove M Q->Grove (M++(BJ x).map (Gi M.length)) (fun p=>Q p\/p=M.length+((BJ x).length-1)))->Grove N R ->
  Grove (N++G2 N.length (ks.map BJ)) (fun p=>R p\/(p:Int)∈CR N.length (ks.map BJ))
 |[],N,R,_,h=>by
  simp only[List.map_nil,G2,CR,List.append_nil];exact h.congr fun p=>by simp
 |x::ks,N,R,hx,h=>by
  have h1:=hx x List.mem_cons_self N R h;have h2:=ML ks _ _ (fun y hy=>hx y (List.mem_cons_of_mem _ hy)) h1;have hl:=Np x;simp only[List.length_append,List.length_map,List.append_assoc]at h2;simp only[List.map_cons,G2,CR];refine h2.congr fun p=> ?_
  simp only[List.mem_cons];constructor
  ·rintro((h3|rfl)|h3)
   ·exact .inl h3
   ·exact .inr (.inl (by omega))
   ·exact .inr (.inr h3)
  ·rintro(h3|h3|h3)
   ·exact .inl (.inl h3)
   ·exact .inl (.inr (by omega))
   ·exact .inr h3
theorem Qv {x:TT}:BL x-> ∀N R,Grove N R->Grove (N++(BJ x).map (Gi N.length)) (fun p=>R p\/p=N.length+((BJ x).length-1)):=by
 induction x using TT.ind with
 |h n ks ih=>
  intro hf N R h;obtain⟨⟨hk,hn⟩,hks⟩:=BG.1 hf;have h1:=ML ks N R (fun y hy=>ih y hy (hks y hy)) h;have hne:∀t∈ks.map BJ,1<=t.length:=fun t ht=>by obtain⟨y,_,rfl⟩:=List.mem_map.1 ht;exact Np y
  have hl:(G2 0 (ks.map BJ)).length=(G2 N.length (ks.map BJ)).length:=by
   rw[show N.length=N.length+0 by omega,<-Jw];simp
  have hs:(BJ (.mk n ks)).map (Gi N.length)=G2 N.length (ks.map BJ)++[{n with kids:=CR N.length (ks.map BJ)}]:=by
   rw[G5,List.map_append,Jw,Nat.add_zero,List.map_singleton];congr 2;show({n with kids:=(CR 0 (ks.map BJ)).map (· + (N.length:Int))}:Nd)=_;rw[KI,Nat.add_zero]
  have hlen:(BJ (.mk n ks)).length=(G2 N.length (ks.map BJ)).length+1:=by rw[G5,List.length_append,hl];rfl
  rw[hs,<-List.append_assoc];refine(h1.push (n:={n with kids:=CR N.length (ks.map BJ)}) (by rw[SX];simp only[I7,List.length_map];exact hn) (fun k hk'=> ?_) (L4 _ _ hne)).congr fun p=> ?_
  ·have:=K8 _ _ hne k hk';refine⟨by omega,.inr ?_⟩;rw[show((k.toNat:Nat):Int)=k by omega];exact hk'
  ·rw[List.length_append,hlen];constructor
   ·rintro(h2|⟨h2|h2,h3⟩)
    ·exact .inr (by omega)
    ·exact .inl h2
    ·exact absurd h2 h3
   ·rintro(h2|h2)
    ·refine .inr ⟨.inl h2,fun h3=> ?_⟩;have h4:=K8 _ _ hne _ h3;have h5:=h.lt p h2;omega
    ·exact .inl (by omega)
theorem NA {x:TT} (h:BL x):Bv (DC x):=by
 have h1:=Qv h [] _ Grove.nil
 have e:(BJ x).map (Gi 0)=BJ x:=by
  refine Eq.trans (List.map_congr_left fun n _=> ?_) (List.map_id _);cases n;simp[Gi]
 simp only[List.nil_append,List.length_nil,e,Nat.zero_add]at h1;have hl:=Np x;have h2:=(h1.congr (R':=fun p=>p=(BJ x).length-1) fun p=>by simp).right;have e2:DC x=⟨BJ x,(((BJ x).length-1:Nat):Int)⟩:=by unfold DC;congr 1;omega
 rw[e2];exact h2
abbrev JL (t:Tr):TT:=den t.nodes t.root.toNat
theorem OX {t:Tr} (h:AA t=true):BL (JL t):=by
 have hR:=(AM _).1 h;have h1:=hR.1;exact Mu hR _ (by omega)
def XZ (W:List Wd) (i:Nat):List UInt8:=(wdW W i).text
def Il (t:TT):Tr:=DC (Bo t)
def UM (W:List Wd) (l:List (Nat×TT)):List (List UInt8):=l.map fun p=>XZ W p.1
def UN (s:List UInt8):(List (Nat×TT)×List Nat)×Nat×Nat:=
 if (A4 s).2.2=40 then(([],[]),(A4 s).2.1,40)
 else match UG (A4 s).1 with
  |.fail k=>(([],[]),Ek (A4 s).1 (A4 s).2.1 k,4)
  |.done l cs=>((l,cs),(A4 s).2.1,(A4 s).2.2)
def UO (s:List UInt8):List (List UInt8):=if (UN s).2.2≠0 then[]else UM (A4 s).1 (UN s).1.1
def Ef (s:List UInt8):Tr×Nat×Nat:=
 if (A4 s).2.2=40 then(⟨[],0⟩,(A4 s).2.1,40)
 else match (Dn (A4 s).1 0 []).1 with
  |.fail k=>(⟨[],0⟩,Ek (A4 s).1 (A4 s).2.1 k,4)
  |.done j t=>if j<(A4 s).1.length then(⟨[],0⟩,Ek (A4 s).1 (A4 s).2.1 j,4)else if (A4 s).2.2≠0 then(⟨[],0⟩,(A4 s).2.1,(A4 s).2.2)else if !JF (Il t)then(⟨[],0⟩,(A4 s).2.1,40)else(Il t,0,0)
structure ReadsP (s:List UInt8) (W:List Wd) (l:List (Nat×TT)) (cs:List Nat):Prop where
 begun:A4 s=(W,s.length,0)
 rules:UG W=.done l cs
 read:UN s=((l,cs),s.length,0)
 may:∀x∈W,Cw x
 ne:l≠[]
 ofs:∀p∈l,kdW W p.1=1/\BL p.2/\Ik (Wx W cs) p.2
 calls:∀c∈cs,kdW W c=1
end Go.Proofs.YtdnochjajoiooaaGreatDoor
