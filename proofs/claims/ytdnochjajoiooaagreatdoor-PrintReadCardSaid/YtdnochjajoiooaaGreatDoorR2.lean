/- Plain: what a tree's words denote. -/
import Derived.Test.YtdnochjajoiooaaGreatDoorR1
namespace Go.Proofs.YtdnochjajoiooaaGreatDoor
set_option linter.unusedSimpArgs false
set_option linter.unusedVariables false
def PrimOK (x:TT) (T:List Wd):Prop:=∀(A Z:List Wd) (up:Op) (rest:List Op) (C:List Nat),kdW Z 0≠2-> ∃C',goP (A++(T++Z)) ⟨A.length,up::rest,C⟩ =
 goP (A++(T++Z)) ⟨(B8 (A++(T++Z)) up (A.length+T.length) x).2,(B8 (A++(T++Z)) up (A.length+T.length) x).1::rest,C'⟩
def UnitOK (x:TT) (T:List Wd):Prop:=∀(A Z:List Wd) (up:Op) (rest:List Op) (C:List Nat),DU Z-> ∃C',goP (A++(T++Z)) ⟨A.length,up::rest,C⟩ =
 goP (A++(T++Z)) ⟨A.length+T.length,{up with heads:=[],parts:=up.parts++[Fi up.heads x]}::rest,C'⟩
def WayOK (x:TT) (T:List Wd):Prop:=∀(A Z:List Wd) (up:Op) (rest:List Op) (C:List Nat),up.parts=[]->up.heads=[]->DU Z-> ∃(C':List Nat) (P:List TT),goP (A++(T++Z)) ⟨A.length,up::rest,C⟩ =
 goP (A++(T++Z)) ⟨A.length+T.length,{up with parts:=P}::rest,C'⟩/\C4 F9 P=x
theorem PrimOK.unit {x:TT} {T:List Wd} (h:PrimOK x T):UnitOK x T:=fun A Z up rest C hz=>by
 obtain⟨C',h1⟩:=h A Z up rest C hz.1;refine⟨C',?_⟩;rw[h1];have e:A++(T++Z)=(A++T)++Z:=by simp
 have es:CE (A++(T++Z)) (A.length+T.length)=none:=by rw[e,<-List.length_append];exact L0 hz
 simp only[B8,Em es]
theorem UnitOK.way {x:TT} {T:List Wd} (h:UnitOK x T):WayOK x T:=fun A Z up rest C hp hh hz=>by
 obtain⟨C',h1⟩:=h A Z up rest C hz;refine⟨C',[x],?_,rfl⟩;rw[h1];obtain⟨fin,name,ways,parts,heads⟩:=up;simp only at hp hh;subst hp hh;rfl
theorem WayOK.whole {x:TT} {T:List Wd} (h:WayOK x T) (hm:∀y∈T,Cw y):Whole T x:=⟨hm,by
 obtain⟨C',P,h1,h2⟩:=h [] [] DS [] [] rfl rfl Ng;rw[Nh];simp only[List.nil_append,List.append_nil,List.length_nil,Nat.zero_add]at h1
 have e:(CF {DS with parts:=P}).ways=[x]:=by
  show[]++[C4 F9 P]=[x];rw[h2];rfl
 rw[h1,RZ (o:={DS with parts:=P}) rfl rfl,e];rfl⟩
theorem Whole.prim {x:TT} {V:List Wd} (h:Whole V x):PrimOK x (Ap 9::(V++[Ap 10])):=fun A Z up rest C hz=>by
 obtain⟨hW,hr⟩:=h;obtain⟨C1,hr'⟩:∃C1,Dn V 0 []=(.done V.length x,C1):=⟨_,by rw[<-hr]⟩;have hQ0:A++((Ap 9::(V++[Ap 10]))++Z)=A++(Ap 9::(V++(Ap 10::Z))):=by simp
 rw[hQ0];generalize hQ:A++(Ap 9::(V++(Ap 10::Z)))=Q;have hQ2:Q=(A++[Ap 9])++(V++(Ap 10::Z)):=by rw[<-hQ];simp
 have k9:kdW Q A.length=9:=by rw[<-hQ,DV];rfl
 have hlen:Q.length=A.length+V.length+Z.length+2:=by rw[<-hQ];simp;omega
 have s1:AL Q ⟨A.length,up::rest,C⟩=.inl ⟨A.length+1,⟨10,[],[],[],[]⟩::up::rest,C⟩:=by
  simp[AL,AU,k9]
 obtain⟨top,hh,ht,hfit,hgo⟩:=NQ (A:=A++[Ap 9]) (V:=V) (Z:=Ap 10::Z) (P1 (.inl rfl)) hW (F:=10) (nm:=[]) (P:=[]) (rest:=up::rest) C _ ⟨0,[DS],[]⟩ (Nat.zero_le _) (Pz (W:=V)) x C1 hr';rw[<-hQ2]at hgo;have hA1:(A++[Ap 9]).length=A.length+1:=by simp
 rw[hA1]at hgo;simp only[List.map_nil,List.append_nil,Nat.add_zero]at hgo;have k10:kdW Q (A.length+1+V.length)=10:=by rw[hQ2,<-hA1,DT,DV];rfl
 refine⟨C++C1.map (A.length+1 + ·),?_⟩;rw[EH (by simp only;omega) s1];have e0:(⟨10,[],[],[],[]⟩:Op)::up::rest=Ie 10 [] [] (up::rest) [DS]:=rfl;rw[e0,hgo];have el:A.length+(Ap 9::(V++[Ap 10])).length=A.length+1+V.length+1:=by simp;omega
 rw[el];have hem:(I5 10 [] [] top).heads=[]:=hh;have hl:AU Q (A.length+1+V.length)=false:=by simp[AU,k10]
 have he:G3 (I5 10 [] [] top) (C4 CT (CF (I5 10 [] [] top)).ways)=x:=by
  rw[ht];simp[G3,I5,CF]
 refine EH (by simp only;omega) ?_;simp only[AL,hl,k10,hem,he];simp[I5]
theorem Whole.capd {x:TT} {V:List Wd} (h:Whole V x) (nm:List UInt8):PrimOK (.mk (Fh nm) [x]) (Ap 11::Dh nm::Ap 13::(V++[Ap 12])):=fun A Z up rest C hz=>by
 obtain⟨hW,hr⟩:=h;obtain⟨C1,hr'⟩:∃C1,Dn V 0 []=(.done V.length x,C1):=⟨_,by rw[<-hr]⟩;have hQ0:A++((Ap 11::Dh nm::Ap 13::(V++[Ap 12]))++Z)=A++(Ap 11::Dh nm::Ap 13::(V++(Ap 12::Z))):=by simp
 rw[hQ0];generalize hQ:A++(Ap 11::Dh nm::Ap 13::(V++(Ap 12::Z)))=Q;have hQ2:Q=(A++[Ap 11,Dh nm,Ap 13])++(V++(Ap 12::Z)):=by rw[<-hQ];simp
 have k11:kdW Q A.length=11:=by rw[<-hQ,DV];rfl
 have k1:kdW Q (A.length+1)=1:=by rw[<-hQ,DT];rfl
 have k13:kdW Q (A.length+2)=13:=by rw[<-hQ,DT];rfl
 have w1:(wdW Q (A.length+1)).text=nm:=by rw[<-hQ,FQ];rfl
 have hlen:Q.length=A.length+V.length+Z.length+4:=by rw[<-hQ];simp;omega
 have s1:AL Q ⟨A.length,up::rest,C⟩=.inl ⟨A.length+3,⟨12,nm,[],[],[]⟩::up::rest,C⟩:=by
  simp[AL,AU,k11,k1,k13,w1]
 have hst:DU (Ap 12::Z):=⟨by simp[kdW,Ap],by simp[kdW,Ap],by simp[kdW,Ap],by simp[kdW,Ap],by simp[kdW,Ap]⟩;obtain⟨top,hh,ht,hfit,hgo⟩:=NQ (A:=A++[Ap 11,Dh nm,Ap 13]) (V:=V) (Z:=Ap 12::Z) hst hW (F:=12) (nm:=nm) (P:=[]) (rest:=up::rest) C _ ⟨0,[DS],[]⟩ (Nat.zero_le _) (Pz (W:=V)) x C1 hr';rw[<-hQ2]at hgo;have hA1:(A++[Ap 11,Dh nm,Ap 13]).length=A.length+3:=by simp
 rw[hA1]at hgo;simp only[List.map_nil,List.append_nil,Nat.add_zero]at hgo;have k12:kdW Q (A.length+3+V.length)=12:=by rw[hQ2,<-hA1,DT,DV];rfl
 refine⟨C++C1.map (A.length+3 + ·),?_⟩;rw[EH (by simp only;omega) s1];have e0:(⟨12,nm,[],[],[]⟩:Op)::up::rest=Ie 12 nm [] (up::rest) [DS]:=rfl;rw[e0,hgo];have el:A.length+(Ap 11::Dh nm::Ap 13::(V++[Ap 12])).length=A.length+3+V.length+1:=by simp;omega
 rw[el];have hem:(I5 12 nm [] top).heads=[]:=hh;have hl:AU Q (A.length+3+V.length)=false:=by simp[AU,k12]
 have he:G3 (I5 12 nm [] top) (C4 CT (CF (I5 12 nm [] top)).ways)=.mk (Fh nm) [x]:=by
  rw[ht];simp[G3,I5,CF]
 refine EH (by simp only;omega) ?_;simp only[AL,hl,k12,hem,he];simp[I5]
theorem Ia (w:Wd) (hw:w.kind=1\/w.kind=15\/w.kind=16):PrimOK (.mk (B7 w) []) [w]:=fun A Z up rest C hz=>by
 generalize hQ:A++([w]++Z)=Q;have hQ1:Q=A++(w::Z):=by rw[<-hQ];rfl
 have kw:kdW Q A.length=w.kind:=by rw[hQ1,DV];rfl
 have kn:kdW Q (A.length+1)=kdW Z 0:=by
  have e:Q=(A++[w])++Z:=by rw[hQ1];simp
  have:=DV (V:=A++[w]) (Z:=Z);rw[<-e]at this;simpa using this
 have ww:wdW Q A.length=w:=by
  have:=FQ A (w::Z) 0;rw[<-hQ1]at this;simpa[wdW]using this
 have hl:AU Q A.length=true:=by
  unfold AU;rw[kw,kn];rcases hw with h|h|h <;> simp[h,hz]
 have hlen:A.length<=Q.length:=by rw[hQ1];simp
 refine⟨if kdW Q A.length=1 then C++[A.length]else C,EH hlen ?_⟩;simp only[AL,hl,if_true,ww];rfl
theorem TK {lo hi:Int} (Q:List Wd) (i:Nat) (h:wdW Q i=AZ lo hi) (hk:kdW Q i=(AZ lo hi).kind):CE Q i=some (lo,hi):=by
 unfold CE;rw[h,hk];unfold AZ;split
 ·rename_i e;simp[Ap,e.1,e.2]
 split
 ·rename_i e;simp[Ap,e.1,e.2]
 split
 ·rename_i e;simp[Ap,e.1,e.2]
 ·simp
theorem QU (lo hi:Int):(AZ lo hi).kind=6\/(AZ lo hi).kind=7\/(AZ lo hi).kind=8\/(AZ lo hi).kind=14:=by
 unfold AZ;split
 ·exact .inl rfl
 split
 ·exact .inr (.inl rfl)
 split
 ·exact .inr (.inr (.inl rfl))
 ·exact .inr (.inr (.inr rfl))
theorem PrimOK.rep {x:TT} {T:List Wd} (h:PrimOK x T) (lo hi:Int):UnitOK (.mk (FB lo hi) [x]) (T++[AZ lo hi]):=fun A Z up rest C hz=>by
 have e0:A++(T++[AZ lo hi]++Z)=A++(T++(AZ lo hi::Z)):=by simp
 rw[e0]
 obtain⟨C',h1⟩:=h A (AZ lo hi::Z) up rest C (by
  have:=QU lo hi;show(AZ lo hi).kind≠2;omega)
 refine⟨C',?_⟩;rw[h1];generalize hQ:A++(T++(AZ lo hi::Z))=Q;have e1:Q=(A++T)++(AZ lo hi::Z):=by rw[<-hQ];simp
 have e2:Q=(A++T++[AZ lo hi])++Z:=by rw[e1];simp
 have hl1:(A++T).length=A.length+T.length:=by simp
 have hl2:(A++T++[AZ lo hi]).length=A.length+T.length+1:=by simp;omega
 have ks:kdW Q (A.length+T.length)=(AZ lo hi).kind:=by rw[e1,<-hl1,DV];rfl
 have ws:wdW Q (A.length+T.length)=AZ lo hi:=by
  have:=FQ (A++T) (AZ lo hi::Z) 0;rw[<-e1,hl1]at this;simpa[wdW]using this
 have hs:=TK Q _ ws ks;have hn:CE Q (A.length+T.length+1)=none:=by rw[e2,<-hl2];exact L0 hz
 have el:A.length+(T++[AZ lo hi]).length=A.length+T.length+1:=by simp;omega
 rw[el];simp only[B8,Hr hs,Em hn]
theorem UnitOK.pre {x:TT} {T:List Wd} (h:UnitOK x T) {k:Nat} (hk:k=4\/k=5):UnitOK (.mk (CZ (if k=4 then 7 else 8)) [x]) (Ap k::T):=fun A Z up rest C hz=>by
 obtain⟨C',h1⟩:=h (A++[Ap k]) Z {up with heads:=up.heads++[if k=4 then 7 else 8]} rest C hz;have e0:A++[Ap k]++(T++Z)=A++(Ap k::T++Z):=by simp
 have e1:(A++[Ap k]).length=A.length+1:=by simp
 rw[e0,e1]at h1;refine⟨C',?_⟩;have kk:kdW (A++(Ap k::T++Z)) A.length=k:=by rw[DV];rfl
 have hl:AU (A++(Ap k::T++Z)) A.length=false:=by
  unfold AU;rw[kk];rcases hk with rfl|rfl <;> simp
 have s1:AL (A++(Ap k::T++Z)) ⟨A.length,up::rest,C⟩=.inl ⟨A.length+1,{up with heads:=up.heads++[if k=4 then 7 else 8]}::rest,C⟩:=by
  simp only[AL,hl,kk,if_pos hk];simp
 rw[EH (by simp) s1,h1];have e2:A.length+(Ap k::T).length=A.length+1+T.length:=by simp;omega
 have e3:Fi (up.heads++[if k=4 then 7 else 8]) x=Fi up.heads (.mk (CZ (if k=4 then 7 else 8)) [x]):=by simp[Fi]
 rw[e2];simp only[e3]
theorem Nj {f:TT->List Wd}:∀(l:List TT),(∀x∈l,UnitOK x (f x))->(∀x∈l,∀Z,DU (f x++Z))-> ∀(A Z:List Wd) (up:Op) (rest:List Op) (C:List Nat),up.heads=[]->DU Z ->
  ∃C',goP (A++(l.flatMap f++Z)) ⟨A.length,up::rest,C⟩=goP (A++(l.flatMap f++Z)) ⟨A.length+(l.flatMap f).length,{up with parts:=up.parts++l}::rest,C'⟩
 |[],_,_,A,Z,up,rest,C,hh,hz=>⟨C,by simp⟩
 |x::l,h,hs,A,Z,up,rest,C,hh,hz=>by
  have hz2:DU (l.flatMap f++Z):=by
   cases l with
   |nil=>simpa using hz
   |cons y l=>rw[List.flatMap_cons,List.append_assoc];exact hs y (by simp) _
  obtain⟨C1,h1⟩:=h x (by simp) A (l.flatMap f++Z) up rest C hz2;obtain⟨C2,h2⟩:=Nj l (fun y hy=>h y (List.mem_cons_of_mem _ hy)) (fun y hy=>hs y (List.mem_cons_of_mem _ hy)) (A++f x) Z {up with heads:=[],parts:=up.parts++[Fi up.heads x]} rest C1 rfl hz;have e0:A++((x::l).flatMap f++Z)=A++(f x++(l.flatMap f++Z)):=by simp
  have e1:A++f x++(l.flatMap f++Z)=A++(f x++(l.flatMap f++Z)):=by simp
  rw[e1,List.length_append]at h2;refine⟨C2,?_⟩;rw[e0,h1,h2];obtain⟨fin,name,ways,parts,heads⟩:=up;simp only at hh;subst hh;simp[Fi,Nat.add_assoc]
theorem P8 {f:TT->List Wd}:∀(l:List TT) (x:TT),(∀y∈x::l,WayOK y (f y))-> ∀(A Z:List Wd) (up:Op) (rest:List Op) (C:List Nat),up.heads=[]->up.parts=[]->DU Z ->
  ∃(C':List Nat) (top:Op),goP (A++(AY [Ap 3] ((x::l).map f)++Z)) ⟨A.length,up::rest,C⟩=goP (A++(AY [Ap 3] ((x::l).map f)++Z)) ⟨A.length+(AY [Ap 3] ((x::l).map f)).length,top::rest,C'⟩ /\
   top.heads=[]/\top.fin=up.fin/\(CF top).ways=up.ways++(x::l)
 |[],x,h,A,Z,up,rest,C,hh,hp,hz=>by
  obtain⟨C1,P,h1,h2⟩:=h x (by simp) A Z up rest C hp hh hz;have e:AY [Ap 3] ([x].map f)=f x:=by simp[AY]
  rw[e];exact⟨C1,_,h1,hh,rfl,by simp[CF,h2]⟩
 |y::l,x,h,A,Z,up,rest,C,hh,hp,hz=>by
  have e:AY [Ap 3] ((x::y::l).map f)=f x++(Ap 3::AY [Ap 3] ((y::l).map f)):=by simp[AY]
  obtain⟨C1,P,h1,h2⟩:=h x (by simp) A (Ap 3::AY [Ap 3] ((y::l).map f)++Z) up rest C hp hh (P1 (.inr rfl));obtain⟨C2,top,h3,h4,h5,h6⟩:=P8 l y (fun z hz=>h z (List.mem_cons_of_mem _ hz)) (A++f x++[Ap 3]) Z {up with ways:=up.ways++[x],parts:=[]} rest C1 hh rfl hz;have e1:A++(AY [Ap 3] ((x::y::l).map f)++Z)=A++(f x++(Ap 3::AY [Ap 3] ((y::l).map f)++Z)):=by rw[e];simp
  have e2:A++f x++[Ap 3]++(AY [Ap 3] ((y::l).map f)++Z)=A++(f x++(Ap 3::AY [Ap 3] ((y::l).map f)++Z)):=by simp
  have e3:(A++f x++[Ap 3]).length=A.length+(f x).length+1:=by simp[Nat.add_assoc]
  have e4:A.length+(AY [Ap 3] ((x::y::l).map f)).length=A.length+(f x).length+1+(AY [Ap 3] ((y::l).map f)).length:=by rw[e];simp;omega
  rw[e2,e3]at h3;refine⟨C2,top,?_,h4,h5,by rw[h6];simp⟩;rw[e1,e4,h1,<-h3];generalize hQ:A++(f x++(Ap 3::AY [Ap 3] ((y::l).map f)++Z))=Q;have hQ1:Q=(A++f x)++(Ap 3::(AY [Ap 3] ((y::l).map f)++Z)):=by rw[<-hQ];simp
  have k3:kdW Q (A.length+(f x).length)=3:=by rw[hQ1,<-List.length_append,DV];rfl
  have hl:AU Q (A.length+(f x).length)=false:=by simp[AU,k3]
  have hlen:A.length+(f x).length<=Q.length:=by rw[hQ1,List.length_append,List.length_append];omega
  refine EH hlen ?_;simp only[AL,hl,k3,hh];simp[CF,h2,hh]
theorem QV {x:TT}:BL x-> ∃y r,Cf x=y::r/\(y.kind=1\/y.kind=15\/y.kind=16\/y.kind=9\/y.kind=11\/y.kind=4\/y.kind=5):=by
 induction x using TT.ind with
 |h n ks ih=>
  intro hf;obtain⟨⟨hk,hfit⟩,hkf⟩:=BG.1 hf;rw[DB]
  have hwrap:∀t∈ks,∃y r,CN (AC n.kind t.kd) (Cf t)=y::r/\(y.kind=1\/y.kind=15\/y.kind=16\/y.kind=9\/y.kind=11\/y.kind=4\/y.kind=5):=fun t ht=>by
   unfold CN;split
   ·exact⟨_,_,rfl,by simp[Ap]⟩
   ·exact ih t ht (hkf t ht)
  have hfirst:1<=ks.length->Bg n=[]-> ∃y r,Bg n++AY (BZ n) (ks.map fun t=>CN (AC n.kind t.kd) (Cf t))++B1 n=y::r/\(y.kind=1\/y.kind=15\/y.kind=16\/y.kind=9\/y.kind=11\/y.kind=4\/y.kind=5):=fun hl ha=>by
   cases ks with
   |nil=>simp at hl
   |cons t ts=>
    obtain⟨y,r,h1,h2⟩:=hwrap t (by simp);refine⟨y,r++(ts.map fun t=>CN (AC n.kind t.kd) (Cf t)).flatMap (BZ n ++ ·)++B1 n,?_,h2⟩;rw[ha];simp only[List.map_cons,AY,h1,List.nil_append,List.cons_append]
  rcases Ej hfit with⟨h0,_⟩|⟨h0,_⟩|⟨h0,_⟩|⟨h0,_⟩|⟨h0,hl⟩|⟨h0,hl⟩|⟨h0,hl,_⟩|⟨h0,hl⟩|⟨h0,hl⟩|⟨h0,hl,_⟩
  ·exact⟨Gd n.text.data.toList,_,by simp[Bg,h0];rfl,by simp[Gd]⟩
  ·exact⟨Fs n,_,by simp[Bg,h0];rfl,by simp[Fs]⟩
  ·exact⟨Gd n.text.data.toList,_,by simp[Bg,h0];rfl,by simp[Gd]⟩
  ·exact⟨Dh n.text.data.toList,_,by simp[Bg,h0];rfl,by simp[Dh]⟩
  ·exact hfirst (by omega) (by simp[Bg,h0])
  ·exact hfirst (by omega) (by simp[Bg,h0])
  ·exact hfirst (by omega) (by simp[Bg,h0])
  ·exact⟨Ap 4,_,by simp[Bg,h0];rfl,by simp[Ap]⟩
  ·exact⟨Ap 5,_,by simp[Bg,h0];rfl,by simp[Ap]⟩
  ·exact⟨Ap 11,_,by simp[Bg,h0];rfl,by simp[Ap]⟩
theorem Ku {y:Wd} {r:List Wd} (h:y.kind=1\/y.kind=15\/y.kind=16\/y.kind=9\/y.kind=11\/y.kind=4\/y.kind=5):DU (y::r):=by
 have e:kdW (y::r) 0=y.kind:=rfl;unfold DU;rw[e];omega
theorem QW {x:TT} (h:BL x) (w:Bool) (Z:List Wd):DU (CN w (Cf x)++Z):=by
 cases w with
 |true=>exact Ku (by simp[Ap])
 |false=>
  obtain⟨y,r,h1,h2⟩:=QV h;show DU (Cf x++Z);rw[h1];exact Ku h2
theorem TL (l:List (List Wd)):AY [] l=l.flatMap id:=by
 cases l with
 |nil=>rfl
 |cons x l=>simp[AY]
theorem Xd {n:Nd} {k:Nat} (hk:n.kids=[]) (h:Am n k=true):
  (n.kind=0->n=Bi)/\(n.kind=1->n=⟨1,n.s0,n.s1,n.s2,n.s3,⟨#[]⟩,0,0,[]⟩)/\(n.kind=2->n=Ij n.text.data.toList)/\(n.kind=3->n=Ii n.text.data.toList)/\(n.kind=4->n=F9)/\(n.kind=5->n=CT) /\
  (n.kind=6->n=FB n.mn n.mx)/\(n.kind=7->n=CZ 7)/\(n.kind=8->n=CZ 8)/\(n.kind=9->n=Fh n.text.data.toList):=by
 obtain⟨kind,s0,s1,s2,s3,text,mn,mx,kids⟩:=n;simp only at hk;subst hk;have ht:(⟨text.data.toList.toArray⟩:ByteArray)=text:=by simp
 refine⟨?_,?_,?_,?_,?_,?_,?_,?_,?_,?_⟩ <;> intro h0 <;> simp only at h0 <;> subst h0 <;> simp[Am,BQ,Ay,Ah]at h
 ·obtain⟨⟨⟨⟨rfl,rfl,rfl,rfl⟩,h1⟩,rfl,rfl⟩,_⟩:=h;rw[h1];rfl
 ·obtain⟨⟨h1,rfl,rfl⟩,_⟩:=h;rw[h1];rfl
 ·obtain⟨⟨⟨⟨rfl,rfl,rfl,rfl⟩,rfl,rfl⟩,_⟩,_⟩:=h;simp only[Ij,ht]
 ·obtain⟨⟨⟨⟨rfl,rfl,rfl,rfl⟩,rfl,rfl⟩,_⟩,_⟩:=h;simp only[Ii,ht]
 ·obtain⟨⟨⟨⟨rfl,rfl,rfl,rfl⟩,h1⟩,rfl,rfl⟩,_⟩:=h;rw[h1];rfl
 ·obtain⟨⟨⟨⟨rfl,rfl,rfl,rfl⟩,h1⟩,rfl,rfl⟩,_⟩:=h;rw[h1];rfl
 ·obtain⟨⟨⟨⟨rfl,rfl,rfl,rfl⟩,h1⟩,_⟩,_⟩:=h;rw[h1];rfl
 ·obtain⟨⟨⟨⟨rfl,rfl,rfl,rfl⟩,h1⟩,rfl,rfl⟩,_⟩:=h;rw[h1];rfl
 ·obtain⟨⟨⟨⟨rfl,rfl,rfl,rfl⟩,h1⟩,rfl,rfl⟩,_⟩:=h;rw[h1];rfl
 ·obtain⟨⟨⟨⟨rfl,rfl,rfl,rfl⟩,rfl,rfl⟩,_⟩,_⟩:=h;simp only[Fh,ht]
structure ReadsT (x:TT):Prop where
 prim:¬(x.kd=4\/x.kd=5\/x.kd=6\/x.kd=7\/x.kd=8)->PrimOK x (Cf x)
 unit:¬(x.kd=4\/x.kd=5)->UnitOK x (Cf x)
 way:¬x.kd=5->WayOK x (Cf x)
 whole:Whole (Cf x) x
theorem ReadsT.ofPrim {x:TT} (h:PrimOK x (Cf x)) (hm:∀y∈Cf x,Cw y):ReadsT x:=⟨fun _=>h,fun _=>h.unit,fun _=>h.unit.way,h.unit.way.whole hm⟩
theorem ReadsT.ofUnit {x:TT} (h:UnitOK x (Cf x)) (hk:x.kd=6\/x.kd=7\/x.kd=8) (hm:∀y∈Cf x,Cw y):ReadsT x:=⟨fun h0=>absurd h0 (by omega),fun _=>h,fun _=>h.way,h.way.whole hm⟩
theorem ReadsT.wrapped {x:TT} (h:ReadsT x) {w:Bool} (hw:(x.kd=4\/x.kd=5\/x.kd=6\/x.kd=7\/x.kd=8)->w=true):PrimOK x (CN w (Cf x)):=by
 cases w with
 |true=>exact h.whole.prim
 |false=>exact h.prim fun h0=>absurd (hw h0) (by decide)
theorem ReadsT.wrappedU {x:TT} (h:ReadsT x) {w:Bool} (hw:(x.kd=4\/x.kd=5)->w=true):UnitOK x (CN w (Cf x)):=by
 cases w with
 |true=>exact h.whole.prim.unit
 |false=>exact h.unit fun h0=>absurd (hw h0) (by decide)
theorem ReadsT.wrappedW {x:TT} (h:ReadsT x) {w:Bool} (hw:x.kd=5->w=true):WayOK x (CN w (Cf x)):=by
 cases w with
 |true=>exact h.whole.prim.unit.way
 |false=>exact h.way fun h0=>absurd (hw h0) (by decide)
theorem QX {x:TT}:BL x->Jr x->ReadsT x:=by
 induction x using TT.ind with
 |h n ks ih=>
  intro hf hsm;obtain⟨⟨hk,hfit⟩,hkf⟩:=BG.1 hf;obtain⟨hn,hks⟩:=L3.1 hsm
  have hm:∀y∈Cf (.mk n ks),Cw y:=by
   have h1:=LO hf hsm [] [] .nil (fun c hc=>by simp at hc);have h2:=TJ h1;simpa using h2
  have hR:∀t∈ks,ReadsT t:=fun t ht=>ih t ht (hkf t ht) (hks t ht)
  have hkd:(TT.mk n ks).kd=n.kind:=rfl;obtain⟨g0,g1,g2,g3,g4,g5,g6,g7,g8,g9⟩:=Xd hk hfit;rcases Ej hfit with⟨h0,ht,hl⟩|⟨h0,hl⟩|⟨h0,hl,ht⟩|⟨h0,hl,ht⟩|⟨h0,hl⟩|⟨h0,hl⟩|⟨h0,hl,hc⟩|⟨h0,hl⟩|⟨h0,hl⟩|⟨h0,hl,ht⟩
  ·obtain rfl:=List.length_eq_zero_iff.1 hl;have e:Cf (.mk n [])=[Gd []]:=by rw[DB];simp[Bg,B1,AY,h0,M9 ht]
   have e2:B7 (Gd [])=n:=by rw[g0 h0];rfl
   refine ReadsT.ofPrim ?_ hm;rw[e];have:=Ia (Gd []) (by simp[Gd]);rwa [e2]at this
  ·obtain rfl:=List.length_eq_zero_iff.1 hl;have e:Cf (.mk n [])=[Fs n]:=by rw[DB];simp[Bg,B1,AY,h0]
   have e2:B7 (Fs n)=n:=by
    rw[g1 h0];have f1:B7 (Fs n)=Mf (Fs n):=by unfold B7 Fs;simp
    simp only[B7,Fs,Mf];obtain⟨⟨a0,_⟩,⟨a1,_⟩,⟨a2,_⟩,⟨a3,_⟩⟩:=hn;simp[Int.toNat_of_nonneg a0,Int.toNat_of_nonneg a1,Int.toNat_of_nonneg a2,Int.toNat_of_nonneg a3]
   refine ReadsT.ofPrim ?_ hm;rw[e];have:=Ia (Fs n) (by simp[Fs]);rwa [e2]at this
  ·obtain rfl:=List.length_eq_zero_iff.1 hl
   have hne:n.text.data.toList≠[]:=fun h=>by
    have h2:n.text.data.toList.length=n.text.size:=Array.length_toList;rw[h]at h2;simp at h2;omega
   have e:Cf (.mk n [])=[Gd n.text.data.toList]:=by rw[DB];simp[Bg,B1,AY,h0]
   have e2:B7 (Gd n.text.data.toList)=n:=by
    conv=>rhs;rw[g2 h0]
    simp only[B7,Gd];simp[hne]
   refine ReadsT.ofPrim ?_ hm;rw[e];have:=Ia (Gd n.text.data.toList) (by simp[Gd]);rwa [e2]at this
  ·obtain rfl:=List.length_eq_zero_iff.1 hl;have e:Cf (.mk n [])=[Dh n.text.data.toList]:=by rw[DB];simp[Bg,B1,AY,h0]
   have e2:B7 (Dh n.text.data.toList)=n:=by
    conv=>rhs;rw[g3 h0]
    rfl
   refine ReadsT.ofPrim ?_ hm;rw[e];have:=Ia (Dh n.text.data.toList) (by simp[Dh]);rwa [e2]at this
  ·have e:Cf (.mk n ks)=ks.flatMap fun t=>CN (AC n.kind t.kd) (Cf t):=by
    rw[DB];have e6:BZ n=[]:=by simp[BZ,h0]
    rw[e6,TL];simp[Bg,B1,h0,List.flatMap_map]
   have hw:WayOK (.mk n ks) (Cf (.mk n ks)):=fun A Z up rest C hp hh hz=>by
    rw[e];obtain⟨C',h1⟩:=Nj (f:=fun t=>CN (AC n.kind t.kd) (Cf t)) ks (fun t ht=>(hR t ht).wrappedU fun h5=>by rw[h0];simp[AC,h5]) (fun t ht Z=>QW (hkf t ht) _ Z) A Z up rest C hh hz;refine⟨C',ks,?_,?_⟩
    ·rw[h1,hp,List.nil_append]
    ·rw[g4 h0];match ks,hl with
     |[],h=>simp at h
     |[_],h=>simp at h
     |a::b::l,_=>rfl
   exact⟨fun h=>absurd (.inl h0) h,fun h=>absurd (.inl h0) h,fun _=>hw,hw.whole hm⟩
  ·have e:Cf (.mk n ks)=AY [Ap 3] (ks.map fun t=>CN (AC n.kind t.kd) (Cf t)):=by
    rw[DB];have e6:BZ n=[Ap 3]:=by simp[BZ,h0]
    rw[e6];simp[Bg,B1,h0]
   refine⟨fun h=>absurd (.inr (.inl h0)) h,fun h=>absurd (.inr h0) h,fun h=>absurd h0 h,hm,?_⟩;cases ks with
   |nil=>simp at hl
   |cons x l=>
    obtain⟨C',top,h1,h2,h3,h4⟩:=P8 (f:=fun t=>CN (AC n.kind t.kd) (Cf t)) l x (fun t ht=>(hR t ht).wrappedW fun h5=>by rw[h0];simp[AC,h5]) [] [] DS [] [] rfl rfl Ng;rw[<-e]at h1;simp only[List.nil_append,List.append_nil,List.length_nil,Nat.zero_add]at h1;rw[Nh,h1,RZ h3 h2,h4];have hb:DS.ways++(x::l)=x::l:=rfl;rw[hb,g5 h0];cases l with
    |nil=>simp at hl
    |cons y l=>rfl
  ·obtain⟨t,rfl⟩:=List.length_eq_one_iff.1 hl;have e:Cf (.mk n [t])=CN (AC n.kind t.kd) (Cf t)++[AZ n.mn n.mx]:=by rw[DB];simp[Bg,B1,BZ,AY,h0]
   have h1:=((hR t (by simp)).wrapped (w:=AC n.kind t.kd) fun h5=>by rw[h0];simp[AC,h5]).rep n.mn n.mx;refine ReadsT.ofUnit ?_ (by rw[hkd];omega) hm;rw[e];rw[<-g6 h0]at h1;exact h1
  ·obtain⟨t,rfl⟩:=List.length_eq_one_iff.1 hl;have e:Cf (.mk n [t])=Ap 4::CN (AC n.kind t.kd) (Cf t):=by rw[DB];simp[Bg,B1,BZ,AY,h0]
   have h1:=((hR t (by simp)).wrappedU (w:=AC n.kind t.kd) fun h5=>by rw[h0];simp[AC,h5]).pre (k:=4) (.inl rfl);refine ReadsT.ofUnit ?_ (by rw[hkd];omega) hm;rw[e];simp only[if_true]at h1;rw[<-g7 h0]at h1;exact h1
  ·obtain⟨t,rfl⟩:=List.length_eq_one_iff.1 hl;have e:Cf (.mk n [t])=Ap 5::CN (AC n.kind t.kd) (Cf t):=by rw[DB];simp[Bg,B1,BZ,AY,h0]
   have h1:=((hR t (by simp)).wrappedU (w:=AC n.kind t.kd) fun h5=>by rw[h0];simp[AC,h5]).pre (k:=5) (.inr rfl);refine ReadsT.ofUnit ?_ (by rw[hkd];omega) hm;rw[e];simp only[Nat.reduceEqDiff,if_false]at h1;rw[<-g8 h0]at h1;exact h1
  ·obtain⟨t,rfl⟩:=List.length_eq_one_iff.1 hl;have hw:AC n.kind t.kd=false:=by rw[h0];rfl
   have hw9:AC 9 t.kd=false:=rfl;have e:Cf (.mk n [t])=Ap 11::Dh n.text.data.toList::Ap 13::(Cf t++[Ap 12]):=by rw[DB];simp[Bg,B1,BZ,AY,h0,hw9,CN]
   have h1:=(hR t (by simp)).whole.capd n.text.data.toList;refine ReadsT.ofPrim ?_ hm;rw[e];rw[<-g9 h0]at h1;exact h1
theorem TM {t:Tr} (h:AA t=true) (hw:∀n∈t.nodes,(0<=n.s0/\n.s0<18446744073709551616)/\(0<=n.s1/\n.s1<18446744073709551616)/\(0<=n.s2/\n.s2<18446744073709551616)/\(0<=n.s3/\n.s3<18446744073709551616)):Jr (JL t):=by
 have hA:=AE ((AM _).1 h);have hr:=((AM _).1 h).1
 have key:∀i,i<t.nodes.length->Jr (den t.nodes i):=fun i=>by
  induction i using Nat.strongRecOn with
  |_ i ih=>
   intro hi;rw[ER hA];refine L3.2 ⟨?_,fun x hx=> ?_⟩
   ·have e:An t.nodes i=t.nodes[i]:=by simp[An,hi]
    have:=hw _ (List.getElem_mem hi);rw[<-e]at this;exact this
   ·obtain⟨k,hk,rfl⟩:=List.mem_map.1 hx;have:=hA i k hk;exact ih k this (by omega)
 exact key _ (by omega)
theorem QY {t:Tr} (h:AA t=true) (hs:Jr (JL t)) (hl:(BX t).length<=65536):Ef (BX t)=if JF (DC (Bo (JL t)))then(DC (Bo (JL t)),0,0)else(⟨[],0⟩,(BX t).length,40):=by
 have hf:=OX h
 have e:BX t=F6 (JL t):=by
  unfold BX;rw[if_pos h];exact VI (AE ((AM _).1 h)) _
 have h1:=LO hf hs [] [] .nil (fun c hc=>by simp at hc);rw[List.append_nil,List.append_nil]at h1;rw[e]at hl ⊢;exact QM (P6 hl h1) (QX hf hs).whole
end Go.Proofs.YtdnochjajoiooaaGreatDoor
