/- The contract of the reader's primary. -/
import Derived.Test.YtdnochjajoiooaaGreatDoorJr
namespace Go.Proofs.YtdnochjajoiooaaGreatDoor
open Go.RowKit
set_option linter.unusedSimpArgs false
set_option linter.unusedVariables false
abbrev A8 (ls:List Ln):List Nd:=ls.map Ln.nd
def GP (D:Ow->Prop) (B H:Nat) (R:Rd) (os0:List Ol) (top:Ol) (t:TT) (P:List Int) (w:World) (e:Ending) (w':World):Prop:=
 ∃nA nc ls f' top' z,e=.returned (.tuple #[])/\RdM D w' B f' H {R with i:=(B4 R.W (R.W.length-R.i) R.i t).2,nA:=nA,nc:=nc,ls:=ls,os:=os0++[top']}/\top'.ob={top.ob with heads:=[],parts:=top.parts++[z]}/\(∃m,A8 ls=A8 R.ls++m) /\
  RepZ (A8 ls) z (Fi top.heads (B4 R.W (R.W.length-R.i) R.i t).1)/\Fine (A8 ls) (z::P)/\ls.length=R.ls.length+((B4 R.W (R.W.length-R.i) R.i t).2-R.i)+top.heads.length/\Below B w w'
structure SufAt (R:Rd) (t:TT) (P:List Int) (ls:List Ln) (j:Nat) (z:Int) (t':TT):Prop where
 lo:R.i<=j
 hi:j<=R.W.length
 go:B4 R.W (R.W.length-j) j t'=B4 R.W (R.W.length-R.i) R.i t
 pre:∃m,A8 ls=A8 R.ls++m
 rep:RepZ (A8 ls) z t'
 fine:Fine (A8 ls) (z::P)
 len:ls.length=R.ls.length+(j-R.i)
def Rx (D:Ow->Prop) (B H:Nat) (R:Rd) (t:TT) (P:List Int) (w:World) (v1 v4 v5:Value) (wr:World):Prop:=
 ∃nA nc ls f j z t',v1=.int .i64 z/\Hid (SufAt R t P ls j z t')/\Hid (Below B w wr) /\
  ((v5=.bool false/\Hid (CE R.W j=none)/\Hid (RdM D wr B f H {R with i:=j,nA:=nA,nc:=nc,ls:=ls})) \/
   (v5=.bool true/\ ∃lo hi b1 b2 b3,v4=.func (.func 81) #[] #[.pointer (some ⟨b1,0,none⟩),.pointer (some ⟨b2,0,none⟩),.pointer (some ⟨b3,0,none⟩)]/\Hid (CE R.W j=some (lo,hi))/\Hid (PutB wr H b1 b2 b3 lo hi)/\Hid (RdM D wr B f H {R with i:=j+1,nA:=nA,nc:=nc,ls:=ls})))
theorem SufAt.next {R:Rd} {t:TT} {P:List Int} {ls:List Ln} {j:Nat} {z:Int} {t':TT} {lo hi:Int} {x:Ln} (h:SufAt R t P ls j z t') (hW:∀x∈R.W,Cw x) (hs:CE R.W j=some (lo,hi)) (hx:x.nd={FB lo hi with kids:=[z]}):SufAt R t P (ls++[x]) (j+1) (ls.length:Int) (.mk (FB lo hi) [t']):=by
 have hl:=JG hs;have e:A8 (ls++[x])=EI (A8 ls) (FB lo hi) [z]:=by simp[A8,EI,hx]
 refine⟨by have:=h.lo;omega,hl,?_,?_,?_,?_,?_⟩
 ·rw[<-Hr hs];exact h.go
 ·obtain⟨m,hm⟩:=h.pre;exact⟨m++[x.nd],by simp only[A8,List.map_append,List.map_cons,List.map_nil]at hm ⊢;rw[hm,List.append_assoc]⟩
 ·rw[e];have:=FP (l:=A8 ls) (n:=FB lo hi) rfl h.rep.one;simpa[A8]using this
 ·rw[e];have:=Fine.add (ks:=[z]) (P:=P) h.fine (n:=FB lo hi) (Rw hW hs);simpa[A8]using this
 ·have:=h.len;have:=h.lo;simp;omega
theorem Gn {W w':World} {row:Option Nat} {g:Nat} (hg:W.grownBy w' row) (hne:¬some g=row) (hlt:g<W.heap.size) (i:Nat):w'.cell? ⟨g,i,none⟩=W.cell? ⟨g,i,none⟩/\w'.frozen? ⟨g,i,none⟩=W.frozen? ⟨g,i,none⟩:=by
 have h:=hg.block g hlt hne;unfold World.cell? World.frozen?;simp only[h,and_self]
structure HeadAt (R:Rd) (P:List Int) (heads:List Nat) (t':TT) (ls ls2:List Ln) (q:Nat) (z2:Int):Prop where
 pre:∃m,A8 ls2=A8 R.ls++m
 rep:RepZ (A8 ls2) z2 (Fi (heads.drop q) t')
 fine:Fine (A8 ls2) (z2::P)
 len:ls2.length=ls.length+(heads.length-q)
def W9 (D:Ow->Prop) (B H:Nat) (R:Rd) (P:List Int) (w:World) (heads:List Nat) (t':TT) (j:Nat) (ls:List Ln) (v1 v7:Value) (wr:World):Prop:=
 ∃nA nc ls2 f2 q z2,q<=heads.length/\v1=.int .i64 z2/\v7=.int .i64 ((q:Int)-1)/\Hid (HeadAt R P heads t' ls ls2 q z2)/\Hid (Below B w wr)/\Hid (RdM D wr B f2 H {R with i:=j,nA:=nA,nc:=nc,ls:=ls2})
theorem HeadAt.next {R:Rd} {P:List Int} {heads:List Nat} {t':TT} {ls ls2:List Ln} {q:Nat} {z2:Int} {x:Ln} (h:HeadAt R P heads t' ls ls2 (q+1) z2) (hq:q<heads.length) (hk:heads[q]=7\/heads[q]=8) (hx:x.nd={CZ heads[q]with kids:=[z2]}):HeadAt R P heads t' ls (ls2++[x]) q (ls2.length:Int):=by
 have e:A8 (ls2++[x])=EI (A8 ls2) (CZ heads[q]) [z2]:=by simp[A8,EI,hx]
 refine⟨?_,?_,?_,?_⟩
 ·obtain⟨m,hm⟩:=h.pre;exact⟨m++[x.nd],by simp only[A8,List.map_append,List.map_cons,List.map_nil]at hm ⊢;rw[hm,List.append_assoc]⟩
 ·have e2:Fi (heads.drop q) t'=.mk (CZ heads[q]) [Fi (heads.drop (q+1)) t']:=by rw[List.drop_eq_getElem_cons hq];rfl
  have:=FP (l:=A8 ls2) (n:=CZ heads[q]) rfl h.rep.one;rw[e,e2];rwa [show(A8 ls2).length=ls2.length by simp[A8]]at this
 ·rw[e];have:=Fine.add (ks:=[z2]) (P:=P) h.fine (n:=CZ heads[q]) (by show Am (CZ heads[q]) 1=true;rcases hk with hk|hk <;> rw[hk] <;> decide);simpa[A8]using this
 ·have:=h.len;simp;omega
def X2 (H:Nat) (w:World):Nat:=match w.cell? ⟨H,2,none⟩with
 |some (.int _ k)=>k.toNat
 |_=>0
theorem ND {D:Ow->Prop} {w:World} {B:Nat} {f:Nat->Ow} {H:Nat} {R:Rd} (h:RdM D w B f H R) (hD:¬D .box):X2 H w=R.i:=by
 obtain⟨_,_,c2,_⟩:=EC (h.box hD);unfold X2;rw[c2];simp
def okN:Value->Nat
 |.bool true=>1
 |_=>0
set_option maxRecDepth 100000 in
set_option maxHeartbeats 12800000 in
theorem GQ (D:Ow->Prop) (w:World) (B:Nat) (f:Nat->Ow) (H:Nat) (R:Rd) (os0:List Ol) (top:Ol) (z:Int) (t:TT) (P:List Int) (h:RdM D w B f H R) (hD:∀o,D o->False) (hos:R.os=os0++[top]) (hr:RepZ (A8 R.ls) z t) (hf:Fine (A8 R.ls) (z::P)) (hW:∀x∈R.W,Cw x)
  (hhd:∀k∈top.heads,k=7\/k=8) (hi:R.i<=R.W.length) (hwl:R.W.length<=65536) (hl:R.ls.length+top.heads.length<=1000000) (hpl:top.parts.length<=1000000) (hol:os0.length<=1000000) (hB:B<=w.heap.size):
  Calls Tryz.prog 42 #[.pointer (some ⟨H,0,none⟩),.int .i64 z] w (GP D B H R os0 top t P w):=by
 have HR:=qd h;have HW:=qd hW;have HHD:=qd hhd;have HDN:=qd hD;have HS0:=qd (show SufAt R t P R.ls R.i z t from⟨Nat.le_refl _,hi,rfl,⟨[],by simp⟩,hr,hf,by omega⟩);have HSF:=qd (I2 D w B f H R h ⟨fun h=>hD _ h,fun h=>hD _ h⟩ (by omega) hB);have HOS:=qd hos;clear h hW hhd hr hf hD hos;obtain⟨i0,hi0,hz0,hz1,hz2⟩:=info_parts DA;have hzi:(Value.int .i64 0).cells.size=1:=rfl;go_enter Tryz.func42,Tryz.ntmps42
 go_upto_region 0 with(fail)
 go_cut [4,5] (fun v4 v5 wx=>Rx D B H R t P w (.int .i64 z) v4 v5 wx)
 case first=>
  unfold IX at HSF;cases hs0:CE R.W R.i with
  |none=>
   go_wp2_with (first
    |(go_at_call 66;(with_reducible refine HSF.out.mono ?_);rintro e w1 ⟨h1,_⟩;obtain⟨rfl,hb⟩:=h1 hs0;have HB1:=qd hb;clear h1 hb)
    |fail)
   all_goals go_meet
   exact⟨R.nA,R.nc,R.ls,f,R.i,z,t,rfl,HS0,qd (HB1.out.mono hB),.inl ⟨rfl,qd hs0,qd (HR.out.below HB1.out)⟩⟩
  |some p=>
   obtain⟨lo,hi'⟩:=p
   go_wp2_with (first
    |(go_at_call 66;(with_reducible refine HSF.out.mono ?_);rintro e w1 ⟨_,h1⟩;obtain⟨b1,b2,b3,rfl,h2,h3,_,h4⟩:=h1 lo hi' hs0;have HP1:=qd h2;have HR1:=qd h3;have HB1:=qd h4;clear h1 h2 h3 h4)
    |fail)
   all_goals go_meet
   exact⟨R.nA,R.nc,R.ls,f,R.i,z,t,rfl,HS0,HB1,.inr ⟨rfl,lo,hi',b1,b2,b3,rfl,qd hs0,HP1,HR1⟩⟩
 case rest=>
  have hcut':=qd hcut;clear hcut HSF HS0 HR;go_wp2_with fail
  go_loopw [1,4,5] (fun v1 v4 v5 wr=>Rx D B H R t P w v1 v4 v5 wr) (fun _ _ v5 wr=>2*(R.W.length-X2 H wr)+okN v5)
  case atStart=>exact hcut'.out
  case round=>
   clear hcut';obtain⟨nA,nc,ls,f',j,z',t',rfl,HSA,HB,hrest⟩:=hrel;have hB':B<=wr.heap.size:=by have:=HB.out.size;omega
   have hj1:=HSA.out.lo;have hj2:=HSA.out.hi;have hll:ls.length<=1100000:=by have:=HSA.out.len;omega
   rcases hrest with⟨rfl,HSN,HRW⟩|⟨rfl,lo,hi',b1,b2,b3,rfl,HSM,HPB,HRW⟩
   ·have hq0:=HOS.out
    have HO:=qd (show ∀D' w' f' R',RdM D' w' B f' H R'->R'.os=R.os-> ¬D' .list-> ∃g,R'.lA=some ⟨g,0,none⟩/\g<w'.heap.size/\(w'.cell? ⟨g,os0.length*5,none⟩=some (.int .u8 (top.fin:Int))/\w'.cell? ⟨g,os0.length*5+1,none⟩=some (.string ⟨top.name.toArray⟩)/\w'.cell? ⟨g,os0.length*5+2,none⟩=some (.slice top.wA top.ways.length top.wc)/\w'.cell? ⟨g,os0.length*5+3,none⟩=some (.slice top.pA top.parts.length top.pc)/\w'.cell? ⟨g,os0.length*5+4,none⟩=some (.slice top.hA top.heads.length top.hc))/\ ∀i,w'.frozen? ⟨g,i,none⟩=false from fun D' w' f' R' h he hd=>by
     have hl:os0.length<R'.os.length:=by rw[he,hq0];simp
     obtain⟨g,h1,h2,h3,h4⟩:=h.openAt hd hl;have e:R'.os[os0.length]=top:=by simp[he,hq0]
     rw[e]at h3;exact⟨g,h1,h2,h3,h4⟩)
    obtain⟨g,hlA,hg,⟨o0,o1,o2,o3,o4⟩,of⟩:=HO.out _ wr f' _ HRW.out rfl (fun h=>HDN.out _ h);obtain⟨c0,c1,c2,c3,c4,c5,c6,c7,cf⟩:=EC (HRW.out.box (fun h=>HDN.out _ h));simp only at hlA c4;rw[hlA,hq0]at c4;simp only[List.length_append,List.length_cons,List.length_nil,Nat.zero_add]at c4;have e1:IntKind.i64.wrap ((os0.length:Int)+1-1)=(os0.length:Int):=by rw[IntWalk.i64_in _ (by omega)];omega
    have e2:IntKind.i64.wrap ((top.heads.length:Int)-1)=(top.heads.length:Int)-1:=IntWalk.i64_in _ (by omega);have i1:(0:Int)<=(os0.length:Int):=by omega
    have i2:(os0.length:Int)<(os0.length:Int)+1:=by omega
    have HLA:=qd hlA;clear c0 c1 c2 c3 c5 c6 c7 cf hlA hq0;go_upto_region 4 with(fail)
    go_quiet (fail)
    go_upto_region 6 with(fail)
    have HRW5:=qd (HRW.out.below (Below.drewN'' (Below.refl _ wr) nq));have HB5:=qd (Below.drewN'' HB.out nq);have HH0:=qd (show HeadAt R P top.heads t' ls ls top.heads.length z' from⟨HSA.out.pre,by rw[List.drop_length];exact HSA.out.rep,HSA.out.fine,by omega⟩);generalize (wr.drewN nq)=W5 at *
    have HHC:=qd (show ∀wx f2 R',RdM D wx B f2 H R'->R'.os=R.os-> ∀q (hq:q<top.heads.length),∃gh,top.hA=some ⟨gh,0,none⟩/\wx.cell? ⟨gh,q,none⟩=some (.int .u8 (top.heads[q]:Int))from fun wx f2 R' h he q hq=>by
     have hq0:=HOS.out;have hl:os0.length<R'.os.length:=by rw[he,hq0];simp
     have h1:=h (.heads os0.length) (fun h=>HDN.out _ h) hl;have e:R'.os[os0.length]=top:=by simp[he,hq0]
     rw[e]at h1;obtain⟨gh,hgh,_,_⟩:=BS h1.1 (by omega);have h2:=h1.1;rw[hgh]at h2;exact⟨gh,hgh,AX h2 q hq (by simp[hq])⟩)
    clear o0 o1 o2 o3 o4 of c4 e1;go_loopw [1,7] (fun v1 v7 wx=>W9 D B H R P w top.heads t' j ls v1 v7 wx) (fun _ v7 _=>(intOf v7+1).toNat)
    case atStart=>exact⟨nA,nc,ls,f',top.heads.length,z',Nat.le_refl _,rfl,rfl,HH0,HB5,HRW5⟩
    case round=>
     rename World=>wx
     obtain⟨nA2,nc2,ls2,f2,q,z2,hq,rfl,rfl,HHA,HBX,HRX⟩:=hrel;have hB2:B<=wx.heap.size:=by have:=HBX.out.size;omega
     obtain⟨g2,hlA2,hg2,⟨o0,o1,o2,o3,o4⟩,of⟩:=HO.out _ wx f2 _ HRX.out rfl (fun h=>HDN.out _ h)
     have hgg:g2=g:=by
      have h1:=HLA.out;simp only at hlA2 h1;rw[h1]at hlA2;simpa using hlA2.symm
     subst hgg;clear hlA2;cases q with
     |zero=>
      have HC9:=qd (show olL.cells {top with heads:=[],hA:=none,hc:=0}=(olL.cells top).set 4 (.slice none 0 0)from rfl);have hq0:=HOS.out;have hjl:os0.length<R.os.length:=by rw[hq0];simp
      have HST:=qd (show RdM D (wx.setCell ⟨g2,os0.length*5+4,none⟩ (.slice none 0 0)) B f2 H {R with i:=j,nA:=nA2,nc:=nc2,ls:=ls2,os:=os0++[{top with heads:=[],hA:=none,hc:=0}]}/\Below B wx (wx.setCell ⟨g2,os0.length*5+4,none⟩ (.slice none 0 0))from by
       have h1:=RdM.setOpen (o':={top with heads:=[],hA:=none,hc:=0}) HRX.out (fun h=>HDN.out _ h) (j:=os0.length) hjl (c:=4) (by decide) HLA.out (by simp only[hq0];rw[List.getElem_append_right (Nat.le_refl _)];simpa using HC9.out)
        (fun _=>by have h1:=HRX.out (.ways os0.length) (fun h=>HDN.out _ h) hjl;simpa[hq0]using h1) (fun _=>by have h1:=HRX.out (.parts os0.length) (fun h=>HDN.out _ h) hjl;simpa[hq0]using h1) (fun _=>OwnF.nil _ _ _ _ _ _)
       have e:R.os.set os0.length {top with heads:=[],hA:=none,hc:=0}=os0++[{top with heads:=[],hA:=none,hc:=0}]:=by rw[hq0];simp
       refine⟨?_,h1.2.2⟩;have h2:=h1.1;simp only[e]at h2;exact h2)
      clear hq0 hjl HC9;go_upto_region 10 with(fail)
      generalize (wx.setCell ⟨g2,os0.length*5+4,none⟩ (.slice none 0 0))=W6 at *;clear o0 o1 o2 o3 o4 of;have HB6:=qd (HBX.out.trans HST.out.2);have hB6:B<=W6.heap.size:=by have:=HB6.out.size;omega
      obtain⟨g3,hl3,hg3,⟨o0,o1,o2,o3,o4⟩,of⟩:=HST.out.1.openAt (fun h=>HDN.out _ h) (j:=os0.length) (by simp)
      have hgg:g3=g2:=by
       have h1:=HLA.out;simp only at hl3 h1;rw[h1]at hl3;simpa using hl3.symm
      subst hgg;simp only[List.getElem_append_right (Nat.le_refl _),Nat.sub_self,List.getElem_cons_zero]at o3;clear o0 o1 o2 o4 hl3;have HPO:=qd (show(W6.alloc (.cells #[.int .i64 z2] 3)).ownsRow B 3 1 (.slice top.pA top.parts.length top.pc) top.parts.length (Az.all top.parts)from World.ownsRow.alloc (by have h1:=(HST.out.1 (.parts os0.length) (fun h=>HDN.out _ h) (by simp)).1;simpa using h1) _);have HFP:=qd (show top.parts.length+1<=maxLen/\(top.parts.length+1)*8<=140737488355328 from⟨by unfold maxLen;omega,by omega⟩)
      have HNE:=qd (show ¬some g3=Ai top.pA from fun e=>by
       have h1:=(HST.out.1 (.parts os0.length) (fun h=>HDN.out _ h) (by simp)).2 g3 (by simpa using e.symm);have h2:=(HST.out.1 .list (fun h=>HDN.out _ h)).2 g3 (by have:=HLA.out;simp only at this ⊢;rw[this];rfl);rw[h1]at h2;cases h2)
      have HCG:=qd (show(W6.alloc (.cells #[.int .i64 z2] 3)).cell? ⟨g3,os0.length*5+3,none⟩=some (.slice top.pA top.parts.length top.pc)/\(W6.alloc (.cells #[.int .i64 z2] 3)).frozen? ⟨g3,os0.length*5+3,none⟩=false/\g3<(W6.alloc (.cells #[.int .i64 z2] 3)).heap.size from by
       have h0:=Below.heap_alloc W6 (.cells #[.int .i64 z2] 3) g3 hg3;refine⟨?_,?_,by simp;omega⟩
       ·unfold World.cell? at o3 ⊢;simp only[h0];exact o3
       ·have h1:=of (os0.length*5+3);unfold World.frozen? at h1 ⊢;simp only[h0];exact h1)
      have HPN:=qd (show top.parts.length=top.parts.length from rfl);have HPL:=qd (Eq.refl top.parts);generalize hpn:top.parts.length=pn at *;go_wp2_with (at_builtin;refine Ax _ rfl (.tmp 62) (.tmp 64) 40 rfl B 3 i0 (.int .i64 0) 1 8 Tryz.underlying40 hi0 hz0 hz1 hz2 hzi (by decide) top.pA top.pc pn (Az.all top.parts) rfl HPO.out (some ⟨W6.heap.size,0,none⟩) 1 1 [.int .i64 z2] rfl rfl (Be (Ad _ _)) (by simp[Value.oneCell']) HFP.out.1 HFP.out.2 (by simp;omega) ?_;intro V4 vc4 w4 HO4 HG4 HA4;obtain⟨t1,t2⟩:=Gn HG4.out HNE.out HCG.out.2.2 (os0.length*5+3);rw[HCG.out.1]at t1;rw[HCG.out.2.1]at t2)
      clear t1 t2;have HO5:=qd (show w4.ownsRow B 3 1 (.slice V4 (pn+1) vc4) (pn+1) (Az.all (top.parts++[z2]))from by rw[Az.all_append];exact HO4.out);have HPU:=RdM.pushParts (o:={top with heads:=[],hA:=none,hc:=0}) (z:=z2) HST.out.1 ⟨fun h=>HDN.out _ h,fun h=>HDN.out _ h⟩ (j:=os0.length) (by simp) (by simp) HLA.out (bx1 W6 (.cells #[.int .i64 z2] 3)) rfl hpn HO5.out HG4.out HA4.out hB6;have hgo:=HSA.out.go;rw[Em HSN.out]at hgo;refine bodyPost_end (v:=.tuple #[]) (by simp[results,Tryz.results42,go_sem]) rfl ?_;unfold GP;rw[<-hgo];refine⟨nA2,nc2,ls2,BD f2 (W6.alloc (.cells #[.int .i64 z2] 3)).heap.size (.parts os0.length),{top with heads:=[],hA:=none,hc:=0,pA:=V4,pc:=vc4,parts:=top.parts++[z2]},z2,rfl,?_,rfl,HHA.out.pre,by simpa using HHA.out.rep,HHA.out.fine,?_,HB6.out.trans HPU.2.2⟩
      ·have h1:=HPU.1;simp only[List.set_append_right _ _ (Nat.le_refl _),Nat.sub_self,List.set_cons_zero]at h1;exact h1
      ·have h1:=HHA.out.len;have h2:=HSA.out.len;simp only at h1 ⊢;omega
     |succ q=>
      obtain⟨gh,hgh,y0⟩:=HHC.out wx f2 _ HRX.out rfl q (by omega);rw[hgh]at o4;clear hgh;have hkq:=HHD.out _ (List.getElem_mem (show q<top.heads.length by omega));have HNX:=qd (HHA.out.next (x:=⟨{CZ top.heads[q]with kids:=[z2]},some ⟨wx.heap.size,0,none⟩,1⟩) (by omega) hkq rfl)
      have HADD:=qd (show Calls Tryz.prog 43 #[.pointer (some ⟨H,0,none⟩),.agg #[.int .u8 (top.heads[q]:Int),.int .u64 0,.int .u64 0,.int .u64 0,.int .u64 0,.string ⟨#[]⟩,.int .i64 0,.int .i64 0,.slice none 0 0],.slice (some ⟨wx.heap.size,0,none⟩) 1 1] (wx.alloc (.cells #[.int .i64 z2] 3)) (D9 D B (BD f2 wx.heap.size .kids) H {R with i:=j,nA:=nA2,nc:=nc2,ls:=ls2} ⟨{CZ top.heads[q]with kids:=[z2]},some ⟨wx.heap.size,0,none⟩,1⟩ (wx.alloc (.cells #[.int .i64 z2] 3)))from
       FT D _ B _ H _ (CZ top.heads[q]) (.slice none 0 0) (some ⟨wx.heap.size,0,none⟩) 1 [z2] (HRX.out.kid _) ⟨fun h=>HDN.out _ h,fun h=>HDN.out _ h,fun h=>HDN.out _ h⟩ (NC wx f2 z2 hB2) (OZ (by omega) (by simp)) (show ls2.length<=4294967296 by have:=HHA.out.len;omega) (by simp;omega))
      unfold D9 at HADD;generalize top.heads[q]=kq at *;have e3:IntKind.i64.wrap (((q:Int)+1-1)-1)=((q:Int)+1-1)-1:=IntWalk.i64_in _ (by omega)
      go_wp2_with (first
       |(go_at_call 43;(with_reducible refine HADD.out.mono ?_);rintro e w1 ⟨nA1,nc1,f1,rfl,h1,_,h3⟩;have HR1:=qd h1;have HB1:=qd ((HBX.out.trans ((bx1 wx _).mono hB2)).trans h3);clear h1 h3)
       |fail)
      first
       |exact⟨⟨nA1,nc1,_,f1,q,_,by omega,rfl,by simp,HNX,HB1,HR1⟩,by simp[intOf]⟩
       |(refine⟨⟨_,_,_,_,_,_,_,_,_,_,_,_,_,_,_,_,_,_,?_,rfl⟩,by simp[intOf]⟩;exact⟨nA1,nc1,_,f1,q,_,by omega,rfl,by simp,HNX,HB1,HR1⟩)
       |fail
   ·have hlt:=JG HSM.out;have HPT:=qd (UQ D wr B f' H _ b1 b2 b3 lo hi' z' HRW.out ⟨fun h=>HDN.out _ h,fun h=>HDN.out _ h,fun h=>HDN.out _ h⟩ HPB.out (show ls.length<=4294967296 by omega) hB');have hm1:=ND HRW.out (fun h=>HDN.out _ h);unfold D9 at HPT;have HSX:=qd (HSA.out.next HW.out HSM.out (x:=⟨{FB lo hi' with kids:=[z']},some ⟨wr.heap.size,0,none⟩,1⟩) rfl);cases hs1:CE R.W (j+1)with
    |none=>
     go_wp2_with (first
      |(go_at_call 81;(with_reducible refine HPT.out.mono ?_);rintro e w1 ⟨nA1,nc1,f1,rfl,h1,_,h3⟩;have HR1:=qd h1;have HB1:=qd (HB.out.trans h3);clear h1 h3;have HSF:=qd (I2 D w1 B f1 H _ HR1.out ⟨fun h=>HDN.out _ h,fun h=>HDN.out _ h⟩ (show j+1<=65536 by omega) (by have:=HB1.out.size;omega));unfold IX at HSF)
      |(go_at_call 66;(with_reducible refine HSF.out.mono ?_);rintro e w2 ⟨h1,_⟩;obtain⟨rfl,hb⟩:=h1 hs1;have HB2:=qd hb;clear h1 hb)
      |fail)
     have hm2:=ND (HR1.out.below HB2.out) (fun h=>HDN.out _ h);exact⟨⟨nA1,nc1,_,f1,j+1,_,_,rfl,HSX,qd (HB1.out.trans (HB2.out.mono (by have:=HB1.out.size;omega))),.inl ⟨rfl,qd hs1,qd (HR1.out.below HB2.out)⟩⟩,by rw[hm1,hm2];simp[okN]⟩
    |some p=>
     obtain⟨lo2,hi2⟩:=p
     go_wp2_with (first
      |(go_at_call 81;(with_reducible refine HPT.out.mono ?_);rintro e w1 ⟨nA1,nc1,f1,rfl,h1,_,h3⟩;have HR1:=qd h1;have HB1:=qd (HB.out.trans h3);clear h1 h3;have HSF:=qd (I2 D w1 B f1 H _ HR1.out ⟨fun h=>HDN.out _ h,fun h=>HDN.out _ h⟩ (show j+1<=65536 by omega) (by have:=HB1.out.size;omega));unfold IX at HSF)
      |(go_at_call 66;(with_reducible refine HSF.out.mono ?_);rintro e w2 ⟨_,h1⟩;obtain⟨c1,c2,c3,rfl,h2,h3,_,h4⟩:=h1 lo2 hi2 hs1;have HP2:=qd h2;have HR2:=qd h3;have HB2:=qd h4;clear h1 h2 h3 h4)
      |fail)
     have hm2:=ND HR2.out (fun h=>HDN.out _ h);have hlt2:=JG hs1;exact⟨⟨nA1,nc1,_,f1,j+1,_,_,rfl,HSX,qd (HB1.out.trans HB2.out),.inr ⟨rfl,lo2,hi2,c1,c2,c3,rfl,qd hs1,HP2,HR2⟩⟩,by rw[hm1,hm2];simp[okN];omega⟩
end Go.Proofs.YtdnochjajoiooaaGreatDoor
