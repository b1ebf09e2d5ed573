/- The parser's reader in memory: who owns which block. The contracts of the reader's word, place, accept. The contracts of the reader's add and join. -/
import Derived.Test.YtdnochjajoiooaaGreatDoorJb
import Derived.Test.YtdnochjajoiooaaGreatDoorDq
import Derived.Test.YtdnochjajoiooaaGreatDoorLu
import Derived.BigQuiet
import Derived.Deep.RegionHeld3
import Derived.Deep.DeepCutAuto
import Derived.Deep.Cut
import Derived.Deep.CutRange
namespace Go.Proofs.YtdnochjajoiooaaGreatDoor
open Go.RowKit
set_option linter.unusedSimpArgs false
set_option linter.unusedVariables false
inductive Ow where
 |out|tmp|box|words|nodes|kids|list|defs|names|calls
 |ways (j:Nat)|parts (j:Nat)|heads (j:Nat)|body (j:Nat)
deriving DecidableEq
def OwnF (w:World) (B:Nat) (f:Nat->Ow) (o:Ow) (e:TypeId) (size:Nat) (V:Option Addr) (n c:Nat) (xs:List Value):Prop:=
 w.ownsRow B e size (.slice V n c) n xs/\ ∀k,Ai V=some k->f k=o
structure KeepF (X:Ow->Prop) (f f':Nat->Ow) (w w':World):Prop where
 size:w.heap.size<=w'.heap.size
 block:∀k,k<w.heap.size-> ¬X (f k)->w'.heap[k]?=w.heap[k]?
 own:∀k,k<w.heap.size->f' k=f k
def BD (f:Nat->Ow) (b:Nat) (o:Ow):Nat->Ow:=fun k=>if k=b then o else f k
theorem KeepF.refl (X:Ow->Prop) (f:Nat->Ow) (w:World):KeepF X f f w w:=⟨Nat.le_refl _,fun _ _ _=>rfl,fun _ _=>rfl⟩
theorem KeepF.mono {X Y:Ow->Prop} {f f':Nat->Ow} {w w':World} (h:KeepF X f f' w w') (hxy:∀o,X o->Y o):KeepF Y f f' w w':=⟨h.size,fun k hk hn=>h.block k hk fun hx=>hn (hxy _ hx),h.own⟩
theorem KeepF.trans {X:Ow->Prop} {f f' f'':Nat->Ow} {w w' w'':World} (h:KeepF X f f' w w') (k:KeepF X f' f'' w' w''):KeepF X f f'' w w'':=
 ⟨Nat.le_trans h.size k.size,fun i hi hn=>(k.block i (Nat.lt_of_lt_of_le hi h.size) (by rw[h.own i hi];exact hn)).trans (h.block i hi hn),fun i hi=>(k.own i (Nat.lt_of_lt_of_le hi h.size)).trans (h.own i hi)⟩
theorem KeepF.below {X:Ow->Prop} {f:Nat->Ow} {w w':World} (h:Below w.heap.size w w'):KeepF X f f w w':=⟨h.size,fun k hk _=>h.block k hk,fun _ _=>rfl⟩
theorem KeepF.upd {X:Ow->Prop} {f f':Nat->Ow} {w w':World} (h:KeepF X f f' w w') (o:Ow) {b:Nat} (hb:w.heap.size<=b):KeepF X f (BD f' b o) w w':=
 ⟨h.size,h.block,fun k hk=>by unfold BD;rw[if_neg (by omega)];exact h.own k hk⟩
theorem KeepF.set {X:Ow->Prop} {f:Nat->Ow} {w:World} {b i:Nat} {u:Value} (h:X (f b)):KeepF X f f w (w.setCell ⟨b,i,none⟩ u):=
 ⟨((Below.refl b w).setCell (p:=⟨b,i,none⟩) (Nat.le_refl _) u).size,fun k _ hn=>Below.heap_setCell _ _ _ _ (fun e=>hn (by have e:k=b:=e;rw[e];exact h)),fun _ _=>rfl⟩
theorem OwnF.keep {X:Ow->Prop} {f f':Nat->Ow} {w w':World} {B:Nat} {o:Ow} {e:TypeId} {size n c:Nat} {V:Option Addr} {xs:List Value} (h:OwnF w B f o e size V n c xs) (hk:KeepF X f f' w w') (ho:¬X o):OwnF w' B f' o e size V n c xs:=
 ⟨Au h.1 fun k hv=>hk.block k (Aq h.1 k hv).2 (by rw[h.2 k hv];exact ho),fun k hv=>(hk.own k (Aq h.1 k hv).2).trans (h.2 k hv)⟩
theorem OwnF.nil (w:World) (B:Nat) (f:Nat->Ow) (o:Ow) (e:TypeId) (size:Nat):OwnF w B f o e size none 0 0 []:=⟨World.ownsRow_nil _ _ _ _,fun k hk=>by cases hk⟩
theorem KeepF.grown {X:Ow->Prop} {f:Nat->Ow} {w w':World} {B:Nat} {o:Ow} {e:TypeId} {size n c:Nat} {V:Option Addr} {xs:List Value} (h:OwnF w B f o e size V n c xs) (ho:X o) (hg:w.grownBy w' (Ai V)):KeepF X f (BD f w.heap.size o) w w':=
 ⟨hg.size,fun k hk hn=>hg.block k hk (fun e=>hn (by rw[h.2 k e.symm];exact ho)),fun k hk=>by unfold BD;rw[if_neg (by omega)]⟩
theorem OwnF.grown {f:Nat->Ow} {w w':World} {B:Nat} {o:Ow} {e:TypeId} {size n n' c c':Nat} {V V':Option Addr} {xs ys:List Value} (h:OwnF w B f o e size V n c xs) (h2:w'.ownsRow B e size (.slice V' n' c') n' ys) (hv:Ai V'=Ai V\/Ai V'=some w.heap.size):OwnF w' B (BD f w.heap.size o) o e size V' n' c' ys:=
 ⟨h2,fun k hk=>by
  unfold BD;rcases hv with hv|hv
  ·split
   ·rfl
   ·exact h.2 k (by rw[<-hv];exact hk)
  ·rw[hv]at hk;cases hk;rw[if_pos rfl]⟩
theorem OwnF.below {f:Nat->Ow} {w w':World} {B:Nat} {o:Ow} {e:TypeId} {size n c:Nat} {V:Option Addr} {xs:List Value} (h:OwnF w B f o e size V n c xs) (hb:Below w.heap.size w w'):OwnF w' B f o e size V n c xs:=h.keep (X:=fun _=>False) (KeepF.below hb) id
theorem OwnF.row {f:Nat->Ow} {w:World} {B:Nat} {o:Ow} {e:TypeId} {size n c:Nat} {V:Option Addr} {xs:List Value} (h:OwnF w B f o e size V n c xs):OwnS w (fun k=>f k=o/\B<=k) e size V n c xs:=
 ⟨Cl h.1 (Nat.zero_le _),fun k hk=>⟨h.2 k hk,(Aq h.1 k hk).1⟩⟩
structure Ol where
 fin:Nat
 name:List UInt8
 wA:Option Addr
 wc:Nat
 ways:List Int
 pA:Option Addr
 pc:Nat
 parts:List Int
 hA:Option Addr
 hc:Nat
 heads:List Nat
def Ol.ob (o:Ol):Ob:=⟨o.fin,o.name,o.ways,o.parts,o.heads⟩
def olL:Lay Ol where
 size:=5
 cells o:=[.int .u8 (o.fin:Int),.string ⟨o.name.toArray⟩,.slice o.wA o.ways.length o.wc,.slice o.pA o.parts.length o.pc,.slice o.hA o.heads.length o.hc]
 len _:=rfl
 one _ u hu:=by
  simp only[List.mem_cons,List.not_mem_nil,or_false]at hu;rcases hu with rfl|rfl|rfl|rfl|rfl <;> rfl
 inn _ _ _:=True
 agree _ _:=trivial
 mono _ _:=trivial
structure Rd where
 WA:Option Addr
 Wc:Nat
 W:List Wd
 fin:Nat
 i:Nat
 nA:Option Addr
 nc:Nat
 ls:List Ln
 lA:Option Addr
 lc:Nat
 os:List Ol
 dA:Option Addr
 dc:Nat
 ds:List Ld
 mA:Option Addr
 mc:Nat
 ms:List Wd
 cA:Option Addr
 cc:Nat
 cs:List Wd
 keep:List (Nat×Obj)
def Rd.cells (R:Rd):Array Value:= #[.slice R.WA R.W.length R.Wc,.int .i64 (R.fin:Int),.int .i64 (R.i:Int),.slice R.nA R.ls.length R.nc,.slice R.lA R.os.length R.lc,.slice R.dA R.ds.length R.dc,.slice R.mA R.ms.length R.mc,.slice R.cA R.cs.length R.cc]
def RFact (w:World) (B:Nat) (f:Nat->Ow) (H:Nat) (R:Rd):Ow->Prop
 |.out=>∀p∈R.keep,w.heap[p.1]?=some p.2/\f p.1=.out
 |.tmp=>True
 |.box=>w.heap[H]?=some (.cells R.cells 72 (0,0))/\B<=H/\f H=.box
 |.words=>OwnF w B f .words 106 10 R.WA R.W.length R.Wc (wdL R.W)
 |.nodes=>OwnF w B f .nodes 42 9 R.nA R.ls.length R.nc (ndL.all R.ls)
 |.kids=>∀l∈R.ls,l.nd.wf/\OwnF w B f .kids 3 1 l.A l.nd.kids.length l.c (Az.all l.nd.kids)
 |.list=>OwnF w B f .list 99 5 R.lA R.os.length R.lc (olL.all R.os)
 |.ways j=>∀h:j<R.os.length,OwnF w B f (.ways j) 3 1 R.os[j].wA R.os[j].ways.length R.os[j].wc (Az.all R.os[j].ways)
 |.parts j=>∀h:j<R.os.length,OwnF w B f (.parts j) 3 1 R.os[j].pA R.os[j].parts.length R.os[j].pc (Az.all R.os[j].parts)
 |.heads j=>∀h:j<R.os.length,OwnF w B f (.heads j) 5 1 R.os[j].hA R.os[j].heads.length R.os[j].hc (R.os[j].heads.map fun k:Nat=>Value.int .u8 (k:Int))
 |.defs=>OwnF w B f .defs 208 3 R.dA R.ds.length R.dc (dfL.all R.ds)
 |.body j=>∀h:j<R.ds.length,R.ds[j].name.size<=281474976710656/\TreeOwn w (fun k=>f k=.body j/\B<=k) R.ds[j].t
 |.names=>OwnF w B f .names 106 10 R.mA R.ms.length R.mc (wdL R.ms)
 |.calls=>OwnF w B f .calls 106 10 R.cA R.cs.length R.cc (wdL R.cs)
def RdM (D:Ow->Prop) (w:World) (B:Nat) (f:Nat->Ow) (H:Nat) (R:Rd):Prop:=∀o,¬D o->RFact w B f H R o
theorem TreeOwn.keep {X:Ow->Prop} {f f':Nat->Ow} {w w':World} {B:Nat} {o:Ow} {t:Lt} (h:TreeOwn w (fun k=>f k=o/\B<=k) t) (hk:KeepF X f f' w w') (ho:¬X o):TreeOwn w' (fun k=>f' k=o/\B<=k) t:=
 (h.mono (T:=fun k=>k<w.heap.size/\f k=o/\B<=k) (fun k hk h=>⟨hk,h⟩)).agree (fun k hx _=>hk.block k hx.1 (by rw[hx.2.1];exact ho)) |>.mono fun k _ hx=>⟨(hk.own k hx.1).trans hx.2.1,hx.2.2⟩
theorem RFact.keep {X:Ow->Prop} {f f':Nat->Ow} {w w':World} {B H:Nat} {R:Rd} {o:Ow} (h:RFact w B f H R o) (hk:KeepF X f f' w w') (ho:¬X o):RFact w' B f' H R o:=by
 cases o with
 |out=>
  intro p hp;obtain⟨h1,h2⟩:=h p hp;have hl:p.1<w.heap.size:=(Array.getElem?_eq_some_iff.1 h1).1;exact⟨(hk.block p.1 hl (by rw[h2];exact ho)).trans h1,(hk.own p.1 hl).trans h2⟩
 |tmp=>trivial
 |box=>
  obtain⟨h1,h2,h3⟩:=h;have hl:H<w.heap.size:=(Array.getElem?_eq_some_iff.1 h1).1;exact⟨(hk.block H hl (by rw[h3];exact ho)).trans h1,h2,(hk.own H hl).trans h3⟩
 |words=>exact OwnF.keep h hk ho
 |nodes=>exact OwnF.keep h hk ho
 |kids=>exact fun l hl=>⟨(h l hl).1,(h l hl).2.keep hk ho⟩
 |list=>exact OwnF.keep h hk ho
 |ways j=>exact fun hj=>(h hj).keep hk ho
 |parts j=>exact fun hj=>(h hj).keep hk ho
 |heads j=>exact fun hj=>(h hj).keep hk ho
 |defs=>exact OwnF.keep h hk ho
 |body j=>exact fun hj=>⟨(h hj).1,(h hj).2.keep hk ho⟩
 |names=>exact OwnF.keep h hk ho
 |calls=>exact OwnF.keep h hk ho
theorem RdM.below {D:Ow->Prop} {f:Nat->Ow} {w w':World} {B H:Nat} {R:Rd} (h:RdM D w B f H R) (hb:Below w.heap.size w w'):RdM D w' B f H R:=fun o ho=>(h o ho).keep (X:=fun _=>False) (KeepF.below hb) id
theorem RdM.mono {D D':Ow->Prop} {f:Nat->Ow} {w:World} {B H:Nat} {R:Rd} (h:RdM D w B f H R) (hd:∀o,D o->D' o):RdM D' w B f H R:=fun o ho=>h o fun hd'=>ho (hd o hd')
theorem RdM.step {X D:Ow->Prop} {f f':Nat->Ow} {w w':World} {B H:Nat} {R R':Rd} (h:RdM D w B f H R) (hk:KeepF X f f' w w') (hn:∀o,¬D o->X o->RFact w' B f' H R' o) (he:∀o,¬D o-> ¬X o->RFact w' B f' H R o->RFact w' B f' H R' o):RdM D w' B f' H R':=fun o ho=>by
 by_cases hx:X o
 ·exact hn o ho hx
 ·exact he o ho hx ((h o ho).keep hk hx)
theorem RdM.upd {D:Ow->Prop} {f:Nat->Ow} {w:World} {B H:Nat} {R:Rd} (h:RdM D w B f H R) (o:Ow) {b:Nat} (hb:w.heap.size<=b):RdM D w B (BD f b o) H R:=fun o' ho=>(h o' ho).keep (X:=fun _=>False) ((KeepF.refl _ f w).upd o hb) id
theorem As {w:World} {H i:Nat} {cs:Array Value} {T:TypeId} (h:w.heap[H]?=some (.cells cs T (0,0))) (u:Value):(w.setCell ⟨H,i,none⟩ u).heap[H]?=some (.cells (cs.setIfInBounds i u) T (0,0)):=heap_setCell_same w H i cs T u h
theorem EC {w:World} {b:Nat} {x0 x1 x2 x3 x4 x5 x6 x7:Value} {T:TypeId} (h:w.heap[b]?=some (.cells #[x0,x1,x2,x3,x4,x5,x6,x7] T (0,0))):
  w.cell? ⟨b,0,none⟩=some x0/\w.cell? ⟨b,1,none⟩=some x1/\w.cell? ⟨b,2,none⟩=some x2/\w.cell? ⟨b,3,none⟩=some x3/\w.cell? ⟨b,4,none⟩=some x4/\w.cell? ⟨b,5,none⟩=some x5/\w.cell? ⟨b,6,none⟩=some x6/\w.cell? ⟨b,7,none⟩=some x7/\ ∀i,w.frozen? ⟨b,i,none⟩=false:=by
 simp[World.cell?,World.frozen?,h]
theorem Kl {w W:World} (h:Below w.heap.size w W) (n:Nat) (y0 y1 y2 y3 y4 y5 y6 y7 y8 y9:Value):Below w.heap.size w (Vw (W.drewN n) w.heap.size y0 y1 y2 y3 y4 y5 y6 y7 y8 y9):=by
 have h0:Below w.heap.size w (W.drewN n):=Below.drewN'' h n;exact(((((((((h0.setCell (p:=⟨w.heap.size,0,none⟩) (Nat.le_refl _) _).setCell (p:=⟨w.heap.size,1,none⟩) (Nat.le_refl _) _).setCell (p:=⟨w.heap.size,2,none⟩) (Nat.le_refl _) _).setCell (p:=⟨w.heap.size,3,none⟩) (Nat.le_refl _) _).setCell (p:=⟨w.heap.size,4,none⟩) (Nat.le_refl _) _).setCell (p:=⟨w.heap.size,5,none⟩) (Nat.le_refl _) _).setCell (p:=⟨w.heap.size,6,none⟩) (Nat.le_refl _) _).setCell (p:=⟨w.heap.size,7,none⟩) (Nat.le_refl _) _).setCell (p:=⟨w.heap.size,8,none⟩) (Nat.le_refl _) _).setCell (p:=⟨w.heap.size,9,none⟩) (Nat.le_refl _) _
theorem RdM.box {D:Ow->Prop} {w:World} {B:Nat} {f:Nat->Ow} {H:Nat} {R:Rd} (h:RdM D w B f H R) (hD:¬D .box):w.heap[H]?=some (.cells #[.slice R.WA R.W.length R.Wc,.int .i64 (R.fin:Int),.int .i64 (R.i:Int),.slice R.nA R.ls.length R.nc,.slice R.lA R.os.length R.lc,.slice R.dA R.ds.length R.dc,.slice R.mA R.ms.length R.mc,.slice R.cA R.cs.length R.cc] 72 (0,0)):=(h .box hD).1
def NB:Wd:=⟨0,0,0,[],0,0,0,0,0,0⟩
theorem Wy {W:List Wd} {i:Nat} (h:W.length<=i):wdW W i=NB:=by simp[wdW,NB,List.getElem?_eq_none h]
set_option maxRecDepth 100000 in
set_option maxHeartbeats 3200000 in
theorem FS (D:Ow->Prop) (w:World) (B:Nat) (f:Nat->Ow) (H:Nat) (R:Rd) (b:Nat) (h:RdM D w B f H R) (hD:¬D .box/\ ¬D .words) (hi:R.i<=100000) (hb:b<=2):
  Calls Tryz.prog 44 #[.pointer (some ⟨H,0,none⟩),.int .i64 (b:Int)] w fun e w'=>e=.returned (wdV (wdW R.W (R.i+b)))/\Below w.heap.size w w':=by
 have HBX:=qd (h.box hD.1);have HWD:=qd (h .words hD.2);clear h hD;obtain⟨WA,Wc,W,fin,i,nA,nc,ls,lA,lc,os,dA,dc,ds,mA,mc,ms,cA,cc,cs⟩:=R;simp only[RFact]at HBX HWD hi ⊢;have HB0:=qd (bx1 w (.cells #[.int .u8 0,.int .i64 0,.int .i64 0,.string ⟨#[]⟩,.int .u64 0,.int .u64 0,.int .u64 0,.int .u64 0,.int .i64 0,.int .i64 0] 106));have HK0:=qd (Ad w (.cells #[.int .u8 0,.int .i64 0,.int .i64 0,.string ⟨#[]⟩,.int .u64 0,.int .u64 0,.int .u64 0,.int .u64 0,.int .i64 0,.int .i64 0] 106));have e5:IntKind.i64.wrap ((i:Int)+(b:Int))=(i:Int)+(b:Int):=IntWalk.i64_in _ (by omega);generalize hxv:wdW W (i+b)=xv;go_enter Tryz.func44,Tryz.ntmps44
 go_upto_region 1 with(fail)
 have HBX0:=qd (Ae HB0.out HBX.out);have HWD0:=qd (HWD.out.below HB0.out);generalize (w.alloc (.cells #[.int .u8 0,.int .i64 0,.int .i64 0,.string ⟨#[]⟩,.int .u64 0,.int .u64 0,.int .u64 0,.int .u64 0,.int .i64 0,.int .i64 0] 106))=W0 at *;obtain⟨c0,c1,c2,c3,c4,c5,c6,c7,_⟩:=EC HBX0.out;obtain⟨d0,d1,d2,d3,d4,d5,d6,d7,d8,d9,df⟩:=BB HK0.out;clear HBX HWD;by_cases hlt:i+b<W.length
 ·have i1:¬((W.length:Int)<=(i:Int)+(b:Int)):=by omega
  have i2:(0:Int)<=(i:Int)+(b:Int):=by omega
  have i3:(i:Int)+(b:Int)<(W.length:Int):=by omega
  rw[Lx hlt]at hxv;obtain⟨g,rfl,_,hg⟩:=BS HWD0.out.1 (by omega);obtain⟨x0,x1,x2,x3,x4,x5,x6,x7,x8,x9⟩:=Pr HWD0.out.1 (i+b) ((i+b)*10) rfl xv (by rw[<-hxv];exact List.getElem?_eq_getElem hlt);clear hxv;go_quiet (fail)
  go_upto_region 3 with(fail)
  go_region
  have HK1:=qd (CC (W:=W0.drewN (nq+1)) HK0.out (.int .u8 (xv.kind:Int)) (.int .i64 (xv.frm:Int)) (.int .i64 (xv.til:Int)) (.string ⟨xv.text.toArray⟩) (.int .u64 (xv.s0:Int)) (.int .u64 (xv.s1:Int)) (.int .u64 (xv.s2:Int)) (.int .u64 (xv.s3:Int)) (.int .i64 xv.low) (.int .i64 xv.high));have HB1:=qd (Kl HB0.out (nq+1) (.int .u8 (xv.kind:Int)) (.int .i64 (xv.frm:Int)) (.int .i64 (xv.til:Int)) (.string ⟨xv.text.toArray⟩) (.int .u64 (xv.s0:Int)) (.int .u64 (xv.s1:Int)) (.int .u64 (xv.s2:Int)) (.int .u64 (xv.s3:Int)) (.int .i64 xv.low) (.int .i64 xv.high));clear c0 c1 c2 c3 c4 c5 c6 c7 d0 d1 d2 d3 d4 d5 d6 d7 d8 d9 df x0 x1 x2 x3 x4 x5 x6 x7 x8 x9;unfold Vw at HK1 HB1;generalize (((((((((((W0.drewN (nq+1)).setCell ⟨w.heap.size,0,none⟩ (.int .u8 (xv.kind:Int))).setCell ⟨w.heap.size,1,none⟩ (.int .i64 (xv.frm:Int))).setCell ⟨w.heap.size,2,none⟩ (.int .i64 (xv.til:Int))).setCell ⟨w.heap.size,3,none⟩ (.string ⟨xv.text.toArray⟩)).setCell ⟨w.heap.size,4,none⟩ (.int .u64 (xv.s0:Int))).setCell ⟨w.heap.size,5,none⟩ (.int .u64 (xv.s1:Int))).setCell ⟨w.heap.size,6,none⟩ (.int .u64 (xv.s2:Int))).setCell ⟨w.heap.size,7,none⟩ (.int .u64 (xv.s3:Int))).setCell ⟨w.heap.size,8,none⟩ (.int .i64 xv.low)).setCell ⟨w.heap.size,9,none⟩ (.int .i64 xv.high))=W1 at *;obtain⟨d0,d1,d2,d3,d4,d5,d6,d7,d8,d9,df⟩:=BB HK1.out;go_wp2_with fail
  exact bodyPost_ret (v:=wdV xv) (by simp[results,Tryz.results44,go_sem,d0,d1,d2,d3,d4,d5,d6,d7,d8,d9]) rfl ⟨rfl,HB1.out⟩
 ·have i1:((W.length:Int)<=(i:Int)+(b:Int)):=by omega
  rw[Wy (by omega)]at hxv;subst hxv;go_quiet (fail)
  go_wp2_with fail
  have HK1:=qd (CC (W:=W0.drewN nq) HK0.out (.int .u8 0) (.int .i64 0) (.int .i64 0) (.string ⟨#[]⟩) (.int .u64 0) (.int .u64 0) (.int .u64 0) (.int .u64 0) (.int .i64 0) (.int .i64 0));have HB1:=qd (Kl HB0.out nq (.int .u8 0) (.int .i64 0) (.int .i64 0) (.string ⟨#[]⟩) (.int .u64 0) (.int .u64 0) (.int .u64 0) (.int .u64 0) (.int .i64 0) (.int .i64 0));clear c0 c1 c2 c3 c4 c5 c6 c7 d0 d1 d2 d3 d4 d5 d6 d7 d8 d9 df;unfold Vw at HK1 HB1;generalize (((((((((((W0.drewN nq).setCell ⟨w.heap.size,0,none⟩ (.int .u8 0)).setCell ⟨w.heap.size,1,none⟩ (.int .i64 0)).setCell ⟨w.heap.size,2,none⟩ (.int .i64 0)).setCell ⟨w.heap.size,3,none⟩ (.string ⟨#[]⟩)).setCell ⟨w.heap.size,4,none⟩ (.int .u64 0)).setCell ⟨w.heap.size,5,none⟩ (.int .u64 0)).setCell ⟨w.heap.size,6,none⟩ (.int .u64 0)).setCell ⟨w.heap.size,7,none⟩ (.int .u64 0)).setCell ⟨w.heap.size,8,none⟩ (.int .i64 0)).setCell ⟨w.heap.size,9,none⟩ (.int .i64 0))=W1 at *;obtain⟨d0,d1,d2,d3,d4,d5,d6,d7,d8,d9,df⟩:=BB HK1.out;exact bodyPost_ret (v:=wdV NB) (by simp[results,Tryz.results44,go_sem,d0,d1,d2,d3,d4,d5,d6,d7,d8,d9,NB]) rfl ⟨rfl,HB1.out⟩
set_option maxRecDepth 100000 in
set_option maxHeartbeats 3200000 in
theorem MM (D:Ow->Prop) (w:World) (B:Nat) (f:Nat->Ow) (H:Nat) (R:Rd) (h:RdM D w B f H R) (hD:¬D .box/\ ¬D .words):
  Calls Tryz.prog 26 #[.pointer (some ⟨H,0,none⟩)] w fun e w'=>e=.returned (.int .i64 (Ek R.W R.fin R.i:Nat))/\Below w.heap.size w w':=by
 have HBX:=qd (h.box hD.1);have HWD:=qd (h .words hD.2);clear h hD;obtain⟨WA,Wc,W,fin,i,nA,nc,ls,lA,lc,os,dA,dc,ds,mA,mc,ms,cA,cc,cs⟩:=R;simp only[RFact]at HBX HWD ⊢;obtain⟨c0,c1,c2,c3,c4,c5,c6,c7,_⟩:=EC HBX.out;by_cases hlt:i<W.length
 ·have i1:¬((W.length:Int)<=(i:Int)):=by omega
  have i2:(0:Int)<=(i:Int):=by omega
  have i3:(i:Int)<(W.length:Int):=by omega
  have ep:Ek W fin i=W[i].frm:=by simp[Ek,List.getElem?_eq_getElem hlt]
  rw[ep];clear ep;obtain⟨g,rfl,_,hg⟩:=BS HWD.out.1 (by omega);obtain⟨x0,x1,x2,x3,x4,x5,x6,x7,x8,x9⟩:=Pr HWD.out.1 i (i*10) rfl W[i] (List.getElem?_eq_getElem hlt);generalize W[i]=xv at *;go_enter Tryz.func26,Tryz.ntmps26
  go_upto_region 1 with(fail)
  go_quiet (fail)
  go_upto_region 3 with(fail)
  go_quiet (fail)
  go_wp2_with fail
  go_ret;exact⟨rfl,Below.drewN'' (Below.refl _ _) _⟩
 ·have i1:((W.length:Int)<=(i:Int)):=by omega
  have ep:Ek W fin i=fin:=by simp[Ek,List.getElem?_eq_none (show W.length<=i by omega)]
  rw[ep];clear ep;go_enter Tryz.func26,Tryz.ntmps26
  go_upto_region 1 with(fail)
  go_quiet (fail)
  go_wp2_with fail
  go_ret;exact⟨rfl,Below.drewN'' (Below.refl _ _) _⟩
theorem RdM.setI {D:Ow->Prop} {w:World} {B:Nat} {f:Nat->Ow} {H:Nat} {R:Rd} (h:RdM D w B f H R) (hD:¬D .box) (j:Nat):
  RdM D (w.setCell ⟨H,2,none⟩ (.int .i64 (j:Int))) B f H {R with i:=j}/\KeepF (fun o=>o=.box) f f w (w.setCell ⟨H,2,none⟩ (.int .i64 (j:Int)))/\Below B w (w.setCell ⟨H,2,none⟩ (.int .i64 (j:Int))):=by
 obtain⟨hb,hB,hf⟩:=h .box hD;have hk:KeepF (fun o=>o=.box) f f w (w.setCell ⟨H,2,none⟩ (.int .i64 (j:Int))):=KeepF.set hf;refine⟨h.step hk (fun o ho hx=> ?_) (fun o ho hx hr=> ?_),hk,(Below.refl B w).setCell (p:=⟨H,2,none⟩) hB _⟩
 ·subst hx;refine⟨?_,hB,hf⟩;have:=As (i:=2) hb (.int .i64 (j:Int));simpa[Rd.cells]using this
 ·cases o with
  |box=>exact absurd rfl hx
  |_=>exact hr
theorem Ez (x:Wd) (w:World):(Instr.field 106 (.agg #[.int .u8 (x.kind:Int),.int .i64 (x.frm:Int),.int .i64 (x.til:Int),.string ⟨x.text.toArray⟩,.int .u64 (x.s0:Int),.int .u64 (x.s1:Int),.int .u64 (x.s2:Int),.int .u64 (x.s3:Int),.int .i64 x.low,.int .i64 x.high]) 0).run Tryz.prog w=.ok (.int .u8 (x.kind:Int)) w:=by
 kernel_rfl
theorem E0 (x:Wd) (w:World):(Instr.field 106 (.agg #[.int .u8 (x.kind:Int),.int .i64 (x.frm:Int),.int .i64 (x.til:Int),.string ⟨x.text.toArray⟩,.int .u64 (x.s0:Int),.int .u64 (x.s1:Int),.int .u64 (x.s2:Int),.int .u64 (x.s3:Int),.int .i64 x.low,.int .i64 x.high]) 3).run Tryz.prog w=.ok (.string ⟨x.text.toArray⟩) w:=by
 kernel_rfl
attribute [local go_sem] Ez E0
def Da (D:Ow->Prop) (B:Nat) (f:Nat->Ow) (H:Nat) (R:Rd) (k:Nat) (w:World) (e:Ending) (w':World):Prop:=
 (kdW R.W R.i=k->e=.returned (.bool true)/\RdM D w' B f H {R with i:=R.i+1})/\(kdW R.W R.i≠k->e=.returned (.bool false)/\RdM D w' B f H R)/\KeepF (fun o=>o=.box) f f w w'/\Below B w w'
theorem Km (W:List Wd) (i:Nat):(wdW W i).kind=kdW W i:=by
 unfold wdW kdW;cases W[i]? <;> rfl
set_option maxRecDepth 100000 in
set_option maxHeartbeats 3200000 in
theorem En (D:Ow->Prop) (w:World) (B:Nat) (f:Nat->Ow) (H:Nat) (R:Rd) (k:Nat) (h:RdM D w B f H R) (hD:¬D .box/\ ¬D .words) (hi:R.i<=65536) (hB:B<=w.heap.size):
  Calls Tryz.prog 48 #[.pointer (some ⟨H,0,none⟩),.int .u8 (k:Int)] w (Da D B f H R k w):=by
 have HW:=qd (show ∀w',Below w.heap.size w w'->Calls Tryz.prog 44 #[.pointer (some ⟨H,0,none⟩),.int .i64 0] w' fun e w''=>e=.returned (wdV (wdW R.W R.i))/\Below w'.heap.size w' w'' from fun w' hb=>FS D w' B f H R 0 (h.below hb) hD (by omega) (by omega));have HR:=qd h;have hkd:=Km R.W R.i;go_enter Tryz.func48,Tryz.ntmps48
 by_cases hk:kdW R.W R.i=k
 ·have e1:(((wdW R.W R.i).kind:Int) != (k:Int))=false:=by rw[hkd,hk];simp
  have e5:IntKind.i64.wrap ((R.i:Int)+1)=(R.i:Int)+1:=IntWalk.i64_in _ (by omega);clear hkd
  go_wp2_with (first
   |(go_at_call 44;(with_reducible refine(HW.out _ (Below.refl _ _)).mono ?_);rintro e w1 ⟨rfl,hb⟩;have HB1:=qd hb;have HR1:=qd (HR.out.below hb);obtain⟨c0,c1,c2,c3,c4,c5,c6,c7,cf⟩:=EC (HR1.out.box hD.1);clear hb)
   |fail)
  have hs:=HR1.out.setI hD.1 (R.i+1);go_ret;exact⟨fun _=>⟨rfl,hs.1⟩,fun hn=>absurd hk hn,(KeepF.below HB1.out).trans hs.2.1,(HB1.out.mono hB).trans hs.2.2⟩
 ·have e1:(((wdW R.W R.i).kind:Int) != (k:Int))=true:=by rw[hkd];simp;omega
  clear hkd
  go_wp2_with (first
   |(go_at_call 44;(with_reducible refine(HW.out _ (Below.refl _ _)).mono ?_);rintro e w1 ⟨rfl,hb⟩;have HB1:=qd hb;have HR1:=qd (HR.out.below hb);clear hb)
   |fail)
  go_ret;exact⟨fun hn=>absurd hn hk,fun _=>⟨rfl,HR1.out⟩,KeepF.below HB1.out,HB1.out.mono hB⟩
end Go.Proofs.YtdnochjajoiooaaGreatDoor
namespace Go.Proofs.YtdnochjajoiooaaGreatDoor
open Go.RowKit
set_option linter.unusedSimpArgs false
set_option linter.unusedVariables false
abbrev ndC (n:Nd) (K:Value):Array Value:= #[.int .u8 n.kind,.int .u64 n.s0,.int .u64 n.s1,.int .u64 n.s2,.int .u64 n.s3,.string n.text,.int .i64 n.mn,.int .i64 n.mx,K]
def D9 (D:Ow->Prop) (B:Nat) (f:Nat->Ow) (H:Nat) (R:Rd) (x:Ln) (w:World) (e:Ending) (w':World):Prop:=
 ∃nA nc f',e=.returned (.int .i64 (R.ls.length:Int))/\RdM D w' B f' H {R with nA:=nA,nc:=nc,ls:=R.ls++[x]}/\KeepF (fun o=>o=.box\/o=.nodes) f f' w w'/\Below B w w'
theorem UP {D:Ow->Prop} {w W1 w2:World} {B:Nat} {f:Nat->Ow} {H:Nat} {R:Rd} {x:Ln} {V V':Option Addr} {vc' m:Nat} (h:RdM D w B f H R) (hD:¬D .box/\ ¬D .nodes/\ ¬D .kids) (hb:Below w.heap.size w W1) (hm:R.ls.length=m) (hV:R.nA=V)
  (hO2:w2.ownsRow B 42 9 (.slice V' (m+1) vc') (m+1) (ndL.all (R.ls++[x]))) (hg:W1.grownBy w2 (Ai V)) (hv:Ai V'=Ai V\/Ai V'=some W1.heap.size) (hw:x.nd.wf) (hx:OwnF w B f .kids 3 1 x.A x.nd.kids.length x.c (Az.all x.nd.kids)) (hB:B<=w.heap.size):
  RdM D (w2.setCell ⟨H,3,none⟩ (.slice V' (m+1) vc')) B (BD f W1.heap.size .nodes) H {R with nA:=V',nc:=vc',ls:=R.ls++[x]}/\KeepF (fun o=>o=.box\/o=.nodes) f (BD f W1.heap.size .nodes) w (w2.setCell ⟨H,3,none⟩ (.slice V' (m+1) vc'))/\Below B w (w2.setCell ⟨H,3,none⟩ (.slice V' (m+1) vc')):=by
 subst hm hV;have k1:KeepF (fun o=>o=.box\/o=.nodes) f f w W1:=KeepF.below hb;have hO1:OwnF W1 B f .nodes 42 9 R.nA R.ls.length R.nc (ndL.all R.ls):=OwnF.below (h .nodes hD.2.1) hb;have k2:KeepF (fun o=>o=.box\/o=.nodes) f (BD f W1.heap.size .nodes) W1 w2:=KeepF.grown hO1 (.inr rfl) hg;obtain⟨hbx,hBH,hfH⟩:=h .box hD.1;have hlt:H<w.heap.size:=(Array.getElem?_eq_some_iff.1 hbx).1;have hlt1:H<W1.heap.size:=Nat.lt_of_lt_of_le hlt hb.size;have fH:BD f W1.heap.size .nodes H=.box:=by unfold BD;rw[if_neg (by omega)];exact hfH
 have k3:KeepF (fun o=>o=.box\/o=.nodes) (BD f W1.heap.size .nodes) (BD f W1.heap.size .nodes) w2 (w2.setCell ⟨H,3,none⟩ (.slice V' (R.ls.length+1) vc')):=KeepF.set (.inl fH);have K:=k1.trans (k2.trans k3);have hne:¬some H=Ai R.nA:=fun e=>by have:=hO1.2 H e.symm;rw[hfH]at this;cases this
 refine⟨h.step K (fun o ho hX=> ?_) (fun o ho hX hr=> ?_),K,?_⟩
 ·rcases hX with rfl|rfl
  ·refine⟨?_,hBH,fH⟩;have h2:w2.heap[H]?=some (.cells R.cells 72 (0,0)):=(hg.block H hlt1 hne).trans (Ae hb hbx);have:=As (i:=3) h2 (.slice V' (R.ls.length+1) vc');simpa[Rd.cells]using this
  ·have h4:=(OwnF.grown hO1 hO2 hv).keep (X:=fun o=>o=.box) (KeepF.set fH (i:=3) (u:=.slice V' (R.ls.length+1) vc')) (by simp);show OwnF _ B _ .nodes _ 9 V' (R.ls++[x]).length vc' _;rw[List.length_append];exact h4
 ·cases o with
  |box=>exact absurd (.inl rfl) hX
  |nodes=>exact absurd (.inr rfl) hX
  |kids=>
   intro l hl;rcases List.mem_append.1 hl with hl|hl
   ·exact hr l hl
   ·obtain rfl:=List.mem_singleton.1 hl;exact⟨hw,hx.keep K (by simp)⟩
  |_=>exact hr
 ·exact((hb.mono hB).grown hg (Nat.le_trans hB hb.size) (fun k hk=>(Aq hO1.1 k hk).1)).setCell (p:=⟨H,3,none⟩) hBH _
set_option maxRecDepth 100000 in
set_option maxHeartbeats 6400000 in
theorem FT (D:Ow->Prop) (w:World) (B:Nat) (f:Nat->Ow) (H:Nat) (R:Rd) (n:Nd) (K:Value) (A:Option Addr) (c:Nat) (zs:List Int) (h:RdM D w B f H R) (hD:¬D .box/\ ¬D .nodes/\ ¬D .kids) (hk:OwnF w B f .kids 3 1 A zs.length c (Az.all zs))
  (hn:({n with kids:=zs}:Nd).wf) (hl:R.ls.length<=4294967296) (hB:B<=w.heap.size):
  Calls Tryz.prog 43 #[.pointer (some ⟨H,0,none⟩),.agg (ndC n K),.slice A zs.length c] w (D9 D B f H R ⟨{n with kids:=zs},A,c⟩ w):=by
 obtain⟨j0,hj,hy0,hy1,hy2⟩:=info_parts FK;have hzc:(Value.agg #[.int .u8 0,.int .u64 0,.int .u64 0,.int .u64 0,.int .u64 0,.string ByteArray.empty,.int .i64 0,.int .i64 0,.slice none 0 0]).cells.size=9:=rfl;have HR:=qd h;have HKD:=qd hk;have HWF:=qd hn;have hbx:=h.box hD.1;have hfx:=(h .box hD.1).2;have HO:=qd (show OwnF w B f .nodes 42 9 R.nA R.ls.length R.nc (ndL.all R.ls)from h .nodes hD.2.1);have HBX:=qd hbx;have HFX:=qd hfx;have hlt:=Av hbx;clear h hk hn hbx hfx;obtain⟨a0,a1,a2,a3,a4,a5,a6,a7,a8,af⟩:=BP (Ad w (.cells (ndC n K) 42));generalize hx:(⟨{n with kids:=zs},A,c⟩:Ln)=x;have hxk:x.nd.kids=zs:=by rw[<-hx]
 have HXC:=qd (show(Value.int .u8 x.nd.kind=.int .u8 n.kind/\Value.int .u64 x.nd.s0=.int .u64 n.s0/\Value.int .u64 x.nd.s1=.int .u64 n.s1/\Value.int .u64 x.nd.s2=.int .u64 n.s2/\Value.int .u64 x.nd.s3=.int .u64 n.s3/\Value.string x.nd.text=.string n.text/\Value.int .i64 x.nd.mn=.int .i64 n.mn/\Value.int .i64 x.nd.mx=.int .i64 n.mx)/\x.A=A/\x.c=c from by rw[<-hx];exact⟨⟨rfl,rfl,rfl,rfl,rfl,rfl,rfl,rfl⟩,rfl,rfl⟩);have HXW:=qd (show x.nd.wf from by rw[<-hx];exact HWF.out);clear hx;have HWN:=qd (Ad w (.cells #[.int .u8 n.kind,.int .u64 n.s0,.int .u64 n.s1,.int .u64 n.s2,.int .u64 n.s3,.string n.text,.int .i64 n.mn,.int .i64 n.mx,.slice A zs.length c] 42));have HWB:=qd (bx1 w (.cells #[.int .u8 n.kind,.int .u64 n.s0,.int .u64 n.s1,.int .u64 n.s2,.int .u64 n.s3,.string n.text,.int .i64 n.mn,.int .i64 n.mx,.slice A zs.length c] 42));go_enter Tryz.func43,Tryz.ntmps43
 go_upto_region 2 with(fail)
 clear a0 a1 a2 a3 a4 a5 a6 a7 a8 af;generalize (w.alloc (.cells #[.int .u8 n.kind,.int .u64 n.s0,.int .u64 n.s1,.int .u64 n.s2,.int .u64 n.s3,.string n.text,.int .i64 n.mn,.int .i64 n.mx,.slice A zs.length c] 42))=W at *;obtain⟨q0,q1,q2,q3,q4,q5,q6,q7,q8,_⟩:=BP HWN.out;obtain⟨p0,p1,p2,p3,p4,p5,p6,p7,pf⟩:=EC (Ae HWB.out HBX.out);clear p0 p1 p2 p4 p5 p6 p7;have HRW:=qd (HR.out.below HWB.out);have HOW:=qd (HO.out.below HWB.out);have HWS:=qd HWB.out.size;have hltW:H<W.heap.size:=by have:=HWS.out;omega
 have hltN:w.heap.size<W.heap.size:=Av HWN.out;generalize hnn:R.ls.length=m at *;have HNN:=qd hnn;clear hnn;obtain⟨V,hV⟩:∃V,R.nA=V:=⟨_,rfl⟩;obtain⟨vc,hvc⟩:∃vc,R.nc=vc:=⟨_,rfl⟩;rw[hV,hvc]at p3;have HOV:=qd (show(W.drew.alloc (.cells #[.int .u8 n.kind,.int .u64 n.s0,.int .u64 n.s1,.int .u64 n.s2,.int .u64 n.s3,.string n.text,.int .i64 n.mn,.int .i64 n.mx,.slice A zs.length c] 42)).ownsRow B 42 9 (.slice V m vc) m (ndL.all R.ls)from World.ownsRow.alloc (show W.drew.ownsRow B 42 9 (.slice V m vc) m (ndL.all R.ls)from by have h:=HOW.out.1;rw[hV,hvc]at h;exact h) _);have HF:=qd (show m+1<=maxLen/\(m+1)*96<=140737488355328/\B<=(W.drew.alloc (.cells #[.int .u8 n.kind,.int .u64 n.s0,.int .u64 n.s1,.int .u64 n.s2,.int .u64 n.s3,.string n.text,.int .i64 n.mn,.int .i64 n.mx,.slice A zs.length c] 42)).heap.size from⟨by unfold maxLen;omega,by omega,by have:=HWS.out;simp;omega⟩);have HNE:=qd (show ¬some H=Ai V from fun e=>by have h1:=HO.out.2 H (by rw[hV];exact e.symm);rw[HFX.out.2]at h1;cases h1);have HKB:=qd (show(W.drew.alloc (.cells #[.int .u8 n.kind,.int .u64 n.s0,.int .u64 n.s1,.int .u64 n.s2,.int .u64 n.s3,.string n.text,.int .i64 n.mn,.int .i64 n.mx,.slice A zs.length c] 42)).heap[H]?=some (.cells #[.slice R.WA R.W.length R.Wc,.int .i64 (R.fin:Int),.int .i64 (R.i:Int),.slice V m vc,.slice R.lA R.os.length R.lc,.slice R.dA R.ds.length R.dc,.slice R.mA R.ms.length R.mc,.slice R.cA R.cs.length R.cc] 72 (0,0))from A7 (w:=W.drew) (by have h:=Ae HWB.out HBX.out;rw[hV,hvc]at h;exact h));have HVV:=qd hV;clear hV hvc;go_region_law ((refine Bm (by rfl) (.tmp 13) (.tmp 15) 22 (by rfl) B 42 j0 (.agg #[.int .u8 0,.int .u64 0,.int .u64 0,.int .u64 0,.int .u64 0,.string ByteArray.empty,.int .i64 0,.int .i64 0,.slice none 0 0]) 9 96 Tryz.underlying22 hj hy0 hy1 hy2 hzc (by decide) V vc m (ndL.all R.ls) (by rfl) HOV.out (some ⟨W.heap.size,0,none⟩) 1 1 [.int .u8 n.kind,.int .u64 n.s0,.int .u64 n.s1,.int .u64 n.s2,.int .u64 n.s3,.string n.text,.int .i64 n.mn,.int .i64 n.mx,.slice A zs.length c] (by rfl) rfl (Be (Ad W.drew _)) (fun u hu=>by simp only[List.mem_cons,List.not_mem_nil,or_false]at hu;rcases hu with rfl|rfl|rfl|rfl|rfl|rfl|rfl|rfl|rfl <;> rfl) HF.out.1 HF.out.2.1 HF.out.2.2 ?_;intro V' vc' w2 HO2 HG2 HA2;have HK2:=qd ((HG2.out.block H (Av HKB.out) HNE.out).trans HKB.out);have t1:w2.cell? ⟨H,3,none⟩=some (.slice V m vc):=(by simp[World.cell?,HK2.out]);have t2:w2.frozen? ⟨H,3,none⟩=false:=(by simp[World.frozen?,HK2.out])))
 all_goals
  clear t1 t2 p3 pf q0 q1 q2 q3 q4 q5 q6 q7 q8
  have HO3:=qd (show w2.ownsRow B 42 9 (.slice V' (m+1) vc') (m+1) (ndL.all (R.ls++[x]))from by
   have ho2:=HO2.out;obtain⟨⟨x0,x1,x2,x3,x4,x5,x6,x7⟩,x8,x9⟩:=HXC.out
   have e:ndL.cells x=[.int .u8 n.kind,.int .u64 n.s0,.int .u64 n.s1,.int .u64 n.s2,.int .u64 n.s3,.string n.text,.int .i64 n.mn,.int .i64 n.mx,.slice A zs.length c]:=by
    show[_,_,_,_,_,_,_,_,Value.slice x.A x.nd.kids.length x.c]=_;rw[x0,x1,x2,x3,x4,x5,x6,x7,x8,x9,hxk]
   rw[ndL.all_append,ndL.all_one,e];exact ho2)
  have HB1:=qd (show Below w.heap.size w (W.drew.alloc (.cells #[.int .u8 n.kind,.int .u64 n.s0,.int .u64 n.s1,.int .u64 n.s2,.int .u64 n.s3,.string n.text,.int .i64 n.mn,.int .i64 n.mx,.slice A zs.length c] 42))from(HWB.out.drew).alloc (show w.heap.size<=W.heap.size from HWS.out) _);have HDN:=qd (UP (V:=V) HR.out hD HB1.out HNN.out HVV.out HO3.out HG2.out HA2.out HXW.out (by rw[hxk,HXC.out.2.1,HXC.out.2.2];exact HKD.out) hB);generalize (w2.setCell ⟨H,3,none⟩ (.slice V' (m+1) vc'))=w3 at *;have hbx3:=HDN.out.1.box hD.1;have t1:w3.cell? ⟨H,3,none⟩=some (.slice V' (m+1) vc'):=(by simp[World.cell?,hbx3,HNN.out]);clear hbx3;go_wp2_with fail
  go_ret;exact⟨V',vc',_,RU (by have h:=HNN.out;omega),HDN.out⟩
def OY (D:Ow->Prop) (B:Nat) (f:Nat->Ow) (H:Nat) (R:Rd) (n:Nd) (zs:List Int) (w:World) (e:Ending) (w':World):Prop:=
 ∃nA nc f' ls,e=.returned (.int .i64 (Cd (R.ls.map Ln.nd) n zs).2)/\RdM D w' B f' H {R with nA:=nA,nc:=nc,ls:=ls}/\ls.map Ln.nd=(Cd (R.ls.map Ln.nd) n zs).1/\KeepF (fun o=>o=.box\/o=.nodes) f f' w w'/\Below B w w'
theorem OZ {k:Nat} (hk:k<=255) {zs:List Int} (hz:zs.length<=281474976710656):({CZ k with kids:=zs}:Nd).wf:=by
 refine⟨by simp[CZ];omega,by simp[CZ];decide,hz,?_⟩;simp[CZ,U64]
theorem SY:({Bi with kids:=[]}:Nd).wf:=⟨by simp[Bi],by simp[Bi];decide,by simp,by simp[Bi,U64]⟩
set_option maxRecDepth 100000 in
set_option maxHeartbeats 6400000 in
theorem MN (D:Ow->Prop) (w:World) (B:Nat) (f:Nat->Ow) (H:Nat) (R:Rd) (k:Nat) (A:Option Addr) (c:Nat) (zs:List Int) (h:RdM D w B f H R) (hD:¬D .box/\ ¬D .nodes/\ ¬D .kids) (hk:OwnF w B f .kids 3 1 A zs.length c (Az.all zs))
  (hkk:k<=255) (hz:zs.length<=1000000) (hl:R.ls.length<=4294967296) (hB:B<=w.heap.size):
  Calls Tryz.prog 47 #[.pointer (some ⟨H,0,none⟩),.int .u8 (k:Int),.slice A zs.length c] w (OY D B f H R (CZ k) zs w):=by
 have HR:=qd h;have HK:=qd hk;unfold OY;match zs,hz,HK with
 |[],hz,HK=>
  have HA:=qd (show Calls Tryz.prog 43 #[.pointer (some ⟨H,0,none⟩),.agg #[.int .u8 0,.int .u64 0,.int .u64 0,.int .u64 0,.int .u64 0,.string ⟨#[]⟩,.int .i64 0,.int .i64 0,.slice none 0 0],.slice none 0 0] w (D9 D B f H R ⟨{Bi with kids:=[]},none,0⟩ w)from
   FT D w B f H R Bi (.slice none 0 0) none 0 [] HR.out hD (OwnF.nil _ _ _ _ _ _) SY hl hB)
  go_enter Tryz.func47,Tryz.ntmps47
  go_wp2_with (first
   |(go_at_call 43;(with_reducible refine HA.out.mono ?_);rintro e w1 ⟨nA,nc,f',rfl,h1,h2,h3⟩;have H1:=qd h1;have H2:=qd h2;have H3:=qd h3;clear h1 h2 h3)
   |fail)
  go_ret;exact⟨nA,nc,f',_,by simp[Cd],H1.out,by simp[Cd,EI],H2.out,H3.out⟩
 |[z],hz,HK=>
  obtain⟨g,rfl,_,_⟩:=BS HK.out.1 (by simp);have x0:w.cell? ⟨g,0,none⟩=some (.int .i64 z):=AX HK.out.1 0 (by simp) (by simp[CX]);go_enter Tryz.func47,Tryz.ntmps47
  go_wp2_with fail
  go_ret;exact⟨R.nA,R.nc,f,R.ls,by simp[Cd],HR.out,by simp[Cd],KeepF.refl _ _ _,Below.refl _ _⟩
 |z1::z2::zs,hz,HK=>
  have HA:=qd (show Calls Tryz.prog 43 #[.pointer (some ⟨H,0,none⟩),.agg #[.int .u8 (k:Int),.int .u64 0,.int .u64 0,.int .u64 0,.int .u64 0,.string ⟨#[]⟩,.int .i64 0,.int .i64 0,.slice none 0 0],.slice A (zs.length+2) c] w (D9 D B f H R ⟨{CZ k with kids:=z1::z2::zs},A,c⟩ w)from
   FT D w B f H R (CZ k) (.slice none 0 0) A c (z1::z2::zs) HR.out hD HK.out (OZ hkk (by omega)) hl hB)
  have i1:(((zs.length:Int)+2)==0)=false:=by simp;omega
  have i2:(((zs.length:Int)+2)==1)=false:=by simp;omega
  go_enter Tryz.func47,Tryz.ntmps47
  go_wp2_with (first
   |(go_at_call 43;(with_reducible refine HA.out.mono ?_);rintro e w1 ⟨nA,nc,f',rfl,h1,h2,h3⟩;have H1:=qd h1;have H2:=qd h2;have H3:=qd h3;clear h1 h2 h3)
   |fail)
  go_ret;exact⟨nA,nc,f',_,by simp[Cd],H1.out,by simp[Cd,EI],H2.out,H3.out⟩
end Go.Proofs.YtdnochjajoiooaaGreatDoor
