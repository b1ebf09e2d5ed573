/- The parser's reader in memory: who owns which block. The contracts of the reader's word, place, accept. -/
import Derived.Test.YtpfokabdpmjobaaGreatDoorJb
import Derived.Test.YtpfokabdpmjobaaGreatDoorDw
import Derived.Test.YtpfokabdpmjobaaGreatDoorLu
import Derived.BigQuiet
import Derived.Deep.RegionHeld3
import Derived.Deep.DeepCutAuto
import Derived.Deep.Cut
import Derived.Deep.CutRange
namespace Go.Proofs.YtpfokabdpmjobaaGreatDoor
open Go.RowKit
set_option linter.unusedSimpArgs false
set_option linter.unusedVariables false
inductive Ow where
 |out|tmp|box|words|nodes|kids|list|defs|names|calls
 |ways (j:Nat)|parts (j:Nat)|heads (j:Nat)|body (j:Nat)
deriving DecidableEq
def OwnF (w:World) (B:Nat) (f:Nat→Ow) (o:Ow) (e:TypeId) (size:Nat) (V:Option Addr) (n c:Nat) (xs:List Value):Prop:=
 w.ownsRow B e size (.slice V n c) n xs∧ ∀k,blkOf V=some k→f k=o
structure KeepF (X:Ow→Prop) (f f':Nat→Ow) (w w':World):Prop where
 size:w.heap.size≤w'.heap.size
 block:∀k,k<w.heap.size→ ¬X (f k)→w'.heap[k]?=w.heap[k]?
 own:∀k,k<w.heap.size→f' k=f k
def updF (f:Nat→Ow) (b:Nat) (o:Ow):Nat→Ow:=fun k=>if k=b then o else f k
theorem KeepF.refl (X:Ow→Prop) (f:Nat→Ow) (w:World):KeepF X f f w w:=⟨Nat.le_refl _,fun _ _ _=>rfl,fun _ _=>rfl⟩
theorem KeepF.mono {X Y:Ow→Prop} {f f':Nat→Ow} {w w':World} (h:KeepF X f f' w w') (hxy:∀o,X o→Y o):KeepF Y f f' w w':=⟨h.size,fun k hk hn=>h.block k hk fun hx=>hn (hxy _ hx),h.own⟩
theorem KeepF.trans {X:Ow→Prop} {f f' f'':Nat→Ow} {w w' w'':World} (h:KeepF X f f' w w') (k:KeepF X f' f'' w' w''):KeepF X f f'' w w'':=
 ⟨Nat.le_trans h.size k.size,fun i hi hn=>(k.block i (Nat.lt_of_lt_of_le hi h.size) (by rw[h.own i hi];exact hn)).trans (h.block i hi hn),fun i hi=>(k.own i (Nat.lt_of_lt_of_le hi h.size)).trans (h.own i hi)⟩
theorem KeepF.below {X:Ow→Prop} {f:Nat→Ow} {w w':World} (h:Below w.heap.size w w'):KeepF X f f w w':=⟨h.size,fun k hk _=>h.block k hk,fun _ _=>rfl⟩
theorem KeepF.upd {X:Ow→Prop} {f f':Nat→Ow} {w w':World} (h:KeepF X f f' w w') (o:Ow) {b:Nat} (hb:w.heap.size≤b):KeepF X f (updF f' b o) w w':=
 ⟨h.size,h.block,fun k hk=>by unfold updF;rw[if_neg (by omega)];exact h.own k hk⟩
theorem KeepF.set {X:Ow→Prop} {f:Nat→Ow} {w:World} {b i:Nat} {u:Value} (h:X (f b)):KeepF X f f w (w.setCell ⟨b,i,none⟩ u):=
 ⟨((Below.refl b w).setCell (p:=⟨b,i,none⟩) (Nat.le_refl _) u).size,fun k _ hn=>Below.heap_setCell _ _ _ _ (fun e=>hn (by have e:k=b:=e;rw[e];exact h)),fun _ _=>rfl⟩
theorem OwnF.keep {X:Ow→Prop} {f f':Nat→Ow} {w w':World} {B:Nat} {o:Ow} {e:TypeId} {size n c:Nat} {V:Option Addr} {xs:List Value} (h:OwnF w B f o e size V n c xs) (hk:KeepF X f f' w w') (ho:¬X o):OwnF w' B f' o e size V n c xs:=
 ⟨own_agree h.1 fun k hv=>hk.block k (own_blk h.1 k hv).2 (by rw[h.2 k hv];exact ho),fun k hv=>(hk.own k (own_blk h.1 k hv).2).trans (h.2 k hv)⟩
theorem OwnF.nil (w:World) (B:Nat) (f:Nat→Ow) (o:Ow) (e:TypeId) (size:Nat):OwnF w B f o e size none 0 0 []:=⟨World.ownsRow_nil _ _ _ _,fun k hk=>by cases hk⟩
theorem KeepF.grown {X:Ow→Prop} {f:Nat→Ow} {w w':World} {B:Nat} {o:Ow} {e:TypeId} {size n c:Nat} {V:Option Addr} {xs:List Value} (h:OwnF w B f o e size V n c xs) (ho:X o) (hg:w.grownBy w' (blkOf V)):KeepF X f (updF f w.heap.size o) w w':=
 ⟨hg.size,fun k hk hn=>hg.block k hk (fun e=>hn (by rw[h.2 k e.symm];exact ho)),fun k hk=>by unfold updF;rw[if_neg (by omega)]⟩
theorem OwnF.grown {f:Nat→Ow} {w w':World} {B:Nat} {o:Ow} {e:TypeId} {size n n' c c':Nat} {V V':Option Addr} {xs ys:List Value} (h:OwnF w B f o e size V n c xs) (h2:w'.ownsRow B e size (.slice V' n' c') n' ys) (hv:blkOf V'=blkOf V∨blkOf V'=some w.heap.size):OwnF w' B (updF f w.heap.size o) o e size V' n' c' ys:=
 ⟨h2,fun k hk=>by
  unfold updF
  rcases hv with hv|hv
  ·split
   ·rfl
   ·exact h.2 k (by rw[←hv];exact hk)
  ·rw[hv]at hk;cases hk;rw[if_pos rfl]⟩
theorem OwnF.below {f:Nat→Ow} {w w':World} {B:Nat} {o:Ow} {e:TypeId} {size n c:Nat} {V:Option Addr} {xs:List Value} (h:OwnF w B f o e size V n c xs) (hb:Below w.heap.size w w'):OwnF w' B f o e size V n c xs:=h.keep (X:=fun _=>False) (KeepF.below hb) id
theorem OwnF.row {f:Nat→Ow} {w:World} {B:Nat} {o:Ow} {e:TypeId} {size n c:Nat} {V:Option Addr} {xs:List Value} (h:OwnF w B f o e size V n c xs):OwnS w (fun k=>f k=o∧B≤k) e size V n c xs:=
 ⟨own_mono h.1 (Nat.zero_le _),fun k hk=>⟨h.2 k hk,(own_blk h.1 k hk).1⟩⟩
structure Ol where
 fin:Nat
 name:List UInt8
 wA:Option Addr
 wc:Nat
 ways:List Int
 pA:Option Addr
 pc:Nat
 parts:List Int
 hA:Option Addr
 hc:Nat
 heads:List Nat
def Ol.ob (o:Ol):Ob:=⟨o.fin,o.name,o.ways,o.parts,o.heads⟩
def olL:Lay Ol where
 size:=5
 cells o:=[.int .u8 (o.fin:Int),.string ⟨o.name.toArray⟩,.slice o.wA o.ways.length o.wc,.slice o.pA o.parts.length o.pc,.slice o.hA o.heads.length o.hc]
 len _:=rfl
 one _ u hu:=by
  simp only[List.mem_cons,List.not_mem_nil,or_false]at hu
  rcases hu with rfl|rfl|rfl|rfl|rfl <;> rfl
 inn _ _ _:=True
 agree _ _:=trivial
 mono _ _:=trivial
structure Rd where
 WA:Option Addr
 Wc:Nat
 W:List Wd
 fin:Nat
 i:Nat
 nA:Option Addr
 nc:Nat
 ls:List Ln
 lA:Option Addr
 lc:Nat
 os:List Ol
 dA:Option Addr
 dc:Nat
 ds:List Ld
 mA:Option Addr
 mc:Nat
 ms:List Wd
 cA:Option Addr
 cc:Nat
 cs:List Wd
 keep:List (Nat×Obj)
def Rd.cells (R:Rd):Array Value:= #[.slice R.WA R.W.length R.Wc,.int .i64 (R.fin:Int),.int .i64 (R.i:Int),.slice R.nA R.ls.length R.nc,.slice R.lA R.os.length R.lc,.slice R.dA R.ds.length R.dc,.slice R.mA R.ms.length R.mc,.slice R.cA R.cs.length R.cc]
def RFact (w:World) (B:Nat) (f:Nat→Ow) (H:Nat) (R:Rd):Ow→Prop
 |.out=>∀p∈R.keep,w.heap[p.1]?=some p.2∧f p.1=.out
 |.tmp=>True
 |.box=>w.heap[H]?=some (.cells R.cells 82 (0,0))∧B≤H∧f H=.box
 |.words=>OwnF w B f .words 32 10 R.WA R.W.length R.Wc (wdL R.W)
 |.nodes=>OwnF w B f .nodes 54 9 R.nA R.ls.length R.nc (ndL.all R.ls)
 |.kids=>∀l∈R.ls,l.nd.wf∧OwnF w B f .kids 3 1 l.A l.nd.kids.length l.c (intL.all l.nd.kids)
 |.list=>OwnF w B f .list 117 5 R.lA R.os.length R.lc (olL.all R.os)
 |.ways j=>∀h:j<R.os.length,OwnF w B f (.ways j) 3 1 R.os[j].wA R.os[j].ways.length R.os[j].wc (intL.all R.os[j].ways)
 |.parts j=>∀h:j<R.os.length,OwnF w B f (.parts j) 3 1 R.os[j].pA R.os[j].parts.length R.os[j].pc (intL.all R.os[j].parts)
 |.heads j=>∀h:j<R.os.length,OwnF w B f (.heads j) 5 1 R.os[j].hA R.os[j].heads.length R.os[j].hc (R.os[j].heads.map fun k:Nat=>Value.int .u8 (k:Int))
 |.defs=>OwnF w B f .defs 45 3 R.dA R.ds.length R.dc (dfL.all R.ds)
 |.body j=>∀h:j<R.ds.length,R.ds[j].name.size≤281474976710656∧TreeOwn w (fun k=>f k=.body j∧B≤k) R.ds[j].t
 |.names=>OwnF w B f .names 32 10 R.mA R.ms.length R.mc (wdL R.ms)
 |.calls=>OwnF w B f .calls 32 10 R.cA R.cs.length R.cc (wdL R.cs)
def RdM (D:Ow→Prop) (w:World) (B:Nat) (f:Nat→Ow) (H:Nat) (R:Rd):Prop:=∀o,¬D o→RFact w B f H R o
theorem TreeOwn.keep {X:Ow→Prop} {f f':Nat→Ow} {w w':World} {B:Nat} {o:Ow} {t:Lt} (h:TreeOwn w (fun k=>f k=o∧B≤k) t) (hk:KeepF X f f' w w') (ho:¬X o):TreeOwn w' (fun k=>f' k=o∧B≤k) t:=
 (h.mono (T:=fun k=>k<w.heap.size∧f k=o∧B≤k) (fun k hk h=>⟨hk,h⟩)).agree (fun k hx _=>hk.block k hx.1 (by rw[hx.2.1];exact ho)) |>.mono fun k _ hx=>⟨(hk.own k hx.1).trans hx.2.1,hx.2.2⟩
theorem RFact.keep {X:Ow→Prop} {f f':Nat→Ow} {w w':World} {B H:Nat} {R:Rd} {o:Ow} (h:RFact w B f H R o) (hk:KeepF X f f' w w') (ho:¬X o):RFact w' B f' H R o:=by
 cases o with
 |out=>
  intro p hp
  obtain⟨h1,h2⟩:=h p hp
  have hl:p.1<w.heap.size:=(Array.getElem?_eq_some_iff.1 h1).1
  exact⟨(hk.block p.1 hl (by rw[h2];exact ho)).trans h1,(hk.own p.1 hl).trans h2⟩
 |tmp=>trivial
 |box=>
  obtain⟨h1,h2,h3⟩:=h
  have hl:H<w.heap.size:=(Array.getElem?_eq_some_iff.1 h1).1
  exact⟨(hk.block H hl (by rw[h3];exact ho)).trans h1,h2,(hk.own H hl).trans h3⟩
 |words=>exact OwnF.keep h hk ho
 |nodes=>exact OwnF.keep h hk ho
 |kids=>exact fun l hl=>⟨(h l hl).1,(h l hl).2.keep hk ho⟩
 |list=>exact OwnF.keep h hk ho
 |ways j=>exact fun hj=>(h hj).keep hk ho
 |parts j=>exact fun hj=>(h hj).keep hk ho
 |heads j=>exact fun hj=>(h hj).keep hk ho
 |defs=>exact OwnF.keep h hk ho
 |body j=>exact fun hj=>⟨(h hj).1,(h hj).2.keep hk ho⟩
 |names=>exact OwnF.keep h hk ho
 |calls=>exact OwnF.keep h hk ho
theorem RdM.below {D:Ow→Prop} {f:Nat→Ow} {w w':World} {B H:Nat} {R:Rd} (h:RdM D w B f H R) (hb:Below w.heap.size w w'):RdM D w' B f H R:=fun o ho=>(h o ho).keep (X:=fun _=>False) (KeepF.below hb) id
theorem RdM.mono {D D':Ow→Prop} {f:Nat→Ow} {w:World} {B H:Nat} {R:Rd} (h:RdM D w B f H R) (hd:∀o,D o→D' o):RdM D' w B f H R:=fun o ho=>h o fun hd'=>ho (hd o hd')
theorem RdM.step {X D:Ow→Prop} {f f':Nat→Ow} {w w':World} {B H:Nat} {R R':Rd} (h:RdM D w B f H R) (hk:KeepF X f f' w w') (hn:∀o,¬D o→X o→RFact w' B f' H R' o) (he:∀o,¬D o→ ¬X o→RFact w' B f' H R o→RFact w' B f' H R' o):RdM D w' B f' H R':=fun o ho=>by
 by_cases hx:X o
 ·exact hn o ho hx
 ·exact he o ho hx ((h o ho).keep hk hx)
theorem RdM.upd {D:Ow→Prop} {f:Nat→Ow} {w:World} {B H:Nat} {R:Rd} (h:RdM D w B f H R) (o:Ow) {b:Nat} (hb:w.heap.size≤b):RdM D w B (updF f b o) H R:=fun o' ho=>(h o' ho).keep (X:=fun _=>False) ((KeepF.refl _ f w).upd o hb) id
theorem box_cells {w:World} {H i:Nat} {cs:Array Value} {T:TypeId} (h:w.heap[H]?=some (.cells cs T (0,0))) (u:Value):(w.setCell ⟨H,i,none⟩ u).heap[H]?=some (.cells (cs.setIfInBounds i u) T (0,0)):=heap_setCell_same w H i cs T u h
end Go.Proofs.YtpfokabdpmjobaaGreatDoor
namespace Go.Proofs.YtpfokabdpmjobaaGreatDoor
open Go.RowKit
set_option linter.unusedSimpArgs false
set_option linter.unusedVariables false
theorem blk8 {w:World} {b:Nat} {x0 x1 x2 x3 x4 x5 x6 x7:Value} {T:TypeId} (h:w.heap[b]?=some (.cells #[x0,x1,x2,x3,x4,x5,x6,x7] T (0,0))):
  w.cell? ⟨b,0,none⟩=some x0∧w.cell? ⟨b,1,none⟩=some x1∧w.cell? ⟨b,2,none⟩=some x2∧w.cell? ⟨b,3,none⟩=some x3∧w.cell? ⟨b,4,none⟩=some x4∧w.cell? ⟨b,5,none⟩=some x5∧w.cell? ⟨b,6,none⟩=some x6∧w.cell? ⟨b,7,none⟩=some x7∧ ∀i,w.frozen? ⟨b,i,none⟩=false:=by
 simp[World.cell?,World.frozen?,h]
theorem rdput_below {w W:World} (h:Below w.heap.size w W) (n:Nat) (y0 y1 y2 y3 y4 y5 y6 y7 y8 y9:Value):Below w.heap.size w (putW (W.drewN n) w.heap.size y0 y1 y2 y3 y4 y5 y6 y7 y8 y9):=by
 have h0:Below w.heap.size w (W.drewN n):=Below.drewN'' h n
 exact(((((((((h0.setCell (p:=⟨w.heap.size,0,none⟩) (Nat.le_refl _) _).setCell (p:=⟨w.heap.size,1,none⟩) (Nat.le_refl _) _).setCell (p:=⟨w.heap.size,2,none⟩) (Nat.le_refl _) _).setCell (p:=⟨w.heap.size,3,none⟩) (Nat.le_refl _) _).setCell (p:=⟨w.heap.size,4,none⟩) (Nat.le_refl _) _).setCell (p:=⟨w.heap.size,5,none⟩) (Nat.le_refl _) _).setCell (p:=⟨w.heap.size,6,none⟩) (Nat.le_refl _) _).setCell (p:=⟨w.heap.size,7,none⟩) (Nat.le_refl _) _).setCell (p:=⟨w.heap.size,8,none⟩) (Nat.le_refl _) _).setCell (p:=⟨w.heap.size,9,none⟩) (Nat.le_refl _) _
theorem RdM.box {D:Ow→Prop} {w:World} {B:Nat} {f:Nat→Ow} {H:Nat} {R:Rd} (h:RdM D w B f H R) (hD:¬D .box):w.heap[H]?=some (.cells #[.slice R.WA R.W.length R.Wc,.int .i64 (R.fin:Int),.int .i64 (R.i:Int),.slice R.nA R.ls.length R.nc,.slice R.lA R.os.length R.lc,.slice R.dA R.ds.length R.dc,.slice R.mA R.ms.length R.mc,.slice R.cA R.cs.length R.cc] 82 (0,0)):=(h .box hD).1
def zeroWd:Wd:=⟨0,0,0,[],0,0,0,0,0,0⟩
theorem wd_none {W:List Wd} {i:Nat} (h:W.length≤i):wdW W i=zeroWd:=by simp[wdW,zeroWd,List.getElem?_eq_none h]
set_option maxRecDepth 100000 in
set_option maxHeartbeats 3200000 in
theorem word_any (D:Ow→Prop) (w:World) (B:Nat) (f:Nat→Ow) (H:Nat) (R:Rd) (b:Nat) (h:RdM D w B f H R) (hD:¬D .box∧ ¬D .words) (hi:R.i≤100000) (hb:b≤2):
  Calls Tryz.prog 72 #[.pointer (some ⟨H,0,none⟩),.int .i64 (b:Int)] w fun e w'=>e=.returned (wdV (wdW R.W (R.i+b)))∧Below w.heap.size w w':=by
 have HBX:=Lib.hid (h.box hD.1)
 have HWD:=Lib.hid (h .words hD.2)
 clear h hD
 obtain⟨WA,Wc,W,fin,i,nA,nc,ls,lA,lc,os,dA,dc,ds,mA,mc,ms,cA,cc,cs⟩:=R
 simp only[RFact]at HBX HWD hi ⊢
 have HB0:=Lib.hid (bx1 w (.cells #[.int .u8 0,.int .i64 0,.int .i64 0,.string ⟨#[]⟩,.int .u64 0,.int .u64 0,.int .u64 0,.int .u64 0,.int .i64 0,.int .i64 0] 32))
 have HK0:=Lib.hid (bx_new w (.cells #[.int .u8 0,.int .i64 0,.int .i64 0,.string ⟨#[]⟩,.int .u64 0,.int .u64 0,.int .u64 0,.int .u64 0,.int .i64 0,.int .i64 0] 32))
 have e5:IntKind.i64.wrap ((i:Int)+(b:Int))=(i:Int)+(b:Int):=IntWalk.i64_in _ (by omega)
 generalize hxv:wdW W (i+b)=xv
 go_enter Tryz.func72,Tryz.ntmps72
 go_upto_region 1 with(fail)
 have HBX0:=Lib.hid (bx_kept HB0.out HBX.out)
 have HWD0:=Lib.hid (HWD.out.below HB0.out)
 generalize (w.alloc (.cells #[.int .u8 0,.int .i64 0,.int .i64 0,.string ⟨#[]⟩,.int .u64 0,.int .u64 0,.int .u64 0,.int .u64 0,.int .i64 0,.int .i64 0] 32))=W0 at *
 obtain⟨c0,c1,c2,c3,c4,c5,c6,c7,_⟩:=blk8 HBX0.out
 obtain⟨d0,d1,d2,d3,d4,d5,d6,d7,d8,d9,df⟩:=blk10 HK0.out
 clear HBX HWD
 by_cases hlt:i+b<W.length
 ·have i1:¬((W.length:Int)≤(i:Int)+(b:Int)):=by omega
  have i2:(0:Int)≤(i:Int)+(b:Int):=by omega
  have i3:(i:Int)+(b:Int)<(W.length:Int):=by omega
  rw[wd_at hlt]at hxv
  obtain⟨g,rfl,_,hg⟩:=own_some HWD0.out.1 (by omega)
  obtain⟨x0,x1,x2,x3,x4,x5,x6,x7,x8,x9⟩:=word_ten HWD0.out.1 (i+b) ((i+b)*10) rfl xv (by rw[←hxv];exact List.getElem?_eq_getElem hlt)
  clear hxv
  go_quiet (fail)
  go_upto_region 3 with(fail)
  go_region
  have HK1:=Lib.hid (putW_blk (W:=W0.drewN (nq+1)) HK0.out (.int .u8 (xv.kind:Int)) (.int .i64 (xv.frm:Int)) (.int .i64 (xv.til:Int)) (.string ⟨xv.text.toArray⟩) (.int .u64 (xv.s0:Int)) (.int .u64 (xv.s1:Int)) (.int .u64 (xv.s2:Int)) (.int .u64 (xv.s3:Int)) (.int .i64 xv.low) (.int .i64 xv.high))
  have HB1:=Lib.hid (rdput_below HB0.out (nq+1) (.int .u8 (xv.kind:Int)) (.int .i64 (xv.frm:Int)) (.int .i64 (xv.til:Int)) (.string ⟨xv.text.toArray⟩) (.int .u64 (xv.s0:Int)) (.int .u64 (xv.s1:Int)) (.int .u64 (xv.s2:Int)) (.int .u64 (xv.s3:Int)) (.int .i64 xv.low) (.int .i64 xv.high))
  clear c0 c1 c2 c3 c4 c5 c6 c7 d0 d1 d2 d3 d4 d5 d6 d7 d8 d9 df x0 x1 x2 x3 x4 x5 x6 x7 x8 x9
  unfold putW at HK1 HB1
  generalize (((((((((((W0.drewN (nq+1)).setCell ⟨w.heap.size,0,none⟩ (.int .u8 (xv.kind:Int))).setCell ⟨w.heap.size,1,none⟩ (.int .i64 (xv.frm:Int))).setCell ⟨w.heap.size,2,none⟩ (.int .i64 (xv.til:Int))).setCell ⟨w.heap.size,3,none⟩ (.string ⟨xv.text.toArray⟩)).setCell ⟨w.heap.size,4,none⟩ (.int .u64 (xv.s0:Int))).setCell ⟨w.heap.size,5,none⟩ (.int .u64 (xv.s1:Int))).setCell ⟨w.heap.size,6,none⟩ (.int .u64 (xv.s2:Int))).setCell ⟨w.heap.size,7,none⟩ (.int .u64 (xv.s3:Int))).setCell ⟨w.heap.size,8,none⟩ (.int .i64 xv.low)).setCell ⟨w.heap.size,9,none⟩ (.int .i64 xv.high))=W1 at *
  obtain⟨d0,d1,d2,d3,d4,d5,d6,d7,d8,d9,df⟩:=blk10 HK1.out
  go_wp2_with fail
  exact bodyPost_ret (v:=wdV xv) (by simp[results,Tryz.results72,go_sem,d0,d1,d2,d3,d4,d5,d6,d7,d8,d9]) rfl ⟨rfl,HB1.out⟩
 ·have i1:((W.length:Int)≤(i:Int)+(b:Int)):=by omega
  rw[wd_none (by omega)]at hxv
  subst hxv
  go_quiet (fail)
  go_wp2_with fail
  have HK1:=Lib.hid (putW_blk (W:=W0.drewN nq) HK0.out (.int .u8 0) (.int .i64 0) (.int .i64 0) (.string ⟨#[]⟩) (.int .u64 0) (.int .u64 0) (.int .u64 0) (.int .u64 0) (.int .i64 0) (.int .i64 0))
  have HB1:=Lib.hid (rdput_below HB0.out nq (.int .u8 0) (.int .i64 0) (.int .i64 0) (.string ⟨#[]⟩) (.int .u64 0) (.int .u64 0) (.int .u64 0) (.int .u64 0) (.int .i64 0) (.int .i64 0))
  clear c0 c1 c2 c3 c4 c5 c6 c7 d0 d1 d2 d3 d4 d5 d6 d7 d8 d9 df
  unfold putW at HK1 HB1
  generalize (((((((((((W0.drewN nq).setCell ⟨w.heap.size,0,none⟩ (.int .u8 0)).setCell ⟨w.heap.size,1,none⟩ (.int .i64 0)).setCell ⟨w.heap.size,2,none⟩ (.int .i64 0)).setCell ⟨w.heap.size,3,none⟩ (.string ⟨#[]⟩)).setCell ⟨w.heap.size,4,none⟩ (.int .u64 0)).setCell ⟨w.heap.size,5,none⟩ (.int .u64 0)).setCell ⟨w.heap.size,6,none⟩ (.int .u64 0)).setCell ⟨w.heap.size,7,none⟩ (.int .u64 0)).setCell ⟨w.heap.size,8,none⟩ (.int .i64 0)).setCell ⟨w.heap.size,9,none⟩ (.int .i64 0))=W1 at *
  obtain⟨d0,d1,d2,d3,d4,d5,d6,d7,d8,d9,df⟩:=blk10 HK1.out
  exact bodyPost_ret (v:=wdV zeroWd) (by simp[results,Tryz.results72,go_sem,d0,d1,d2,d3,d4,d5,d6,d7,d8,d9,zeroWd]) rfl ⟨rfl,HB1.out⟩
set_option maxRecDepth 100000 in
set_option maxHeartbeats 3200000 in
theorem place_any (D:Ow→Prop) (w:World) (B:Nat) (f:Nat→Ow) (H:Nat) (R:Rd) (h:RdM D w B f H R) (hD:¬D .box∧ ¬D .words):
  Calls Tryz.prog 42 #[.pointer (some ⟨H,0,none⟩)] w fun e w'=>e=.returned (.int .i64 (placeW R.W R.fin R.i:Nat))∧Below w.heap.size w w':=by
 have HBX:=Lib.hid (h.box hD.1)
 have HWD:=Lib.hid (h .words hD.2)
 clear h hD
 obtain⟨WA,Wc,W,fin,i,nA,nc,ls,lA,lc,os,dA,dc,ds,mA,mc,ms,cA,cc,cs⟩:=R
 simp only[RFact]at HBX HWD ⊢
 obtain⟨c0,c1,c2,c3,c4,c5,c6,c7,_⟩:=blk8 HBX.out
 by_cases hlt:i<W.length
 ·have i1:¬((W.length:Int)≤(i:Int)):=by omega
  have i2:(0:Int)≤(i:Int):=by omega
  have i3:(i:Int)<(W.length:Int):=by omega
  have ep:placeW W fin i=W[i].frm:=by simp[placeW,List.getElem?_eq_getElem hlt]
  rw[ep]
  clear ep
  obtain⟨g,rfl,_,hg⟩:=own_some HWD.out.1 (by omega)
  obtain⟨x0,x1,x2,x3,x4,x5,x6,x7,x8,x9⟩:=word_ten HWD.out.1 i (i*10) rfl W[i] (List.getElem?_eq_getElem hlt)
  generalize W[i]=xv at *
  go_enter Tryz.func42,Tryz.ntmps42
  go_upto_region 1 with(fail)
  go_quiet (fail)
  go_upto_region 3 with(fail)
  go_quiet (fail)
  go_wp2_with fail
  go_ret
  exact⟨rfl,Below.drewN'' (Below.refl _ _) _⟩
 ·have i1:((W.length:Int)≤(i:Int)):=by omega
  have ep:placeW W fin i=fin:=by simp[placeW,List.getElem?_eq_none (show W.length≤i by omega)]
  rw[ep]
  clear ep
  go_enter Tryz.func42,Tryz.ntmps42
  go_upto_region 1 with(fail)
  go_quiet (fail)
  go_wp2_with fail
  go_ret
  exact⟨rfl,Below.drewN'' (Below.refl _ _) _⟩
theorem RdM.setI {D:Ow→Prop} {w:World} {B:Nat} {f:Nat→Ow} {H:Nat} {R:Rd} (h:RdM D w B f H R) (hD:¬D .box) (j:Nat):
  RdM D (w.setCell ⟨H,2,none⟩ (.int .i64 (j:Int))) B f H {R with i:=j}∧KeepF (fun o=>o=.box) f f w (w.setCell ⟨H,2,none⟩ (.int .i64 (j:Int)))∧Below B w (w.setCell ⟨H,2,none⟩ (.int .i64 (j:Int))):=by
 obtain⟨hb,hB,hf⟩:=h .box hD
 have hk:KeepF (fun o=>o=.box) f f w (w.setCell ⟨H,2,none⟩ (.int .i64 (j:Int))):=KeepF.set hf
 refine⟨h.step hk (fun o ho hx=> ?_) (fun o ho hx hr=> ?_),hk,(Below.refl B w).setCell (p:=⟨H,2,none⟩) hB _⟩
 ·subst hx
  refine⟨?_,hB,hf⟩
  have:=box_cells (i:=2) hb (.int .i64 (j:Int))
  simpa[Rd.cells]using this
 ·cases o with
  |box=>exact absurd rfl hx
  |_=>exact hr
theorem field_word0 (x:Wd) (w:World):(Instr.field 32 (.agg #[.int .u8 (x.kind:Int),.int .i64 (x.frm:Int),.int .i64 (x.til:Int),.string ⟨x.text.toArray⟩,.int .u64 (x.s0:Int),.int .u64 (x.s1:Int),.int .u64 (x.s2:Int),.int .u64 (x.s3:Int),.int .i64 x.low,.int .i64 x.high]) 0).run Tryz.prog w=.ok (.int .u8 (x.kind:Int)) w:=by
 kernel_rfl
theorem field_word3 (x:Wd) (w:World):(Instr.field 32 (.agg #[.int .u8 (x.kind:Int),.int .i64 (x.frm:Int),.int .i64 (x.til:Int),.string ⟨x.text.toArray⟩,.int .u64 (x.s0:Int),.int .u64 (x.s1:Int),.int .u64 (x.s2:Int),.int .u64 (x.s3:Int),.int .i64 x.low,.int .i64 x.high]) 3).run Tryz.prog w=.ok (.string ⟨x.text.toArray⟩) w:=by
 kernel_rfl
attribute [local go_sem] field_word0 field_word3
def AcceptPost (D:Ow→Prop) (B:Nat) (f:Nat→Ow) (H:Nat) (R:Rd) (k:Nat) (w:World) (e:Ending) (w':World):Prop:=
 (kdW R.W R.i=k→e=.returned (.bool true)∧RdM D w' B f H {R with i:=R.i+1})∧(kdW R.W R.i≠k→e=.returned (.bool false)∧RdM D w' B f H R)∧KeepF (fun o=>o=.box) f f w w'∧Below B w w'
theorem kd_wd (W:List Wd) (i:Nat):(wdW W i).kind=kdW W i:=by
 unfold wdW kdW
 cases W[i]? <;> rfl
set_option maxRecDepth 100000 in
set_option maxHeartbeats 3200000 in
theorem accept_any (D:Ow→Prop) (w:World) (B:Nat) (f:Nat→Ow) (H:Nat) (R:Rd) (k:Nat) (h:RdM D w B f H R) (hD:¬D .box∧ ¬D .words) (hi:R.i≤65536) (hB:B≤w.heap.size):
  Calls Tryz.prog 76 #[.pointer (some ⟨H,0,none⟩),.int .u8 (k:Int)] w (AcceptPost D B f H R k w):=by
 have HW:=Lib.hid (show ∀w',Below w.heap.size w w'→Calls Tryz.prog 72 #[.pointer (some ⟨H,0,none⟩),.int .i64 0] w' fun e w''=>e=.returned (wdV (wdW R.W R.i))∧Below w'.heap.size w' w'' from fun w' hb=>word_any D w' B f H R 0 (h.below hb) hD (by omega) (by omega))
 have HR:=Lib.hid h
 have hkd:=kd_wd R.W R.i
 go_enter Tryz.func76,Tryz.ntmps76
 by_cases hk:kdW R.W R.i=k
 ·have e1:(((wdW R.W R.i).kind:Int) != (k:Int))=false:=by rw[hkd,hk];simp
  have e5:IntKind.i64.wrap ((R.i:Int)+1)=(R.i:Int)+1:=IntWalk.i64_in _ (by omega)
  clear hkd
  go_wp2_with (first
   |(go_at_call 72;(with_reducible refine(HW.out _ (Below.refl _ _)).mono ?_);rintro e w1 ⟨rfl,hb⟩;have HB1:=Lib.hid hb;have HR1:=Lib.hid (HR.out.below hb);obtain⟨c0,c1,c2,c3,c4,c5,c6,c7,cf⟩:=blk8 (HR1.out.box hD.1);clear hb)
   |fail)
  have hs:=HR1.out.setI hD.1 (R.i+1)
  go_ret
  exact⟨fun _=>⟨rfl,hs.1⟩,fun hn=>absurd hk hn,(KeepF.below HB1.out).trans hs.2.1,(HB1.out.mono hB).trans hs.2.2⟩
 ·have e1:(((wdW R.W R.i).kind:Int) != (k:Int))=true:=by rw[hkd];simp;omega
  clear hkd
  go_wp2_with (first
   |(go_at_call 72;(with_reducible refine(HW.out _ (Below.refl _ _)).mono ?_);rintro e w1 ⟨rfl,hb⟩;have HB1:=Lib.hid hb;have HR1:=Lib.hid (HR.out.below hb);clear hb)
   |fail)
  go_ret
  exact⟨fun hn=>absurd hn hk,fun _=>⟨rfl,HR1.out⟩,KeepF.below HB1.out,HB1.out.mono hB⟩
end Go.Proofs.YtpfokabdpmjobaaGreatDoor
