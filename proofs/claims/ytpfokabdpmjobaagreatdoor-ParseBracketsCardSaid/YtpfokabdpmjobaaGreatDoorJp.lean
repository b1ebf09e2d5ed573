/- The contracts of the reader's add and join. -/
import Derived.Test.YtpfokabdpmjobaaGreatDoorJo
namespace Go.Proofs.YtpfokabdpmjobaaGreatDoor
open Go.RowKit
set_option linter.unusedSimpArgs false
set_option linter.unusedVariables false
abbrev ndC (n:Nd) (K:Value):Array Value:= #[.int .u8 n.kind,.int .u64 n.s0,.int .u64 n.s1,.int .u64 n.s2,.int .u64 n.s3,.string n.text,.int .i64 n.mn,.int .i64 n.mx,K]
def AddPost (D:Ow→Prop) (B:Nat) (f:Nat→Ow) (H:Nat) (R:Rd) (x:Ln) (w:World) (e:Ending) (w':World):Prop:=
 ∃nA nc f',e=.returned (.int .i64 (R.ls.length:Int))∧RdM D w' B f' H {R with nA:=nA,nc:=nc,ls:=R.ls++[x]}∧KeepF (fun o=>o=.box∨o=.nodes) f f' w w'∧Below B w w'
theorem add_done {D:Ow→Prop} {w W1 w2:World} {B:Nat} {f:Nat→Ow} {H:Nat} {R:Rd} {x:Ln} {V V':Option Addr} {vc' m:Nat} (h:RdM D w B f H R) (hD:¬D .box∧ ¬D .nodes∧ ¬D .kids) (hb:Below w.heap.size w W1) (hm:R.ls.length=m) (hV:R.nA=V)
  (hO2:w2.ownsRow B 54 9 (.slice V' (m+1) vc') (m+1) (ndL.all (R.ls++[x]))) (hg:W1.grownBy w2 (blkOf V)) (hv:blkOf V'=blkOf V∨blkOf V'=some W1.heap.size) (hw:x.nd.wf) (hx:OwnF w B f .kids 3 1 x.A x.nd.kids.length x.c (intL.all x.nd.kids)) (hB:B≤w.heap.size):
  RdM D (w2.setCell ⟨H,3,none⟩ (.slice V' (m+1) vc')) B (updF f W1.heap.size .nodes) H {R with nA:=V',nc:=vc',ls:=R.ls++[x]}∧KeepF (fun o=>o=.box∨o=.nodes) f (updF f W1.heap.size .nodes) w (w2.setCell ⟨H,3,none⟩ (.slice V' (m+1) vc'))∧Below B w (w2.setCell ⟨H,3,none⟩ (.slice V' (m+1) vc')):=by
 subst hm hV
 have k1:KeepF (fun o=>o=.box∨o=.nodes) f f w W1:=KeepF.below hb
 have hO1:OwnF W1 B f .nodes 54 9 R.nA R.ls.length R.nc (ndL.all R.ls):=OwnF.below (h .nodes hD.2.1) hb
 have k2:KeepF (fun o=>o=.box∨o=.nodes) f (updF f W1.heap.size .nodes) W1 w2:=KeepF.grown hO1 (.inr rfl) hg
 obtain⟨hbx,hBH,hfH⟩:=h .box hD.1
 have hlt:H<w.heap.size:=(Array.getElem?_eq_some_iff.1 hbx).1
 have hlt1:H<W1.heap.size:=Nat.lt_of_lt_of_le hlt hb.size
 have fH:updF f W1.heap.size .nodes H=.box:=by unfold updF;rw[if_neg (by omega)];exact hfH
 have k3:KeepF (fun o=>o=.box∨o=.nodes) (updF f W1.heap.size .nodes) (updF f W1.heap.size .nodes) w2 (w2.setCell ⟨H,3,none⟩ (.slice V' (R.ls.length+1) vc')):=KeepF.set (.inl fH)
 have K:=k1.trans (k2.trans k3)
 have hne:¬some H=blkOf R.nA:=fun e=>by have:=hO1.2 H e.symm;rw[hfH]at this;cases this
 refine⟨h.step K (fun o ho hX=> ?_) (fun o ho hX hr=> ?_),K,?_⟩
 ·rcases hX with rfl|rfl
  ·refine⟨?_,hBH,fH⟩
   have h2:w2.heap[H]?=some (.cells R.cells 82 (0,0)):=(hg.block H hlt1 hne).trans (bx_kept hb hbx)
   have:=box_cells (i:=3) h2 (.slice V' (R.ls.length+1) vc')
   simpa[Rd.cells]using this
  ·have h4:=(OwnF.grown hO1 hO2 hv).keep (X:=fun o=>o=.box) (KeepF.set fH (i:=3) (u:=.slice V' (R.ls.length+1) vc')) (by simp)
   show OwnF _ B _ .nodes _ 9 V' (R.ls++[x]).length vc' _
   rw[List.length_append]
   exact h4
 ·cases o with
  |box=>exact absurd (.inl rfl) hX
  |nodes=>exact absurd (.inr rfl) hX
  |kids=>
   intro l hl
   rcases List.mem_append.1 hl with hl|hl
   ·exact hr l hl
   ·obtain rfl:=List.mem_singleton.1 hl
    exact⟨hw,hx.keep K (by simp)⟩
  |_=>exact hr
 ·exact((hb.mono hB).grown hg (Nat.le_trans hB hb.size) (fun k hk=>(own_blk hO1.1 k hk).1)).setCell (p:=⟨H,3,none⟩) hBH _
set_option maxRecDepth 100000 in
set_option maxHeartbeats 6400000 in
theorem radd_any (D:Ow→Prop) (w:World) (B:Nat) (f:Nat→Ow) (H:Nat) (R:Rd) (n:Nd) (K:Value) (A:Option Addr) (c:Nat) (zs:List Int) (h:RdM D w B f H R) (hD:¬D .box∧ ¬D .nodes∧ ¬D .kids) (hk:OwnF w B f .kids 3 1 A zs.length c (intL.all zs))
  (hn:({n with kids:=zs}:Nd).wf) (hl:R.ls.length≤4294967296) (hB:B≤w.heap.size):
  Calls Tryz.prog 71 #[.pointer (some ⟨H,0,none⟩),.agg (ndC n K),.slice A zs.length c] w (AddPost D B f H R ⟨{n with kids:=zs},A,c⟩ w):=by
 obtain⟨j0,hj,hy0,hy1,hy2⟩:=info_parts infoNode
 have hzc:(Value.agg #[.int .u8 0,.int .u64 0,.int .u64 0,.int .u64 0,.int .u64 0,.string ByteArray.empty,.int .i64 0,.int .i64 0,.slice none 0 0]).cells.size=9:=rfl
 have HR:=Lib.hid h;have HKD:=Lib.hid hk;have HWF:=Lib.hid hn
 have hbx:=h.box hD.1
 have hfx:=(h .box hD.1).2
 have HO:=Lib.hid (show OwnF w B f .nodes 54 9 R.nA R.ls.length R.nc (ndL.all R.ls)from h .nodes hD.2.1)
 have HBX:=Lib.hid hbx;have HFX:=Lib.hid hfx
 have hlt:=heap_lt' hbx
 clear h hk hn hbx hfx
 obtain⟨a0,a1,a2,a3,a4,a5,a6,a7,a8,af⟩:=blk9 (bx_new w (.cells (ndC n K) 54))
 generalize hx:(⟨{n with kids:=zs},A,c⟩:Ln)=x
 have hxk:x.nd.kids=zs:=by rw[←hx]
 have HXC:=Lib.hid (show(Value.int .u8 x.nd.kind=.int .u8 n.kind∧Value.int .u64 x.nd.s0=.int .u64 n.s0∧Value.int .u64 x.nd.s1=.int .u64 n.s1∧Value.int .u64 x.nd.s2=.int .u64 n.s2∧Value.int .u64 x.nd.s3=.int .u64 n.s3∧Value.string x.nd.text=.string n.text∧Value.int .i64 x.nd.mn=.int .i64 n.mn∧Value.int .i64 x.nd.mx=.int .i64 n.mx)∧x.A=A∧x.c=c from by rw[←hx];exact⟨⟨rfl,rfl,rfl,rfl,rfl,rfl,rfl,rfl⟩,rfl,rfl⟩)
 have HXW:=Lib.hid (show x.nd.wf from by rw[←hx];exact HWF.out)
 clear hx
 have HWN:=Lib.hid (bx_new w (.cells #[.int .u8 n.kind,.int .u64 n.s0,.int .u64 n.s1,.int .u64 n.s2,.int .u64 n.s3,.string n.text,.int .i64 n.mn,.int .i64 n.mx,.slice A zs.length c] 54))
 have HWB:=Lib.hid (bx1 w (.cells #[.int .u8 n.kind,.int .u64 n.s0,.int .u64 n.s1,.int .u64 n.s2,.int .u64 n.s3,.string n.text,.int .i64 n.mn,.int .i64 n.mx,.slice A zs.length c] 54))
 go_enter Tryz.func71,Tryz.ntmps71
 go_upto_region 2 with(fail)
 clear a0 a1 a2 a3 a4 a5 a6 a7 a8 af
 generalize (w.alloc (.cells #[.int .u8 n.kind,.int .u64 n.s0,.int .u64 n.s1,.int .u64 n.s2,.int .u64 n.s3,.string n.text,.int .i64 n.mn,.int .i64 n.mx,.slice A zs.length c] 54))=W at *
 obtain⟨q0,q1,q2,q3,q4,q5,q6,q7,q8,_⟩:=blk9 HWN.out
 obtain⟨p0,p1,p2,p3,p4,p5,p6,p7,pf⟩:=blk8 (bx_kept HWB.out HBX.out)
 clear p0 p1 p2 p4 p5 p6 p7
 have HRW:=Lib.hid (HR.out.below HWB.out)
 have HOW:=Lib.hid (HO.out.below HWB.out)
 have HWS:=Lib.hid HWB.out.size
 have hltW:H<W.heap.size:=by have:=HWS.out;omega
 have hltN:w.heap.size<W.heap.size:=heap_lt' HWN.out
 generalize hnn:R.ls.length=m at *
 have HNN:=Lib.hid hnn;clear hnn
 obtain⟨V,hV⟩:∃V,R.nA=V:=⟨_,rfl⟩
 obtain⟨vc,hvc⟩:∃vc,R.nc=vc:=⟨_,rfl⟩
 rw[hV,hvc]at p3
 have HOV:=Lib.hid (show(W.drew.alloc (.cells #[.int .u8 n.kind,.int .u64 n.s0,.int .u64 n.s1,.int .u64 n.s2,.int .u64 n.s3,.string n.text,.int .i64 n.mn,.int .i64 n.mx,.slice A zs.length c] 54)).ownsRow B 54 9 (.slice V m vc) m (ndL.all R.ls)from World.ownsRow.alloc (show W.drew.ownsRow B 54 9 (.slice V m vc) m (ndL.all R.ls)from by have h:=HOW.out.1;rw[hV,hvc]at h;exact h) _)
 have HF:=Lib.hid (show m+1≤maxLen∧(m+1)*96≤140737488355328∧B≤(W.drew.alloc (.cells #[.int .u8 n.kind,.int .u64 n.s0,.int .u64 n.s1,.int .u64 n.s2,.int .u64 n.s3,.string n.text,.int .i64 n.mn,.int .i64 n.mx,.slice A zs.length c] 54)).heap.size from⟨by unfold maxLen;omega,by omega,by have:=HWS.out;simp;omega⟩)
 have HNE:=Lib.hid (show ¬some H=blkOf V from fun e=>by have h1:=HO.out.2 H (by rw[hV];exact e.symm);rw[HFX.out.2]at h1;cases h1)
 have HKB:=Lib.hid (show(W.drew.alloc (.cells #[.int .u8 n.kind,.int .u64 n.s0,.int .u64 n.s1,.int .u64 n.s2,.int .u64 n.s3,.string n.text,.int .i64 n.mn,.int .i64 n.mx,.slice A zs.length c] 54)).heap[H]?=some (.cells #[.slice R.WA R.W.length R.Wc,.int .i64 (R.fin:Int),.int .i64 (R.i:Int),.slice V m vc,.slice R.lA R.os.length R.lc,.slice R.dA R.ds.length R.dc,.slice R.mA R.ms.length R.mc,.slice R.cA R.cs.length R.cc] 82 (0,0))from bx_old (w:=W.drew) (by have h:=bx_kept HWB.out HBX.out;rw[hV,hvc]at h;exact h))
 have HVV:=Lib.hid hV;clear hV hvc
 go_region_law ((refine step_append_at (by rfl) (.tmp 13) (.tmp 15) 38 (by rfl) B 54 j0 (.agg #[.int .u8 0,.int .u64 0,.int .u64 0,.int .u64 0,.int .u64 0,.string ByteArray.empty,.int .i64 0,.int .i64 0,.slice none 0 0]) 9 96 Tryz.underlying38 hj hy0 hy1 hy2 hzc (by decide) V vc m (ndL.all R.ls) (by rfl) HOV.out (some ⟨W.heap.size,0,none⟩) 1 1 [.int .u8 n.kind,.int .u64 n.s0,.int .u64 n.s1,.int .u64 n.s2,.int .u64 n.s3,.string n.text,.int .i64 n.mn,.int .i64 n.mx,.slice A zs.length c] (by rfl) rfl (row_blk (bx_new W.drew _)) (fun u hu=>by simp only[List.mem_cons,List.not_mem_nil,or_false]at hu;rcases hu with rfl|rfl|rfl|rfl|rfl|rfl|rfl|rfl|rfl <;> rfl) HF.out.1 HF.out.2.1 HF.out.2.2 ?_;intro V' vc' w2 HO2 HG2 HA2;have HK2:=Lib.hid ((HG2.out.block H (heap_lt' HKB.out) HNE.out).trans HKB.out);have t1:w2.cell? ⟨H,3,none⟩=some (.slice V m vc):=(by simp[World.cell?,HK2.out]);have t2:w2.frozen? ⟨H,3,none⟩=false:=(by simp[World.frozen?,HK2.out])))
 all_goals
  clear t1 t2 p3 pf q0 q1 q2 q3 q4 q5 q6 q7 q8
  have HO3:=Lib.hid (show w2.ownsRow B 54 9 (.slice V' (m+1) vc') (m+1) (ndL.all (R.ls++[x]))from by
   have ho2:=HO2.out
   obtain⟨⟨x0,x1,x2,x3,x4,x5,x6,x7⟩,x8,x9⟩:=HXC.out
   have e:ndL.cells x=[.int .u8 n.kind,.int .u64 n.s0,.int .u64 n.s1,.int .u64 n.s2,.int .u64 n.s3,.string n.text,.int .i64 n.mn,.int .i64 n.mx,.slice A zs.length c]:=by
    show[_,_,_,_,_,_,_,_,Value.slice x.A x.nd.kids.length x.c]=_
    rw[x0,x1,x2,x3,x4,x5,x6,x7,x8,x9,hxk]
   rw[ndL.all_append,ndL.all_one,e];exact ho2)
  have HB1:=Lib.hid (show Below w.heap.size w (W.drew.alloc (.cells #[.int .u8 n.kind,.int .u64 n.s0,.int .u64 n.s1,.int .u64 n.s2,.int .u64 n.s3,.string n.text,.int .i64 n.mn,.int .i64 n.mx,.slice A zs.length c] 54))from(HWB.out.drew).alloc (show w.heap.size≤W.heap.size from HWS.out) _)
  have HDN:=Lib.hid (add_done (V:=V) HR.out hD HB1.out HNN.out HVV.out HO3.out HG2.out HA2.out HXW.out (by rw[hxk,HXC.out.2.1,HXC.out.2.2];exact HKD.out) hB)
  generalize (w2.setCell ⟨H,3,none⟩ (.slice V' (m+1) vc'))=w3 at *
  have hbx3:=HDN.out.1.box hD.1
  have t1:w3.cell? ⟨H,3,none⟩=some (.slice V' (m+1) vc'):=(by simp[World.cell?,hbx3,HNN.out])
  clear hbx3
  go_wp2_with fail
  go_ret
  exact⟨V',vc',_,ret_int (by have h:=HNN.out;omega),HDN.out⟩
def UnitPost (D:Ow→Prop) (B:Nat) (f:Nat→Ow) (H:Nat) (R:Rd) (n:Nd) (zs:List Int) (w:World) (e:Ending) (w':World):Prop:=
 ∃nA nc f' ls,e=.returned (.int .i64 (unitA (R.ls.map Ln.nd) n zs).2)∧RdM D w' B f' H {R with nA:=nA,nc:=nc,ls:=ls}∧ls.map Ln.nd=(unitA (R.ls.map Ln.nd) n zs).1∧KeepF (fun o=>o=.box∨o=.nodes) f f' w w'∧Below B w w'
theorem kindN_wf {k:Nat} (hk:k≤255) {zs:List Int} (hz:zs.length≤281474976710656):({kindN k with kids:=zs}:Nd).wf:=by
 refine⟨by simp[kindN];omega,by simp[kindN];decide,hz,?_⟩
 simp[kindN,U64]
theorem emptyN_wf:({emptyN with kids:=[]}:Nd).wf:=⟨by simp[emptyN],by simp[emptyN];decide,by simp,by simp[emptyN,U64]⟩
set_option maxRecDepth 100000 in
set_option maxHeartbeats 6400000 in
theorem rjoin_any (D:Ow→Prop) (w:World) (B:Nat) (f:Nat→Ow) (H:Nat) (R:Rd) (k:Nat) (A:Option Addr) (c:Nat) (zs:List Int) (h:RdM D w B f H R) (hD:¬D .box∧ ¬D .nodes∧ ¬D .kids) (hk:OwnF w B f .kids 3 1 A zs.length c (intL.all zs))
  (hkk:k≤255) (hz:zs.length≤1000000) (hl:R.ls.length≤4294967296) (hB:B≤w.heap.size):
  Calls Tryz.prog 75 #[.pointer (some ⟨H,0,none⟩),.int .u8 (k:Int),.slice A zs.length c] w (UnitPost D B f H R (kindN k) zs w):=by
 have HR:=Lib.hid h;have HK:=Lib.hid hk
 unfold UnitPost
 match zs,hz,HK with
 |[],hz,HK=>
  have HA:=Lib.hid (show Calls Tryz.prog 71 #[.pointer (some ⟨H,0,none⟩),.agg #[.int .u8 0,.int .u64 0,.int .u64 0,.int .u64 0,.int .u64 0,.string ⟨#[]⟩,.int .i64 0,.int .i64 0,.slice none 0 0],.slice none 0 0] w (AddPost D B f H R ⟨{emptyN with kids:=[]},none,0⟩ w)from
   radd_any D w B f H R emptyN (.slice none 0 0) none 0 [] HR.out hD (OwnF.nil _ _ _ _ _ _) emptyN_wf hl hB)
  go_enter Tryz.func75,Tryz.ntmps75
  go_wp2_with (first
   |(go_at_call 71;(with_reducible refine HA.out.mono ?_);rintro e w1 ⟨nA,nc,f',rfl,h1,h2,h3⟩;have H1:=Lib.hid h1;have H2:=Lib.hid h2;have H3:=Lib.hid h3;clear h1 h2 h3)
   |fail)
  go_ret
  exact⟨nA,nc,f',_,by simp[unitA],H1.out,by simp[unitA,addA],H2.out,H3.out⟩
 |[z],hz,HK=>
  obtain⟨g,rfl,_,_⟩:=own_some HK.out.1 (by simp)
  have x0:w.cell? ⟨g,0,none⟩=some (.int .i64 z):=own_cell HK.out.1 0 (by simp) (by simp[intL_all])
  go_enter Tryz.func75,Tryz.ntmps75
  go_wp2_with fail
  go_ret
  exact⟨R.nA,R.nc,f,R.ls,by simp[unitA],HR.out,by simp[unitA],KeepF.refl _ _ _,Below.refl _ _⟩
 |z1::z2::zs,hz,HK=>
  have HA:=Lib.hid (show Calls Tryz.prog 71 #[.pointer (some ⟨H,0,none⟩),.agg #[.int .u8 (k:Int),.int .u64 0,.int .u64 0,.int .u64 0,.int .u64 0,.string ⟨#[]⟩,.int .i64 0,.int .i64 0,.slice none 0 0],.slice A (zs.length+2) c] w (AddPost D B f H R ⟨{kindN k with kids:=z1::z2::zs},A,c⟩ w)from
   radd_any D w B f H R (kindN k) (.slice none 0 0) A c (z1::z2::zs) HR.out hD HK.out (kindN_wf hkk (by omega)) hl hB)
  have i1:(((zs.length:Int)+2)==0)=false:=by simp;omega
  have i2:(((zs.length:Int)+2)==1)=false:=by simp;omega
  go_enter Tryz.func75,Tryz.ntmps75
  go_wp2_with (first
   |(go_at_call 71;(with_reducible refine HA.out.mono ?_);rintro e w1 ⟨nA,nc,f',rfl,h1,h2,h3⟩;have H1:=Lib.hid h1;have H2:=Lib.hid h2;have H3:=Lib.hid h3;clear h1 h2 h3)
   |fail)
  go_ret
  exact⟨nA,nc,f',_,by simp[unitA],H1.out,by simp[unitA,addA],H2.out,H3.out⟩
end Go.Proofs.YtpfokabdpmjobaaGreatDoor
