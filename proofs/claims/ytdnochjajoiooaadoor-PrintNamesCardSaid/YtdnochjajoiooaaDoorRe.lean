/- The examples of layer 8 are as they are told. -/
import Derived.Test.YtdnochjajoiooaaDoorOb
import Derived.Test.YtdnochjajoiooaaDoorRd
import Derived.Test.YtdnochjajoiooaaDoorRj
import Derived.Test.YtdnochjajoiooaaDoorIr
import Derived.Deep.RegionHeld3
import Derived.Deep.DeepCutAuto
import Derived.Deep.Cut
import Derived.Deep.CutRange
namespace Go.Proofs.YtdnochjajoiooaaDoor
open Go.RowKit
set_option linter.unusedSimpArgs false
set_option linter.unusedVariables false
def kindP (k:Int):Nd:=⟨k,0,0,0,0,⟨#[]⟩,0,0,[]⟩
theorem kind_wf (k:Int) (h:0≤k∧k≤255):(kindP k).wf:=⟨h,by simp[kindP];decide,by simp[kindP],by simp[kindP,U64],by simp[kindP,U64],by simp[kindP,U64],by simp[kindP,U64]⟩
def xT:Tr:=⟨[ruleLf ⟨#[120]⟩],0⟩
def yT:Tr:=⟨[ruleLf ⟨#[121]⟩],0⟩
def seqT:Tr:=ofT (kindP 4) [xT,yT]
def choT:Tr:=ofT (kindP 5) [xT,yT]
theorem okSeq:okT (kindP 4) [xT,yT]=true:=by kernel_rfl
theorem okCho:okT (kindP 5) [xT,yT]=true:=by kernel_rfl
theorem TreeOwn.neT {w:World} {S:Nat→Prop} {t:Lt} {g:Nat} {cs:Array Value} {fz:Nat×Nat} (h:TreeOwn w S t) (hg:w.heap[g]?=some (.cells cs 25 fz)):TreeOwn w (fun x=>S x∧x≠g) t:=
 ⟨h.len,h.row.ne hg (by decide),fun l hl=>⟨(h.kids l hl).1,(h.kids l hl).2.ne hg (by decide)⟩⟩
def OwnT (w:World) (v:Value) (T:Tr):Prop:=∃t:Lt,v=.agg #[.slice t.A t.ls.length t.c,.int .i64 t.root]∧TreeOwn w (fun _=>True) t∧t.tr=T
theorem OwnT.below {w w':World} {v:Value} {T:Tr} (h:OwnT w v T) (hb:Below w.heap.size w w'):OwnT w' v T:=by
 obtain⟨t,hv,ho,ht⟩:=h
 exact⟨t,hv,ho.below hb,ht⟩
theorem OwnT.but {w w':World} {p:Nat} {v:Value} {T:Tr} {cs:Array Value} (h:OwnT w v T) (hp:w.heap[p]?=some (.cells cs 25 (0,0))) (hb:∀k,k≠p→w'.heap[k]?=w.heap[k]?):OwnT w' v T:=by
 obtain⟨t,hv,ho,ht⟩:=h
 exact⟨t,hv,((ho.neT hp).agree (fun x hx _=>hb x hx.2)).mono (fun _ _ _=>trivial),ht⟩
def MkV (w:World) (bx bY:Nat) (v:Value):Prop:=∃nb,v=.slice (some ⟨nb,0,none⟩) 2 2∧w.heap[nb]?=some (.cells #[.slice (some ⟨bx,0,none⟩) 1 1,.int .i64 0,.slice (some ⟨bY,0,none⟩) 1 1,.int .i64 0] 25 (0,0))
theorem MkV.below {w w':World} {bx bY:Nat} {v:Value} (h:MkV w bx bY v) (hb:Below w.heap.size w w'):MkV w' bx bY v:=by
 obtain⟨nb,hv,hh⟩:=h
 exact⟨nb,hv,bx_kept hb hh⟩
def BoxT (w:World) (B:Nat) (v:Value) (U:Prop) (src:Value):Prop:=
 ∃(p:Nat) (x y:Value),v=.pointer (some ⟨p,0,none⟩)∧B≤p∧w.heap[p]?=some (.cells #[x,y] 25 (0,0))∧(U→src=.agg #[x,y])
theorem BoxT.below {w w':World} {B:Nat} {v:Value} {U U':Prop} {src:Value} (h:BoxT w B v U src) (hU:U'→U) (hb:Below w.heap.size w w'):BoxT w' B v U' src:=by
 obtain⟨p,x,y,he,hB,hh,hs⟩:=h
 exact⟨p,x,y,he,hB,bx_kept hb hh,fun u=>hs (hU u)⟩
theorem BoxT.but {w w':World} {B p:Nat} {v:Value} {U U':Prop} {src:Value} (h:BoxT w B v U src) (hU:U'→U) (hne:v≠.pointer (some ⟨p,0,none⟩)) (hb:∀k,k≠p→w'.heap[k]?=w.heap[k]?):BoxT w' B v U' src:=by
 obtain⟨q,x,y,he,hB,hh,hs⟩:=h
 exact⟨q,x,y,he,hB,(hb q (fun e=>hne (by rw[he,e]))).trans hh,fun u=>hs (hU u)⟩
theorem BoxT.off {w:World} {B:Nat} {v:Value} {U U':Prop} {src src':Value} (h:BoxT w B v U src) (hU:¬U'):BoxT w B v U' src':=by
 obtain⟨q,x,y,he,hB,hh,hs⟩:=h
 exact⟨q,x,y,he,hB,hh,fun u=>absurd u hU⟩
theorem BoxT.new {w:World} {B:Nat} (hB:B≤w.heap.size) {U:Prop} (hU:¬U) (src x y:Value):BoxT (w.alloc (.cells #[x,y] 25)) B (.pointer (some ⟨w.heap.size,0,none⟩)) U src:=
 ⟨w.heap.size,x,y,rfl,hB,heap_alloc_new _ _,fun u=>absurd u hU⟩
theorem BoxT.fresh {w:World} {B:Nat} {v:Value} {U:Prop} {src:Value} (h:BoxT w B v U src):v≠.pointer (some ⟨w.heap.size,0,none⟩):=by
 obtain⟨p,x,y,he,hB,hh,hs⟩:=h
 rw[he];intro e;injection e with e;injection e with e;injection e with e
 have:=heap_lt' hh;omega
theorem flag_self {listed:Array Bool} {i:Nat} (h:i<listed.size):(listed.setIfInBounds i true).getD i false=true:=by
 simp[Array.getD_eq_getD_getElem?,h]
theorem set2h {W:World} {B p:Nat} {x0 y0:Value} (x y:Value) (hB:B≤p) (hh:W.heap[p]?=some (.cells #[x0,y0] 25 (0,0))):
  ((W.setCell ⟨p,0,none⟩ x).setCell ⟨p,1,none⟩ y).heap[p]?=some (.cells #[x,y] 25 (0,0))∧(∀k,k≠p→((W.setCell ⟨p,0,none⟩ x).setCell ⟨p,1,none⟩ y).heap[k]?=W.heap[k]?)∧Below B W ((W.setCell ⟨p,0,none⟩ x).setCell ⟨p,1,none⟩ y):=by
 refine⟨set_blk2' (u:=y) (show(W.setCell ⟨p,0,none⟩ x).heap[p]?=some (.cells #[x,y0] 25 (0,0))from ?_),fun k hk=>(Below.heap_setCell _ _ _ _ hk).trans (Below.heap_setCell _ _ _ _ hk),((Below.refl _ _).setCell (p:=⟨p,0,none⟩) hB _).setCell (p:=⟨p,1,none⟩) hB _⟩
 have h:=heap_setCell_same W p 0 _ 25 x hh
 simpa using h
theorem two_eq {a b c d:Tr} (h:a=c) (k:b=d):[a,b]=[c,d]:=by rw[h,k]
theorem count_tx {w:World} (hp:PTabs w) {lo hi:Int} {l:List UInt8} (h:countB lo hi=l):Calls Tryd.prog 12 #[.int .i64 lo,.int .i64 hi] w fun e w'=>e=.returned (.string ⟨l.toArray⟩)∧Below w.heap.size w w':=by
 have h1:=count_any lo hi w hp.ta hp.pw hp.co hp.cn
 rw[h]at h1
 exact h1
def repP:Nd:=⟨6,0,0,0,0,⟨#[]⟩,0,1,[]⟩
def capP:Nd:=⟨9,0,0,0,0,⟨#[110]⟩,0,0,[]⟩
theorem rep_wf:repP.wf:=⟨by simp[repP],by simp[repP];decide,by simp[repP],by simp[repP,U64],by simp[repP,U64],by simp[repP,U64],by simp[repP,U64]⟩
theorem cap_wf:capP.wf:=⟨by simp[capP],by simp[capP];decide,by simp[capP],by simp[capP,U64],by simp[capP,U64],by simp[capP,U64],by simp[capP,U64]⟩
def taT:Tr:=⟨[textLf ⟨#[97]⟩],0⟩
def rbT:Tr:=⟨[ruleLf ⟨#[98]⟩],0⟩
def abT:Tr:=ofT (kindP 4) [taT,rbT]
def emT:Tr:=⟨[emptyLf],0⟩
def aT:Tr:=ofT (kindP 5) [abT,emT]
def stT:Tr:=⟨[setLf 0 60129542144 0 0],0⟩
def plusN:Nd:=⟨6,0,0,0,0,⟨#[]⟩,1, -1,[]⟩
def plusT:Tr:=ofT plusN [stT]
theorem plus_wf:plusN.wf:=⟨by simp[plusN],by simp[plusN];decide,by simp[plusN],by simp[plusN,U64],by simp[plusN,U64],by simp[plusN,U64],by simp[plusN,U64]⟩
theorem okAB:okT (kindP 4) [taT,rbT]=true:=by kernel_rfl
theorem okA:okT (kindP 5) [abT,emT]=true:=by kernel_rfl
theorem okNot:okT (kindP 8) [seqT]=true:=by kernel_rfl
theorem okRep:okT repP [ofT plusN [⟨[setLf 0 60129542144 0 0],0⟩]]=true:=by kernel_rfl
theorem okCap:okT capP [choT]=true:=by kernel_rfl
theorem trA:treeB aT=[34,97,34,32,98,32,47,32,34,34]:=by kernel_rfl
theorem trNot:treeB (ofT (kindP 8) [seqT])=[33,40,120,32,121,41]:=by kernel_rfl
theorem trRep:treeB (ofT repP [plusT])=[40,91,97,45,99,93,43,41,63]:=by kernel_rfl
theorem trCap:treeB (ofT capP [choT])=[60,110,58,32,120,32,47,32,121,62]:=by kernel_rfl
theorem cn1:countB 1 1=[123,49,125]:=by kernel_rfl
theorem cn2:countB 2 (-1)=[123,50,44,125]:=by kernel_rfl
theorem cn3:countB 0 0=[123,48,125]:=by kernel_rfl
theorem cn4:countB 2 1=[]:=by kernel_rfl
theorem okPlus:okT plusN [stT]=true:=by kernel_rfl
structure Bun2 (w:World) (p q:Nat) (s c:Lt):Prop where
 ps:w.heap[p]?=some (.cells #[.slice s.A s.ls.length s.c,.int .i64 s.root] 25 (0,0))
 qs:w.heap[q]?=some (.cells #[.slice c.A c.ls.length c.c,.int .i64 c.root] 25 (0,0))
 st:TX w seqT s
 ct:TX w choT c
theorem Bun2.below {w w':World} {p q:Nat} {s c:Lt} (h:Bun2 w p q s c) (hb:Below w.heap.size w w'):Bun2 w' p q s c:=⟨bx_kept hb h.ps,bx_kept hb h.qs,h.st.below hb,h.ct.below hb⟩
structure Bun4 (w:World) (p q b5 b6:Nat) (s c v2 v3:Lt):Prop where
 two:Bun2 w p q s c
 h5:w.heap[b5]?=some (.cells #[.slice v2.A v2.ls.length v2.c,.int .i64 v2.root] 25 (0,0))
 h6:w.heap[b6]?=some (.cells #[.slice v3.A v3.ls.length v3.c,.int .i64 v3.root] 25 (0,0))
 t5:TX w aT v2
 t6:TX w plusT v3
theorem Bun4.below {w w':World} {p q b5 b6:Nat} {s c v2 v3:Lt} (h:Bun4 w p q b5 b6 s c v2 v3) (hb:Below w.heap.size w w'):Bun4 w' p q b5 b6 s c v2 v3:=⟨h.two.below hb,bx_kept hb h.h5,bx_kept hb h.h6,h.t5.below hb,h.t6.below hb⟩
def WorkInv (bx bY:Nat) (B:Nat) (V:World) (A0:Act) (listed:Array Bool) (a:Act) (w':World):Prop:=
 listed.size=14∧Below B V w'∧B≤w'.heap.size∧ ∃v9 v10 v11 v12 v13 v14 v15 v16 v17 v18 v3 v4:Value,
  a=((((((((((((A0.put (some 9) v9).put (some 10) v10).put (some 11) v11).put (some 12) v12).put (some 13) v13).put (some 14) v14).put (some 15) v15).put (some 16) v16).put (some 17) v17).put (some 18) v18).put (some 3) v3).put (some 4) v4) ∧
  (listed.getD 0 false=true→v9=ndV (kindP 4) (.slice none 0 0)) ∧
  (listed.getD 1 false=true→v10=.agg #[.slice (some ⟨bx,0,none⟩) 1 1,.int .i64 0]) ∧
  (listed.getD 2 false=true→v11=.agg #[.slice (some ⟨bY,0,none⟩) 1 1,.int .i64 0]) ∧
  (listed.getD 3 false=true→ ¬listed.getD 12 false=true→MkV w' bx bY v12) ∧
  (listed.getD 4 false=true→OwnT w' v13 seqT) ∧
  (listed.getD 5 false=true→v14=ndV (kindP 5) (.slice none 0 0)) ∧
  (listed.getD 6 false=true→v15=.agg #[.slice (some ⟨bx,0,none⟩) 1 1,.int .i64 0]) ∧
  (listed.getD 7 false=true→v16=.agg #[.slice (some ⟨bY,0,none⟩) 1 1,.int .i64 0]) ∧
  (listed.getD 8 false=true→ ¬listed.getD 12 false=true→MkV w' bx bY v17) ∧
  (listed.getD 9 false=true→OwnT w' v18 choT) ∧
  (listed.getD 10 false=true→BoxT w' B v3 (listed.getD 12 false=true) v13) ∧
  (listed.getD 11 false=true→BoxT w' B v4 (listed.getD 13 false=true) v18) ∧
  (listed.getD 10 false=true→listed.getD 11 false=true→v3≠v4) ∧
  (listed.getD 12 false=true→listed.getD 4 false=true∧listed.getD 9 false=true∧listed.getD 10 false=true) ∧
  (listed.getD 13 false=true→listed.getD 11 false=true∧listed.getD 9 false=true∧listed.getD 12 false=true)
set_option maxRecDepth 100000 in
set_option maxHeartbeats 12800000 in
theorem works_any (w:World) (hp:PTabs w):
  Calls Tryd.prog 5 #[] w fun e w'=>e=.returned (.bool true)∧Below w.heap.size w w':=by
 have HP:=Lib.hid hp;clear hp
 go_enter Tryd.func5,Tryd.ntmps5
 go_wp2_with fail
 refine(rule_any ⟨#[120]⟩ _ (by decide)).mono ?_
 rintro e w1 ⟨bx,rfl,hto,hb⟩
 have HX1:=Lib.hid (show TX w1 xT ⟨some ⟨bx,0,none⟩,1,[⟨ruleLf ⟨#[120]⟩,none,0⟩],0⟩from TX.leaf hto (by kernel_rfl));have HB1:=Lib.hid hb
 clear hto hb
 go_wp2_with fail
 refine(rule_any ⟨#[121]⟩ _ (by decide)).mono ?_
 rintro e w2 ⟨bY,rfl,hto,hb⟩
 have HY2:=Lib.hid (show TX w2 yT ⟨some ⟨bY,0,none⟩,1,[⟨ruleLf ⟨#[121]⟩,none,0⟩],0⟩from TX.leaf hto (by kernel_rfl));have HX2:=Lib.hid (HX1.out.below hb);have HB2:=Lib.hid (Below.step HB1.out hb)
 clear hto hb HX1 HB1
 go_upto_region 2 with(fail)
 have HBA:=Lib.hid (bx2 w2 (.cells #[.slice (some ⟨bx,0,none⟩) 1 1,.int .i64 0] 25) (.cells #[.slice (some ⟨bY,0,none⟩) 1 1,.int .i64 0] 25))
 have HK1:=Lib.hid (bx_old (p:=.cells #[.slice (some ⟨bY,0,none⟩) 1 1,.int .i64 0] 25) (bx_new w2 (.cells #[.slice (some ⟨bx,0,none⟩) 1 1,.int .i64 0] 25)))
 have HK2:=bx_new (w2.alloc (.cells #[.slice (some ⟨bx,0,none⟩) 1 1,.int .i64 0] 25)) (.cells #[.slice (some ⟨bY,0,none⟩) 1 1,.int .i64 0] 25)
 rw[World.size_alloc]at HK2
 have HK2:=Lib.hid HK2
 have HTX:=Lib.hid (And.intro (HX2.out.below HBA.out) (HY2.out.below HBA.out))
 have HBV:=Lib.hid (Below.step HB2.out HBA.out)
 clear HX2 HY2 HB2 HBA
 generalize (w2.alloc (.cells #[.slice (some ⟨bx,0,none⟩) 1 1,.int .i64 0] 25)).alloc (.cells #[.slice (some ⟨bY,0,none⟩) 1 1,.int .i64 0] 25)=V at *
 generalize w2.heap.size=b1 at *
 have HCX:=Lib.hid (show ∀w',Below V.heap.size V w'→w'.cell? ⟨b1,0,none⟩=some (.slice (some ⟨bx,0,none⟩) 1 1)∧w'.cell? ⟨b1,1,none⟩=some (.int .i64 0)∧w'.cell? ⟨b1+1,0,none⟩=some (.slice (some ⟨bY,0,none⟩) 1 1)∧w'.cell? ⟨b1+1,1,none⟩=some (.int .i64 0)from fun w' h=>by
  obtain⟨a1,a2,_⟩:=blk2 (bx_kept h HK1.out)
  obtain⟨a3,a4,_⟩:=blk2 (bx_kept h HK2.out)
  exact⟨a1,a2,a3,a4⟩)
 clear HK1 HK2
 go_cut [3,4] (fun v3 v4 wx=>∃(p q:Nat) (s c:Lt),v3=.pointer (some ⟨p,0,none⟩)∧v4=.pointer (some ⟨q,0,none⟩)∧Hid (wx.heap[p]?=some (.cells #[.slice s.A s.ls.length s.c,.int .i64 s.root] 25 (0,0)))∧Hid (wx.heap[q]?=some (.cells #[.slice c.A c.ls.length c.c,.int .i64 c.root] 25 (0,0)))∧Hid (TX wx seqT s)∧Hid (TX wx choT c)∧Hid (Below V.heap.size V wx))
 case first=>
  refine wp_region_inv0 (WorkInv bx bY V.heap.size V) (by kernel_rfl) ?_ ?_ ?_
  ·exact⟨rfl,(Below.refl _ _).drew,Nat.le_refl _,_,_,_,_,_,_,_,_,_,_,_,_,(self_puts _ [9,10,11,12,13,14,15,16,17,18,3,4] rfl).symm,fun h=>absurd h (by decide),fun h=>absurd h (by decide),fun h=>absurd h (by decide),fun h=>absurd h (by decide),fun h=>absurd h (by decide),fun h=>absurd h (by decide),fun h=>absurd h (by decide),fun h=>absurd h (by decide),fun h=>absurd h (by decide),fun h=>absurd h (by decide),fun h=>absurd h (by decide),fun h=>absurd h (by decide),fun h=>absurd h (by decide),fun h=>absurd h (by decide),fun h=>absurd h (by decide)⟩
  ·as_aux_lemma=>
    intro listed a' w' hI i hi
    obtain⟨hsz,hb,hB,v9,v10,v11,v12,v13,v14,v15,v16,v17,v18,v3,v4,rfl,c0,c1,c2,c3,c4,c5,c6,c7,c8,c9,c10,c11,c12,c13,c14⟩:=hI
    have hun:=(ready_mem hi).2.1
    have hlt:i<14:=(ready_mem hi).1
    have hcs:i=0∨i=1∨i=2∨i=3∨i=4∨i=5∨i=6∨i=7∨i=8∨i=9∨i=10∨i=11∨i=12∨i=13:=by omega
    clear hlt
    rcases hcs with rfl|rfl|rfl|rfl|rfl|rfl|rfl|rfl|rfl|rfl|rfl|rfl|rfl|rfl
    ·have hp:=ready_after (o:={dst:=some 9,op:=Go.Op.build 35 #[(0,Go.Operand.const (Go.Value.int Go.IntKind.u8 4))],type:=35,pos:= "outright.go:23",after:= #[],guard:=none}) hi rfl
     simp[Region.binds]at hp
     have hbk:Below w'.heap.size w' w':=Below.refl _ _
     obtain⟨u1,u2,u3,u4⟩:=HCX.out w' hb
     refine wpOp_shut (o:={dst:=some 9,op:=Go.Op.build 35 #[(0,Go.Operand.const (Go.Value.int Go.IntKind.u8 4))],type:=35,pos:= "outright.go:23",after:= #[],guard:=none}) rfl (fun K hK=> ?_)
     simp only[Act.put,List.setIfInBounds_toArray,List.set_cons_zero,List.set_cons_succ]
     go_simp
     exact hK.out _ _ ⟨by simp[hsz],hb,hB,_,_,_,_,_,_,_,_,_,_,_,_,(by simp only[Act.put,List.setIfInBounds_toArray,List.set_cons_zero,List.set_cons_succ];try rfl),
      fun _=>rfl,
      fun h=>c1 (flag_of (by decide) h),
      fun h=>c2 (flag_of (by decide) h),
      fun h k=>(c3 (flag_of (by decide) h) (fun u=>k (flag_old u))).below hbk,
      fun h=>(c4 (flag_of (by decide) h)).below hbk,
      fun h=>c5 (flag_of (by decide) h),
      fun h=>c6 (flag_of (by decide) h),
      fun h=>c7 (flag_of (by decide) h),
      fun h k=>(c8 (flag_of (by decide) h) (fun u=>k (flag_old u))).below hbk,
      fun h=>(c9 (flag_of (by decide) h)).below hbk,
      fun h=>(c10 (flag_of (by decide) h)).below (flag_of (by decide)) hbk,
      fun h=>(c11 (flag_of (by decide) h)).below (flag_of (by decide)) hbk,
      fun h k=>c12 (flag_of (by decide) h) (flag_of (by decide) k),
      fun h=>⟨flag_old (c13 (flag_of (by decide) h)).1,flag_old (c13 (flag_of (by decide) h)).2.1,flag_old (c13 (flag_of (by decide) h)).2.2⟩,
      fun h=>⟨flag_old (c14 (flag_of (by decide) h)).1,flag_old (c14 (flag_of (by decide) h)).2.1,flag_old (c14 (flag_of (by decide) h)).2.2⟩⟩
    ·have hp:=ready_after (o:={dst:=some 10,op:=Go.Op.load 25 (Go.Operand.tmp 1),type:=25,pos:= "outright.go:23",after:= #[],guard:=none}) hi rfl
     simp[Region.binds]at hp
     have hbk:Below w'.heap.size w' w':=Below.refl _ _
     obtain⟨u1,u2,u3,u4⟩:=HCX.out w' hb
     refine wpOp_shut (o:={dst:=some 10,op:=Go.Op.load 25 (Go.Operand.tmp 1),type:=25,pos:= "outright.go:23",after:= #[],guard:=none}) rfl (fun K hK=> ?_)
     simp only[Act.put,List.setIfInBounds_toArray,List.set_cons_zero,List.set_cons_succ]
     go_simp
     exact hK.out _ _ ⟨by simp[hsz],hb,hB,_,_,_,_,_,_,_,_,_,_,_,_,(by simp only[Act.put,List.setIfInBounds_toArray,List.set_cons_zero,List.set_cons_succ];try rfl),
      fun h=>c0 (flag_of (by decide) h),
      fun _=>rfl,
      fun h=>c2 (flag_of (by decide) h),
      fun h k=>(c3 (flag_of (by decide) h) (fun u=>k (flag_old u))).below hbk,
      fun h=>(c4 (flag_of (by decide) h)).below hbk,
      fun h=>c5 (flag_of (by decide) h),
      fun h=>c6 (flag_of (by decide) h),
      fun h=>c7 (flag_of (by decide) h),
      fun h k=>(c8 (flag_of (by decide) h) (fun u=>k (flag_old u))).below hbk,
      fun h=>(c9 (flag_of (by decide) h)).below hbk,
      fun h=>(c10 (flag_of (by decide) h)).below (flag_of (by decide)) hbk,
      fun h=>(c11 (flag_of (by decide) h)).below (flag_of (by decide)) hbk,
      fun h k=>c12 (flag_of (by decide) h) (flag_of (by decide) k),
      fun h=>⟨flag_old (c13 (flag_of (by decide) h)).1,flag_old (c13 (flag_of (by decide) h)).2.1,flag_old (c13 (flag_of (by decide) h)).2.2⟩,
      fun h=>⟨flag_old (c14 (flag_of (by decide) h)).1,flag_old (c14 (flag_of (by decide) h)).2.1,flag_old (c14 (flag_of (by decide) h)).2.2⟩⟩
    ·have hp:=ready_after (o:={dst:=some 11,op:=Go.Op.load 25 (Go.Operand.tmp 2),type:=25,pos:= "outright.go:23",after:= #[],guard:=none}) hi rfl
     simp[Region.binds]at hp
     have hbk:Below w'.heap.size w' w':=Below.refl _ _
     obtain⟨u1,u2,u3,u4⟩:=HCX.out w' hb
     refine wpOp_shut (o:={dst:=some 11,op:=Go.Op.load 25 (Go.Operand.tmp 2),type:=25,pos:= "outright.go:23",after:= #[],guard:=none}) rfl (fun K hK=> ?_)
     simp only[Act.put,List.setIfInBounds_toArray,List.set_cons_zero,List.set_cons_succ]
     go_simp
     exact hK.out _ _ ⟨by simp[hsz],hb,hB,_,_,_,_,_,_,_,_,_,_,_,_,(by simp only[Act.put,List.setIfInBounds_toArray,List.set_cons_zero,List.set_cons_succ];try rfl),
      fun h=>c0 (flag_of (by decide) h),
      fun h=>c1 (flag_of (by decide) h),
      fun _=>rfl,
      fun h k=>(c3 (flag_of (by decide) h) (fun u=>k (flag_old u))).below hbk,
      fun h=>(c4 (flag_of (by decide) h)).below hbk,
      fun h=>c5 (flag_of (by decide) h),
      fun h=>c6 (flag_of (by decide) h),
      fun h=>c7 (flag_of (by decide) h),
      fun h k=>(c8 (flag_of (by decide) h) (fun u=>k (flag_old u))).below hbk,
      fun h=>(c9 (flag_of (by decide) h)).below hbk,
      fun h=>(c10 (flag_of (by decide) h)).below (flag_of (by decide)) hbk,
      fun h=>(c11 (flag_of (by decide) h)).below (flag_of (by decide)) hbk,
      fun h k=>c12 (flag_of (by decide) h) (flag_of (by decide) k),
      fun h=>⟨flag_old (c13 (flag_of (by decide) h)).1,flag_old (c13 (flag_of (by decide) h)).2.1,flag_old (c13 (flag_of (by decide) h)).2.2⟩,
      fun h=>⟨flag_old (c14 (flag_of (by decide) h)).1,flag_old (c14 (flag_of (by decide) h)).2.1,flag_old (c14 (flag_of (by decide) h)).2.2⟩⟩
    ·have hp:=ready_after (o:={dst:=some 12,op:=Go.Op.buildSlice 36 2 #[(0,Go.Operand.tmp 10),(1,Go.Operand.tmp 11)],type:=36,pos:= "outright.go:23",after:= #[{on:=1,ground:=Go.Ground.data},{on:=2,ground:=Go.Ground.data}],guard:=none}) hi rfl
     simp[Region.binds]at hp
     obtain rfl:=c1 (by first|exact hp|exact hp.1|exact hp.2|simp[hp])
     obtain rfl:=c2 (by first|exact hp|exact hp.1|exact hp.2|simp[hp])
     refine wpOp_shut (o:={dst:=some 12,op:=Go.Op.buildSlice 36 2 #[(0,Go.Operand.tmp 10),(1,Go.Operand.tmp 11)],type:=36,pos:= "outright.go:23",after:= #[{on:=1,ground:=Go.Ground.data},{on:=2,ground:=Go.Ground.data}],guard:=none}) rfl (fun K hK=> ?_)
     simp only[Act.put,List.setIfInBounds_toArray,List.set_cons_zero,List.set_cons_succ]
     go_simp
     have hbk:=bx1 w' (.cells #[.slice (some ⟨bx,0,none⟩) 1 1,.int .i64 0,.slice (some ⟨bY,0,none⟩) 1 1,.int .i64 0] 25)
     exact hK.out _ _ ⟨by simp[hsz],(hb.alloc hB _),(by simp;omega),_,_,_,_,_,_,_,_,_,_,_,_,(by simp only[Act.put,List.setIfInBounds_toArray,List.set_cons_zero,List.set_cons_succ];try rfl),
      fun h=>c0 (flag_of (by decide) h),
      fun _=>rfl,
      fun _=>rfl,
      fun _ _=>⟨_,rfl,bx_new w' _⟩,
      fun h=>(c4 (flag_of (by decide) h)).below hbk,
      fun h=>c5 (flag_of (by decide) h),
      fun h=>c6 (flag_of (by decide) h),
      fun h=>c7 (flag_of (by decide) h),
      fun h k=>(c8 (flag_of (by decide) h) (fun u=>k (flag_old u))).below hbk,
      fun h=>(c9 (flag_of (by decide) h)).below hbk,
      fun h=>(c10 (flag_of (by decide) h)).below (flag_of (by decide)) hbk,
      fun h=>(c11 (flag_of (by decide) h)).below (flag_of (by decide)) hbk,
      fun h k=>c12 (flag_of (by decide) h) (flag_of (by decide) k),
      fun h=>⟨flag_old (c13 (flag_of (by decide) h)).1,flag_old (c13 (flag_of (by decide) h)).2.1,flag_old (c13 (flag_of (by decide) h)).2.2⟩,
      fun h=>⟨flag_old (c14 (flag_of (by decide) h)).1,flag_old (c14 (flag_of (by decide) h)).2.1,flag_old (c14 (flag_of (by decide) h)).2.2⟩⟩
    ·have hp:=ready_after (o:={dst:=some 13,op:=Go.Op.call {callee:=Go.Callee.value (Go.Operand.func 10),args:= #[Go.Operand.tmp 9,Go.Operand.tmp 12],argTypes:= #[35,36]},type:=25,pos:= "outright.go:23",after:= #[{on:=0,ground:=Go.Ground.data},{on:=3,ground:=Go.Ground.data}],guard:=none}) hi rfl
     simp[Region.binds]at hp
     have hf3:listed.getD 3 false=true:=by first|exact hp|exact hp.1|exact hp.2|exact hp.2.1|exact hp.1.1|simp[hp]
     obtain rfl:=c0 (by first|exact hp|exact hp.1|exact hp.2|exact hp.2.1|exact hp.1.1|simp[hp])
     obtain⟨nb,rfl,hnb⟩:=id (c3 hf3 (fun u=>flag_not hun (c13 u).1))
     refine wpOp_shut (o:={dst:=some 13,op:=Go.Op.call {callee:=Go.Callee.value (Go.Operand.func 10),args:= #[Go.Operand.tmp 9,Go.Operand.tmp 12],argTypes:= #[35,36]},type:=25,pos:= "outright.go:23",after:= #[{on:=0,ground:=Go.Ground.data},{on:=3,ground:=Go.Ground.data}],guard:=none}) rfl (fun K hK=> ?_)
     simp only[Act.put,List.setIfInBounds_toArray,List.set_cons_zero,List.set_cons_succ]
     go_simp
     refine(of8_row (kindP 4) [⟨some ⟨bx,0,none⟩,1,[⟨ruleLf ⟨#[120]⟩,none,0⟩],0⟩,⟨some ⟨bY,0,none⟩,1,[⟨ruleLf ⟨#[121]⟩,none,0⟩],0⟩] [xT,yT] nb w' (kind_wf _ (by decide)) hnb rfl (fun t ht=>by simp only[List.mem_cons,List.not_mem_nil,or_false]at ht;rcases ht with rfl|rfl;exact⟨_,HTX.out.1.below hb⟩;exact⟨_,HTX.out.2.below hb⟩) (by simp) okSeq (by kernel_rfl) _ 2 2 rfl).mono ?_
     rintro e w1 ⟨v,rfl,htx,hto,hbk⟩
     go_wp2_with fail
     exact hK.out _ _ ⟨by simp[hsz],(hb.trans (hbk.mono hB)),(Nat.le_trans hB hbk.size),_,_,_,_,_,_,_,_,_,_,_,_,(by simp only[Act.put,List.setIfInBounds_toArray,List.set_cons_zero,List.set_cons_succ];try rfl),
      fun _=>rfl,
      fun h=>c1 (flag_of (by decide) h),
      fun h=>c2 (flag_of (by decide) h),
      fun h k=>(c3 (flag_of (by decide) h) (fun u=>k (flag_old u))).below hbk,
      fun _=>⟨v,rfl,hto,htx.tr⟩,
      fun h=>c5 (flag_of (by decide) h),
      fun h=>c6 (flag_of (by decide) h),
      fun h=>c7 (flag_of (by decide) h),
      fun h k=>(c8 (flag_of (by decide) h) (fun u=>k (flag_old u))).below hbk,
      fun h=>(c9 (flag_of (by decide) h)).below hbk,
      fun h=>((c10 (flag_of (by decide) h)).below id hbk).off (fun u=>flag_not hun (c13 (flag_of (by decide) u)).1),
      fun h=>(c11 (flag_of (by decide) h)).below (flag_of (by decide)) hbk,
      fun h k=>c12 (flag_of (by decide) h) (flag_of (by decide) k),
      fun h=>⟨flag_old (c13 (flag_of (by decide) h)).1,flag_old (c13 (flag_of (by decide) h)).2.1,flag_old (c13 (flag_of (by decide) h)).2.2⟩,
      fun h=>⟨flag_old (c14 (flag_of (by decide) h)).1,flag_old (c14 (flag_of (by decide) h)).2.1,flag_old (c14 (flag_of (by decide) h)).2.2⟩⟩
    ·have hp:=ready_after (o:={dst:=some 14,op:=Go.Op.build 35 #[(0,Go.Operand.const (Go.Value.int Go.IntKind.u8 5))],type:=35,pos:= "outright.go:23",after:= #[],guard:=none}) hi rfl
     simp[Region.binds]at hp
     have hbk:Below w'.heap.size w' w':=Below.refl _ _
     obtain⟨u1,u2,u3,u4⟩:=HCX.out w' hb
     refine wpOp_shut (o:={dst:=some 14,op:=Go.Op.build 35 #[(0,Go.Operand.const (Go.Value.int Go.IntKind.u8 5))],type:=35,pos:= "outright.go:23",after:= #[],guard:=none}) rfl (fun K hK=> ?_)
     simp only[Act.put,List.setIfInBounds_toArray,List.set_cons_zero,List.set_cons_succ]
     go_simp
     exact hK.out _ _ ⟨by simp[hsz],hb,hB,_,_,_,_,_,_,_,_,_,_,_,_,(by simp only[Act.put,List.setIfInBounds_toArray,List.set_cons_zero,List.set_cons_succ];try rfl),
      fun h=>c0 (flag_of (by decide) h),
      fun h=>c1 (flag_of (by decide) h),
      fun h=>c2 (flag_of (by decide) h),
      fun h k=>(c3 (flag_of (by decide) h) (fun u=>k (flag_old u))).below hbk,
      fun h=>(c4 (flag_of (by decide) h)).below hbk,
      fun _=>rfl,
      fun h=>c6 (flag_of (by decide) h),
      fun h=>c7 (flag_of (by decide) h),
      fun h k=>(c8 (flag_of (by decide) h) (fun u=>k (flag_old u))).below hbk,
      fun h=>(c9 (flag_of (by decide) h)).below hbk,
      fun h=>(c10 (flag_of (by decide) h)).below (flag_of (by decide)) hbk,
      fun h=>(c11 (flag_of (by decide) h)).below (flag_of (by decide)) hbk,
      fun h k=>c12 (flag_of (by decide) h) (flag_of (by decide) k),
      fun h=>⟨flag_old (c13 (flag_of (by decide) h)).1,flag_old (c13 (flag_of (by decide) h)).2.1,flag_old (c13 (flag_of (by decide) h)).2.2⟩,
      fun h=>⟨flag_old (c14 (flag_of (by decide) h)).1,flag_old (c14 (flag_of (by decide) h)).2.1,flag_old (c14 (flag_of (by decide) h)).2.2⟩⟩
    ·have hp:=ready_after (o:={dst:=some 15,op:=Go.Op.load 25 (Go.Operand.tmp 1),type:=25,pos:= "outright.go:23",after:= #[],guard:=none}) hi rfl
     simp[Region.binds]at hp
     have hbk:Below w'.heap.size w' w':=Below.refl _ _
     obtain⟨u1,u2,u3,u4⟩:=HCX.out w' hb
     refine wpOp_shut (o:={dst:=some 15,op:=Go.Op.load 25 (Go.Operand.tmp 1),type:=25,pos:= "outright.go:23",after:= #[],guard:=none}) rfl (fun K hK=> ?_)
     simp only[Act.put,List.setIfInBounds_toArray,List.set_cons_zero,List.set_cons_succ]
     go_simp
     exact hK.out _ _ ⟨by simp[hsz],hb,hB,_,_,_,_,_,_,_,_,_,_,_,_,(by simp only[Act.put,List.setIfInBounds_toArray,List.set_cons_zero,List.set_cons_succ];try rfl),
      fun h=>c0 (flag_of (by decide) h),
      fun h=>c1 (flag_of (by decide) h),
      fun h=>c2 (flag_of (by decide) h),
      fun h k=>(c3 (flag_of (by decide) h) (fun u=>k (flag_old u))).below hbk,
      fun h=>(c4 (flag_of (by decide) h)).below hbk,
      fun h=>c5 (flag_of (by decide) h),
      fun _=>rfl,
      fun h=>c7 (flag_of (by decide) h),
      fun h k=>(c8 (flag_of (by decide) h) (fun u=>k (flag_old u))).below hbk,
      fun h=>(c9 (flag_of (by decide) h)).below hbk,
      fun h=>(c10 (flag_of (by decide) h)).below (flag_of (by decide)) hbk,
      fun h=>(c11 (flag_of (by decide) h)).below (flag_of (by decide)) hbk,
      fun h k=>c12 (flag_of (by decide) h) (flag_of (by decide) k),
      fun h=>⟨flag_old (c13 (flag_of (by decide) h)).1,flag_old (c13 (flag_of (by decide) h)).2.1,flag_old (c13 (flag_of (by decide) h)).2.2⟩,
      fun h=>⟨flag_old (c14 (flag_of (by decide) h)).1,flag_old (c14 (flag_of (by decide) h)).2.1,flag_old (c14 (flag_of (by decide) h)).2.2⟩⟩
    ·have hp:=ready_after (o:={dst:=some 16,op:=Go.Op.load 25 (Go.Operand.tmp 2),type:=25,pos:= "outright.go:23",after:= #[],guard:=none}) hi rfl
     simp[Region.binds]at hp
     have hbk:Below w'.heap.size w' w':=Below.refl _ _
     obtain⟨u1,u2,u3,u4⟩:=HCX.out w' hb
     refine wpOp_shut (o:={dst:=some 16,op:=Go.Op.load 25 (Go.Operand.tmp 2),type:=25,pos:= "outright.go:23",after:= #[],guard:=none}) rfl (fun K hK=> ?_)
     simp only[Act.put,List.setIfInBounds_toArray,List.set_cons_zero,List.set_cons_succ]
     go_simp
     exact hK.out _ _ ⟨by simp[hsz],hb,hB,_,_,_,_,_,_,_,_,_,_,_,_,(by simp only[Act.put,List.setIfInBounds_toArray,List.set_cons_zero,List.set_cons_succ];try rfl),
      fun h=>c0 (flag_of (by decide) h),
      fun h=>c1 (flag_of (by decide) h),
      fun h=>c2 (flag_of (by decide) h),
      fun h k=>(c3 (flag_of (by decide) h) (fun u=>k (flag_old u))).below hbk,
      fun h=>(c4 (flag_of (by decide) h)).below hbk,
      fun h=>c5 (flag_of (by decide) h),
      fun h=>c6 (flag_of (by decide) h),
      fun _=>rfl,
      fun h k=>(c8 (flag_of (by decide) h) (fun u=>k (flag_old u))).below hbk,
      fun h=>(c9 (flag_of (by decide) h)).below hbk,
      fun h=>(c10 (flag_of (by decide) h)).below (flag_of (by decide)) hbk,
      fun h=>(c11 (flag_of (by decide) h)).below (flag_of (by decide)) hbk,
      fun h k=>c12 (flag_of (by decide) h) (flag_of (by decide) k),
      fun h=>⟨flag_old (c13 (flag_of (by decide) h)).1,flag_old (c13 (flag_of (by decide) h)).2.1,flag_old (c13 (flag_of (by decide) h)).2.2⟩,
      fun h=>⟨flag_old (c14 (flag_of (by decide) h)).1,flag_old (c14 (flag_of (by decide) h)).2.1,flag_old (c14 (flag_of (by decide) h)).2.2⟩⟩
    ·have hp:=ready_after (o:={dst:=some 17,op:=Go.Op.buildSlice 36 2 #[(0,Go.Operand.tmp 15),(1,Go.Operand.tmp 16)],type:=36,pos:= "outright.go:23",after:= #[{on:=6,ground:=Go.Ground.data},{on:=7,ground:=Go.Ground.data}],guard:=none}) hi rfl
     simp[Region.binds]at hp
     obtain rfl:=c6 (by first|exact hp|exact hp.1|exact hp.2|simp[hp])
     obtain rfl:=c7 (by first|exact hp|exact hp.1|exact hp.2|simp[hp])
     refine wpOp_shut (o:={dst:=some 17,op:=Go.Op.buildSlice 36 2 #[(0,Go.Operand.tmp 15),(1,Go.Operand.tmp 16)],type:=36,pos:= "outright.go:23",after:= #[{on:=6,ground:=Go.Ground.data},{on:=7,ground:=Go.Ground.data}],guard:=none}) rfl (fun K hK=> ?_)
     simp only[Act.put,List.setIfInBounds_toArray,List.set_cons_zero,List.set_cons_succ]
     go_simp
     have hbk:=bx1 w' (.cells #[.slice (some ⟨bx,0,none⟩) 1 1,.int .i64 0,.slice (some ⟨bY,0,none⟩) 1 1,.int .i64 0] 25)
     exact hK.out _ _ ⟨by simp[hsz],(hb.alloc hB _),(by simp;omega),_,_,_,_,_,_,_,_,_,_,_,_,(by simp only[Act.put,List.setIfInBounds_toArray,List.set_cons_zero,List.set_cons_succ];try rfl),
      fun h=>c0 (flag_of (by decide) h),
      fun h=>c1 (flag_of (by decide) h),
      fun h=>c2 (flag_of (by decide) h),
      fun h k=>(c3 (flag_of (by decide) h) (fun u=>k (flag_old u))).below hbk,
      fun h=>(c4 (flag_of (by decide) h)).below hbk,
      fun h=>c5 (flag_of (by decide) h),
      fun _=>rfl,
      fun _=>rfl,
      fun _ _=>⟨_,rfl,bx_new w' _⟩,
      fun h=>(c9 (flag_of (by decide) h)).below hbk,
      fun h=>(c10 (flag_of (by decide) h)).below (flag_of (by decide)) hbk,
      fun h=>(c11 (flag_of (by decide) h)).below (flag_of (by decide)) hbk,
      fun h k=>c12 (flag_of (by decide) h) (flag_of (by decide) k),
      fun h=>⟨flag_old (c13 (flag_of (by decide) h)).1,flag_old (c13 (flag_of (by decide) h)).2.1,flag_old (c13 (flag_of (by decide) h)).2.2⟩,
      fun h=>⟨flag_old (c14 (flag_of (by decide) h)).1,flag_old (c14 (flag_of (by decide) h)).2.1,flag_old (c14 (flag_of (by decide) h)).2.2⟩⟩
    ·have hp:=ready_after (o:={dst:=some 18,op:=Go.Op.call {callee:=Go.Callee.value (Go.Operand.func 10),args:= #[Go.Operand.tmp 14,Go.Operand.tmp 17],argTypes:= #[35,36]},type:=25,pos:= "outright.go:23",after:= #[{on:=5,ground:=Go.Ground.data},{on:=8,ground:=Go.Ground.data},{on:=4,ground:=Go.Ground.chain}],guard:=none}) hi rfl
     simp[Region.binds]at hp
     have hf3:listed.getD 8 false=true:=by first|exact hp|exact hp.1|exact hp.2|exact hp.2.1|exact hp.1.1|simp[hp]
     obtain rfl:=c5 (by first|exact hp|exact hp.1|exact hp.2|exact hp.2.1|exact hp.1.1|simp[hp])
     obtain⟨nb,rfl,hnb⟩:=id (c8 hf3 (fun u=>flag_not hun (c13 u).2.1))
     refine wpOp_shut (o:={dst:=some 18,op:=Go.Op.call {callee:=Go.Callee.value (Go.Operand.func 10),args:= #[Go.Operand.tmp 14,Go.Operand.tmp 17],argTypes:= #[35,36]},type:=25,pos:= "outright.go:23",after:= #[{on:=5,ground:=Go.Ground.data},{on:=8,ground:=Go.Ground.data},{on:=4,ground:=Go.Ground.chain}],guard:=none}) rfl (fun K hK=> ?_)
     simp only[Act.put,List.setIfInBounds_toArray,List.set_cons_zero,List.set_cons_succ]
     go_simp
     refine(of8_row (kindP 5) [⟨some ⟨bx,0,none⟩,1,[⟨ruleLf ⟨#[120]⟩,none,0⟩],0⟩,⟨some ⟨bY,0,none⟩,1,[⟨ruleLf ⟨#[121]⟩,none,0⟩],0⟩] [xT,yT] nb w' (kind_wf _ (by decide)) hnb rfl (fun t ht=>by simp only[List.mem_cons,List.not_mem_nil,or_false]at ht;rcases ht with rfl|rfl;exact⟨_,HTX.out.1.below hb⟩;exact⟨_,HTX.out.2.below hb⟩) (by simp) okCho (by kernel_rfl) _ 2 2 rfl).mono ?_
     rintro e w1 ⟨v,rfl,htx,hto,hbk⟩
     go_wp2_with fail
     exact hK.out _ _ ⟨by simp[hsz],(hb.trans (hbk.mono hB)),(Nat.le_trans hB hbk.size),_,_,_,_,_,_,_,_,_,_,_,_,(by simp only[Act.put,List.setIfInBounds_toArray,List.set_cons_zero,List.set_cons_succ];try rfl),
      fun h=>c0 (flag_of (by decide) h),
      fun h=>c1 (flag_of (by decide) h),
      fun h=>c2 (flag_of (by decide) h),
      fun h k=>(c3 (flag_of (by decide) h) (fun u=>k (flag_old u))).below hbk,
      fun h=>(c4 (flag_of (by decide) h)).below hbk,
      fun _=>rfl,
      fun h=>c6 (flag_of (by decide) h),
      fun h=>c7 (flag_of (by decide) h),
      fun h k=>(c8 (flag_of (by decide) h) (fun u=>k (flag_old u))).below hbk,
      fun _=>⟨v,rfl,hto,htx.tr⟩,
      fun h=>(c10 (flag_of (by decide) h)).below (flag_of (by decide)) hbk,
      fun h=>((c11 (flag_of (by decide) h)).below id hbk).off (fun u=>flag_not hun (c14 (flag_of (by decide) u)).2.1),
      fun h k=>c12 (flag_of (by decide) h) (flag_of (by decide) k),
      fun h=>⟨flag_old (c13 (flag_of (by decide) h)).1,flag_old (c13 (flag_of (by decide) h)).2.1,flag_old (c13 (flag_of (by decide) h)).2.2⟩,
      fun h=>⟨flag_old (c14 (flag_of (by decide) h)).1,flag_old (c14 (flag_of (by decide) h)).2.1,flag_old (c14 (flag_of (by decide) h)).2.2⟩⟩
    ·have hp:=ready_after (o:={dst:=some 3,op:=Go.Op.alloc 25,type:=0,pos:= "outright.go:23",after:= #[],guard:=none}) hi rfl
     simp[Region.binds]at hp
     refine wpOp_shut (o:={dst:=some 3,op:=Go.Op.alloc 25,type:=0,pos:= "outright.go:23",after:= #[],guard:=none}) rfl (fun K hK=> ?_)
     simp only[Act.put,List.setIfInBounds_toArray,List.set_cons_zero,List.set_cons_succ]
     go_simp
     have hbk:=bx1 w' (.cells #[.slice none 0 0,.int .i64 0] 25)
     exact hK.out _ _ ⟨by simp[hsz],(hb.alloc hB _),(by simp;omega),_,_,_,_,_,_,_,_,_,_,_,_,(by simp only[Act.put,List.setIfInBounds_toArray,List.set_cons_zero,List.set_cons_succ];try rfl),
      fun h=>c0 (flag_of (by decide) h),
      fun h=>c1 (flag_of (by decide) h),
      fun h=>c2 (flag_of (by decide) h),
      fun h k=>(c3 (flag_of (by decide) h) (fun u=>k (flag_old u))).below hbk,
      fun h=>(c4 (flag_of (by decide) h)).below hbk,
      fun h=>c5 (flag_of (by decide) h),
      fun h=>c6 (flag_of (by decide) h),
      fun h=>c7 (flag_of (by decide) h),
      fun h k=>(c8 (flag_of (by decide) h) (fun u=>k (flag_old u))).below hbk,
      fun h=>(c9 (flag_of (by decide) h)).below hbk,
      fun _=>BoxT.new hB (fun u=>flag_not hun (c13 (flag_of (by decide) u)).2.2) _ _ _,
      fun h=>(c11 (flag_of (by decide) h)).below (flag_of (by decide)) hbk,
      fun _ h=>Ne.symm (c11 (flag_of (by decide) h)).fresh,
      fun h=>⟨flag_old (c13 (flag_of (by decide) h)).1,flag_old (c13 (flag_of (by decide) h)).2.1,flag_old (c13 (flag_of (by decide) h)).2.2⟩,
      fun h=>⟨flag_old (c14 (flag_of (by decide) h)).1,flag_old (c14 (flag_of (by decide) h)).2.1,flag_old (c14 (flag_of (by decide) h)).2.2⟩⟩
    ·have hp:=ready_after (o:={dst:=some 4,op:=Go.Op.alloc 25,type:=0,pos:= "outright.go:23",after:= #[],guard:=none}) hi rfl
     simp[Region.binds]at hp
     refine wpOp_shut (o:={dst:=some 4,op:=Go.Op.alloc 25,type:=0,pos:= "outright.go:23",after:= #[],guard:=none}) rfl (fun K hK=> ?_)
     simp only[Act.put,List.setIfInBounds_toArray,List.set_cons_zero,List.set_cons_succ]
     go_simp
     have hbk:=bx1 w' (.cells #[.slice none 0 0,.int .i64 0] 25)
     exact hK.out _ _ ⟨by simp[hsz],(hb.alloc hB _),(by simp;omega),_,_,_,_,_,_,_,_,_,_,_,_,(by simp only[Act.put,List.setIfInBounds_toArray,List.set_cons_zero,List.set_cons_succ];try rfl),
      fun h=>c0 (flag_of (by decide) h),
      fun h=>c1 (flag_of (by decide) h),
      fun h=>c2 (flag_of (by decide) h),
      fun h k=>(c3 (flag_of (by decide) h) (fun u=>k (flag_old u))).below hbk,
      fun h=>(c4 (flag_of (by decide) h)).below hbk,
      fun h=>c5 (flag_of (by decide) h),
      fun h=>c6 (flag_of (by decide) h),
      fun h=>c7 (flag_of (by decide) h),
      fun h k=>(c8 (flag_of (by decide) h) (fun u=>k (flag_old u))).below hbk,
      fun h=>(c9 (flag_of (by decide) h)).below hbk,
      fun h=>(c10 (flag_of (by decide) h)).below (flag_of (by decide)) hbk,
      fun _=>BoxT.new hB (fun u=>flag_not hun (c14 (flag_of (by decide) u)).1) _ _ _,
      fun h _=>(c10 (flag_of (by decide) h)).fresh,
      fun h=>⟨flag_old (c13 (flag_of (by decide) h)).1,flag_old (c13 (flag_of (by decide) h)).2.1,flag_old (c13 (flag_of (by decide) h)).2.2⟩,
      fun h=>⟨flag_old (c14 (flag_of (by decide) h)).1,flag_old (c14 (flag_of (by decide) h)).2.1,flag_old (c14 (flag_of (by decide) h)).2.2⟩⟩
    ·have hp:=ready_after (o:={dst:=none,op:=Go.Op.store 25 (Go.Operand.tmp 3) (Go.Operand.tmp 13),type:=0,pos:= "outright.go:23",after:= #[{on:=10,ground:=Go.Ground.data},{on:=4,ground:=Go.Ground.data},{on:=9,ground:=Go.Ground.chain},{on:=0,ground:=Go.Ground.phase},{on:=1,ground:=Go.Ground.phase},{on:=2,ground:=Go.Ground.phase},{on:=3,ground:=Go.Ground.phase},{on:=4,ground:=Go.Ground.phase},{on:=5,ground:=Go.Ground.textOnly Go.Departure.lateStores},{on:=6,ground:=Go.Ground.textOnly Go.Departure.lateStores},{on:=7,ground:=Go.Ground.textOnly Go.Departure.lateStores},{on:=8,ground:=Go.Ground.textOnly Go.Departure.lateStores},{on:=9,ground:=Go.Ground.textOnly Go.Departure.lateStoresUnsure},{on:=10,ground:=Go.Ground.phase},{on:=11,ground:=Go.Ground.phase}],guard:=none}) hi rfl
     simp[Region.binds]at hp
     have hfa:listed.getD 10 false=true:=by first|exact hp.1|exact hp.2|simp[hp]
     have hfs:listed.getD 4 false=true:=by first|exact hp.1|exact hp.2|simp[hp]
     have hf9:listed.getD 9 false=true:=by first|exact hp.1|exact hp.2|simp[hp]
     obtain⟨p,x,y,rfl,hBp,hh,_⟩:=c10 hfa
     obtain⟨⟨TA,tc,tls,tr⟩,rfl,hto,htr⟩:=id (c4 hfs)
     obtain⟨s1,s2,s3,s4⟩:=blk2 hh
     refine wpOp_shut (o:={dst:=none,op:=Go.Op.store 25 (Go.Operand.tmp 3) (Go.Operand.tmp 13),type:=0,pos:= "outright.go:23",after:= #[{on:=10,ground:=Go.Ground.data},{on:=4,ground:=Go.Ground.data},{on:=9,ground:=Go.Ground.chain},{on:=0,ground:=Go.Ground.phase},{on:=1,ground:=Go.Ground.phase},{on:=2,ground:=Go.Ground.phase},{on:=3,ground:=Go.Ground.phase},{on:=4,ground:=Go.Ground.phase},{on:=5,ground:=Go.Ground.textOnly Go.Departure.lateStores},{on:=6,ground:=Go.Ground.textOnly Go.Departure.lateStores},{on:=7,ground:=Go.Ground.textOnly Go.Departure.lateStores},{on:=8,ground:=Go.Ground.textOnly Go.Departure.lateStores},{on:=9,ground:=Go.Ground.textOnly Go.Departure.lateStoresUnsure},{on:=10,ground:=Go.Ground.phase},{on:=11,ground:=Go.Ground.phase}],guard:=none}) rfl (fun K hK=> ?_)
     simp only[Act.put,List.setIfInBounds_toArray,List.set_cons_zero,List.set_cons_succ]
     go_simp
     have hs3:=fun x y=>set2h (W:=w') x y hBp hh
     exact hK.out _ _ ⟨by simp[hsz],(hb.trans (hs3 _ _).2.2),(Nat.le_trans hB (hs3 _ _).2.2.size),_,_,_,_,_,_,_,_,_,_,_,_,(by simp only[Act.put,List.setIfInBounds_toArray,List.set_cons_zero,List.set_cons_succ];try rfl),
      fun h=>c0 (flag_of (by decide) h),
      fun h=>c1 (flag_of (by decide) h),
      fun h=>c2 (flag_of (by decide) h),
      fun _ k=>absurd (flag_self (by omega)) k,
      fun h=>(c4 (flag_of (by decide) h)).but hh (hs3 _ _).2.1,
      fun h=>c5 (flag_of (by decide) h),
      fun h=>c6 (flag_of (by decide) h),
      fun h=>c7 (flag_of (by decide) h),
      fun _ k=>absurd (flag_self (by omega)) k,
      fun h=>(c9 (flag_of (by decide) h)).but hh (hs3 _ _).2.1,
      fun _=>⟨p,_,_,rfl,hBp,(hs3 _ _).1,fun _=>rfl⟩,
      fun h=>(c11 (flag_of (by decide) h)).but (flag_of (by decide)) (Ne.symm (c12 hfa (flag_of (by decide) h))) (hs3 _ _).2.1,
      fun h k=>c12 (flag_of (by decide) h) (flag_of (by decide) k),
      fun _=>⟨flag_old hfs,flag_old hf9,flag_old hfa⟩,
      fun h=>⟨flag_old (c14 (flag_of (by decide) h)).1,flag_old (c14 (flag_of (by decide) h)).2.1,flag_old (c14 (flag_of (by decide) h)).2.2⟩⟩
    ·have hp:=ready_after (o:={dst:=none,op:=Go.Op.store 25 (Go.Operand.tmp 4) (Go.Operand.tmp 18),type:=0,pos:= "outright.go:23",after:= #[{on:=11,ground:=Go.Ground.data},{on:=9,ground:=Go.Ground.data},{on:=12,ground:=Go.Ground.chain},{on:=0,ground:=Go.Ground.phase},{on:=1,ground:=Go.Ground.phase},{on:=2,ground:=Go.Ground.phase},{on:=3,ground:=Go.Ground.phase},{on:=4,ground:=Go.Ground.phase},{on:=5,ground:=Go.Ground.phase},{on:=6,ground:=Go.Ground.phase},{on:=7,ground:=Go.Ground.phase},{on:=8,ground:=Go.Ground.phase},{on:=9,ground:=Go.Ground.phase},{on:=10,ground:=Go.Ground.phase},{on:=11,ground:=Go.Ground.phase},{on:=12,ground:=Go.Ground.phase}],guard:=none}) hi rfl
     simp[Region.binds]at hp
     have hfa:listed.getD 11 false=true:=by first|exact hp.1|exact hp.2|simp[hp]
     have hfs:listed.getD 9 false=true:=by first|exact hp.1|exact hp.2|simp[hp]
     have hf12:listed.getD 12 false=true:=by first|exact hp.1|exact hp.2|simp[hp]
     obtain⟨p,x,y,rfl,hBp,hh,_⟩:=c11 hfa
     obtain⟨⟨TA,tc,tls,tr⟩,rfl,hto,htr⟩:=id (c9 hfs)
     obtain⟨s1,s2,s3,s4⟩:=blk2 hh
     refine wpOp_shut (o:={dst:=none,op:=Go.Op.store 25 (Go.Operand.tmp 4) (Go.Operand.tmp 18),type:=0,pos:= "outright.go:23",after:= #[{on:=11,ground:=Go.Ground.data},{on:=9,ground:=Go.Ground.data},{on:=12,ground:=Go.Ground.chain},{on:=0,ground:=Go.Ground.phase},{on:=1,ground:=Go.Ground.phase},{on:=2,ground:=Go.Ground.phase},{on:=3,ground:=Go.Ground.phase},{on:=4,ground:=Go.Ground.phase},{on:=5,ground:=Go.Ground.phase},{on:=6,ground:=Go.Ground.phase},{on:=7,ground:=Go.Ground.phase},{on:=8,ground:=Go.Ground.phase},{on:=9,ground:=Go.Ground.phase},{on:=10,ground:=Go.Ground.phase},{on:=11,ground:=Go.Ground.phase},{on:=12,ground:=Go.Ground.phase}],guard:=none}) rfl (fun K hK=> ?_)
     simp only[Act.put,List.setIfInBounds_toArray,List.set_cons_zero,List.set_cons_succ]
     go_simp
     have hs3:=fun x y=>set2h (W:=w') x y hBp hh
     exact hK.out _ _ ⟨by simp[hsz],(hb.trans (hs3 _ _).2.2),(Nat.le_trans hB (hs3 _ _).2.2.size),_,_,_,_,_,_,_,_,_,_,_,_,(by simp only[Act.put,List.setIfInBounds_toArray,List.set_cons_zero,List.set_cons_succ];try rfl),
      fun h=>c0 (flag_of (by decide) h),
      fun h=>c1 (flag_of (by decide) h),
      fun h=>c2 (flag_of (by decide) h),
      fun _ k=>absurd (flag_old hf12) k,
      fun h=>(c4 (flag_of (by decide) h)).but hh (hs3 _ _).2.1,
      fun h=>c5 (flag_of (by decide) h),
      fun h=>c6 (flag_of (by decide) h),
      fun h=>c7 (flag_of (by decide) h),
      fun _ k=>absurd (flag_old hf12) k,
      fun h=>(c9 (flag_of (by decide) h)).but hh (hs3 _ _).2.1,
      fun h=>(c10 (flag_of (by decide) h)).but (flag_of (by decide)) (c12 (flag_of (by decide) h) hfa) (hs3 _ _).2.1,
      fun _=>⟨p,_,_,rfl,hBp,(hs3 _ _).1,fun _=>rfl⟩,
      fun h k=>c12 (flag_of (by decide) h) (flag_of (by decide) k),
      fun h=>⟨flag_old (c13 (flag_of (by decide) h)).1,flag_old (c13 (flag_of (by decide) h)).2.1,flag_old (c13 (flag_of (by decide) h)).2.2⟩,
      fun _=>⟨flag_old hfa,flag_old hfs,flag_old hf12⟩⟩
  ·intro listed a' wz hI hr
   obtain⟨hsz,hb,hB,v9,v10,v11,v12,v13,v14,v15,v16,v17,v18,v3,v4,rfl,c0,c1,c2,c3,c4,c5,c6,c7,c8,c9,c10,c11,c12,c13,c14⟩:=hI
   have hall:=all_listed hsz (by kernel_rfl) hr
   obtain⟨s,rfl,hso,hst⟩:=c4 (hall 4 (by decide))
   obtain⟨c,rfl,hco,hct⟩:=c9 (hall 9 (by decide))
   obtain⟨p,x0,x1,rfl,_,hp,hps⟩:=c10 (hall 10 (by decide))
   obtain⟨q,y0,y1,rfl,_,hq,hqs⟩:=c11 (hall 11 (by decide))
   have e1:=hps (hall 12 (by decide));simp at e1;obtain⟨rfl,rfl⟩:=e1
   have e2:=hqs (hall 13 (by decide));simp at e2;obtain⟨rfl,rfl⟩:=e2
   simp only[Act.put,List.setIfInBounds_toArray,List.set_cons_zero,List.set_cons_succ]
   have HF1:=Lib.hid hp;have HF2:=Lib.hid hq
   have HF3:=Lib.hid (show TX wz seqT s from⟨hso.inn,hst,by kernel_rfl⟩)
   have HF4:=Lib.hid (show TX wz choT c from⟨hco.inn,hct,by kernel_rfl⟩)
   have HF5:=Lib.hid hb
   clear hsz hb hB c0 c1 c2 c3 c4 c5 c6 c7 c8 c9 c10 c11 c12 c13 c14 hall hso hst hco hct hp hps hq hqs hr
   go_wp2_with fail
   go_meet
   exact⟨p,q,s,c,rfl,rfl,HF1,HF2,HF3,HF4,HF5⟩
 case rest=>
  obtain⟨p,q,s,c,rfl,rfl,HPS,HPC,HTS,HTC,HBR⟩:=hcut
  have HW:=Lib.hid (Below.step HBV.out HBR.out)
  clear HBV HBR HCX HTX
  have HBU:=Lib.hid (show Bun2 wc p q s c from⟨HPS.out,HPC.out,HTS.out,HTC.out⟩)
  clear HPS HPC HTS HTC
  go_wp2_with fail
  refine(text_any ⟨#[97]⟩ _ (by decide)).mono ?_
  rintro e w4 ⟨ba,rfl,hto,hb⟩
  have HA:=Lib.hid (show TX w4 taT ⟨some ⟨ba,0,none⟩,1,[⟨textLf ⟨#[97]⟩,none,0⟩],0⟩from TX.leaf hto (by kernel_rfl))
  have HBU':=Lib.hid (HBU.out.below hb);have HW':=Lib.hid (Below.step HW.out hb);clear HBU HW hto hb
  go_wp2_with fail
  refine(rule_any ⟨#[98]⟩ _ (by decide)).mono ?_
  rintro e w5 ⟨bb,rfl,hto,hb⟩
  have HRB:=Lib.hid (show TX w5 rbT ⟨some ⟨bb,0,none⟩,1,[⟨ruleLf ⟨#[98]⟩,none,0⟩],0⟩from TX.leaf hto (by kernel_rfl))
  have HA2:=Lib.hid (HA.out.below hb);have HBU:=Lib.hid (HBU'.out.below hb);have HW:=Lib.hid (Below.step HW'.out hb);clear HBU' HW' HA hto hb
  go_wp2_with fail
  refine(of8_row (kindP 4) [⟨some ⟨ba,0,none⟩,1,[⟨textLf ⟨#[97]⟩,none,0⟩],0⟩,⟨some ⟨bb,0,none⟩,1,[⟨ruleLf ⟨#[98]⟩,none,0⟩],0⟩] [taT,rbT] w5.heap.size _ (kind_wf _ (by decide)) (bx_new w5 (.cells #[.slice (some ⟨ba,0,none⟩) 1 1,.int .i64 0,.slice (some ⟨bb,0,none⟩) 1 1,.int .i64 0] 25)) (two_eq HA2.out.tr HRB.out.tr) (fun t ht=>by simp only[List.mem_cons,List.not_mem_nil,or_false]at ht;rcases ht with rfl|rfl;exact⟨_,HA2.out.below (bx1 w5 _)⟩;exact⟨_,HRB.out.below (bx1 w5 _)⟩) (by simp) okAB (by kernel_rfl) _ 2 2 rfl).mono ?_
  rintro e w6 ⟨v1,rfl,htx, -,hb⟩
  have HV1:=Lib.hid (show TX w6 abT v1 from htx)
  have HBU':=Lib.hid ((HBU.out.below (bx1 w5 (.cells #[.slice (some ⟨ba,0,none⟩) 1 1,.int .i64 0,.slice (some ⟨bb,0,none⟩) 1 1,.int .i64 0] 25))).below hb);have HW':=Lib.hid (Below.step (Below.step HW.out (bx1 w5 (.cells #[.slice (some ⟨ba,0,none⟩) 1 1,.int .i64 0,.slice (some ⟨bb,0,none⟩) 1 1,.int .i64 0] 25))) hb);clear HBU HW HA2 HRB htx hb
  go_wp2_with fail
  refine(empty_any _).mono ?_
  rintro e w7 ⟨be,rfl,hto,hb⟩
  have HEM:=Lib.hid (show TX w7 emT ⟨some ⟨be,0,none⟩,1,[⟨emptyLf,none,0⟩],0⟩from TX.leaf hto (by kernel_rfl))
  have HV2:=Lib.hid (HV1.out.below hb);have HBU:=Lib.hid (HBU'.out.below hb);have HW:=Lib.hid (Below.step HW'.out hb);clear HBU' HW' HV1 hto hb
  go_wp2_with fail
  refine(of8_row (kindP 5) [v1,⟨some ⟨be,0,none⟩,1,[⟨emptyLf,none,0⟩],0⟩] [abT,emT] w7.heap.size _ (kind_wf _ (by decide)) (bx_new w7 (.cells #[.slice v1.A v1.ls.length v1.c,.int .i64 v1.root,.slice (some ⟨be,0,none⟩) 1 1,.int .i64 0] 25)) (two_eq HV2.out.tr HEM.out.tr) (fun t ht=>by simp only[List.mem_cons,List.not_mem_nil,or_false]at ht;rcases ht with rfl|rfl;exact⟨_,HV2.out.below (bx1 w7 _)⟩;exact⟨_,HEM.out.below (bx1 w7 _)⟩) (by simp) okA (by kernel_rfl) _ 2 2 rfl).mono ?_
  rintro e w8 ⟨v2,rfl,htx, -,hb⟩
  have HV3:=Lib.hid (show TX w8 aT v2 from htx)
  have HBU':=Lib.hid ((HBU.out.below (bx1 w7 (.cells #[.slice v1.A v1.ls.length v1.c,.int .i64 v1.root,.slice (some ⟨be,0,none⟩) 1 1,.int .i64 0] 25))).below hb);have HW':=Lib.hid (Below.step (Below.step HW.out (bx1 w7 (.cells #[.slice v1.A v1.ls.length v1.c,.int .i64 v1.root,.slice (some ⟨be,0,none⟩) 1 1,.int .i64 0] 25))) hb);clear HBU HW HV2 HEM htx hb
  go_wp2_with fail
  refine(tset_any 0 60129542144 0 0 _ (by simp[U64]) (by simp[U64]) (by simp[U64]) (by simp[U64])).mono ?_
  rintro e w9 ⟨bs,rfl,hto,hb⟩
  have HB5:=Lib.hid (bx_kept hb (bx_new w8 (.cells #[.slice v2.A v2.ls.length v2.c,.int .i64 v2.root] 25)))
  have HST:=Lib.hid (show TX w9 stT ⟨some ⟨bs,0,none⟩,1,[⟨setLf 0 60129542144 0 0,none,0⟩],0⟩from TX.leaf hto (by kernel_rfl))
  have HV4:=Lib.hid ((HV3.out.below (bx1 w8 (.cells #[.slice v2.A v2.ls.length v2.c,.int .i64 v2.root] 25))).below hb);have HBU:=Lib.hid ((HBU'.out.below (bx1 w8 (.cells #[.slice v2.A v2.ls.length v2.c,.int .i64 v2.root] 25))).below hb);have HW:=Lib.hid (Below.step (Below.step HW'.out (bx1 w8 (.cells #[.slice v2.A v2.ls.length v2.c,.int .i64 v2.root] 25))) hb);clear HBU' HW' HV3 hto hb
  go_wp2_with fail
  refine(of8_row plusN [⟨some ⟨bs,0,none⟩,1,[⟨setLf 0 60129542144 0 0,none,0⟩],0⟩] [stT] w9.heap.size _ plus_wf (bx_new w9 (.cells #[.slice (some ⟨bs,0,none⟩) 1 1,.int .i64 0] 25)) (congrArg (fun x=>[x]) HST.out.tr) (fun t ht=>by simp only[List.mem_cons,List.not_mem_nil,or_false]at ht;subst ht;exact⟨_,HST.out.below (bx1 w9 _)⟩) (by simp) okPlus (by kernel_rfl) _ 1 1 rfl).mono ?_
  rintro e w10 ⟨v3,rfl,htx, -,hb⟩
  have HBF:=Lib.hid (show Bun4 (w10.alloc (.cells #[.slice v3.A v3.ls.length v3.c,.int .i64 v3.root] 25)) p q w8.heap.size w10.heap.size s c v2 v3 from⟨((HBU.out.below (bx1 w9 (.cells #[.slice (some ⟨bs,0,none⟩) 1 1,.int .i64 0] 25))).below hb).below (bx1 w10 (.cells #[.slice v3.A v3.ls.length v3.c,.int .i64 v3.root] 25)),bx_old (bx_kept hb (bx_old HB5.out)),bx_new w10 _,((HV4.out.below (bx1 w9 (.cells #[.slice (some ⟨bs,0,none⟩) 1 1,.int .i64 0] 25))).below hb).below (bx1 w10 (.cells #[.slice v3.A v3.ls.length v3.c,.int .i64 v3.root] 25)),(show TX w10 plusT v3 from htx).below (bx1 w10 (.cells #[.slice v3.A v3.ls.length v3.c,.int .i64 v3.root] 25))⟩)
  have HW':=Lib.hid (Below.step (Below.step (Below.step HW.out (bx1 w9 (.cells #[.slice (some ⟨bs,0,none⟩) 1 1,.int .i64 0] 25))) hb) (bx1 w10 (.cells #[.slice v3.A v3.ls.length v3.c,.int .i64 v3.root] 25)));clear HBU HW HST HV4 HB5 htx hb
  go_upto_region 5 with(fail)
  generalize w10.alloc (.cells #[.slice v3.A v3.ls.length v3.c,.int .i64 v3.root] 25)=W at *
  generalize w8.heap.size=b5 at *
  generalize w10.heap.size=b6 at *
  obtain⟨s1,s2,_,_⟩:=blk2 HBF.out.h5
  go_wp2_with fail
  refine(ptree_tx HBF.out.t5 (HP.out.below HW'.out) trA).mono ?_
  rintro e w11 ⟨rfl,hb⟩
  have HF11:=Lib.hid (HBF.out.below hb);have HX11:=Lib.hid (Below.step HW'.out hb)
  clear s1 s2
  clear HBF HW' hb
  obtain⟨s1,s2,_,_⟩:=blk2 HF11.out.two.ps
  go_wp2_with fail
  refine(of8_row (kindP 8) [s] [seqT] w11.heap.size _ (kind_wf _ (by decide)) (bx_new w11 (.cells #[.slice s.A s.ls.length s.c,.int .i64 s.root] 25)) (congrArg (fun x=>[x]) HF11.out.two.st.tr) (fun t ht=>by simp only[List.mem_cons,List.not_mem_nil,or_false]at ht;subst ht;exact⟨_,HF11.out.two.st.below (bx1 w11 _)⟩) (by simp) okNot (by kernel_rfl) _ 1 1 rfl).mono ?_
  rintro e w12 ⟨v,rfl,htx, -,hb⟩
  have HF12:=Lib.hid (HF11.out.below (Below.step (bx1 w11 (.cells #[.slice s.A s.ls.length s.c,.int .i64 s.root] 25)) hb));have HX12:=Lib.hid (Below.step HX11.out (Below.step (bx1 w11 (.cells #[.slice s.A s.ls.length s.c,.int .i64 s.root] 25)) hb))
  have HTV:=Lib.hid htx;clear htx s1 s2
  clear HF11 HX11 hb
  go_wp2_with fail
  refine(ptree_tx HTV.out (HP.out.below HX12.out) trNot).mono ?_
  rintro e w13 ⟨rfl,hb⟩
  have HF13:=Lib.hid (HF12.out.below hb);have HX13:=Lib.hid (Below.step HX12.out hb)
  clear HTV
  clear HF12 HX12 hb
  obtain⟨s1,s2,_,_⟩:=blk2 HF13.out.h6
  go_wp2_with fail
  refine(of8_row repP [v3] [plusT] w13.heap.size _ rep_wf (bx_new w13 (.cells #[.slice v3.A v3.ls.length v3.c,.int .i64 v3.root] 25)) (congrArg (fun x=>[x]) HF13.out.t6.tr) (fun t ht=>by simp only[List.mem_cons,List.not_mem_nil,or_false]at ht;subst ht;exact⟨_,HF13.out.t6.below (bx1 w13 _)⟩) (by simp) okRep (by kernel_rfl) _ 1 1 rfl).mono ?_
  rintro e w14 ⟨v,rfl,htx, -,hb⟩
  have HF14:=Lib.hid (HF13.out.below (Below.step (bx1 w13 (.cells #[.slice v3.A v3.ls.length v3.c,.int .i64 v3.root] 25)) hb));have HX14:=Lib.hid (Below.step HX13.out (Below.step (bx1 w13 (.cells #[.slice v3.A v3.ls.length v3.c,.int .i64 v3.root] 25)) hb))
  have HTV:=Lib.hid htx;clear htx s1 s2
  clear HF13 HX13 hb
  go_wp2_with fail
  refine(ptree_tx HTV.out (HP.out.below HX14.out) trRep).mono ?_
  rintro e w15 ⟨rfl,hb⟩
  have HF15:=Lib.hid (HF14.out.below hb);have HX15:=Lib.hid (Below.step HX14.out hb)
  clear HTV
  clear HF14 HX14 hb
  obtain⟨s1,s2,_,_⟩:=blk2 HF15.out.two.qs
  go_wp2_with fail
  refine(of8_row capP [c] [choT] w15.heap.size _ cap_wf (bx_new w15 (.cells #[.slice c.A c.ls.length c.c,.int .i64 c.root] 25)) (congrArg (fun x=>[x]) HF15.out.two.ct.tr) (fun t ht=>by simp only[List.mem_cons,List.not_mem_nil,or_false]at ht;subst ht;exact⟨_,HF15.out.two.ct.below (bx1 w15 _)⟩) (by simp) okCap (by kernel_rfl) _ 1 1 rfl).mono ?_
  rintro e w16 ⟨v,rfl,htx, -,hb⟩
  have HF16:=Lib.hid (HF15.out.below (Below.step (bx1 w15 (.cells #[.slice c.A c.ls.length c.c,.int .i64 c.root] 25)) hb));have HX16:=Lib.hid (Below.step HX15.out (Below.step (bx1 w15 (.cells #[.slice c.A c.ls.length c.c,.int .i64 c.root] 25)) hb))
  have HTV:=Lib.hid htx;clear htx s1 s2
  clear HF15 HX15 hb
  go_wp2_with fail
  refine(ptree_tx HTV.out (HP.out.below HX16.out) trCap).mono ?_
  rintro e w17 ⟨rfl,hb⟩
  have HF17:=Lib.hid (HF16.out.below hb);have HX17:=Lib.hid (Below.step HX16.out hb)
  clear HTV
  clear HF16 HX16 hb
  go_wp2_with fail
  refine(count_tx (HP.out.below HX17.out) cn1).mono ?_
  rintro e w18 ⟨rfl,hb⟩
  have HF18:=Lib.hid (HF17.out.below hb);have HX18:=Lib.hid (Below.step HX17.out hb)
  clear HF17 HX17 hb
  go_wp2_with fail
  refine(count_tx (HP.out.below HX18.out) cn2).mono ?_
  rintro e w19 ⟨rfl,hb⟩
  have HF19:=Lib.hid (HF18.out.below hb);have HX19:=Lib.hid (Below.step HX18.out hb)
  clear HF18 HX18 hb
  go_wp2_with fail
  refine(count_tx (HP.out.below HX19.out) cn3).mono ?_
  rintro e w20 ⟨rfl,hb⟩
  have HF20:=Lib.hid (HF19.out.below hb);have HX20:=Lib.hid (Below.step HX19.out hb)
  clear HF19 HX19 hb
  go_wp2_with fail
  refine(count_tx (HP.out.below HX20.out) cn4).mono ?_
  rintro e w21 ⟨rfl,hb⟩
  have HF21:=Lib.hid (HF20.out.below hb);have HX21:=Lib.hid (Below.step HX20.out hb)
  clear HF20 HX20 hb
  go_wp2_with fail
  go_ret
  exact⟨rfl,HX21.out⟩
end Go.Proofs.YtdnochjajoiooaaDoor
