/- The contract of tree.moved. -/
import Derived.Test.YtpfokabdpmjobaaGreatDoorTt
import Derived.Test.YtpfokabdpmjobaaGreatDoorDw
namespace Go.Proofs.YtpfokabdpmjobaaGreatDoor
open Go.RowKit
set_option linter.unusedSimpArgs false
set_option linter.unusedVariables false
def MovedRel (w:World) (H:Nat) (ls:List Ln) (b:Int) (i:Value) (wr:World):Prop:=
 ∃(k:Nat) (ls':List Ln),k≤ls.length∧i=.int .i64 k∧Hid (ls'.length=ls.length)∧Hid (wr.heap[H]?=some (.cells (ndL.all ls').toArray 54 (0,0))) ∧
  Hid (∀j (h:j<ls'.length) (h2:j<ls.length),j<k→ls'[j].nd=moveN b ls[j].nd∧NdOwn wr (H < ·) ls'[j])∧Hid (∀j (h:j<ls'.length) (h2:j<ls.length),k≤j→ls'[j]=ls[j])∧Hid (Below H w wr)
set_option maxRecDepth 100000 in
set_option maxHeartbeats 6400000 in
theorem moved_any (A:Option Addr) (c:Nat) (ls:List Ln) (b:Int) (S:Nat→Prop) (w:World) (hT:ndL.row w S A ls) (hl:ls.length≤4294967296) (hne:0<ls.length) (hkl:∀l∈ls,l.nd.kids.length≤4294967296) (hkz:∀l∈ls,∀z∈l.nd.kids, -4294967296≤z∧z≤4294967296) (hb: -4294967296≤b∧b≤4294967296):
  Calls Tryz.prog 93 #[.slice A ls.length c,.int .i64 b] w (NodesPost (ls.map fun l=>moveN b l.nd) w):=by
 obtain⟨i0,hi,hz0,hz1,hz2⟩:=info_parts infoInt
 obtain⟨j0,hj,hy0,hy1,hy2⟩:=info_parts infoNode
 have HT:=Lib.hid hT;have HKL:=Lib.hid hkl;have HKZ:=Lib.hid hkz
 clear hT hkl hkz
 obtain⟨ad,hA,_⟩:=HT.out.rowAt 0 _ (List.getElem?_eq_getElem (by rw[ndL.all_length];show 0<_*9;omega))
 subst hA
 unfold NodesPost
 go_enter Tryz.func93,Tryz.ntmps93
 have F1:=Lib.hid (show j0.bytes*ls.length≤281474976710656∧ls.length≤maxLen from⟨by rw[hy2];omega,by unfold maxLen;omega⟩)
 have hs9:(Tryz.prog.info? 54).map (·.size)=some 9:=by kernel_rfl
 have HS9:=Lib.hid hs9;clear hs9
 have hsz1:(Tryz.prog.info? 3).map (·.size)=some 1:=by kernel_rfl
 have HSZ1:=Lib.hid hsz1;clear hsz1
 have HSRC:=Lib.hid (show ∀w',Below w.heap.size w w'→ ∀j v,(ndL.all ls)[j]?=some v→w'.cell? (ad.add j)=some v from fun w' hb j v hv=>by
  obtain⟨ad',e,h⟩:=(HT.out.agree (below_all hb)).rowAt j v hv
  cases e;exact h)
 go_wp2_with (first
  |(at_make;refine wpList_make_full _ rfl _ _ 38 rfl w.heap.size 54 j0 _ 9 Tryz.underlying38 hj hy0 hy1 .i64 .i64 _ _ ls.length rfl rfl rfl rfl F1.out.1 F1.out.2 (Nat.le_refl _) ?_;intro w2 hown2 hgrow2;have HO2:=Lib.hid hown2;have HB2:=Lib.hid (show Below w.heap.size w w2 from(Below.refl _ _).grown hgrow2 (Nat.le_refl _) (fun k e=>by cases e));clear hown2 hgrow2)
  |(with_reducible refine wpList_copy_rowN rfl (.tmp 13) (.tmp 14) 38 38 rfl 54 9 Tryz.underlying38 HS9.out (some ⟨w.heap.size,0,none⟩) ls.length ls.length (some ad) ls.length c rfl rfl w.heap.size rfl _ 54 (own_fullN HO2.out) (ndL.all ls) ?_ ad rfl (HSRC.out _ HB2.out) ?_ (ndL.all_one' _) w.heap.size (Nat.le_refl _) ?_))
 ·rw[ndL.all_length];show _*9=_;simp[Nat.min_def]
 ·rw[ndL.all_length];have:=HO2.out.1;show _*9=_;omega
 intro w3 HX3 hb3
 have HB3:=Lib.hid (show Below w.heap.size w w3 from HB2.out.trans hb3)
 clear hb3 HB2
 have hz3:w.heap.size<w3.heap.size:=heap_lt' HX3.out
 clear HO2
 go_wp2_with fail
 go_loopw [18] (fun i wr=>MovedRel w w.heap.size ls b i wr) (fun i _=>ls.length-(intOf i).toNat)
 case atStart=>exact⟨0,ls,by omega,rfl,Lib.hid rfl,HX3,Lib.hid (fun j _ _ hj=>by omega),Lib.hid (fun j _ _ _=>rfl),HB3⟩
 case round=>
  clear HX3 HB3 hz3
  obtain⟨k,ls',hk,rfl,HLN,HX,HOW,HRS,HB⟩:=hrel
  by_cases hlt:k<ls.length
  ·have hlt':k<ls'.length:=by rw[HLN.out];exact hlt
   have hHs:w.heap.size<wr.heap.size:=heap_lt' HX.out
   have hRK:=HRS.out k hlt' hlt (Nat.le_refl _)
   obtain⟨x0,x1,x2,x3,x4,x5,x6,x7,x8,_⟩:=blk_at9 HX.out k hlt'
   rw[hRK]at x0 x1 x2 x3 x4 x5 x6 x7 x8
   have HRK:=Lib.hid hRK;clear hRK
   have HKK:=Lib.hid (HKL.out ls[k] (List.getElem_mem hlt))
   have HZZ:=Lib.hid (HKZ.out ls[k] (List.getElem_mem hlt))
   have HWF:=Lib.hid (ndWf HT.out k hlt)
   have HSUB:=Lib.hid (show ∀w',Below w.heap.size w w'→intL.row w' S ls[k].A ls[k].nd.kids from fun w' hb=>ndSub (HT.out.agree (below_all hb)) k hlt)
   have HNM:=Lib.hid (show(ndL.all ls').set (k*9+8) (.slice ls[k].A ls[k].nd.kids.length ls[k].c)=ndL.all ls' from by
    have h:=all_set8 ls' k hlt' ls[k].A ls[k].c
    rw[HRK.out]at h
    rw[h]
    congr 1
    apply List.ext_getElem?
    intro i
    rw[List.getElem?_set]
    by_cases e:k=i
    ·subst e;rw[if_pos rfl,if_pos hlt',List.getElem?_eq_getElem hlt',HRK.out]
    ·rw[if_neg e])
   have HMV:=Lib.hid (show ∀A c,(ndL.all ls').set (k*9+8) (.slice A ls[k].nd.kids.length c)=ndL.all (ls'.set k ⟨moveN b ls[k].nd,A,c⟩)from fun A c=>by
    have h:=all_moved ls' k hlt' b A c
    rw[HRK.out]at h;exact h)
   have hkn:(moveN b ls[k].nd).kids.length=ls[k].nd.kids.length:=by simp[moveN]
   have HKN:=Lib.hid hkn;clear hkn
   have HME:=Lib.hid (movedK_end b ls[k].nd)
   have HNX:=Lib.hid (show ∀(W:World) (A':Option Addr) (c':Nat),W.heap[w.heap.size]?=some (.cells (ndL.all (ls'.set k ⟨moveN b ls[k].nd,A',c'⟩)).toArray 54 (0,0))→(∀x,x<wr.heap.size→x≠w.heap.size→W.heap[x]?=wr.heap[x]?)→NdOwn W (w.heap.size < ·) ⟨moveN b ls[k].nd,A',c'⟩→Below w.heap.size w W→MovedRel w w.heap.size ls b (.int .i64 ((k:Int)+1)) W from fun W A' c' h1 h2 h3 h4=>by
    refine⟨k+1,ls'.set k ⟨moveN b ls[k].nd,A',c'⟩,hlt,by go_num,Lib.hid (by rw[List.length_set];exact HLN.out),Lib.hid h1,Lib.hid (fun j hj hj2 hjk=> ?_),Lib.hid (fun j hj hj2 hjk=> ?_),Lib.hid h4⟩
    ·by_cases e:k=j
     ·subst e
      rw[List.getElem_set_self]
      exact⟨rfl,h3⟩
     ·rw[List.getElem_set_ne e]
      have h5:=HOW.out j (by simpa using hj) hj2 (by omega)
      refine⟨h5.1,?_⟩
      have h6:=h5.2.mono (T:=fun x=>w.heap.size<x∧x<wr.heap.size) (fun x a b=>⟨b,a⟩)
      exact(h6.agree (fun x hx _=>h2 x hx.2 (by omega))).mono (fun x _ h=>h.1)
    ·rw[List.getElem_set_ne (by omega)]
     exact HRS.out j (by simpa using hj) hj2 (by omega))
   clear HRS HOW HRK HLN
   have i1:(k:Int)<(ls.length:Int):=by omega
   have i2:(0:Int)≤(k:Int):=by omega
   generalize ls[k]=ln at *
   obtain⟨nd,lA,lc⟩:=ln
   simp only at x0 x1 x2 x3 x4 x5 x6 x7 x8
   go_upto_region 6 with(fail)
   have HWK:=Lib.hid (bx_new wr (.cells #[.int .u8 nd.kind,.int .u64 nd.s0,.int .u64 nd.s1,.int .u64 nd.s2,.int .u64 nd.s3,.string nd.text,.int .i64 nd.mn,.int .i64 nd.mx,.slice lA nd.kids.length lc] 54))
   have HWB:=Lib.hid (bx1 wr (.cells #[.int .u8 nd.kind,.int .u64 nd.s0,.int .u64 nd.s1,.int .u64 nd.s2,.int .u64 nd.s3,.string nd.text,.int .i64 nd.mn,.int .i64 nd.mx,.slice lA nd.kids.length lc] 54))
   have HWZ:=Lib.hid (show(wr.alloc (.cells #[.int .u8 nd.kind,.int .u64 nd.s0,.int .u64 nd.s1,.int .u64 nd.s2,.int .u64 nd.s3,.string nd.text,.int .i64 nd.mn,.int .i64 nd.mx,.slice lA nd.kids.length lc] 54)).heap.size=wr.heap.size+1 from by simp)
   generalize wr.alloc (.cells #[.int .u8 nd.kind,.int .u64 nd.s0,.int .u64 nd.s1,.int .u64 nd.s2,.int .u64 nd.s3,.string nd.text,.int .i64 nd.mn,.int .i64 nd.mx,.slice lA nd.kids.length lc] 54)=W at *
   have HXW:=Lib.hid (bx_kept HWB.out HX.out)
   have c8:=(HWB.out.cell (cellLt x8)).trans x8
   have c9:W.frozen? ⟨w.heap.size,k*9+8,none⟩=false:=by simp[World.frozen?,HXW.out]
   clear x0 x1 x2 x3 x4 x5 x6 x7 x8
   go_upto_region 7 with(fail)
   have HXS:=Lib.hid (row_set (j:=k*9+8) HXW.out (.slice none 0 0))
   have HES:=Lib.hid (show ∀x,x≠w.heap.size→(W.setCell ⟨w.heap.size,k*9+8,none⟩ (.slice none 0 0)).heap[x]?=W.heap[x]? from fun x hx=>Below.heap_setCell _ _ _ _ hx)
   have HZS:=Lib.hid (show(W.setCell ⟨w.heap.size,k*9+8,none⟩ (.slice none 0 0)).heap.size=wr.heap.size+1 from by simp[HWZ.out])
   have HBS:=Lib.hid (show Below w.heap.size w (W.setCell ⟨w.heap.size,k*9+8,none⟩ (.slice none 0 0))from(Below.step HB.out HWB.out).setCell (p:=⟨w.heap.size,k*9+8,none⟩) (Nat.le_refl _) _)
   generalize W.setCell ⟨w.heap.size,k*9+8,none⟩ (.slice none 0 0)=W2 at *
   clear c8 c9
   have HK2:=Lib.hid ((HES.out wr.heap.size (by omega)).trans HWK.out)
   obtain⟨_,_,_,_,_,_,_,_,y8,_⟩:=blk9 HK2.out
   have HOT:=Lib.hid (show ∀x,x<wr.heap.size→x≠w.heap.size→W2.heap[x]?=wr.heap[x]? from fun x h1 h2=>(HES.out x h2).trans (HWB.out.block x h1))
   have HWF':=Lib.hid (show nd.wf from HWF.out)
   have HKK':=Lib.hid (show nd.kids.length≤4294967296 from HKK.out)
   have HZZ':=Lib.hid (show ∀z∈nd.kids, -4294967296≤z∧z≤4294967296 from HZZ.out)
   have hkk:=HKK'.out
   by_cases hk0:nd.kids.length=0
   ·have e0:((nd.kids.length:Int)==0)=true:=by rw[beq_iff_eq];omega
    as_aux_lemma=>
     go_wp2_with fail
     refine⟨HNX.out W2 none 0 ?_ HOT.out ?_ HBS.out,by simp only[intOf];omega⟩
     ·have h:=HMV.out none 0
      simp only[hk0]at h
      rw[←h];exact HXS.out
     ·refine⟨moveN_wf HWF'.out,?_⟩
      show OwnS W2 _ _ 1 none (moveN b nd).kids.length 0 (intL.all (moveN b nd).kids)
      have e:(moveN b nd).kids=[]:=List.eq_nil_of_length_eq_zero (by have:=HKN.out;simp only at this;omega)
      rw[e];exact OwnS.nil _ _ _ _
   ·have e0:((nd.kids.length:Int)==0)=false:=by rw[beq_eq_false_iff_ne];omega
    have F3:=Lib.hid (show i0.bytes*nd.kids.length≤281474976710656∧nd.kids.length≤maxLen from⟨by rw[hz2];omega,by unfold maxLen;omega⟩)
    as_aux_lemma=>
     go_wp2_with (first
      |(at_make;refine wpList_make_full _ rfl _ _ 52 rfl W2.heap.size 3 i0 _ 1 Tryz.underlying52 hi hz0 hz1 .i64 .i64 _ _ nd.kids.length rfl rfl rfl rfl F3.out.1 F3.out.2 (Nat.le_refl _) ?_;intro w4 ho4 hg4;have HO4:=Lib.hid ho4;have HB4:=Lib.hid (show Below W2.heap.size W2 w4 from(Below.refl _ _).grown hg4 (Nat.le_refl _) (fun k e=>by cases e));clear ho4 hg4;obtain⟨_,_,_,_,_,_,_,_,y8',_⟩:=blk9 (bx_kept HB4.out HK2.out))
      |(with_reducible refine wpList_copy_splice rfl (.tmp 35) (.tmp 37) 52 52 rfl 3 Tryz.underlying52 HSZ1.out (some ⟨W2.heap.size,0,none⟩) lA nd.kids.length nd.kids.length nd.kids.length lc rfl rfl W2.heap.size 0 _ 3 (own_full HO4.out) (intL.all nd.kids) ?_ ?_ ?_ (intL.all_one' _) W2.heap.size w4 (Below.refl _ _) (Nat.le_refl _) ?_))
     ·rw[intL.all_length];show _*1=_;simp[Nat.min_def]
     ·intro _
      have hrow:=(HSUB.out w4 (Below.step HBS.out HB4.out)).rowAt
      obtain⟨ad,e,_⟩:=hrow 0 _ (List.getElem?_eq_getElem (by rw[intL.all_length];show 0<nd.kids.length*1;omega))
      exact⟨ad,e,fun j v hv=>by obtain⟨ad',e',h⟩:=hrow j v hv;rw[e]at e';cases e';exact h⟩
     ·rw[intL.all_length];rw[size_madeCells];exact Nat.le_of_eq (Nat.mul_one _)
     intro w5 HC5 hb5
     have HL5:=Lib.hid (show w5.heap[W2.heap.size]?=some (.cells (movedK b nd.kids 0).toArray 3 (0,0))by
      have h:=HC5.out
      rw[splice_all _ _ (by rw[intL.all_length,Array.length_toList,size_madeCells];exact(Nat.mul_one _).symm)]at h
      rw[movedK_zero];exact h)
     have HB5:=Lib.hid (HB4.out.trans hb5)
     clear hb5 HC5 HO4 HB4 y8'
     go_wp2_with fail
     go_loopw [41] (fun i wx=>∃j:Nat,j≤nd.kids.length∧i=.int .i64 j∧Hid (wx.heap[W2.heap.size]?=some (.cells (movedK b nd.kids j).toArray 3 (0,0)))∧Hid (Below W2.heap.size W2 wx)) (fun i _=>nd.kids.length-(intOf i).toNat)
     case atStart=>exact⟨0,by omega,rfl,HL5,HB5⟩
     case round=>
      clear HL5 HB5
      obtain⟨j,hjb,rfl,HL6,HB6⟩:=hrel
      obtain⟨w6,rfl⟩:∃w6:World,w6=wr:=⟨_,rfl⟩
      by_cases hjl:j<nd.kids.length
      ·have hz:=HZZ'.out _ (List.getElem_mem hjl)
       obtain⟨c4,c5⟩:=row_cellAt HL6.out (movedK_at b nd.kids j hjl)
       have HRN:=Lib.hid (row_set (j:=j) HL6.out (.int .i64 (nd.kids[j]+b)))
       rw[movedK_set]at HRN
       generalize nd.kids[j]=z at *
       have i3:(j:Int)<(nd.kids.length:Int):=by omega
       have hb1:=hb.1;have hb2:=hb.2
       obtain⟨hz1,hz2⟩:=hz
       go_wp2_with fail
       exact⟨⟨j+1,by omega,by go_num,HRN,Lib.hid (HB6.out.setCell (p:=⟨W2.heap.size,j,none⟩) (Nat.le_refl _) _)⟩,by simp only[intOf];omega⟩
      ·obtain rfl:j=nd.kids.length:=by omega
       rw[HME.out]at HL6
       have HX6:=Lib.hid ((HB6.out.block w.heap.size (by have:=HZS.out;omega)).trans HXS.out)
       obtain⟨c6,c7⟩:=row_cellAt HX6.out (j:=k*9+8) (u:=.slice none 0 0) (by rw[List.getElem?_set_self (by rw[ndL.all_length];show _<ls'.length*9;omega)])
       go_wp2_with fail
       have hs6:=HB6.out.size;have hzs:=HZS.out
       have hE6:∀x,x≠w.heap.size→(w6.setCell ⟨w.heap.size,k*9+8,none⟩ (.slice (some ⟨W2.heap.size,0,none⟩) nd.kids.length nd.kids.length)).heap[x]?=w6.heap[x]? :=fun x hx=>Below.heap_setCell _ _ _ _ hx
       refine⟨HNX.out _ (some ⟨W2.heap.size,0,none⟩) nd.kids.length ?_ (fun x h1 h2=>(hE6 x h2).trans ((HB6.out.block x (by omega)).trans (HOT.out x h1 h2))) ?_ ((HBS.out.trans (HB6.out.mono (by omega))).setCell (p:=⟨w.heap.size,k*9+8,none⟩) (Nat.le_refl _) _),by simp only[intOf];omega⟩
       ·have h:=row_set (j:=k*9+8) HX6.out (.slice (some ⟨W2.heap.size,0,none⟩) nd.kids.length nd.kids.length)
        rw[List.set_set]at h
        have h2:=HMV.out (some ⟨W2.heap.size,0,none⟩) nd.kids.length
        rw[←h2];exact h
       ·refine⟨moveN_wf HWF'.out,?_⟩
        have hkn:(moveN b nd).kids.length=nd.kids.length:=by simp[moveN]
        show OwnS _ _ _ 1 (some ⟨W2.heap.size,0,none⟩) (moveN b nd).kids.length nd.kids.length (intL.all (moveN b nd).kids)
        rw[hkn]
        exact⟨own_of_full ((hE6 _ (by omega)).trans HL6.out) (by rw[intL.all_length,hkn];exact Nat.mul_one _) (Nat.zero_le _) (by unfold maxLen;omega),fun x hx=>by cases hx;show w.heap.size<W2.heap.size;omega⟩
  ·obtain rfl:k=ls.length:=by omega
   as_aux_lemma=>
    go_wp2_with fail
    go_ret
    have hln:=HLN.out
    refine⟨⟨some ⟨w.heap.size,0,none⟩,ls.length,ls',0⟩,by show _=Ending.returned (.slice _ ls'.length _);rw[hln];rfl,?_,⟨?_,?_,?_⟩,HB.out⟩
    ·apply List.ext_getElem
     ·simp[hln]
     ·intro j h1 h2
      simp only[List.getElem_map,List.length_map]at h1 h2 ⊢
      exact(HOW.out j (by simpa using h1) (by simpa using h2) (by simpa using h2)).1
    ·show ls'.length≤_;omega
    ·show OwnS _ _ _ _ _ ls'.length _ _
     rw[hln]
     exact(own_ownS (B:=w.heap.size) (own_of_fullN HX.out (by rw[ndL.all_length,hln];rfl) (Nat.le_refl _) F1.out.2))
    ·intro l hl'
     obtain⟨j,hj,rfl⟩:=List.mem_iff_getElem.1 hl'
     have hj2:j<ls.length:=by have h:j<ls'.length:=hj;omega
     exact(HOW.out j hj hj2 hj2).2.mono (fun x _ h=>Nat.le_of_lt h)
end Go.Proofs.YtpfokabdpmjobaaGreatDoor
/- The contract of tree.Of. -/
namespace Go.Proofs.YtpfokabdpmjobaaGreatDoor
open Go.RowKit
set_option linter.unusedSimpArgs false
set_option linter.unusedVariables false
attribute [local go_sem] field_nodes
def OfTPost (n:Nd) (ks:List Tr) (w:World) (e:Ending) (w':World):Prop:=
 (okT n ks=true→ ∃v:Lt,e=.returned (.tuple #[v.val,.bool true])∧v.tr=ofT n ks∧TreeOwn w' (w.heap.size ≤ ·) v∧Below w.heap.size w w') ∧
 (okT n ks=false→e=.returned (.tuple #[.agg #[.slice none 0 0,.int .i64 0],.bool false])∧Below w.heap.size w w')
def OfTRel (w:World) (H:Nat) (n:Nd) (K:Value) (ks:List Lt) (i a l:Value) (wr:World):Prop:=
 ∃(k m:Nat) (V U:Option Addr) (vc uc:Nat),k≤ks.length∧i=.int .i64 k∧a=.slice V m vc∧l=.slice U k uc ∧
  Hid (∃(ls:List Ln) (li:List Int),ls.length=m∧li.length=k∧putTs ((ks.drop k).map Lt.tr) (ls.map Ln.nd) li=putTs (ks.map Lt.tr) [] []∧m+((ks.drop k).map fun t=>t.ls.length).sum≤16777216 ∧
   wr.ownsRow (H+2) 54 9 (.slice V m vc) m (ndL.all ls)∧wr.ownsRow (H+2) 3 1 (.slice U k uc) k (intL.all li)∧ApartB V U ∧
   (∀l∈ls,NdOwn wr (fun x=>H+2≤x∧blkOf V≠some x∧blkOf U≠some x) l)) ∧
  Hid (∀t∈ks.take k,rightT t.tr=true) ∧
  Hid (wr.heap[H]?=some (.cells #[.int .u8 n.kind,.int .u64 n.s0,.int .u64 n.s1,.int .u64 n.s2,.int .u64 n.s3,.string n.text,.int .i64 n.mn,.int .i64 n.mx,K] 54 (0,0))) ∧
  Hid (wr.heap[H+1]?=some (.cells #[.slice none 0 0,.int .i64 0] 40 (0,0)))∧Hid (Below H w wr)∧Hid (H+2≤wr.heap.size)
set_option maxRecDepth 100000 in
set_option maxHeartbeats 12800000 in
theorem oft_any (n:Nd) (K:Value) (L:Option Addr) (lc:Nat) (ks:List Lt) (S:Nat→Prop) (w:World) (hn:n.wf) (hL:ttL.row w S L ks) (hl:ks.length≤16777216) (hsum:(ks.map fun t=>t.ls.length).sum≤16777216) (ht:CntTab w):
  Calls Tryz.prog 58 #[ndV n K,.slice L ks.length lc] w (OfTPost n (ks.map Lt.tr) w):=by
 obtain⟨i0,hi,hz0,hz1,hz2⟩:=info_parts infoInt
 obtain⟨j0,hj,hy0,hy1,hy2⟩:=info_parts infoNode
 have HN:=Lib.hid hn;have HL:=Lib.hid hL;have HT:=Lib.hid ht;have HSUM:=Lib.hid hsum
 clear hn hL ht hsum
 have HFT:=Lib.hid (fun w' (h:CntTab w')=>fits_any n K ks.length w' h HN.out.1 HN.out.2.1)
 unfold OfTPost okT
 rw[List.length_map]
 go_enter Tryz.func58,Tryz.ntmps58
 have HB0:=Lib.hid (bx2 w (.cells #[.int .u8 n.kind,.int .u64 n.s0,.int .u64 n.s1,.int .u64 n.s2,.int .u64 n.s3,.string n.text,.int .i64 n.mn,.int .i64 n.mx,K] 54) (.cells #[.slice none 0 0,.int .i64 0] 40))
 have HKN:=Lib.hid (bx_old (p:=.cells #[.slice none 0 0,.int .i64 0] 40) (bx_new w (.cells #[.int .u8 n.kind,.int .u64 n.s0,.int .u64 n.s1,.int .u64 n.s2,.int .u64 n.s3,.string n.text,.int .i64 n.mn,.int .i64 n.mx,K] 54)))
 have HKR:=bx_new (w.alloc (.cells #[.int .u8 n.kind,.int .u64 n.s0,.int .u64 n.s1,.int .u64 n.s2,.int .u64 n.s3,.string n.text,.int .i64 n.mn,.int .i64 n.mx,K] 54)) (.cells #[.slice none 0 0,.int .i64 0] 40)
 rw[World.size_alloc]at HKR
 have HKR:=Lib.hid HKR
 go_wp2_with fail
 refine(HFT.out _ (HT.out.below HB0.out)).mono ?_
 rintro e w1 ⟨rfl,hb1⟩
 have HB1:=Lib.hid (Below.step HB0.out hb1);have HN1:=Lib.hid (bx_kept hb1 HKN.out);have HR1:=Lib.hid (bx_kept hb1 HKR.out)
 have HZ1:=Lib.hid (show w.heap.size+2≤w1.heap.size from by have:=hb1.size;simp at this;omega)
 clear hb1 HB0 HKN HKR HFT
 have HRET:=Lib.hid (show ∀wr:World,Below w.heap.size w wr→Below w.heap.size w ((wr.setCell ⟨w.heap.size+1,0,none⟩ (.slice none 0 0)).setCell ⟨w.heap.size+1,1,none⟩ (.int .i64 0))from fun wr h=>(h.setCell (p:=⟨w.heap.size+1,0,none⟩) (by simp) _).setCell (p:=⟨w.heap.size+1,1,none⟩) (by simp) _)
 cases hf:fitN n ks.length
 ·as_aux_lemma=>
   obtain⟨s1,s2,s3,s4⟩:=blk2 HR1.out
   go_wp2_with fail
   exact bodyPost_ret (v:=.tuple #[.agg #[.slice none 0 0,.int .i64 0],.bool false]) (by simp[results,Tryz.results58,go_sem,s1,s2]) rfl ⟨fun h=>by simp[hf]at h,fun _=>⟨rfl,HRET.out _ HB1.out⟩⟩
 ·go_wp2_with fail
  go_loopw [18,6,7] (fun i a l wr=>OfTRel w w.heap.size n K ks i a l wr) (fun i _ _ _=>ks.length-(intOf i).toNat)
  case atStart=>
   exact⟨0,0,none,none,0,0,Nat.zero_le _,rfl,rfl,rfl,Lib.hid ⟨[],[],rfl,rfl,rfl,by simpa using HSUM.out,World.ownsRow_nil _ _ _ _,World.ownsRow_nil _ _ _ _,ApartB.none _,by simp⟩,Lib.hid (by simp),HN1,HR1,HB1,HZ1⟩
  case round=>
   clear HN1 HR1 HB1 HZ1
   obtain⟨k,m,V,U,vc,uc,hk,rfl,rfl,rfl,HM,HRT,HKN,HKR,HB,HZ⟩:=hrel
   by_cases hlt:k<ks.length
   ·have i1:(k:Int)<(ks.length:Int):=by omega
    have i2:(0:Int)≤(k:Int):=by omega
    obtain⟨b,o,hLL,_,_,x0,x1⟩:=ttRow (HL.out.below HB.out) k hlt
    subst hLL
    have HIN:=Lib.hid (show ∀w',Below w.heap.size w w'→Lt.inn w' S ks[k]from fun w' hb=>(HL.out.below hb).sub k hlt)
    have HDR:=Lib.hid (show ks.drop k=ks[k]::ks.drop (k+1)from List.drop_eq_getElem_cons hlt)
    have HTK:=Lib.hid (show ks.take (k+1)=ks.take k++[ks[k]]from List.take_succ_eq_append_getElem hlt)
    have HMK:=Lib.hid (show ks[k]∈ks from List.getElem_mem hlt)
    generalize ks[k]=t at *
    obtain⟨A,c,ts,root⟩:=t
    simp only at x0 x1
    obtain⟨ls,li,rfl,hli,hput,hsm,ho6,ho7,hap,hnd⟩:=HM.out
    rw[HDR.out]at hput hsm
    simp only[List.map_cons,List.sum_cons,putTs]at hput hsm
    have HPUT:=Lib.hid hput;have HSM:=Lib.hid hsm;have HLI:=Lib.hid hli;have HO6:=Lib.hid ho6;have HO7:=Lib.hid ho7;have HAP:=Lib.hid hap;have HND:=Lib.hid hnd
    clear hput hsm hli ho6 ho7 hap hnd HM HDR
    have htl:ts.length≤16777216:=by have:=HSM.out;omega
    go_upto_region 8 with(fail)
    have HWK:=Lib.hid (bx_new wr (.cells #[.slice A ts.length c,.int .i64 root] 40))
    have HWB:=Lib.hid (bx1 wr (.cells #[.slice A ts.length c,.int .i64 root] 40))
    generalize wr.alloc (.cells #[.slice A ts.length c,.int .i64 root] 40)=W at *
    clear x0 x1
    obtain⟨x0,x1,_,_⟩:=blk2 HWK.out
    have HBW:=Lib.hid (Below.step HB.out HWB.out)
    go_wp2_with fail
    refine(right_any A c ts root S W (HIN.out W HBW.out).2 (HIN.out W HBW.out).1 (HT.out.below HBW.out)).mono ?_
    rintro e w2 ⟨rfl,hb2⟩
    have HB2:=Lib.hid (Below.step HBW.out hb2);have HWB2:=Lib.hid (Below.step HWB.out hb2)
    obtain⟨y0,y1,_,_⟩:=blk2 (bx_kept hb2 HWK.out)
    clear hb2 x0 x1 HWB HWK HBW
    cases hr:rightT ⟨ts.map Ln.nd,root⟩
    ·as_aux_lemma=>
      obtain⟨s1,s2,s3,s4⟩:=blk2 (bx_kept HWB2.out HKR.out)
      go_wp2_with fail
      exact bodyPost_ret (v:=.tuple #[.agg #[.slice none 0 0,.int .i64 0],.bool false]) (by simp[results,Tryz.results58,go_sem,s1,s2]) rfl ⟨fun h=>absurd (hr.symm.trans (by
       simp only[Bool.and_eq_true,List.all_eq_true]at h
       exact h.2 _ (List.mem_map.2 ⟨_,HMK.out,rfl⟩))) (by decide),fun _=>⟨rfl,HRET.out _ HB2.out⟩⟩
    ·have hrp:=(rightT_iff _).1 hr
     obtain⟨rn,rfl⟩:∃rn:Nat,root=(rn:Int):=⟨root.toNat,by have h0:=hrp.1.1;simp only at h0;omega⟩
     have HRP:=Lib.hid hrp;clear hrp
     have hrn:rn<ts.length:=by have h0:=HRP.out.1.2;simp only[List.length_map]at h0;omega
     have HTN:=Lib.hid (show(takenL (ts.map Ln.nd) rn).length=ts.length from by
      have h0:=root_length HRP.out
      simp only[Int.toNat_natCast,List.length_map]at h0
      unfold takenL;rw[List.length_map];exact h0)
     go_wp2_with fail
     refine(taken_any A c ts rn rn S w2 (HIN.out w2 HB2.out).2 (by omega) HRP.out hrn).mono ?_
     rintro e w3 ⟨⟨A3,c3,l3,r3⟩,he,htr,hto,hb3⟩
     simp only[Lt.val]at he;subst he
     have hl3:l3.map Ln.nd=takenL (ts.map Ln.nd) rn:=congrArg Tr.nodes htr
     have HL3:=Lib.hid hl3
     have hn3:l3.length=ts.length:=by have h0:=congrArg List.length hl3;rw[List.length_map]at h0;exact h0.trans HTN.out
     have HO3:=Lib.hid hto;have HB3:=Lib.hid (Below.step HB2.out hb3);have HWB3:=Lib.hid (Below.step HWB2.out hb3)
     clear htr hto hb3 hl3 y0 y1 HB2 HWB2
     have hpos:0<l3.length:=by omega
     have HN3:=Lib.hid hn3;clear hn3
     have HKD:=Lib.hid (show ∀l∈l3,l.nd.kids.length≤ts.length∧ ∀z∈l.nd.kids,0≤z∧z≤(ts.length:Int)from fun l hl=>by
      have h0:=takenL_kids HRP.out rn (by simpa using hrn) l.nd (by simp only;rw[←HL3.out];exact List.mem_map.2 ⟨l,hl,rfl⟩)
      simpa using h0)
     go_wp2_with fail
     have hsm:=HSM.out;have hn3:=HN3.out
     refine(moved_any A3 c3 l3 (ls.length:Nat) _ w3 HO3.out.inn.2 (by omega) hpos (fun l hl=>by have:=(HKD.out l hl).1;omega) (fun l hl z hz=>by have:=(HKD.out l hl).2 z hz;omega) (by omega)).mono ?_
     clear hsm hn3
     rintro e w4 ⟨⟨A4,c4,l4,r4⟩,he,hl4,hto4,hb4⟩
     simp only at he;subst he
     have HN4:=Lib.hid (show l4.length=ts.length from by have h0:=congrArg List.length hl4;have:=HN3.out;simp only[List.length_map]at h0;omega)
     have HL4:=Lib.hid (show l4.map Ln.nd=(takenL (ts.map Ln.nd) rn).map (moveN (ls.length:Nat))from by
      rw[←HL3.out,List.map_map];exact hl4)
     have HO4:=Lib.hid hto4;have HB4:=Lib.hid (Below.step HB3.out hb4);have HWB4:=Lib.hid (Below.step HWB3.out hb4);have HZ34:=Lib.hid (show wr.heap.size≤w3.heap.size∧w3.heap.size≤w4.heap.size from⟨HWB3.out.size,hb4.size⟩)
     clear hl4 hto4 hb4 HKD HL3 HO3 HB3 HWB3 HIN
     have HO64:=Lib.hid (own_belowA HO6.out HWB4.out)
     have HO74:=Lib.hid (own_belowA HO7.out HWB4.out)
     have HF4:=Lib.hid (show ls.length+l4.length≤maxLen∧(ls.length+l4.length)*96≤140737488355328∧w.heap.size+2≤w4.heap.size from by
      have h1:=HSM.out;have h2:=HZ.out;have h3:=HWB4.out.size;have h4:=HN4.out
      exact⟨by unfold maxLen;omega,by omega,by omega⟩)
     have HBV:=Lib.hid (show(∀x,blkOf V=some x→w.heap.size+2≤x∧x<wr.heap.size)∧ ∀x,blkOf U=some x→w.heap.size+2≤x∧x<wr.heap.size from⟨fun x hx=>own_blk HO6.out x hx,fun x hx=>own_blk HO7.out x hx⟩)
     have hlb:(ls.length:Int)+(l4.length:Int)≤16777216:=by have h1:=HSM.out;have h4:=HN4.out;omega
     have hlp:1≤l4.length:=by have h3:=HN3.out;have h4:=HN4.out;omega
     have HK8:=Lib.hid (show k+1≤maxLen∧(k+1)*8≤140737488355328 from⟨by unfold maxLen;omega,by omega⟩)
     go_wp2_with (first
      |(at_builtin;refine wpList_append_at _ rfl (.tmp 26) (.tmp 34) 38 rfl (w.heap.size+2) 54 j0 _ 9 96 Tryz.underlying38 hj hy0 hy1 hy2 rfl (by decide) V vc ls.length (ndL.all ls) rfl HO64.out A4 l4.length c4 (ndL.all l4) rfl (by rw[ndL.all_length];rfl) HO4.out.inn.2.rowAt (ndL.all_one' _) HF4.out.1 HF4.out.2.1 HF4.out.2.2 ?_;intro V' vc' w5 HO5 HG5 HA5;have HO75:=Lib.hid (kept_apart HO74.out HG5.out HAP.out);have HZ5:=Lib.hid (show w4.heap.size≤w5.heap.size from HG5.out.size))
      |(at_builtin;refine wpList_append_at _ rfl (.tmp 36) (.tmp 40) 52 rfl (w.heap.size+2) 3 i0 _ 1 8 Tryz.underlying52 hi hz0 hz1 hz2 rfl (by decide) U uc k (intL.all li) rfl (World.ownsRow.alloc HO75.out _) (some ⟨w5.heap.size,0,none⟩) 1 1 [.int .i64 ((ls.length:Int)+(l4.length:Int)-1)] rfl rfl (row_blk (bx_new w5 _)) (fun u hu=>by simp only[List.mem_singleton]at hu;subst hu;rfl) HK8.out.1 HK8.out.2 (by have:=HZ5.out;have:=HF4.out.2.2;simp;omega) ?_;intro U' uc' w7 HO7' HG7 HA7)
      |fail)
     have h45:=HZ5.out;have hf4:=HF4.out.2.2;have h34:=HZ34.out;have hbv:=HBV.out;have hz:=HZ.out;have hw4:=HWB4.out.size
     have h57:w5.heap.size+1≤w7.heap.size:=by have h:=HG7.out.size;simpa using h
     have hx:∀x,x<w4.heap.size→blkOf V≠some x→blkOf U≠some x→w7.heap[x]?=w4.heap[x]? :=fun x h1 h2 h3=>(HG7.out.block x (by simp;omega) (fun e=>h3 e.symm)).trans ((Below.heap_alloc _ _ x (by omega)).trans (HG5.out.block x h1 (fun e=>h2 e.symm)))
     have hVV:∀x,x<w4.heap.size→blkOf V≠some x→blkOf V'≠some x:=fun x h1 h2 e=>by
      rcases HA5.out with h|h
      ·exact h2 (h▸e)
      ·rw[h]at e;injection e with e;omega
     have hUU:∀x,x<w4.heap.size→blkOf U≠some x→blkOf U'≠some x:=fun x h1 h2 e=>by
      rcases HA7.out with h|h
      ·exact h2 (h▸e)
      ·rw[h]at e;injection e with e;rw[World.size_alloc]at e;omega
     have hB7:Below w.heap.size w w7:=by
      have h5:Below w.heap.size w w5:=HB4.out.grown HG5.out (by omega) (fun x hx=>by have:=(hbv.1 x hx).1;omega)
      exact(h5.alloc (by omega) _).grown HG7.out (by simp;omega) (fun x hx=>by have:=(hbv.2 x hx).1;omega)
     have hK:∀x,x<w.heap.size+2→w7.heap[x]?=wr.heap[x]? :=fun x h1=>(hx x (by omega) (fun e=>by have:=(hbv.1 x e).1;omega) (fun e=>by have:=(hbv.2 x e).1;omega)).trans (HWB4.out.block x (by omega))
     refine⟨⟨k+1,ls.length+l4.length,V',U',vc',uc',hlt,by go_num,rfl,rfl,Lib.hid ⟨ls++l4,li++[(ls.length:Int)+(l4.length:Int)-1],by simp,by simp[HLI.out],?_,?_,?_,?_,?_,?_⟩,Lib.hid ?_,Lib.hid ((hK _ (by omega)).trans HKN.out),Lib.hid ((hK _ (by omega)).trans HKR.out),Lib.hid hB7,Lib.hid (by omega)⟩,by simp only[intOf];omega⟩
     ·have h:=HPUT.out
      simp only[Lt.tr,Int.toNat_natCast,List.length_map]at h
      have e:(((ls.map Ln.nd++(takenL (ts.map Ln.nd) rn).map (moveN (ls.length:Nat))).length:Nat):Int)-1=(ls.length:Int)+(l4.length:Int)-1:=by
       have h4:=HN4.out;have h5:=HTN.out
       simp only[List.length_append,List.length_map];omega
      rw[e]at h
      rw[List.map_append,HL4.out];exact h
     ·have h1:=HSM.out;have h4:=HN4.out;omega
     ·rw[ndL.all_append]
      exact kept_apart (World.ownsRow.alloc HO5.out _) HG7.out (fun x hx=>hVV x (by have:=(hbv.2 x hx).2;omega) (fun e=>HAP.out x e hx))
     ·rw[Lay.all_append];exact HO7'.out
     ·have h1:ApartB V' U:=HAP.out.grown (n:=w4.heap.size) (fun x hx=>by have:=(hbv.2 x hx).2;omega) HA5.out
      exact(h1.symm.grown (n:=(w5.alloc (.cells #[.int .i64 ((ls.length:Int)+(l4.length:Int)-1)] 3)).heap.size) (fun x hx=>by have:=(own_blk HO5.out x hx).2;simp;omega) HA7.out).symm
     ·intro l hl
      rcases List.mem_append.1 hl with hl|hl
      ·have h1:=(HND.out l hl).mono (T:=fun x=>x<wr.heap.size∧w.heap.size+2≤x∧blkOf V≠some x∧blkOf U≠some x) (fun x a b=>⟨a,b⟩)
       exact(h1.agree (fun x hy _=>(hx x (by omega) hy.2.2.1 hy.2.2.2).trans (HWB4.out.block x hy.1))).mono (fun x _ hy=>⟨hy.2.1,hVV x (by omega) hy.2.2.1,hUU x (by omega) hy.2.2.2⟩)
      ·have h1:=(HO4.out.kids l hl).mono (T:=fun x=>x<w4.heap.size∧w3.heap.size≤x) (fun x a b=>⟨a,b⟩)
       have hV:∀x,w3.heap.size≤x→blkOf V≠some x:=fun x h e=>by have:=(hbv.1 x e).2;omega
       have hU:∀x,w3.heap.size≤x→blkOf U≠some x:=fun x h e=>by have:=(hbv.2 x e).2;omega
       exact(h1.agree (fun x hy _=>hx x hy.1 (hV x hy.2) (hU x hy.2))).mono (fun x _ hy=>⟨by omega,hVV x hy.1 (hV x hy.2),hUU x hy.1 (hU x hy.2)⟩)
     ·intro t ht
      rw[HTK.out]at ht
      rcases List.mem_append.1 ht with ht|ht
      ·exact HRT.out t ht
      ·simp only[List.mem_singleton]at ht;subst ht;exact hr
   ·obtain rfl:k=ks.length:=by omega
    obtain⟨ls,li,rfl,hli,hput,hsm,ho6,ho7,hap,hnd⟩:=HM.out
    rw[List.drop_length]at hput hsm
    simp only[List.map_nil,List.sum_nil,putTs]at hput hsm
    have HEQ:=Lib.hid hput.symm;have HLI:=Lib.hid hli;have HO6:=Lib.hid ho6;have HO7:=Lib.hid ho7;have HAP:=Lib.hid hap;have HND:=Lib.hid hnd
    have HAL:=Lib.hid (show(ks.map Lt.tr).all rightT=true from by
     rw[List.all_eq_true]
     intro x hx
     obtain⟨t,ht,rfl⟩:=List.mem_map.1 hx
     exact HRT.out t (by rw[List.take_length];exact ht))
    have hlm:ls.length≤16777216:=by omega
    clear hput hli ho6 ho7 hap hnd HM HRT hsm
    obtain⟨_,_,_,_,_,_,_,_,y8,_,_,_,_,_,_,_,_,z8⟩:=blk9 HKN.out
    as_aux_lemma=>
     go_upto_region 14 with(fail)
     have HX7:=Lib.hid (set_blk9 (u:=.slice U ks.length uc) HKN.out)
     have HE7:=Lib.hid (show ∀x,x≠w.heap.size→(wr.setCell ⟨w.heap.size,8,none⟩ (.slice U ks.length uc)).heap[x]?=wr.heap[x]? from fun x hx=>Below.heap_setCell _ _ _ _ hx)
     have HZ7:=Lib.hid (show(wr.setCell ⟨w.heap.size,8,none⟩ (.slice U ks.length uc)).heap.size=wr.heap.size from by simp)
     have HB7:=Lib.hid (show Below w.heap.size w (wr.setCell ⟨w.heap.size,8,none⟩ (.slice U ks.length uc))from HB.out.setCell (p:=⟨w.heap.size,8,none⟩) (Nat.le_refl _) _)
     generalize wr.setCell ⟨w.heap.size,8,none⟩ (.slice U ks.length uc)=w7 at *
     clear y8 z8
     have HBW:=Lib.hid (show ∀x,(blkOf V=some x→w.heap.size+2≤x∧x<wr.heap.size)∧(blkOf U=some x→w.heap.size+2≤x∧x<wr.heap.size)from fun x=>⟨fun e=>own_blk HO6.out x e,fun e=>own_blk HO7.out x e⟩)
     have HO6b:=Lib.hid (show(w7.alloc (.cells #[.int .u8 n.kind,.int .u64 n.s0,.int .u64 n.s1,.int .u64 n.s2,.int .u64 n.s3,.string n.text,.int .i64 n.mn,.int .i64 n.mx,.slice U ks.length uc] 54)).ownsRow (w.heap.size+2) 54 9 (.slice V ls.length vc) ls.length (ndL.all ls)from World.ownsRow.alloc (own_agree HO6.out (fun x hx=>HE7.out x (by have:=((HBW.out x).1 hx).1;omega))) _)
     have HNO:=Lib.hid (show ∀u∈([.int .u8 n.kind,.int .u64 n.s0,.int .u64 n.s1,.int .u64 n.s2,.int .u64 n.s3,.string n.text,.int .i64 n.mn,.int .i64 n.mx,.slice U ks.length uc]:List Value),u.oneCell'=true from(fun u hu=>by simp only[List.mem_cons,List.not_mem_nil,or_false]at hu;rcases hu with rfl|rfl|rfl|rfl|rfl|rfl|rfl|rfl|rfl <;> rfl))
     have HFF:=Lib.hid (show ls.length+1≤maxLen∧(ls.length+1)*96≤140737488355328∧w.heap.size+2≤(w7.alloc (.cells #[.int .u8 n.kind,.int .u64 n.s0,.int .u64 n.s1,.int .u64 n.s2,.int .u64 n.s3,.string n.text,.int .i64 n.mn,.int .i64 n.mx,.slice U ks.length uc] 54)).heap.size from⟨by unfold maxLen;omega,by omega,by have h1:=HZ7.out;have h2:=HZ.out;simp;omega⟩)
     refine wp_region_list ?_
     refine wpList_val rfl (exec_move rfl rfl) ?_
     refine wpList_val rfl (exec_load rfl rfl (load9 w7 w.heap.size _ _ _ _ _ _ _ _ _ _ HX7.out)) ?_
     refine wpList_val rfl (exec_build rfl rfl (build9 w7 _ _ _ _ _ _ _ _ _)) ?_
     refine wpList_append_at _ rfl (.tmp 45) (.tmp 47) 38 rfl (w.heap.size+2) 54 j0 _ 9 96 Tryz.underlying38 hj hy0 hy1 hy2 rfl (by decide) V vc ls.length (ndL.all ls) rfl HO6b.out (some ⟨w7.heap.size,0,none⟩) 1 1 [.int .u8 n.kind,.int .u64 n.s0,.int .u64 n.s1,.int .u64 n.s2,.int .u64 n.s3,.string n.text,.int .i64 n.mn,.int .i64 n.mx,.slice U ks.length uc] rfl rfl (row_blk (bx_new w7 _)) HNO.out HFF.out.1 HFF.out.2.1 HFF.out.2.2 ?_
     intro V' vc' w8 HO8 HG8 HA8
     simp only[Act.put,List.setIfInBounds_toArray,List.set_cons_zero,List.set_cons_succ]
     have HK8:=Lib.hid (show ∀x,x<wr.heap.size→x≠w.heap.size→blkOf V≠some x→w8.heap[x]?=wr.heap[x]? from fun x h1 h2 h3=>(HG8.out.block x (by have:=HZ7.out;simp;omega) (fun e=>h3 e.symm)).trans ((Below.heap_alloc _ _ x (by have:=HZ7.out;omega)).trans (HE7.out x h2)))
     have HR8:=Lib.hid ((HK8.out (w.heap.size+1) (by have:=HZ.out;omega) (by omega) (fun e=>by have:=((HBW.out _).1 e).1;omega)).trans HKR.out)
     obtain⟨s1,s2,s3,s4⟩:=blk2 HR8.out
     go_wp2_with fail
     refine bodyPost_ret (v:=.tuple #[.agg #[.slice V' (ls.length+1) vc',.int .i64 (ls.length:Int)],.bool true]) (by simp[results,Tryz.results58,go_sem,s1,s2]) rfl ?_
     have hz:=HZ.out;have hz7:=HZ7.out
     have h8s:wr.heap.size+1≤w8.heap.size:=by have h:=HG8.out.size;simp at h;omega
     have hE9:∀x,x≠w.heap.size+1→((w8.setCell ⟨w.heap.size+1,0,none⟩ (.slice V' (ls.length+1) vc')).setCell ⟨w.heap.size+1,1,none⟩ (.int .i64 (ls.length:Int))).heap[x]?=w8.heap[x]? :=fun x hx=>(Below.heap_setCell _ _ _ _ hx).trans (Below.heap_setCell _ _ _ _ hx)
     have hB8:Below w.heap.size w w8:=(HB7.out.alloc (by omega) _).grown HG8.out (by simp;omega) (fun x hx=>by have:=((HBW.out x).1 hx).1;omega)
     have hB9:Below w.heap.size w ((w8.setCell ⟨w.heap.size+1,0,none⟩ (.slice V' (ls.length+1) vc')).setCell ⟨w.heap.size+1,1,none⟩ (.int .i64 (ls.length:Int))):=(hB8.setCell (p:=⟨w.heap.size+1,0,none⟩) (by simp) _).setCell (p:=⟨w.heap.size+1,1,none⟩) (by simp) _
     have hkx:∀x,x<wr.heap.size→w.heap.size+2≤x→blkOf V≠some x→((w8.setCell ⟨w.heap.size+1,0,none⟩ (.slice V' (ls.length+1) vc')).setCell ⟨w.heap.size+1,1,none⟩ (.int .i64 (ls.length:Int))).heap[x]?=wr.heap[x]? :=fun x h1 h2 h3=>(hE9 x (by omega)).trans (HK8.out x h1 (by omega) h3)
     refine⟨fun _=>⟨⟨V',vc',ls++[⟨{n with kids:=li},U,uc⟩],(ls.length:Int)⟩,?_,?_,⟨?_,?_,?_⟩,hB9⟩,fun h=> ?_⟩
     ·simp[Lt.val]
     ·simp only[Lt.tr,ofT,HEQ.out,List.map_append,List.map_cons,List.map_nil,List.length_map]
     ·simp;omega
     ·show OwnS _ _ _ _ _ (ls++[_]).length _ _
      rw[List.length_append,List.length_singleton,ndL.all_append,ndL.all_one]
      have h:=HO8.out
      have e:ndL.cells ⟨{n with kids:=li},U,uc⟩=[.int .u8 n.kind,.int .u64 n.s0,.int .u64 n.s1,.int .u64 n.s2,.int .u64 n.s3,.string n.text,.int .i64 n.mn,.int .i64 n.mx,.slice U ks.length uc]:=by simp[ndL,HLI.out]
      rw[e]
      exact((own_ownS h).agree (fun x hx _=>hE9 x (by have hx:w.heap.size+2≤x:=hx;omega))).mono (fun x _ hx=>by have hx:w.heap.size+2≤x:=hx;omega)
     ·intro l hl
      rcases List.mem_append.1 hl with hl|hl
      ·have h1:=(HND.out l hl).mono (T:=fun x=>x<wr.heap.size∧w.heap.size+2≤x∧blkOf V≠some x) (fun x a b=>⟨a,b.1,b.2.1⟩)
       exact(h1.agree (fun x hy _=>hkx x hy.1 hy.2.1 hy.2.2)).mono (fun x _ hy=>by omega)
      ·simp only[List.mem_singleton]at hl
       subst hl
       refine⟨?_,?_⟩
       ·obtain⟨h1,h2,h3,h4⟩:=HN.out
        exact⟨h1,h2,by show li.length≤_;rw[HLI.out];omega,h4⟩
       ·show OwnS _ _ _ 1 U li.length uc (intL.all li)
        rw[HLI.out]
        have h7:OwnS wr (fun x=>x<wr.heap.size∧w.heap.size+2≤x∧blkOf V≠some x) 3 1 U ks.length uc (intL.all li):=⟨own_mono HO7.out (Nat.zero_le _),fun x hx=>⟨((HBW.out x).2 hx).2,((HBW.out x).2 hx).1,fun e=>HAP.out x e hx⟩⟩
        exact(h7.agree (fun x hy _=>hkx x hy.1 hy.2.1 hy.2.2)).mono (fun x _ hy=>by omega)
     ·rw[HAL.out]at h;simp[hf]at h
end Go.Proofs.YtpfokabdpmjobaaGreatDoor
/- The contract of a node and its kids,as the examples of layer 9 put them together. -/
namespace Go.Proofs.YtpfokabdpmjobaaGreatDoor
open Go.RowKit
set_option linter.unusedSimpArgs false
set_option linter.unusedVariables false
end Go.Proofs.YtpfokabdpmjobaaGreatDoor
