/- The contract of the reader's judge. The contract of parse.Grammar. -/
import Derived.Test.YtpfokabdpmjobaaGreatDoorJz
import Derived.Test.YtpfokabdpmjobaaGreatDoorJi
import Derived.StringKeys
import Derived.Maps.OwnOps
import Derived.Maps.OwnSet
import Derived.Maps.Views
namespace Go.Proofs.YtpfokabdpmjobaaGreatDoor
open Go.RowKit Go.Shelf
set_option linter.unusedSimpArgs false
set_option linter.unusedVariables false
theorem zeroIJ (w:World):(zeroValue 3).run Tryz.prog w=.ok (.int .i64 0) w:=by kernel_rfl
theorem makeMapJ (n:Int) (w:World):(Instr.makeMap 114 (some (.int .i64 n))).run Tryz.prog w=.ok (.map (some w.heap.size)) (w.alloc (.map #[] 0)):=by
 simp only[Instr.makeMap,Sem.run_bind,run_underlying Tryz.underlying114,Result.andThen]
 rfl
def PlacesJ (w:World) (b n:Nat) (ns:List (List UInt8)):Prop:=
 ∃D:DataW Unit,w.ownsMap Tryz.prog 9 (plainElem (H:=Unit) Tryz.prog 3) b n D∧Maps.IsMap D∧ ∀s:List UInt8,Maps.has D (.string s)=decide (s∈ns)
theorem twice_first {nm:List (List UInt8)} {k:Nat} (hk:k<nm.length) (h0:∀i,i<k→ ¬(nm.getD i []∈nm.take i)) (h1:nm.getD k []∈nm.take k):twiceW nm=some k:=by
 unfold twiceW
 rw[List.find?_range_eq_some]
 exact⟨decide_eq_true h1,List.mem_range.2 hk,fun j hj=>by rw[decide_eq_false (h0 j hj)];rfl⟩
theorem twice_never {nm:List (List UInt8)} (h0:∀i,i<nm.length→ ¬(nm.getD i []∈nm.take i)):twiceW nm=none:=by
 unfold twiceW
 rw[List.find?_eq_none]
 intro i hi
 rw[decide_eq_false (h0 i (List.mem_range.1 hi))];simp
theorem lack_first {W:List Wd} {nm:List (List UInt8)} {cs:List Nat} {j:Nat} (hj:j<cs.length) (h0:∀i (hi:i<cs.length),i<j→textW W cs[i]∈nm) (h1:textW W cs[j]∉nm):lackW W nm cs=some cs[j]:=by
 unfold lackW
 rw[List.find?_eq_some_iff_getElem]
 exact⟨decide_eq_true h1,j,hj,rfl,fun i hi=>by rw[decide_eq_false (fun h=>h (h0 i (by omega) hi))];rfl⟩
theorem lack_never {W:List Wd} {nm:List (List UInt8)} {cs:List Nat} (h0:∀i (hi:i<cs.length),textW W cs[i]∈nm):lackW W nm cs=none:=by
 unfold lackW
 rw[List.find?_eq_none]
 intro c hc
 obtain⟨i,hi,rfl⟩:=List.mem_iff_getElem.1 hc
 rw[decide_eq_false (fun h=>h (h0 i hi))];simp
theorem judge_twice {W:List Wd} {fin:Nat} {l:List (Nat×TT)} {cs:List Nat} {k:Nat} (h:twiceW (namesW W l)=some k):judgeW W fin l cs=((wdW W ((l.map Prod.fst).getD k 0)).frm,6):=by unfold judgeW;rw[h]
theorem judge_lack {W:List Wd} {fin:Nat} {l:List (Nat×TT)} {cs:List Nat} {c:Nat} (h:twiceW (namesW W l)=none) (h2:lackW W (namesW W l) cs=some c):judgeW W fin l cs=((wdW W c).frm,41):=by unfold judgeW;rw[h];simp only;rw[h2]
theorem judge_end {W:List Wd} {fin:Nat} {l:List (Nat×TT)} {cs:List Nat} (h:twiceW (namesW W l)=none) (h2:lackW W (namesW W l) cs=none):judgeW W fin l cs=if largeW l then(fin,40)else(0,0):=by unfold judgeW;rw[h];simp only;rw[h2]
theorem word_there {w:World} {B n c:Nat} {A:Option Addr} {l:List Wd} (h:w.ownsRow B 32 10 (.slice A n c) n (wdL l)) (hn:l.length=n) (i:Nat) (hi:i<l.length):∃g,A=some ⟨g,0,none⟩∧g<w.heap.size∧ ∀j,j<10→w.cell? ⟨g,i*10+j,none⟩=(wdC l[i])[j]? :=by
 obtain⟨g,rfl,_,hg⟩:=own_some h (by omega)
 exact⟨g,rfl,hg,fun j hj=>word_cells h i l[i] (List.getElem?_eq_getElem hi) j hj⟩
def JudgePost (W:List Wd) (fin:Nat) (l:List (Nat×TT)) (cs:List Nat) (w:World) (e:Ending) (w':World):Prop:=
 e=.returned (.tuple #[.int .i64 ((judgeW W fin l cs).1:Int),.int .i64 ((judgeW W fin l cs).2:Int)])∧Below w.heap.size w w'
set_option maxRecDepth 100000 in
set_option maxHeartbeats 6400000 in
theorem judge_any (w:World) (B:Nat) (f:Nat→Ow) (H:Nat) (R:Rd) (l:List (Nat×TT)) (cs:List Nat) (h:RdM Dch w B f H R) (hms:R.ms=l.map fun p=>wdW R.W p.1) (hcs:R.cs=cs.map (wdW R.W)) (hds:R.ds.map Ld.df=l.map (defW R.W)) (hdl:∀d∈R.ds,d.t.ls.length≤300000)
  (htl:∀p∈l,(textW R.W p.1).length≤32) (htc:∀c∈cs,(textW R.W c).length≤32) (hll:l.length≤65536) (hcl:cs.length≤65536) (ht:CntTab w):
  Calls Tryz.prog 39 #[.pointer (some ⟨H,0,none⟩)] w (JudgePost R.W R.fin l cs w):=by
 have hmm:=makeMapJ
 have HBX:=Lib.hid (show ∀w',Below w.heap.size w w'→w'.heap[H]?=some (.cells #[.slice R.WA R.W.length R.Wc,.int .i64 (R.fin:Int),.int .i64 (R.i:Int),.slice R.nA R.ls.length R.nc,.slice R.lA R.os.length R.lc,.slice R.dA l.length R.dc,.slice R.mA l.length R.mc,.slice R.cA cs.length R.cc] 82 (0,0))from fun w' hb=>by
  have h1:=(h.below hb).box (fun h=>h)
  have hnl:R.ms.length=l.length:=by rw[hms];simp
  have hkl:R.cs.length=cs.length:=by rw[hcs];simp
  have hdn:R.ds.length=l.length:=by have:=congrArg List.length hds;simpa using this
  rw[hnl,hkl,hdn]at h1;exact h1)
 have hnl:R.ms.length=l.length:=by rw[hms];simp
 have hkl:R.cs.length=cs.length:=by rw[hcs];simp
 have hdn:R.ds.length=l.length:=by have:=congrArg List.length hds;simpa using this
 have HMO:=Lib.hid (show ∀w',Below w.heap.size w w'→w'.ownsRow B 32 10 (.slice R.mA l.length R.mc) l.length (wdL R.ms)from fun w' hb=>by have h1:=((h.below hb) .names (fun h=>h)).1;rw[hnl]at h1;exact h1)
 have HCO:=Lib.hid (show ∀w',Below w.heap.size w w'→w'.ownsRow B 32 10 (.slice R.cA cs.length R.cc) cs.length (wdL R.cs)from fun w' hb=>by have h1:=((h.below hb) .calls (fun h=>h)).1;rw[hkl]at h1;exact h1)
 have HDO:=Lib.hid (show ∀w',Below w.heap.size w w'→dfL.row w' (fun _=>True) R.dA R.ds from fun w' hb=>⟨own_rowIn ((h.below hb) .defs (fun h=>h)).1 (fun _ _=>trivial),fun d hd=>by
  obtain⟨j,hj,rfl⟩:=List.mem_iff_getElem.1 hd
  have h1:=((h.below hb) (.body j) (fun h=>h)) hj
  exact⟨h1.1,h1.2.inn.mono (fun _ _ _=>trivial)⟩⟩)
 have HMS:=Lib.hid hms;have HCS:=Lib.hid hcs;have HDS:=Lib.hid hds;have HDL:=Lib.hid hdl;have HTL:=Lib.hid htl;have HTC:=Lib.hid htc;have HT:=Lib.hid ht
 have HNL:=Lib.hid (And.intro hnl (And.intro hkl hdn))
 obtain⟨_,_,_,_,_,_,p6,_,_⟩:=blk8 (HBX.out w (Below.refl _ _))
 clear h hms hcs hds hdl htl htc ht hnl hkl hdn
 generalize hmA:R.mA=mA at *
 generalize hcA:R.cA=cA at *
 generalize hdA:R.dA=dA at *
 clear hmA hcA hdA
 obtain⟨nm,hnm⟩:∃nm,namesW R.W l=nm:=⟨_,rfl⟩
 have HNM:=Lib.hid hnm;clear hnm
 have HNML:=Lib.hid (show nm.length=l.length from by rw[←HNM.out];simp[namesW])
 go_enter Tryz.func39,Tryz.ntmps39
 go_upto_region 2 with(fail)
 have HB1:=Lib.hid (bx1 w (.map #[] 0))
 have HP1:=Lib.hid (show PlacesJ (w.alloc (.map #[] 0)) w.heap.size 0 (nm.take 0)from⟨.map [],World.ownsMap_made w Tryz.prog 9 (plainElem (H:=Unit) Tryz.prog 3),Maps.isMap_empty,fun s=>by simp[Maps.has]⟩)
 generalize hMb:w.heap.size=Mb at *
 generalize (w.alloc (.map #[] 0))=W1 at *
 clear p6
 obtain⟨_,_,_,_,_,_,p6,_,_⟩:=blk8 (HBX.out W1 HB1.out)
 go_upto_region 3 with(fail)
 clear p6
 go_loopw [27] (fun v27 wr=>∃k:Nat,k≤l.length∧v27=.int .i64 k∧Hid (∀i,i<k→ ¬(nm.getD i []∈nm.take i))∧Hid (PlacesJ wr Mb k (nm.take k))∧Hid (Below Mb w wr)) (fun v27 _=>l.length-(intOf v27).toNat)
 case atStart=>exact⟨0,by omega,rfl,Lib.hid (fun i hi=>by omega),HP1,HB1⟩
 case round=>
  clear HP1 HB1
  obtain⟨k,hk,rfl,HDI,HPL,HB⟩:=hrel
  by_cases hlt:k<l.length
  ·have hmk:k<R.ms.length:=by rw[HNL.out.1];exact hlt
   obtain⟨g,hg,hgl,hcc⟩:=word_there (HMO.out wr HB.out) HNL.out.1 k hmk
   clear hcc
   subst hg
   have hxe:R.ms[k]=wdW R.W l[k].1:=by simp[HMS.out]
   obtain⟨x,hx⟩:∃x,R.ms[k]=x:=⟨_,rfl⟩
   have hxl:R.ms[k]?=some x:=by rw[List.getElem?_eq_getElem hmk,hx]
   rw[hx]at hxe
   obtain⟨xk,xf,xt,xtx,x0,x1,x2,x3,xlo,xhi⟩:=x
   obtain⟨c0,c1,c2,c3,c4,c5,c6,c7,c8,c9⟩:=word_ten (HMO.out wr HB.out) k (k*10) rfl _ hxl
   simp only at c0 c1 c2 c3 c4 c5 c6 c7 c8 c9
   have HXE:=Lib.hid hxe
   have HXT:=Lib.hid (show nm.getD k []=xtx∧nm[k]?=some xtx from by
    have e:nm[k]?=some xtx:=by rw[←HNM.out];simp only[namesW,List.getElem?_map,List.getElem?_eq_getElem hlt,Option.map_some];unfold textW;rw[←HXE.out]
    exact⟨by rw[List.getD_eq_getElem?_getD,e];rfl,e⟩)
   have hxl2:xtx.length≤32:=by have:=HTL.out _ (List.getElem_mem hlt);unfold textW at this;rw[←HXE.out]at this;exact this
   clear hxl hxe hx hmk
   have i1:(k:Int)<(l.length:Int):=by omega
   have hkey:keyOf Tryz.prog 9 (.string ⟨xtx.toArray⟩)=some (.string xtx):=WideMaps.keyOf_string_mk (s:=⟨xtx.toArray⟩) Tryz.underlying9 (by unfold maxLen;simp[ByteArray.size];omega)
   obtain⟨D,hown,hmap,hhas⟩:=HPL.out
   have hownA:=hown.alloc (.cells #[.int .u8 (xk:Int),.int .i64 (xf:Int),.int .i64 (xt:Int),.string ⟨xtx.toArray⟩,.int .u64 (x0:Int),.int .u64 (x1:Int),.int .u64 (x2:Int),.int .u64 (x3:Int),.int .i64 xlo,.int .i64 xhi] 32)
   have HHS:=Lib.hid (hhas xtx)
   have HMP:=Lib.hid hmap;have HHA:=Lib.hid hhas;have HOA:=Lib.hid hownA
   clear hown hmap hhas hownA
   have HTS:=Lib.hid (show nm.take (k+1)=nm.take k++[xtx]from by rw[List.take_add_one,HXT.out.2];rfl)
   by_cases hmem:xtx∈nm.take k
   ·have hh:Maps.has D (.string xtx)=true:=by rw[HHS.out];exact decide_eq_true hmem
    have HX:=Lib.hid (show judgeW R.W R.fin l cs=(xf,6)from by
     rw[judge_twice (k:=k) (by rw[HNM.out];exact twice_first (by rw[HNML.out];exact hlt) HDI.out (by rw[HXT.out.1];exact hmem))]
     have e:(l.map Prod.fst).getD k 0=l[k].1:=by simp[List.getD_eq_getElem?_getD,hlt]
     rw[e,←HXE.out])
    clear hmem
    go_wp2_with (first
     |(at_lookup;refine wpList_lookup_own_ok_int _ rfl _ _ 114 rfl 9 3 .i64 (Maps.string_keyed Tryz.underlying9) Tryz.underlying114 Tryz.underlying3 (zeroIJ _) Mb k D rfl HOA.out _ _ rfl hkey ?_;intro cc hat hwc)
     |fail)
    refine bodyPost_ret (v:=.tuple #[.int .i64 (xf:Int),.int .i64 6]) (by simp[results,Tryz.results39,go_sem]) rfl ?_
    unfold JudgePost
    rw[HX.out,hMb]
    exact⟨rfl,HB.out.alloc (by have:=HB.out.size;omega) _⟩
   ·have hh:Maps.has D (.string xtx)=false:=by rw[HHS.out];exact decide_eq_false hmem
    have HX:=Lib.hid (show ∀i,i<k+1→ ¬(nm.getD i []∈nm.take i)from fun i hi=>by
     by_cases e:i=k
     ·subst e;rw[HXT.out.1];exact hmem
     ·exact HDI.out i (by omega))
    clear hmem
    go_wp2_with (first
     |(at_lookup;refine wpList_lookup_own_ok_int _ rfl _ _ 114 rfl 9 3 .i64 (Maps.string_keyed Tryz.underlying9) Tryz.underlying114 Tryz.underlying3 (zeroIJ _) Mb k D rfl HOA.out _ _ rfl hkey ?_;intro cc hat hwc)
     |(at_mapUpdate;refine wpList_mapUpdate_own _ rfl _ _ _ 114 rfl 9 3 (Maps.string_keyed Tryz.underlying9) Tryz.underlying114 _ Mb k D rfl HOA.out (by unfold maxLen;omega) _ _ _ rfl rfl hkey _ [] (plainElem_int Tryz.underlying3 (WalkArith.wf_i64 (n:=(k:Int)) ⟨by omega,by omega⟩)) ?_;intro w5 hown1 hgrow1;have HO5:=Lib.hid hown1;have HG5:=Lib.hid hgrow1;clear hown1 hgrow1)
     |fail)
    have HBB:=Lib.hid (show Below Mb w w5 from(HB.out.alloc (by have:=HB.out.size;omega) _).grown HG5.out (by have:=HB.out.size;simp;omega) (fun x e=>by cases e;omega))
    refine⟨⟨k+1,by omega,by go_num,HX,Lib.hid ⟨_,HO5.out,HMP.out.put _ _,fun s=> ?_⟩,HBB⟩,by simp only[intOf];omega⟩
    rw[HTS.out]
    by_cases es:s=xtx
    ·subst es
     rw[Maps.has_put_same (k:=.string s) HMP.out trivial]
     simp
    ·rw[Maps.has_put_other (fun e=>es (by injection e)),HHA.out]
     simp[es]
  ·obtain rfl:k=l.length:=by omega
   have i1:¬(l.length:Int)<(l.length:Int):=by omega
   have HTN:=Lib.hid (show twiceW (namesW R.W l)=none from by rw[HNM.out];exact twice_never (by rw[HNML.out];exact HDI.out))
   have HPF:=Lib.hid (show PlacesJ wr Mb l.length nm from by have h:=HPL.out;rwa [List.take_of_length_le (by rw[HNML.out];omega)]at h)
   clear HDI HPL hk
   obtain⟨_,_,_,_,_,_,_,p7,_⟩:=blk8 (HBX.out wr HB.out)
   go_upto_region 11 with(fail)
   clear p7 i1
   go_loopw [52] (fun v52 wr=>∃j:Nat,j≤cs.length∧v52=.int .i64 j∧Hid (∀i (hi:i<cs.length),i<j→textW R.W cs[i]∈nm)∧Hid (PlacesJ wr Mb l.length nm)∧Hid (Below Mb w wr)) (fun v52 _=>cs.length-(intOf v52).toNat)
   case atStart=>exact⟨0,by omega,rfl,Lib.hid (fun i _ hi=>by omega),HPF,HB⟩
   case round=>
    clear HPF HB
    rename_i wo _
    obtain⟨j,hj,rfl,HDI,HPL,HB⟩:=hrel
    by_cases hlt:j<cs.length
    ·have hmk:j<R.cs.length:=by rw[HNL.out.2.1];exact hlt
     obtain⟨g,hg,hgl,hcc⟩:=word_there (HCO.out wr HB.out) HNL.out.2.1 j hmk
     clear hcc
     subst hg
     have hxe:R.cs[j]=wdW R.W cs[j]:=by simp[HCS.out]
     obtain⟨x,hx⟩:∃x,R.cs[j]=x:=⟨_,rfl⟩
     have hxl:R.cs[j]?=some x:=by rw[List.getElem?_eq_getElem hmk,hx]
     rw[hx]at hxe
     obtain⟨xk,xf,xt,xtx,x0,x1,x2,x3,xlo,xhi⟩:=x
     obtain⟨c0,c1,c2,c3,c4,c5,c6,c7,c8,c9⟩:=word_ten (HCO.out wr HB.out) j (j*10) rfl _ hxl
     simp only at c0 c1 c2 c3 c4 c5 c6 c7 c8 c9
     have HXE:=Lib.hid hxe
     have HXT:=Lib.hid (show textW R.W cs[j]=xtx from by unfold textW;rw[←HXE.out])
     have hxl2:xtx.length≤32:=by have:=HTC.out _ (List.getElem_mem hlt);rw[HXT.out]at this;exact this
     clear hxl hxe hx hmk
     have i1:(j:Int)<(cs.length:Int):=by omega
     have hkey:keyOf Tryz.prog 9 (.string ⟨xtx.toArray⟩)=some (.string xtx):=WideMaps.keyOf_string_mk (s:=⟨xtx.toArray⟩) Tryz.underlying9 (by unfold maxLen;simp[ByteArray.size];omega)
     obtain⟨D,hown,hmap,hhas⟩:=HPL.out
     have hownA:=hown.alloc (.cells #[.int .u8 (xk:Int),.int .i64 (xf:Int),.int .i64 (xt:Int),.string ⟨xtx.toArray⟩,.int .u64 (x0:Int),.int .u64 (x1:Int),.int .u64 (x2:Int),.int .u64 (x3:Int),.int .i64 xlo,.int .i64 xhi] 32)
     have HHS:=Lib.hid (hhas xtx)
     have HOA:=Lib.hid hownA
     have HWA:=Lib.hid (show PlacesJ (wr.alloc (.cells #[.int .u8 (xk:Int),.int .i64 (xf:Int),.int .i64 (xt:Int),.string ⟨xtx.toArray⟩,.int .u64 (x0:Int),.int .u64 (x1:Int),.int .u64 (x2:Int),.int .u64 (x3:Int),.int .i64 xlo,.int .i64 xhi] 32)) Mb l.length nm from⟨D,hownA,hmap,hhas⟩)
     clear hown hmap hhas hownA
     have HBA:=Lib.hid (show Below Mb w (wr.alloc (.cells #[.int .u8 (xk:Int),.int .i64 (xf:Int),.int .i64 (xt:Int),.string ⟨xtx.toArray⟩,.int .u64 (x0:Int),.int .u64 (x1:Int),.int .u64 (x2:Int),.int .u64 (x3:Int),.int .i64 xlo,.int .i64 xhi] 32))from HB.out.alloc (by have:=HB.out.size;omega) _)
     by_cases hmem:xtx∈nm
     ·have hh:Maps.has D (.string xtx)=true:=by rw[HHS.out];exact decide_eq_true hmem
      have HX:=Lib.hid (show ∀i (hi:i<cs.length),i<j+1→textW R.W cs[i]∈nm from fun i hi h1=>by
       by_cases e:i=j
       ·subst e;rw[HXT.out];exact hmem
       ·exact HDI.out i hi (by omega))
      clear hmem
      go_wp2_with (first
       |(at_lookup;refine wpList_lookup_own_ok_int _ rfl _ _ 114 rfl 9 3 .i64 (Maps.string_keyed Tryz.underlying9) Tryz.underlying114 Tryz.underlying3 (zeroIJ _) Mb l.length D rfl HOA.out _ _ rfl hkey ?_;intro cc hat hwc)
       |fail)
      exact⟨⟨j+1,by omega,by go_num,HX,HWA,HBA⟩,by simp only[intOf];omega⟩
     ·have hh:Maps.has D (.string xtx)=false:=by rw[HHS.out];exact decide_eq_false hmem
      have HX:=Lib.hid (show judgeW R.W R.fin l cs=(xf,41)from by
       rw[judge_lack HTN.out (by rw[HNM.out];exact lack_first hlt HDI.out (by rw[HXT.out];exact hmem)),←HXE.out])
      clear hmem
      go_wp2_with (first
       |(at_lookup;refine wpList_lookup_own_ok_int _ rfl _ _ 114 rfl 9 3 .i64 (Maps.string_keyed Tryz.underlying9) Tryz.underlying114 Tryz.underlying3 (zeroIJ _) Mb l.length D rfl HOA.out _ _ rfl hkey ?_;intro cc hat hwc)
       |fail)
      refine bodyPost_ret (v:=.tuple #[.int .i64 (xf:Int),.int .i64 41]) (by simp[results,Tryz.results39,go_sem]) rfl ?_
      unfold JudgePost
      rw[HX.out,hMb]
      exact⟨rfl,HBA.out⟩
    ·obtain rfl:j=cs.length:=by omega
     have HLN:=Lib.hid (show lackW R.W (namesW R.W l) cs=none from by rw[HNM.out];exact lack_never fun i hi=>HDI.out i hi hi)
     have HJE:=Lib.hid (judge_end (fin:=R.fin) HTN.out HLN.out)
     clear HDI HPL hj HLN
     have i1:¬(cs.length:Int)<(cs.length:Int):=by omega
     obtain⟨_,p1,_,_,_,p5,_,_,_⟩:=blk8 (HBX.out wr HB.out)
     go_upto_region 19 with(fail)
     clear p5 p1 i1
     go_loopw [13,79] (fun v13 v79 wr=>∃j:Nat,j≤l.length∧v79=.int .i64 j∧v13=.bool (decide (64<l.length)||(l.take j).any fun p=> !mayT (bodyT p.2))∧Hid (Below Mb w wr)) (fun _ v79 _=>l.length-(intOf v79).toNat)
     case atStart=>exact⟨0,by omega,rfl,by simp;omega,HB⟩
     case round=>
      clear HB
      rename_i wq _
      obtain⟨q,hq,rfl,rfl,HB⟩:=hrel
      by_cases hlt:q<l.length
      ·have hqd:q<R.ds.length:=by rw[HNL.out.2.2];exact hlt
       obtain⟨gb,go,rfl,_,hgl,y0,y1,y2⟩:=dfRow (HDO.out wr HB.out) q hqd
       have hdt:R.ds[q].t.tr=bodyT l[q].2:=by
        have h1:(R.ds.map Ld.df)[q]?=(l.map (defW R.W))[q]? :=by rw[HDS.out]
        simp only[List.getElem?_map,List.getElem?_eq_getElem hqd,List.getElem?_eq_getElem hlt,Option.map_some,Option.some.injEq]at h1
        exact congrArg Df.body h1
       have HINN:=Lib.hid (((HDO.out wr HB.out).2 _ (List.getElem_mem hqd)).2)
       have hdl:=HDL.out _ (List.getElem_mem hqd)
       generalize R.ds[q]=d at *
       obtain⟨dn,⟨tA,tc,tls,tr⟩⟩:=d
       simp only at y0 y1 y2 hdl
       have HMY:=Lib.hid (show ∀wx,Below wr.heap.size wr wx→Calls Tryz.prog 21 #[.agg #[.slice tA tls.length tc,.int .i64 tr]] wx fun e w'=>e=.returned (.bool (mayT (bodyT l[q].2)))∧Below wx.heap.size wx w' from fun wx hb=>by
        have h1:=tmay_any ⟨tA,tc,tls,tr⟩ (fun _=>True) wx (HINN.out.below hb) (by show tls.length≤_;omega) ((HT.out.below (by rw[hMb];exact HB.out)).below hb)
        rw[hdt]at h1;exact h1)
       have HTK:=Lib.hid (show(l.take (q+1)).any (fun p=> !mayT (bodyT p.2))=((l.take q).any (fun p=> !mayT (bodyT p.2)) || !mayT (bodyT l[q].2))from by rw[List.take_succ_eq_append_getElem hlt,List.any_append];simp)
       have i1:(q:Int)<(l.length:Int):=by omega
       clear hdt hdl hqd
       generalize hby:bodyT l[q].2=by' at *
       generalize hbv:(decide (64<l.length)||(l.take q).any fun p=> !mayT (bodyT p.2))=bv at *
       have HBV:=Lib.hid hbv
       clear hby hbv
       cases bv
       ·go_wp2_with (first
         |(go_at_call 21;(with_reducible refine(HMY.out _ (bx1 wr _)).mono ?_);rintro e w2 ⟨rfl,hb⟩;have HB2:=Lib.hid ((HB.out.alloc (by have:=HB.out.size;omega) (.cells #[.string dn,.slice tA tls.length tc,.int .i64 tr] 45)).trans (hb.mono (by have:=HB.out.size;simp;omega)));clear hb)
         |fail)
        refine⟨⟨q+1,by omega,by go_num,?_,HB2⟩,by simp only[intOf];omega⟩
        rw[HTK.out,←Bool.or_assoc,HBV.out];simp
       ·go_wp2_with fail
        refine⟨⟨q+1,by omega,by go_num,?_,Lib.hid (HB.out.alloc (by have:=HB.out.size;omega) _)⟩,by simp only[intOf];omega⟩
        rw[HTK.out,←Bool.or_assoc,HBV.out];simp
      ·obtain rfl:q=l.length:=by omega
       have i1:¬(l.length:Int)<(l.length:Int):=by omega
       have HLG:=Lib.hid (show(decide (64<l.length)||(l.take l.length).any fun p=> !mayT (bodyT p.2))=largeW l from by rw[List.take_length];rfl)
       rw[HLG.out]
       obtain⟨_,p1,_,_,_,_,_,_,_⟩:=blk8 (HBX.out wr HB.out)
       generalize hlw:largeW l=lw at *
       clear hlw HLG
       cases lw
       ·go_wp2_with fail
        refine bodyPost_ret (v:=.tuple #[.int .i64 0,.int .i64 0]) (by simp[results,Tryz.results39,go_sem]) rfl ?_
        unfold JudgePost
        rw[HJE.out,hMb]
        exact⟨by simp,HB.out⟩
       ·go_wp2_with fail
        refine bodyPost_ret (v:=.tuple #[.int .i64 (R.fin:Int),.int .i64 40]) (by simp[results,Tryz.results39,go_sem]) rfl ?_
        unfold JudgePost
        rw[HJE.out,hMb]
        exact⟨by simp,HB.out⟩
end Go.Proofs.YtpfokabdpmjobaaGreatDoor
namespace Go.Proofs.YtpfokabdpmjobaaGreatDoor
open Go.RowKit
set_option linter.unusedSimpArgs false
set_option linter.unusedVariables false
theorem read_kinds (s:List UInt8):(∀p∈(readW s).1.1,kdW (begunW s).1 p.1=1)∧ ∀c∈(readW s).1.2,kdW (begunW s).1 c=1:=by
 unfold readW
 split
 ·exact⟨fun p hp=>(by cases hp),fun c hc=>(by cases hc)⟩
 ·cases hr:rulesP (begunW s).1 with
  |fail k=>exact⟨fun p hp=>(by cases hp),fun c hc=>(by cases hc)⟩
  |done l cs=>
   have h:=rules_inv (makes_true (begunW s).1) (fun x hx=>((begun_all s).1 x hx).1) _ 0 [] [] (fun p hp=>(by cases hp)) (fun c hc=>(by cases hc)) l cs hr
   exact⟨fun p hp=>(h.1.2 p hp).1,h.2⟩
theorem text_short {s:List UInt8} {i:Nat} (h:kdW (begunW s).1 i=1):(textW (begunW s).1 i).length≤32∧mayL (textW (begunW s).1 i)=true:=by
 have hl:i<(begunW s).1.length:=kd_lt (by omega)
 have h1:=((begun_all s).1 _ (List.getElem_mem hl)).1
 have h2:=h1.1 (by rw[←kd_at hl];exact h)
 have e:textW (begunW s).1 i=(begunW s).1[i].text:=by unfold textW;rw[wd_at hl]
 rw[e]
 refine⟨?_,h2⟩
 simp only[mayL,decide_eq_true_eq]at h2
 exact h2.2.1
theorem read_ok_at {s:List UInt8} (h:(readW s).2.2=0):(readW s).2.1=(begunW s).2.1:=by
 unfold readW at h ⊢
 split
 ·rename_i h1;simp[h1]at h
 ·rename_i h1
  rw[if_neg h1]at h
  cases hr:rulesP (begunW s).1 with
  |fail k=>simp[hr]at h
  |done l cs=>rfl
theorem gram_bad {s:List UInt8} (h:(readW s).2.2≠0):gramP s=([],(readW s).2.1,(readW s).2.2):=by unfold gramP;rw[if_pos h]
theorem gram_judged {s:List UInt8} {a e:Nat} (h:(readW s).2.2=0) (hj:judgeW (begunW s).1 (begunW s).2.1 (readW s).1.1 (readW s).1.2=(a,e)) (he:e≠0):gramP s=([],a,e):=by
 unfold gramP;rw[if_neg (by omega),read_ok_at h,hj,if_pos he]
theorem gram_fine {s:List UInt8} {a:Nat} (h:(readW s).2.2=0) (hj:judgeW (begunW s).1 (begunW s).2.1 (readW s).1.1 (readW s).1.2=(a,0)):gramP s=((readW s).1.1.map (defW (begunW s).1),0,0):=by
 unfold gramP;rw[if_neg (by omega),read_ok_at h,hj,if_neg (by simp)]
def PGPost (s:List UInt8) (w:World) (e:Ending) (w':World):Prop:=
 ∃(A:Option Addr) (c:Nat) (ds:List Ld),e=.returned (.tuple #[.agg #[.slice A ds.length c],.int .i64 ((gramP s).2.1:Int),.int .i64 ((gramP s).2.2:Int)])∧ds.map Ld.df=(gramP s).1∧(∀d∈ds,d.t.ls.length≤300000) ∧
  OwnS w' (w.heap.size ≤ ·) 45 3 A ds.length c (dfL.all ds)∧(∀d∈ds,d.name.size≤281474976710656∧TreeOwn w' (w.heap.size ≤ ·) d.t)∧Below w.heap.size w w'
set_option maxRecDepth 100000 in
set_option maxHeartbeats 3200000 in
theorem pgrammar_any (s:ByteArray) (w:World) (hs:s.size≤281474976710656) (ht:CntTab w):Calls Tryz.prog 10 #[.string s] w (PGPost s.data.toList w):=by
 have HB0:=Lib.hid (bx1 w (.cells #[.slice none 0 0] 35))
 have HZ0:=Lib.hid (bx_new w (.cells #[.slice none 0 0] 35))
 have HRD:=Lib.hid (read_any s (w.alloc (.cells #[.slice none 0 0] 35)) hs (ht.below HB0.out))
 have HCT:=Lib.hid ht
 unfold ReadPost2 at HRD
 generalize hl:s.data.toList=l at *
 clear hl ht
 have HSZ:=Lib.hid (show(w.alloc (.cells #[.slice none 0 0] 35)).heap.size=w.heap.size+1 from by simp)
 obtain⟨at',hat⟩:∃a,(readW l).2.1=a:=⟨_,rfl⟩
 obtain⟨er,her⟩:∃a,(readW l).2.2=a:=⟨_,rfl⟩
 rw[hat,her]at HRD
 have HAT:=Lib.hid hat;have HER:=Lib.hid her;clear hat her
 by_cases he:er=0
 ·subst he
  obtain⟨⟨ja,je⟩,hj⟩:∃p,judgeW (begunW l).1 (begunW l).2.1 (readW l).1.1 (readW l).1.2=p:=⟨_,rfl⟩
  have HJ:=Lib.hid (show ∀(R:Rd) (f:Nat→Ow) (H:Nat) (w1:World),RdM Dch w1 (w.alloc (.cells #[.slice none 0 0] 35)).heap.size f H R→RdDone l R→CntTab w1→Calls Tryz.prog 39 #[.pointer (some ⟨H,0,none⟩)] w1 fun e w'=>e=.returned (.tuple #[.int .i64 (ja:Int),.int .i64 (je:Int)])∧Below w1.heap.size w1 w' from fun R f H w1 h1 h2 h3=>by
   have h4:=judge_any w1 _ f H R (readW l).1.1 (readW l).1.2 h1 h2.ms h2.cs h2.ds h2.len (fun p hp=>by rw[h2.W];exact(text_short ((read_kinds l).1 p hp)).1) (fun c hc=>by rw[h2.W];exact(text_short ((read_kinds l).2 c hc)).1) (Nat.le_trans h2.num.1 (by rw[h2.W];exact(begun_all l).2)) (Nat.le_trans h2.num.2 (by rw[h2.W];exact(begun_all l).2)) h3
   unfold JudgePost at h4
   rw[h2.W,h2.fin,hj]at h4
   exact h4)
  by_cases hje:je=0
  ·subst hje
   have HG:=Lib.hid (gram_fine HER.out hj)
   clear hj
   go_enter Tryz.func10,Tryz.ntmps10
   go_upto_region 7 with(first
    |(go_at_call 38;(with_reducible refine HRD.out.mono ?_);rintro e w1 ⟨R,f,H,rfl,k1,k2,k3⟩;have HR:=Lib.hid k1;have HDN:=Lib.hid (k2 rfl);have HB1:=Lib.hid k3;clear k1 k2 k3)
    |(go_at_call 39;(with_reducible refine(HJ.out R f H w1 HR.out HDN.out ((HCT.out.below HB0.out).below HB1.out)).mono ?_);rintro e w2 ⟨rfl,hb⟩;have HB2:=Lib.hid hb;clear hb)
    |fail)
   have HR2:=Lib.hid (HR.out.below HB2.out)
   obtain⟨_,_,_,_,_,p5,_,_,pf⟩:=blk8 (HR2.out.box (fun h=>h))
   have HK2:=Lib.hid (bx_kept HB2.out (bx_kept HB1.out HZ0.out))
   obtain⟨q0,qf⟩:=blk1 HK2.out
   have hltk:=heap_lt' HK2.out
   go_wp2_with fail
   have hz:(w2.setCell ⟨w.heap.size,0,none⟩ (.slice R.dA R.ds.length R.dc)).heap[w.heap.size]?=some (.cells #[.slice R.dA R.ds.length R.dc] 35 (0,0)):=by simpa using box_cells (i:=0) HK2.out (.slice R.dA R.ds.length R.dc)
   have HX:=Lib.hid (show PGPost l w (.returned (.tuple #[.agg #[.slice R.dA R.ds.length R.dc],.int .i64 0,.int .i64 0])) (w2.setCell ⟨w.heap.size,0,none⟩ (.slice R.dA R.ds.length R.dc))from by
    have hsz:=HSZ.out
    have hag:Agree (fun k=>w.heap.size+1≤k) w2 (w2.setCell ⟨w.heap.size,0,none⟩ (.slice R.dA R.ds.length R.dc)):=fun k hk _=>Below.heap_setCell _ _ _ _ (by show k≠w.heap.size;omega)
    have ho:OwnS w2 (fun k=>w.heap.size+1≤k) 45 3 R.dA R.ds.length R.dc (dfL.all R.ds):=by
     have h1:=(HR2.out .defs (fun h=>h)).1
     exact⟨own_mono h1 (Nat.zero_le _),fun k hk=>by have:=(own_blk h1 k hk).1;omega⟩
    refine⟨R.dA,R.dc,R.ds,by rw[HG.out];rfl,by rw[HG.out,HDN.out.ds,HDN.out.W],HDN.out.len,(ho.agree hag).mono (fun k _ hk=>by show w.heap.size≤k;omega),fun d hd=> ?_,?_⟩
    ·obtain⟨j,hj,rfl⟩:=List.mem_iff_getElem.1 hd
     have h1:=(HR2.out (.body j) (fun h=>h)) hj
     have h2:TreeOwn w2 (fun k=>w.heap.size+1≤k) R.ds[j].t:=h1.2.mono (fun k _ hk=>by have:=hk.2;show w.heap.size+1≤k;omega)
     exact⟨h1.1,(h2.agree hag).mono (fun k _ hk=>by show w.heap.size≤k;omega)⟩
    ·exact((HB0.out.trans (HB1.out.mono (by omega))).trans (HB2.out.mono (by have:=HB1.out.size;omega))).setCell (p:=⟨w.heap.size,0,none⟩) (Nat.le_refl _) _)
   clear q0 qf
   generalize (w2.setCell ⟨w.heap.size,0,none⟩ (.slice R.dA R.ds.length R.dc))=wz at *
   obtain⟨q0,_⟩:=blk1 hz
   exact bodyPost_ret (v:=.tuple #[.agg #[.slice R.dA R.ds.length R.dc],.int .i64 0,.int .i64 0]) (by simp[results,Tryz.results10,go_sem,q0]) rfl HX.out
  ·have HG:=Lib.hid (gram_judged HER.out hj hje)
   have i1:((je:Int)==0)=false:=by simp;omega
   clear hj
   go_enter Tryz.func10,Tryz.ntmps10
   go_upto_region 6 with(first
    |(go_at_call 38;(with_reducible refine HRD.out.mono ?_);rintro e w1 ⟨R,f,H,rfl,k1,k2,k3⟩;have HR:=Lib.hid k1;have HDN:=Lib.hid (k2 rfl);have HB1:=Lib.hid k3;clear k1 k2 k3)
    |(go_at_call 39;(with_reducible refine(HJ.out R f H w1 HR.out HDN.out ((HCT.out.below HB0.out).below HB1.out)).mono ?_);rintro e w2 ⟨rfl,hb⟩;have HB2:=Lib.hid hb;clear hb)
    |fail)
   have HK2:=Lib.hid (bx_kept HB2.out (bx_kept HB1.out HZ0.out))
   obtain⟨q0,qf⟩:=blk1 HK2.out
   go_wp2_with fail
   have hz:(w2.setCell ⟨w.heap.size,0,none⟩ (.slice none 0 0)).heap[w.heap.size]?=some (.cells #[.slice none 0 0] 35 (0,0)):=by simpa using box_cells (i:=0) HK2.out (.slice none 0 0)
   have HX:=Lib.hid (show PGPost l w (.returned (.tuple #[.agg #[.slice none 0 0],.int .i64 (ja:Int),.int .i64 (je:Int)])) (w2.setCell ⟨w.heap.size,0,none⟩ (.slice none 0 0))from by
    have hsz:=HSZ.out
    refine⟨none,0,[],by rw[HG.out];rfl,by rw[HG.out];rfl,fun d hd=>(by cases hd),⟨World.ownsRow_nil _ _ _ _,fun k hk=>(by cases hk)⟩,fun d hd=>(by cases hd),?_⟩
    exact((HB0.out.trans (HB1.out.mono (by omega))).trans (HB2.out.mono (by have:=HB1.out.size;omega))).setCell (p:=⟨w.heap.size,0,none⟩) (Nat.le_refl _) _)
   clear q0 qf
   generalize (w2.setCell ⟨w.heap.size,0,none⟩ (.slice none 0 0))=wz at *
   obtain⟨q0,_⟩:=blk1 hz
   exact bodyPost_ret (v:=.tuple #[.agg #[.slice none 0 0],.int .i64 (ja:Int),.int .i64 (je:Int)]) (by simp[results,Tryz.results10,go_sem,q0]) rfl HX.out
 ·have HG:=Lib.hid (gram_bad (s:=l) (by rw[HER.out];exact he))
  have i1:((er:Int)==0)=false:=by simp;omega
  go_enter Tryz.func10,Tryz.ntmps10
  go_upto_region 3 with(first
   |(go_at_call 38;(with_reducible refine HRD.out.mono ?_);rintro e w1 ⟨R,f,H,rfl,k1,k2,k3⟩;have HB1:=Lib.hid k3;clear k1 k2 k3)
   |fail)
  have HK2:=Lib.hid (bx_kept HB1.out HZ0.out)
  obtain⟨q0,qf⟩:=blk1 HK2.out
  go_wp2_with fail
  have hz:(w1.setCell ⟨w.heap.size,0,none⟩ (.slice none 0 0)).heap[w.heap.size]?=some (.cells #[.slice none 0 0] 35 (0,0)):=by simpa using box_cells (i:=0) HK2.out (.slice none 0 0)
  have HX:=Lib.hid (show PGPost l w (.returned (.tuple #[.agg #[.slice none 0 0],.int .i64 (at':Int),.int .i64 (er:Int)])) (w1.setCell ⟨w.heap.size,0,none⟩ (.slice none 0 0))from by
   have hsz:=HSZ.out
   refine⟨none,0,[],by rw[HG.out,HAT.out,HER.out];rfl,by rw[HG.out];rfl,fun d hd=>(by cases hd),⟨World.ownsRow_nil _ _ _ _,fun k hk=>(by cases hk)⟩,fun d hd=>(by cases hd),?_⟩
   exact(HB0.out.trans (HB1.out.mono (by omega))).setCell (p:=⟨w.heap.size,0,none⟩) (Nat.le_refl _) _)
  clear q0 qf
  generalize (w1.setCell ⟨w.heap.size,0,none⟩ (.slice none 0 0))=wz at *
  obtain⟨q0,_⟩:=blk1 hz
  exact bodyPost_ret (v:=.tuple #[.agg #[.slice none 0 0],.int .i64 (at':Int),.int .i64 (er:Int)]) (by simp[results,Tryz.results10,go_sem,q0]) rfl HX.out
end Go.Proofs.YtpfokabdpmjobaaGreatDoor
