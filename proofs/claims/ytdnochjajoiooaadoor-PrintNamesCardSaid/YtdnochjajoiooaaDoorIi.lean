/- The tables of the printer, from a row's condition (six tables are laid). -/
import Derived.Test.YtdnochjajoiooaaDoorGo
import Derived.ProofKit
import Derived.OpenShut
import Derived.LaidMore
import Derived.Stop.Joined
import Derived.Stop.LaidErr
import Derived.Deep.Strs
namespace Go.Proofs.YtdnochjajoiooaaDoor
open Go.RowKit Go.ChangeShapes Go.WideShapes
set_option linter.unusedSimpArgs false
set_option linter.unusedVariables false
set_option maxRecDepth 100000
theorem glt {w:World} {g:Nat} {v:Value} (h:w.cell? ⟨g,0,none⟩=some v):g<w.heap.size:=cellLt h
theorem counts_of_head {W:World} {rest:List (String×DataW Unit)} (h:laidMet Tryd.prog (("bonsai/tree.counts",Rows.laid_bonsai_tree_counts)::rest) W):CntTab W:=by
 obtain⟨ps,⟨g',t',cs,fuel,p,q,hg',ht',hvar,hd,_,_⟩,_⟩:=h
 obtain rfl:=Option.some.inj ((show Tryd.prog.globalNamed "bonsai/tree.counts" = some 2 by kernel_rfl).symm.trans hg')
 obtain rfl:=Option.some.inj ((show(Tryd.prog.globals[(2:Nat)]?).map (·.type)=some 110 by kernel_rfl).symm.trans ht')
 obtain⟨xs,m,_,hx,hcl,hxl,hel⟩:=DataW.trod_array Tryd.underlying110 hd
 have k1:Tryd.prog.cellsOf 109=2:=by kernel_rfl
 rw[show Tryd.prog.cellsOf 110=20 by kernel_rfl]at hcl
 simp only[k1]at hel
 have hx1:xs.map (·.1)=[Lib.tabData .i64 [0,0],Lib.tabData .i64 [0,0],Lib.tabData .i64 [0,0],Lib.tabData .i64 [0,0],Lib.tabData .i64 [2, -1],Lib.tabData .i64 [2, -1],Lib.tabData .i64 [1,1],Lib.tabData .i64 [1,1],Lib.tabData .i64 [1,1],Lib.tabData .i64 [1,1]]:=by
  have h1:=congrArg Prod.fst hx
  simp only[Rows.laid_bonsai_tree_counts,DataW.agg.injEq]at h1
  rw[←h1];rfl
 have hch:∀(i:Nat) (a b:Int),i<10→(xs.map (·.1))[i]?=some (Lib.tabData .i64 [a,b])→(cs.toList.drop (i*2)).take 2=[.int .i64 a,.int .i64 b]:=fun i a b hi he=>by
  have h1:=hel i hi
  rw[List.getElem?_map]at he
  obtain⟨y,hy,e⟩:=Option.map_eq_some_iff.1 he
  rw[hy]at h1
  obtain⟨y1,y2⟩:=y
  simp only at e
  subst e
  exact Lib.cells_of_tab (zs:=[a,b]) Tryd.underlying109 Tryd.underlying3 (by kernel_rfl) k1 h1
 rw[hx1]at hch
 unfold CntTab
 rw[hvar]
 obtain⟨l⟩:=cs
 simp only at hch hcl
 match l,hcl with
 |[a0,a1,a2,a3,a4,a5,a6,a7,a8,a9,a10,a11,a12,a13,a14,a15,a16,a17,a18,a19],_=>
  have c0:=hch 0 0 0 (by decide) rfl
  have c1:=hch 1 0 0 (by decide) rfl
  have c2:=hch 2 0 0 (by decide) rfl
  have c3:=hch 3 0 0 (by decide) rfl
  have c4:=hch 4 2 (-1) (by decide) rfl
  have c5:=hch 5 2 (-1) (by decide) rfl
  have c6:=hch 6 1 1 (by decide) rfl
  have c7:=hch 7 1 1 (by decide) rfl
  have c8:=hch 8 1 1 (by decide) rfl
  have c9:=hch 9 1 1 (by decide) rfl
  simp only[Nat.zero_mul,List.drop_zero,List.take_succ_cons,List.take_zero,List.drop_succ_cons,List.cons.injEq,and_true,Nat.reduceMul]at c0 c1 c2 c3 c4 c5 c6 c7 c8 c9
  obtain⟨rfl,rfl⟩:=c0;obtain⟨rfl,rfl⟩:=c1;obtain⟨rfl,rfl⟩:=c2;obtain⟨rfl,rfl⟩:=c3;obtain⟨rfl,rfl⟩:=c4
  obtain⟨rfl,rfl⟩:=c5;obtain⟨rfl,rfl⟩:=c6;obtain⟨rfl,rfl⟩:=c7;obtain⟨rfl,rfl⟩:=c8;obtain⟨rfl,rfl⟩:=c9
  rfl
theorem drop_cells {cs:List Value} {i c:Nat} {l:List Value} (h:(cs.drop (i*c)).take c=l) (j:Nat) (hj:j<c):cs[i*c+j]?=l[j]? :=by
 rw[←h,List.getElem?_take,if_pos hj,List.getElem?_drop]
theorem cells_of_co {H:Type} {enc:TypeId×Value→H} {w:World} {base:Nat} {sp:Nat→Bool} {held:Bool} {fuel:Nat} {cs:List Value} {a b:Int} {s:List UInt8} {p:List MemPlace}
  (h:DataW.trod enc Tryd.prog w base sp held fuel 85 cs=some (.agg [.lit (.int .i64 a),.lit (.int .i64 b),.lit (.string s)],p)):cs=[.int .i64 a,.int .i64 b,.string ⟨s.toArray⟩]:=by
 obtain⟨z0,z1,z2,n,hz,hl,e0,e1,e2⟩:=Go.Deep.trod_struct3 Tryd.underlying85 h
 simp only[show Tryd.prog.cellsOf 3=1 by kernel_rfl,show Tryd.prog.cellsOf 9=1 by kernel_rfl]at e0 e1 e2
 obtain⟨n0,c0,g0,_⟩:=DataW.trod_int Tryd.underlying3 e0
 obtain⟨n1,c1,g1,_⟩:=DataW.trod_int Tryd.underlying3 e1
 obtain⟨n2,c2,g2,_⟩:=DataW.trod_string Tryd.underlying9 e2
 subst g0 g1 g2
 simp only[Prod.mk.injEq,DataW.agg.injEq,List.cons.injEq,DataW.lit.injEq,Lit.int.injEq,Lit.string.injEq,and_true,true_and]at hz
 obtain⟨⟨rfl,rfl,rfl⟩,_⟩:=hz
 rw[show Tryd.prog.cellsOf 85=3 by kernel_rfl]at hl
 match cs,hl with
 |[x,y,z],_=>
  simp at c0 c1 c2
  simp[c0,c1,c2]
theorem co_of_head {W:World} {rest:List (String×DataW Unit)} (h:laidMet Tryd.prog (("bonsai/print.counts",Rows.laid_bonsai_print_counts)::rest) W):CoTab W:=by
 obtain⟨ps,⟨g',t',cs,fuel,p,q,hg',ht',hvar,hd,_,_⟩,_⟩:=h
 obtain rfl:=Option.some.inj ((show Tryd.prog.globalNamed "bonsai/print.counts" = some 1 by kernel_rfl).symm.trans hg')
 obtain rfl:=Option.some.inj ((show(Tryd.prog.globals[(1:Nat)]?).map (·.type)=some 86 by kernel_rfl).symm.trans ht')
 obtain⟨xs,m,_,hx,hcl,hxl,hel⟩:=DataW.trod_array Tryd.underlying86 hd
 have k1:Tryd.prog.cellsOf 85=3:=by kernel_rfl
 simp only[k1]at hel
 have hx1:xs.map (·.1)=[.agg [.lit (.int .i64 0),.lit (.int .i64 1),.lit (.string [63])],.agg [.lit (.int .i64 0),.lit (.int .i64 (-1)),.lit (.string [42])],.agg [.lit (.int .i64 1),.lit (.int .i64 (-1)),.lit (.string [43])]]:=by
  have h1:=congrArg Prod.fst hx
  simp only[Rows.laid_bonsai_print_counts,DataW.agg.injEq]at h1
  rw[←h1]
 have hch:∀(i:Nat) (a b:Int) (s:List UInt8),i<3→(xs.map (·.1))[i]?=some (.agg [.lit (.int .i64 a),.lit (.int .i64 b),.lit (.string s)])→(cs.toList.drop (i*3)).take 3=[.int .i64 a,.int .i64 b,.string ⟨s.toArray⟩]:=fun i a b s hi he=>by
  have h1:=hel i hi
  rw[List.getElem?_map]at he
  obtain⟨y,hy,e⟩:=Option.map_eq_some_iff.1 he
  rw[hy]at h1
  obtain⟨y1,y2⟩:=y
  simp only at e
  subst e
  exact cells_of_co h1
 rw[hx1]at hch
 have HC:=fun j=>World.var?_cell (P:=Tryd.prog) (g:=1) (by kernel_rfl) hvar j
 have c0:=hch 0 0 1 [63] (by decide) rfl
 have c1:=hch 1 0 (-1) [42] (by decide) rfl
 have c2:=hch 2 1 (-1) [43] (by decide) rfl
 intro j u hu
 rw[HC j]
 have hj:j<9:=by
  rcases Nat.lt_or_ge j 9 with h|h
  ·exact h
  ·rw[List.getElem?_eq_none (by simp;omega)]at hu
   simp at hu
 have hj':j=0∨j=1∨j=2∨j=3∨j=4∨j=5∨j=6∨j=7∨j=8:=by omega
 rw[←Array.getElem?_toList]
 rcases hj' with rfl|rfl|rfl|rfl|rfl|rfl|rfl|rfl|rfl
 ·exact(drop_cells c0 0 (by decide)).trans hu
 ·exact(drop_cells c0 1 (by decide)).trans hu
 ·exact(drop_cells c0 2 (by decide)).trans hu
 ·exact(drop_cells c1 0 (by decide)).trans hu
 ·exact(drop_cells c1 1 (by decide)).trans hu
 ·exact(drop_cells c1 2 (by decide)).trans hu
 ·exact(drop_cells c2 0 (by decide)).trans hu
 ·exact(drop_cells c2 1 (by decide)).trans hu
 ·exact(drop_cells c2 2 (by decide)).trans hu
theorem cells_of_strs3 {H:Type} {enc:TypeId×Value→H} {w:World} {base:Nat} {sp:Nat→Bool} {held:Bool} {fuel:Nat} {cs:List Value} {x y z:List UInt8} {p:List MemPlace}
  (h:DataW.trod enc Tryd.prog w base sp held fuel 80 cs=some (.agg [.lit (.string x),.lit (.string y),.lit (.string z)],p)):cs=[.string ⟨x.toArray⟩,.string ⟨y.toArray⟩,.string ⟨z.toArray⟩]:=by
 obtain⟨z0,z1,z2,n,hz,hl,e0,e1,e2⟩:=Go.Deep.trod_struct3 Tryd.underlying80 h
 simp only[show Tryd.prog.cellsOf 9=1 by kernel_rfl]at e0 e1 e2
 obtain⟨n0,c0,g0,_⟩:=DataW.trod_string Tryd.underlying9 e0
 obtain⟨n1,c1,g1,_⟩:=DataW.trod_string Tryd.underlying9 e1
 obtain⟨n2,c2,g2,_⟩:=DataW.trod_string Tryd.underlying9 e2
 subst g0 g1 g2
 simp only[Prod.mk.injEq,DataW.agg.injEq,List.cons.injEq,DataW.lit.injEq,Lit.string.injEq,and_true,true_and]at hz
 obtain⟨⟨rfl,rfl,rfl⟩,_⟩:=hz
 rw[show Tryd.prog.cellsOf 80=3 by kernel_rfl]at hl
 match cs,hl with
 |[x,y,z],_=>
  simp at c0 c1 c2
  simp[c0,c1,c2]
theorem sg_of_head {W:World} {rest:List (String×DataW Unit)} (h:laidMet Tryd.prog (("bonsai/print.signs",Rows.laid_bonsai_print_signs)::rest) W):SgTab W:=by
 obtain⟨ps,⟨g',t',cs,fuel,p,q,hg',ht',hvar,hd,_,_⟩,_⟩:=h
 obtain rfl:=Option.some.inj ((show Tryd.prog.globalNamed "bonsai/print.signs" = some 0 by kernel_rfl).symm.trans hg')
 obtain rfl:=Option.some.inj ((show(Tryd.prog.globals[(0:Nat)]?).map (·.type)=some 81 by kernel_rfl).symm.trans ht')
 obtain⟨xs,m,_,hx,hcl,hxl,hel⟩:=DataW.trod_array Tryd.underlying81 hd
 have k1:Tryd.prog.cellsOf 80=3:=by kernel_rfl
 simp only[k1]at hel
 have hx1:xs.map (·.1)=(List.range 10).map fun i=>.agg [.lit (.string (sgL.getD (i*3) [])),.lit (.string (sgL.getD (i*3+1) [])),.lit (.string (sgL.getD (i*3+2) []))]:=by
  have h1:=congrArg Prod.fst hx
  simp only[Rows.laid_bonsai_print_signs,DataW.agg.injEq]at h1
  rw[←h1];rfl
 have hch:∀(i:Nat),i<10→(cs.toList.drop (i*3)).take 3=[.string ⟨(sgL.getD (i*3) []).toArray⟩,.string ⟨(sgL.getD (i*3+1) []).toArray⟩,.string ⟨(sgL.getD (i*3+2) []).toArray⟩]:=fun i hi=>by
  have h1:=hel i hi
  obtain⟨y,hy⟩:∃y,xs[i]?=some y:=⟨_,List.getElem?_eq_getElem (by omega)⟩
  have h2:(xs.map (·.1))[i]?=some y.1:=by simp[hy]
  rw[hx1,List.getElem?_map,List.getElem?_range hi]at h2
  rw[hy]at h1
  obtain⟨y1,y2⟩:=y
  simp only[Option.map_some,Option.some.injEq]at h2
  subst h2
  exact cells_of_strs3 h1
 have HC:=fun j=>World.var?_cell (P:=Tryd.prog) (g:=0) (by kernel_rfl) hvar j
 intro j l hl
 rw[HC j]
 have hj:j<30:=by
  rcases Nat.lt_or_ge j 30 with h|h
  ·exact h
  ·rw[List.getElem?_eq_none (by simp[sgL];omega)]at hl
   simp at hl
 rw[←Array.getElem?_toList]
 have h1:=drop_cells (hch (j/3) (by omega)) (j%3) (by omega)
 rw[show j/3*3+j%3=j by omega]at h1
 rw[h1]
 have h3:j%3=0∨j%3=1∨j%3=2:=by omega
 rcases h3 with e|e|e
 ·rw[e];simp[show j/3*3=j by omega,hl]
 ·rw[e];simp[show j/3*3+1=j by omega,hl]
 ·rw[e];simp[show j/3*3+2=j by omega,hl]
theorem db_of_head {W:World} {rest:List (String×DataW Unit)} (h:laidMet Tryd.prog (("math/bits.deBruijn64tab",Rows.laid_math_bits_deBruijn64tab)::rest) W):DbTab W:=by
 have ht:Lib.TabIs Tryd.prog W "math/bits.deBruijn64tab" .u8 (Lib.deBruijn64tab.map fun n:Nat=>(n:Int)):=Lib.tabIs_of_head (g:=3) (t:=141) (e:=5) (n:=64) (by kernel_rfl) (by kernel_rfl) Tryd.underlying141 Tryd.underlying5 (by kernel_rfl) (by kernel_rfl) h
 intro j hj
 have hl:Lib.deBruijn64tab.length=64:=by decide
 rw[ht.cell (by kernel_rfl) j (by simp[hl,hj])]
 simp[hl,hj]
theorem tab_of_head {W:World} {rest:List (String×DataW Unit)} (h:laidMet Tryd.prog (("internal/strconv.uint64pow10",Rows.laid_internal_strconv_uint64pow10)::rest) W):Tab W:=
 Lib.tabIs_of_head (g:=4) (t:=144) (e:=29) (n:=20) (by kernel_rfl) (by kernel_rfl) Tryd.underlying144 Tryd.underlying29 (by kernel_rfl) (by kernel_rfl) h
def laid6:List (String×DataW Unit):=[("math/bits.deBruijn32tab",Rows.laid_math_bits_deBruijn32tab),("math/bits.deBruijn64tab",Rows.laid_math_bits_deBruijn64tab),("internal/strconv.uint64pow10",Rows.laid_internal_strconv_uint64pow10),("bonsai/tree.counts",Rows.laid_bonsai_tree_counts),("bonsai/print.counts",Rows.laid_bonsai_print_counts),("bonsai/print.signs",Rows.laid_bonsai_print_signs)]
theorem ptabs_of_laid {W:World} (h:laidMetH Tryd.prog laid6 W):PTabs W:=by
 rw[MakeChecks.laidMetH_plain _ _ _ (by kernel_rfl)]at h
 have hs:=sg_of_head h.tail.tail.tail.tail.tail
 have hc:=co_of_head h.tail.tail.tail.tail
 have hn:=counts_of_head h.tail.tail.tail
 have ht:=tab_of_head h.tail.tail
 have hd:=db_of_head h.tail
 have hp:4<W.heap.size:=by
  have:=World.var?_cell (P:=Tryd.prog) (g:=4) (by kernel_rfl) ht 0
  exact glt (v:=.int .u64 1) (by simpa[Lib.pow10Tab]using this)
 exact⟨hn,hs,hd,hc,ht,hp⟩
end Go.Proofs.YtdnochjajoiooaaDoor
