/- What print.Tree's walk wants: jumps that lower a number, the stack of open nodes in memory, builders that stay. -/
import Derived.Test.YtdnochjajoiooaaDoorQg
import Derived.Test.YtdnochjajoiooaaDoorGk
import Derived.Test.YtdnochjajoiooaaDoorGh
import Derived.Test.YtdnochjajoiooaaDoorDn
import Derived.Test.YtdnochjajoiooaaDoorHg
import Derived.ScopeJumps
import Derived.Deep.DeepCutAuto
import Derived.Deep.Cut
import Derived.Deep.CutRange
namespace Go.Proofs.YtdnochjajoiooaaDoor
open Go.RowKit
set_option linter.unusedSimpArgs false
set_option linter.unusedVariables false
theorem stp_le {l:List Nd} (h:Ahead l):∀i,stepN l i 0+1≤2*(postN l i).length:=by
 intro i
 induction i using Nat.strongRecOn with
 |_ i ih=>
  rw[stepN_eq h,postN_eq h]
  simp only[List.drop_zero,List.length_append,List.length_singleton]
  have hk:∀m:List Nat,(∀k∈m,k<i)→(m.map fun k=>1+stepN l k 0).sum≤2*(m.flatMap (postN l)).length:=by
   intro m
   induction m with
   |nil=>intro _;simp
   |cons k m ihm=>
    intro hm
    have h1:=ihm fun z hz=>hm z (List.mem_cons_of_mem _ hz)
    have h2:=ih k (hm k List.mem_cons_self)
    simp only[List.map_cons,List.sum_cons,List.flatMap_cons,List.length_append]
    omega
  have:=hk (kidsAt l i) fun k hk=>h i k hk
  omega
theorem st_len {l:List Nd} (st:List Opp):st.length≤stStep l st:=by
 induction st with
 |nil=>exact Nat.zero_le _
 |cons o st ih=>
  have:1≤stepN l o.node o.kid:=by
   show 1≤stepF l (o.node+1) o.node o.kid
   simp only[stepF];omega
  simp only[stStep,List.map_cons,List.sum_cons,List.length_cons]at ih ⊢
  omega
def opV (o:Opp):List Value:=[.int .i64 (o.node:Int),.int .i64 (o.kid:Int),.bool o.wrapped]
def opsV (st:List Opp):List Value:=st.flatMap opV
theorem opsV_snoc (st:List Opp) (o:Opp):opsV (st++[o])=opsV st++opV o:=by simp[opsV]
theorem opsV_len (st:List Opp):(opsV st).length=st.length*3:=by
 induction st with
 |nil=>rfl
 |cons o st ih=>
  have e:opsV (o::st)=opV o++opsV st:=by simp[opsV]
  rw[e,List.length_append,ih]
  simp[opV];omega
theorem opsV_top (st:List Opp) (o:Opp) (j:Nat) (hj:j<3):(opsV (st++[o]))[st.length*3+j]?=(opV o)[j]? :=by
 rw[opsV_snoc,List.getElem?_append_right (by rw[opsV_len];omega),opsV_len]
 congr 1;omega
theorem opsV_set (st:List Opp) (o:Opp) (j:Nat):(opsV (st++[o])).set (st.length*3+1) (.int .i64 (j:Int))=opsV (st++[⟨o.node,j,o.wrapped⟩]):=by
 rw[opsV_snoc,opsV_snoc,List.set_append_right _ _ (by rw[opsV_len];omega),opsV_len]
 have:st.length*3+1-st.length*3=1:=by omega
 rw[this];rfl
theorem op_cells {w:World} {B g c:Nat} {st:List Opp} {o:Opp} (h:w.ownsRow B 71 3 (.slice (some ⟨g,0,none⟩) (st.length+1) c) (st.length+1) (opsV (st++[o]))):
   w.cell? ⟨g,st.length*3,none⟩=some (.int .i64 (o.node:Int))∧w.cell? ⟨g,st.length*3+1,none⟩=some (.int .i64 (o.kid:Int))∧w.cell? ⟨g,st.length*3+2,none⟩=some (.bool o.wrapped) ∧
    w.frozen? ⟨g,st.length*3+1,none⟩=false:=
 ⟨(World.ownsRow.cellAt h (st.length*3) (by omega)).trans (opsV_top st o 0 (by omega)),(World.ownsRow.cellAt h (st.length*3+1) (by omega)).trans (opsV_top st o 1 (by omega)),
   (World.ownsRow.cellAt h (st.length*3+2) (by omega)).trans (opsV_top st o 2 (by omega)),World.ownsRow.frozenAt h _⟩
theorem op_blk {w:World} {B g c n:Nat} {xs:List Value} (h:w.ownsRow B 71 3 (.slice (some ⟨g,0,none⟩) n c) n xs):∃cs,w.heap[g]?=some (.cells cs 71 (0,0)):=by
 rcases h.2 with⟨hv,_⟩|⟨g',cap,cur,hv,_,hh,_⟩
 ·cases hv
 ·cases hv;exact⟨cur,hh⟩
theorem IsB.grown {B b:Nat} {l:List UInt8} {w w':World} {row:Option Nat} (h:IsB B b l w) (hg:w.grownBy w' row) (hr:∀k,row=some k→ ∃cs T fr,w.heap[k]?=some (Obj.cells cs T fr)∧T≠69∧T≠5):IsB B b l w':=by
 have key:∀p,BAt B b p l w→BAt B b p l w':=fun p ⟨hB,v,hbk,hown,hne⟩=>by
  have hlt:b<w.heap.size:=(Array.getElem?_eq_some_iff.1 hbk).1
  have hb1:some b≠row:=fun e=>by
   obtain⟨cs,T,fr,hh,h1,_⟩:=hr b e.symm
   rw[hbk]at hh;injection hh with hh;injection hh with _ hT;exact h1 hT.symm
  refine⟨hB,v,(hg.block b hlt hb1).trans hbk,World.ownsRow.kept hown hg ?_,hne⟩
  cases e:v.ownBlock with
  |none=>exact .inl rfl
  |some k=>
   right
   intro e2
   obtain⟨cs,T,fr,hh,_,h2⟩:=hr k e2.symm
   rcases hown.2 with⟨hv,_⟩|⟨g,cap,cur,hv,_,hh',_⟩
   ·rw[hv]at e;cases e
   ·rw[hv]at e
    have e:k=g:=by simpa[Value.ownBlock]using e.symm
    subst e;rw[hh']at hh;injection hh with hh;injection hh with _ hT;exact h2 hT.symm
 exact h.imp (key _) (key _)
theorem own_keeps {w w':World} {B g c n:Nat} {xs:List Value} (h:w.ownsRow B 71 3 (.slice (some ⟨g,0,none⟩) n c) n xs) (hk:Keeps w w'):w'.ownsRow B 71 3 (.slice (some ⟨g,0,none⟩) n c) n xs:=by
 refine⟨h.1,?_⟩
 rcases h.2 with⟨hv,_⟩|⟨g',cap,cur,hv,hb,hh,r⟩
 ·cases hv
 ·cases hv
  exact .inr ⟨g,_,cur,rfl,hb,hk _ _ _ _ hh (by decide) (by decide),r⟩
theorem infoOpn:(Tryd.prog.info? 71).map (fun i=>(i.zero,i.size,i.bytes))=some (some (.agg #[.int .i64 0,.int .i64 0,.bool false]),3,24):=by kernel_rfl
theorem row_below {w w':World} {B g c n:Nat} {e:TypeId} {size:Nat} {xs:List Value} (h:w.ownsRow B e size (.slice (some ⟨g,0,none⟩) n c) n xs) (hb:Below w.heap.size w w'):w'.ownsRow B e size (.slice (some ⟨g,0,none⟩) n c) n xs:=
 own_agree h fun k hk=>hb.block k (own_blk h k hk).2
structure PtM (w:World) (A:Option Addr) (c:Nat) (ls:List Ln) (root:Int) (pb g vc:Nat) (st:List Opp) (o:Opp) (out:List UInt8) (nb:Nat) (n:Ln) (w':World):Prop where
 row:w'.ownsRow pb 71 3 (.slice (some ⟨g,0,none⟩) (st.length+1) vc) (st.length+1) (opsV (st++[o]))
 bld:IsB pb pb out w'
 below:Below w.heap.size w w'
 box:w'.heap[w.heap.size]?=some (.cells #[.slice A ls.length c,.int .i64 root] 25 (0,0))
 nbox:w'.heap[nb]?=some (.cells #[.int .u8 n.nd.kind,.int .u64 n.nd.s0,.int .u64 n.nd.s1,.int .u64 n.nd.s2,.int .u64 n.nd.s3,.string n.nd.text,.int .i64 n.nd.mn,.int .i64 n.nd.mx,n.kv] 35 (0,0))
 pos:w.heap.size<pb∧pb<w'.heap.size
theorem PtM.size {w:World} {A:Option Addr} {c:Nat} {ls:List Ln} {root:Int} {pb g vc:Nat} {st:List Opp} {o:Opp} {out:List UInt8} {nb:Nat} {n:Ln} {w':World} (h:PtM w A c ls root pb g vc st o out nb n w'):pb≤w'.heap.size:=Nat.le_of_lt h.pos.2
theorem PtM.wrote {w:World} {A:Option Addr} {c:Nat} {ls:List Ln} {root:Int} {pb g vc:Nat} {st:List Opp} {o:Opp} {out out':List UInt8} {nb:Nat} {n:Ln} {w' w2:World} (h:PtM w A c ls root pb g vc st o out nb n w')
  (h1:IsB pb pb out' w2) (h2:Below pb w' w2) (h3:Keeps w' w2):PtM w A c ls root pb g vc st o out' nb n w2:=
 ⟨own_keeps h.row h3,h1,h.below.trans (h2.mono (Nat.le_of_lt h.pos.1)),h3 _ _ _ _ h.box (by decide) (by decide),h3 _ _ _ _ h.nbox (by decide) (by decide),h.pos.1,Nat.lt_of_lt_of_le h.pos.2 h2.size⟩
theorem PtM.stays {w:World} {A:Option Addr} {c:Nat} {ls:List Ln} {root:Int} {pb g vc:Nat} {st:List Opp} {o:Opp} {out:List UInt8} {nb:Nat} {n:Ln} {w' w2:World} (h:PtM w A c ls root pb g vc st o out nb n w')
  (hb:Below w'.heap.size w' w2):PtM w A c ls root pb g vc st o out nb n w2:=
 ⟨row_below h.row hb,h.bld.below hb,Below.step h.below hb,bx_kept hb h.box,bx_kept hb h.nbox,h.pos.1,Nat.lt_of_lt_of_le h.pos.2 hb.size⟩
theorem drawn_below {B:Nat} {w w':World} (h:Below B w w') (n:Nat):Below B w (w'.drewN n):=⟨h.1,h.2,h.3,h.4,fun k hk=>h.5 k hk⟩
theorem cells_ne {w:World} {k g:Nat} {cs ds:Array Value} {T U:TypeId} {fr gr:Nat×Nat} (h:w.heap[k]?=some (.cells cs T fr)) (h2:w.heap[g]?=some (.cells ds U gr)) (hne:T≠U):k≠g:=fun e=>by
 subst e;rw[h]at h2;injection h2 with h2;injection h2 with _ hT;exact hne hT
theorem PtM.kid {w:World} {A:Option Addr} {c:Nat} {ls:List Ln} {root:Int} {pb g vc:Nat} {st:List Opp} {i j:Nat} {wrp:Bool} {out:List UInt8} {nb:Nat} {n:Ln} {w':World} (h:PtM w A c ls root pb g vc st ⟨i,j,wrp⟩ out nb n w') (j':Nat):
  PtM w A c ls root pb g vc st ⟨i,j',wrp⟩ out nb n (w'.setCell ⟨g,st.length*3+1,none⟩ (.int .i64 (j':Int))):=by
 have hs:=World.ownsRow.stored h.row (st.length*3+1) (.int .i64 (j':Int))
 obtain⟨cs,hcs⟩:=op_blk h.row
 have hg:=(own_blk h.row g rfl).1
 refine⟨?_,h.bld.grown hs.2 (fun k e=> ?_),?_,?_,?_,h.pos.1,by have:=h.pos.2;simpa using this⟩
 ·have:=hs.1
  rw[opsV_set st ⟨i,j,wrp⟩ j']at this
  exact this
 ·cases e;exact⟨cs,_,_,hcs,by decide,by decide⟩
 ·exact h.below.setCell (p:=⟨g,st.length*3+1,none⟩) (Nat.le_trans (Nat.le_of_lt h.pos.1) hg) _
 ·exact(Below.heap_setCell _ _ _ _ (cells_ne h.box hcs (by decide))).trans h.box
 ·exact(Below.heap_setCell _ _ _ _ (cells_ne h.nbox hcs (by decide))).trans h.nbox
theorem PtM.push {w:World} {A:Option Addr} {c:Nat} {ls:List Ln} {root:Int} {pb g vc:Nat} {st:List Opp} {o x:Opp} {out:List UInt8} {nb:Nat} {n:Ln} {w' w2:World} {V:Option Addr} {vc':Nat} (h:PtM w A c ls root pb g vc st o out nb n w')
  (hr:w2.ownsRow pb 71 3 (.slice V (st.length+1+1) vc') (st.length+1+1) (opsV (st++[o])++opV x)) (hg:w'.grownBy w2 (some g)):
  ∃g',V=some ⟨g',0,none⟩∧w2.ownsRow pb 71 3 (.slice (some ⟨g',0,none⟩) ((st++[o]).length+1) vc') ((st++[o]).length+1) (opsV (st++[o]++[x]))∧IsB pb pb out w2∧Below w.heap.size w w2 ∧
   w2.heap[w.heap.size]?=some (.cells #[.slice A ls.length c,.int .i64 root] 25 (0,0))∧pb<w2.heap.size:=by
 obtain⟨g',rfl,_,_⟩:=own_some hr (by omega)
 obtain⟨cs,hcs⟩:=op_blk h.row
 have hgb:=(own_blk h.row g rfl).1
 refine⟨g',rfl,?_,h.bld.grown hg (fun k e=> ?_),?_,?_,Nat.lt_of_lt_of_le h.pos.2 hg.size⟩
 ·rw[←opsV_snoc]at hr
  rw[List.length_append,List.length_singleton]
  exact hr
 ·cases e;exact⟨cs,_,_,hcs,by decide,by decide⟩
 ·exact h.below.grown hg h.below.size (fun k e=>by cases e;exact Nat.le_trans (Nat.le_of_lt h.pos.1) hgb)
 ·exact(hg.block _ (Array.getElem?_eq_some_iff.1 h.box).1 (fun e=>cells_ne h.box hcs (by decide) (by cases e;rfl))).trans h.box
theorem PtM.pop {w:World} {A:Option Addr} {c:Nat} {ls:List Ln} {root:Int} {pb g vc:Nat} {st:List Opp} {o:Opp} {out:List UInt8} {nb:Nat} {n:Ln} {w':World} (h:PtM w A c ls root pb g vc st o out nb n w'):
  w'.ownsRow pb 71 3 (.slice (some ⟨g,0,none⟩) st.length vc) st.length (opsV st):=by
 have:=own_cut h.row (m:=st.length) (by omega)
 rw[opsV_snoc,List.take_left' (by rw[opsV_len])]at this
 exact this
theorem pt_push_plain {l:List Nd} (h:Ahead l) (st:List Opp) (i j:Nat) (w:Bool) (z:Nat) (hz:∃h:j<(kidsAt l i).length,(kidsAt l i)[j]=z) {out T:List UInt8} (e:out++stRest l (st++[⟨i,j,w⟩])=T) {n:Nat} (hn:n=stStep l (st++[⟨i,j,w⟩])) {nd:Nd} (hnd:ndAt l i=nd) {kz:Int} (hkz:(ndAt l z).kind=kz):
  (out++((if j=0 then(if w then[40]else[])++aheadB nd else[])++(if 0<j then betweenB nd else[])))++stRest l (st++[⟨i,j+1,w⟩]++[⟨z,0,wrapsK nd.kind kz⟩])=T∧n=1+stStep l (st++[⟨i,j+1,w⟩]++[⟨z,0,wrapsK nd.kind kz⟩]):=by
 subst hnd;subst hkz
 obtain⟨hj,rfl⟩:=hz
 obtain⟨h1,h2⟩:=st_push h st i j w hj
 rw[h1]at e
 refine⟨?_,by rw[hn,h2]⟩
 rw[←e];simp only[List.append_assoc]
theorem pt_pop_plain {l:List Nd} (h:Ahead l) (st:List Opp) (i j:Nat) (w:Bool) (hj:(kidsAt l i).length≤j) {out T:List UInt8} (e:out++stRest l (st++[⟨i,j,w⟩])=T) {n:Nat} (hn:n=stStep l (st++[⟨i,j,w⟩])) {nd:Nd} (hnd:ndAt l i=nd):
  (out++((if j=0 then(if w then[40]else[])++aheadB nd else[])++behindB nd++(if w then[41]else[])))++stRest l st=T∧n=1+stStep l st:=by
 subst hnd
 obtain⟨h1,h2⟩:=st_pop h st i j w hj
 rw[h1]at e
 refine⟨?_,by rw[hn,h2]⟩
 rw[←e];simp only[List.append_assoc]
def OffB (g:Nat) (w w':World):Prop:=∀k,k<w.heap.size→k≠g→w'.heap[k]?=w.heap[k]?
theorem OffB.of {g:Nat} {w w':World} (h:Below w.heap.size w w'):OffB g w w':=fun k hk _=>h.block k hk
theorem OffB.refl (g:Nat) (w:World):OffB g w w:=fun _ _ _=>rfl
theorem OffB.drew (g:Nat) (w:World):OffB g w w.drew:=fun _ _ _=>rfl
theorem OffB.alloc1 (g:Nat) (w:World) (o:Obj):OffB g w (w.alloc o):=fun k hk _=>Below.heap_alloc w o k hk
theorem OffB.allocd (g:Nat) (w:World) (o:Obj):OffB g w (w.alloc o).drew:=fun k hk _=>Below.heap_alloc w o k hk
theorem OffB.cell {g:Nat} {w w':World} (h:OffB g w w') {a:Addr} {v:Value} (hc:w.cell? a=some v) (hne:a.block≠g):w'.cell? a=some v:=(World.cell?_of_block (h a.block (cellLt hc) hne)).trans hc
theorem OffB.grown {g:Nat} {w w2:World} {o:Obj} (h:((w.alloc o).drew).grownBy w2 (some g)):OffB g w w2:=fun k hk hne=>(h.block k (by show k<(w.alloc o).heap.size;simp;omega) (fun e=>hne (by cases e;rfl))).trans (Below.heap_alloc w o k hk)
theorem grown_drew_alloc {w w2:World} {o:Obj} {row:Option Nat} (h:((w.alloc o).drew).grownBy w2 row):w.grownBy w2 row:=
 ⟨h.os,h.tape,h.output,Nat.le_trans (by show w.heap.size≤(w.alloc o).heap.size;simp) h.size,fun k hk hne=>(h.block k (by show k<(w.alloc o).heap.size;simp;omega) hne).trans (Below.heap_alloc w o k hk)⟩
end Go.Proofs.YtdnochjajoiooaaDoor
/- The contract of print.Tree. -/
namespace Go.Proofs.YtdnochjajoiooaaDoor
open Go.RowKit
set_option linter.unusedSimpArgs false
set_option linter.unusedVariables false
theorem pt_slots (v0 v1 v2 v3 v4 v5 v6 v7 v8 v9 v10 v11 v12 v13 v14 v15 v16 v17 v18 v19 v20 v21 v22 v23 v24 v25 v26 v27 v28 v29 v30 v31 v32 v33 v34 v35 v36 v37 v38 v39 v40 v41 v42 v43 v44 v45 v46 v47 v48 v49 v50 v51 v52 v53 v54 v55 v56 v57 v58 v59 v60 v61 v62 v63 v64 v65 v66 v67 v68 v69 v70 v71 v72 v73 v74 v75 v76 v77 v78 v79 v80 v81 v82 v83 v84 v85 v86 v87 v88 v89 v90 v91 v92 v93 v94 v95 v96 v97 v98 v99 v100 v101 v102 v103 v104 v105:Value):∃u:Nat→Value,({tmps:= #[v0,v1,v2,v3,v4,v5,v6,v7,v8,v9,v10,v11,v12,v13,v14,v15,v16,v17,v18,v19,v20,v21,v22,v23,v24,v25,v26,v27,v28,v29,v30,v31,v32,v33,v34,v35,v36,v37,v38,v39,v40,v41,v42,v43,v44,v45,v46,v47,v48,v49,v50,v51,v52,v53,v54,v55,v56,v57,v58,v59,v60,v61,v62,v63,v64,v65,v66,v67,v68,v69,v70,v71,v72,v73,v74,v75,v76,v77,v78,v79,v80,v81,v82,v83,v84,v85,v86,v87,v88,v89,v90,v91,v92,v93,v94,v95,v96,v97,v98,v99,v100,v101,v102,v103,v104,v105],defers:=[]}:Act)={tmps:= #[v0,v1,v2,v3,v4,u 5,u 6,u 7,u 8,u 9,u 10,u 11,u 12,u 13,u 14,u 15,u 16,u 17,u 18,u 19,u 20,u 21,u 22,u 23,u 24,u 25,u 26,u 27,u 28,u 29,u 30,u 31,u 32,u 33,u 34,u 35,u 36,u 37,u 38,u 39,u 40,u 41,u 42,u 43,u 44,u 45,u 46,u 47,u 48,u 49,u 50,u 51,u 52,u 53,u 54,u 55,u 56,u 57,u 58,u 59,u 60,u 61,u 62,u 63,u 64,u 65,u 66,u 67,u 68,u 69,u 70,u 71,u 72,u 73,u 74,u 75,u 76,u 77,u 78,u 79,u 80,u 81,u 82,u 83,u 84,u 85,u 86,u 87,u 88,u 89,u 90,u 91,u 92,u 93,u 94,u 95,u 96,u 97,u 98,u 99,u 100,u 101,u 102,u 103,u 104,u 105],defers:=[]}:=
 ⟨fun k=>[v0,v1,v2,v3,v4,v5,v6,v7,v8,v9,v10,v11,v12,v13,v14,v15,v16,v17,v18,v19,v20,v21,v22,v23,v24,v25,v26,v27,v28,v29,v30,v31,v32,v33,v34,v35,v36,v37,v38,v39,v40,v41,v42,v43,v44,v45,v46,v47,v48,v49,v50,v51,v52,v53,v54,v55,v56,v57,v58,v59,v60,v61,v62,v63,v64,v65,v66,v67,v68,v69,v70,v71,v72,v73,v74,v75,v76,v77,v78,v79,v80,v81,v82,v83,v84,v85,v86,v87,v88,v89,v90,v91,v92,v93,v94,v95,v96,v97,v98,v99,v100,v101,v102,v103,v104,v105].getD k undef,rfl⟩
structure PtW (w:World) (A:Option Addr) (c:Nat) (ls:List Ln) (root:Int) (pb g vc:Nat) (st:List Opp) (o:Opp) (out:List UInt8) (n:Nat) (w':World):Prop where
 row:w'.ownsRow pb 71 3 (.slice (some ⟨g,0,none⟩) (st.length+1) vc) (st.length+1) (opsV (st++[o]))
 bld:IsB pb pb out w'
 below:Below w.heap.size w w'
 box:w'.heap[w.heap.size]?=some (.cells #[.slice A ls.length c,.int .i64 root] 25 (0,0))
 pos:w.heap.size<pb∧pb<w'.heap.size
 text:out++stRest (ls.map Ln.nd) (st++[o])=treeB ⟨ls.map Ln.nd,root⟩
 num:n=stStep (ls.map Ln.nd) (st++[o])
 le:n≤2*ls.length
 right:rightT ⟨ls.map Ln.nd,root⟩=true
 ops:∀x∈st++[o],x.node<ls.length∧x.kid≤(kidsAt (ls.map Ln.nd) x.node).length
def PtJ (w:World) (A:Option Addr) (c:Nat) (ls:List Ln) (root:Int) (n:Nat) (a':Act) (w':World):Prop:=
 ∃(pb g vc m:Nat) (st:List Opp) (o:Opp) (out:List UInt8),Hid (m=st.length+1)∧Hid (PtW w A c ls root pb g vc st o out n w') ∧
  ∃u:Nat→Value,a'={tmps:= #[.agg #[.slice A ls.length c,.int .i64 root],.pointer (some ⟨w.heap.size,0,none⟩),.string ⟨#[]⟩,.pointer (some ⟨pb,0,none⟩),.slice (some ⟨g,0,none⟩) m vc,u 5,u 6,u 7,u 8,u 9,u 10,u 11,u 12,u 13,u 14,u 15,u 16,u 17,u 18,u 19,u 20,u 21,u 22,u 23,u 24,u 25,u 26,u 27,u 28,u 29,u 30,u 31,u 32,u 33,u 34,u 35,u 36,u 37,u 38,u 39,u 40,u 41,u 42,u 43,u 44,u 45,u 46,u 47,u 48,u 49,u 50,u 51,u 52,u 53,u 54,u 55,u 56,u 57,u 58,u 59,u 60,u 61,u 62,u 63,u 64,u 65,u 66,u 67,u 68,u 69,u 70,u 71,u 72,u 73,u 74,u 75,u 76,u 77,u 78,u 79,u 80,u 81,u 82,u 83,u 84,u 85,u 86,u 87,u 88,u 89,u 90,u 91,u 92,u 93,u 94,u 95,u 96,u 97,u 98,u 99,u 100,u 101,u 102,u 103,u 104,u 105],defers:=[]}
theorem fit_text {n:Nd} {k:Int} (h:fitN n k=true):n.text.size≤255∧0≤n.kind∧n.kind≤9:=by
 unfold fitN at h
 repeat' split at h
 all_goals first
  |(simp only[Bool.and_eq_true,noText,mayL,decide_eq_true_eq]at h;have e:n.text.data.toList.length=n.text.size:=rfl;omega)
  |cases h
theorem between_at {n:Nd} (h:0≤n.kind∧n.kind≤9) (kd:Nat) (hk:n.kind=(kd:Int)):sgL[kd*3+1]?=some (betweenB n):=by
 unfold betweenB
 rw[hk]
 rw[hk]at h
 obtain rfl|rfl|rfl|rfl|rfl|rfl|rfl|rfl|rfl|rfl:kd=0∨kd=1∨kd=2∨kd=3∨kd=4∨kd=5∨kd=6∨kd=7∨kd=8∨kd=9:=by omega
 all_goals rfl
theorem between_len (n:Nd):(betweenB n).length≤3:=by
 unfold betweenB;split
 ·simp
 ·split <;> simp
set_option maxRecDepth 100000 in
set_option maxHeartbeats 3200000 in
theorem ptree_any (A:Option Addr) (c:Nat) (ls:List Ln) (root:Int) (S:Nat→Prop) (w:World) (hT:ndL.row w S A ls) (hl:ls.length≤1000000) (hn:CntTab w) (hs:SgTab w) (hd:DbTab w) (hc:CoTab w) (ht:Tab w) (hg:4<w.heap.size):
  Calls Tryd.prog 11 #[.agg #[.slice A ls.length c,.int .i64 root]] w (TextPost (treeB ⟨ls.map Ln.nd,root⟩) w):=by
 unfold TextPost
 have HT:=Lib.hid hT;have HN:=Lib.hid hn
 have HTS:=Lib.hid (show ∀w',Below w.heap.size w w'→SgTab w'∧DbTab w'∧CoTab w'∧Tab w'∧CntTab w' from fun w' hb=>⟨hs.below hb,hd.below hb,hc.below hb,by unfold Tab Lib.TabIs at *;exact var_below hb (by kernel_rfl) hg ht,hn.below hb⟩)
 clear hT hn hs hd hc ht
 go_enter Tryd.func11,Tryd.ntmps11
 have HB0:=Lib.hid (bx1 w (.cells #[.slice A ls.length c,.int .i64 root] 25))
 have HK0:=Lib.hid (bx_new w (.cells #[.slice A ls.length c,.int .i64 root] 25))
 go_wp2_with fail
 refine scope_rounds 0 (PtJ w A c ls root) rfl ?pass ?first
 case first=>
  intro HF
  go_wp2_with fail
  refine(right_any A c ls root S _ (HT.out.below HB0.out) (by omega) (HTS.out _ HB0.out).2.2.2.2).mono ?_
  rintro e w1 ⟨rfl,hb1⟩
  have HB1:=Lib.hid (Below.step HB0.out hb1);have HK1:=Lib.hid (bx_kept hb1 HK0.out)
  clear hb1
  obtain⟨k0,k1,_,_⟩:=blk2 HK1.out
  cases hr:rightT ⟨ls.map Ln.nd,root⟩
  ·go_wp2_with fail
   simp only[Exit.jump]
   go_ret
   exact⟨by unfold treeB;rw[if_neg (by simp[hr])];rfl,HB1.out⟩
  ·have HR:=Lib.hid ((rightT_iff _).1 hr)
   have HRT:=Lib.hid hr;clear hr
   have hroot:=HR.out.1
   simp only[List.length_map]at hroot
   obtain⟨ro,hro⟩:=Int.eq_ofNat_of_zero_le hroot.1
   have HRO:=Lib.hid (And.intro hro hroot);clear hro hroot
   have hlt:=(Array.getElem?_eq_some_iff.1 HK1.out).1
   go_wp2_with fail
   have HX:=Lib.hid (show PtW w A c ls root w1.heap.size (w1.heap.size+1) 1 [] ⟨ro,0,false⟩ [] (stStep (ls.map Ln.nd) ([]++[⟨ro,0,false⟩])) ((w1.alloc (.cells #[.pointer none,.slice none 0 0] 69)).alloc (.cells #[.int .i64 root,.int .i64 0,.bool false] 71))from by
    have hb:=bx2 w1 (.cells #[.pointer none,.slice none 0 0] 69) (.cells #[.int .i64 root,.int .i64 0,.bool false] 71)
    have hrl:ro<ls.length:=by have:=HRO.out;omega
    have hroot:root.toNat=ro:=by have:=HRO.out;omega
    refine⟨?_,?_,Below.step HB1.out hb,bx_kept hb HK1.out,⟨hlt,by simp;omega⟩,?_,rfl,?_,HRT.out,fun x hx=> ?_⟩
    ·have h:=World.ownsRow_lit (base:=w1.heap.size) (w1.alloc (.cells #[.pointer none,.slice none 0 0] 69)) #[.int .i64 root,.int .i64 0,.bool false] 1 (e:=71) (size:=3) (by simp) (by unfold maxLen;omega) rfl
     rw[World.size_alloc]at h
     rw[HRO.out.1]at h ⊢
     exact h
    ·exact(IsB.new w1 (Nat.le_refl _)).below (bx1 _ _)
    ·simp only[List.nil_append,stRest,List.reverse_singleton,List.flatMap_cons,List.flatMap_nil,List.append_nil,opRest]
     unfold treeB
     rw[if_pos HRT.out,hroot]
    ·have h1:=stp_le (rightP_ahead HR.out) ro
     have h2:=post_length HR.out ro (by simpa using hrl)
     simp only[List.length_map]at h2
     simp only[stStep,List.nil_append,List.map_cons,List.map_nil,List.sum_cons,List.sum_nil]
     simp only at h1
     omega
    ·simp only[List.nil_append,List.mem_singleton]at hx
     subst hx
     exact⟨hrl,Nat.zero_le _⟩)
   go_step3
   rename_i Kx hKx
   exact hKx _ _ (HF _ _ _ ⟨w1.heap.size,w1.heap.size+1,1,1,[],⟨ro,0,false⟩,[],Lib.hid rfl,HX,pt_slots _ _ _ _ _ _ _ _ _ _ _ _ _ _ _ _ _ _ _ _ _ _ _ _ _ _ _ _ _ _ _ _ _ _ _ _ _ _ _ _ _ _ _ _ _ _ _ _ _ _ _ _ _ _ _ _ _ _ _ _ _ _ _ _ _ _ _ _ _ _ _ _ _ _ _ _ _ _ _ _ _ _ _ _ _ _ _ _ _ _ _ _ _ _ _ _ _ _ _ _ _ _ _ _ _ _⟩)
 case pass=>
  rintro n a' wr ⟨pb,g,vc,m,st,o,out,HMM,HW,u,rfl⟩
  obtain rfl:m=st.length+1:=HMM.out
  clear HMM
  clear HB0 HK0
  obtain⟨i,j,wrp⟩:=o
  have HR:=Lib.hid ((rightT_iff _).1 HW.out.right)
  have HI:=Lib.hid (HW.out.ops ⟨i,j,wrp⟩ (by simp))
  have hil:i<ls.length:=HI.out.1
  have HT':=Lib.hid (HT.out.agree (below_all HW.out.below))
  obtain⟨o0,o1,o2,o3⟩:=op_cells HW.out.row
  simp only at o0 o1 o2
  obtain⟨q0,q1,_,_⟩:=blk2 HW.out.box
  obtain⟨b,off,hA,_,_,x0,x1,x2,x3,x4,x5,x6,x7,x8⟩:=ndRow HT'.out i hil
  have hbl:b<w.heap.size:=ndBlk (hA▸HT.out) (by omega)
  subst hA
  have hsl:st.length≤2*ls.length:=by
   have h1:=HW.out.num;have h2:=HW.out.le;have h3:=st_len (l:=ls.map Ln.nd) (st++[⟨i,j,wrp⟩])
   simp only[List.length_append,List.length_singleton]at h3;omega
  have e1:IntKind.i64.wrap ((st.length:Int)+1-1)=(st.length:Int):=by rw[IntWalk.i64_in _ (by omega)];omega
  have i1:(st.length:Int)<(st.length:Int)+1:=by omega
  have i2:(0:Int)≤(st.length:Int):=by omega
  have i3:(i:Int)<(ls.length:Int):=by omega
  have i4:(0:Int)≤(i:Int):=by omega
  have HGT:=Lib.hid (ndWf HT'.out i hil)
  have HFT:=Lib.hid (fit_text (rightP_fit HR.out (i:=i) (n:=ls[i].nd) (by simp[hil])))
  have HKD:=Lib.hid (show ∀w',Below w.heap.size w w'→intL.row w' S ls[i].A ls[i].nd.kids from fun w' hb=>ndSub (HT.out.agree (below_all hb)) i hil)
  have HKP:=Lib.hid (show ∀k∈ls[i].nd.kids,0≤k∧k<(i:Int)from fun k hk=>rightP_kid HR.out (i:=i) (n:=ls[i].nd) (by simp[hil]) hk)
  have HKL:=Lib.hid (show ls[i].nd.kids.length≤i from right_kids_len HR.out (i:=i) (n:=ls[i].nd) (by simp[hil]))
  have HKM:=Lib.hid (show kidsAt (ls.map Ln.nd) i=ls[i].nd.kids.map Int.toNat by simp[kidsAt,hil])
  have HNA:=Lib.hid (show ndAt (ls.map Ln.nd) i=ls[i].nd by simp[ndAt,hil])
  generalize ls[i]=ln at *
  have HST:=Lib.hid (show ∀w',Below wr.heap.size wr w'→w'.cell? ⟨w.heap.size,0,none⟩=some (.slice (some ⟨b,off,none⟩) ls.length c)∧w'.cell? ⟨g,st.length*3,none⟩=some (.int .i64 (i:Int))∧w'.cell? ⟨b,off+i*9,none⟩=some (.int .u8 ln.nd.kind)∧w'.cell? ⟨b,off+i*9+1,none⟩=some (.int .u64 ln.nd.s0)∧w'.cell? ⟨b,off+i*9+2,none⟩=some (.int .u64 ln.nd.s1)∧w'.cell? ⟨b,off+i*9+3,none⟩=some (.int .u64 ln.nd.s2)∧w'.cell? ⟨b,off+i*9+4,none⟩=some (.int .u64 ln.nd.s3)∧w'.cell? ⟨b,off+i*9+5,none⟩=some (.string ln.nd.text)∧w'.cell? ⟨b,off+i*9+6,none⟩=some (.int .i64 ln.nd.mn)∧w'.cell? ⟨b,off+i*9+7,none⟩=some (.int .i64 ln.nd.mx)∧w'.cell? ⟨b,off+i*9+8,none⟩=some (.slice ln.A ln.nd.kids.length ln.c)from fun w' hb=>
   ⟨(hb.cell (cellLt q0)).trans q0,(hb.cell (cellLt o0)).trans o0,(hb.cell (cellLt x0)).trans x0,(hb.cell (cellLt x1)).trans x1,(hb.cell (cellLt x2)).trans x2,(hb.cell (cellLt x3)).trans x3,(hb.cell (cellLt x4)).trans x4,(hb.cell (cellLt x5)).trans x5,(hb.cell (cellLt x6)).trans x6,(hb.cell (cellLt x7)).trans x7,(hb.cell (cellLt x8)).trans x8⟩)
  clear q0 q1 o0 o1 o2 o3 x0 x1 x2 x3 x4 x5 x6 x7 x8
  go_upto_region 6 with(fail)
  go_region_held3 (fun w'=>w'.cell? ⟨w.heap.size,0,none⟩=some (.slice (some ⟨b,off,none⟩) ls.length c)∧w'.cell? ⟨g,st.length*3,none⟩=some (.int .i64 (i:Int))∧w'.cell? ⟨b,off+i*9,none⟩=some (.int .u8 ln.nd.kind)∧w'.cell? ⟨b,off+i*9+1,none⟩=some (.int .u64 ln.nd.s0)∧w'.cell? ⟨b,off+i*9+2,none⟩=some (.int .u64 ln.nd.s1)∧w'.cell? ⟨b,off+i*9+3,none⟩=some (.int .u64 ln.nd.s2)∧w'.cell? ⟨b,off+i*9+4,none⟩=some (.int .u64 ln.nd.s3)∧w'.cell? ⟨b,off+i*9+5,none⟩=some (.string ln.nd.text)∧w'.cell? ⟨b,off+i*9+6,none⟩=some (.int .i64 ln.nd.mn)∧w'.cell? ⟨b,off+i*9+7,none⟩=some (.int .i64 ln.nd.mx)∧w'.cell? ⟨b,off+i*9+8,none⟩=some (.slice ln.A ln.nd.kids.length ln.c))
   (exact HST.out _ (by repeat (first|exact Below.refl _ _|refine Below.drew ?_|refine Below.alloc ?_ (by simp) _|(refine Below.setCell ?_ (by simp) _))))
   (fail)
  rename_i hHeld;clear hHeld HST
  have HM0:=Lib.hid (show PtM w (some ⟨b,off,none⟩) c ls root pb g vc st ⟨i,j,wrp⟩ out wr.heap.size ln (wr.alloc (.cells #[.int .u8 ln.nd.kind,.int .u64 ln.nd.s0,.int .u64 ln.nd.s1,.int .u64 ln.nd.s2,.int .u64 ln.nd.s3,.string ln.nd.text,.int .i64 ln.nd.mn,.int .i64 ln.nd.mx,.slice ln.A ln.nd.kids.length ln.c] 35)).drew from by
   have hb:Below wr.heap.size wr (wr.alloc (.cells #[.int .u8 ln.nd.kind,.int .u64 ln.nd.s0,.int .u64 ln.nd.s1,.int .u64 ln.nd.s2,.int .u64 ln.nd.s3,.string ln.nd.text,.int .i64 ln.nd.mn,.int .i64 ln.nd.mx,.slice ln.A ln.nd.kids.length ln.c] 35)).drew:=(bx1 wr _).drew
   exact⟨row_below HW.out.row hb,HW.out.bld.below hb,Below.step HW.out.below hb,bx_kept hb HW.out.box,bx_new wr _,HW.out.pos.1,Nat.lt_of_lt_of_le HW.out.pos.2 hb.size⟩)
  have HLE:=Lib.hid (show out.length+(stRest (ls.map Ln.nd) (st++[⟨i,j,wrp⟩])).length≤2400000000 from by
   have h1:=congrArg List.length HW.out.text
   have h2:=treeB_len ⟨ls.map Ln.nd,root⟩
   rw[List.length_append]at h1
   rw[List.length_map]at h2
   omega)
  have HKN:=Lib.hid (show(kidsAt (ls.map Ln.nd) i).length=ln.nd.kids.length by rw[kids_length,HNA.out])
  have hjk:j≤ln.nd.kids.length:=by have:=HI.out.2;have h2:=HKN.out;simp only at this;omega
  have HAH:=Lib.hid (rightP_ahead HR.out)
  have HTL:=Lib.hid (show(j=0→((if wrp then[40]else[])++aheadB ln.nd).length+out.length≤2400000000)from fun hj=>by
   have h1:=HLE.out
   rw[stRest_snoc]at h1
   simp only[opRest]at h1
   rw[restN_eq HAH.out,HNA.out,if_pos hj]at h1
   simp only[List.length_append]at h1 ⊢
   omega)
  generalize (wr.alloc (.cells #[.int .u8 ln.nd.kind,.int .u64 ln.nd.s0,.int .u64 ln.nd.s1,.int .u64 ln.nd.s2,.int .u64 ln.nd.s3,.string ln.nd.text,.int .i64 ln.nd.mn,.int .i64 ln.nd.mx,.slice ln.A ln.nd.kids.length ln.c] 35)).drew=W1 at *
  generalize wr.heap.size=nb at *
  obtain⟨o0,o1,o2,o3⟩:=op_cells HM0.out.row
  simp only at o0 o1 o2
  go_upto_if 32 with(fail)
  clear o0 o1 o2 o3
  go_cut []from 32 to 40 (fun wx=>Hid (PtM w (some ⟨b,off,none⟩) c ls root pb g vc st ⟨i,j,wrp⟩ (out++if j=0 then(if wrp then[40]else[])++aheadB ln.nd else[]) nb ln wx))
  case first=>
   by_cases hj0:j=0
   ·subst hj0
    obtain⟨o0,o1,o2,o3⟩:=op_cells HM0.out.row
    simp only at o0 o1 o2
    have HLB:=Lib.hid (show out.length+1+(⟨(aheadB ln.nd).toArray⟩:ByteArray).size≤2400000001 from by
     have h1:=HTL.out rfl
     have h2:(⟨(aheadB ln.nd).toArray⟩:ByteArray).size=(aheadB ln.nd).length:=rfl
     simp only[List.length_append]at h1
     omega)
    cases wrp
    ·have HM2:=HM0
     obtain⟨y0,y1,y2,y3,y4,y5,y6,y7,y8,_⟩:=blk9 HM2.out.nbox
     go_wp2_with (first
      |(go_at_call 35;(refine(pahead_any ln.nd ln.kv _ HFT.out.2 ⟨HGT.out.2.2.2.1,HGT.out.2.2.2.2.1,HGT.out.2.2.2.2.2.1,HGT.out.2.2.2.2.2.2⟩ (by have:=HFT.out.1;omega) (HTS.out _ HM2.out.below).1 (HTS.out _ HM2.out.below).2.1).mono ?_);rintro e w3 ⟨rfl,hb⟩;have HM3:=Lib.hid (HM2.out.stays hb);clear hb)
      |(go_at_call 34;(refine(write_any pb pb _ ⟨(aheadB ln.nd).toArray⟩ _ HM3.out.bld (by have:=HLB.out;omega) HM3.out.size).mono ?_);rintro e w4 ⟨rfl,h1,h2,h3⟩;have HM4:=Lib.hid (HM3.out.wrote h1 h2 h3);clear h1 h2 h3))
     go_meet
     case rel=>exact Lib.hid (by simpa using HM4.out)
    ·go_wp2_with (first
      |(go_at_call 33;(refine(wbyte_at pb pb _ 40 _ (by rfl) _ HM0.out.bld (by have:=HLB.out;omega) HM0.out.size).mono ?_);rintro e w2 ⟨rfl,h1,h2,h3⟩;have HM2:=Lib.hid (HM0.out.wrote h1 h2 h3);clear h1 h2 h3;obtain⟨y0,y1,y2,y3,y4,y5,y6,y7,y8,_⟩:=blk9 HM2.out.nbox)
      |(go_at_call 35;(refine(pahead_any ln.nd ln.kv _ HFT.out.2 ⟨HGT.out.2.2.2.1,HGT.out.2.2.2.2.1,HGT.out.2.2.2.2.2.1,HGT.out.2.2.2.2.2.2⟩ (by have:=HFT.out.1;omega) (HTS.out _ HM2.out.below).1 (HTS.out _ HM2.out.below).2.1).mono ?_);rintro e w3 ⟨rfl,hb⟩;have HM3:=Lib.hid (HM2.out.stays hb);clear hb)
      |(go_at_call 34;(refine(write_any pb pb _ ⟨(aheadB ln.nd).toArray⟩ _ HM3.out.bld (by have:=HLB.out;rw[List.length_append,List.length_singleton];omega) HM3.out.size).mono ?_);rintro e w4 ⟨rfl,h1,h2,h3⟩;have HM4:=Lib.hid (HM3.out.wrote h1 h2 h3);clear h1 h2 h3))
     go_meet
     case rel=>exact Lib.hid (by simpa using HM4.out)
   ·have hj1:((j:Int)==0)=false:=by simp;omega
    go_wp2_with fail
    go_meet
    case rel=>exact Lib.hid (by rw[if_neg hj0,List.append_nil];exact HM0.out)
  case rest=>
   have HM1:=hcut
   have HLO:=Lib.hid (show(out++if j=0 then(if wrp then[40]else[])++aheadB ln.nd else[]).length≤2400000000 from by
    by_cases h:j=0
    ·have:=HTL.out h;rw[if_pos h,List.length_append];omega
    ·have:=HLE.out;rw[if_neg h,List.append_nil];omega)
   generalize hO1:(out++if j=0 then(if wrp then[40]else[])++aheadB ln.nd else[])=out1 at *
   have HO1:=Lib.hid hO1
   clear hO1 hcut HM0 HTL
   obtain⟨o0,o1,o2,o3⟩:=op_cells HM1.out.row
   simp only at o0 o1 o2
   obtain⟨y0,y1,y2,y3,y4,y5,y6,y7,y8,_⟩:=blk9 HM1.out.nbox
   obtain⟨kd,hkd⟩:∃kd:Nat,ln.nd.kind=(kd:Int):=⟨ln.nd.kind.toNat,by have:=HFT.out.2;omega⟩
   have HSG:=Lib.hid ((HTS.out _ HM1.out.below).1 (kd*3+1) _ (between_at HFT.out.2 kd hkd))
   have k1:(kd:Int)<10:=by have:=HFT.out.2;omega
   have k2:(0:Int)≤(kd:Int):=by omega
   rw[hkd]at y0
   have HKD2:=Lib.hid hkd;clear hkd
   by_cases hjl:j<ln.nd.kids.length
   ·have j1:(j:Int)<(ln.nd.kids.length:Int):=by omega
    go_upto_region 11 with(fail)
    go_quiet (fail)
    go_upto_if 53 with(fail)
    have HM2:=Lib.hid (HM1.out.stays (drawn_below (Below.refl _ wc) nq))
    have HSG2:=Lib.hid (show(wc.drewN nq).cell? ⟨0,kd*3+1,none⟩=some (.string ⟨(betweenB ln.nd).toArray⟩)from HSG.out)
    generalize wc.drewN nq=w2 at *
    clear o0 o1 o2 o3 y0 y1 y2 y3 y4 y5 y6 y7 y8
    go_cut []from 53 to 59 (fun wx=>Hid (PtM w (some ⟨b,off,none⟩) c ls root pb g vc st ⟨i,j,wrp⟩ (out1++if 0<j then betweenB ln.nd else[]) nb ln wx))
    case first=>
     by_cases hj0:0<j
     ·have hj1:(0:Int)<(j:Int):=by omega
      obtain⟨y0,_⟩:=blk9 HM2.out.nbox
      rw[HKD2.out]at y0
      have sg:=HSG2.out
      go_wp2_with (first
       |(go_at_call 34;(refine(write_any pb pb _ ⟨(betweenB ln.nd).toArray⟩ _ HM2.out.bld (by have:=HLO.out;have h2:(⟨(betweenB ln.nd).toArray⟩:ByteArray).size≤3:=between_len ln.nd;omega) HM2.out.size).mono ?_);rintro e w4 ⟨rfl,h1,h2,h3⟩;have HM4:=Lib.hid (HM2.out.wrote h1 h2 h3);clear h1 h2 h3))
      go_meet
      case rel=>exact Lib.hid (by rw[if_pos hj0];exact HM4.out)
     ·have hj1:¬(0:Int)<(j:Int):=by omega
      go_wp2_with fail
      go_meet
      case rel=>exact Lib.hid (by rw[if_neg hj0,List.append_nil];exact HM2.out)
    case rest=>
     clear HM1 HM2 HSG HSG2
     have HM3:=hcut
     have HO2:=Lib.hid (show out1++(if 0<j then betweenB ln.nd else[])=out++((if j=0 then(if wrp then[40]else[])++aheadB ln.nd else[])++(if 0<j then betweenB ln.nd else[]))by rw[←HO1.out,List.append_assoc])
     generalize out1++(if 0<j then betweenB ln.nd else[])=out2 at *
     clear hcut
     have HKR:=Lib.hid (HKD.out _ HM3.out.below)
     obtain⟨cb,co,hcb,_,hcl,v0⟩:=intRow HKR.out j hjl
     have hz:=HKP.out ln.nd.kids[j] (List.getElem_mem hjl)
     obtain⟨z,hzk⟩:=Int.eq_ofNat_of_zero_le hz.1
     have HKJ:=Lib.hid (show ∃h:j<(kidsAt (ls.map Ln.nd) i).length,(kidsAt (ls.map Ln.nd) i)[j]=z from⟨by rw[HKN.out];exact hjl,by simp[HKM.out,hzk]⟩)
     rw[hzk]at v0 hz
     have hzi:z<i:=by omega
     clear hzk
     obtain⟨o0,o1,o2,o3⟩:=op_cells HM3.out.row
     simp only at o0 o1 o2
     obtain⟨y0,y1,y2,y3,y4,y5,y6,y7,y8,_⟩:=blk9 HM3.out.nbox
     simp only[Ln.kv]at y8
     rw[hcb]at y8
     have j2:(0:Int)≤(j:Int):=by omega
     have hji:j<i:=by have:=HKL.out;omega
     have e2:IntKind.i64.wrap ((j:Int)+1)=(j:Int)+1:=IntWalk.i64_in _ (by omega)
     go_upto_region 14 with(fail)
     go_quiet (fail)
     have HM4:=Lib.hid (HM3.out.stays (drawn_below (Below.refl _ wc) nq))
     generalize wc.drewN nq=w4 at *
     clear o0 o1 o2 o3 y0 y1 y2 y3 y4 y5 y6 y7 y8
     obtain⟨o0,o1,o2,o3⟩:=op_cells HM4.out.row
     simp only at o0 o1 o2
     go_upto_region 16 with(fail)
     have HM5:=Lib.hid (show PtM w (some ⟨b,off,none⟩) c ls root pb g vc st ⟨i,j+1,wrp⟩ out2 nb ln (w4.setCell ⟨g,st.length*3+1,none⟩ (.int .i64 ((j:Int)+1)))from HM4.out.kid (j+1))
     generalize w4.setCell ⟨g,st.length*3+1,none⟩ (.int .i64 ((j:Int)+1))=w5 at *
     clear o0 o1 o2 o3
     have hzl:z<ls.length:=by omega
     obtain⟨b',off',hA',_,hbl',x0,_⟩:=ndRow (HT.out.agree (below_all HM5.out.below)) z hzl
     cases hA'
     have HFZ:=Lib.hid (fit_text (rightP_fit HR.out (i:=z) (n:=ls[z].nd) (by simp[hzl])))
     have HNZ:=Lib.hid (show(ndAt (ls.map Ln.nd) z).kind=ls[z].nd.kind by simp[ndAt,hzl])
     generalize ls[z].nd.kind=kz at *
     obtain⟨q0,_⟩:=blk2 HM5.out.box
     obtain⟨y0,_⟩:=blk9 HM5.out.nbox
     have i5:(z:Int)<(ls.length:Int):=by omega
     have i6:(0:Int)≤(z:Int):=by omega
     have hbg:b≠g∧w.heap.size≠g∧nb≠g:=by
      have h1:=(own_blk HM5.out.row g rfl).1;have h2:=HM5.out.pos.1
      obtain⟨cs,hcs⟩:=op_blk HM5.out.row
      exact⟨by omega,by omega,cells_ne HM5.out.nbox hcs (by decide)⟩
     have HST:=Lib.hid (show ∀w',OffB g w5 w'→w'.cell? ⟨w.heap.size,0,none⟩=some (.slice (some ⟨b,off,none⟩) ls.length c)∧w'.cell? ⟨nb,0,none⟩=some (.int .u8 ln.nd.kind)∧w'.cell? ⟨b,off+z*9,none⟩=some (.int .u8 kz)from fun w' hb=>
      ⟨hb.cell q0 hbg.2.1,hb.cell y0 hbg.2.2,hb.cell x0 hbg.1⟩)
     have HF:=Lib.hid (show st.length+1+1≤maxLen∧(st.length+1+1)*24≤140737488355328∧pb≤(w5.alloc (.cells #[.int .i64 (z:Int),.int .i64 0,.bool (wrapsK ln.nd.kind kz)] 71)).drew.heap.size from⟨by unfold maxLen;omega,by omega,by have:=HM5.out.pos.2;show pb≤(w5.alloc _).heap.size;simp;omega⟩)
     clear q0 y0 x0
     obtain⟨j0,hj,hy0,hy1,hy2⟩:=info_parts infoOpn
     go_region_held3 (fun w'=>w'.cell? ⟨w.heap.size,0,none⟩=some (.slice (some ⟨b,off,none⟩) ls.length c)∧w'.cell? ⟨nb,0,none⟩=some (.int .u8 ln.nd.kind)∧w'.cell? ⟨b,off+z*9,none⟩=some (.int .u8 kz))
      (first|exact HST.out _ (OffB.refl _ _)|exact HST.out _ (OffB.drew _ _)|exact HST.out _ (OffB.alloc1 _ _ _)|exact HST.out _ (OffB.allocd _ _ _)|exact HST.out _ HOF.out|fail)
      (first
       |(go_at_call 36;(refine(wraps_any _ _ HFT.out.2 HFZ.out.2 _).mono ?_);rintro e w' ⟨rfl,rfl⟩;have HOF:=Lib.hid (OffB.refl g w5))
       |(refine step_append_at (by rfl) (.tmp 75) (.tmp 87) 72 (by rfl) pb 71 j0 (.agg #[.int .i64 0,.int .i64 0,.bool false]) 3 24 Tryd.underlying72 hj hy0 hy1 hy2 (by rfl) (by decide) (some ⟨g,0,none⟩) vc (st.length+1) (opsV (st++[(⟨i,j+1,wrp⟩:Opp)])) (by rfl) (show((w5.alloc (.cells #[.int .i64 (z:Int),.int .i64 0,.bool (wrapsK ln.nd.kind kz)] 71)).drew).ownsRow _ _ _ _ _ _ from World.ownsRow.alloc HM5.out.row _) (some ⟨w5.heap.size,0,none⟩) 1 1 [.int .i64 (z:Int),.int .i64 0,.bool (wrapsK ln.nd.kind kz)] (by rfl) rfl (row_blk (bx_new w5 _)) (fun u hu=>by simp only[List.mem_cons,List.not_mem_nil,or_false]at hu;rcases hu with rfl|rfl|rfl <;> rfl) HF.out.1 HF.out.2.1 HF.out.2.2 ?_;intro V' vc' w6 HO6 HG6 HA6;have HOF:=Lib.hid (OffB.grown HG6.out)))
     rename_i hHeld;clear hHeld HST HF
     have hg6:w5.grownBy w6 (some g):=(grown_drew_alloc HG6.out)
     obtain⟨g',rfl,hr6,hb6,hbe6,hbx6,hp6⟩:=HM5.out.push (x:=⟨z,0,wrapsK ln.nd.kind kz⟩) HO6.out hg6
     obtain⟨ht6,hn6⟩:=pt_push_plain HAH.out st i j wrp z HKJ.out HW.out.text HW.out.num HNA.out HNZ.out
     have HX:=Lib.hid (show PtW w (some ⟨b,off,none⟩) c ls root pb g' vc' (st++[⟨i,j+1,wrp⟩]) ⟨z,0,wrapsK ln.nd.kind kz⟩ out2 (n-1) w6 from⟨hr6,hb6,hbe6,hbx6,⟨HM5.out.pos.1,hp6⟩,by rw[HO2.out];exact ht6,by omega,by have:=HW.out.le;omega,HW.out.right,fun x hx=>by
      have hold:=HW.out.ops
      rw[List.append_assoc]at hx
      rcases List.mem_append.1 hx with hx|hx
      ·exact hold x (List.mem_append_left _ hx)
      ·simp only[List.cons_append,List.nil_append,List.mem_cons,List.not_mem_nil,or_false]at hx
       rcases hx with rfl|rfl
       ·exact⟨hil,by obtain⟨h1,_⟩:=HKJ.out;exact h1⟩
       ·exact⟨hzl,Nat.zero_le _⟩⟩)
     have hn1:n-1<n:=by omega
     clear hr6 hb6 hbe6 hbx6 hp6 ht6 hn6 hg6
     go_wp2_with fail
     go_step3
     exact⟨rfl,n-1,hn1,pb,g',vc',st.length+1+1,st++[⟨i,j+1,wrp⟩],⟨z,0,wrapsK ln.nd.kind kz⟩,out2,Lib.hid (by simp),HX,pt_slots _ _ _ _ _ _ _ _ _ _ _ _ _ _ _ _ _ _ _ _ _ _ _ _ _ _ _ _ _ _ _ _ _ _ _ _ _ _ _ _ _ _ _ _ _ _ _ _ _ _ _ _ _ _ _ _ _ _ _ _ _ _ _ _ _ _ _ _ _ _ _ _ _ _ _ _ _ _ _ _ _ _ _ _ _ _ _ _ _ _ _ _ _ _ _ _ _ _ _ _ _ _ _ _ _ _⟩
   ·have j1:¬(j:Int)<(ln.nd.kids.length:Int):=by omega
    obtain⟨ht6,hn6⟩:=pt_pop_plain HAH.out st i j wrp (by rw[HKN.out];omega) HW.out.text HW.out.num HNA.out
    have HTX:=Lib.hid (show(out1++behindB ln.nd++(if wrp then[41]else[]))++stRest (ls.map Ln.nd) st=treeB ⟨ls.map Ln.nd,root⟩from by rw[←HO1.out,←ht6];simp)
    have HNX:=Lib.hid hn6
    clear ht6 hn6
    have HLB:=Lib.hid (show out1.length+(⟨(behindB ln.nd).toArray⟩:ByteArray).size≤2400000000∧(out1++behindB ln.nd).length≤2400000000 from by
     have h1:=congrArg List.length HTX.out
     have h2:=treeB_len ⟨ls.map Ln.nd,root⟩
     rw[List.length_map]at h2
     have h3:(⟨(behindB ln.nd).toArray⟩:ByteArray).size=(behindB ln.nd).length:=rfl
     simp only[List.length_append]at h1 ⊢
     omega)
    go_upto_region 11 with(fail)
    go_quiet (fail)
    have HM2:=Lib.hid (HM1.out.stays (drawn_below (Below.refl _ wc) nq))
    generalize wc.drewN nq=w2 at *
    clear o0 o1 o2 o3 y0 y1 y2 y3 y4 y5 y6 y7 y8
    obtain⟨y0,y1,y2,y3,y4,y5,y6,y7,y8,_⟩:=blk9 HM2.out.nbox
    go_upto_if 95 with(first
     |(go_at_call 37;(refine(pbehind_any ln.nd ln.kv _ HFT.out.2 (HTS.out _ HM2.out.below).1 (HTS.out _ HM2.out.below).2.2.2.1 (Nat.lt_of_lt_of_le hg HM2.out.below.size) (HTS.out _ HM2.out.below).2.2.1 (HTS.out _ HM2.out.below).2.2.2.2).mono ?_);rintro e w3 ⟨rfl,hb⟩;have HM3:=Lib.hid (HM2.out.stays hb);clear hb)
     |(go_at_call 34;(refine(write_any pb pb _ ⟨(behindB ln.nd).toArray⟩ _ HM3.out.bld (by have:=HLB.out.1;omega) HM3.out.size).mono ?_);rintro e w4 ⟨rfl,h1,h2,h3⟩;have HM4:=Lib.hid (HM3.out.wrote h1 h2 h3);clear h1 h2 h3;obtain⟨o0,o1,o2,o3⟩:=op_cells HM4.out.row;simp only at o2)
     |fail)
    clear y0 y1 y2 y3 y4 y5 y6 y7 y8 o0 o1 o2 o3
    go_cut []from 95 to 96 (fun wx=>Hid (PtM w (some ⟨b,off,none⟩) c ls root pb g vc st ⟨i,j,wrp⟩ (out1++behindB ln.nd++(if wrp then[41]else[])) nb ln wx))
    case first=>
     cases wrp
     ·go_wp2_with fail
      go_meet
      case rel=>exact Lib.hid (by simpa using HM4.out)
     ·go_wp2_with (first
       |(go_at_call 33;(refine(wbyte_at pb pb _ 41 _ (by rfl) _ HM4.out.bld (by have:=HLB.out.2;show(out1++behindB ln.nd).length+1≤_;omega) HM4.out.size).mono ?_);rintro e w5 ⟨rfl,h1,h2,h3⟩;have HM5:=Lib.hid (HM4.out.wrote h1 h2 h3);clear h1 h2 h3)
       |fail)
      go_meet
      case rel=>exact Lib.hid (by simpa using HM5.out)
    case rest=>
     have HM6:=hcut
     clear hcut HM2 HM3 HM4 HLB
     generalize (out1++behindB ln.nd++(if wrp then[41]else[]))=out2 at HM6 HTX
     have HP:=Lib.hid HM6.out.pop
     have e3:IntKind.i64.wrap (st.length:Int)=(st.length:Int):=IntWalk.i64_in _ (by omega)
     have hcp:=own_cap HM6.out.row
     have e4:(st.length:Int)≤(vc:Int):=by omega
     rcases List.eq_nil_or_concat st with hst|⟨st',o',hst⟩
     ·have hs0:st.length=0:=by rw[hst];rfl
      have k3:¬(0:Int)<(st.length:Int):=by omega
      have HTE:=Lib.hid (show out2=treeB ⟨ls.map Ln.nd,root⟩from by have h:=HTX.out;rw[hst]at h;simpa[stRest]using h)
      clear hst hs0
      go_wp2_with (first
       |(go_at_call 38;refine(Tryd.Builder_String_any pb pb _ _ HM6.out.bld HM6.out.size).mono ?_;rintro e w7 ⟨rfl,hb⟩;have HB7:=Lib.hid (HM6.out.below.trans (hb.mono (Nat.le_of_lt HM6.out.pos.1)));clear hb)
       |fail)
      simp only[Exit.jump]
      go_ret
      exact⟨by rw[←HTE.out];rfl,HB7.out⟩
     ·rw[List.concat_eq_append]at hst
      have hsl1:st.length=st'.length+1:=by rw[hst];simp
      have k3:(0:Int)<(st.length:Int):=by omega
      have hn1:n-1<n:=by have:=HNX.out;omega
      have HX:=Lib.hid (show PtW w (some ⟨b,off,none⟩) c ls root pb g vc st' o' out2 (n-1) wc from
       ⟨by rw[←hst,←hsl1];exact HP.out,HM6.out.bld,HM6.out.below,HM6.out.box,HM6.out.pos,by rw[←hst];exact HTX.out,by rw[←hst];have:=HNX.out;omega,by have:=HW.out.le;omega,HW.out.right,fun x hx=>HW.out.ops x (List.mem_append_left _ (by rw[hst];exact hx))⟩)
      have HSL:=Lib.hid hsl1
      clear hst hsl1
      go_wp2_with fail
      go_step3
      exact⟨rfl,n-1,hn1,pb,g,vc,st.length,st',o',_,HSL,HX,pt_slots _ _ _ _ _ _ _ _ _ _ _ _ _ _ _ _ _ _ _ _ _ _ _ _ _ _ _ _ _ _ _ _ _ _ _ _ _ _ _ _ _ _ _ _ _ _ _ _ _ _ _ _ _ _ _ _ _ _ _ _ _ _ _ _ _ _ _ _ _ _ _ _ _ _ _ _ _ _ _ _ _ _ _ _ _ _ _ _ _ _ _ _ _ _ _ _ _ _ _ _ _ _ _ _ _ _⟩
end Go.Proofs.YtdnochjajoiooaaDoor
/- The contracts of print.Def,print.Grammar,print.Size. -/
namespace Go.Proofs.YtdnochjajoiooaaDoor
open Go.RowKit
set_option linter.unusedSimpArgs false
set_option linter.unusedVariables false
structure PTabs (w:World):Prop where
 cn:CntTab w
 sg:SgTab w
 db:DbTab w
 co:CoTab w
 ta:Tab w
 pw:4<w.heap.size
theorem PTabs.below {w w':World} (h:PTabs w) (hb:Below w.heap.size w w'):PTabs w':=
 ⟨h.cn.below hb,h.sg.below hb,h.db.below hb,h.co.below hb,by have:=h.ta;have hp:=h.pw;unfold Tab Lib.TabIs at *;exact var_below hb (by kernel_rfl) hp this,Nat.lt_of_lt_of_le h.pw hb.size⟩
theorem ptree_t (t:Lt) (S:Nat→Prop) (w:World) (hT:t.inn w S) (hl:t.ls.length≤1000000) (hp:PTabs w):Calls Tryd.prog 11 #[t.val] w (TextPost (treeB t.tr) w):=
 ptree_any t.A t.c t.ls t.root S w hT.2 hl hp.cn hp.sg hp.db hp.co hp.ta hp.pw
theorem size_mk (l:List UInt8):(⟨l.toArray⟩:ByteArray).size=l.length:=rfl
theorem defB_cases (d:Df):(treeB d.body=[]∧defB d=[])∨(treeB d.body≠[]∧mayL d.name.data.toList=false∧defB d=[])∨(treeB d.body≠[]∧mayL d.name.data.toList=true∧defB d=d.name.data.toList++[32,60,45,32]++treeB d.body++[10]):=by
 unfold defB
 by_cases h:treeB d.body=[]
 ·exact .inl ⟨h,by rw[if_pos (.inl h)]⟩
 ·cases hm:mayL d.name.data.toList with
  |false=>exact .inr (.inl ⟨h,rfl,by rw[if_pos (.inr (by simp))]⟩)
  |true=>exact .inr (.inr ⟨h,rfl,by rw[if_neg (fun k=>k.elim h (fun k=>k rfl))]⟩)
theorem defB_len (d:Df):(defB d).length≤37+2400*d.body.nodes.length:=by
 rcases defB_cases d with⟨_,h⟩|⟨_,_,h⟩|⟨_,hm,h⟩
 ·rw[h];simp
 ·rw[h];simp
 ·rw[h]
  simp only[mayL,decide_eq_true_eq]at hm
  have h1:=hm.2.1
  have h2:=treeB_len d.body
  simp only[List.length_append,List.length_cons,List.length_nil]
  omega
set_option maxRecDepth 100000 in
set_option maxHeartbeats 3200000 in
theorem def_any (d:Ld) (S:Nat→Prop) (w:World) (hT:d.t.inn w S) (hl:d.t.ls.length≤1000000) (hs:d.name.size≤281474976710656) (hp:PTabs w):
  Calls Tryd.prog 15 #[d.val] w (TextPost (defB d.df) w):=by
 obtain⟨nm,⟨A,c,ls,root⟩⟩:=d
 simp only at hl hs
 unfold TextPost
 have HT:=Lib.hid hT;have HP:=Lib.hid hp;clear hT hp
 have HD:=defB_cases (Ld.df ⟨nm,⟨A,c,ls,root⟩⟩)
 have hlen:=treeB_len (Lt.tr ⟨A,c,ls,root⟩)
 have HTR:=Lib.hid (show ∀w',Below w.heap.size w w'→Calls Tryd.prog 11 #[.agg #[.slice A ls.length c,.int .i64 root]] w' (TextPost (treeB (Lt.tr ⟨A,c,ls,root⟩)) w')from fun w' hb=>ptree_t ⟨A,c,ls,root⟩ S w' (HT.out.below hb) hl (HP.out.below hb))
 simp only[Ld.df]at HD
 have hln:(Lt.tr ⟨A,c,ls,root⟩).nodes.length=ls.length:=by simp[Lt.tr]
 rw[hln]at hlen
 show Calls _ _ _ _ fun e w'=>e=.returned (.string ⟨(defB ⟨nm,Lt.tr ⟨A,c,ls,root⟩⟩).toArray⟩)∧Below w.heap.size w w'
 generalize defB ⟨nm,Lt.tr ⟨A,c,ls,root⟩⟩=db at *
 generalize treeB (Lt.tr ⟨A,c,ls,root⟩)=tb at *
 clear hln
 have HDD:=Lib.hid HD;clear HD
 have hbs:tb.length≤2400000000:=by omega
 clear hlen
 go_enter Tryd.func15,Tryd.ntmps15
 have HB0:=Lib.hid (bx1 w (.cells #[.string nm,.slice A ls.length c,.int .i64 root] 43))
 have HK0:=Lib.hid (bx_new w (.cells #[.string nm,.slice A ls.length c,.int .i64 root] 43))
 obtain⟨k0,k1,k2⟩:=blk3' HK0.out
 rcases HDD.out with⟨h1,h2⟩|⟨h1,hm,h2⟩|⟨h1,hm,h2⟩
 ·subst h1 h2
  go_wp2_with (first
   |(go_at_call 11;refine(HTR.out _ HB0.out).mono ?_;rintro e w1 ⟨rfl,hb⟩;have HB1:=Lib.hid (Below.step HB0.out hb);have HK1:=Lib.hid (bx_kept hb HK0.out);clear hb;obtain⟨q0,q1,q2⟩:=blk3' HK1.out)
   |fail)
  go_ret
  exact⟨rfl,HB1.out⟩
 ·have he:tb.isEmpty=false:=by simpa using h1
  have HM:=Lib.hid hm;clear h1 hm
  subst h2
  go_wp2_with (first
   |(go_at_call 11;refine(HTR.out _ HB0.out).mono ?_;rintro e w1 ⟨rfl,hb⟩;have HB1:=Lib.hid (Below.step HB0.out hb);have HK1:=Lib.hid (bx_kept hb HK0.out);clear hb;obtain⟨q0,q1,q2⟩:=blk3' HK1.out)
   |(go_at_call 41;refine(may_any nm _ hs).mono ?_;rintro e w2 ⟨rfl,hb⟩;rw[HM.out];have HB2:=Lib.hid (Below.step HB1.out hb);clear hb)
   |fail)
  go_ret
  exact⟨rfl,HB2.out⟩
 ·have he:tb.isEmpty=false:=by simpa using h1
  have HM:=Lib.hid hm;have H2:=Lib.hid h2;clear h1 hm h2
  have c1:¬9223372036854775807<nm.size+4:=by omega
  have c2:¬9223372036854775807<nm.size+4+tb.length:=by omega
  have c3:¬9223372036854775807<nm.size+4+tb.length+1:=by omega
  go_wp2_with (first
   |(go_at_call 11;refine(HTR.out _ HB0.out).mono ?_;rintro e w1 ⟨rfl,hb⟩;have HB1:=Lib.hid (Below.step HB0.out hb);have HK1:=Lib.hid (bx_kept hb HK0.out);clear hb;obtain⟨q0,q1,q2⟩:=blk3' HK1.out)
   |(go_at_call 41;refine(may_any nm _ hs).mono ?_;rintro e w2 ⟨rfl,hb⟩;rw[HM.out];have HB2:=Lib.hid (Below.step HB1.out hb);have HK2:=Lib.hid (bx_kept hb HK1.out);clear hb;obtain⟨r0,r1,r2⟩:=blk3' HK2.out)
   |fail)
  go_ret
  refine⟨?_,HB2.out⟩
  rw[H2.out]
  refine congrArg (fun t=>Ending.returned (Value.string t)) ?_
  apply ByteArray.ext
  apply Array.ext'
  simp
end Go.Proofs.YtdnochjajoiooaaDoor
/- The contracts of print.Grammar and print.Size. -/
namespace Go.Proofs.YtdnochjajoiooaaDoor
open Go.RowKit
set_option linter.unusedSimpArgs false
set_option linter.unusedVariables false
theorem gram_len (g:List Df) (h:∀d∈g,d.body.nodes.length≤1000000):(g.flatMap defB).length≤g.length*2400000037:=by
 refine flat_len defB 2400000037 g fun d hd=> ?_
 have h1:=defB_len d;have h2:=h d hd
 omega
theorem gramT_ok {g:List Df} (h:∀d∈g,okD d):gramT g=g.flatMap defB:=by unfold gramT;rw[gramB_ok g h];rfl
theorem gramT_no {g:List Df} {d:Df} (hd:d∈g) (h:¬okD d):gramT g=[]:=by unfold gramT;rw[gramB_no g (fun k=>h (k d hd))];rfl
set_option maxRecDepth 100000 in
set_option maxHeartbeats 3200000 in
theorem pgram_any (A:Option Addr) (c:Nat) (ds:List Ld) (S:Nat→Prop) (w:World) (hT:dfL.row w S A ds) (hl:ds.length≤50000) (hm:∀d∈ds,d.t.ls.length≤1000000) (hp:PTabs w):
  Calls Tryd.prog 13 #[.agg #[.slice A ds.length c]] w (TextPost (gramT (ds.map Ld.df)) w):=by
 unfold TextPost
 have HT:=Lib.hid hT;have HP:=Lib.hid hp;have HM:=Lib.hid hm
 have HML:=Lib.hid (show ∀d∈ds.map Ld.df,d.body.nodes.length≤1000000 from fun d hd=>by
  obtain⟨x,hx,rfl⟩:=List.mem_map.1 hd
  simpa[Ld.df,Lt.tr]using hm x hx)
 clear hT hp hm
 go_enter Tryd.func13,Tryd.ntmps13
 have HB0:=Lib.hid (bx1 w (.cells #[.slice A ds.length c] 46))
 have HK0:=Lib.hid (bx_new w (.cells #[.slice A ds.length c] 46))
 have HB1:=Lib.hid (bx2 w (.cells #[.slice A ds.length c] 46) (.cells #[.pointer none,.slice none 0 0] 69))
 have HI1:=Lib.hid (show IsB (w.heap.size+1) (w.heap.size+1) [] ((w.alloc (.cells #[.slice A ds.length c] 46)).alloc (.cells #[.pointer none,.slice none 0 0] 69))from by
  have h:=IsB.new (w.alloc (.cells #[.slice A ds.length c] 46)) (B:=w.heap.size+1) (by simp)
  rwa [World.size_alloc]at h)
 go_wp2_with fail
 go_loopw [10] (fun i wr=>∃k:Nat,k≤ds.length∧i=.int .i64 k∧Hid (∀d∈(ds.map Ld.df).take k,okD d)∧Hid (IsB (w.heap.size+1) (w.heap.size+1) (((ds.map Ld.df).take k).flatMap defB) wr)∧Hid (Below w.heap.size w wr)∧Hid (w.heap.size+1≤wr.heap.size)) (fun i _=>ds.length-(intOf i).toNat)
 case atStart=>exact⟨0,by omega,rfl,Lib.hid (by simp),HI1,HB1,Lib.hid (by simp)⟩
 case round=>
  obtain⟨k,hk,rfl,HOK,HI,HB,HZ⟩:=hrel
  by_cases hlt:k<ds.length
  ·obtain⟨b,o,rfl,_,_,x0,x1,x2⟩:=dfRow (HT.out.agree (below_all HB.out)) k hlt
   have i1:(k:Int)<(ds.length:Int):=by omega
   have HIN:=Lib.hid (show ∀w',Below w.heap.size w w'→ds[k].t.inn w' S from fun w' hb=>dfSub (HT.out.agree (below_all hb)) k hlt)
   have HMK:=Lib.hid (HM.out ds[k] (List.getElem_mem hlt))
   have HNM:=Lib.hid (HT.out.sub k hlt).1
   have HLN:=Lib.hid (show(((ds.map Ld.df).take k).flatMap defB).length≤50000*2400000037 from by
    refine Nat.le_trans (gram_len _ fun d hd=>HML.out d (List.mem_of_mem_take hd)) ?_
    simp only[List.length_take,List.length_map];exact Nat.mul_le_mul_right _ (by omega))
   have HMEM:=Lib.hid (show ds[k].df∈ds.map Ld.df from List.mem_map_of_mem (List.getElem_mem hlt))
   have HTK:=Lib.hid (show(ds.map Ld.df).take (k+1)=(ds.map Ld.df).take k++[ds[k].df]from by
    rw[List.take_succ_eq_append_getElem (by simpa using hlt)];simp)
   have HDL:=Lib.hid (defB_len ds[k].df)
   have HDI:=Lib.hid (defB_iff ds[k].df)
   have HDA:=Lib.hid (show ∀w',Below w.heap.size w w'→Calls Tryd.prog 15 #[.agg #[.string ds[k].name,.slice ds[k].t.A ds[k].t.ls.length ds[k].t.c,.int .i64 ds[k].t.root]] w' (TextPost (defB ds[k].df) w')from fun w' hb=>def_any ds[k] S w' (HIN.out w' hb) HMK.out HNM.out (HP.out.below hb))
   have hdl2:ds[k].df.body.nodes.length≤1000000:=by have:=HMK.out;simpa[Ld.df,Lt.tr]using this
   have HDB:=Lib.hid (show(defB ds[k].df).length≤2400000037 from by have:=HDL.out;omega)
   clear HDL HMK HNM HIN hdl2
   generalize hdf:ds[k].df=df at *
   generalize hdb:defB df=db at *
   generalize ds[k]=d at *
   clear hdf
   by_cases hz:db=[]
   ·have HNO:=Lib.hid (gramT_no HMEM.out (fun h=>HDI.out.2 h hz))
    subst hz
    go_wp2_with (first
     |(go_at_call 15;refine(HDA.out _ (Below.step HB.out (bx1 _ _))).mono ?_;rintro e w1 ⟨rfl,hb⟩;have HB1:=Lib.hid (Below.step (Below.step HB.out (bx1 wr _)) hb);clear hb)
     |fail)
    go_ret
    exact⟨by rw[HNO.out];rfl,HB1.out⟩
   ·have he:db.isEmpty=false:=by simpa using hz
    have HYES:=Lib.hid (HDI.out.1 hz);clear hz
    go_wp2_with (first
     |(go_at_call 15;refine(HDA.out _ (Below.step HB.out (bx1 _ _))).mono ?_;rintro e w1 ⟨rfl,hb⟩;have HB2:=Lib.hid (Below.step (Below.step HB.out (bx1 wr _)) hb);have HI2:=Lib.hid (HI.out.below (Below.step (bx1 wr _) hb));have HZ2:=Lib.hid (show w.heap.size+1≤w1.heap.size from Nat.le_trans HZ.out (Below.step (bx1 wr _) hb).size);clear hb)
     |(go_at_call 34;refine(write_any (w.heap.size+1) (w.heap.size+1) _ ⟨db.toArray⟩ _ HI2.out (by have h1:=HLN.out;have h2:=HDB.out;rw[size_mk];omega) HZ2.out).mono ?_;rintro e w2 ⟨rfl,h1,h2,h3⟩;have HI3:=Lib.hid h1;have HB3:=Lib.hid (HB2.out.trans (h2.mono (Nat.le_succ _)));have HZ3:=Lib.hid (Nat.le_trans HZ2.out h2.size);clear h1 h2 h3)
     |fail)
    refine⟨⟨k+1,by omega,by go_num,Lib.hid ?_,Lib.hid ?_,HB3,HZ3⟩,by simp only[intOf];omega⟩
    ·intro x hx
     rw[HTK.out]at hx
     rcases List.mem_append.1 hx with hx|hx
     ·exact HOK.out x hx
     ·simp only[List.mem_singleton]at hx;subst hx;exact HYES.out
    ·rw[HTK.out,List.flatMap_append]
     simp only[List.flatMap_cons,List.flatMap_nil,List.append_nil,hdb]
     exact HI3.out
  ·have HE:=Lib.hid (show(ds.map Ld.df).take k=ds.map Ld.df from List.take_of_length_le (by simp;omega))
   go_wp2_with (first
    |(go_at_call 38;refine(Tryd.Builder_String_any (w.heap.size+1) (w.heap.size+1) _ _ HI.out HZ.out).mono ?_;rintro e w3 ⟨rfl,hb3⟩;have HB3:=Lib.hid (HB.out.trans (hb3.mono (Nat.le_succ _)));clear hb3)
    |fail)
   go_ret
   refine⟨?_,HB3.out⟩
   have h1:=HOK.out
   rw[HE.out]at h1 ⊢
   rw[gramT_ok h1]
   rfl
set_option maxRecDepth 100000 in
set_option maxHeartbeats 1600000 in
theorem psize_any (A:Option Addr) (c:Nat) (ds:List Ld) (S:Nat→Prop) (w:World) (hT:dfL.row w S A ds) (hl:ds.length≤50000) (hm:∀d∈ds,d.t.ls.length≤1000000) (hp:PTabs w):
  Calls Tryd.prog 14 #[.agg #[.slice A ds.length c]] w fun e w'=>e=.returned (.int .i64 ((gramT (ds.map Ld.df)).length:Nat))∧Below w.heap.size w w':=by
 have HC:=Lib.hid (show ∀w',Below w.heap.size w w'→Calls Tryd.prog 13 #[.agg #[.slice A ds.length c]] w' (TextPost (gramT (ds.map Ld.df)) w')from fun w' hb=>pgram_any A c ds S w' (hT.below hb) hl hm (hp.below hb))
 have HB0:=Lib.hid (bx1 w (.cells #[.slice A ds.length c] 46))
 clear hT hm hp
 generalize gramT (ds.map Ld.df)=t at *
 go_enter Tryd.func14,Tryd.ntmps14
 go_wp2_with (first
  |(go_at_call 13;refine(HC.out _ HB0.out).mono ?_;rintro e w1 ⟨rfl,hb⟩;have HB1:=Lib.hid (Below.step HB0.out hb);clear hb)
  |fail)
 go_ret
 exact⟨rfl,HB1.out⟩
end Go.Proofs.YtdnochjajoiooaaDoor
