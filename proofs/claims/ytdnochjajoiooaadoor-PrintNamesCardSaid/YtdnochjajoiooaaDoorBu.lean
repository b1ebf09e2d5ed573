/- The contracts of strings.Builder that the shelf does not lay over this seat: copyCheck, WriteString. -/
import Derived.Test.YtdnochjajoiooaaDoorPn
import Derived.Test.YtdnochjajoiooaaDoorShelf
import Derived.WalkKit
import Derived.WalkSpells
import Derived.WalkLawsBesides
import Derived.Lib.Builder
import Derived.Lib.AppendStr
import Derived.Lib.UnsafeStr
import Derived.Laws.Externs
namespace Go.Proofs.YtdnochjajoiooaaDoor
open Go.RowKit
set_option linter.unusedSimpArgs false
set_option linter.unusedVariables false
abbrev BAt (B b:Nat) (p:Value) (l:List UInt8) (w:World):Prop:=Lib.BuilderAt 69 5 B b p (Lib.byteCells l) w
abbrev IsB (B b:Nat) (l:List UInt8) (w:World):Prop:=Lib.IsBuilder 69 5 B b (Lib.byteCells l) w
theorem sizeBuilder:(Tryd.prog.info? 69).map (·.size)=some 2:=by kernel_rfl
theorem liesBuilder:liesAt Tryd.prog Tryd.prog.depth 69 (2/Tryd.prog.cellsOf 69) 0 69 1=true:=by kernel_rfl
set_option maxHeartbeats 1000000 in
set_option maxRecDepth 100000 in
theorem copyCheck_used (b:Nat) (w:World) (h0:w.cell? ⟨b,0,none⟩=some (.pointer (some ⟨b,0,none⟩))):
  Calls Tryd.prog 58 #[.pointer (some ⟨b,0,none⟩)] w fun e w'=>e=.returned (.tuple #[])∧w'=w:=by
 obtain⟨j,hj,_⟩:=Option.map_eq_some_iff.1 sizeBuilder
 go_enter Tryd.func58,Tryd.ntmps58
 go_wp2
 rw[Lib.run_neq_ptr_same w _ Tryd.underlying66 hj]
 go_wp2
 go_end0
 exact⟨rfl,rfl⟩
set_option maxHeartbeats 1000000 in
set_option maxRecDepth 100000 in
theorem copyCheck_fresh (b:Nat) (w:World) (h0:w.cell? ⟨b,0,none⟩=some (.pointer none)) (hsh:w.shape? b=some (69,2)) (hfz:w.frozen? ⟨b,0,none⟩=false):
  Calls Tryd.prog 58 #[.pointer (some ⟨b,0,none⟩)] w fun e w'=>e=.returned (.tuple #[])∧w'=w.setCell ⟨b,0,none⟩ (.pointer (some ⟨b,0,none⟩)):=by
 obtain⟨j,hj,hjs⟩:=Option.map_eq_some_iff.1 sizeBuilder
 go_enter Tryd.func58,Tryd.ntmps58
 go_wp2
 rw[Lib.run_to_unsafe w ⟨b,0,none⟩ Tryd.underlying66 Tryd.underlying118 hj (by rw[hjs];decide) hsh (Nat.zero_lt_succ 1)]
 simp only[Result.andThen]
 rw[Oper.upon_value]
 go_wp2
 rw[run_callFunc_extern Tryd.func72 (by kernel_rfl) (by kernel_rfl) (by kernel_rfl) (e:=Extern.AbiNoEscape.same) (by kernel_rfl)]
 rw[Lib.run_noEscape]
 simp only[Result.andThen]
 rw[Oper.upon_value]
 go_wp2
 rw[Lib.run_from_unsafe w ⟨b,0,none⟩ Tryd.underlying118 Tryd.underlying66 hj hsh liesBuilder]
 simp only[Result.andThen]
 rw[Oper.upon_value]
 go_wp2
 go_end0
 exact⟨rfl,rfl⟩
def Keeps (w w':World):Prop:=∀(k:Nat) (cs:Array Value) (T:TypeId) (fr:Nat×Nat),w.heap[k]?=some (Obj.cells cs T fr)→T≠69→T≠5→w'.heap[k]?=some (Obj.cells cs T fr)
theorem Keeps.trans {a b c:World} (h:Keeps a b) (k:Keeps b c):Keeps a c:=fun i cs T fr hi h1 h2=>k i cs T fr (h i cs T fr hi h1 h2) h1 h2
theorem Keeps.set {w:World} {b i:Nat} {cs:Array Value} {u:Value} (h:w.heap[b]?=some (.cells cs 69 (0,0))):Keeps w (w.setCell ⟨b,i,none⟩ u):=fun k ds T fr hk h1 _=>
 (Below.heap_setCell _ _ _ _ (fun e=>by
  have e:k=b:=e
  subst e;rw[h]at hk;injection hk with hk;injection hk with _ hT;exact h1 hT.symm)).trans hk
theorem Keeps.grown {w w':World} {B n:Nat} {v:Value} {xs:List Value} (hown:w.ownsRow B 5 1 v n xs) (hg:w.grownBy w' v.ownBlock):Keeps w w':=fun k ds T fr hk _ h2=>
 (hg.block k (by
  rcases Nat.lt_or_ge k w.heap.size with h'|h'
  ·exact h'
  ·simp[Array.getElem?_eq_none h']at hk) (fun e=>by
  rcases hown.2 with⟨hv,_⟩|⟨g,cap,cur,hv,_,hh,_⟩
  ·rw[hv]at e;cases e
  ·rw[hv]at e
   have e:k=g:=by simpa[Value.ownBlock]using e
   subst e;rw[hh]at hk;injection hk with hk;injection hk with _ hT;exact h2 hT.symm)).trans hk
theorem Keeps.below {w w':World} (h:Below w.heap.size w w'):Keeps w w':=fun k _ _ _ hk _ _=>(h.block k (by
 rcases Nat.lt_or_ge k w.heap.size with h'|h'
 ·exact h'
 ·simp[Array.getElem?_eq_none h']at hk)).trans hk
theorem copyCheck_any (B b:Nat) (l:List UInt8) (w:World) (h:IsB B b l w):
  Calls Tryd.prog 58 #[.pointer (some ⟨b,0,none⟩)] w fun e w'=>e=.returned (.tuple #[])∧(BAt B b (.pointer (some ⟨b,0,none⟩)) l w'∧Below B w w'∧Keeps w w'):=by
 rcases h with h|h
 ·refine(copyCheck_fresh b w h.cell0 h.shape h.frozen0).mono ?_
  rintro e w' ⟨rfl,rfl⟩
  obtain⟨_,v,hbk,_⟩:=id h
  exact⟨rfl,h.used _,(Below.refl B w).setCell (p:=⟨b,0,none⟩) h.1 _,Keeps.set hbk⟩
 ·refine(copyCheck_used b w h.cell0).mono ?_
  rintro e w' ⟨rfl,rfl⟩
  exact⟨rfl,h,Below.refl B _,fun _ _ _ _ h _ _=>h⟩
theorem infoByte:(Tryd.prog.info? 5).map (fun i=>(i.zero,i.size,i.bytes))=some (some (.int .u8 0),1,1):=by kernel_rfl
set_option maxHeartbeats 2000000 in
set_option maxRecDepth 100000 in
theorem write_any (B b:Nat) (l:List UInt8) (s:ByteArray) (w:World) (h:IsB B b l w) (hlen:l.length+s.size≤140737488355328) (hBw:B≤w.heap.size):
  Calls Tryd.prog 34 #[.pointer (some ⟨b,0,none⟩),.string s] w fun e w'=>e=.returned (.tuple #[.int .i64 s.size,.nilIface])∧(IsB B b (l++s.data.toList) w'∧Below B w w'∧Keeps w w'):=by
 obtain⟨i0,hi,hz0,hz1,hz2⟩:=info_parts infoByte
 go_enter Tryd.func34,Tryd.ntmps34
 go_wp2_with (go_at_call 58;refine(copyCheck_any B b l _ h).mono ?_)
 rintro e w1 ⟨rfl,h1,hb1,hk1⟩
 have HK1:=Lib.hid hk1;clear hk1
 obtain⟨hB,v,hbk,hown,hne⟩:=h1
 have c0:w1.cell? ⟨b,0,none⟩=some (.pointer (some ⟨b,0,none⟩)):=by rw[Lib.cell_of_heap hbk];rfl
 have c1:w1.cell? ⟨b,1,none⟩=some v:=by rw[Lib.cell_of_heap hbk];rfl
 have hbl:(Lib.byteCells l).length=l.length:=by simp[Lib.byteCells]
 go_wp2_with (at_builtin;refine Lib.wpList_append_own_string _ rfl _ _ 67 9 rfl B 5 i0 Tryd.underlying67 Tryd.underlying9 hi hz0 hz1 hz2 _ _ _ rfl hown s rfl ?c3 ?c4 ?c5 ?_)
 case c3=>unfold maxLen;omega
 case c4=>omega
 case c5=>have:=hb1.size;omega
 intro v' w2 hown' hgrow _
 have hlt:b<w1.heap.size:=by
  rcases Nat.lt_or_ge b w1.heap.size with h'|h'
  ·exact h'
  ·simp[Array.getElem?_eq_none h']at hbk
 have hb2:w2.heap[b]?=some (.cells #[.pointer (some ⟨b,0,none⟩),v] 69 (0,0)):=by
  rw[hgrow.block b hlt (fun e=>hne e.symm)]
  exact hbk
 have d0:w2.cell? ⟨b,0,none⟩=some (.pointer (some ⟨b,0,none⟩)):=by rw[Lib.cell_of_heap hb2];rfl
 have d1:w2.cell? ⟨b,1,none⟩=some v:=by rw[Lib.cell_of_heap hb2];rfl
 have f1:w2.frozen? ⟨b,1,none⟩=false:=Lib.frozen_of_heap hb2 1
 obtain⟨ao,n',cap,rfl⟩:∃ao n' cap,v'=.slice ao n' cap:=by
  rcases hown'.2 with⟨hv,_⟩|⟨g,cap,cur,hv,_⟩
  ·exact⟨_,_,_,hv⟩
  ·exact⟨_,_,_,hv⟩
 have HE:=Lib.hid (show Lib.byteCells (l++s.data.toList)=Lib.byteCells l++Lib.strCells s by simp[Lib.byteCells,Lib.strCells])
 clear hbl
 go_wp2
 go_ret2
 refine⟨rfl,.inr ?_,?_,?_⟩
 ·have h:=Lib.BuilderAt.put (T:=69) (e:=5) hB hb2 (bs':=Lib.byteCells l++Lib.strCells s) (by rw[List.length_append,Lib.strCells_length,show(Lib.byteCells l).length=l.length by simp[Lib.byteCells]];exact hown') (by decide)
  rw[←HE.out]at h;exact h
 ·exact(hb1.grown hgrow (by have:=hb1.size;omega) (fun k hk=>(hown.lt k hk).1)).setCell (p:=⟨b,1,none⟩) hB _
 ·exact HK1.out.trans ((Keeps.grown hown hgrow).trans (Keeps.set hb2))
theorem BAt.below {B b:Nat} {p:Value} {l:List UInt8} {w w':World} (h:BAt B b p l w) (hb:Below w.heap.size w w'):BAt B b p l w':=by
 obtain⟨hB,v,hbk,hown,hne⟩:=h
 have hlt:b<w.heap.size:=by
  rcases Nat.lt_or_ge b w.heap.size with h'|h'
  ·exact h'
  ·simp[Array.getElem?_eq_none h']at hbk
 exact⟨hB,v,(hb.block _ hlt).trans hbk,World.ownsRow.kept (row:=none) hown ⟨hb.1,hb.2,hb.3,hb.size,fun k hk _=>hb.block k hk⟩ (by
  cases h:v.ownBlock with
  |none=>exact .inl rfl
  |some k=>exact .inr (by simp)),hne⟩
theorem IsB.below {B b:Nat} {l:List UInt8} {w w':World} (h:IsB B b l w) (hb:Below w.heap.size w w'):IsB B b l w':=h.imp (fun h=>BAt.below h hb) (fun h=>BAt.below h hb)
theorem IsB.new (w:World) {B:Nat} (hB:B≤w.heap.size):IsB B w.heap.size [] (w.alloc (.cells #[.pointer none,.slice none 0 0] 69)):=
 .inl ⟨hB,.slice none 0 0,heap_alloc_new w _,World.ownsRow_nil _ _ _ _,by simp[Value.ownBlock]⟩
end Go.Proofs.YtdnochjajoiooaaDoor
