/- Facts of blocks and rows in memory that every layer needs. -/
import Derived.Test.YtdnochjajoiooaaDoorPn
import Derived.Test.YtdnochjajoiooaaDoorShelf
import Derived.Maps.AppendAt
import Derived.Laws.StructEq
import Derived.ChangeKeysEq
import Derived.RegionTactic
import Derived.RegionIn
import Derived.Deep.RegionLaw
import Derived.Deep.RegionHeld3
namespace Go.Proofs.YtdnochjajoiooaaDoor
open Go.RowKit
set_option linter.unusedSimpArgs false
set_option linter.unusedVariables false
theorem bx1 (w:World) (o:Obj):Below w.heap.size w (w.alloc o):=(Below.refl _ _).alloc (Nat.le_refl _) _
theorem bx2 (w:World) (o p:Obj):Below w.heap.size w ((w.alloc o).alloc p):=(bx1 w o).alloc (by simp) _
theorem bx3 (w:World) (o p q:Obj):Below w.heap.size w (((w.alloc o).alloc p).alloc q):=(bx2 w o p).alloc (by simp;omega) _
theorem blk9 {w:World} {b:Nat} {v0 v1 v2 v3 v4 v5 v6 v7 v8:Value} {T:TypeId} (h:w.heap[b]?=some (.cells #[v0,v1,v2,v3,v4,v5,v6,v7,v8] T (0,0))):
  w.cell? ⟨b,0,none⟩=some v0∧w.cell? ⟨b,1,none⟩=some v1∧w.cell? ⟨b,2,none⟩=some v2∧w.cell? ⟨b,3,none⟩=some v3∧w.cell? ⟨b,4,none⟩=some v4∧w.cell? ⟨b,5,none⟩=some v5∧w.cell? ⟨b,6,none⟩=some v6∧w.cell? ⟨b,7,none⟩=some v7∧w.cell? ⟨b,8,none⟩=some v8 ∧
  w.frozen? ⟨b,0,none⟩=false∧w.frozen? ⟨b,1,none⟩=false∧w.frozen? ⟨b,2,none⟩=false∧w.frozen? ⟨b,3,none⟩=false∧w.frozen? ⟨b,4,none⟩=false∧w.frozen? ⟨b,5,none⟩=false∧w.frozen? ⟨b,6,none⟩=false∧w.frozen? ⟨b,7,none⟩=false∧w.frozen? ⟨b,8,none⟩=false:=by
 simp[World.cell?,World.frozen?,h]
theorem bx_kept {W w':World} {b:Nat} {o:Obj} (hb:Below W.heap.size W w') (h:W.heap[b]?=some o):w'.heap[b]?=some o:=(hb.block b (Array.getElem?_eq_some_iff.1 h).1).trans h
theorem bx_new (w:World) (o:Obj):(w.alloc o).heap[w.heap.size]?=some o:=heap_alloc_new w o
theorem bx_drew {w:World} {b:Nat} {o:Obj} (h:w.heap[b]?=some o):w.drew.heap[b]?=some o:=h
theorem keptD {w w':World} {o:Obj} (hb:Below (w.alloc o).drew.heap.size (w.alloc o).drew w'):w'.heap[w.heap.size]?=some o:=bx_kept hb (bx_drew (bx_new w o))
theorem var_below {P:Program} {B g:Nat} {W W':World} {n:String} {cs:Array Value} (h:Below B W W') (hg:P.globalNamed n=some g) (hgB:g<B) (hv:W.var? P n=some cs):W'.var? P n=some cs:=by
 unfold World.var? at *
 rw[hg]at hv ⊢
 simpa[h.block g hgB]using hv
def blkOf:Option Addr→Option Nat:=fun A=>A.map Addr.block
theorem blk_own (A:Option Addr) (n c:Nat):(Value.slice A n c).ownBlock=blkOf A:=by cases A <;> rfl
section
variable {P:Program} (w:World)
theorem run_append_at (base:Nat) (t ty e:TypeId) (i:TypeInfo) (z:Value) (size bytes:Nat) (ht:P.underlying t=some (.slice e)) (hi:P.info? e=some i) (hz:i.zero=some z)
  (hsize:i.size=size) (hby:i.bytes=bytes) (hzs:z.cells.size=size) (hsz:0<size)
  (V:Option Addr) (vc n:Nat) (xs:List Value) (hown:w.ownsRow base e size (.slice V n vc) n xs)
  (A:Option Addr) (m c:Nat) (news:List Value) (hl:news.length=m*size) (hr:RowAt w A news) (h1:∀u∈news,u.oneCell'=true)
  (h63:n+m≤maxLen) (hbytes:(n+m)*bytes≤140737488355328) (hbase:base≤w.heap.size):
  ∃V' vc' w',(Builtin.append_ #[t,t] ty #[.slice V n vc,.slice A m c]).run P w=.ok (.slice V' (n+m) vc') w'∧w'.ownsRow base e size (.slice V' (n+m) vc') (n+m) (xs++news)∧w.grownBy w' (blkOf V)∧(blkOf V'=blkOf V∨blkOf V'=some w.heap.size):=by
 cases A with
 |some ad=>
  obtain⟨v',w',h,h2,h3,_,h5⟩:=run_append_own_at (P:=P) w base t ty e i z size bytes ht hi hz hsize hby hzs hsz _ n xs hown ad m c news hl
   (fun j u hu=>by obtain⟨ad',e',h⟩:=hr j u hu;cases e';exact h) h1 h63 hbytes hbase
  obtain⟨V',vc',rfl⟩:=ownsRow_slice h2
  rw[blk_own]at h3
  rw[blk_own,blk_own]at h5
  exact⟨V',vc',w',h,h2,h3,h5⟩
 |none=>
  have hn:news=[]:=by
   cases news with
   |nil=>rfl
   |cons u r=>obtain⟨_,h,_⟩:=hr 0 u rfl;cases h
  subst hn
  have hm:m=0:=by
   rcases Nat.eq_zero_or_pos m with h|h
   ·exact h
   ·have:=Nat.mul_pos h hsz;simp at hl;omega
  subst hm
  refine⟨V,vc,w,?_,by simpa using hown,World.grownBy.refl w _,.inl rfl⟩
  rcases hown.2 with⟨hv,rfl⟩|⟨g,cap,cur,hv,_,_,hnc,_⟩
  ·cases hv
   simp[Builtin.append_,run_underlying ht,sizeOf,typeInfo,hi,Builtin.lenOf,Builtin.firstCells]
  ·cases hv
   simp[Builtin.append_,run_underlying ht,sizeOf,typeInfo,hi,Builtin.lenOf,Builtin.firstCells,hnc,storeCells]
theorem wpList_append_at {ops:Array Oper} {rest:List Oper} {o:Oper} {a:Act} {Q:Exit→Act→World→Prop} (hgd:o.guard=none) (s x:Operand) (t:TypeId)
  (ho:o.op=.call {callee:=.builtin .append,args:= #[s,x],argTypes:= #[t,t]})
  (base:Nat) (e:TypeId) (i:TypeInfo) (z:Value) (size bytes:Nat) (ht:P.underlying t=some (.slice e)) (hi:P.info? e=some i) (hz:i.zero=some z)
  (hsize:i.size=size) (hby:i.bytes=bytes) (hzs:z.cells.size=size) (hsz:0<size)
  (V:Option Addr) (vc n:Nat) (xs:List Value) (hs:a.eval s=.slice V n vc) (hown:w.ownsRow base e size (.slice V n vc) n xs)
  (A:Option Addr) (m c:Nat) (news:List Value) (hx:a.eval x=.slice A m c) (hl:news.length=m*size) (hr:RowAt w A news) (h1:∀u∈news,u.oneCell'=true)
  (h63:n+m≤maxLen) (hbytes:(n+m)*bytes≤140737488355328) (hbase:base≤w.heap.size)
  (h:∀V' vc' w',Hid (w'.ownsRow base e size (.slice V' (n+m) vc') (n+m) (xs++news))→Hid (w.grownBy w' (blkOf V))→Hid (blkOf V'=blkOf V∨blkOf V'=some w.heap.size)→wpList P ops Q rest (a.put o.dst (.slice V' (n+m) vc')) w'):wpList P ops Q (o::rest) a w:=
 wpList_plain hgd fun K hK=>by
  obtain⟨V',vc',w',hrun,h2,h3,h4⟩:=run_append_at (P:=P) w base t o.type e i z size bytes ht hi hz hsize hby hzs hsz V vc n xs hown A m c news hl hr h1 h63 hbytes hbase
  unfold Oper.wp execOp
  simp only[ho,resolve,invoke,builtin,Sem.run_bind,Sem.run_pure,Result.andThen_ok,List.map_toArray,List.map_cons,List.map_nil,hs,hx,hrun]
  exact hK _ _ (h V' vc' w' h2 h3 h4)
theorem step_append_at {ops:Array Oper} {o:Oper} {a:Act} {w:World} {K:Act→World→Prop} {Q:Exit→Act→World→Prop} {E:Prop}
  (hgd:o.guard=none) (s x:Operand) (t:TypeId) (ho:o.op=.call {callee:=.builtin .append,args:= #[s,x],argTypes:= #[t,t]})
  (base:Nat) (e:TypeId) (i:TypeInfo) (z:Value) (size bytes:Nat) (ht:P.underlying t=some (.slice e)) (hi:P.info? e=some i) (hz:i.zero=some z)
  (hsize:i.size=size) (hby:i.bytes=bytes) (hzs:z.cells.size=size) (hsz:0<size)
  (V:Option Addr) (vc n:Nat) (xs:List Value) (hs:a.eval s=.slice V n vc) (hown:w.ownsRow base e size (.slice V n vc) n xs)
  (A:Option Addr) (m c:Nat) (news:List Value) (hx:a.eval x=.slice A m c) (hl:news.length=m*size) (hr:RowAt w A news) (h1:∀u∈news,u.oneCell'=true)
  (h63:n+m≤maxLen) (hbytes:(n+m)*bytes≤140737488355328) (hbase:base≤w.heap.size)
  (hK:∀V' vc' w',Hid (w'.ownsRow base e size (.slice V' (n+m) vc') (n+m) (xs++news))→Hid (w.grownBy w' (blkOf V))→Hid (blkOf V'=blkOf V∨blkOf V'=some w.heap.size)→K (a.put o.dst (.slice V' (n+m) vc')) w'):
  if Region.wanted o (yielded ops a.tmps)=true then Oper.wp P o a w K Q else E:=by
 have hw:Region.wanted o (yielded ops a.tmps)=true:=by simp[Region.wanted,hgd]
 rw[if_pos hw]
 obtain⟨V',vc',w',hrun,h2,h3,h4⟩:=run_append_at (P:=P) w base t o.type e i z size bytes ht hi hz hsize hby hzs hsz V vc n xs hown A m c news hl hr h1 h63 hbytes hbase
 unfold Oper.wp
 simp[execOp,ho,resolve,invoke,builtin,hs,hx,hrun,Result.andThen]
 exact hK _ _ _ h2 h3 h4
end
theorem own_cut {w:World} {base:Nat} {e:TypeId} {size n c:Nat} {V:Option Addr} {xs:List Value} (h:w.ownsRow base e size (.slice V n c) n xs) {m:Nat} (hm:m≤n):w.ownsRow base e size (.slice V m c) m (xs.take (m*size)):=by
 have hms:m*size≤n*size:=Nat.mul_le_mul_right _ hm
 refine⟨by rw[List.length_take,h.1];omega,?_⟩
 rcases h.2 with⟨hv,h0⟩|⟨g,cap,cur,hv,hb,hh,hn,hc,hs,ht⟩
 ·cases hv;exact .inl ⟨by rw[show m=0 by omega],by omega⟩
 ·cases hv
  exact .inr ⟨g,_,cur,rfl,hb,hh,by omega,hc,hs,by rw[←ht,List.take_take];congr 1;omega⟩
theorem own_some {w:World} {base:Nat} {e:TypeId} {size n c:Nat} {V:Option Addr} {xs:List Value} (h:w.ownsRow base e size (.slice V n c) n xs) (hn:0<n):∃g,V=some ⟨g,0,none⟩∧base≤g∧g<w.heap.size:=by
 rcases h.2 with⟨_,h0⟩|⟨g,cap,cur,hv,hb,hh,_⟩
 ·omega
 ·cases hv;exact⟨g,rfl,hb,(Array.getElem?_eq_some_iff.1 hh).1⟩
theorem own_blk {w:World} {base:Nat} {e:TypeId} {size n c:Nat} {V:Option Addr} {xs:List Value} (h:w.ownsRow base e size (.slice V n c) n xs):∀k,blkOf V=some k→base≤k∧k<w.heap.size:=fun k hk=>by
 rw[←blk_own V n c]at hk;exact World.ownsRow.lt h k hk
theorem own_kept {w w':World} {base:Nat} {e:TypeId} {size n c:Nat} {V:Option Addr} {xs:List Value} {row:Option Nat} (h:w.ownsRow base e size (.slice V n c) n xs) (hg:w.grownBy w' row) (hne:∀k,blkOf V=some k→row≠some k):w'.ownsRow base e size (.slice V n c) n xs:=
 World.ownsRow.kept h hg (by
  rw[blk_own]
  cases hV:blkOf V with
  |none=>exact .inl rfl
  |some k=>exact .inr fun e=>hne k hV e.symm)
theorem own_mono {w:World} {base base':Nat} {e:TypeId} {size n:Nat} {v:Value} {xs:List Value} (h:w.ownsRow base e size v n xs) (hb:base'≤base):w.ownsRow base' e size v n xs:=
 ⟨h.1,h.2.imp id fun⟨g,cap,cur,e,hg,r⟩=>⟨g,cap,cur,e,by omega,r⟩⟩
theorem own_cap {w:World} {base:Nat} {e:TypeId} {size n c:Nat} {V:Option Addr} {xs:List Value} (h:w.ownsRow base e size (.slice V n c) n xs):n≤c:=by
 rcases h.2 with⟨hv,h0⟩|⟨g,cap,cur,hv,_,_,hn,_⟩
 ·omega
 ·cases hv;exact hn
def ApartB (V U:Option Addr):Prop:=∀k,blkOf V=some k→blkOf U≠some k
theorem ApartB.symm {V U:Option Addr} (h:ApartB V U):ApartB U V:=fun k hk e=>h k e hk
theorem ApartB.grown {V V' U:Option Addr} {n:Nat} (h:ApartB V U) (hU:∀k,blkOf U=some k→k<n) (hv:blkOf V'=blkOf V∨blkOf V'=some n):ApartB V' U:=fun k hk e=>by
 rcases hv with hv|hv
 ·exact h k (hv▸hk) e
 ·have:=hU k e;rw[hv]at hk;cases hk;omega
theorem ApartB.none (U:Option Addr):ApartB none U:=fun k hk=>by cases hk
theorem kept_apart {w w':World} {base:Nat} {e:TypeId} {size n c:Nat} {V U:Option Addr} {xs:List Value} (h:w.ownsRow base e size (.slice V n c) n xs) (hg:w.grownBy w' (blkOf U)) (ha:ApartB U V):w'.ownsRow base e size (.slice V n c) n xs:=
 own_kept h hg fun k hk e=>ha k e hk
theorem below_grownA {w w':World} {B base:Nat} {e:TypeId} {size n c:Nat} {V:Option Addr} {xs:List Value} (h:w.ownsRow base e size (.slice V n c) n xs) (hg:w.grownBy w' (blkOf V)) (hB:B≤base) (hw:B≤w.heap.size):Below B w w':=
 (Below.refl B w).grown hg hw fun k hk=>by have:=own_blk h k hk;omega
theorem row_blk {w:World} {b:Nat} {cs:List Value} {T:TypeId} (h:w.heap[b]?=some (.cells cs.toArray T (0,0))):RowAt w (some ⟨b,0,none⟩) cs:=fun j u hu=>by
 refine⟨_,rfl,?_⟩
 rw[Addr.add_lit]
 simp[World.cell?,h,hu]
theorem own_agree {w w':World} {base:Nat} {e:TypeId} {size n c:Nat} {V:Option Addr} {xs:List Value} (h:w.ownsRow base e size (.slice V n c) n xs) (hg:∀k,blkOf V=some k→w'.heap[k]?=w.heap[k]?):w'.ownsRow base e size (.slice V n c) n xs:=by
 refine⟨h.1,?_⟩
 rcases h.2 with h|⟨g,cap,cur,hv,hb,hh,r⟩
 ·exact .inl h
 ·cases hv
  exact .inr ⟨g,_,cur,rfl,hb,(hg g rfl).trans hh,r⟩
section
variable {P:Program} {w:World} {ops:Array Oper} {rest:List Oper} {o:Oper} {a:Act} {Q:Exit→Act→World→Prop}
theorem wpList_val (hgd:o.guard=none) {v:Value} {w':World} (hrun:(execOp a.eval o).run P w=.ok (.value v) w') (h:wpList P ops Q rest (a.put o.dst v) w'):wpList P ops Q (o::rest) a w:=
 wpList_plain hgd fun K hK=>by unfold Oper.wp;rw[hrun];exact hK _ _ h
theorem exec_move {x:Operand} {v:Value} (ho:o.op=.move x) (hx:a.eval x=v):(execOp a.eval o).run P w=.ok (.value v) w:=by
 unfold execOp;simp only[ho,hx];rfl
theorem exec_load {T:TypeId} {x:Operand} {p v:Value} (ho:o.op=.load T x) (hx:a.eval x=p) (h:(Instr.loadAt T p).run P w=.ok v w):(execOp a.eval o).run P w=.ok (.value v) w:=by
 unfold execOp;simp only[ho,hx,Sem.run_bind,h,Result.andThen_ok,Sem.run_pure]
theorem exec_build {T:TypeId} {x:Operand} {u v:Value} {w':World} (ho:o.op=.buildSlice T 1 #[(0,x)]) (hx:a.eval x=u) (h:(Instr.buildSlice T 1 #[(0,u)]).run P w=.ok v w'):(execOp a.eval o).run P w=.ok (.value v) w':=by
 unfold execOp;simp only[ho,Sem.run_bind,List.map_toArray,List.map_cons,List.map_nil,hx,h,Result.andThen_ok,Sem.run_pure]
end
theorem Below.step {w W w':World} (h:Below w.heap.size w W) (hb:Below W.heap.size W w'):Below w.heap.size w w':=h.trans (hb.mono h.size)
theorem bx_old {w:World} {b:Nat} {o p:Obj} (h:w.heap[b]?=some o):(w.alloc p).heap[b]?=some o:=(Below.heap_alloc w p b (Array.getElem?_eq_some_iff.1 h).1).trans h
theorem blk4 {w:World} {b:Nat} {x0 x1 x2 x3:Value} {T:TypeId} (h:w.heap[b]?=some (.cells #[x0,x1,x2,x3] T (0,0))):w.cell? ⟨b,0,none⟩=some x0∧w.cell? ⟨b,1,none⟩=some x1∧w.cell? ⟨b,2,none⟩=some x2∧w.cell? ⟨b,3,none⟩=some x3∧(∀i,w.frozen? ⟨b,i,none⟩=false):=by
 simp[World.cell?,World.frozen?,h]
theorem eqSet (w:World) (a0 a1 a2 a3 b0 b1 b2 b3:Int):((Op.equalIn 10000 31 (.agg #[.int .u64 a0,.int .u64 a1,.int .u64 a2,.int .u64 a3]) (.agg #[.int .u64 b0,.int .u64 b1,.int .u64 b2,.int .u64 b3])).run Tryd.prog w)=.ok (decide (a0=b0∧a1=b1∧a2=b2∧a3=b3)) w:=by
 obtain⟨i,hi⟩:=Option.isSome_iff_exists.1 (show(Tryd.prog.info? 29).isSome=true by kernel_rfl)
 have u:=Tryd.underlying29
 have ua:=Tryd.isAgg29
 have uz:=Tryd.sizeOf29
 rw[show(10000:Nat)=9999+1 from rfl,run_equalIn_array w 9999 _ _ Tryd.underlying31 hi]
 have hc:Tryd.prog.cellsOf 29=1:=by kernel_rfl
 rw[hc]
 simp only[show List.range 4=[0,1,2,3]from rfl,Op.eqItems]
 go_simp
 by_cases h0:a0=b0 <;> by_cases h1:a1=b1 <;> by_cases h2:a2=b2 <;> by_cases h3:a3=b3 <;> simp[h0,h1,h2,h3]
theorem infoBool:(Tryd.prog.info? 4).map (fun i=>(i.zero,i.size,i.bytes))=some (some (.bool false),1,1):=by kernel_rfl
theorem infoInt:(Tryd.prog.info? 3).map (fun i=>(i.zero,i.size,i.bytes))=some (some (.int .i64 0),1,8):=by kernel_rfl
end Go.Proofs.YtdnochjajoiooaaDoor
