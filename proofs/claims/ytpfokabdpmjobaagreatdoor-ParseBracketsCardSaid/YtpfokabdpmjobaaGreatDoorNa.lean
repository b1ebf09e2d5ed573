/- Facts of blocks and rows in memory that every layer needs. The contracts of package name and of its reference, over this seat's translation. -/
import Derived.Test.YtpfokabdpmjobaaGreatDoorLa
import Derived.Test.YtpfokabdpmjobaaGreatDoorShelf
import Derived.Maps.AppendAt
import Derived.Laws.StructEq
import Derived.ChangeKeysEq
import Derived.RegionTactic
import Derived.RegionIn
import Derived.Deep.RegionLaw
import Derived.Deep.RegionHeld3
import Derived.Test.YtpfokabdpmjobaaGreatDoorRows
import Derived.WalkKit
import Derived.WalkSpells
import Derived.WalkLawsBesides
import Derived.Lib.LaidTab
import Derived.BigQuiet
import Derived.Deep.QuietTactic
namespace Go.Proofs.YtpfokabdpmjobaaGreatDoor
open Go.RowKit
set_option linter.unusedSimpArgs false
set_option linter.unusedVariables false
theorem bx1 (w:World) (o:Obj):Below w.heap.size w (w.alloc o):=(Below.refl _ _).alloc (Nat.le_refl _) _
theorem bx2 (w:World) (o p:Obj):Below w.heap.size w ((w.alloc o).alloc p):=(bx1 w o).alloc (by simp) _
theorem bx3 (w:World) (o p q:Obj):Below w.heap.size w (((w.alloc o).alloc p).alloc q):=(bx2 w o p).alloc (by simp;omega) _
theorem blk9 {w:World} {b:Nat} {v0 v1 v2 v3 v4 v5 v6 v7 v8:Value} {T:TypeId} (h:w.heap[b]?=some (.cells #[v0,v1,v2,v3,v4,v5,v6,v7,v8] T (0,0))):
  w.cell? ⟨b,0,none⟩=some v0∧w.cell? ⟨b,1,none⟩=some v1∧w.cell? ⟨b,2,none⟩=some v2∧w.cell? ⟨b,3,none⟩=some v3∧w.cell? ⟨b,4,none⟩=some v4∧w.cell? ⟨b,5,none⟩=some v5∧w.cell? ⟨b,6,none⟩=some v6∧w.cell? ⟨b,7,none⟩=some v7∧w.cell? ⟨b,8,none⟩=some v8 ∧
  w.frozen? ⟨b,0,none⟩=false∧w.frozen? ⟨b,1,none⟩=false∧w.frozen? ⟨b,2,none⟩=false∧w.frozen? ⟨b,3,none⟩=false∧w.frozen? ⟨b,4,none⟩=false∧w.frozen? ⟨b,5,none⟩=false∧w.frozen? ⟨b,6,none⟩=false∧w.frozen? ⟨b,7,none⟩=false∧w.frozen? ⟨b,8,none⟩=false:=by
 simp[World.cell?,World.frozen?,h]
theorem bx_kept {W w':World} {b:Nat} {o:Obj} (hb:Below W.heap.size W w') (h:W.heap[b]?=some o):w'.heap[b]?=some o:=(hb.block b (Array.getElem?_eq_some_iff.1 h).1).trans h
theorem bx_new (w:World) (o:Obj):(w.alloc o).heap[w.heap.size]?=some o:=heap_alloc_new w o
theorem bx_drew {w:World} {b:Nat} {o:Obj} (h:w.heap[b]?=some o):w.drew.heap[b]?=some o:=h
theorem keptD {w w':World} {o:Obj} (hb:Below (w.alloc o).drew.heap.size (w.alloc o).drew w'):w'.heap[w.heap.size]?=some o:=bx_kept hb (bx_drew (bx_new w o))
theorem var_below {P:Program} {B g:Nat} {W W':World} {n:String} {cs:Array Value} (h:Below B W W') (hg:P.globalNamed n=some g) (hgB:g<B) (hv:W.var? P n=some cs):W'.var? P n=some cs:=by
 unfold World.var? at *
 rw[hg]at hv ⊢
 simpa[h.block g hgB]using hv
def blkOf:Option Addr→Option Nat:=fun A=>A.map Addr.block
theorem blk_own (A:Option Addr) (n c:Nat):(Value.slice A n c).ownBlock=blkOf A:=by cases A <;> rfl
section
variable {P:Program} (w:World)
theorem run_append_at (base:Nat) (t ty e:TypeId) (i:TypeInfo) (z:Value) (size bytes:Nat) (ht:P.underlying t=some (.slice e)) (hi:P.info? e=some i) (hz:i.zero=some z)
  (hsize:i.size=size) (hby:i.bytes=bytes) (hzs:z.cells.size=size) (hsz:0<size)
  (V:Option Addr) (vc n:Nat) (xs:List Value) (hown:w.ownsRow base e size (.slice V n vc) n xs)
  (A:Option Addr) (m c:Nat) (news:List Value) (hl:news.length=m*size) (hr:RowAt w A news) (h1:∀u∈news,u.oneCell'=true)
  (h63:n+m≤maxLen) (hbytes:(n+m)*bytes≤140737488355328) (hbase:base≤w.heap.size):
  ∃V' vc' w',(Builtin.append_ #[t,t] ty #[.slice V n vc,.slice A m c]).run P w=.ok (.slice V' (n+m) vc') w'∧w'.ownsRow base e size (.slice V' (n+m) vc') (n+m) (xs++news)∧w.grownBy w' (blkOf V)∧(blkOf V'=blkOf V∨blkOf V'=some w.heap.size):=by
 cases A with
 |some ad=>
  obtain⟨v',w',h,h2,h3,_,h5⟩:=run_append_own_at (P:=P) w base t ty e i z size bytes ht hi hz hsize hby hzs hsz _ n xs hown ad m c news hl
   (fun j u hu=>by obtain⟨ad',e',h⟩:=hr j u hu;cases e';exact h) h1 h63 hbytes hbase
  obtain⟨V',vc',rfl⟩:=ownsRow_slice h2
  rw[blk_own]at h3
  rw[blk_own,blk_own]at h5
  exact⟨V',vc',w',h,h2,h3,h5⟩
 |none=>
  have hn:news=[]:=by
   cases news with
   |nil=>rfl
   |cons u r=>obtain⟨_,h,_⟩:=hr 0 u rfl;cases h
  subst hn
  have hm:m=0:=by
   rcases Nat.eq_zero_or_pos m with h|h
   ·exact h
   ·have:=Nat.mul_pos h hsz;simp at hl;omega
  subst hm
  refine⟨V,vc,w,?_,by simpa using hown,World.grownBy.refl w _,.inl rfl⟩
  rcases hown.2 with⟨hv,rfl⟩|⟨g,cap,cur,hv,_,_,hnc,_⟩
  ·cases hv
   simp[Builtin.append_,run_underlying ht,sizeOf,typeInfo,hi,Builtin.lenOf,Builtin.firstCells]
  ·cases hv
   simp[Builtin.append_,run_underlying ht,sizeOf,typeInfo,hi,Builtin.lenOf,Builtin.firstCells,hnc,storeCells]
theorem wpList_append_at {ops:Array Oper} {rest:List Oper} {o:Oper} {a:Act} {Q:Exit→Act→World→Prop} (hgd:o.guard=none) (s x:Operand) (t:TypeId)
  (ho:o.op=.call {callee:=.builtin .append,args:= #[s,x],argTypes:= #[t,t]})
  (base:Nat) (e:TypeId) (i:TypeInfo) (z:Value) (size bytes:Nat) (ht:P.underlying t=some (.slice e)) (hi:P.info? e=some i) (hz:i.zero=some z)
  (hsize:i.size=size) (hby:i.bytes=bytes) (hzs:z.cells.size=size) (hsz:0<size)
  (V:Option Addr) (vc n:Nat) (xs:List Value) (hs:a.eval s=.slice V n vc) (hown:w.ownsRow base e size (.slice V n vc) n xs)
  (A:Option Addr) (m c:Nat) (news:List Value) (hx:a.eval x=.slice A m c) (hl:news.length=m*size) (hr:RowAt w A news) (h1:∀u∈news,u.oneCell'=true)
  (h63:n+m≤maxLen) (hbytes:(n+m)*bytes≤140737488355328) (hbase:base≤w.heap.size)
  (h:∀V' vc' w',Hid (w'.ownsRow base e size (.slice V' (n+m) vc') (n+m) (xs++news))→Hid (w.grownBy w' (blkOf V))→Hid (blkOf V'=blkOf V∨blkOf V'=some w.heap.size)→wpList P ops Q rest (a.put o.dst (.slice V' (n+m) vc')) w'):wpList P ops Q (o::rest) a w:=
 wpList_plain hgd fun K hK=>by
  obtain⟨V',vc',w',hrun,h2,h3,h4⟩:=run_append_at (P:=P) w base t o.type e i z size bytes ht hi hz hsize hby hzs hsz V vc n xs hown A m c news hl hr h1 h63 hbytes hbase
  unfold Oper.wp execOp
  simp only[ho,resolve,invoke,builtin,Sem.run_bind,Sem.run_pure,Result.andThen_ok,List.map_toArray,List.map_cons,List.map_nil,hs,hx,hrun]
  exact hK _ _ (h V' vc' w' h2 h3 h4)
theorem step_append_at {ops:Array Oper} {o:Oper} {a:Act} {w:World} {K:Act→World→Prop} {Q:Exit→Act→World→Prop} {E:Prop}
  (hgd:o.guard=none) (s x:Operand) (t:TypeId) (ho:o.op=.call {callee:=.builtin .append,args:= #[s,x],argTypes:= #[t,t]})
  (base:Nat) (e:TypeId) (i:TypeInfo) (z:Value) (size bytes:Nat) (ht:P.underlying t=some (.slice e)) (hi:P.info? e=some i) (hz:i.zero=some z)
  (hsize:i.size=size) (hby:i.bytes=bytes) (hzs:z.cells.size=size) (hsz:0<size)
  (V:Option Addr) (vc n:Nat) (xs:List Value) (hs:a.eval s=.slice V n vc) (hown:w.ownsRow base e size (.slice V n vc) n xs)
  (A:Option Addr) (m c:Nat) (news:List Value) (hx:a.eval x=.slice A m c) (hl:news.length=m*size) (hr:RowAt w A news) (h1:∀u∈news,u.oneCell'=true)
  (h63:n+m≤maxLen) (hbytes:(n+m)*bytes≤140737488355328) (hbase:base≤w.heap.size)
  (hK:∀V' vc' w',Hid (w'.ownsRow base e size (.slice V' (n+m) vc') (n+m) (xs++news))→Hid (w.grownBy w' (blkOf V))→Hid (blkOf V'=blkOf V∨blkOf V'=some w.heap.size)→K (a.put o.dst (.slice V' (n+m) vc')) w'):
  if Region.wanted o (yielded ops a.tmps)=true then Oper.wp P o a w K Q else E:=by
 have hw:Region.wanted o (yielded ops a.tmps)=true:=by simp[Region.wanted,hgd]
 rw[if_pos hw]
 obtain⟨V',vc',w',hrun,h2,h3,h4⟩:=run_append_at (P:=P) w base t o.type e i z size bytes ht hi hz hsize hby hzs hsz V vc n xs hown A m c news hl hr h1 h63 hbytes hbase
 unfold Oper.wp
 simp[execOp,ho,resolve,invoke,builtin,hs,hx,hrun,Result.andThen]
 exact hK _ _ _ h2 h3 h4
end
theorem own_cut {w:World} {base:Nat} {e:TypeId} {size n c:Nat} {V:Option Addr} {xs:List Value} (h:w.ownsRow base e size (.slice V n c) n xs) {m:Nat} (hm:m≤n):w.ownsRow base e size (.slice V m c) m (xs.take (m*size)):=by
 have hms:m*size≤n*size:=Nat.mul_le_mul_right _ hm
 refine⟨by rw[List.length_take,h.1];omega,?_⟩
 rcases h.2 with⟨hv,h0⟩|⟨g,cap,cur,hv,hb,hh,hn,hc,hs,ht⟩
 ·cases hv;exact .inl ⟨by rw[show m=0 by omega],by omega⟩
 ·cases hv
  exact .inr ⟨g,_,cur,rfl,hb,hh,by omega,hc,hs,by rw[←ht,List.take_take];congr 1;omega⟩
theorem own_some {w:World} {base:Nat} {e:TypeId} {size n c:Nat} {V:Option Addr} {xs:List Value} (h:w.ownsRow base e size (.slice V n c) n xs) (hn:0<n):∃g,V=some ⟨g,0,none⟩∧base≤g∧g<w.heap.size:=by
 rcases h.2 with⟨_,h0⟩|⟨g,cap,cur,hv,hb,hh,_⟩
 ·omega
 ·cases hv;exact⟨g,rfl,hb,(Array.getElem?_eq_some_iff.1 hh).1⟩
theorem own_blk {w:World} {base:Nat} {e:TypeId} {size n c:Nat} {V:Option Addr} {xs:List Value} (h:w.ownsRow base e size (.slice V n c) n xs):∀k,blkOf V=some k→base≤k∧k<w.heap.size:=fun k hk=>by
 rw[←blk_own V n c]at hk;exact World.ownsRow.lt h k hk
theorem own_kept {w w':World} {base:Nat} {e:TypeId} {size n c:Nat} {V:Option Addr} {xs:List Value} {row:Option Nat} (h:w.ownsRow base e size (.slice V n c) n xs) (hg:w.grownBy w' row) (hne:∀k,blkOf V=some k→row≠some k):w'.ownsRow base e size (.slice V n c) n xs:=
 World.ownsRow.kept h hg (by
  rw[blk_own]
  cases hV:blkOf V with
  |none=>exact .inl rfl
  |some k=>exact .inr fun e=>hne k hV e.symm)
theorem own_mono {w:World} {base base':Nat} {e:TypeId} {size n:Nat} {v:Value} {xs:List Value} (h:w.ownsRow base e size v n xs) (hb:base'≤base):w.ownsRow base' e size v n xs:=
 ⟨h.1,h.2.imp id fun⟨g,cap,cur,e,hg,r⟩=>⟨g,cap,cur,e,by omega,r⟩⟩
theorem own_cap {w:World} {base:Nat} {e:TypeId} {size n c:Nat} {V:Option Addr} {xs:List Value} (h:w.ownsRow base e size (.slice V n c) n xs):n≤c:=by
 rcases h.2 with⟨hv,h0⟩|⟨g,cap,cur,hv,_,_,hn,_⟩
 ·omega
 ·cases hv;exact hn
def ApartB (V U:Option Addr):Prop:=∀k,blkOf V=some k→blkOf U≠some k
theorem ApartB.symm {V U:Option Addr} (h:ApartB V U):ApartB U V:=fun k hk e=>h k e hk
theorem ApartB.grown {V V' U:Option Addr} {n:Nat} (h:ApartB V U) (hU:∀k,blkOf U=some k→k<n) (hv:blkOf V'=blkOf V∨blkOf V'=some n):ApartB V' U:=fun k hk e=>by
 rcases hv with hv|hv
 ·exact h k (hv▸hk) e
 ·have:=hU k e;rw[hv]at hk;cases hk;omega
theorem ApartB.none (U:Option Addr):ApartB none U:=fun k hk=>by cases hk
theorem kept_apart {w w':World} {base:Nat} {e:TypeId} {size n c:Nat} {V U:Option Addr} {xs:List Value} (h:w.ownsRow base e size (.slice V n c) n xs) (hg:w.grownBy w' (blkOf U)) (ha:ApartB U V):w'.ownsRow base e size (.slice V n c) n xs:=
 own_kept h hg fun k hk e=>ha k e hk
theorem below_grownA {w w':World} {B base:Nat} {e:TypeId} {size n c:Nat} {V:Option Addr} {xs:List Value} (h:w.ownsRow base e size (.slice V n c) n xs) (hg:w.grownBy w' (blkOf V)) (hB:B≤base) (hw:B≤w.heap.size):Below B w w':=
 (Below.refl B w).grown hg hw fun k hk=>by have:=own_blk h k hk;omega
theorem row_blk {w:World} {b:Nat} {cs:List Value} {T:TypeId} (h:w.heap[b]?=some (.cells cs.toArray T (0,0))):RowAt w (some ⟨b,0,none⟩) cs:=fun j u hu=>by
 refine⟨_,rfl,?_⟩
 rw[Addr.add_lit]
 simp[World.cell?,h,hu]
theorem own_agree {w w':World} {base:Nat} {e:TypeId} {size n c:Nat} {V:Option Addr} {xs:List Value} (h:w.ownsRow base e size (.slice V n c) n xs) (hg:∀k,blkOf V=some k→w'.heap[k]?=w.heap[k]?):w'.ownsRow base e size (.slice V n c) n xs:=by
 refine⟨h.1,?_⟩
 rcases h.2 with h|⟨g,cap,cur,hv,hb,hh,r⟩
 ·exact .inl h
 ·cases hv
  exact .inr ⟨g,_,cur,rfl,hb,(hg g rfl).trans hh,r⟩
section
variable {P:Program} {w:World} {ops:Array Oper} {rest:List Oper} {o:Oper} {a:Act} {Q:Exit→Act→World→Prop}
theorem wpList_val (hgd:o.guard=none) {v:Value} {w':World} (hrun:(execOp a.eval o).run P w=.ok (.value v) w') (h:wpList P ops Q rest (a.put o.dst v) w'):wpList P ops Q (o::rest) a w:=
 wpList_plain hgd fun K hK=>by unfold Oper.wp;rw[hrun];exact hK _ _ h
theorem exec_move {x:Operand} {v:Value} (ho:o.op=.move x) (hx:a.eval x=v):(execOp a.eval o).run P w=.ok (.value v) w:=by
 unfold execOp;simp only[ho,hx];rfl
theorem exec_load {T:TypeId} {x:Operand} {p v:Value} (ho:o.op=.load T x) (hx:a.eval x=p) (h:(Instr.loadAt T p).run P w=.ok v w):(execOp a.eval o).run P w=.ok (.value v) w:=by
 unfold execOp;simp only[ho,hx,Sem.run_bind,h,Result.andThen_ok,Sem.run_pure]
theorem exec_build {T:TypeId} {x:Operand} {u v:Value} {w':World} (ho:o.op=.buildSlice T 1 #[(0,x)]) (hx:a.eval x=u) (h:(Instr.buildSlice T 1 #[(0,u)]).run P w=.ok v w'):(execOp a.eval o).run P w=.ok (.value v) w':=by
 unfold execOp;simp only[ho,Sem.run_bind,List.map_toArray,List.map_cons,List.map_nil,hx,h,Result.andThen_ok,Sem.run_pure]
end
theorem Below.step {w W w':World} (h:Below w.heap.size w W) (hb:Below W.heap.size W w'):Below w.heap.size w w':=h.trans (hb.mono h.size)
theorem bx_old {w:World} {b:Nat} {o p:Obj} (h:w.heap[b]?=some o):(w.alloc p).heap[b]?=some o:=(Below.heap_alloc w p b (Array.getElem?_eq_some_iff.1 h).1).trans h
theorem bx2_kept {w w':World} {o p:Obj} (hb:Below ((w.alloc o).alloc p).heap.size ((w.alloc o).alloc p) w'):w'.heap[w.heap.size]?=some o∧w'.heap[w.heap.size+1]?=some p:=
 ⟨bx_kept hb (bx_old (bx_new w o)),bx_kept hb (by have:=bx_new (w.alloc o) p;simpa using this)⟩
theorem blk4 {w:World} {b:Nat} {x0 x1 x2 x3:Value} {T:TypeId} (h:w.heap[b]?=some (.cells #[x0,x1,x2,x3] T (0,0))):w.cell? ⟨b,0,none⟩=some x0∧w.cell? ⟨b,1,none⟩=some x1∧w.cell? ⟨b,2,none⟩=some x2∧w.cell? ⟨b,3,none⟩=some x3∧(∀i,w.frozen? ⟨b,i,none⟩=false):=by
 simp[World.cell?,World.frozen?,h]
theorem drewN_below {B:Nat} {w w':World} (h:Below B w w') (n:Nat):Below B w (w'.drewN n):=⟨h.1,h.2,h.3,h.4,fun k hk=>h.5 k hk⟩
theorem eqSet (w:World) (a0 a1 a2 a3 b0 b1 b2 b3:Int):((Op.equalIn 10000 30 (.agg #[.int .u64 a0,.int .u64 a1,.int .u64 a2,.int .u64 a3]) (.agg #[.int .u64 b0,.int .u64 b1,.int .u64 b2,.int .u64 b3])).run Tryz.prog w)=.ok (decide (a0=b0∧a1=b1∧a2=b2∧a3=b3)) w:=by
 obtain⟨i,hi⟩:=Option.isSome_iff_exists.1 (show(Tryz.prog.info? 28).isSome=true by kernel_rfl)
 have u:=Tryz.underlying28
 have ua:=Tryz.isAgg28
 have uz:=Tryz.sizeOf28
 rw[show(10000:Nat)=9999+1 from rfl,run_equalIn_array w 9999 _ _ Tryz.underlying30 hi]
 have hc:Tryz.prog.cellsOf 28=1:=by kernel_rfl
 rw[hc]
 simp only[show List.range 4=[0,1,2,3]from rfl,Op.eqItems]
 go_simp
 by_cases h0:a0=b0 <;> by_cases h1:a1=b1 <;> by_cases h2:a2=b2 <;> by_cases h3:a3=b3 <;> simp[h0,h1,h2,h3]
theorem infoBool:(Tryz.prog.info? 4).map (fun i=>(i.zero,i.size,i.bytes))=some (some (.bool false),1,1):=by kernel_rfl
theorem infoInt:(Tryz.prog.info? 3).map (fun i=>(i.zero,i.size,i.bytes))=some (some (.int .i64 0),1,8):=by kernel_rfl
end Go.Proofs.YtpfokabdpmjobaaGreatDoor
namespace Go.Proofs.YtpfokabdpmjobaaGreatDoor
open Go.RowKit
set_option maxHeartbeats 400000 in
theorem letter_any (b:Int) (w:World):
  Calls Tryz.prog 89 #[.int .u8 b] w fun e w'=>e=.returned (.bool (isLetter b))∧w=w':=by
 go_enter Tryz.func89,Tryz.ntmps89
 go_wp2
 all_goals (go_ret;exact⟨ret_bool (by unfold isLetter;rw[Bool.eq_iff_iff];simp;omega),rfl⟩)
set_option maxHeartbeats 400000 in
theorem digit_any (b:Int) (w:World):
  Calls Tryz.prog 90 #[.int .u8 b] w fun e w'=>e=.returned (.bool (isDigit b))∧w=w':=by
 go_enter Tryz.func90,Tryz.ntmps90
 go_wp2
 all_goals (go_ret;exact⟨ret_bool (by unfold isDigit;rw[Bool.eq_iff_iff];simp;omega),rfl⟩)
set_option maxHeartbeats 400000 in
theorem clone_any (s:ByteArray) (w:World) (hs:s.size≤281474976710656):
  Calls Tryz.prog 52 #[.string s] w fun e w'=>e=.returned (.string s)∧Below w.heap.size w w':=by
 go_enter Tryz.func52,Tryz.ntmps52
 go_wp2_with (first|(go_at_call 88;refine(Tryz.stringslite_Clone _ _ hs).mono ?_;rintro e w' ⟨rfl,hb⟩))
 go_ret
 exact⟨rfl,hb⟩
set_option maxHeartbeats 400000 in
theorem take_any (s:ByteArray) (w:World) (hs:s.size≤281474976710656):
  Calls Tryz.prog 53 #[.string s] w fun e w'=>∃t:ByteArray,e=.returned (.string t)∧t.data.toList=takeL s.data.toList∧Below w.heap.size w w':=by
 by_cases h0:0<s.size
 ·have⟨e1,e2⟩:=bytes_ne s h0
  cases hl:isLetter s[0].toNat
  ·have HT:=Lib.hid (takeL_noletter s h0 hl)
   go_enter Tryz.func53,Tryz.ntmps53
   go_wp2_with (first|(go_at_call 89;refine(letter_any _ _).mono ?_;rintro e w' ⟨rfl,rfl⟩))
   go_ret
   exact⟨_,rfl,HT.out.symm,Below.refl _ _⟩
  ·have HT:=Lib.hid (takeL_letter s h0 hl)
   go_enter Tryz.func53,Tryz.ntmps53
   go_wp2_with (first|(go_at_call 89;refine(letter_any _ _).mono ?_;rintro e w' ⟨rfl,rfl⟩))
   go_loop [3] (fun n=>∃k:Nat,1≤k∧k≤s.size∧n=.int .i64 k∧takeL s.data.toList=s.data.toList.take k++(s.data.toList.drop k).takeWhile alnum) (fun n=>s.size-(intOf n).toNat)
   case atStart=>exact⟨1,by omega,by omega,rfl,by rw[HT.out];conv=>{rhs;arg 1;rw[bytes_pos s h0]};simp⟩
   case round=>
    obtain⟨k,hk1,hk,rfl,hT⟩:=hrel
    have HK:=Lib.hid hT;clear hT
    by_cases hlt:k<s.size
    ·go_wp2_with (first|(go_at_call 89;refine(letter_any _ _).mono ?_;rintro e w' ⟨rfl,rfl⟩)|(go_at_call 90;refine(digit_any _ _).mono ?_;rintro e w' ⟨rfl,rfl⟩))
     ·refine⟨⟨k+1,by omega,by omega,by go_num,?_⟩,by simp[intOf];omega⟩
      rw[HK.out,takeWhile_yes s k hlt (by simp[alnum, *])]
     ·refine⟨⟨k+1,by omega,by omega,by go_num,?_⟩,by simp[intOf];omega⟩
      rw[HK.out,takeWhile_yes s k hlt (by simp[alnum, *])]
     ·refine(clone_any _ _ (by simp;omega)).mono ?_
      rintro e w' ⟨rfl,hb⟩
      have HF:=Lib.hid (takeWhile_no s k hlt (by simp[alnum, *]))
      go_wp2_with fail
      go_ret
      exact⟨_,rfl,by rw[HK.out,HF.out,Lib.extract_data];simp,hb⟩
    ·have HF:=Lib.hid (takeWhile_end s k (by omega))
     go_wp2_with (first|(go_at_call 89;refine(letter_any _ _).mono ?_;rintro e w' ⟨rfl,rfl⟩)|(go_at_call 90;refine(digit_any _ _).mono ?_;rintro e w' ⟨rfl,rfl⟩))
     refine(clone_any _ _ (by simp;omega)).mono ?_
     rintro e w' ⟨rfl,hb⟩
     go_wp2_with fail
     go_ret
     exact⟨_,rfl,by rw[HK.out,HF.out,Lib.extract_data];simp,hb⟩
 ·have⟨e1,e2,e3⟩:=bytes_none s h0
  go_enter Tryz.func53,Tryz.ntmps53
  go_wp2_with fail
  go_ret
  exact⟨_,rfl,by rw[e3];rfl,Below.refl _ _⟩
theorem mayL_len (s t:ByteArray) (ht:t.data.toList=takeL s.data.toList) (h1:0<s.size) (h2:s.size≤32):((t.size:Int)==(s.size:Int))=mayL s.data.toList:=by
 have hn:s.data.toList≠[]:=by rw[bytes_pos s h1];simp
 have e1:=sz_data s;have e2:=sz_data t
 rw[Bool.eq_iff_iff]
 simp only[mayL,decide_eq_true_eq,beq_iff_eq,←ht]
 have e3:=(takeL_eq_iff s.data.toList);rw[←ht]at e3;rw[e3]
 exact⟨fun h=>⟨hn,by omega,by omega⟩,fun h=>by omega⟩
set_option maxHeartbeats 400000 in
theorem may_any (s:ByteArray) (w:World) (hs:s.size≤281474976710656):
  Calls Tryz.prog 20 #[.string s] w fun e w'=>e=.returned (.bool (mayL s.data.toList))∧Below w.heap.size w w':=by
 by_cases h0:0<s.size
 ·have⟨e1,e2⟩:=bytes_ne s h0
  by_cases h1:s.size≤32
  ·go_enter Tryz.func20,Tryz.ntmps20
   go_wp2_with fail
   refine(take_any _ _ hs).mono ?_
   rintro e w' ⟨t,rfl,ht,hb⟩
   have HM:=Lib.hid (mayL_len s t ht h0 h1);clear ht
   go_wp2_with fail
   go_ret
   exact⟨ret_bool HM.out,hb⟩
  ·have HM:=Lib.hid (show mayL s.data.toList=false by have:=sz_data s;simp only[mayL,decide_eq_false_iff_not];rintro⟨_,h,_⟩;omega)
   go_enter Tryz.func20,Tryz.ntmps20
   go_wp2_with fail
   go_ret
   exact⟨ret_bool HM.out.symm,Below.refl _ _⟩
 ·have⟨e1,e2,e3⟩:=bytes_none s h0
  have HM:=Lib.hid (show mayL s.data.toList=false by rw[e3];rfl)
  go_enter Tryz.func20,Tryz.ntmps20
  go_wp2_with fail
  go_ret
  exact⟨ret_bool HM.out.symm,Below.refl _ _⟩
end Go.Proofs.YtpfokabdpmjobaaGreatDoor
