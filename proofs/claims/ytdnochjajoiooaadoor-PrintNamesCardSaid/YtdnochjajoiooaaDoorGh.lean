/- The contracts of math/bits.TrailingZeros64, set.Not, set.All. -/
import Derived.Test.YtdnochjajoiooaaDoorGc
import Derived.Test.YtdnochjajoiooaaDoorQs
import Derived.Shelf.Spec.TrailingZeros
import Derived.RangeFuncBox
import Derived.RangeFuncLeaves
import Derived.RangeFuncFrom
import Derived.RangeFuncBound
import Derived.RangeFuncCalls
import Derived.RangeFuncWrites
import Derived.Shelf.Abstract
import Derived.Shelf.RegionOpen
import Derived.OwnWalkIn
import Derived.TacticsInMore
import Derived.LoopNIn
import Derived.LoopIn
import Derived.Deep.DeepCutAuto
import Derived.Deep.Cut
import Derived.Deep.CutRange
import Derived.Deep.RegionHeld3
import Derived.BigQuiet
namespace Go.Proofs.YtdnochjajoiooaaDoor
open Go.RowKit
set_option linter.unusedSimpArgs false
set_option linter.unusedVariables false
theorem blk2q {w:World} {b:Nat} {x y:Value} {T:TypeId} (h:w.heap[b]?=some (.cells #[x,y] T (0,0))):
  w.cell? ⟨b,0,none⟩=some x∧w.cell? ⟨b,1,none⟩=some y∧w.frozen? ⟨b,0,none⟩=false∧w.frozen? ⟨b,1,none⟩=false:=by
 simp[World.cell?,World.frozen?,h]
def DbTab (w:World):Prop:=∀j,j<64→w.cell? ⟨3,j,none⟩=some (.int .u8 ((Lib.deBruijn64tab.getD j 0:Nat):Int))
theorem DbTab.below {w w':World} (h:DbTab w) (hb:Below w.heap.size w w'):DbTab w':=fun j hj=>(hb.cell (cellLt (h j hj))).trans (h j hj)
set_option maxHeartbeats 1000000 in
theorem tz_core (x k idx:Nat) (w:World) (hx0:((x:Int)==0)=false)
  (key:IntKind.u64.wrap (bits BinOp.and IntKind.u64 (x:Int) (IntKind.u64.wrap (-(x:Int)))*285870213051353865)/288230376151711744=(idx:Int))
  (hi:idx<64) (hk:k<64) (hcell:w.cell? ⟨3,idx,none⟩=some (.int .u8 k)):
  Calls Tryd.prog 94 #[.int .u64 x] w fun e w'=>e=.returned (.int .i64 k)∧w'=w:=by
 go_enter Tryd.func94,Tryd.ntmps94
 go_wp2_with (simp only[key])
 go_ret
 exact⟨rfl,rfl⟩
theorem tz_any (x:Nat) (hx:x<18446744073709551616) (hx0:x≠0) (w:World) (hT:DbTab w):
  Calls Tryd.prog 94 #[.int .u64 (x:Int)] w fun e w'=>e=.returned (.int .i64 (Lib.ctz 64 x:Nat))∧w'=w:=by
 obtain⟨hlow,hk⟩:=Lib.lowest_bit 64 x hx0 hx
 obtain⟨hi,htab⟩:=Lib.deBruijn64_at _ hk
 have hcell:=hT _ hi
 rw[htab]at hcell
 exact tz_core x _ _ w (by simp;omega) (tz64_key x _ hx hx0 hlow) hi hk hcell
end Go.Proofs.YtdnochjajoiooaaDoor
/- The contract of set.each,and of the iterator that it hands back. -/
namespace Go.Proofs.YtdnochjajoiooaaDoor
open Go.RowKit Go.Shelf
set_option linter.unusedSimpArgs false
set_option linter.unusedVariables false
attribute [local go_sem] Oper.semAt_some
abbrev wordsV (w0 w1 w2 w3:Nat):Value:=.agg #[.int .u64 (w0:Int),.int .u64 (w1:Int),.int .u64 (w2:Int),.int .u64 (w3:Int)]
def u64N (x:Nat):Prop:=x<18446744073709551616
set_option maxHeartbeats 1000000 in
theorem each_in (F:Fence) (n:Nat) (hf:F.fn 87) (hro:F.round=none) (w0 w1 w2 w3:Nat) (w:World):
  CallsIn F n Tryd.prog 87 #[wordsV w0 w1 w2 w3] w fun e w'=>e=.returned (.func (.func 93) #[] #[.pointer (some ⟨w.heap.size,0,none⟩)])∧w'=w.alloc (.cells #[.int .u64 (w0:Int),.int .u64 (w1:Int),.int .u64 (w2:Int),.int .u64 (w3:Int)] 31):=by
 refine callsIn_of_wp Tryd.func87 rfl hf ?_ hro
 simp only[Tryd.ntmps87,List.size_toArray,List.length_cons,List.length_nil,Nat.reduceAdd,Nat.reduceSub,Array.replicate_succ,Array.replicate_zero,List.push_toArray,List.append_toArray,List.nil_append,List.cons_append]
 gi_wp2
 go_ret
 exact⟨rfl,rfl⟩
def tailW (ws:List Nat) (k:Nat):List Nat:=(List.range' k (4-k)).flatMap fun i=>(bitsL (ws.getD i 0)).map (i*64 + ·)
theorem tailW_step (ws:List Nat) (k:Nat) (hk:k<4):tailW ws k=(bitsL (ws.getD k 0)).map (k*64 + ·)++tailW ws (k+1):=by
 unfold tailW
 rw[show 4-k=(4-(k+1))+1 by omega,List.range'_succ,List.flatMap_cons]
theorem tailW_end (ws:List Nat):tailW ws 4=[]:=rfl
theorem tailW_all (w0 w1 w2 w3:Nat):tailW [w0,w1,w2,w3] 0=(List.range 256).filter (hasW [w0,w1,w2,w3]):=by
 rw[set_bits,tailW_step _ 0 (by omega),tailW_step _ 1 (by omega),tailW_step _ 2 (by omega),tailW_step _ 3 (by omega),tailW_end]
 simp
theorem word_at (w0 w1 w2 w3 k:Nat) (hk:k<4):∀w,(Instr.index 31 (wordsV w0 w1 w2 w3) (.int .i64 (k:Int))).run Tryd.prog w=.ok (.int .u64 (([w0,w1,w2,w3].getD k 0:Nat):Int)) w:=by
 intro w
 obtain rfl|rfl|rfl|rfl:k=0∨k=1∨k=2∨k=3:=by omega
 ·exact word0 _ _ _ _ w
 ·exact word1 _ _ _ _ w
 ·exact word2 _ _ _ _ w
 ·exact word3 _ _ _ _ w
theorem word_lt {w0 w1 w2 w3:Nat} (h0:u64N w0) (h1:u64N w1) (h2:u64N w2) (h3:u64N w3) (k:Nat):u64N ([w0,w1,w2,w3].getD k 0):=by
 unfold u64N at *
 rcases k with _|_|_|_|k <;> simp <;> omega
theorem pred_and (x:Nat) (hx:u64N x) (h0:x≠0):bits BinOp.and IntKind.u64 (x:Int) (IntKind.u64.wrap ((x:Int)-1))=((x &&& (x-1):Nat):Int):=by
 unfold u64N at hx
 rw[show IntKind.u64.wrap ((x:Int)-1)=((x-1:Nat):Int)by rw[IntKind.wrap_u64];omega]
 exact bits_and_u64_nat x _ hx (by omega)
theorem and_lt (x:Nat) (hx:u64N x):u64N (x &&& (x-1)):=Nat.lt_of_le_of_lt Nat.and_le_left hx
set_option maxRecDepth 100000 in
set_option maxHeartbeats 1600000 in
theorem each1_in (n:Nat) (hn:1≤n) (l Bn n₀ w0 w1 w2 w3:Nat) (h0:u64N w0) (h1:u64N w1) (h2:u64N w2) (h3:u64N w3) (hg:3<n₀) (J Jx:List (Fin 256)→World→Prop)
  (hJ:∀pre W W',J pre W→Below W.heap.size W W'→J pre W')
  (hY:∀pre (x:Fin 256) W,J pre W→pre.length<256→YieldAt Fence.wide (n-1) Tryd.prog l #[.int .u8 (x.val:Int)] W fun e W'=>
   (e=.returned (.bool true)∧J (pre++[x]) W'∧Below n₀ W W')∨(e=.returned (.bool false)∧Jx (pre++[x]) W'))
  (W:World) (hn₀:n₀≤W.heap.size) (ht:DbTab W) (hc:W.heap[Bn]?=some (.cells #[.int .u64 (w0:Int),.int .u64 (w1:Int),.int .u64 (w2:Int),.int .u64 (w3:Int)] 31 (0,0))) (hj0:J [] W):
  CallsIn Fence.wide n Tryd.prog 93 #[.func (.yield l) #[] #[],.pointer (some ⟨Bn,0,none⟩)] W fun e W'=>(∃v,e=.returned v) ∧
   ((∃xs:List (Fin 256),xs.map Fin.val=(List.range 256).filter (hasW [w0,w1,w2,w3])∧J xs W')∨(∃pre:List (Fin 256),True∧Jx pre W')):=by
 refine callsIn_of_wp Tryd.func93 rfl trivial ?_ rfl
 simp only[Tryd.ntmps93,List.size_toArray,List.length_cons,List.length_nil,Nat.reduceAdd,Nat.reduceSub,Array.replicate_succ,Array.replicate_zero,List.push_toArray,List.append_toArray,List.nil_append,List.cons_append]
 have hfn:∀k,Fence.wide.fn k:=fun _=>trivial
 have HT:=Lib.hid ht;have HC:=Lib.hid hc
 have HLE:=Lib.hid (show((List.range 256).filter (hasW [w0,w1,w2,w3])).length≤256 from by have:=List.length_filter_le (hasW [w0,w1,w2,w3]) (List.range 256);simpa using this)
 obtain⟨b0,b1,b2,b3,_⟩:=blk4 hc
 clear ht hc
 gi_wp2
 clear b0 b1 b2 b3
 gi_loopw [6] (fun i wr=>∃(pre:List (Fin 256)) (k:Nat),k≤4∧i=.int .i64 k∧Hid (pre.map Fin.val++tailW [w0,w1,w2,w3] k=(List.range 256).filter (hasW [w0,w1,w2,w3]))∧J pre wr∧Hid (Below n₀ W wr)) (fun i _=>4-(intOf i).toNat)
 case atStart=>exact⟨[],0,by omega,rfl,Lib.hid (tailW_all _ _ _ _),hj0,Lib.hid (Below.refl _ _)⟩
 case round=>
  obtain⟨pre,k,hk,rfl,HP,hj,HB⟩:=hrel
  by_cases hlt:k<4
  ·have i1:(k:Int)<4:=by omega
   have ik:=word_at w0 w1 w2 w3 k hlt
   have HX:=Lib.hid (word_lt h0 h1 h2 h3 k)
   rw[tailW_step _ _ hlt]at HP
   generalize [w0,w1,w2,w3].getD k 0=x at *
   gi_wp2
   gi_loopw [4] (fun v w'=>∃(p2:List (Fin 256)) (y:Nat),v=.int .u64 (y:Int)∧Hid (u64N y)∧Hid (p2.map Fin.val++((bitsL y).map (k*64 + ·)++tailW [w0,w1,w2,w3] (k+1))=(List.range 256).filter (hasW [w0,w1,w2,w3]))∧J p2 w'∧Hid (Below n₀ W w')) (fun v _=>(bitsL (intOf v).toNat).length)
   case atStart=>exact⟨pre,x,rfl,HX,HP,hj,HB⟩
   case round=>
    clear hj HB HP HX ik
    rename World=>wz
    obtain⟨p2,y,rfl,HY,HP,hj,HB⟩:=hrel
    by_cases hy0:y=0
    ·have e0:(y:Int)=0:=by omega
     have e1:((y:Int) != 0)=false:=by simp[e0]
     gi_wp2
     subst hy0
     have HPE:=HP.out
     rw[bits_zero,List.map_nil,List.nil_append]at HPE
     exact⟨⟨p2,k+1,by omega,by go_num,Lib.hid HPE,hj,HB⟩,by simp only[intOf];omega⟩
    ·have e0:¬(y:Int)=0:=by omega
     have e1:((y:Int) != 0)=true:=by simpa using e0
     have HBS:=Lib.hid (bits_step hy0 HY.out)
     have HCT:=Lib.hid (low_parts hy0 HY.out)
     have hct:Lib.ctz 64 y<64:=by obtain⟨_,_,h⟩:=HCT.out;exact h
     have HTZ:=Lib.hid (show ∀m,CallsIn Fence.wide m Tryd.prog 94 #[.int .u64 (y:Int)] wz fun e w'=>e=.returned (.int .i64 (Lib.ctz 64 y:Nat))∧w'=wz from fun m=>callsIn_wide.2 (tz_any y HY.out hy0 wz (fun j hj=>(HB.out.cell (p:=⟨3,j,none⟩) hg).trans (HT.out j hj))))
     have HPA:=Lib.hid (pred_and y HY.out hy0)
     have HLT:=Lib.hid (show p2.length<256 from by
      have h:=congrArg List.length HP.out
      rw[HBS.out]at h
      simp only[List.length_append,List.length_map,List.length_cons]at h
      have:=HLE.out;omega)
     generalize Lib.ctz 64 y=c at *
     have HKB:=Lib.hid (show k*64+c<256 from by omega)
     have HKC:=Lib.hid (show((k*64+c:Nat):Int)=(k:Int)*64+(c:Int)from by omega)
     have e5:IntKind.u8.wrap ((k:Int)*64+(c:Int))=((k*64+c:Nat):Int):=by rw[show IntKind.u8.wrap ((k:Int)*64+(c:Int))=((k:Int)*64+(c:Int))%256 by simp[IntKind.wrap,IntKind.signed,IntKind.bits]];omega
     gi_wp2_with (first|(gi_at_call 94;refine(HTZ.out _).mono ?_;rintro e w' ⟨rfl,rfl⟩;have hYb:=hY p2 ⟨k*64+c,HKB.out⟩ w' hj HLT.out;rw[show(((⟨k*64+c,HKB.out⟩:Fin 256).val:Nat):Int)=(k:Int)*64+(c:Int)from HKC.out]at hYb;obtain⟨fn,tmps,assign,body,hy,hR⟩:=hYb))
     refine hR.mono ?_
     have HBK:=Lib.hid (show bits BinOp.and IntKind.u64 (y:Int) (IntKind.u64.wrap ((y:Int)-1))=((y &&& (y-1):Nat):Int)from HPA.out)
     rintro e W3 (⟨rfl,hJ3,hk3⟩|⟨rfl,hJx3⟩)
     ·gi_wp2
      rw[HBK.out]
      refine⟨⟨p2++[⟨k*64+c,HKB.out⟩],y &&& (y-1),rfl,Lib.hid (and_lt y HY.out),Lib.hid ?_,hJ3,Lib.hid (HB.out.trans hk3)⟩,?_⟩
      ·rw[←HP.out,HBS.out,List.map_cons,List.map_append,List.append_assoc];rfl
      ·simp only[intOf,Int.toNat_natCast]
       rw[HBS.out,List.length_cons]
       omega
     ·gi_wp2
      refine bodyPost_ret (v:=.tuple #[]) (by simp[results,Tryd.results93]) rfl ?_
      exact⟨⟨_,rfl⟩,.inr ⟨_,trivial,hJx3⟩⟩
  ·obtain rfl:k=4:=by omega
   gi_wp2
   go_end0
   have HPE:=HP.out
   rw[tailW_end,List.append_nil]at HPE
   exact⟨⟨_,rfl⟩,.inl ⟨pre,HPE,hj⟩⟩
end Go.Proofs.YtdnochjajoiooaaDoor
/- The contract of set.Runs. -/
namespace Go.Proofs.YtdnochjajoiooaaDoor
open Go.RowKit Go.Shelf
set_option linter.unusedSimpArgs false
set_option linter.unusedVariables false
attribute [local go_sem] Oper.semAt_some
theorem grown_below {w w':World} (h:Below w.heap.size w w') (row:Option Nat):w.grownBy w' row:=⟨h.os,h.tape,h.output,h.size,fun k hk _=>h.block k hk⟩
theorem each_stops (n:Nat) (hn:1≤n) (Bn n₀ w0 w1 w2 w3:Nat) (h0:u64N w0) (h1:u64N w1) (h2:u64N w2) (h3:u64N w3) (w:World) (hg:3<n₀) (hn₀:n₀≤w.heap.size) (ht:DbTab w)
  (hc:w.heap[Bn]?=some (.cells #[.int .u64 (w0:Int),.int .u64 (w1:Int),.int .u64 (w2:Int),.int .u64 (w3:Int)] 31 (0,0))):
  SeqStopsK Fence.wide n Tryd.prog 93 #[.pointer (some ⟨Bn,0,none⟩)] (fun x:Fin 256=> #[Value.int .u8 (x.val:Int)]) (Below n₀)
   (fun xs:List (Fin 256)=>xs.map Fin.val=(List.range 256).filter (hasW [w0,w1,w2,w3])) (fun _=>True) 256 w:=fun l J Jx W hW hJ _ hY hj0=>
 each1_in n hn l Bn n₀ w0 w1 w2 w3 h0 h1 h2 h3 hg J Jx (fun pre _ _ h hb=>hJ pre _ _ none h (grown_below hb none) (fun r e=>by cases e)) hY W (Nat.le_trans hn₀ hW.size) (ht.below hW) (bx_kept hW hc) hj0
def runsV (l:List (Nat×Nat)):List Value:=l.flatMap fun r=>[.int .u8 (r.1:Int),.int .u8 (r.2:Int)]
theorem runsV_len (l:List (Nat×Nat)):(runsV l).length=l.length*2:=by
 induction l with
 |nil=>rfl
 |cons r l ih=>simp only[runsV,List.flatMap_cons,List.length_append,List.length_cons,List.length_nil]at ih ⊢;omega
theorem infoPair:(Tryd.prog.info? 124).map (fun i=>(i.zero,i.size,i.bytes))=some (some (.agg #[.int .u8 0,.int .u8 0]),2,2):=by kernel_rfl
def runsOf (pre:List (Fin 256)):List (Nat×Nat):=(pre.map Fin.val).foldl addRun []
theorem runsOf_snoc (pre:List (Fin 256)) (x:Fin 256):runsOf (pre++[x])=addRun (runsOf pre) x.val:=by simp[runsOf]
theorem addRun_le {l:List (Nat×Nat)} {b:Nat} (hb:b≤255) (h:∀r∈l,r.1≤255∧r.2≤255):∀r∈addRun l b,r.1≤255∧r.2≤255:=by
 intro r hr
 unfold addRun at hr
 split at hr
 ·rename_i x y e
  have hm:=List.mem_of_getLast? e
  split at hr
  ·rcases List.mem_append.1 hr with hr|hr
   ·exact h r ((List.dropLast_sublist l).subset hr)
   ·simp only[List.mem_singleton]at hr;subst hr;exact⟨(h _ hm).1,hb⟩
  ·rcases List.mem_append.1 hr with hr|hr
   ·exact h r hr
   ·simp only[List.mem_singleton]at hr;subst hr;exact⟨hb,hb⟩
 ·simp only[List.mem_singleton]at hr;subst hr;exact⟨hb,hb⟩
theorem foldRun_le:∀(m:List Nat) (l:List (Nat×Nat)),(∀b∈m,b≤255)→(∀r∈l,r.1≤255∧r.2≤255)→ ∀r∈m.foldl addRun l,r.1≤255∧r.2≤255
 |[],l,_,h=>h
 |b::m,l,hm,h=>foldRun_le m (addRun l b) (fun z hz=>hm z (List.mem_cons_of_mem _ hz)) (addRun_le (hm b List.mem_cons_self) h)
theorem runsOf_le (pre:List (Fin 256)):∀r∈runsOf pre,r.1≤255∧r.2≤255:=foldRun_le _ _ (fun b hb=>by
 obtain⟨z,_,rfl⟩:=List.mem_map.1 hb
 have:=z.isLt;omega) (by simp)
theorem runsOf_len (pre:List (Fin 256)):(runsOf pre).length≤pre.length:=by
 have h:=foldRun_len (pre.map Fin.val) []
 simpa[runsOf]using h
theorem addRun_end (ini:List (Nat×Nat)) (x y b:Nat):addRun (ini++[(x,y)]) b=if y+1=b then ini++[(x,b)]else ini++[(x,y)]++[(b,b)]:=by
 simp[addRun]
theorem runsV_append (l m:List (Nat×Nat)):runsV (l++m)=runsV l++runsV m:=by simp[runsV]
set_option maxRecDepth 100000 in
set_option maxHeartbeats 3200000 in
theorem runs_in (n:Nat) (hn:3≤n) (w0 w1 w2 w3:Nat) (h0:u64N w0) (h1:u64N w1) (h2:u64N w2) (h3:u64N w3) (w:World) (ht:DbTab w):
  CallsIn Fence.wide n Tryd.prog 75 #[wordsV w0 w1 w2 w3] w fun e w'=>∃(V:Option Addr) (c:Nat),e=.returned (.slice V (runsF (hasW [w0,w1,w2,w3])).length c) ∧
   w'.ownsRow w.heap.size 124 2 (.slice V (runsF (hasW [w0,w1,w2,w3])).length c) (runsF (hasW [w0,w1,w2,w3])).length (runsV (runsF (hasW [w0,w1,w2,w3])))∧Below w.heap.size w w':=by
 have hn1:1≤n:=by omega
 have hn2:1≤n-1:=by omega
 have h12:1≤n-1-1:=by omega
 have hfn:∀k,Fence.wide.fn k:=fun _=>trivial
 obtain⟨j0,hj,hy0,hy1,hy2⟩:=info_parts infoPair
 have HT:=Lib.hid ht
 have hg:3<w.heap.size:=cellLt (ht 0 (by decide))
 refine callsIn_of_wp_marks Tryd.func75 rfl trivial ?_ rfl
 simp only[Tryd.ntmps75,List.size_toArray,List.length_cons,List.length_nil,Nat.reduceAdd,Nat.reduceSub,Array.replicate_succ,Array.replicate_zero,List.push_toArray,List.append_toArray,List.nil_append,List.cons_append]
 gi_wp2_with (first|(gi_at_call 87;refine(each_in _ _ trivial rfl w0 w1 w2 w3 _).mono ?_;rintro e w' ⟨rfl,rfl⟩))
 have HW3:=Lib.hid (bx3 w (.cells #[.int .u64 (w0:Int),.int .u64 (w1:Int),.int .u64 (w2:Int),.int .u64 (w3:Int)] 31) (.cells #[.slice none 0 0] 122) (.cells #[.int .u64 (w0:Int),.int .u64 (w1:Int),.int .u64 (w2:Int),.int .u64 (w3:Int)] 31))
 have HBN:=Lib.hid (show(((w.alloc (.cells #[.int .u64 (w0:Int),.int .u64 (w1:Int),.int .u64 (w2:Int),.int .u64 (w3:Int)] 31)).alloc (.cells #[.slice none 0 0] 122)).alloc (.cells #[.int .u64 (w0:Int),.int .u64 (w1:Int),.int .u64 (w2:Int),.int .u64 (w3:Int)] 31)).heap[w.heap.size+1+1]?=some (.cells #[.int .u64 (w0:Int),.int .u64 (w1:Int),.int .u64 (w2:Int),.int .u64 (w3:Int)] 31 (0,0))from by
  have h:=bx_new ((w.alloc (.cells #[.int .u64 (w0:Int),.int .u64 (w1:Int),.int .u64 (w2:Int),.int .u64 (w3:Int)] 31)).alloc (.cells #[.slice none 0 0] 122)) (.cells #[.int .u64 (w0:Int),.int .u64 (w1:Int),.int .u64 (w2:Int),.int .u64 (w3:Int)] 31)
  simpa using h)
 have HBL:=Lib.hid (show Boxed (((w.alloc (.cells #[.int .u64 (w0:Int),.int .u64 (w1:Int),.int .u64 (w2:Int),.int .u64 (w3:Int)] 31)).alloc (.cells #[.slice none 0 0] 122)).alloc (.cells #[.int .u64 (w0:Int),.int .u64 (w1:Int),.int .u64 (w2:Int),.int .u64 (w3:Int)] 31)) (w.heap.size+1) 122 (.slice none 0 0)from by
  have h:=Boxed.new (w.alloc (.cells #[.int .u64 (w0:Int),.int .u64 (w1:Int),.int .u64 (w2:Int),.int .u64 (w3:Int)] 31)) 122 (.slice none 0 0)
  rw[World.size_alloc]at h
  exact h.alloc _)
 have HZ:=Lib.hid (show(((w.alloc (.cells #[.int .u64 (w0:Int),.int .u64 (w1:Int),.int .u64 (w2:Int),.int .u64 (w3:Int)] 31)).alloc (.cells #[.slice none 0 0] 122)).alloc (.cells #[.int .u64 (w0:Int),.int .u64 (w1:Int),.int .u64 (w2:Int),.int .u64 (w3:Int)] 31)).heap.size=w.heap.size+3 from by simp)
 generalize (((w.alloc (.cells #[.int .u64 (w0:Int),.int .u64 (w1:Int),.int .u64 (w2:Int),.int .u64 (w3:Int)] 31)).alloc (.cells #[.slice none 0 0] 122)).alloc (.cells #[.int .u64 (w0:Int),.int .u64 (w1:Int),.int .u64 (w2:Int),.int .u64 (w3:Int)] 31))=W3 at *
 have hz:=HZ.out
 refine wpIn_rangeFunc_ownG rfl hn1 (gf:=93) (lb:= #[.pointer (some ⟨w.heap.size+1+1,0,none⟩)]) rfl trivial (enters_of Tryd.func93 (by kernel_rfl) rfl)
  (each_stops (n-1) hn2 (w.heap.size+1+1) (w.heap.size+1) w0 w1 w2 w3 h0 h1 h2 h3 W3 (by omega) (by omega) (HT.out.below HW3.out) HBN.out) belowK_t (belowK_b (by omega)) (Below.refl _ _) (fun _=>rfl)
  (fun pre W=>(∃v,Boxed W (w.heap.size+1) 122 v∧W.ownsRow (w.heap.size+1) 124 2 v (runsOf pre).length (runsV (runsOf pre))∧(∃V c,v=.slice V (runsOf pre).length c))∧Below w.heap.size w W)
  (fun c pre W=>False)
  ?hI ?hIx ?h0
  (fun x=>{tmps:= #[wordsV w0 w1 w2 w3,.pointer (some ⟨w.heap.size,0,none⟩),.slice none 0 0,.pointer (some ⟨w.heap.size+1,0,none⟩),.int .u8 (x.val:Int),undef,wordsV w0 w1 w2 w3,.func (.func 93) #[] #[.pointer (some ⟨w.heap.size+1+1,0,none⟩)],.int .u8 (x.val:Int),undef,undef,undef,undef,undef,undef,undef,undef,undef,undef,undef,undef,undef,undef,undef,undef,undef,undef,undef,undef,undef,undef,undef,undef,undef,undef,undef,undef,undef],defers:=[]}) ?assign ?body ?done ?stop
 case hI=>exact OwnFrom.and ((holdsRow_own _ _ _ _ _ (fun pre=>(runsOf pre).length) (fun pre=>runsV (runsOf pre)) (fun pre v=>∃V c,v=.slice V (runsOf pre).length c)).from _) (ownFrom_below (Nat.le_refl _) (by omega))
 case hIx=>exact fun c s W W' row hs _ _=>hs
 case h0=>exact⟨⟨_,HBL.out,World.ownsRow_nil _ _ _ _,none,0,rfl⟩,HW3.out⟩
 case assign=>
  intro l x W K hK
  gi_wp2
  exact hK
 case body=>
  rintro l pre x W ⟨⟨v,hv,hr,V,c,rfl⟩,hB⟩ hlen
  have hlr:(runsOf pre).length≤256:=by
   have h:=runsOf_len pre
   omega
  have b0:=hv.cell;have f0:=hv.frozen
  have HB:=Lib.hid hB;have HV:=Lib.hid hv;have HR:=Lib.hid hr
  have HSN:=Lib.hid (runsOf_snoc pre x)
  clear hB hv hr
  have hzW:w.heap.size+1≤W.heap.size:=by have:=HV.out.lt;omega
  have HF:=Lib.hid (show(runsOf pre).length+1≤maxLen∧((runsOf pre).length+1)*2≤140737488355328∧w.heap.size+1≤(W.alloc (.cells #[.int .u8 (x.val:Int),.int .u8 (x.val:Int)] 124)).heap.size from⟨by unfold maxLen;omega,by omega,by simp;omega⟩)
  have HLE:=Lib.hid (runsOf_le pre)
  have hx:=x.isLt
  generalize hrs:runsOf pre=rs at *
  generalize x.val=b at *
  have HCL:=Lib.hid (show ∀(j:Nat) (u:Value),[Value.int .u8 (b:Int),.int .u8 (b:Int)][j]?=some u→(W.alloc (.cells #[.int .u8 (b:Int),.int .u8 (b:Int)] 124)).cell? ((⟨W.heap.size,0,none⟩:Addr).add j)=some u from fun j u hu=>by
   obtain⟨ad,e,h⟩:=rowB_blk (cs:=[.int .u8 (b:Int),.int .u8 (b:Int)]) (bx_new W _) j u hu
   cases e;exact h)
  rcases List.eq_nil_or_concat rs with h|⟨ini,r,h⟩
  ·subst h
   simp only[List.length_nil]at b0 HR HF
   gi_wp2_with (first|(gi_at_builtin;refine wpListIn_append_own _ rfl (.tmp 31) (.tmp 35) 122 rfl (w.heap.size+1) 124 j0 (.agg #[.int .u8 0,.int .u8 0]) 2 2 Tryd.underlying122 hj hy0 hy1 hy2 rfl (by decide) (.slice V 0 c) 0 (runsV []) rfl (World.ownsRow.alloc HR.out _) ⟨W.heap.size,0,none⟩ 1 1 [.int .u8 (b:Int),.int .u8 (b:Int)] rfl rfl HCL.out (fun u hu=>by simp only[List.mem_cons,List.not_mem_nil,or_false]at hu;rcases hu with rfl|rfl <;> rfl) HF.out.1 HF.out.2.1 HF.out.2.2 ?_;intro v' w1 hown' hgrow' hnil';obtain⟨g',cap',rfl⟩:=ownsRow_succ hown';obtain⟨k1,k2,k3,k4,k5⟩:=Boxed.appended HV.out (by decide) HR.out hzW (Nat.le_refl _) hown' hgrow';have q1:=k1.cell;have q2:=k1.frozen;have K2:=Lib.hid k2;have K3:=Lib.hid k3;have K4:=Lib.hid k4;have K5:=Lib.hid k5;clear k1 k2 k3 k4 k5 hown' hgrow' hnil'))
   refine⟨K4.out.from _,K5.out,⟨_,K2.out,?_,some ⟨g',0,none⟩,cap',?_⟩,HB.out.trans (K5.out.mono (Nat.le_succ _))⟩
   ·rw[HSN.out];exact K3.out
   ·rw[HSN.out];rfl
  ·obtain⟨x0,y0⟩:=r
   rw[List.concat_eq_append]at h
   subst h
   rw[show(ini++[(x0,y0)]).length=ini.length+1 by simp]at b0 HR HF hlr HV
   obtain⟨g,rfl,hg1,hg2⟩:=own_some HR.out (by omega)
   have hy:y0≤255:=(HLE.out (x0,y0) (by simp)).2
   have hcl:W.cell? ⟨g,ini.length*2+1,none⟩=some (.int .u8 (y0:Int)):=by
    refine(World.ownsRow.cellAt HR.out (ini.length*2+1) (by omega)).trans ?_
    rw[runsV_append,List.getElem?_append_right (by rw[runsV_len];omega),runsV_len,show ini.length*2+1-ini.length*2=1 by omega]
    rfl
   have c1:=World.ownsRow.frozenAt HR.out (ini.length*2+1)
   have i1:(0:Int)≤(ini.length:Int):=by omega
   have i2:(ini.length:Int)<(ini.length:Int)+1:=by omega
   by_cases he:y0+1=b
   ·have e1:((y0:Int)+1==(b:Int))=true:=by simp;omega
    have e2:(y0:Int)+1=(b:Int):=by omega
    gi_wp2
    have hst:=World.ownsRow.stored HR.out (ini.length*2+1) (.int .u8 (b:Int))
    have hne:w.heap.size+1≠g:=fun e=>HV.out.not_row (by decide) HR.out (by rw[e];rfl)
    have hset:(runsV (ini++[(x0,y0)])).set (ini.length*2+1) (.int .u8 (b:Int))=runsV (ini++[(x0,b)]):=by
     rw[runsV_append,runsV_append,List.set_append_right _ _ (by rw[runsV_len];omega),runsV_len,show ini.length*2+1-ini.length*2=1 by omega]
     rfl
    rw[hset]at hst
    refine⟨(KeepsOthers.setCell _ _ _).from _,(Below.refl _ W).setCell (p:=⟨g,ini.length*2+1,none⟩) hg1 _,⟨_,(Below.heap_setCell _ _ _ _ hne).trans HV.out,?_,some ⟨g,0,none⟩,c,?_⟩,HB.out.setCell (p:=⟨g,ini.length*2+1,none⟩) (Nat.le_trans (Nat.le_succ _) hg1) _⟩
    ·rw[HSN.out,addRun_end,if_pos he,show(ini++[(x0,b)]).length=ini.length+1 by simp];exact hst.1
    ·rw[HSN.out,addRun_end,if_pos he,show(ini++[(x0,b)]).length=ini.length+1 by simp]
   ·have e1:((y0:Int)+1==(b:Int))=false:=by simp;omega
    have e2:¬(y0:Int)+1=(b:Int):=by omega
    gi_wp2_with (first|(gi_at_builtin;refine wpListIn_append_own _ rfl (.tmp 31) (.tmp 35) 122 rfl (w.heap.size+1) 124 j0 (.agg #[.int .u8 0,.int .u8 0]) 2 2 Tryd.underlying122 hj hy0 hy1 hy2 rfl (by decide) (.slice (some ⟨g,0,none⟩) (ini.length+1) c) (ini.length+1) (runsV (ini++[(x0,y0)])) rfl (World.ownsRow.alloc HR.out _) ⟨W.heap.size,0,none⟩ 1 1 [.int .u8 (b:Int),.int .u8 (b:Int)] rfl rfl HCL.out (fun u hu=>by simp only[List.mem_cons,List.not_mem_nil,or_false]at hu;rcases hu with rfl|rfl <;> rfl) HF.out.1 HF.out.2.1 HF.out.2.2 ?_;intro v' w1 hown' hgrow' hnil';obtain⟨g',cap',rfl⟩:=ownsRow_succ hown';obtain⟨k1,k2,k3,k4,k5⟩:=Boxed.appended HV.out (by decide) HR.out hzW (Nat.le_refl _) hown' hgrow';have q1:=k1.cell;have q2:=k1.frozen;have K2:=Lib.hid k2;have K3:=Lib.hid k3;have K4:=Lib.hid k4;have K5:=Lib.hid k5;clear k1 k2 k3 k4 k5 hown' hgrow' hnil'))
    refine⟨K4.out.from _,K5.out,⟨_,K2.out,?_,some ⟨g',0,none⟩,cap',?_⟩,HB.out.trans (K5.out.mono (Nat.le_succ _))⟩
    ·rw[HSN.out,addRun_end,if_neg he,runsV_append (ini++[(x0,y0)]),show(ini++[(x0,y0)]++[(b,b)]).length=ini.length+1+1 by simp];exact K3.out
    ·rw[HSN.out,addRun_end,if_neg he];simp
 case done=>
  rintro D ys W hD hS ⟨⟨v,hv,hr,V,c,rfl⟩,hB⟩ hK
  have b0:=hv.cell
  have HS:=Lib.hid (show runsOf ys=runsF (hasW [w0,w1,w2,w3])from by unfold runsOf runsF;rw[hS])
  have HR:=Lib.hid hr;have HB:=Lib.hid hB
  clear hS hr hB
  generalize runsOf ys=rs at *
  gi_wp2
  refine⟨by simp,.inl ⟨_,_,rfl,run_takeDeferred hK,?_⟩⟩
  refine⟨.slice V rs.length c,?_,V,c,?_,?_,?_⟩
  ·simp[results,Tryd.f75,go_sem]
  ·rw[HS.out]
  ·rw[←HS.out]
   exact own_mono (ownsRow_putObj HR.out _ hK rfl) (Nat.le_succ _)
  ·exact HB.out.trans (belowK_b (w:=w) (Nat.le_refl _) W D _ _ (by omega) hK rfl rfl)
 case stop=>
  rintro D c pre W hD hT h hK
  exact h.elim
end Go.Proofs.YtdnochjajoiooaaDoor
/- The contract of quote.Class. -/
namespace Go.Proofs.YtdnochjajoiooaaDoor
open Go.RowKit Go.Shelf
set_option linter.unusedSimpArgs false
set_option linter.unusedVariables false
attribute [local go_sem] eqSet
theorem keeps_row {w w':World} {base:Nat} {e:TypeId} {size n c:Nat} {V:Option Addr} {xs:List Value} (h:w.ownsRow base e size (.slice V n c) n xs) (hk:Keeps w w') (h1:e≠69) (h2:e≠5):w'.ownsRow base e size (.slice V n c) n xs:=
 own_agree h (fun k hx=>by
  rcases h.2 with⟨hv,_⟩|⟨g,cap,cur,hv,hb,hh,_⟩
  ·cases hv;cases hx
  ·cases hv;cases hx
   rw[hh];exact hk _ _ _ _ hh h1 h2)
theorem put_at (B b:Nat) (l:List UInt8) (c:UInt8) (n:Int) (hn:(c.toNat:Int)=n) (left:ByteArray) (w:World) (h:IsB B b l w) (hlen:l.length+4≤140737488355328) (hBw:B≤w.heap.size):
  Calls Tryd.prog 73 #[.pointer (some ⟨b,0,none⟩),.int .u8 n,.string left] w (PutPost B b (l++signB left.data.toList c) w):=by
 subst hn;exact put_any B b l c left w h hlen hBw
theorem addRun_ord {l:List (Nat×Nat)} {b:Nat} (h:∀r∈l,r.1≤r.2):∀r∈addRun l b,r.1≤r.2:=by
 intro r hr
 unfold addRun at hr
 split at hr
 ·rename_i x y e
  have hm:=h _ (List.mem_of_getLast? e)
  split at hr
  ·rcases List.mem_append.1 hr with hr|hr
   ·exact h r ((List.dropLast_sublist l).subset hr)
   ·simp only[List.mem_singleton]at hr;subst hr;simp only at hm ⊢;omega
  ·rcases List.mem_append.1 hr with hr|hr
   ·exact h r hr
   ·simp only[List.mem_singleton]at hr;subst hr;exact Nat.le_refl _
 ·simp only[List.mem_singleton]at hr;subst hr;exact Nat.le_refl _
theorem foldRun_ord:∀(m:List Nat) (l:List (Nat×Nat)),(∀r∈l,r.1≤r.2)→ ∀r∈m.foldl addRun l,r.1≤r.2
 |[],l,h=>h
 |b::m,l,h=>foldRun_ord m (addRun l b) (addRun_ord h)
theorem runsF_ord (f:Nat→Bool):∀r∈runsF f,r.1≤r.2∧r.2≤255:=fun r hr=>⟨foldRun_ord _ _ (by simp) r hr,(foldRun_le _ _ (fun b hb=>by have:=List.mem_range.1 (List.mem_filter.1 hb).1;omega) (by simp) r hr).2⟩
theorem ones_all:(List.range 256).all (hasW [18446744073709551615,18446744073709551615,18446744073709551615,18446744073709551615])=true:=by decide +kernel
theorem full_word {x:Nat} (hx:x<2^64) (h:∀j,j<64→x.testBit j=true):x=18446744073709551615:=by
 rw[show(18446744073709551615:Nat)=2^64-1 by decide]
 apply Nat.eq_of_testBit_eq
 intro j
 rw[Nat.testBit_two_pow_sub_one]
 by_cases hj:j<64
 ·rw[h j hj];simp[hj]
 ·rw[Nat.testBit_lt_two_pow (Nat.lt_of_lt_of_le hx (Nat.pow_le_pow_right (by decide) (by omega)))];simp[hj]
theorem all_words {w0 w1 w2 w3:Nat} (h0:u64N w0) (h1:u64N w1) (h2:u64N w2) (h3:u64N w3) (h:(List.range 256).all (hasW [w0,w1,w2,w3])=true):w0=18446744073709551615∧w1=18446744073709551615∧w2=18446744073709551615∧w3=18446744073709551615:=by
 rw[List.all_eq_true]at h
 have hb:∀i j,i<4→j<64→([w0,w1,w2,w3].getD i 0).testBit j=true:=fun i j hi hj=>by
  rw[←has_block w0 w1 w2 w3 i j hi hj];exact h _ (List.mem_range.2 (by omega))
 exact⟨full_word (by unfold u64N at h0;omega) fun j hj=>hb 0 j (by decide) hj,full_word (by unfold u64N at h1;omega) fun j hj=>hb 1 j (by decide) hj,full_word (by unfold u64N at h2;omega) fun j hj=>hb 2 j (by decide) hj,full_word (by unfold u64N at h3;omega) fun j hj=>hb 3 j (by decide) hj⟩
theorem runs_any (w0 w1 w2 w3:Nat) (h0:u64N w0) (h1:u64N w1) (h2:u64N w2) (h3:u64N w3) (w:World) (ht:DbTab w):
  Calls Tryd.prog 75 #[wordsV w0 w1 w2 w3] w fun e w'=>∃(V:Option Addr) (c:Nat),e=.returned (.slice V (runsF (hasW [w0,w1,w2,w3])).length c) ∧
   w'.ownsRow w.heap.size 124 2 (.slice V (runsF (hasW [w0,w1,w2,w3])).length c) (runsF (hasW [w0,w1,w2,w3])).length (runsV (runsF (hasW [w0,w1,w2,w3])))∧Below w.heap.size w w':=
 (callsIn_wide (n:=3)).1 (runs_in 3 (Nat.le_refl _) w0 w1 w2 w3 h0 h1 h2 h3 w ht)
set_option maxRecDepth 100000 in
set_option maxHeartbeats 3200000 in
theorem qclass_any (w0 w1 w2 w3:Nat) (h0:u64N w0) (h1:u64N w1) (h2:u64N w2) (h3:u64N w3) (w:World) (ht:DbTab w):
  Calls Tryd.prog 60 #[wordsV w0 w1 w2 w3] w (TextPost (classF (hasW [w0,w1,w2,w3])) w):=by
 unfold TextPost
 have HT:=Lib.hid ht
 have HB0:=Lib.hid (bx1 w (.cells #[.int .u64 (w0:Int),.int .u64 (w1:Int),.int .u64 (w2:Int),.int .u64 (w3:Int)] 31))
 have HK0:=Lib.hid (bx_new w (.cells #[.int .u64 (w0:Int),.int .u64 (w1:Int),.int .u64 (w2:Int),.int .u64 (w3:Int)] 31))
 go_enter Tryd.func60,Tryd.ntmps60
 go_upto_region 1 with(fail)
 generalize (w.alloc (.cells #[.int .u64 (w0:Int),.int .u64 (w1:Int),.int .u64 (w2:Int),.int .u64 (w3:Int)] 31))=W at *
 have HS:=Lib.hid (show ∀w',Below W.heap.size W w'→w'.cell? ⟨w.heap.size,0,none⟩=some (.int .u64 (w0:Int))∧w'.cell? ⟨w.heap.size,1,none⟩=some (.int .u64 (w1:Int))∧w'.cell? ⟨w.heap.size,2,none⟩=some (.int .u64 (w2:Int))∧w'.cell? ⟨w.heap.size,3,none⟩=some (.int .u64 (w3:Int))from fun w' hb=>by
  obtain⟨a,b,c,d,_⟩:=blk4 (bx_kept hb HK0.out);exact⟨a,b,c,d⟩)
 have HB8:=Lib.hid (show Below W.heap.size W W.drew from(Below.refl _ W).drew)
 go_region_held3 (fun w'=>w'.cell? ⟨w.heap.size,0,none⟩=some (.int .u64 (w0:Int))∧w'.cell? ⟨w.heap.size,1,none⟩=some (.int .u64 (w1:Int))∧w'.cell? ⟨w.heap.size,2,none⟩=some (.int .u64 (w2:Int))∧w'.cell? ⟨w.heap.size,3,none⟩=some (.int .u64 (w3:Int)))
  (exact HS.out _ HB8.out)
  (((go_at_call 74;(with_reducible refine(all_any _).mono ?_);rintro e wa ⟨rfl,hba⟩;have HBn:=Lib.hid (show Below W.heap.size W wa from Below.step HB8.out hba);clear HB8 hba;have HB8:=HBn;clear HBn)))
 by_cases hall:(w0:Int)=18446744073709551615∧(w1:Int)=18446744073709551615∧(w2:Int)=18446744073709551615∧(w3:Int)=18446744073709551615
 ·have hd:=decide_eq_true hall
  go_wp2_with fail
  go_ret
  obtain⟨a0,a1,a2,a3⟩:=hall
  obtain rfl:w0=18446744073709551615:=by omega
  obtain rfl:w1=18446744073709551615:=by omega
  obtain rfl:w2=18446744073709551615:=by omega
  obtain rfl:w3=18446744073709551615:=by omega
  exact⟨by unfold classF;rw[if_pos ones_all];rfl,Below.step HB0.out HB8.out⟩
 ·have hd:=decide_eq_false hall
  have hna:¬(List.range 256).all (hasW [w0,w1,w2,w3])=true:=fun h=>by
   obtain⟨a0,a1,a2,a3⟩:=all_words h0 h1 h2 h3 h
   exact hall (by omega)
  have HCF:=Lib.hid (show classF (hasW [w0,w1,w2,w3])=[91]++(runsF (hasW [w0,w1,w2,w3])).flatMap runB++[93]from by unfold classF;rw[if_neg hna])
  have HBB:=Lib.hid (Below.step HB0.out HB8.out)
  have HI0:=Lib.hid (IsB.new wa (Nat.le_refl wa.heap.size))
  have HBa:=Lib.hid (bx1 wa (.cells #[.pointer none,.slice none 0 0] 69))
  clear hna HB0 HK0
  go_wp2_with fail
  clear hall hd
  refine(wbyte_at wa.heap.size wa.heap.size [] 91 _ (by rfl) _ HI0.out (by decide) HBa.out.size).mono ?_
  rintro e wx ⟨rfl,g1,g2,g3⟩
  have HI1:=Lib.hid g1;have HB1:=Lib.hid (HBa.out.trans g2)
  clear g1 g2 g3
  obtain⟨p0,p1,p2,p3⟩:=HS.out wx (Below.step HB8.out HB1.out)
  go_wp2_with fail
  refine(runs_any w0 w1 w2 w3 h0 h1 h2 h3 wx (HT.out.below (Below.step HBB.out HB1.out))).mono ?_
  rintro e wy ⟨V,c,rfl,hrow,hb2⟩
  have HR:=Lib.hid hrow;have HI2:=Lib.hid (HI1.out.below hb2);have HB2:=Lib.hid (HB1.out.trans (hb2.mono HB1.out.size))
  have HO:=Lib.hid (runsF_ord (hasW [w0,w1,w2,w3]))
  have HL:=Lib.hid (runsF_len (hasW [w0,w1,w2,w3]))
  clear hrow hb2 p0 p1 p2 p3 HI1
  generalize runsF (hasW [w0,w1,w2,w3])=L at *
  have hL:=HL.out
  go_wp2_with fail
  go_loopw [13] (fun i wr=>∃k:Nat,k≤L.length∧i=.int .i64 k∧Hid (IsB wa.heap.size wa.heap.size ([91]++(L.take k).flatMap runB) wr)∧Hid (wr.ownsRow wx.heap.size 124 2 (.slice V L.length c) L.length (runsV L))∧Hid (Below wa.heap.size wa wr)) (fun i _=>L.length-(intOf i).toNat)
  case atStart=>exact⟨0,Nat.zero_le _,rfl,Lib.hid (by simpa using HI2.out),HR,HB2⟩
  case round=>
   clear HR HI2 HB2
   obtain⟨k,hk,rfl,HI,HR,HB⟩:=hrel
   by_cases hlt:k<L.length
   ·have i1:(k:Int)<(L.length:Int):=by omega
    have i2:(0:Int)≤(k:Int):=by omega
    obtain⟨g,rfl,hg1,hg2⟩:=own_some HR.out (by omega)
    have hr:=HO.out L[k] (List.getElem_mem hlt)
    have hcl:∀j (hj:j<2),wr.cell? ⟨g,k*2+j,none⟩=some ([Value.int .u8 (L[k].1:Int),.int .u8 (L[k].2:Int)][j]):=fun j hj=>by
     refine(World.ownsRow.cellAt HR.out (k*2+j) (by omega)).trans ?_
     have e:L=L.take k++L[k]::L.drop (k+1):=by rw[←List.drop_eq_getElem_cons hlt,List.take_append_drop]
     conv=>lhs;rw[e]
     rw[runsV_append,List.getElem?_append_right (by rw[runsV_len,List.length_take];omega),runsV_len,List.length_take,show min k L.length=k by omega,show k*2+j-k*2=j by omega]
     obtain rfl|rfl:j=0∨j=1:=by omega
     ·rfl
     ·rfl
    have x0:=hcl 0 (by decide);have x1:=hcl 1 (by decide)
    simp only[Nat.add_zero,List.getElem_cons_zero,List.getElem_cons_succ]at x0 x1
    have HTK:=Lib.hid (show(L.take (k+1)).flatMap runB=(L.take k).flatMap runB++runB L[k]from by
     rw[List.take_succ_eq_append_getElem hlt,List.flatMap_append];simp)
    have HLN:=Lib.hid (show([91]++(L.take k).flatMap runB).length+9≤140737488355328 from by
     have h1:=flat_len runB 9 (L.take k) fun x _=>runB_len x
     have h2:(L.take k).length≤k:=by simp;omega
     simp only[List.length_append,List.length_singleton];omega)
    clear hcl
    generalize L[k]=r at *
    obtain⟨a,b⟩:=r
    simp only at hr x0 x1
    have HNA:=Lib.hid (show((UInt8.ofNat a).toNat:Int)=(a:Int)from by simp;omega)
    have HNB:=Lib.hid (show((UInt8.ofNat b).toNat:Int)=(b:Int)from by simp;omega)
    have HKX:=Lib.hid (bx_new wr (.cells #[.int .u8 (a:Int),.int .u8 (b:Int)] 124))
    have HWX:=Lib.hid (bx1 wr (.cells #[.int .u8 (a:Int),.int .u8 (b:Int)] 124))
    have HIX:=Lib.hid (HI.out.below HWX.out)
    have HI4:=HIX
    have HB4:=Lib.hid (HB.out.trans (HWX.out.mono HB.out.size))
    have HK4:=Lib.hid (Keeps.below HWX.out)
    have HX4:=HKX
    go_wp2_with fail
    refine(put_at wa.heap.size wa.heap.size _ (UInt8.ofNat a) _ HNA.out ⟨#[93,45,94]⟩ _ HI4.out (by have h1:=HLN.out;have h2:=signB_len [93,45,94] (UInt8.ofNat a);simp only[List.length_append,List.length_singleton]at h1 ⊢;omega) HB4.out.size).mono ?_
    rintro e w5 ⟨rfl,g1,g2,g3⟩
    have HI5:=Lib.hid g1
    have HB5:=Lib.hid (HB4.out.trans g2)
    have HK5:=Lib.hid (HK4.out.trans g3)
    have HX5:=Lib.hid (g3 _ _ _ _ HX4.out (by decide) (by decide))
    clear g1 g2 g3
    obtain⟨q0,q1⟩:=blk2q HX5.out
    clear x0 x1
    by_cases hab:a=b
    ·have HRB:=Lib.hid (show runB (a,b)=signB [93,45,94] (UInt8.ofNat a)from by unfold runB;rw[if_neg (by simp only;omega),if_neg (by simp only;omega)];simp)
     have f1:((b:Int) != (a:Int))=false:=by simp;omega
     have f2:(b:Int)=(a:Int):=by omega
     have f3:¬(1:Int)<(b:Int)-(a:Int):=by omega
     go_wp2_with fail
     refine⟨⟨k+1,by omega,by go_num,Lib.hid ?_,Lib.hid (keeps_row HR.out HK5.out (by decide) (by decide)),HB5⟩,by simp only[intOf];omega⟩
     rw[HTK.out,HRB.out,←List.append_assoc]
     have h9:=HI5.out
     simp only[List.append_assoc]at h9 ⊢
     exact h9
    ·have f1:((b:Int) != (a:Int))=true:=by simp;omega
     have f2:¬(b:Int)=(a:Int):=by omega
     by_cases h1:a+1=b
     ·have f3:¬(1:Int)<(b:Int)-(a:Int):=by omega
      go_wp2_with fail
      refine(put_at wa.heap.size wa.heap.size _ (UInt8.ofNat b) _ HNB.out ⟨#[93,45,94]⟩ _ HI5.out (by have h1:=HLN.out;have h2:=signB_len [93,45,94] (UInt8.ofNat a);simp only[List.length_append,List.length_singleton]at h1 h2 ⊢;omega) HB5.out.size).mono ?_
      rintro e w6 ⟨rfl,g1,g2,g3⟩
      have HI6:=Lib.hid g1
      have HB6:=Lib.hid (HB5.out.trans g2)
      have HK6:=Lib.hid (HK5.out.trans g3)
      have HX6:=Lib.hid (g3 _ _ _ _ HX5.out (by decide) (by decide))
      clear g1 g2 g3
      have HRB:=Lib.hid (show runB (a,b)=signB [93,45,94] (UInt8.ofNat a)++signB [93,45,94] (UInt8.ofNat b)from by unfold runB;rw[if_neg (by simp only;omega),if_pos (by simpa using hab)];simp)
      go_wp2_with fail
      refine⟨⟨k+1,by omega,by go_num,Lib.hid ?_,Lib.hid (keeps_row HR.out HK6.out (by decide) (by decide)),HB6⟩,by simp only[intOf];omega⟩
      rw[HTK.out,HRB.out,←List.append_assoc]
      have h9:=HI6.out
      simp only[List.append_assoc]at h9 ⊢
      exact h9
     ·have f3:(1:Int)<(b:Int)-(a:Int):=by omega
      go_wp2_with fail
      refine(wbyte_at wa.heap.size wa.heap.size _ 45 _ (by rfl) _ HI5.out (by have h1:=HLN.out;have h2:=signB_len [93,45,94] (UInt8.ofNat a);simp only[List.length_append,List.length_singleton]at h1 h2 ⊢;omega) HB5.out.size).mono ?_
      rintro e w6 ⟨rfl,g1,g2,g3⟩
      have HI6:=Lib.hid g1
      have HB6:=Lib.hid (HB5.out.trans g2)
      have HK6:=Lib.hid (HK5.out.trans g3)
      have HX6:=Lib.hid (g3 _ _ _ _ HX5.out (by decide) (by decide))
      clear g1 g2 g3
      clear q0 q1
      obtain⟨q0,q1⟩:=blk2q HX6.out
      go_wp2_with fail
      refine(put_at wa.heap.size wa.heap.size _ (UInt8.ofNat b) _ HNB.out ⟨#[93,45,94]⟩ _ HI6.out (by have h1:=HLN.out;have h2:=signB_len [93,45,94] (UInt8.ofNat a);simp only[List.length_append,List.length_singleton]at h1 h2 ⊢;omega) HB6.out.size).mono ?_
      rintro e w7 ⟨rfl,g1,g2,g3⟩
      have HI7:=Lib.hid g1
      have HB7:=Lib.hid (HB6.out.trans g2)
      have HK7:=Lib.hid (HK6.out.trans g3)
      have HX7:=Lib.hid (g3 _ _ _ _ HX6.out (by decide) (by decide))
      clear g1 g2 g3
      have HRB:=Lib.hid (show runB (a,b)=signB [93,45,94] (UInt8.ofNat a)++[45]++signB [93,45,94] (UInt8.ofNat b)from by unfold runB;rw[if_pos (by simp only;omega),if_pos (by simpa using hab)])
      go_wp2_with fail
      refine⟨⟨k+1,by omega,by go_num,Lib.hid ?_,Lib.hid (keeps_row HR.out HK7.out (by decide) (by decide)),HB7⟩,by simp only[intOf];omega⟩
      rw[HTK.out,HRB.out,←List.append_assoc]
      have h9:=HI7.out
      simp only[List.append_assoc]at h9 ⊢
      exact h9
   ·obtain rfl:k=L.length:=by omega
    have HIE:=Lib.hid (show IsB wa.heap.size wa.heap.size ([91]++L.flatMap runB) wr from by
     have h:=HI.out;rwa [List.take_length]at h)
    have HLN:=Lib.hid (show([91]++L.flatMap runB).length+1≤140737488355328 from by
     have h1:=flat_len runB 9 L fun x _=>runB_len x
     simp only[List.length_append,List.length_singleton];omega)
    go_wp2_with (first
     |(go_at_call 33;(refine(wbyte_at wa.heap.size wa.heap.size _ 93 _ (by rfl) _ HIE.out HLN.out HB.out.size).mono ?_);rintro e w5 ⟨rfl,g1,g2,g3⟩;have HI5:=Lib.hid g1;have HB5:=Lib.hid (HB.out.trans g2);clear g1 g2 g3)
     |(go_at_call 38;refine(Tryd.Builder_String_any wa.heap.size wa.heap.size _ _ HI5.out HB5.out.size).mono ?_;rintro e w6 ⟨rfl,hb6⟩;have HB6:=Lib.hid (HB5.out.trans hb6);clear hb6))
    go_ret
    exact⟨by rw[HCF.out];rfl,Below.step HBB.out HB6.out⟩
end Go.Proofs.YtdnochjajoiooaaDoor
