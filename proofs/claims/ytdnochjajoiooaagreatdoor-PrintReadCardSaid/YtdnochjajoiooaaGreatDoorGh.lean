/- The contracts of math/bits.TrailingZeros64, set.Not, set.All. -/
import Derived.Test.YtdnochjajoiooaaGreatDoorGc
import Derived.Test.YtdnochjajoiooaaGreatDoorLk
import Derived.Shelf.Spec.TrailingZeros
import Derived.RangeFuncBox
import Derived.RangeFuncLeaves
import Derived.RangeFuncFrom
import Derived.RangeFuncBound
import Derived.RangeFuncCalls
import Derived.RangeFuncWrites
import Derived.Shelf.Abstract
import Derived.Shelf.RegionOpen
import Derived.OwnWalkIn
import Derived.TacticsInMore
import Derived.LoopNIn
import Derived.LoopIn
import Derived.Deep.DeepCutAuto
import Derived.Deep.Cut
import Derived.Deep.CutRange
import Derived.Deep.RegionHeld3
import Derived.BigQuiet
namespace Go.Proofs.YtdnochjajoiooaaGreatDoor
open Go.RowKit
set_option linter.unusedSimpArgs false
set_option linter.unusedVariables false
theorem Xn {w:World} {b:Nat} {x y:Value} {T:TypeId} (h:w.heap[b]?=some (.cells #[x,y] T (0,0))):
  w.cell? ⟨b,0,none⟩=some x/\w.cell? ⟨b,1,none⟩=some y/\w.frozen? ⟨b,0,none⟩=false/\w.frozen? ⟨b,1,none⟩=false:=by
 simp[World.cell?,World.frozen?,h]
def DbTab (w:World):Prop:=∀j,j<64->w.cell? ⟨3,j,none⟩=some (.int .u8 ((Lib.deBruijn64tab.getD j 0:Nat):Int))
theorem DbTab.below {w w':World} (h:DbTab w) (hb:Below w.heap.size w w'):DbTab w':=fun j hj=>(hb.cell (AP (h j hj))).trans (h j hj)
set_option maxHeartbeats 1000000 in
theorem Wh (x k idx:Nat) (w:World) (hx0:((x:Int)==0)=false)
  (key:IntKind.u64.wrap (bits BinOp.and IntKind.u64 (x:Int) (IntKind.u64.wrap (-(x:Int)))*285870213051353865)/288230376151711744=(idx:Int))
  (hi:idx<64) (hk:k<64) (hcell:w.cell? ⟨3,idx,none⟩=some (.int .u8 k)):
  Calls Tryz.prog 91 #[.int .u64 x] w fun e w'=>e=.returned (.int .i64 k)/\w'=w:=by
 go_enter Tryz.func91,Tryz.ntmps91
 go_wp2_with (simp only[key])
 go_ret;exact⟨rfl,rfl⟩
theorem Xv (x:Nat) (hx:x<18446744073709551616) (hx0:x≠0) (w:World) (hT:DbTab w):
  Calls Tryz.prog 91 #[.int .u64 (x:Int)] w fun e w'=>e=.returned (.int .i64 (Lib.ctz 64 x:Nat))/\w'=w:=by
 obtain⟨hlow,hk⟩:=Lib.lowest_bit 64 x hx0 hx;obtain⟨hi,htab⟩:=Lib.deBruijn64_at _ hk;have hcell:=hT _ hi;rw[htab]at hcell;exact Wh x _ _ w (by simp;omega) (tz64_key x _ hx hx0 hlow) hi hk hcell
end Go.Proofs.YtdnochjajoiooaaGreatDoor
/- The contract of set.each,and of the iterator that it hands back. -/
namespace Go.Proofs.YtdnochjajoiooaaGreatDoor
open Go.RowKit Go.Shelf
set_option linter.unusedSimpArgs false
set_option linter.unusedVariables false
attribute [local go_sem] Oper.semAt_some
abbrev Iz (w0 w1 w2 w3:Nat):Value:=.agg #[.int .u64 (w0:Int),.int .u64 (w1:Int),.int .u64 (w2:Int),.int .u64 (w3:Int)]
def Cs (x:Nat):Prop:=x<18446744073709551616
set_option maxHeartbeats 1000000 in
theorem Wi (F:Fence) (n:Nat) (hf:F.fn 77) (hro:F.round=none) (w0 w1 w2 w3:Nat) (w:World):
  CallsIn F n Tryz.prog 77 #[Iz w0 w1 w2 w3] w fun e w'=>e=.returned (.func (.func 90) #[] #[.pointer (some ⟨w.heap.size,0,none⟩)])/\w'=w.alloc (.cells #[.int .u64 (w0:Int),.int .u64 (w1:Int),.int .u64 (w2:Int),.int .u64 (w3:Int)] 39):=by
 refine callsIn_of_wp Tryz.func77 rfl hf ?_ hro;simp only[Tryz.ntmps77,List.size_toArray,List.length_cons,List.length_nil,Nat.reduceAdd,Nat.reduceSub,Array.replicate_succ,Array.replicate_zero,List.push_toArray,List.append_toArray,List.nil_append,List.cons_append];gi_wp2
 go_ret;exact⟨rfl,rfl⟩
def Lm (ws:List Nat) (k:Nat):List Nat:=(List.range' k (4-k)).flatMap fun i=>(Eg (ws.getD i 0)).map (i*64 + ·)
theorem Fc (ws:List Nat) (k:Nat) (hk:k<4):Lm ws k=(Eg (ws.getD k 0)).map (k*64 + ·)++Lm ws (k+1):=by
 unfold Lm;rw[show 4-k=(4-(k+1))+1 by omega,List.range'_succ,List.flatMap_cons]
theorem M5 (ws:List Nat):Lm ws 4=[]:=rfl
theorem S8 (w0 w1 w2 w3:Nat):Lm [w0,w1,w2,w3] 0=(List.range 256).filter (Cz [w0,w1,w2,w3]):=by
 rw[VA,Fc _ 0 (by omega),Fc _ 1 (by omega),Fc _ 2 (by omega),Fc _ 3 (by omega),M5];simp
theorem Wj (w0 w1 w2 w3 k:Nat) (hk:k<4):∀w,(Instr.index 39 (Iz w0 w1 w2 w3) (.int .i64 (k:Int))).run Tryz.prog w=.ok (.int .u64 (([w0,w1,w2,w3].getD k 0:Nat):Int)) w:=by
 intro w;obtain rfl|rfl|rfl|rfl:k=0\/k=1\/k=2\/k=3:=by omega
 ·exact RH _ _ _ _ w
 ·exact RI _ _ _ _ w
 ·exact RJ _ _ _ _ w
 ·exact RK _ _ _ _ w
theorem Wk {w0 w1 w2 w3:Nat} (h0:Cs w0) (h1:Cs w1) (h2:Cs w2) (h3:Cs w3) (k:Nat):Cs ([w0,w1,w2,w3].getD k 0):=by
 unfold Cs at *;rcases k with _|_|_|_|k <;> simp <;> omega
theorem Uu (x:Nat) (hx:Cs x) (h0:x≠0):bits BinOp.and IntKind.u64 (x:Int) (IntKind.u64.wrap ((x:Int)-1))=((x &&& (x-1):Nat):Int):=by
 unfold Cs at hx;rw[show IntKind.u64.wrap ((x:Int)-1)=((x-1:Nat):Int)by rw[IntKind.wrap_u64];omega];exact bits_and_u64_nat x _ hx (by omega)
theorem Xw (x:Nat) (hx:Cs x):Cs (x &&& (x-1)):=Nat.lt_of_le_of_lt Nat.and_le_left hx
set_option maxRecDepth 100000 in
set_option maxHeartbeats 1600000 in
theorem Uv (n:Nat) (hn:1<=n) (l Bn n₀ w0 w1 w2 w3:Nat) (h0:Cs w0) (h1:Cs w1) (h2:Cs w2) (h3:Cs w3) (hg:3<n₀) (J Jx:List (Fin 256)->World->Prop)
  (hJ:∀pre W W',J pre W->Below W.heap.size W W'->J pre W')
  (hY:∀pre (x:Fin 256) W,J pre W->pre.length<256->YieldAt Fence.wide (n-1) Tryz.prog l #[.int .u8 (x.val:Int)] W fun e W'=>
   (e=.returned (.bool true)/\J (pre++[x]) W'/\Below n₀ W W')\/(e=.returned (.bool false)/\Jx (pre++[x]) W'))
  (W:World) (hn₀:n₀<=W.heap.size) (ht:DbTab W) (hc:W.heap[Bn]?=some (.cells #[.int .u64 (w0:Int),.int .u64 (w1:Int),.int .u64 (w2:Int),.int .u64 (w3:Int)] 39 (0,0))) (hj0:J [] W):
  CallsIn Fence.wide n Tryz.prog 90 #[.func (.yield l) #[] #[],.pointer (some ⟨Bn,0,none⟩)] W fun e W'=>(∃v,e=.returned v) /\
   ((∃xs:List (Fin 256),xs.map Fin.val=(List.range 256).filter (Cz [w0,w1,w2,w3])/\J xs W')\/(∃pre:List (Fin 256),True/\Jx pre W')):=by
 refine callsIn_of_wp Tryz.func90 rfl trivial ?_ rfl;simp only[Tryz.ntmps90,List.size_toArray,List.length_cons,List.length_nil,Nat.reduceAdd,Nat.reduceSub,Array.replicate_succ,Array.replicate_zero,List.push_toArray,List.append_toArray,List.nil_append,List.cons_append];have hfn:∀k,Fence.wide.fn k:=fun _=>trivial
 have HT:=qd ht;have HC:=qd hc;have HLE:=qd (show((List.range 256).filter (Cz [w0,w1,w2,w3])).length<=256 from by have:=List.length_filter_le (Cz [w0,w1,w2,w3]) (List.range 256);simpa using this);obtain⟨b0,b1,b2,b3,_⟩:=DK hc;clear ht hc;gi_wp2
 clear b0 b1 b2 b3;gi_loopw [6] (fun i wr=>∃(pre:List (Fin 256)) (k:Nat),k<=4/\i=.int .i64 k/\Hid (pre.map Fin.val++Lm [w0,w1,w2,w3] k=(List.range 256).filter (Cz [w0,w1,w2,w3]))/\J pre wr/\Hid (Below n₀ W wr)) (fun i _=>4-(intOf i).toNat)
 case atStart=>exact⟨[],0,by omega,rfl,qd (S8 _ _ _ _),hj0,qd (Below.refl _ _)⟩
 case round=>
  obtain⟨pre,k,hk,rfl,HP,hj,HB⟩:=hrel;by_cases hlt:k<4
  ·have i1:(k:Int)<4:=by omega
   have ik:=Wj w0 w1 w2 w3 k hlt;have HX:=qd (Wk h0 h1 h2 h3 k);rw[Fc _ _ hlt]at HP;generalize [w0,w1,w2,w3].getD k 0=x at *;gi_wp2
   gi_loopw [4] (fun v w'=>∃(p2:List (Fin 256)) (y:Nat),v=.int .u64 (y:Int)/\Hid (Cs y)/\Hid (p2.map Fin.val++((Eg y).map (k*64 + ·)++Lm [w0,w1,w2,w3] (k+1))=(List.range 256).filter (Cz [w0,w1,w2,w3]))/\J p2 w'/\Hid (Below n₀ W w')) (fun v _=>(Eg (intOf v).toNat).length)
   case atStart=>exact⟨pre,x,rfl,HX,HP,hj,HB⟩
   case round=>
    clear hj HB HP HX ik;rename World=>wz
    obtain⟨p2,y,rfl,HY,HP,hj,HB⟩:=hrel;by_cases hy0:y=0
    ·have e0:(y:Int)=0:=by omega
     have e1:((y:Int) != 0)=false:=by simp[e0]
     gi_wp2
     subst hy0;have HPE:=HP.out;rw[TF,List.map_nil,List.nil_append]at HPE;exact⟨⟨p2,k+1,by omega,by go_num,qd HPE,hj,HB⟩,by simp only[intOf];omega⟩
    ·have e0:¬(y:Int)=0:=by omega
     have e1:((y:Int) != 0)=true:=by simpa using e0
     have HBS:=qd (TG hy0 HY.out);have HCT:=qd (Nf hy0 HY.out);have hct:Lib.ctz 64 y<64:=by obtain⟨_,_,h⟩:=HCT.out;exact h
     have HTZ:=qd (show ∀m,CallsIn Fence.wide m Tryz.prog 91 #[.int .u64 (y:Int)] wz fun e w'=>e=.returned (.int .i64 (Lib.ctz 64 y:Nat))/\w'=wz from fun m=>callsIn_wide.2 (Xv y HY.out hy0 wz (fun j hj=>(HB.out.cell (p:=⟨3,j,none⟩) hg).trans (HT.out j hj))));have HPA:=qd (Uu y HY.out hy0)
     have HLT:=qd (show p2.length<256 from by
      have h:=congrArg List.length HP.out;rw[HBS.out]at h;simp only[List.length_append,List.length_map,List.length_cons]at h;have:=HLE.out;omega)
     generalize Lib.ctz 64 y=c at *;have HKB:=qd (show k*64+c<256 from by omega);have HKC:=qd (show((k*64+c:Nat):Int)=(k:Int)*64+(c:Int)from by omega);have e5:IntKind.u8.wrap ((k:Int)*64+(c:Int))=((k*64+c:Nat):Int):=by rw[show IntKind.u8.wrap ((k:Int)*64+(c:Int))=((k:Int)*64+(c:Int))%256 by simp[IntKind.wrap,IntKind.signed,IntKind.bits]];omega
     gi_wp2_with (first|(gi_at_call 91;refine(HTZ.out _).mono ?_;rintro e w' ⟨rfl,rfl⟩;have hYb:=hY p2 ⟨k*64+c,HKB.out⟩ w' hj HLT.out;rw[show(((⟨k*64+c,HKB.out⟩:Fin 256).val:Nat):Int)=(k:Int)*64+(c:Int)from HKC.out]at hYb;obtain⟨fn,tmps,assign,body,hy,hR⟩:=hYb))
     refine hR.mono ?_;have HBK:=qd (show bits BinOp.and IntKind.u64 (y:Int) (IntKind.u64.wrap ((y:Int)-1))=((y &&& (y-1):Nat):Int)from HPA.out);rintro e W3 (⟨rfl,hJ3,hk3⟩|⟨rfl,hJx3⟩)
     ·gi_wp2
      rw[HBK.out];refine⟨⟨p2++[⟨k*64+c,HKB.out⟩],y &&& (y-1),rfl,qd (Xw y HY.out),qd ?_,hJ3,qd (HB.out.trans hk3)⟩,?_⟩
      ·rw[<-HP.out,HBS.out,List.map_cons,List.map_append,List.append_assoc];rfl
      ·simp only[intOf,Int.toNat_natCast];rw[HBS.out,List.length_cons];omega
     ·gi_wp2
      refine bodyPost_ret (v:=.tuple #[]) (by simp[results,Tryz.results90]) rfl ?_;exact⟨⟨_,rfl⟩,.inr ⟨_,trivial,hJx3⟩⟩
  ·obtain rfl:k=4:=by omega
   gi_wp2
   go_end0
   have HPE:=HP.out;rw[M5,List.append_nil]at HPE;exact⟨⟨_,rfl⟩,.inl ⟨pre,HPE,hj⟩⟩
end Go.Proofs.YtdnochjajoiooaaGreatDoor
/- The contract of set.Runs. -/
namespace Go.Proofs.YtdnochjajoiooaaGreatDoor
open Go.RowKit Go.Shelf
set_option linter.unusedSimpArgs false
set_option linter.unusedVariables false
attribute [local go_sem] Oper.semAt_some
theorem OA {w w':World} (h:Below w.heap.size w w') (row:Option Nat):w.grownBy w' row:=⟨h.os,h.tape,h.output,h.size,fun k hk _=>h.block k hk⟩
theorem Qc (n:Nat) (hn:1<=n) (Bn n₀ w0 w1 w2 w3:Nat) (h0:Cs w0) (h1:Cs w1) (h2:Cs w2) (h3:Cs w3) (w:World) (hg:3<n₀) (hn₀:n₀<=w.heap.size) (ht:DbTab w)
  (hc:w.heap[Bn]?=some (.cells #[.int .u64 (w0:Int),.int .u64 (w1:Int),.int .u64 (w2:Int),.int .u64 (w3:Int)] 39 (0,0))):
  SeqStopsK Fence.wide n Tryz.prog 90 #[.pointer (some ⟨Bn,0,none⟩)] (fun x:Fin 256=> #[Value.int .u8 (x.val:Int)]) (Below n₀)
   (fun xs:List (Fin 256)=>xs.map Fin.val=(List.range 256).filter (Cz [w0,w1,w2,w3])) (fun _=>True) 256 w:=fun l J Jx W hW hJ _ hY hj0=>
 Uv n hn l Bn n₀ w0 w1 w2 w3 h0 h1 h2 h3 hg J Jx (fun pre _ _ h hb=>hJ pre _ _ none h (OA hb none) (fun r e=>by cases e)) hY W (Nat.le_trans hn₀ hW.size) (ht.below hW) (Ae hW hc) hj0
def Fd (l:List (Nat×Nat)):List Value:=l.flatMap fun r=>[.int .u8 (r.1:Int),.int .u8 (r.2:Int)]
theorem EN (l:List (Nat×Nat)):(Fd l).length=l.length*2:=by
 induction l with
 |nil=>rfl
 |cons r l ih=>simp only[Fd,List.flatMap_cons,List.length_append,List.length_cons,List.length_nil]at ih ⊢;omega
theorem Uw:(Tryz.prog.info? 126).map (fun i=>(i.zero,i.size,i.bytes))=some (some (.agg #[.int .u8 0,.int .u8 0]),2,2):=by kernel_rfl
def CJ (pre:List (Fin 256)):List (Nat×Nat):=(pre.map Fin.val).foldl BO []
theorem OB (pre:List (Fin 256)) (x:Fin 256):CJ (pre++[x])=BO (CJ pre) x.val:=by simp[CJ]
theorem S9 {l:List (Nat×Nat)} {b:Nat} (hb:b<=255) (h:∀r∈l,r.1<=255/\r.2<=255):∀r∈BO l b,r.1<=255/\r.2<=255:=by
 intro r hr;unfold BO at hr;split at hr
 ·rename_i x y e
  have hm:=List.mem_of_getLast? e;split at hr
  ·rcases List.mem_append.1 hr with hr|hr
   ·exact h r ((List.dropLast_sublist l).subset hr)
   ·simp only[List.mem_singleton]at hr;subst hr;exact⟨(h _ hm).1,hb⟩
  ·rcases List.mem_append.1 hr with hr|hr
   ·exact h r hr
   ·simp only[List.mem_singleton]at hr;subst hr;exact⟨hb,hb⟩
 ·simp only[List.mem_singleton]at hr;subst hr;exact⟨hb,hb⟩
theorem I0:∀(m:List Nat) (l:List (Nat×Nat)),(∀b∈m,b<=255)->(∀r∈l,r.1<=255/\r.2<=255)-> ∀r∈m.foldl BO l,r.1<=255/\r.2<=255
 |[],l,_,h=>h
 |b::m,l,hm,h=>I0 m (BO l b) (fun z hz=>hm z (List.mem_cons_of_mem _ hz)) (S9 (hm b List.mem_cons_self) h)
theorem SA (pre:List (Fin 256)):∀r∈CJ pre,r.1<=255/\r.2<=255:=I0 _ _ (fun b hb=>by
 obtain⟨z,_,rfl⟩:=List.mem_map.1 hb;have:=z.isLt;omega) (by simp)
theorem Qd (pre:List (Fin 256)):(CJ pre).length<=pre.length:=by
 have h:=Hf (pre.map Fin.val) [];simpa[CJ]using h
theorem Gj (ini:List (Nat×Nat)) (x y b:Nat):BO (ini++[(x,y)]) b=if y+1=b then ini++[(x,b)]else ini++[(x,y)]++[(b,b)]:=by
 simp[BO]
theorem DR (l m:List (Nat×Nat)):Fd (l++m)=Fd l++Fd m:=by simp[Fd]
set_option maxRecDepth 100000 in
set_option maxHeartbeats 3200000 in
theorem Wl (n:Nat) (hn:3<=n) (w0 w1 w2 w3:Nat) (h0:Cs w0) (h1:Cs w1) (h2:Cs w2) (h3:Cs w3) (w:World) (ht:DbTab w):
  CallsIn Fence.wide n Tryz.prog 64 #[Iz w0 w1 w2 w3] w fun e w'=>∃(V:Option Addr) (c:Nat),e=.returned (.slice V (Co (Cz [w0,w1,w2,w3])).length c) /\
   w'.ownsRow w.heap.size 126 2 (.slice V (Co (Cz [w0,w1,w2,w3])).length c) (Co (Cz [w0,w1,w2,w3])).length (Fd (Co (Cz [w0,w1,w2,w3])))/\Below w.heap.size w w':=by
 have hn1:1<=n:=by omega
 have hn2:1<=n-1:=by omega
 have h12:1<=n-1-1:=by omega
 have hfn:∀k,Fence.wide.fn k:=fun _=>trivial
 obtain⟨j0,hj,hy0,hy1,hy2⟩:=info_parts Uw;have HT:=qd ht;have hg:3<w.heap.size:=AP (ht 0 (by decide));refine callsIn_of_wp_marks Tryz.func64 rfl trivial ?_ rfl;simp only[Tryz.ntmps64,List.size_toArray,List.length_cons,List.length_nil,Nat.reduceAdd,Nat.reduceSub,Array.replicate_succ,Array.replicate_zero,List.push_toArray,List.append_toArray,List.nil_append,List.cons_append];gi_wp2_with (first|(gi_at_call 77;refine(Wi _ _ trivial rfl w0 w1 w2 w3 _).mono ?_;rintro e w' ⟨rfl,rfl⟩))
 have HW3:=qd (bx3 w (.cells #[.int .u64 (w0:Int),.int .u64 (w1:Int),.int .u64 (w2:Int),.int .u64 (w3:Int)] 39) (.cells #[.slice none 0 0] 124) (.cells #[.int .u64 (w0:Int),.int .u64 (w1:Int),.int .u64 (w2:Int),.int .u64 (w3:Int)] 39))
 have HBN:=qd (show(((w.alloc (.cells #[.int .u64 (w0:Int),.int .u64 (w1:Int),.int .u64 (w2:Int),.int .u64 (w3:Int)] 39)).alloc (.cells #[.slice none 0 0] 124)).alloc (.cells #[.int .u64 (w0:Int),.int .u64 (w1:Int),.int .u64 (w2:Int),.int .u64 (w3:Int)] 39)).heap[w.heap.size+1+1]?=some (.cells #[.int .u64 (w0:Int),.int .u64 (w1:Int),.int .u64 (w2:Int),.int .u64 (w3:Int)] 39 (0,0))from by
  have h:=Ad ((w.alloc (.cells #[.int .u64 (w0:Int),.int .u64 (w1:Int),.int .u64 (w2:Int),.int .u64 (w3:Int)] 39)).alloc (.cells #[.slice none 0 0] 124)) (.cells #[.int .u64 (w0:Int),.int .u64 (w1:Int),.int .u64 (w2:Int),.int .u64 (w3:Int)] 39);simpa using h)
 have HBL:=qd (show Boxed (((w.alloc (.cells #[.int .u64 (w0:Int),.int .u64 (w1:Int),.int .u64 (w2:Int),.int .u64 (w3:Int)] 39)).alloc (.cells #[.slice none 0 0] 124)).alloc (.cells #[.int .u64 (w0:Int),.int .u64 (w1:Int),.int .u64 (w2:Int),.int .u64 (w3:Int)] 39)) (w.heap.size+1) 124 (.slice none 0 0)from by
  have h:=Boxed.new (w.alloc (.cells #[.int .u64 (w0:Int),.int .u64 (w1:Int),.int .u64 (w2:Int),.int .u64 (w3:Int)] 39)) 124 (.slice none 0 0);rw[World.size_alloc]at h;exact h.alloc _)
 have HZ:=qd (show(((w.alloc (.cells #[.int .u64 (w0:Int),.int .u64 (w1:Int),.int .u64 (w2:Int),.int .u64 (w3:Int)] 39)).alloc (.cells #[.slice none 0 0] 124)).alloc (.cells #[.int .u64 (w0:Int),.int .u64 (w1:Int),.int .u64 (w2:Int),.int .u64 (w3:Int)] 39)).heap.size=w.heap.size+3 from by simp);generalize (((w.alloc (.cells #[.int .u64 (w0:Int),.int .u64 (w1:Int),.int .u64 (w2:Int),.int .u64 (w3:Int)] 39)).alloc (.cells #[.slice none 0 0] 124)).alloc (.cells #[.int .u64 (w0:Int),.int .u64 (w1:Int),.int .u64 (w2:Int),.int .u64 (w3:Int)] 39))=W3 at *;have hz:=HZ.out
 refine wpIn_rangeFunc_ownG rfl hn1 (gf:=90) (lb:= #[.pointer (some ⟨w.heap.size+1+1,0,none⟩)]) rfl trivial (enters_of Tryz.func90 (by kernel_rfl) rfl)
  (Qc (n-1) hn2 (w.heap.size+1+1) (w.heap.size+1) w0 w1 w2 w3 h0 h1 h2 h3 W3 (by omega) (by omega) (HT.out.below HW3.out) HBN.out) belowK_t (belowK_b (by omega)) (Below.refl _ _) (fun _=>rfl)
  (fun pre W=>(∃v,Boxed W (w.heap.size+1) 124 v/\W.ownsRow (w.heap.size+1) 126 2 v (CJ pre).length (Fd (CJ pre))/\(∃V c,v=.slice V (CJ pre).length c))/\Below w.heap.size w W)
  (fun c pre W=>False)
  ?hI ?hIx ?h0
  (fun x=>{tmps:= #[Iz w0 w1 w2 w3,.pointer (some ⟨w.heap.size,0,none⟩),.slice none 0 0,.pointer (some ⟨w.heap.size+1,0,none⟩),.int .u8 (x.val:Int),undef,Iz w0 w1 w2 w3,.func (.func 90) #[] #[.pointer (some ⟨w.heap.size+1+1,0,none⟩)],.int .u8 (x.val:Int),undef,undef,undef,undef,undef,undef,undef,undef,undef,undef,undef,undef,undef,undef,undef,undef,undef,undef,undef,undef,undef,undef,undef,undef,undef,undef,undef,undef,undef],defers:=[]}) ?assign ?body ?done ?stop
 case hI=>exact OwnFrom.and ((holdsRow_own _ _ _ _ _ (fun pre=>(CJ pre).length) (fun pre=>Fd (CJ pre)) (fun pre v=>∃V c,v=.slice V (CJ pre).length c)).from _) (ownFrom_below (Nat.le_refl _) (by omega))
 case hIx=>exact fun c s W W' row hs _ _=>hs
 case h0=>exact⟨⟨_,HBL.out,World.ownsRow_nil _ _ _ _,none,0,rfl⟩,HW3.out⟩
 case assign=>
  intro l x W K hK;gi_wp2
  exact hK
 case body=>
  rintro l pre x W ⟨⟨v,hv,hr,V,c,rfl⟩,hB⟩ hlen
  have hlr:(CJ pre).length<=256:=by
   have h:=Qd pre;omega
  have b0:=hv.cell;have f0:=hv.frozen;have HB:=qd hB;have HV:=qd hv;have HR:=qd hr;have HSN:=qd (OB pre x);clear hB hv hr;have hzW:w.heap.size+1<=W.heap.size:=by have:=HV.out.lt;omega
  have HF:=qd (show(CJ pre).length+1<=maxLen/\((CJ pre).length+1)*2<=140737488355328/\w.heap.size+1<=(W.alloc (.cells #[.int .u8 (x.val:Int),.int .u8 (x.val:Int)] 126)).heap.size from⟨by unfold maxLen;omega,by omega,by simp;omega⟩);have HLE:=qd (SA pre);have hx:=x.isLt;generalize hrs:CJ pre=rs at *;generalize x.val=b at *
  have HCL:=qd (show ∀(j:Nat) (u:Value),[Value.int .u8 (b:Int),.int .u8 (b:Int)][j]?=some u->(W.alloc (.cells #[.int .u8 (b:Int),.int .u8 (b:Int)] 126)).cell? ((⟨W.heap.size,0,none⟩:Addr).add j)=some u from fun j u hu=>by
   obtain⟨ad,e,h⟩:=O9 (cs:=[.int .u8 (b:Int),.int .u8 (b:Int)]) (Ad W _) j u hu;cases e;exact h)
  rcases List.eq_nil_or_concat rs with h|⟨ini,r,h⟩
  ·subst h;simp only[List.length_nil]at b0 HR HF;gi_wp2_with (first|(gi_at_builtin;refine wpListIn_append_own _ rfl (.tmp 31) (.tmp 35) 124 rfl (w.heap.size+1) 126 j0 (.agg #[.int .u8 0,.int .u8 0]) 2 2 Tryz.underlying124 hj hy0 hy1 hy2 rfl (by decide) (.slice V 0 c) 0 (Fd []) rfl (World.ownsRow.alloc HR.out _) ⟨W.heap.size,0,none⟩ 1 1 [.int .u8 (b:Int),.int .u8 (b:Int)] rfl rfl HCL.out (fun u hu=>by simp only[List.mem_cons,List.not_mem_nil,or_false]at hu;rcases hu with rfl|rfl <;> rfl) HF.out.1 HF.out.2.1 HF.out.2.2 ?_;intro v' w1 hown' hgrow' hnil';obtain⟨g',cap',rfl⟩:=ownsRow_succ hown';obtain⟨k1,k2,k3,k4,k5⟩:=Boxed.appended HV.out (by decide) HR.out hzW (Nat.le_refl _) hown' hgrow';have q1:=k1.cell;have q2:=k1.frozen;have K2:=qd k2;have K3:=qd k3;have K4:=qd k4;have K5:=qd k5;clear k1 k2 k3 k4 k5 hown' hgrow' hnil'))
   refine⟨K4.out.from _,K5.out,⟨_,K2.out,?_,some ⟨g',0,none⟩,cap',?_⟩,HB.out.trans (K5.out.mono (Nat.le_succ _))⟩
   ·rw[HSN.out];exact K3.out
   ·rw[HSN.out];rfl
  ·obtain⟨x0,y0⟩:=r;rw[List.concat_eq_append]at h;subst h;rw[show(ini++[(x0,y0)]).length=ini.length+1 by simp]at b0 HR HF hlr HV;obtain⟨g,rfl,hg1,hg2⟩:=BS HR.out (by omega);have hy:y0<=255:=(HLE.out (x0,y0) (by simp)).2
   have hcl:W.cell? ⟨g,ini.length*2+1,none⟩=some (.int .u8 (y0:Int)):=by
    refine(World.ownsRow.cellAt HR.out (ini.length*2+1) (by omega)).trans ?_;rw[DR,List.getElem?_append_right (by rw[EN];omega),EN,show ini.length*2+1-ini.length*2=1 by omega];rfl
   have c1:=World.ownsRow.frozenAt HR.out (ini.length*2+1);have i1:(0:Int)<=(ini.length:Int):=by omega
   have i2:(ini.length:Int)<(ini.length:Int)+1:=by omega
   by_cases he:y0+1=b
   ·have e1:((y0:Int)+1==(b:Int))=true:=by simp;omega
    have e2:(y0:Int)+1=(b:Int):=by omega
    gi_wp2
    have hst:=World.ownsRow.stored HR.out (ini.length*2+1) (.int .u8 (b:Int));have hne:w.heap.size+1≠g:=fun e=>HV.out.not_row (by decide) HR.out (by rw[e];rfl)
    have hset:(Fd (ini++[(x0,y0)])).set (ini.length*2+1) (.int .u8 (b:Int))=Fd (ini++[(x0,b)]):=by
     rw[DR,DR,List.set_append_right _ _ (by rw[EN];omega),EN,show ini.length*2+1-ini.length*2=1 by omega];rfl
    rw[hset]at hst;refine⟨(KeepsOthers.setCell _ _ _).from _,(Below.refl _ W).setCell (p:=⟨g,ini.length*2+1,none⟩) hg1 _,⟨_,(Below.heap_setCell _ _ _ _ hne).trans HV.out,?_,some ⟨g,0,none⟩,c,?_⟩,HB.out.setCell (p:=⟨g,ini.length*2+1,none⟩) (Nat.le_trans (Nat.le_succ _) hg1) _⟩
    ·rw[HSN.out,Gj,if_pos he,show(ini++[(x0,b)]).length=ini.length+1 by simp];exact hst.1
    ·rw[HSN.out,Gj,if_pos he,show(ini++[(x0,b)]).length=ini.length+1 by simp]
   ·have e1:((y0:Int)+1==(b:Int))=false:=by simp;omega
    have e2:¬(y0:Int)+1=(b:Int):=by omega
    gi_wp2_with (first|(gi_at_builtin;refine wpListIn_append_own _ rfl (.tmp 31) (.tmp 35) 124 rfl (w.heap.size+1) 126 j0 (.agg #[.int .u8 0,.int .u8 0]) 2 2 Tryz.underlying124 hj hy0 hy1 hy2 rfl (by decide) (.slice (some ⟨g,0,none⟩) (ini.length+1) c) (ini.length+1) (Fd (ini++[(x0,y0)])) rfl (World.ownsRow.alloc HR.out _) ⟨W.heap.size,0,none⟩ 1 1 [.int .u8 (b:Int),.int .u8 (b:Int)] rfl rfl HCL.out (fun u hu=>by simp only[List.mem_cons,List.not_mem_nil,or_false]at hu;rcases hu with rfl|rfl <;> rfl) HF.out.1 HF.out.2.1 HF.out.2.2 ?_;intro v' w1 hown' hgrow' hnil';obtain⟨g',cap',rfl⟩:=ownsRow_succ hown';obtain⟨k1,k2,k3,k4,k5⟩:=Boxed.appended HV.out (by decide) HR.out hzW (Nat.le_refl _) hown' hgrow';have q1:=k1.cell;have q2:=k1.frozen;have K2:=qd k2;have K3:=qd k3;have K4:=qd k4;have K5:=qd k5;clear k1 k2 k3 k4 k5 hown' hgrow' hnil'))
    refine⟨K4.out.from _,K5.out,⟨_,K2.out,?_,some ⟨g',0,none⟩,cap',?_⟩,HB.out.trans (K5.out.mono (Nat.le_succ _))⟩
    ·rw[HSN.out,Gj,if_neg he,DR (ini++[(x0,y0)]),show(ini++[(x0,y0)]++[(b,b)]).length=ini.length+1+1 by simp];exact K3.out
    ·rw[HSN.out,Gj,if_neg he];simp
 case done=>
  rintro D ys W hD hS ⟨⟨v,hv,hr,V,c,rfl⟩,hB⟩ hK;have b0:=hv.cell;have HS:=qd (show CJ ys=Co (Cz [w0,w1,w2,w3])from by unfold CJ Co;rw[hS]);have HR:=qd hr;have HB:=qd hB;clear hS hr hB;generalize CJ ys=rs at *;gi_wp2
  refine⟨by simp,.inl ⟨_,_,rfl,run_takeDeferred hK,?_⟩⟩;refine⟨.slice V rs.length c,?_,V,c,?_,?_,?_⟩
  ·simp[results,Tryz.f64,go_sem]
  ·rw[HS.out]
  ·rw[<-HS.out];exact Cl (ownsRow_putObj HR.out _ hK rfl) (Nat.le_succ _)
  ·exact HB.out.trans (belowK_b (w:=w) (Nat.le_refl _) W D _ _ (by omega) hK rfl rfl)
 case stop=>
  rintro D c pre W hD hT h hK;exact h.elim
end Go.Proofs.YtdnochjajoiooaaGreatDoor
/- The contract of quote.Class. -/
namespace Go.Proofs.YtdnochjajoiooaaGreatDoor
open Go.RowKit Go.Shelf
set_option linter.unusedSimpArgs false
set_option linter.unusedVariables false
attribute [local go_sem] Dg
theorem JB {w w':World} {base:Nat} {e:TypeId} {size n c:Nat} {V:Option Addr} {xs:List Value} (h:w.ownsRow base e size (.slice V n c) n xs) (hk:Keeps w w') (h1:e≠50) (h2:e≠5):w'.ownsRow base e size (.slice V n c) n xs:=
 Au h (fun k hx=>by
  rcases h.2 with⟨hv,_⟩|⟨g,cap,cur,hv,hb,hh,_⟩
  ·cases hv;cases hx
  ·cases hv;cases hx;rw[hh];exact hk _ _ _ _ hh h1 h2)
theorem Qe (B b:Nat) (l:List UInt8) (c:UInt8) (n:Int) (hn:(c.toNat:Int)=n) (left:ByteArray) (w:World) (h:IsB B b l w) (hlen:l.length+4<=140737488355328) (hBw:B<=w.heap.size):
  Calls Tryz.prog 62 #[.pointer (some ⟨b,0,none⟩),.int .u8 n,.string left] w (N1 B b (l++A6 left.data.toList c) w):=by
 subst hn;exact Rq B b l c left w h hlen hBw
theorem Qf {l:List (Nat×Nat)} {b:Nat} (h:∀r∈l,r.1<=r.2):∀r∈BO l b,r.1<=r.2:=by
 intro r hr;unfold BO at hr;split at hr
 ·rename_i x y e
  have hm:=h _ (List.mem_of_getLast? e);split at hr
  ·rcases List.mem_append.1 hr with hr|hr
   ·exact h r ((List.dropLast_sublist l).subset hr)
   ·simp only[List.mem_singleton]at hr;subst hr;simp only at hm ⊢;omega
  ·rcases List.mem_append.1 hr with hr|hr
   ·exact h r hr
   ·simp only[List.mem_singleton]at hr;subst hr;exact Nat.le_refl _
 ·simp only[List.mem_singleton]at hr;subst hr;exact Nat.le_refl _
theorem Kh:∀(m:List Nat) (l:List (Nat×Nat)),(∀r∈l,r.1<=r.2)-> ∀r∈m.foldl BO l,r.1<=r.2
 |[],l,h=>h
 |b::m,l,h=>Kh m (BO l b) (Qf h)
theorem SB (f:Nat->Bool):∀r∈Co f,r.1<=r.2/\r.2<=255:=fun r hr=>⟨Kh _ _ (by simp) r hr,(I0 _ _ (fun b hb=>by have:=List.mem_range.1 (List.mem_filter.1 hb).1;omega) (by simp) r hr).2⟩
theorem Ux:(List.range 256).all (Cz [18446744073709551615,18446744073709551615,18446744073709551615,18446744073709551615])=true:=by decide +kernel
theorem Ho {x:Nat} (hx:x<2^64) (h:∀j,j<64->x.testBit j=true):x=18446744073709551615:=by
 rw[show(18446744073709551615:Nat)=2^64-1 by decide];apply Nat.eq_of_testBit_eq;intro j;rw[Nat.testBit_two_pow_sub_one];by_cases hj:j<64
 ·rw[h j hj];simp[hj]
 ·rw[Nat.testBit_lt_two_pow (Nat.lt_of_lt_of_le hx (Nat.pow_le_pow_right (by decide) (by omega)))];simp[hj]
theorem SC {w0 w1 w2 w3:Nat} (h0:Cs w0) (h1:Cs w1) (h2:Cs w2) (h3:Cs w3) (h:(List.range 256).all (Cz [w0,w1,w2,w3])=true):w0=18446744073709551615/\w1=18446744073709551615/\w2=18446744073709551615/\w3=18446744073709551615:=by
 rw[List.all_eq_true]at h
 have hb:∀i j,i<4->j<64->([w0,w1,w2,w3].getD i 0).testBit j=true:=fun i j hi hj=>by
  rw[<-EP w0 w1 w2 w3 i j hi hj];exact h _ (List.mem_range.2 (by omega))
 exact⟨Ho (by unfold Cs at h0;omega) fun j hj=>hb 0 j (by decide) hj,Ho (by unfold Cs at h1;omega) fun j hj=>hb 1 j (by decide) hj,Ho (by unfold Cs at h2;omega) fun j hj=>hb 2 j (by decide) hj,Ho (by unfold Cs at h3;omega) fun j hj=>hb 3 j (by decide) hj⟩
theorem Uy (w0 w1 w2 w3:Nat) (h0:Cs w0) (h1:Cs w1) (h2:Cs w2) (h3:Cs w3) (w:World) (ht:DbTab w):
  Calls Tryz.prog 64 #[Iz w0 w1 w2 w3] w fun e w'=>∃(V:Option Addr) (c:Nat),e=.returned (.slice V (Co (Cz [w0,w1,w2,w3])).length c) /\
   w'.ownsRow w.heap.size 126 2 (.slice V (Co (Cz [w0,w1,w2,w3])).length c) (Co (Cz [w0,w1,w2,w3])).length (Fd (Co (Cz [w0,w1,w2,w3])))/\Below w.heap.size w w':=
 (callsIn_wide (n:=3)).1 (Wl 3 (Nat.le_refl _) w0 w1 w2 w3 h0 h1 h2 h3 w ht)
set_option maxRecDepth 100000 in
set_option maxHeartbeats 3200000 in
theorem Qg (w0 w1 w2 w3:Nat) (h0:Cs w0) (h1:Cs w1) (h2:Cs w2) (h3:Cs w3) (w:World) (ht:DbTab w):
  Calls Tryz.prog 39 #[Iz w0 w1 w2 w3] w (C9 (C3 (Cz [w0,w1,w2,w3])) w):=by
 unfold C9;have HT:=qd ht;have HB0:=qd (bx1 w (.cells #[.int .u64 (w0:Int),.int .u64 (w1:Int),.int .u64 (w2:Int),.int .u64 (w3:Int)] 39));have HK0:=qd (Ad w (.cells #[.int .u64 (w0:Int),.int .u64 (w1:Int),.int .u64 (w2:Int),.int .u64 (w3:Int)] 39));go_enter Tryz.func39,Tryz.ntmps39
 go_upto_region 1 with(fail)
 generalize (w.alloc (.cells #[.int .u64 (w0:Int),.int .u64 (w1:Int),.int .u64 (w2:Int),.int .u64 (w3:Int)] 39))=W at *
 have HS:=qd (show ∀w',Below W.heap.size W w'->w'.cell? ⟨w.heap.size,0,none⟩=some (.int .u64 (w0:Int))/\w'.cell? ⟨w.heap.size,1,none⟩=some (.int .u64 (w1:Int))/\w'.cell? ⟨w.heap.size,2,none⟩=some (.int .u64 (w2:Int))/\w'.cell? ⟨w.heap.size,3,none⟩=some (.int .u64 (w3:Int))from fun w' hb=>by
  obtain⟨a,b,c,d,_⟩:=DK (Ae hb HK0.out);exact⟨a,b,c,d⟩)
 have HB8:=qd (show Below W.heap.size W W.drew from(Below.refl _ W).drew)
 go_region_held3 (fun w'=>w'.cell? ⟨w.heap.size,0,none⟩=some (.int .u64 (w0:Int))/\w'.cell? ⟨w.heap.size,1,none⟩=some (.int .u64 (w1:Int))/\w'.cell? ⟨w.heap.size,2,none⟩=some (.int .u64 (w2:Int))/\w'.cell? ⟨w.heap.size,3,none⟩=some (.int .u64 (w3:Int)))
  (exact HS.out _ HB8.out)
  (((go_at_call 63;(with_reducible refine(RL _).mono ?_);rintro e wa ⟨rfl,hba⟩;have HBn:=qd (show Below W.heap.size W wa from Below.step HB8.out hba);clear HB8 hba;have HB8:=HBn;clear HBn)))
 by_cases hall:(w0:Int)=18446744073709551615/\(w1:Int)=18446744073709551615/\(w2:Int)=18446744073709551615/\(w3:Int)=18446744073709551615
 ·have hd:=decide_eq_true hall;go_wp2_with fail
  go_ret;obtain⟨a0,a1,a2,a3⟩:=hall;obtain rfl:w0=18446744073709551615:=by omega
  obtain rfl:w1=18446744073709551615:=by omega
  obtain rfl:w2=18446744073709551615:=by omega
  obtain rfl:w3=18446744073709551615:=by omega
  exact⟨by unfold C3;rw[if_pos Ux];rfl,Below.step HB0.out HB8.out⟩
 ·have hd:=decide_eq_false hall
  have hna:¬(List.range 256).all (Cz [w0,w1,w2,w3])=true:=fun h=>by
   obtain⟨a0,a1,a2,a3⟩:=SC h0 h1 h2 h3 h;exact hall (by omega)
  have HCF:=qd (show C3 (Cz [w0,w1,w2,w3])=[91]++(Co (Cz [w0,w1,w2,w3])).flatMap Cm++[93]from by unfold C3;rw[if_neg hna]);have HBB:=qd (Below.step HB0.out HB8.out);have HI0:=qd (IsB.new wa (Nat.le_refl wa.heap.size));have HBa:=qd (bx1 wa (.cells #[.pointer none,.slice none 0 0] 50));clear hna HB0 HK0;go_wp2_with fail
  clear hall hd;refine(CY wa.heap.size wa.heap.size [] 91 _ (by rfl) _ HI0.out (by decide) HBa.out.size).mono ?_;rintro e wx ⟨rfl,g1,g2,g3⟩;have HI1:=qd g1;have HB1:=qd (HBa.out.trans g2);clear g1 g2 g3;obtain⟨p0,p1,p2,p3⟩:=HS.out wx (Below.step HB8.out HB1.out);go_wp2_with fail
  refine(Uy w0 w1 w2 w3 h0 h1 h2 h3 wx (HT.out.below (Below.step HBB.out HB1.out))).mono ?_;rintro e wy ⟨V,c,rfl,hrow,hb2⟩;have HR:=qd hrow;have HI2:=qd (HI1.out.below hb2);have HB2:=qd (HB1.out.trans (hb2.mono HB1.out.size));have HO:=qd (SB (Cz [w0,w1,w2,w3]));have HL:=qd (Nc (Cz [w0,w1,w2,w3]));clear hrow hb2 p0 p1 p2 p3 HI1;generalize Co (Cz [w0,w1,w2,w3])=L at *;have hL:=HL.out;go_wp2_with fail
  go_loopw [13] (fun i wr=>∃k:Nat,k<=L.length/\i=.int .i64 k/\Hid (IsB wa.heap.size wa.heap.size ([91]++(L.take k).flatMap Cm) wr)/\Hid (wr.ownsRow wx.heap.size 126 2 (.slice V L.length c) L.length (Fd L))/\Hid (Below wa.heap.size wa wr)) (fun i _=>L.length-(intOf i).toNat)
  case atStart=>exact⟨0,Nat.zero_le _,rfl,qd (by simpa using HI2.out),HR,HB2⟩
  case round=>
   clear HR HI2 HB2;obtain⟨k,hk,rfl,HI,HR,HB⟩:=hrel;by_cases hlt:k<L.length
   ·have i1:(k:Int)<(L.length:Int):=by omega
    have i2:(0:Int)<=(k:Int):=by omega
    obtain⟨g,rfl,hg1,hg2⟩:=BS HR.out (by omega);have hr:=HO.out L[k] (List.getElem_mem hlt)
    have hcl:∀j (hj:j<2),wr.cell? ⟨g,k*2+j,none⟩=some ([Value.int .u8 (L[k].1:Int),.int .u8 (L[k].2:Int)][j]):=fun j hj=>by
     refine(World.ownsRow.cellAt HR.out (k*2+j) (by omega)).trans ?_;have e:L=L.take k++L[k]::L.drop (k+1):=by rw[<-List.drop_eq_getElem_cons hlt,List.take_append_drop]
     conv=>lhs;rw[e]
     rw[DR,List.getElem?_append_right (by rw[EN,List.length_take];omega),EN,List.length_take,show min k L.length=k by omega,show k*2+j-k*2=j by omega];obtain rfl|rfl:j=0\/j=1:=by omega
     ·rfl
     ·rfl
    have x0:=hcl 0 (by decide);have x1:=hcl 1 (by decide);simp only[Nat.add_zero,List.getElem_cons_zero,List.getElem_cons_succ]at x0 x1
    have HTK:=qd (show(L.take (k+1)).flatMap Cm=(L.take k).flatMap Cm++Cm L[k]from by
     rw[List.take_succ_eq_append_getElem hlt,List.flatMap_append];simp)
    have HLN:=qd (show([91]++(L.take k).flatMap Cm).length+9<=140737488355328 from by
     have h1:=Fr Cm 9 (L.take k) fun x _=>LK x
     have h2:(L.take k).length<=k:=by simp;omega
     simp only[List.length_append,List.length_singleton];omega)
    clear hcl;generalize L[k]=r at *;obtain⟨a,b⟩:=r;simp only at hr x0 x1;have HNA:=qd (show((UInt8.ofNat a).toNat:Int)=(a:Int)from by simp;omega);have HNB:=qd (show((UInt8.ofNat b).toNat:Int)=(b:Int)from by simp;omega);have HKX:=qd (Ad wr (.cells #[.int .u8 (a:Int),.int .u8 (b:Int)] 126));have HWX:=qd (bx1 wr (.cells #[.int .u8 (a:Int),.int .u8 (b:Int)] 126));have HIX:=qd (HI.out.below HWX.out);have HI4:=HIX;have HB4:=qd (HB.out.trans (HWX.out.mono HB.out.size));have HK4:=qd (Keeps.below HWX.out);have HX4:=HKX;go_wp2_with fail
    refine(Qe wa.heap.size wa.heap.size _ (UInt8.ofNat a) _ HNA.out ⟨#[93,45,94]⟩ _ HI4.out (by have h1:=HLN.out;have h2:=Dv [93,45,94] (UInt8.ofNat a);simp only[List.length_append,List.length_singleton]at h1 ⊢;omega) HB4.out.size).mono ?_;rintro e w5 ⟨rfl,g1,g2,g3⟩;have HI5:=qd g1;have HB5:=qd (HB4.out.trans g2);have HK5:=qd (HK4.out.trans g3);have HX5:=qd (g3 _ _ _ _ HX4.out (by decide) (by decide));clear g1 g2 g3;obtain⟨q0,q1⟩:=Xn HX5.out;clear x0 x1;by_cases hab:a=b
    ·have HRB:=qd (show Cm (a,b)=A6 [93,45,94] (UInt8.ofNat a)from by unfold Cm;rw[if_neg (by simp only;omega),if_neg (by simp only;omega)];simp);have f1:((b:Int) != (a:Int))=false:=by simp;omega
     have f2:(b:Int)=(a:Int):=by omega
     have f3:¬(1:Int)<(b:Int)-(a:Int):=by omega
     go_wp2_with fail
     refine⟨⟨k+1,by omega,by go_num,qd ?_,qd (JB HR.out HK5.out (by decide) (by decide)),HB5⟩,by simp only[intOf];omega⟩;rw[HTK.out,HRB.out,<-List.append_assoc];have h9:=HI5.out;simp only[List.append_assoc]at h9 ⊢;exact h9
    ·have f1:((b:Int) != (a:Int))=true:=by simp;omega
     have f2:¬(b:Int)=(a:Int):=by omega
     by_cases h1:a+1=b
     ·have f3:¬(1:Int)<(b:Int)-(a:Int):=by omega
      go_wp2_with fail
      refine(Qe wa.heap.size wa.heap.size _ (UInt8.ofNat b) _ HNB.out ⟨#[93,45,94]⟩ _ HI5.out (by have h1:=HLN.out;have h2:=Dv [93,45,94] (UInt8.ofNat a);simp only[List.length_append,List.length_singleton]at h1 h2 ⊢;omega) HB5.out.size).mono ?_;rintro e w6 ⟨rfl,g1,g2,g3⟩;have HI6:=qd g1;have HB6:=qd (HB5.out.trans g2);have HK6:=qd (HK5.out.trans g3);have HX6:=qd (g3 _ _ _ _ HX5.out (by decide) (by decide));clear g1 g2 g3;have HRB:=qd (show Cm (a,b)=A6 [93,45,94] (UInt8.ofNat a)++A6 [93,45,94] (UInt8.ofNat b)from by unfold Cm;rw[if_neg (by simp only;omega),if_pos (by simpa using hab)];simp);go_wp2_with fail
      refine⟨⟨k+1,by omega,by go_num,qd ?_,qd (JB HR.out HK6.out (by decide) (by decide)),HB6⟩,by simp only[intOf];omega⟩;rw[HTK.out,HRB.out,<-List.append_assoc];have h9:=HI6.out;simp only[List.append_assoc]at h9 ⊢;exact h9
     ·have f3:(1:Int)<(b:Int)-(a:Int):=by omega
      go_wp2_with fail
      refine(CY wa.heap.size wa.heap.size _ 45 _ (by rfl) _ HI5.out (by have h1:=HLN.out;have h2:=Dv [93,45,94] (UInt8.ofNat a);simp only[List.length_append,List.length_singleton]at h1 h2 ⊢;omega) HB5.out.size).mono ?_;rintro e w6 ⟨rfl,g1,g2,g3⟩;have HI6:=qd g1;have HB6:=qd (HB5.out.trans g2);have HK6:=qd (HK5.out.trans g3);have HX6:=qd (g3 _ _ _ _ HX5.out (by decide) (by decide));clear g1 g2 g3;clear q0 q1;obtain⟨q0,q1⟩:=Xn HX6.out;go_wp2_with fail
      refine(Qe wa.heap.size wa.heap.size _ (UInt8.ofNat b) _ HNB.out ⟨#[93,45,94]⟩ _ HI6.out (by have h1:=HLN.out;have h2:=Dv [93,45,94] (UInt8.ofNat a);simp only[List.length_append,List.length_singleton]at h1 h2 ⊢;omega) HB6.out.size).mono ?_;rintro e w7 ⟨rfl,g1,g2,g3⟩;have HI7:=qd g1;have HB7:=qd (HB6.out.trans g2);have HK7:=qd (HK6.out.trans g3);have HX7:=qd (g3 _ _ _ _ HX6.out (by decide) (by decide));clear g1 g2 g3;have HRB:=qd (show Cm (a,b)=A6 [93,45,94] (UInt8.ofNat a)++[45]++A6 [93,45,94] (UInt8.ofNat b)from by unfold Cm;rw[if_pos (by simp only;omega),if_pos (by simpa using hab)]);go_wp2_with fail
      refine⟨⟨k+1,by omega,by go_num,qd ?_,qd (JB HR.out HK7.out (by decide) (by decide)),HB7⟩,by simp only[intOf];omega⟩;rw[HTK.out,HRB.out,<-List.append_assoc];have h9:=HI7.out;simp only[List.append_assoc]at h9 ⊢;exact h9
   ·obtain rfl:k=L.length:=by omega
    have HIE:=qd (show IsB wa.heap.size wa.heap.size ([91]++L.flatMap Cm) wr from by
     have h:=HI.out;rwa [List.take_length]at h)
    have HLN:=qd (show([91]++L.flatMap Cm).length+1<=140737488355328 from by
     have h1:=Fr Cm 9 L fun x _=>LK x
     simp only[List.length_append,List.length_singleton];omega)
    go_wp2_with (first
     |(go_at_call 18;(refine(CY wa.heap.size wa.heap.size _ 93 _ (by rfl) _ HIE.out HLN.out HB.out.size).mono ?_);rintro e w5 ⟨rfl,g1,g2,g3⟩;have HI5:=qd g1;have HB5:=qd (HB.out.trans g2);clear g1 g2 g3)
     |(go_at_call 23;refine(Tryz.Builder_String_any wa.heap.size wa.heap.size _ _ HI5.out HB5.out.size).mono ?_;rintro e w6 ⟨rfl,hb6⟩;have HB6:=qd (HB5.out.trans hb6);clear hb6))
    go_ret;exact⟨by rw[HCF.out];rfl,Below.step HBB.out HB6.out⟩
end Go.Proofs.YtdnochjajoiooaaGreatDoor
