/- The contract of lex.Words. -/
import Derived.Test.YtdnochjajoiooaaGreatDoorLt
import Derived.Test.YtdnochjajoiooaaGreatDoorLs
import Derived.Test.YtdnochjajoiooaaGreatDoorDq
import Derived.Laws.IdiomStrings
import Derived.RangeFuncNested
import Derived.Sort.QuietIn
namespace Go.Proofs.YtdnochjajoiooaaGreatDoor
open Go.RowKit Go.Shelf
set_option linter.unusedSimpArgs false
set_option linter.unusedVariables false
attribute [local go_sem] Oper.semAt_some
theorem Pp:(Tryz.prog.info? 106).map (fun i=>(i.zero,i.size,i.bytes))=some (some (wdV ⟨0,0,0,[],0,0,0,0,0,0⟩),10,88):=by kernel_rfl
def wdL (l:List Wd):List Value:=(l.map fun x=>(wdC x).toList).flatten
def Ga (s:List UInt8) (w:World) (e:Ending) (w':World):Prop:=
 ∃A c,e=.returned (.tuple #[.slice A (AD s).1.length c,.int .i64 ((AD s).2.1:Int),.int .i64 ((AD s).2.2:Int)])/\w'.ownsRow w.heap.size 106 10 (.slice A (AD s).1.length c) (AD s).1.length (wdL (AD s).1)/\Below w.heap.size w w'
theorem Pq (l:List Wd) (x:Wd):wdL (l++[x])=wdL l++(wdC x).toList:=by simp[wdL]
theorem WU (l:List Wd):(wdL l).length=l.length*10:=by
 induction l with
 |nil=>rfl
 |cons x l ih=>simp only[wdL,List.map_cons,List.flatten_cons,List.length_append]at ih ⊢;rw[ih];simp[wdC];omega
theorem WV (x:Wd):∀u∈(wdC x).toList,u.oneCell'=true:=by simp[wdC,Value.oneCell']
structure WdI (w:World) (s:List UInt8) (pre:List El) (W:World):Prop where
 row:∃V c,Boxed W w.heap.size 68 (.slice V pre.length c)/\W.ownsRow w.heap.size 106 10 (.slice V pre.length c) pre.length (wdL (pre.map El.wd))
 at':Boxed W (w.heap.size+1) 3 (.int .i64 0)
 er':Boxed W (w.heap.size+1+1) 28 (.int .i64 0)
 below:Below w.heap.size w W
 ok:∀x∈pre,x.er=0
 run:RW s (A9 s 0)=(pre.map El.wd++(RW s (nxW s pre)).1,(RW s (nxW s pre)).2)
structure WdX (w:World) (s:List UInt8) (W:World):Prop where
 row:Boxed W w.heap.size 68 (.slice none 0 0)
 res:∃a:Nat,AD s=([],a,4)/\Boxed W (w.heap.size+1) 3 (.int .i64 (a:Int))
 er':Boxed W (w.heap.size+1+1) 28 (.int .i64 4)
 below:Below w.heap.size w W
theorem WdI.turn {w:World} {s:List UInt8} {pre:List El} {W W':World} {row:Option Nat} (h:WdI w s pre W) (hg:W.grownBy W' row)
  (hr:∀k,row=some k->w.heap.size+4<=k/\ ∃o:Obj,W.heap[k]?=some o/\o.isCells=false):WdI w s pre W':=by
 obtain⟨⟨V,c,h1,h2⟩,h3,h4,h5,h6,h7⟩:=h;refine⟨⟨V,c,h1.kept hg (fun e=>by have:=(hr _ e.symm).1;omega),h2.kept hg ?_⟩,h3.kept hg (fun e=>by have:=(hr _ e.symm).1;omega),h4.kept hg (fun e=>by have:=(hr _ e.symm).1;omega),h5.grown hg h5.size (fun k hk=>by have:=(hr k hk).1;omega),h6,h7⟩;rcases h2.2 with⟨hv,_⟩|⟨g,cap,cur,hv,hb,hh,_⟩
 ·exact .inl (by rw[hv];rfl)
 ·refine .inr fun e=> ?_
  rw[hv]at e;obtain⟨o,ho,hc⟩:=(hr g (by simpa[Value.ownBlock]using e.symm)).2;rw[hh]at ho;cases ho;cases hc
theorem WdX.turn {w:World} {s:List UInt8} {W W':World} {row:Option Nat} (h:WdX w s W) (hg:W.grownBy W' row) (hr:∀k,row=some k->w.heap.size+4<=k):WdX w s W':=by
 obtain⟨h1,⟨a,h2,h3⟩,h4,h5⟩:=h;exact⟨h1.kept hg (fun e=>by have:=hr _ e.symm;omega),⟨a,h2,h3.kept hg (fun e=>by have:=hr _ e.symm;omega)⟩,h4.kept hg (fun e=>by have:=hr _ e.symm;omega),h5.grown hg h5.size (fun k hk=>by have:=hr k hk;omega)⟩
theorem Gt {w w':World} (h:Below w.heap.size w w'):w.grownBy w' none:=⟨h.os,h.tape,h.output,h.size,fun k hk _=>h.block k hk⟩
theorem QF {W0 W w4:World} {b n c B:Nat} {V:Option Addr} {xs:List Value} {v v':Value} {o1 o2:Obj} (hr:W0.ownsRow b 106 10 (.slice V n c) n xs) (hB:Boxed W0 B 68 v) (hb:Below W0.heap.size W0 W)
  (hg:((W.alloc o1).alloc o2).grownBy w4 (Value.slice V n c).ownBlock):KpW W (w4.setCell ⟨B,0,none⟩ v')/\X6 W0 W (w4.setCell ⟨B,0,none⟩ v'):=by
 have h2:Below W.heap.size W ((W.alloc o1).alloc o2):=((Below.refl _ W).alloc (Nat.le_refl _) o1).alloc (by simp) o2
 have same:∀k,k<W.heap.size->some k≠(Value.slice V n c).ownBlock->k≠B->(w4.setCell ⟨B,0,none⟩ v').heap[k]?=W.heap[k]? :=fun k hk h1 h3=>
  ((grownBy_setCell' w4 B v').block k (Nat.lt_of_lt_of_le hk (Nat.le_trans h2.size hg.size)) (fun e=>h3 (by cases e;rfl))).trans ((hg.block k (Nat.lt_of_lt_of_le hk h2.size) h1).trans (h2.block k hk))
 have hBW:W.heap[B]?=some (.cells #[v] 68 (0,0)):=(hb.block B hB.lt).trans hB
 have hrow:∀k,some k=(Value.slice V n c).ownBlock-> ∃cur,W.heap[k]?=some (.cells cur 106 (0,0))/\k<W0.heap.size:=fun k e=>by
  rcases hr.2 with⟨hv,_⟩|⟨g,cap,cur,hv,_,hh,_⟩
  ·rw[hv]at e;cases e
  ·rw[hv]at e;obtain rfl:k=g:=by simpa[Value.ownBlock]using e
   have hlt:=(Array.getElem?_eq_some_iff.1 hh).1;exact⟨cur,(hb.block k hlt).trans hh,hlt⟩
 refine⟨⟨fun k es c' hk=> ?_,fun k cs T fr hT hk=> ?_⟩,fun k hk1 hk2=> ?_⟩
 ·refine(same k (Array.getElem?_eq_some_iff.1 hk).1 (fun e=> ?_) (fun e=> ?_)).trans hk
  ·obtain⟨cur,h,_⟩:=hrow k e;rw[hk]at h;cases h
  ·subst e;rw[hk]at hBW;cases hBW
 ·refine(same k (Array.getElem?_eq_some_iff.1 hk).1 (fun e=> ?_) (fun e=> ?_)).trans hk
  ·obtain⟨cur,h,_⟩:=hrow k e;rw[hk]at h;cases h;rcases hT with h|h <;> cases h
  ·subst e;rw[hk]at hBW;cases hBW;rcases hT with h|h <;> cases h
 ·refine same k hk2 (fun e=> ?_) (fun e=> ?_)
  ·obtain⟨cur,_,h⟩:=hrow k e;omega
  ·have:=hB.lt;omega
theorem MZ {w W:World} {s:List UInt8} {D a er:Nat} {A:Option Addr} {c:Nat} {ls:List Wd} (hD:w.heap.size+4<=D) (hW:AD s=(ls,a,er)) (h0:Boxed W w.heap.size 68 (.slice A ls.length c))
  (h1:Boxed W (w.heap.size+1) 3 (.int .i64 (a:Int))) (h2:Boxed W (w.heap.size+1+1) 28 (.int .i64 (er:Int))) (hr:W.ownsRow w.heap.size 106 10 (.slice A ls.length c) ls.length (wdL ls)) (hB:Below w.heap.size w W)
  (hK:W.heap[D]?=some (.deferred (some []))):(W.putObj D (.deferred none)).cell? ⟨w.heap.size,0,none⟩=some (.slice A ls.length c)/\(W.putObj D (.deferred none)).cell? ⟨w.heap.size+1,0,none⟩=some (.int .i64 (a:Int)) /\
   (W.putObj D (.deferred none)).cell? ⟨w.heap.size+1+1,0,none⟩=some (.int .i64 (er:Int))/\Ga s w (.returned (.tuple #[.slice A ls.length c,.int .i64 (a:Int),.int .i64 (er:Int)])) (W.putObj D (.deferred none)):=by
 have hg:=grownBy_putObj' W D (.deferred none);refine⟨(h0.kept hg (fun e=>by cases e;omega)).cell,(h1.kept hg (fun e=>by cases e;omega)).cell,(h2.kept hg (fun e=>by cases e;omega)).cell,A,c,by rw[hW],?_,hB.trans (belowK_b (w:=w) (Nat.le_refl _) W D _ (.deferred none) (by omega) hK rfl rfl)⟩;rw[hW];refine hr.kept hg ?_;rcases hr.2 with⟨hv,_⟩|⟨g,cap,cur,hv,hb,hh,_⟩
 ·exact .inl (by rw[hv];rfl)
 ·refine .inr fun e=> ?_
  rw[hv]at e;obtain rfl:g=D:=by simpa[Value.ownBlock]using e
  rw[hh]at hK;cases hK
set_option maxRecDepth 100000 in
set_option maxHeartbeats 3200000 in
theorem Vv (n:Nat) (hn:4<=n) (s:ByteArray) (w:World) (hs:s.size<=281474976710656):
  CallsIn Fence.wide n Tryz.prog 40 #[.string s] w (Ga s.data.toList w):=by
 have hn1:1<=n:=by omega
 have hn2:1<=n-1:=by omega
 have h12:1<=n-1-1:=by omega
 have hfn:∀k,Fence.wide.fn k:=fun _=>trivial
 have hsz:=Ar s;obtain⟨j0,hj,hy0,hy1,hy2⟩:=info_parts Pp;refine callsIn_of_wp_marks Tryz.func40 rfl trivial ?_ rfl;simp only[Tryz.ntmps40,List.size_toArray,List.length_cons,List.length_nil,Nat.reduceAdd,Nat.reduceSub,Array.replicate_succ,Array.replicate_zero,List.push_toArray,List.append_toArray,List.nil_append,List.cons_append];by_cases hbig:65536<s.size
 ·have i1:(65536:Int)<(s.size:Int):=by omega
  gi_wp2
  have hW:=I4 (s:=s.data.toList) (by omega);refine⟨.tuple #[.slice none 0 0,.int .i64 65536,.int .i64 40],by simp[results,Tryz.f40,go_sem],none,0,by rw[hW];rfl,by rw[hW];exact World.ownsRow_nil _ _ _ _,(((Below.refl _ w).alloc (Nat.le_refl _) _).alloc (by simp) _).alloc (by simp;omega) _⟩
 ·have i1:¬(65536:Int)<(s.size:Int):=by omega
  gi_wp2_with (first
   |(gi_at_call 65;refine(Vu _ _ trivial rfl s _).mono ?_;rintro e w' ⟨rfl,rfl⟩)
   |fail)
  have HBX:=qd (show Below w.heap.size w ((((w.alloc (.cells #[.slice none 0 0] 68)).alloc (.cells #[.int .i64 0] 3)).alloc (.cells #[.int .i64 0] 28)).alloc (.cells #[.string s] 9))from
   ((((Below.refl _ w).alloc (Nat.le_refl _) _).alloc (by simp) _).alloc (by simp;omega) _).alloc (by simp;omega) _)
  have HX0:=qd ((((Boxed.new w 68 (.slice none 0 0)).alloc (.cells #[.int .i64 0] 3)).alloc (.cells #[.int .i64 0] 28)).alloc (.cells #[.string s] 9));have hx1:=((Boxed.new (w.alloc (.cells #[.slice none 0 0] 68)) 3 (.int .i64 0)).alloc (.cells #[.int .i64 0] 28)).alloc (.cells #[.string s] 9);have hx2:=(Boxed.new ((w.alloc (.cells #[.slice none 0 0] 68)).alloc (.cells #[.int .i64 0] 3)) 28 (.int .i64 0)).alloc (.cells #[.string s] 9);have hx3:=Ad (((w.alloc (.cells #[.slice none 0 0] 68)).alloc (.cells #[.int .i64 0] 3)).alloc (.cells #[.int .i64 0] 28)) (.cells #[.string s] 9);simp only[World.size_alloc]at hx1 hx2 hx3;have HX1:=qd hx1;have HX2:=qd hx2;have HX3:=qd hx3;have HSZ:=qd (show((((w.alloc (.cells #[.slice none 0 0] 68)).alloc (.cells #[.int .i64 0] 3)).alloc (.cells #[.int .i64 0] 28)).alloc (.cells #[.string s] 9)).heap.size=w.heap.size+4 from by simp);clear hx1 hx2 hx3;generalize ((((w.alloc (.cells #[.slice none 0 0] 68)).alloc (.cells #[.int .i64 0] 3)).alloc (.cells #[.int .i64 0] 28)).alloc (.cells #[.string s] 9))=W4 at *;have hsz4:=HSZ.out
  refine Iw rfl hn1 (gf:=78) (lb:= #[.pointer (some ⟨w.heap.size+1+1+1,0,none⟩)]) rfl trivial (enters_of Tryz.func78 (by kernel_rfl) rfl)
   (T4 (n-1) hn2 (w.heap.size+1+1+1) s W4 (by omega) HX3.out) (fun h k=>h.trans k) KpW.putObj (fun _=>rfl)
   (fun pre W=>WdI w s.data.toList pre W) (fun c pre W=>c=.ret/\WdX w s.data.toList W) ?hI ?hIx ?h0
   (fun x=>.cells #[.int .u8 (x.wd.kind:Int),.int .i64 (x.wd.frm:Int),.int .i64 (x.wd.til:Int),.string ⟨x.wd.text.toArray⟩,.int .u64 (x.wd.s0:Int),.int .u64 (x.wd.s1:Int),.int .u64 (x.wd.s2:Int),.int .u64 (x.wd.s3:Int),.int .i64 x.wd.low,.int .i64 x.wd.high] 106)
   (fun x k=>{tmps:= #[.string s,undef,.pointer (some ⟨w.heap.size,0,none⟩),.pointer (some ⟨w.heap.size+1,0,none⟩),.pointer (some ⟨w.heap.size+1+1,0,none⟩),.pointer (some ⟨k,0,none⟩),.int .i64 (x.er:Int),.string s,.int .i64 s.size,.bool false,.string s,.func (.func 78) #[] #[.pointer (some ⟨w.heap.size+1+1+1,0,none⟩)],wdV x.wd,.int .i64 (x.er:Int),undef,undef,undef,undef,undef,undef,undef,undef,undef,undef],defers:=[]}) ?assign ?body ?done ?stop
  case hI=>exact fun s W W' row h hg hr=>h.turn hg fun k hk=>⟨by have:=(hr k hk).1;omega,(hr k hk).2⟩
  case hIx=>exact fun c s W W' row hs hg hr=>⟨hs.1,hs.2.turn hg fun k hk=>by have:=(hr k hk).1;omega⟩
  case h0=>exact⟨⟨none,0,HX0.out,World.ownsRow_nil _ _ _ _⟩,HX1.out,HX2.out,HBX.out,by simp,rfl⟩
  case assign=>
   intro l x W K hK;gi_wp2
   exact hK
  case body=>
   rintro l pre x W0 W hi0 hb hat;obtain⟨⟨V,c,hv0,hr0⟩,ha0,he0,hB0,hok,hrun⟩:=hi0;have hv:=hv0.kept (Gt hb) (by simp)
   have hr:=hr0.kept (Gt hb) (by cases V with
    |none=>exact .inl rfl
    |some g=>exact .inr (by simp[Value.ownBlock]))
   have ha:=ha0.kept (Gt hb) (by simp);have he:=he0.kept (Gt hb) (by simp);have hB:Below w.heap.size w W:=hB0.trans (hb.mono hB0.size);have HKEPT:=qd (fun(w4:World) (v':Value) (o1 o2:Obj) hg=>QF (w4:=w4) (v':=v') (o1:=o1) (o2:=o2) hr0 hv0 hb hg);have hzb:=hB.size;have hzv:=hv.lt;have HV:=qd hv;have HR:=qd hr;have HA:=qd ha;have HE:=qd he;have HB:=qd hB;have HOK:=qd hok;have HRUN:=qd hrun;have b0:=hv.cell;have f0:=hv.frozen;have b1:=ha.cell;have f1:=ha.frozen;have b2:=he.cell;have f2:=he.frozen;clear hv0 hr0 ha0 he0 hB0 hv hr ha he hB hok hrun;obtain⟨xw,er⟩:=x;obtain⟨hlt,hat⟩:=hat;simp only at hlt hat
   have HPL:=qd (show pre.length<=s.size from by
    have h1:=Vq s.data.toList (s.data.toList.length+1-A9 s.data.toList 0) (A9 s.data.toList 0) (by omega);have h2:=congrArg (fun p=>p.1.length) HRUN.out;simp only[RW,List.length_append,List.length_map]at h1 h2;omega)
   rcases hat with⟨rfl,hw⟩|⟨rfl,rfl,hw⟩
   ·have HSTEP:=qd (NK hlt hw);clear hlt hw b1 f1 b2 f2;have HF:=qd (show pre.length+1<=maxLen/\(pre.length+1)*88<=140737488355328/\w.heap.size<=((W.alloc (.cells #[.int .u8 (xw.kind:Int),.int .i64 (xw.frm:Int),.int .i64 (xw.til:Int),.string ⟨xw.text.toArray⟩,.int .u64 (xw.s0:Int),.int .u64 (xw.s1:Int),.int .u64 (xw.s2:Int),.int .u64 (xw.s3:Int),.int .i64 xw.low,.int .i64 xw.high] 106)).alloc (.cells #[.int .u8 (xw.kind:Int),.int .i64 (xw.frm:Int),.int .i64 (xw.til:Int),.string ⟨xw.text.toArray⟩,.int .u64 (xw.s0:Int),.int .u64 (xw.s1:Int),.int .u64 (xw.s2:Int),.int .u64 (xw.s3:Int),.int .i64 xw.low,.int .i64 xw.high] 106)).heap.size from⟨by have:=HPL.out;unfold maxLen;omega,by have:=HPL.out;omega,by simp;omega⟩)
    have HCL:=qd (show ∀(j:Nat) (u:Value),(wdC xw).toList[j]?=some u->((W.alloc (.cells #[.int .u8 (xw.kind:Int),.int .i64 (xw.frm:Int),.int .i64 (xw.til:Int),.string ⟨xw.text.toArray⟩,.int .u64 (xw.s0:Int),.int .u64 (xw.s1:Int),.int .u64 (xw.s2:Int),.int .u64 (xw.s3:Int),.int .i64 xw.low,.int .i64 xw.high] 106)).alloc (.cells #[.int .u8 (xw.kind:Int),.int .i64 (xw.frm:Int),.int .i64 (xw.til:Int),.string ⟨xw.text.toArray⟩,.int .u64 (xw.s0:Int),.int .u64 (xw.s1:Int),.int .u64 (xw.s2:Int),.int .u64 (xw.s3:Int),.int .i64 xw.low,.int .i64 xw.high] 106)).cell? ((⟨W.heap.size+1,0,none⟩:Addr).add j)=some u from fun j u hu=>by
     have h:=Ad (W.alloc (.cells #[.int .u8 (xw.kind:Int),.int .i64 (xw.frm:Int),.int .i64 (xw.til:Int),.string ⟨xw.text.toArray⟩,.int .u64 (xw.s0:Int),.int .u64 (xw.s1:Int),.int .u64 (xw.s2:Int),.int .u64 (xw.s3:Int),.int .i64 xw.low,.int .i64 xw.high] 106)) (.cells #[.int .u8 (xw.kind:Int),.int .i64 (xw.frm:Int),.int .i64 (xw.til:Int),.string ⟨xw.text.toArray⟩,.int .u64 (xw.s0:Int),.int .u64 (xw.s1:Int),.int .u64 (xw.s2:Int),.int .u64 (xw.s3:Int),.int .i64 xw.low,.int .i64 xw.high] 106);rw[World.size_alloc]at h;obtain⟨ad,e,h⟩:=Be (cs:=(wdC xw).toList) h j u hu;cases e;exact h)
    have HR1:=qd (World.ownsRow.alloc HR.out (.cells #[.int .u8 (xw.kind:Int),.int .i64 (xw.frm:Int),.int .i64 (xw.til:Int),.string ⟨xw.text.toArray⟩,.int .u64 (xw.s0:Int),.int .u64 (xw.s1:Int),.int .u64 (xw.s2:Int),.int .u64 (xw.s3:Int),.int .i64 xw.low,.int .i64 xw.high] 106));have HR2:=qd (World.ownsRow.alloc HR1.out (.cells #[.int .u8 (xw.kind:Int),.int .i64 (xw.frm:Int),.int .i64 (xw.til:Int),.string ⟨xw.text.toArray⟩,.int .u64 (xw.s0:Int),.int .u64 (xw.s1:Int),.int .u64 (xw.s2:Int),.int .u64 (xw.s3:Int),.int .i64 xw.low,.int .i64 xw.high] 106));have HV1:=qd (HV.out.alloc (.cells #[.int .u8 (xw.kind:Int),.int .i64 (xw.frm:Int),.int .i64 (xw.til:Int),.string ⟨xw.text.toArray⟩,.int .u64 (xw.s0:Int),.int .u64 (xw.s1:Int),.int .u64 (xw.s2:Int),.int .u64 (xw.s3:Int),.int .i64 xw.low,.int .i64 xw.high] 106));have HA2:=qd ((HA.out.alloc (.cells #[.int .u8 (xw.kind:Int),.int .i64 (xw.frm:Int),.int .i64 (xw.til:Int),.string ⟨xw.text.toArray⟩,.int .u64 (xw.s0:Int),.int .u64 (xw.s1:Int),.int .u64 (xw.s2:Int),.int .u64 (xw.s3:Int),.int .i64 xw.low,.int .i64 xw.high] 106)).alloc (.cells #[.int .u8 (xw.kind:Int),.int .i64 (xw.frm:Int),.int .i64 (xw.til:Int),.string ⟨xw.text.toArray⟩,.int .u64 (xw.s0:Int),.int .u64 (xw.s1:Int),.int .u64 (xw.s2:Int),.int .u64 (xw.s3:Int),.int .i64 xw.low,.int .i64 xw.high] 106));have HE2:=qd ((HE.out.alloc (.cells #[.int .u8 (xw.kind:Int),.int .i64 (xw.frm:Int),.int .i64 (xw.til:Int),.string ⟨xw.text.toArray⟩,.int .u64 (xw.s0:Int),.int .u64 (xw.s1:Int),.int .u64 (xw.s2:Int),.int .u64 (xw.s3:Int),.int .i64 xw.low,.int .i64 xw.high] 106)).alloc (.cells #[.int .u8 (xw.kind:Int),.int .i64 (xw.frm:Int),.int .i64 (xw.til:Int),.string ⟨xw.text.toArray⟩,.int .u64 (xw.s0:Int),.int .u64 (xw.s1:Int),.int .u64 (xw.s2:Int),.int .u64 (xw.s3:Int),.int .i64 xw.low,.int .i64 xw.high] 106));have HNA:=qd (HA2.out.not_row (by decide) HR2.out);have HNE:=qd (HE2.out.not_row (by decide) HR2.out);have HZ1:=qd (show w.heap.size<=(W.alloc (.cells #[.int .u8 (xw.kind:Int),.int .i64 (xw.frm:Int),.int .i64 (xw.til:Int),.string ⟨xw.text.toArray⟩,.int .u64 (xw.s0:Int),.int .u64 (xw.s1:Int),.int .u64 (xw.s2:Int),.int .u64 (xw.s3:Int),.int .i64 xw.low,.int .i64 xw.high] 106)).heap.size from by simp;omega);gi_wp2_with (first|(gi_at_builtin;refine wpListIn_append_own _ rfl (.tmp 19) (.tmp 21) 68 rfl w.heap.size 106 j0 (wdV ⟨0,0,0,[],0,0,0,0,0,0⟩) 10 88 Tryz.underlying68 hj hy0 hy1 hy2 rfl (by decide) (.slice V pre.length c) pre.length (wdL (pre.map El.wd)) rfl HR2.out ⟨W.heap.size+1,0,none⟩ 1 1 (wdC xw).toList rfl rfl HCL.out (WV xw) HF.out.1 HF.out.2.1 HF.out.2.2 ?_)|fail)
    intro v' w5 hown' hgrow' hnil';obtain⟨g',cap',rfl⟩:=ownsRow_succ hown';have KN:=qd (HKEPT.out w5 (.slice (some ⟨g',0,none⟩) (pre.length+1) cap') _ _ hgrow');have KA:=qd ((HA2.out.kept hgrow' HNA.out).other (B':=w.heap.size) (by omega) (.slice (some ⟨g',0,none⟩) (pre.length+1) cap'));have KE:=qd ((HE2.out.kept hgrow' HNE.out).other (B':=w.heap.size) (by omega) (.slice (some ⟨g',0,none⟩) (pre.length+1) cap'));obtain⟨k1,k2,k3,k4,k5⟩:=Boxed.appended HV1.out (by decide) HR1.out HZ1.out (Nat.le_refl _) hown' hgrow';have q1:=k1.cell;have q2:=k1.frozen;have K2:=qd k2;have K3:=qd k3;have K4:=qd k4;have K5:=qd k5;clear k1 k2 k3 k4 k5 hown' hgrow' hnil';gi_wp2
    have HM:wdL ((pre++[(⟨xw,0⟩:El)]).map El.wd)=wdL (pre.map El.wd)++(wdC xw).toList:=by rw[List.map_append];exact Pq _ _
    have HL:(pre++[(⟨xw,0⟩:El)]).length=pre.length+1:=by simp
    refine⟨((KeepsOthers.alloc W _).trans K4.out).from _,KN.out.1,KN.out.2,⟨⟨some ⟨g',0,none⟩,cap',?_,?_⟩,KA.out,KE.out,HB.out.trans (((Below.refl _ W).alloc hzb _).trans K5.out),?_,?_⟩⟩
    ·rw[HL];exact K2.out
    ·rw[HM,HL];exact K3.out
    ·intro y hy;rcases List.mem_append.1 hy with h|h
     ·exact HOK.out y h
     ·simp at h;subst h;rfl
    ·rw[Cj,HRUN.out,HSTEP.out];simp
   ·have i3:((4:Nat):Int)≠0:=by decide
    have HRES:=qd (show AD s.data.toList=([],nxW s.data.toList pre,4)from by
     rw[EO (by omega),HRUN.out,RM hlt hw])
    clear hlt hw;have hbx:=Ad W (.cells #[.int .u8 ((Ao (nxW s.data.toList pre)).kind:Int),.int .i64 ((Ao (nxW s.data.toList pre)).frm:Int),.int .i64 ((Ao (nxW s.data.toList pre)).til:Int),.string ⟨(Ao (nxW s.data.toList pre)).text.toArray⟩,.int .u64 ((Ao (nxW s.data.toList pre)).s0:Int),.int .u64 ((Ao (nxW s.data.toList pre)).s1:Int),.int .u64 ((Ao (nxW s.data.toList pre)).s2:Int),.int .u64 ((Ao (nxW s.data.toList pre)).s3:Int),.int .i64 (Ao (nxW s.data.toList pre)).low,.int .i64 (Ao (nxW s.data.toList pre)).high] 106);obtain⟨_,c1,_⟩:=BB hbx;have HV5:=qd (HV.out.alloc (.cells #[.int .u8 ((Ao (nxW s.data.toList pre)).kind:Int),.int .i64 ((Ao (nxW s.data.toList pre)).frm:Int),.int .i64 ((Ao (nxW s.data.toList pre)).til:Int),.string ⟨(Ao (nxW s.data.toList pre)).text.toArray⟩,.int .u64 ((Ao (nxW s.data.toList pre)).s0:Int),.int .u64 ((Ao (nxW s.data.toList pre)).s1:Int),.int .u64 ((Ao (nxW s.data.toList pre)).s2:Int),.int .u64 ((Ao (nxW s.data.toList pre)).s3:Int),.int .i64 (Ao (nxW s.data.toList pre)).low,.int .i64 (Ao (nxW s.data.toList pre)).high] 106));have HA5:=qd (HA.out.alloc (.cells #[.int .u8 ((Ao (nxW s.data.toList pre)).kind:Int),.int .i64 ((Ao (nxW s.data.toList pre)).frm:Int),.int .i64 ((Ao (nxW s.data.toList pre)).til:Int),.string ⟨(Ao (nxW s.data.toList pre)).text.toArray⟩,.int .u64 ((Ao (nxW s.data.toList pre)).s0:Int),.int .u64 ((Ao (nxW s.data.toList pre)).s1:Int),.int .u64 ((Ao (nxW s.data.toList pre)).s2:Int),.int .u64 ((Ao (nxW s.data.toList pre)).s3:Int),.int .i64 (Ao (nxW s.data.toList pre)).low,.int .i64 (Ao (nxW s.data.toList pre)).high] 106));have HE5:=qd (HE.out.alloc (.cells #[.int .u8 ((Ao (nxW s.data.toList pre)).kind:Int),.int .i64 ((Ao (nxW s.data.toList pre)).frm:Int),.int .i64 ((Ao (nxW s.data.toList pre)).til:Int),.string ⟨(Ao (nxW s.data.toList pre)).text.toArray⟩,.int .u64 ((Ao (nxW s.data.toList pre)).s0:Int),.int .u64 ((Ao (nxW s.data.toList pre)).s1:Int),.int .u64 ((Ao (nxW s.data.toList pre)).s2:Int),.int .u64 ((Ao (nxW s.data.toList pre)).s3:Int),.int .i64 (Ao (nxW s.data.toList pre)).low,.int .i64 (Ao (nxW s.data.toList pre)).high] 106));have HB5:=qd (HB.out.trans ((Below.refl _ W).alloc hzb (.cells #[.int .u8 ((Ao (nxW s.data.toList pre)).kind:Int),.int .i64 ((Ao (nxW s.data.toList pre)).frm:Int),.int .i64 ((Ao (nxW s.data.toList pre)).til:Int),.string ⟨(Ao (nxW s.data.toList pre)).text.toArray⟩,.int .u64 ((Ao (nxW s.data.toList pre)).s0:Int),.int .u64 ((Ao (nxW s.data.toList pre)).s1:Int),.int .u64 ((Ao (nxW s.data.toList pre)).s2:Int),.int .u64 ((Ao (nxW s.data.toList pre)).s3:Int),.int .i64 (Ao (nxW s.data.toList pre)).low,.int .i64 (Ao (nxW s.data.toList pre)).high] 106)));have HK5:=qd (KeepsOthers.alloc W (.cells #[.int .u8 ((Ao (nxW s.data.toList pre)).kind:Int),.int .i64 ((Ao (nxW s.data.toList pre)).frm:Int),.int .i64 ((Ao (nxW s.data.toList pre)).til:Int),.string ⟨(Ao (nxW s.data.toList pre)).text.toArray⟩,.int .u64 ((Ao (nxW s.data.toList pre)).s0:Int),.int .u64 ((Ao (nxW s.data.toList pre)).s1:Int),.int .u64 ((Ao (nxW s.data.toList pre)).s2:Int),.int .u64 ((Ao (nxW s.data.toList pre)).s3:Int),.int .i64 (Ao (nxW s.data.toList pre)).low,.int .i64 (Ao (nxW s.data.toList pre)).high] 106));have hz5:(W.alloc (.cells #[.int .u8 ((Ao (nxW s.data.toList pre)).kind:Int),.int .i64 ((Ao (nxW s.data.toList pre)).frm:Int),.int .i64 ((Ao (nxW s.data.toList pre)).til:Int),.string ⟨(Ao (nxW s.data.toList pre)).text.toArray⟩,.int .u64 ((Ao (nxW s.data.toList pre)).s0:Int),.int .u64 ((Ao (nxW s.data.toList pre)).s1:Int),.int .u64 ((Ao (nxW s.data.toList pre)).s2:Int),.int .u64 ((Ao (nxW s.data.toList pre)).s3:Int),.int .i64 (Ao (nxW s.data.toList pre)).low,.int .i64 (Ao (nxW s.data.toList pre)).high] 106)).heap.size=W.heap.size+1:=by simp
    generalize (W.alloc (.cells #[.int .u8 ((Ao (nxW s.data.toList pre)).kind:Int),.int .i64 ((Ao (nxW s.data.toList pre)).frm:Int),.int .i64 ((Ao (nxW s.data.toList pre)).til:Int),.string ⟨(Ao (nxW s.data.toList pre)).text.toArray⟩,.int .u64 ((Ao (nxW s.data.toList pre)).s0:Int),.int .u64 ((Ao (nxW s.data.toList pre)).s1:Int),.int .u64 ((Ao (nxW s.data.toList pre)).s2:Int),.int .u64 ((Ao (nxW s.data.toList pre)).s3:Int),.int .i64 (Ao (nxW s.data.toList pre)).low,.int .i64 (Ao (nxW s.data.toList pre)).high] 106))=W5 at *;have b0:=HV5.out.cell;have f0:=HV5.out.frozen;have b1:=HA5.out.cell;have f1:=HA5.out.frozen;have b2:=HE5.out.cell;have f2:=HE5.out.frozen;have hmx:Tryz.prog.follows .mixedOrders=true:=by kernel_rfl
    gi_wp2
    have HFIN:=qd (show KeepsFrom W4.heap.size W (((W5.setCell ⟨w.heap.size,0,none⟩ (.slice none 0 0)).setCell ⟨w.heap.size+1,0,none⟩ (.int .i64 ((Ao (nxW s.data.toList pre)).frm:Int))).setCell ⟨w.heap.size+1+1,0,none⟩ (.int .i64 4)).drew/\WdX w s.data.toList (((W5.setCell ⟨w.heap.size,0,none⟩ (.slice none 0 0)).setCell ⟨w.heap.size+1,0,none⟩ (.int .i64 ((Ao (nxW s.data.toList pre)).frm:Int))).setCell ⟨w.heap.size+1+1,0,none⟩ (.int .i64 4)).drew from⟨⟨(((HK5.out.trans (KeepsOthers.setCell W5 ⟨w.heap.size,0,none⟩ (.slice none 0 0))).trans (KeepsOthers.setCell _ ⟨w.heap.size+1,0,none⟩ (.int .i64 ((Ao (nxW s.data.toList pre)).frm:Int)))).trans (KeepsOthers.setCell _ ⟨w.heap.size+1+1,0,none⟩ (.int .i64 4))).size,fun k o _ hk ho=>(((HK5.out.trans (KeepsOthers.setCell W5 ⟨w.heap.size,0,none⟩ (.slice none 0 0))).trans (KeepsOthers.setCell _ ⟨w.heap.size+1,0,none⟩ (.int .i64 ((Ao (nxW s.data.toList pre)).frm:Int)))).trans (KeepsOthers.setCell _ ⟨w.heap.size+1+1,0,none⟩ (.int .i64 4))).same k o hk ho⟩,by
     have hx:WdX w s.data.toList (((W5.setCell ⟨w.heap.size,0,none⟩ (.slice none 0 0)).setCell ⟨w.heap.size+1,0,none⟩ (.int .i64 ((Ao (nxW s.data.toList pre)).frm:Int))).setCell ⟨w.heap.size+1+1,0,none⟩ (.int .i64 4)):=
      ⟨((HV5.out.set (.slice none 0 0)).other (by omega) _).other (by omega) _,⟨nxW s.data.toList pre,HRES.out,(((HA5.out.other (by omega) _).set (.int .i64 ((Ao (nxW s.data.toList pre)).frm:Int))).other (by omega) _)⟩,(((HE5.out.other (by omega) _).other (by omega) _).set (.int .i64 4)),((HB5.out.setCell (p:=⟨w.heap.size,0,none⟩) (Nat.le_refl _) _).setCell (p:=⟨w.heap.size+1,0,none⟩) (by simp) _).setCell (p:=⟨w.heap.size+1+1,0,none⟩) (by simp;omega) _⟩
     exact⟨hx.row,hx.res,hx.er',hx.below.drew⟩⟩)
    gi_region_with_o (fail)
    all_goals gi_wp2
    all_goals exact⟨HFIN.out.1,rfl,HFIN.out.2⟩
  case done=>
   rintro D xs W hD hS hi hK;obtain⟨⟨V,c,hv,hr⟩,ha,he,hB,hok,hrun⟩:=hi
   have hend:s.data.toList.length<=nxW s.data.toList xs:=by
    rcases hS with h|⟨pre,x,rfl,_,hx⟩
    ·exact h
    ·have:=hok x (by simp);omega
   have HRES:=qd (show AD s.data.toList=(xs.map El.wd,0,0)from by
    rw[EO (by omega),hrun,QD hend];simp)
   have b0:=hv.cell;have f0:=hv.frozen;have b1:=ha.cell;have f1:=ha.frozen;have b2:=he.cell;have f2:=he.frozen;have HV:=qd hv;have HR:=qd hr;have HB:=qd hB;have HA:=qd ha;have HE:=qd he;clear hv hr ha he hB hok hrun hS hend;have r0:=((HV.out.set (.slice V xs.length c)).other (B':=w.heap.size+1) (by omega) (.int .i64 0)).other (B':=w.heap.size+1+1) (by omega) (.int .i64 0);have r1:=((HA.out.other (B':=w.heap.size) (by omega) (.slice V xs.length c)).set (.int .i64 0)).other (B':=w.heap.size+1+1) (by omega) (.int .i64 0);have r2:=((HE.out.other (B':=w.heap.size) (by omega) (.slice V xs.length c)).other (B':=w.heap.size+1) (by omega) (.int .i64 0)).set (.int .i64 0);have rr:=((HR.out.kept (grownBy_setCell' W w.heap.size (.slice V xs.length c)) (.inr (HV.out.not_row (by decide) HR.out).symm)).kept (grownBy_setCell' _ (w.heap.size+1) (.int .i64 0)) (.inr (HA.out.not_row (by decide) HR.out).symm)).kept (grownBy_setCell' _ (w.heap.size+1+1) (.int .i64 0)) (.inr (HE.out.not_row (by decide) HR.out).symm);have rB:=((HB.out.setCell (p:=⟨w.heap.size,0,none⟩) (Nat.le_refl _) (.slice V xs.length c)).setCell (p:=⟨w.heap.size+1,0,none⟩) (by simp) (.int .i64 0)).setCell (p:=⟨w.heap.size+1+1,0,none⟩) (by simp;omega) (.int .i64 0);have rK:=(((KeepsOthers.setCell W ⟨w.heap.size,0,none⟩ (.slice V xs.length c)).trans (KeepsOthers.setCell _ ⟨w.heap.size+1,0,none⟩ (.int .i64 0))).trans (KeepsOthers.setCell _ ⟨w.heap.size+1+1,0,none⟩ (.int .i64 0))).same D _ hK rfl;have HZ:=qd (MZ (s:=s.data.toList) (a:=0) (er:=0) (ls:=xs.map El.wd) (by omega) HRES.out (by simpa using r0) r1 r2 (by simpa using rr) rB rK);have HRK:=qd rK;clear r0 r1 r2 rr rB rK;gi_wp2
   refine⟨by simp,.inl ⟨_,_,rfl,run_takeDeferred HRK.out,?_⟩⟩;obtain⟨c0,c1,c2,hp⟩:=HZ.out;rw[List.length_map]at c0 hp;exact⟨.tuple #[.slice V xs.length c,.int .i64 0,.int .i64 0],by simp[results,Tryz.f40,go_sem,c0,c1,c2],hp⟩
  case stop=>
   rintro D cd pre W hD ⟨rfl,h1,⟨a,h2,h3⟩,h4,h5⟩ hK;have b0:=h1.cell;have f0:=h1.frozen;have b1:=h3.cell;have f1:=h3.frozen;have b2:=h4.cell;have f2:=h4.frozen;have HZ:=qd (MZ (s:=s.data.toList) (a:=a) (er:=4) (ls:=[]) (A:=none) (c:=0) (by omega) h2 h1 h3 h4 (World.ownsRow_nil _ _ _ _) h5 hK);clear h1 h2 h3 h4 h5;gi_wp2
   refine⟨by simp,.inl ⟨_,_,rfl,run_takeDeferred hK,?_⟩⟩;obtain⟨c0,c1,c2,hp⟩:=HZ.out;exact⟨.tuple #[.slice none 0 0,.int .i64 (a:Int),.int .i64 4],by simp[results,Tryz.f40,go_sem,c0,c1,c2],hp⟩
theorem Na (s:ByteArray) (w:World) (hs:s.size<=281474976710656):Calls Tryz.prog 40 #[.string s] w (Ga s.data.toList w):=callsIn_wide.1 (Vv 4 (by omega) s w hs)
theorem Cx {w:World} {b g n c:Nat} {l:List Wd} (h:w.ownsRow b 106 10 (.slice (some ⟨g,0,none⟩) n c) n (wdL l)) (i:Nat) (x:Wd) (hx:l[i]?=some x) (j:Nat) (hj:j<10):
  w.cell? ⟨g,i*10+j,none⟩=(wdC x)[j]? :=by
 have hl:(wdL l)[i*10+j]?=(wdC x)[j]? :=by
  clear h;induction l generalizing i with
  |nil=>cases hx
  |cons y l ih=>
   have hy:(wdC y).toList.length=10:=rfl;have e:wdL (y::l)=(wdC y).toList++wdL l:=by simp[wdL]
   rw[e];cases i with
   |zero=>
    simp at hx;subst hx;rw[List.getElem?_append_left (by omega),Nat.zero_mul,Nat.zero_add,Array.getElem?_toList]
   |succ i=>
    rw[List.getElem?_append_right (by omega),hy,show(i+1)*10+j-10=i*10+j by omega];exact ih i (by simpa using hx)
 have hlen:i*10+j<(wdL l).length:=by
  rw[WU];have:=(List.getElem?_eq_some_iff.1 hx).1;omega
 have:=World.ownsRow.cellAt h (i*10+j) (by rw[<-h.1];exact hlen);rw[this,<-hl]
theorem Pr {w:World} {b g n c:Nat} {l:List Wd} (h:w.ownsRow b 106 10 (.slice (some ⟨g,0,none⟩) n c) n (wdL l)) (i o:Nat) (ho:o=i*10) (x:Wd) (hx:l[i]?=some x):
  w.cell? ⟨g,o,none⟩=some (.int .u8 (x.kind:Int))/\w.cell? ⟨g,o+1,none⟩=some (.int .i64 (x.frm:Int))/\w.cell? ⟨g,o+2,none⟩=some (.int .i64 (x.til:Int))/\w.cell? ⟨g,o+3,none⟩=some (.string ⟨x.text.toArray⟩) /\
  w.cell? ⟨g,o+4,none⟩=some (.int .u64 (x.s0:Int))/\w.cell? ⟨g,o+5,none⟩=some (.int .u64 (x.s1:Int))/\w.cell? ⟨g,o+6,none⟩=some (.int .u64 (x.s2:Int))/\w.cell? ⟨g,o+7,none⟩=some (.int .u64 (x.s3:Int)) /\
  w.cell? ⟨g,o+8,none⟩=some (.int .i64 x.low)/\w.cell? ⟨g,o+9,none⟩=some (.int .i64 x.high):=by
 subst ho;exact⟨Cx h i x hx 0 (by decide),Cx h i x hx 1 (by decide),Cx h i x hx 2 (by decide),Cx h i x hx 3 (by decide),Cx h i x hx 4 (by decide),Cx h i x hx 5 (by decide),Cx h i x hx 6 (by decide),Cx h i x hx 7 (by decide),Cx h i x hx 8 (by decide),Cx h i x hx 9 (by decide)⟩
end Go.Proofs.YtdnochjajoiooaaGreatDoor
