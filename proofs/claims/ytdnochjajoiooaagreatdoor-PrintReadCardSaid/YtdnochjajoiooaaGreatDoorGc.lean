/- The contract of tree.Fits, kinds 5 to 9 (printed by gen_fits.py). The contracts of strings.Builder's WriteByte, and of quote.plain, put, Literal. -/
import Derived.Test.YtdnochjajoiooaaGreatDoorKd
import Derived.Test.YtdnochjajoiooaaGreatDoorLc
import Derived.Test.YtdnochjajoiooaaGreatDoorQm
import Derived.Test.YtdnochjajoiooaaGreatDoorQb
import Derived.Test.YtdnochjajoiooaaGreatDoorCu
namespace Go.Proofs.YtdnochjajoiooaaGreatDoor
open Go.RowKit
set_option linter.unusedSimpArgs false
set_option linter.unusedVariables false
set_option maxRecDepth 100000 in
set_option maxHeartbeats 3200000 in
theorem XS (n:Nd) (K:Value) (k:Int) (w:World) (ht:CntTab w) (hk:n.kind=5) (hts:n.text.size<=281474976710656):
  Calls Tryz.prog 35 #[ndV n K,.int .i64 k] w fun e w'=>e=.returned (.bool (Am n k))/\Below w.heap.size w w':=by
 obtain⟨kind,s0,s1,s2,s3,text,mn,mx,kids⟩:=n;simp only at hk hts ⊢;subst hk;have hc:=ht.cells;have t0:=hc 10;have t1:=hc 11;clear hc;simp at t0 t1;have hg:=AP t0;simp only at hg;have hE:=fun w=>Dg w s0 s1 s2 s3 0 0 0 0
 have HS:=qd (show decide (s0=0/\s1=0/\s2=0/\s3=0)=BQ ⟨5,s0,s1,s2,s3,text,mn,mx,kids⟩from rfl);generalize decide (s0=0/\s1=0/\s2=0/\s3=0)=b at hE HS;clear ht;rcases Nat.lt_or_ge 0 text.size with h0|h0
 ·have⟨e1,e2⟩:=Bb text h0;have HX:=qd (show Ay ⟨5,s0,s1,s2,s3,text,mn,mx,kids⟩=false from decide_eq_false (show ¬text.size=0 by omega));cases b
  all_goals
   go_enter Tryz.func35,Tryz.ntmps35
   go_wp2_with fail
   go_region
   go_wp2_with fail
   all_goals (go_ret;refine⟨Aj ?_,(bx1 w _).drew⟩)
   all_goals (first|(simp[Am,<-HS.out,HX.out,Ah];done)|(simp[Am,<-HS.out,HX.out,Ah];omega)|(rw[Bool.eq_iff_iff];simp[Am,<-HS.out,HX.out,Ah];omega)|(simp only[bne_eq_false_iff_eq]at *;simp[Am,<-HS.out,HX.out,Ah];omega))
 ·have⟨e1,e2,e3⟩:=AH text (by omega);clear e3;have HX:=qd (show Ay ⟨5,s0,s1,s2,s3,text,mn,mx,kids⟩=true from decide_eq_true (show text.size=0 by omega));cases b
  all_goals
   go_enter Tryz.func35,Tryz.ntmps35
   go_wp2_with fail
   go_region
   go_wp2_with fail
   all_goals (go_ret;refine⟨Aj ?_,(bx1 w _).drew⟩)
   all_goals (first|(simp[Am,<-HS.out,HX.out,Ah];done)|(simp[Am,<-HS.out,HX.out,Ah];omega)|(rw[Bool.eq_iff_iff];simp[Am,<-HS.out,HX.out,Ah];omega)|(simp only[bne_eq_false_iff_eq]at *;simp[Am,<-HS.out,HX.out,Ah];omega))
set_option maxRecDepth 100000 in
set_option maxHeartbeats 3200000 in
theorem XT (n:Nd) (K:Value) (k:Int) (w:World) (ht:CntTab w) (hk:n.kind=6) (hts:n.text.size<=281474976710656):
  Calls Tryz.prog 35 #[ndV n K,.int .i64 k] w fun e w'=>e=.returned (.bool (Am n k))/\Below w.heap.size w w':=by
 obtain⟨kind,s0,s1,s2,s3,text,mn,mx,kids⟩:=n;simp only at hk hts ⊢;subst hk;have hc:=ht.cells;have t0:=hc 12;have t1:=hc 13;clear hc;simp at t0 t1;have hg:=AP t0;simp only at hg;have hE:=fun w=>Dg w s0 s1 s2 s3 0 0 0 0
 have HS:=qd (show decide (s0=0/\s1=0/\s2=0/\s3=0)=BQ ⟨6,s0,s1,s2,s3,text,mn,mx,kids⟩from rfl);generalize decide (s0=0/\s1=0/\s2=0/\s3=0)=b at hE HS;clear ht;rcases Nat.lt_or_ge 0 text.size with h0|h0
 ·have⟨e1,e2⟩:=Bb text h0;have HX:=qd (show Ay ⟨6,s0,s1,s2,s3,text,mn,mx,kids⟩=false from decide_eq_false (show ¬text.size=0 by omega));cases b
  all_goals
   go_enter Tryz.func35,Tryz.ntmps35
   go_wp2_with fail
   go_region
   go_wp2_with fail
   all_goals (go_ret;refine⟨Aj ?_,(bx1 w _).drew⟩)
   all_goals (first|(simp[Am,<-HS.out,HX.out,Ah];done)|(simp[Am,<-HS.out,HX.out,Ah];omega)|(rw[Bool.eq_iff_iff];simp[Am,<-HS.out,HX.out,Ah];omega)|(simp only[bne_eq_false_iff_eq]at *;simp[Am,<-HS.out,HX.out,Ah];omega))
 ·have⟨e1,e2,e3⟩:=AH text (by omega);clear e3;have HX:=qd (show Ay ⟨6,s0,s1,s2,s3,text,mn,mx,kids⟩=true from decide_eq_true (show text.size=0 by omega));cases b
  all_goals
   go_enter Tryz.func35,Tryz.ntmps35
   go_wp2_with fail
   go_region
   go_wp2_with fail
   all_goals (go_ret;refine⟨Aj ?_,(bx1 w _).drew⟩)
   all_goals (first|(simp[Am,<-HS.out,HX.out,Ah];done)|(simp[Am,<-HS.out,HX.out,Ah];omega)|(rw[Bool.eq_iff_iff];simp[Am,<-HS.out,HX.out,Ah];omega)|(simp only[bne_eq_false_iff_eq]at *;simp[Am,<-HS.out,HX.out,Ah];omega))
set_option maxRecDepth 100000 in
set_option maxHeartbeats 3200000 in
theorem XU (n:Nd) (K:Value) (k:Int) (w:World) (ht:CntTab w) (hk:n.kind=7) (hts:n.text.size<=281474976710656):
  Calls Tryz.prog 35 #[ndV n K,.int .i64 k] w fun e w'=>e=.returned (.bool (Am n k))/\Below w.heap.size w w':=by
 obtain⟨kind,s0,s1,s2,s3,text,mn,mx,kids⟩:=n;simp only at hk hts ⊢;subst hk;have hc:=ht.cells;have t0:=hc 14;have t1:=hc 15;clear hc;simp at t0 t1;have hg:=AP t0;simp only at hg;have hE:=fun w=>Dg w s0 s1 s2 s3 0 0 0 0
 have HS:=qd (show decide (s0=0/\s1=0/\s2=0/\s3=0)=BQ ⟨7,s0,s1,s2,s3,text,mn,mx,kids⟩from rfl);generalize decide (s0=0/\s1=0/\s2=0/\s3=0)=b at hE HS;clear ht;rcases Nat.lt_or_ge 0 text.size with h0|h0
 ·have⟨e1,e2⟩:=Bb text h0;have HX:=qd (show Ay ⟨7,s0,s1,s2,s3,text,mn,mx,kids⟩=false from decide_eq_false (show ¬text.size=0 by omega));cases b
  all_goals
   go_enter Tryz.func35,Tryz.ntmps35
   go_wp2_with fail
   go_region
   go_wp2_with fail
   all_goals (go_ret;refine⟨Aj ?_,(bx1 w _).drew⟩)
   all_goals (first|(simp[Am,<-HS.out,HX.out,Ah];done)|(simp[Am,<-HS.out,HX.out,Ah];omega)|(rw[Bool.eq_iff_iff];simp[Am,<-HS.out,HX.out,Ah];omega)|(simp only[bne_eq_false_iff_eq]at *;simp[Am,<-HS.out,HX.out,Ah];omega))
 ·have⟨e1,e2,e3⟩:=AH text (by omega);clear e3;have HX:=qd (show Ay ⟨7,s0,s1,s2,s3,text,mn,mx,kids⟩=true from decide_eq_true (show text.size=0 by omega));cases b
  all_goals
   go_enter Tryz.func35,Tryz.ntmps35
   go_wp2_with fail
   go_region
   go_wp2_with fail
   all_goals (go_ret;refine⟨Aj ?_,(bx1 w _).drew⟩)
   all_goals (first|(simp[Am,<-HS.out,HX.out,Ah];done)|(simp[Am,<-HS.out,HX.out,Ah];omega)|(rw[Bool.eq_iff_iff];simp[Am,<-HS.out,HX.out,Ah];omega)|(simp only[bne_eq_false_iff_eq]at *;simp[Am,<-HS.out,HX.out,Ah];omega))
set_option maxRecDepth 100000 in
set_option maxHeartbeats 3200000 in
theorem XV (n:Nd) (K:Value) (k:Int) (w:World) (ht:CntTab w) (hk:n.kind=8) (hts:n.text.size<=281474976710656):
  Calls Tryz.prog 35 #[ndV n K,.int .i64 k] w fun e w'=>e=.returned (.bool (Am n k))/\Below w.heap.size w w':=by
 obtain⟨kind,s0,s1,s2,s3,text,mn,mx,kids⟩:=n;simp only at hk hts ⊢;subst hk;have hc:=ht.cells;have t0:=hc 16;have t1:=hc 17;clear hc;simp at t0 t1;have hg:=AP t0;simp only at hg;have hE:=fun w=>Dg w s0 s1 s2 s3 0 0 0 0
 have HS:=qd (show decide (s0=0/\s1=0/\s2=0/\s3=0)=BQ ⟨8,s0,s1,s2,s3,text,mn,mx,kids⟩from rfl);generalize decide (s0=0/\s1=0/\s2=0/\s3=0)=b at hE HS;clear ht;rcases Nat.lt_or_ge 0 text.size with h0|h0
 ·have⟨e1,e2⟩:=Bb text h0;have HX:=qd (show Ay ⟨8,s0,s1,s2,s3,text,mn,mx,kids⟩=false from decide_eq_false (show ¬text.size=0 by omega));cases b
  all_goals
   go_enter Tryz.func35,Tryz.ntmps35
   go_wp2_with fail
   go_region
   go_wp2_with fail
   all_goals (go_ret;refine⟨Aj ?_,(bx1 w _).drew⟩)
   all_goals (first|(simp[Am,<-HS.out,HX.out,Ah];done)|(simp[Am,<-HS.out,HX.out,Ah];omega)|(rw[Bool.eq_iff_iff];simp[Am,<-HS.out,HX.out,Ah];omega)|(simp only[bne_eq_false_iff_eq]at *;simp[Am,<-HS.out,HX.out,Ah];omega))
 ·have⟨e1,e2,e3⟩:=AH text (by omega);clear e3;have HX:=qd (show Ay ⟨8,s0,s1,s2,s3,text,mn,mx,kids⟩=true from decide_eq_true (show text.size=0 by omega));cases b
  all_goals
   go_enter Tryz.func35,Tryz.ntmps35
   go_wp2_with fail
   go_region
   go_wp2_with fail
   all_goals (go_ret;refine⟨Aj ?_,(bx1 w _).drew⟩)
   all_goals (first|(simp[Am,<-HS.out,HX.out,Ah];done)|(simp[Am,<-HS.out,HX.out,Ah];omega)|(rw[Bool.eq_iff_iff];simp[Am,<-HS.out,HX.out,Ah];omega)|(simp only[bne_eq_false_iff_eq]at *;simp[Am,<-HS.out,HX.out,Ah];omega))
set_option maxRecDepth 100000 in
set_option maxHeartbeats 3200000 in
theorem XW (n:Nd) (K:Value) (k:Int) (w:World) (ht:CntTab w) (hk:n.kind=9) (hts:n.text.size<=281474976710656):
  Calls Tryz.prog 35 #[ndV n K,.int .i64 k] w fun e w'=>e=.returned (.bool (Am n k))/\Below w.heap.size w w':=by
 obtain⟨kind,s0,s1,s2,s3,text,mn,mx,kids⟩:=n;simp only at hk hts ⊢;subst hk;have hc:=ht.cells;have t0:=hc 18;have t1:=hc 19;clear hc;simp at t0 t1;have hg:=AP t0;simp only at hg;have hE:=fun w=>Dg w s0 s1 s2 s3 0 0 0 0
 have HS:=qd (show decide (s0=0/\s1=0/\s2=0/\s3=0)=BQ ⟨9,s0,s1,s2,s3,text,mn,mx,kids⟩from rfl);generalize decide (s0=0/\s1=0/\s2=0/\s3=0)=b at hE HS;clear ht;rcases Nat.lt_or_ge 0 text.size with h0|h0
 ·have⟨e1,e2⟩:=Bb text h0;have HX:=qd (show Ay ⟨9,s0,s1,s2,s3,text,mn,mx,kids⟩=false from decide_eq_false (show ¬text.size=0 by omega));cases b;all_goals
  rcases hm:Cb text.data.toList
  all_goals
   go_enter Tryz.func35,Tryz.ntmps35
   go_wp2_with fail
   go_region
   go_wp2_with (go_at_call 59;refine(IB text _ hts).mono ?_;rintro e w' ⟨rfl,hb⟩;obtain⟨q0,q1,q2,q3,q4,q5,q6,q7,q8,r0,r1,r2,r3,r4,r5,r6,r7,r8⟩:=BP (RY hb))
   all_goals (go_ret;refine⟨Aj ?_,(by first|exact(bx1 w _).drew|exact(bx1 w _).drew.trans (hb.mono (by simp))|exact((bx1 w _).drew.trans (hb.mono (by simp))).setCell (p:=⟨w.heap.size,5,none⟩) (Nat.le_refl _) _)⟩)
   all_goals (first|(simp[Am,<-HS.out,HX.out,Ah,hm];done)|(simp[Am,<-HS.out,HX.out,Ah,hm];omega)|(rw[Bool.eq_iff_iff];simp[Am,<-HS.out,HX.out,Ah,hm];omega)|(simp only[bne_eq_false_iff_eq]at *;simp[Am,<-HS.out,HX.out,Ah,hm];omega))
 ·have⟨e1,e2,e3⟩:=AH text (by omega);clear e3;have HX:=qd (show Ay ⟨9,s0,s1,s2,s3,text,mn,mx,kids⟩=true from decide_eq_true (show text.size=0 by omega));cases b;all_goals
  rcases hm:Cb text.data.toList
  all_goals
   go_enter Tryz.func35,Tryz.ntmps35
   go_wp2_with fail
   go_region
   go_wp2_with (go_at_call 59;refine(IB text _ hts).mono ?_;rintro e w' ⟨rfl,hb⟩;obtain⟨q0,q1,q2,q3,q4,q5,q6,q7,q8,r0,r1,r2,r3,r4,r5,r6,r7,r8⟩:=BP (RY hb))
   all_goals (go_ret;refine⟨Aj ?_,(by first|exact(bx1 w _).drew|exact(bx1 w _).drew.trans (hb.mono (by simp))|exact((bx1 w _).drew.trans (hb.mono (by simp))).setCell (p:=⟨w.heap.size,5,none⟩) (Nat.le_refl _) _)⟩)
   all_goals (first|(simp[Am,<-HS.out,HX.out,Ah,hm];done)|(simp[Am,<-HS.out,HX.out,Ah,hm];omega)|(rw[Bool.eq_iff_iff];simp[Am,<-HS.out,HX.out,Ah,hm];omega)|(simp only[bne_eq_false_iff_eq]at *;simp[Am,<-HS.out,HX.out,Ah,hm];omega))
theorem O9 {w:World} {b:Nat} {cs:List Value} {T:TypeId} (h:w.heap[b]?=some (.cells cs.toArray T (0,0))):RowAt w (some ⟨b,0,none⟩) cs:=fun j u hu=>by
 refine⟨_,rfl,?_⟩;rw[Addr.add_lit];simp[World.cell?,h,hu]
set_option maxHeartbeats 2000000 in
set_option maxRecDepth 100000 in
theorem Hn (B b:Nat) (l:List UInt8) (c:UInt8) (w:World) (h:IsB B b l w) (hlen:l.length+1<=140737488355328) (hBw:B<=w.heap.size):
  Calls Tryz.prog 18 #[.pointer (some ⟨b,0,none⟩),.int .u8 (c.toNat:Int)] w fun e w'=>e=.returned .nilIface/\(IsB B b (l++[c]) w'/\Below B w w'/\Keeps w w'):=by
 obtain⟨i0,hi,hz0,hz1,hz2⟩:=info_parts infoByte;go_enter Tryz.func18,Tryz.ntmps18
 go_wp2_with (go_at_call 37;refine(Im B b l _ h).mono ?_)
 rintro e w1 ⟨rfl,h1,hb1,hk1⟩;have HK1:=qd hk1;clear hk1;obtain⟨hB,v,hbk,hown,hne⟩:=h1;have hbl:(Lib.byteCells l).length=l.length:=by simp[Lib.byteCells]
 obtain⟨V,vc,rfl⟩:∃V vc,v=.slice V l.length vc:=by
  rcases hown.2 with⟨hv,h0⟩|⟨g,cap,cur,hv,_⟩
  ·exact⟨none,0,by rw[hv];congr 1;omega⟩
  ·exact⟨_,_,by rw[hv];congr 1⟩
 have c0:w1.cell? ⟨b,0,none⟩=some (.pointer (some ⟨b,0,none⟩)):=by rw[Lib.cell_of_heap hbk];rfl
 have c1:w1.cell? ⟨b,1,none⟩=some (.slice V l.length vc):=by rw[Lib.cell_of_heap hbk];rfl
 have HOW:=qd (show w1.ownsRow B 5 1 (.slice V l.length vc) l.length (Lib.byteCells l)by rw[hbl]at hown;exact hown);have hlt:b<w1.heap.size:=(Array.getElem?_eq_some_iff.1 hbk).1;have HF:=qd (show l.length+1<=maxLen/\(l.length+1)*1<=140737488355328/\B<=w1.heap.size from⟨by unfold maxLen;omega,by omega,by have:=hb1.size;omega⟩);have HBK:=qd hbk;have HNE:=qd hne;have HB1:=qd hb1;clear hbk hne hown h hb1;go_wp2_with (at_builtin;refine Ax _ rfl (.tmp 11) (.tmp 13) 48 rfl B 5 i0 (.int .u8 0) 1 1 Tryz.underlying48 hi hz0 hz1 hz2 rfl (by decide) V vc l.length (Lib.byteCells l) rfl (World.ownsRow.alloc HOW.out _) (some ⟨w1.heap.size,0,none⟩) 1 1 [.int .u8 (c.toNat:Int)] rfl rfl (O9 (Ad _ _)) (fun u hu=>by simp only[List.mem_singleton]at hu;subst hu;rfl) HF.out.1 HF.out.2.1 (by have:=HF.out.2.2;simp;omega) ?_;intro V2 vc2 w2 HO2 HG2 HA2;have hb2:w2.heap[b]?=some (.cells #[.pointer (some ⟨b,0,none⟩),.slice V l.length vc] 50 (0,0)):=((HG2.out.block b (by simp;omega) (fun e=>HNE.out (by rw[Dw];exact e.symm))).trans ((Below.heap_alloc w1 _ b hlt).trans HBK.out));have d0:w2.cell? ⟨b,0,none⟩=some (.pointer (some ⟨b,0,none⟩)):=(by rw[Lib.cell_of_heap hb2];rfl);have d1:w2.cell? ⟨b,1,none⟩=some (.slice V l.length vc):=(by rw[Lib.cell_of_heap hb2];rfl);have f1:w2.frozen? ⟨b,1,none⟩=false:=Lib.frozen_of_heap hb2 1)
 go_ret;have hE:Lib.byteCells (l++[c])=Lib.byteCells l++[.int .u8 (c.toNat:Int)]:=by simp[Lib.byteCells]
 refine⟨rfl,.inr ?_,?_,?_⟩
 ·have h:=Lib.BuilderAt.put (T:=50) (e:=5) hB hb2 (v':=.slice V2 (l.length+1) vc2) (bs':=Lib.byteCells l++[.int .u8 (c.toNat:Int)]) (by rw[List.length_append,hbl];exact HO2.out) (by decide);rw[hE];exact h
 ·have hg:Below B w1 w2:=((Below.refl B w1).alloc HF.out.2.2 _).grown HG2.out (by have:=HF.out.2.2;simp;omega) (fun k hk=>(Aq HOW.out k hk).1);exact(HB1.out.trans hg).setCell (p:=⟨b,1,none⟩) hB _
 ·have hk2:Keeps w1 w2:=(Keeps.below (bx1 w1 _)).trans (Keeps.grown (World.ownsRow.alloc HOW.out _) (by rw[Dw];exact HG2.out));exact HK1.out.trans (hk2.trans (Keeps.set hb2))
end Go.Proofs.YtdnochjajoiooaaGreatDoor
/- The contracts of quote.put,Literal. -/
namespace Go.Proofs.YtdnochjajoiooaaGreatDoor
open Go.RowKit
set_option linter.unusedSimpArgs false
set_option linter.unusedVariables false
theorem FM (b:UInt8) (n:Int) (hn:(b.toNat:Int)=n) (left:ByteArray) (w:World):
  Calls Tryz.prog 74 #[.int .u8 n,.string left] w fun e w'=>e=.returned (.bool (decide (Eo b left.data.toList)))/\w'=w:=by
 subst hn;exact Hj b left w
theorem CY (B b:Nat) (l:List UInt8) (c:UInt8) (n:Int) (hn:(c.toNat:Int)=n) (w:World) (h:IsB B b l w) (hlen:l.length+1<=140737488355328) (hBw:B<=w.heap.size):
  Calls Tryz.prog 18 #[.pointer (some ⟨b,0,none⟩),.int .u8 n] w fun e w'=>e=.returned .nilIface/\(IsB B b (l++[c]) w'/\Below B w w'/\Keeps w w'):=by
 subst hn;exact Hn B b l c w h hlen hBw
theorem Xm:∀(k:Nat) (h:k<16),(⟨#[48,49,50,51,52,53,54,55,56,57,97,98,99,100,101,102]⟩:ByteArray)[k]'h=JR k:=by decide
def N1 (B b:Nat) (l:List UInt8) (w:World) (e:Ending) (w':World):Prop:=e=.returned (.tuple #[])/\IsB B b l w'/\Below B w w'/\Keeps w w'
theorem Rp (b:UInt8) (k:Nat) (c:UInt8) (hc:c.toNat=k):(b=c->((b.toNat:Int)==(k:Int))=true/\(b.toNat:Int)=(k:Int))/\(b≠c->((b.toNat:Int)==(k:Int))=false/\ ¬(b.toNat:Int)=(k:Int)):=by
 constructor
 ·rintro rfl;rw[hc];simp
 ·intro h;have:¬(b.toNat:Int)=(k:Int):=fun e=>h (UInt8.toNat_inj.1 (by rw[hc];omega))
  exact⟨by simpa using this,this⟩
theorem II (B b:Nat) (l xs:List UInt8) (s:ByteArray) (hs:s.data.toList=xs) (w:World) (h:IsB B b l w) (hlen:l.length+xs.length<=140737488355328) (hBw:B<=w.heap.size):
  Calls Tryz.prog 19 #[.pointer (some ⟨b,0,none⟩),.string s] w fun e w'=>e=.returned (.tuple #[.int .i64 s.size,.nilIface])/\(IsB B b (l++xs) w'/\Below B w w'/\Keeps w w'):=by
 subst hs;exact FY B b l s w h (by have:s.data.toList.length=s.size:=rfl;omega) hBw
set_option maxRecDepth 100000 in
set_option maxHeartbeats 1600000 in
theorem Rq (B b:Nat) (l:List UInt8) (c:UInt8) (left:ByteArray) (w:World) (h:IsB B b l w) (hlen:l.length+4<=140737488355328) (hBw:B<=w.heap.size):
  Calls Tryz.prog 62 #[.pointer (some ⟨b,0,none⟩),.int .u8 (c.toNat:Int),.string left] w (N1 B b (l++A6 left.data.toList c) w):=by
 have HL:=qd hlen;have HBW:=qd hBw;have HI:=qd h;clear hlen hBw h;unfold N1;go_enter Tryz.func62,Tryz.ntmps62
 have hq:A6 left.data.toList c=if Eo c left.data.toList then[c]else if c=10 then[92,110]else if c=13 then[92,114]else if c=9 then[92,116]else if c=92\/c∈left.data.toList then[92,c]else[92,120,JR (c.toNat/16),JR (c.toNat%16)]:=rfl
 by_cases hp:Eo c left.data.toList
 ·rw[if_pos hp]at hq;rw[hq];have h0:=decide_eq_true hp
  go_wp2_with (first
   |(go_at_call 74;refine(Hj c left _).mono ?_;rintro e w' ⟨rfl,rfl⟩;rw[h0])
   |(go_at_call 18;refine(Hn B b l c _ HI.out (by have:=HL.out;omega) HBW.out).mono ?_;rintro e w1 ⟨rfl,h1,h2,h3⟩;have HI1:=qd h1;have HB1:=qd h2;have HK1:=qd h3;clear h1 h2 h3))
  refine bodyPost_end (v:=.tuple #[]) (by simp[results,Tryz.results62]) rfl ?_;exact⟨rfl,HI1.out,HB1.out,HK1.out⟩
 ·rw[if_neg hp]at hq;have h0:=decide_eq_false hp;have e10:=Rp c 10 10 rfl;have e13:=Rp c 13 13 rfl;have e9:=Rp c 9 9 rfl;have e92:=Rp c 92 92 rfl;have HP:=qd h0;by_cases h10:c=10
  ·rw[if_pos h10]at hq;rw[hq];obtain⟨a10,b10⟩:((c.toNat:Int)==10)=true/\(c.toNat:Int)=10:=e10.1 h10;clear e10 e13 e9 e92 h0 h10 hq hp
   as_aux_lemma=>
    go_wp2_with (first|(go_at_call 74;(with_reducible refine(FM c _ (by first|rfl|exact b10) left _).mono ?_);rintro e w' ⟨rfl,rfl⟩;rw[HP.out])|(go_at_call 19;refine(II B b l [92,110] _ rfl _ HI.out (by have:=HL.out;(try simp only[List.length_append,List.length_cons,List.length_nil]);omega) HBW.out).mono ?_;rintro e w1 ⟨rfl,h1,h2,h3⟩;have HI1:=qd h1;have HB1:=qd h2;have HK1:=qd h3;clear h1 h2 h3))
    refine bodyPost_end (v:=.tuple #[]) (by simp[results,Tryz.results62]) rfl ?_;exact⟨rfl,HI1.out,HB1.out,HK1.out⟩
  ·skip
   by_cases h13:c=13
   ·rw[if_neg h10,if_pos h13]at hq;rw[hq];obtain⟨a10,b10⟩:((c.toNat:Int)==10)=false/\ ¬(c.toNat:Int)=10:=e10.2 h10;obtain⟨a13,b13⟩:((c.toNat:Int)==13)=true/\(c.toNat:Int)=13:=e13.1 h13;clear e10 e13 e9 e92 h0 h10 h13 hq hp
    as_aux_lemma=>
     go_wp2_with (first|(go_at_call 74;(with_reducible refine(FM c _ (by first|rfl|exact b13) left _).mono ?_);rintro e w' ⟨rfl,rfl⟩;rw[HP.out])|(go_at_call 19;refine(II B b l [92,114] _ rfl _ HI.out (by have:=HL.out;(try simp only[List.length_append,List.length_cons,List.length_nil]);omega) HBW.out).mono ?_;rintro e w1 ⟨rfl,h1,h2,h3⟩;have HI1:=qd h1;have HB1:=qd h2;have HK1:=qd h3;clear h1 h2 h3))
     refine bodyPost_end (v:=.tuple #[]) (by simp[results,Tryz.results62]) rfl ?_;exact⟨rfl,HI1.out,HB1.out,HK1.out⟩
   ·skip
    by_cases h9:c=9
    ·rw[if_neg h10,if_neg h13,if_pos h9]at hq;rw[hq];obtain⟨a10,b10⟩:((c.toNat:Int)==10)=false/\ ¬(c.toNat:Int)=10:=e10.2 h10;obtain⟨a13,b13⟩:((c.toNat:Int)==13)=false/\ ¬(c.toNat:Int)=13:=e13.2 h13;obtain⟨a9,b9⟩:((c.toNat:Int)==9)=true/\(c.toNat:Int)=9:=e9.1 h9;clear e10 e13 e9 e92 h0 h10 h13 h9 hq hp
     as_aux_lemma=>
      go_wp2_with (first|(go_at_call 74;(with_reducible refine(FM c _ (by first|rfl|exact b9) left _).mono ?_);rintro e w' ⟨rfl,rfl⟩;rw[HP.out])|(go_at_call 19;refine(II B b l [92,116] _ rfl _ HI.out (by have:=HL.out;(try simp only[List.length_append,List.length_cons,List.length_nil]);omega) HBW.out).mono ?_;rintro e w1 ⟨rfl,h1,h2,h3⟩;have HI1:=qd h1;have HB1:=qd h2;have HK1:=qd h3;clear h1 h2 h3))
      refine bodyPost_end (v:=.tuple #[]) (by simp[results,Tryz.results62]) rfl ?_;exact⟨rfl,HI1.out,HB1.out,HK1.out⟩
    ·rw[if_neg h10,if_neg h13,if_neg h9]at hq;have hix:=KU left.data.toList c;obtain⟨a10,b10⟩:((c.toNat:Int)==10)=false/\ ¬(c.toNat:Int)=10:=e10.2 h10;obtain⟨a13,b13⟩:((c.toNat:Int)==13)=false/\ ¬(c.toNat:Int)=13:=e13.2 h13;obtain⟨a9,b9⟩:((c.toNat:Int)==9)=false/\ ¬(c.toNat:Int)=9:=e9.2 h9;clear e10 e13 e9 h10 h13 h9 h0;have fin:∀{a b' c':World} {l':List UInt8},True:=trivial;by_cases h92:c=92
     ·rw[if_pos (.inl h92)]at hq;rw[hq];obtain⟨a92,b92⟩:((c.toNat:Int)==92)=true/\(c.toNat:Int)=92:=e92.1 h92;have h92':=qd h92;clear e92 h92 hq hp hix
      as_aux_lemma=>
       go_wp2_with (first|(go_at_call 74;(with_reducible refine(FM c _ (by first|rfl|exact b92) left _).mono ?_);rintro e w' ⟨rfl,rfl⟩;rw[HP.out])|(go_at_call 18;(with_reducible refine(CY B b l 92 _ (by first|rfl|exact b92|decide|(simp;done)) _ HI.out (by have:=HL.out;(try simp only[List.length_append,List.length_cons,List.length_nil]);omega) HBW.out).mono ?_);rintro e w1 ⟨rfl,h1,h2,h3⟩;have HI1:=qd h1;have HB1:=qd h2;have HK1:=qd h3;clear h1 h2 h3)|(go_at_call 18;(with_reducible refine(CY B b (l++[92]) c _ (by first|rfl|exact b92|decide|(simp;done)) _ HI1.out (by have:=HL.out;(try simp only[List.length_append,List.length_cons,List.length_nil]);omega) (Nat.le_trans HBW.out HB1.out.size)).mono ?_);rintro e w2 ⟨rfl,h1,h2,h3⟩;have HI2:=qd h1;have HB2:=qd h2;have HK2:=qd h3;clear h1 h2 h3))
       refine bodyPost_end (v:=.tuple #[]) (by simp[results,Tryz.results62]) rfl ?_;exact⟨rfl,by have:=HI2.out;rw[List.append_assoc]at this;exact this,HB1.out.trans HB2.out,HK1.out.trans HK2.out⟩
     ·obtain⟨a92,b92⟩:((c.toNat:Int)==92)=false/\ ¬(c.toNat:Int)=92:=e92.2 h92;by_cases hin:c∈left.data.toList
      ·rw[if_pos (.inr hin)]at hq;rw[hq];have hx:0<=Lib.indexByte left.data.toList c:=Int.not_lt.1 fun h=>hix.1 h hin
       clear e92 h92 hq hp hix hin
       as_aux_lemma=>
        go_wp2_with (first|(go_at_call 74;(with_reducible refine(FM c _ (by first|rfl|exact rfl) left _).mono ?_);rintro e w' ⟨rfl,rfl⟩;rw[HP.out])|(go_at_call 75;refine(Tryz.strings_IndexByte left (c.toNat:Int) _).mono ?_;rintro e w' ⟨rfl,rfl⟩;rw[We])|(go_at_call 18;(with_reducible refine(CY B b l 92 _ (by first|rfl|exact rfl|decide|(simp;done)) _ HI.out (by have:=HL.out;(try simp only[List.length_append,List.length_cons,List.length_nil]);omega) HBW.out).mono ?_);rintro e w1 ⟨rfl,h1,h2,h3⟩;have HI1:=qd h1;have HB1:=qd h2;have HK1:=qd h3;clear h1 h2 h3)|(go_at_call 18;(with_reducible refine(CY B b (l++[92]) c _ (by first|rfl|exact rfl|decide|(simp;done)) _ HI1.out (by have:=HL.out;(try simp only[List.length_append,List.length_cons,List.length_nil]);omega) (Nat.le_trans HBW.out HB1.out.size)).mono ?_);rintro e w2 ⟨rfl,h1,h2,h3⟩;have HI2:=qd h1;have HB2:=qd h2;have HK2:=qd h3;clear h1 h2 h3))
        refine bodyPost_end (v:=.tuple #[]) (by simp[results,Tryz.results62]) rfl ?_;exact⟨rfl,by have:=HI2.out;rw[List.append_assoc]at this;exact this,HB1.out.trans HB2.out,HK1.out.trans HK2.out⟩
      ·rw[if_neg (by rintro(h|h);exact h92 h;exact hin h)]at hq;rw[hq];have hx:Lib.indexByte left.data.toList c<0:=hix.2 hin;have hx':¬0<=Lib.indexByte left.data.toList c:=by omega
       have i2:0<=(c.toNat:Int)%16/\(c.toNat:Int)%16<16:=by omega
       have i1:0<=(c.toNat:Int)/16/\(c.toNat:Int)/16<16:=by have:=c.toNat_lt;omega
       clear e92 h92 hq hp hix hin;go_wp2_with (first|(go_at_call 74;(with_reducible refine(FM c _ (by first|rfl|exact rfl) left _).mono ?_);rintro e w' ⟨rfl,rfl⟩;rw[HP.out])|(go_at_call 75;refine(Tryz.strings_IndexByte left (c.toNat:Int) _).mono ?_;rintro e w' ⟨rfl,rfl⟩;rw[We])|(go_at_call 19;refine(II B b l [92,120] _ rfl _ HI.out (by have:=HL.out;(try simp only[List.length_append,List.length_cons,List.length_nil]);omega) HBW.out).mono ?_;rintro e w1 ⟨rfl,h1,h2,h3⟩;have HI1:=qd h1;have HB1:=qd h2;have HK1:=qd h3;clear h1 h2 h3)|(go_at_call 18;(with_reducible refine(Hn B b (l++[92,120]) _ _ HI1.out (by have:=HL.out;(try simp only[List.length_append,List.length_cons,List.length_nil]);omega) (Nat.le_trans HBW.out HB1.out.size)).mono ?_);rintro e w2 ⟨rfl,h1,h2,h3⟩;have HI2:=qd h1;have HB2:=qd h2;have HK2:=qd h3;clear h1 h2 h3)|(go_at_call 18;(with_reducible refine(Hn B b _ _ _ HI2.out (by have:=HL.out;(try simp only[List.length_append,List.length_cons,List.length_nil]);omega) (Nat.le_trans HBW.out (Nat.le_trans HB1.out.size HB2.out.size))).mono ?_);rintro e w3 ⟨rfl,h1,h2,h3⟩;have HI3:=qd h1;have HB3:=qd h2;have HK3:=qd h3;clear h1 h2 h3))
       refine bodyPost_end (v:=.tuple #[]) (by simp[results,Tryz.results62]) rfl ?_;refine⟨rfl,?_,(HB1.out.trans HB2.out).trans HB3.out,HK1.out.trans (HK2.out.trans HK3.out)⟩;have h3:=HI3.out;rw[Xm _ (by omega),Xm _ (by omega),List.append_assoc,List.append_assoc]at h3;exact h3
end Go.Proofs.YtdnochjajoiooaaGreatDoor
/- The contract of quote.Literal. -/
namespace Go.Proofs.YtdnochjajoiooaaGreatDoor
open Go.RowKit
set_option linter.unusedSimpArgs false
set_option linter.unusedVariables false
def C9 (l:List UInt8) (w:World) (e:Ending) (w':World):Prop:=e=.returned (.string ⟨l.toArray⟩)/\Below w.heap.size w w'
set_option maxRecDepth 100000 in
set_option maxHeartbeats 1600000 in
theorem Rr (s:ByteArray) (w:World) (hs:s.size<=1000000):
  Calls Tryz.prog 38 #[.string s] w (C9 (JS s.data.toList) w):=by
 unfold C9;go_enter Tryz.func38,Tryz.ntmps38
 have HI0:=qd (IsB.new w (Nat.le_refl w.heap.size));have HB0:=qd (bx1 w (.cells #[.pointer none,.slice none 0 0] 50));go_wp2_with (go_at_call 18;(refine(CY w.heap.size w.heap.size [] 34 _ (by rfl) _ HI0.out (by decide) HB0.out.size).mono ?_);rintro e w1 ⟨rfl,h1,h2,h3⟩;have HI1:=qd h1;have HB1:=qd (HB0.out.trans h2);clear h1 h2 h3)
 go_loopw [4] (fun i wr=>∃k:Nat,k<=s.size/\i=.int .i64 k/\Hid (IsB w.heap.size w.heap.size ([34]++(s.data.toList.take k).flatMap (A6 [34])) wr)/\Hid (Below w.heap.size w wr)) (fun i _=>s.size-(intOf i).toNat)
 case atStart=>exact⟨0,Nat.zero_le _,rfl,qd (by simpa using HI1.out),HB1⟩
 case round=>
  obtain⟨k,hk,rfl,HI,HB⟩:=hrel;by_cases hlt:k<s.size
  ·have i1:(k:Int)<(s.size:Int):=by omega
   have i2:(0:Int)<=(k:Int):=by omega
   have HLN:=qd (show([34]++(s.data.toList.take k).flatMap (A6 [34])).length+4<=140737488355328 from by
    have h1:=Fr (A6 [34]) 4 (s.data.toList.take k) fun x _=>(Dv [34] x).2
    have h2:(s.data.toList.take k).length<=k:=by simp;omega
    simp only[List.length_append,List.length_singleton];omega)
   have HTK:=qd (show s.data.toList.take (k+1)=s.data.toList.take k++[s[k]]from by
    rw[List.take_succ_eq_append_getElem (by simpa using hlt)];rfl)
   go_wp2_with fail
   refine(Rq w.heap.size w.heap.size _ s[k] ⟨#[34]⟩ wr HI.out HLN.out HB.out.size).mono ?_;rintro e w2 ⟨rfl,h1,h2,h3⟩;have HI2:=qd h1;have HB2:=qd (HB.out.trans h2);clear h1 h2 h3;go_wp2_with fail
   exact⟨⟨k+1,by omega,by go_num,qd (by rw[HTK.out,List.flatMap_append,<-List.append_assoc];simpa using HI2.out),HB2⟩,by simp only[intOf];omega⟩
  ·obtain rfl:k=s.size:=by omega
   have HIE:=qd (show IsB w.heap.size w.heap.size ([34]++s.data.toList.flatMap (A6 [34])) wr from by
    have h:=HI.out;rwa [List.take_of_length_le (show s.data.toList.length<=s.size from Nat.le_refl _)]at h)
   have HLN:=qd (show([34]++s.data.toList.flatMap (A6 [34])).length+1<=140737488355328 from by
    have h1:=Fr (A6 [34]) 4 s.data.toList fun x _=>(Dv [34] x).2
    have h2:s.data.toList.length=s.size:=rfl;simp only[List.length_append,List.length_singleton];omega)
   go_wp2_with (first
    |(go_at_call 18;(refine(CY w.heap.size w.heap.size _ 34 _ (by rfl) _ HIE.out HLN.out HB.out.size).mono ?_);rintro e w2 ⟨rfl,h1,h2,h3⟩;have HI2:=qd h1;have HB2:=qd (HB.out.trans h2);clear h1 h2 h3)
    |(go_at_call 23;refine(Tryz.Builder_String_any w.heap.size w.heap.size _ _ HI2.out HB2.out.size).mono ?_;rintro e w3 ⟨rfl,hb3⟩;have HB3:=qd (HB2.out.trans hb3);clear hb3))
   go_ret;exact⟨rfl,HB3.out⟩
end Go.Proofs.YtdnochjajoiooaaGreatDoor
