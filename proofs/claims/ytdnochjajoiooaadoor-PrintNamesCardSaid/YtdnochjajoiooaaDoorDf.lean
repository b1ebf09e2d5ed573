/- The contract of tree.Fits, kinds 5 to 9 (printed by gen_fits.py). -/
import Derived.Test.YtdnochjajoiooaaDoorDd
namespace Go.Proofs.YtdnochjajoiooaaDoor
open Go.RowKit
set_option linter.unusedSimpArgs false
set_option linter.unusedVariables false
set_option maxRecDepth 100000 in
set_option maxHeartbeats 3200000 in
theorem fits5 (n:Nd) (K:Value) (k:Int) (w:World) (ht:CntTab w) (hk:n.kind=5) (hts:n.text.size≤281474976710656):
  Calls Tryd.prog 39 #[ndV n K,.int .i64 k] w fun e w'=>e=.returned (.bool (fitN n k))∧Below w.heap.size w w':=by
 obtain⟨kind,s0,s1,s2,s3,text,mn,mx,kids⟩:=n
 simp only at hk hts ⊢
 subst hk
 have hc:=ht.cells
 have t0:=hc 10
 have t1:=hc 11
 clear hc
 simp at t0 t1
 have hg:=cellLt t0
 simp only at hg
 have hE:=fun w=>eqSet w s0 s1 s2 s3 0 0 0 0
 have HS:=Lib.hid (show decide (s0=0∧s1=0∧s2=0∧s3=0)=noSet ⟨5,s0,s1,s2,s3,text,mn,mx,kids⟩from rfl)
 generalize decide (s0=0∧s1=0∧s2=0∧s3=0)=b at hE HS
 clear ht
 rcases Nat.lt_or_ge 0 text.size with h0|h0
 ·have⟨e1,e2⟩:=bytes_ne text h0
  have HX:=Lib.hid (show noText ⟨5,s0,s1,s2,s3,text,mn,mx,kids⟩=false from decide_eq_false (show ¬text.size=0 by omega))
  cases b
  all_goals
   go_enter Tryd.func39,Tryd.ntmps39
   go_wp2_with fail
   go_region
   go_wp2_with fail
   all_goals (go_ret;refine⟨ret_bool ?_,(bx1 w _).drew⟩)
   all_goals (first|(simp[fitN,←HS.out,HX.out,noNum];done)|(simp[fitN,←HS.out,HX.out,noNum];omega)|(rw[Bool.eq_iff_iff];simp[fitN,←HS.out,HX.out,noNum];omega)|(simp only[bne_eq_false_iff_eq]at *;simp[fitN,←HS.out,HX.out,noNum];omega))
 ·have⟨e1,e2,e3⟩:=bytes_none text (by omega)
  clear e3
  have HX:=Lib.hid (show noText ⟨5,s0,s1,s2,s3,text,mn,mx,kids⟩=true from decide_eq_true (show text.size=0 by omega))
  cases b
  all_goals
   go_enter Tryd.func39,Tryd.ntmps39
   go_wp2_with fail
   go_region
   go_wp2_with fail
   all_goals (go_ret;refine⟨ret_bool ?_,(bx1 w _).drew⟩)
   all_goals (first|(simp[fitN,←HS.out,HX.out,noNum];done)|(simp[fitN,←HS.out,HX.out,noNum];omega)|(rw[Bool.eq_iff_iff];simp[fitN,←HS.out,HX.out,noNum];omega)|(simp only[bne_eq_false_iff_eq]at *;simp[fitN,←HS.out,HX.out,noNum];omega))
set_option maxRecDepth 100000 in
set_option maxHeartbeats 3200000 in
theorem fits6 (n:Nd) (K:Value) (k:Int) (w:World) (ht:CntTab w) (hk:n.kind=6) (hts:n.text.size≤281474976710656):
  Calls Tryd.prog 39 #[ndV n K,.int .i64 k] w fun e w'=>e=.returned (.bool (fitN n k))∧Below w.heap.size w w':=by
 obtain⟨kind,s0,s1,s2,s3,text,mn,mx,kids⟩:=n
 simp only at hk hts ⊢
 subst hk
 have hc:=ht.cells
 have t0:=hc 12
 have t1:=hc 13
 clear hc
 simp at t0 t1
 have hg:=cellLt t0
 simp only at hg
 have hE:=fun w=>eqSet w s0 s1 s2 s3 0 0 0 0
 have HS:=Lib.hid (show decide (s0=0∧s1=0∧s2=0∧s3=0)=noSet ⟨6,s0,s1,s2,s3,text,mn,mx,kids⟩from rfl)
 generalize decide (s0=0∧s1=0∧s2=0∧s3=0)=b at hE HS
 clear ht
 rcases Nat.lt_or_ge 0 text.size with h0|h0
 ·have⟨e1,e2⟩:=bytes_ne text h0
  have HX:=Lib.hid (show noText ⟨6,s0,s1,s2,s3,text,mn,mx,kids⟩=false from decide_eq_false (show ¬text.size=0 by omega))
  cases b
  all_goals
   go_enter Tryd.func39,Tryd.ntmps39
   go_wp2_with fail
   go_region
   go_wp2_with fail
   all_goals (go_ret;refine⟨ret_bool ?_,(bx1 w _).drew⟩)
   all_goals (first|(simp[fitN,←HS.out,HX.out,noNum];done)|(simp[fitN,←HS.out,HX.out,noNum];omega)|(rw[Bool.eq_iff_iff];simp[fitN,←HS.out,HX.out,noNum];omega)|(simp only[bne_eq_false_iff_eq]at *;simp[fitN,←HS.out,HX.out,noNum];omega))
 ·have⟨e1,e2,e3⟩:=bytes_none text (by omega)
  clear e3
  have HX:=Lib.hid (show noText ⟨6,s0,s1,s2,s3,text,mn,mx,kids⟩=true from decide_eq_true (show text.size=0 by omega))
  cases b
  all_goals
   go_enter Tryd.func39,Tryd.ntmps39
   go_wp2_with fail
   go_region
   go_wp2_with fail
   all_goals (go_ret;refine⟨ret_bool ?_,(bx1 w _).drew⟩)
   all_goals (first|(simp[fitN,←HS.out,HX.out,noNum];done)|(simp[fitN,←HS.out,HX.out,noNum];omega)|(rw[Bool.eq_iff_iff];simp[fitN,←HS.out,HX.out,noNum];omega)|(simp only[bne_eq_false_iff_eq]at *;simp[fitN,←HS.out,HX.out,noNum];omega))
set_option maxRecDepth 100000 in
set_option maxHeartbeats 3200000 in
theorem fits7 (n:Nd) (K:Value) (k:Int) (w:World) (ht:CntTab w) (hk:n.kind=7) (hts:n.text.size≤281474976710656):
  Calls Tryd.prog 39 #[ndV n K,.int .i64 k] w fun e w'=>e=.returned (.bool (fitN n k))∧Below w.heap.size w w':=by
 obtain⟨kind,s0,s1,s2,s3,text,mn,mx,kids⟩:=n
 simp only at hk hts ⊢
 subst hk
 have hc:=ht.cells
 have t0:=hc 14
 have t1:=hc 15
 clear hc
 simp at t0 t1
 have hg:=cellLt t0
 simp only at hg
 have hE:=fun w=>eqSet w s0 s1 s2 s3 0 0 0 0
 have HS:=Lib.hid (show decide (s0=0∧s1=0∧s2=0∧s3=0)=noSet ⟨7,s0,s1,s2,s3,text,mn,mx,kids⟩from rfl)
 generalize decide (s0=0∧s1=0∧s2=0∧s3=0)=b at hE HS
 clear ht
 rcases Nat.lt_or_ge 0 text.size with h0|h0
 ·have⟨e1,e2⟩:=bytes_ne text h0
  have HX:=Lib.hid (show noText ⟨7,s0,s1,s2,s3,text,mn,mx,kids⟩=false from decide_eq_false (show ¬text.size=0 by omega))
  cases b
  all_goals
   go_enter Tryd.func39,Tryd.ntmps39
   go_wp2_with fail
   go_region
   go_wp2_with fail
   all_goals (go_ret;refine⟨ret_bool ?_,(bx1 w _).drew⟩)
   all_goals (first|(simp[fitN,←HS.out,HX.out,noNum];done)|(simp[fitN,←HS.out,HX.out,noNum];omega)|(rw[Bool.eq_iff_iff];simp[fitN,←HS.out,HX.out,noNum];omega)|(simp only[bne_eq_false_iff_eq]at *;simp[fitN,←HS.out,HX.out,noNum];omega))
 ·have⟨e1,e2,e3⟩:=bytes_none text (by omega)
  clear e3
  have HX:=Lib.hid (show noText ⟨7,s0,s1,s2,s3,text,mn,mx,kids⟩=true from decide_eq_true (show text.size=0 by omega))
  cases b
  all_goals
   go_enter Tryd.func39,Tryd.ntmps39
   go_wp2_with fail
   go_region
   go_wp2_with fail
   all_goals (go_ret;refine⟨ret_bool ?_,(bx1 w _).drew⟩)
   all_goals (first|(simp[fitN,←HS.out,HX.out,noNum];done)|(simp[fitN,←HS.out,HX.out,noNum];omega)|(rw[Bool.eq_iff_iff];simp[fitN,←HS.out,HX.out,noNum];omega)|(simp only[bne_eq_false_iff_eq]at *;simp[fitN,←HS.out,HX.out,noNum];omega))
set_option maxRecDepth 100000 in
set_option maxHeartbeats 3200000 in
theorem fits8 (n:Nd) (K:Value) (k:Int) (w:World) (ht:CntTab w) (hk:n.kind=8) (hts:n.text.size≤281474976710656):
  Calls Tryd.prog 39 #[ndV n K,.int .i64 k] w fun e w'=>e=.returned (.bool (fitN n k))∧Below w.heap.size w w':=by
 obtain⟨kind,s0,s1,s2,s3,text,mn,mx,kids⟩:=n
 simp only at hk hts ⊢
 subst hk
 have hc:=ht.cells
 have t0:=hc 16
 have t1:=hc 17
 clear hc
 simp at t0 t1
 have hg:=cellLt t0
 simp only at hg
 have hE:=fun w=>eqSet w s0 s1 s2 s3 0 0 0 0
 have HS:=Lib.hid (show decide (s0=0∧s1=0∧s2=0∧s3=0)=noSet ⟨8,s0,s1,s2,s3,text,mn,mx,kids⟩from rfl)
 generalize decide (s0=0∧s1=0∧s2=0∧s3=0)=b at hE HS
 clear ht
 rcases Nat.lt_or_ge 0 text.size with h0|h0
 ·have⟨e1,e2⟩:=bytes_ne text h0
  have HX:=Lib.hid (show noText ⟨8,s0,s1,s2,s3,text,mn,mx,kids⟩=false from decide_eq_false (show ¬text.size=0 by omega))
  cases b
  all_goals
   go_enter Tryd.func39,Tryd.ntmps39
   go_wp2_with fail
   go_region
   go_wp2_with fail
   all_goals (go_ret;refine⟨ret_bool ?_,(bx1 w _).drew⟩)
   all_goals (first|(simp[fitN,←HS.out,HX.out,noNum];done)|(simp[fitN,←HS.out,HX.out,noNum];omega)|(rw[Bool.eq_iff_iff];simp[fitN,←HS.out,HX.out,noNum];omega)|(simp only[bne_eq_false_iff_eq]at *;simp[fitN,←HS.out,HX.out,noNum];omega))
 ·have⟨e1,e2,e3⟩:=bytes_none text (by omega)
  clear e3
  have HX:=Lib.hid (show noText ⟨8,s0,s1,s2,s3,text,mn,mx,kids⟩=true from decide_eq_true (show text.size=0 by omega))
  cases b
  all_goals
   go_enter Tryd.func39,Tryd.ntmps39
   go_wp2_with fail
   go_region
   go_wp2_with fail
   all_goals (go_ret;refine⟨ret_bool ?_,(bx1 w _).drew⟩)
   all_goals (first|(simp[fitN,←HS.out,HX.out,noNum];done)|(simp[fitN,←HS.out,HX.out,noNum];omega)|(rw[Bool.eq_iff_iff];simp[fitN,←HS.out,HX.out,noNum];omega)|(simp only[bne_eq_false_iff_eq]at *;simp[fitN,←HS.out,HX.out,noNum];omega))
set_option maxRecDepth 100000 in
set_option maxHeartbeats 3200000 in
theorem fits9 (n:Nd) (K:Value) (k:Int) (w:World) (ht:CntTab w) (hk:n.kind=9) (hts:n.text.size≤281474976710656):
  Calls Tryd.prog 39 #[ndV n K,.int .i64 k] w fun e w'=>e=.returned (.bool (fitN n k))∧Below w.heap.size w w':=by
 obtain⟨kind,s0,s1,s2,s3,text,mn,mx,kids⟩:=n
 simp only at hk hts ⊢
 subst hk
 have hc:=ht.cells
 have t0:=hc 18
 have t1:=hc 19
 clear hc
 simp at t0 t1
 have hg:=cellLt t0
 simp only at hg
 have hE:=fun w=>eqSet w s0 s1 s2 s3 0 0 0 0
 have HS:=Lib.hid (show decide (s0=0∧s1=0∧s2=0∧s3=0)=noSet ⟨9,s0,s1,s2,s3,text,mn,mx,kids⟩from rfl)
 generalize decide (s0=0∧s1=0∧s2=0∧s3=0)=b at hE HS
 clear ht
 rcases Nat.lt_or_ge 0 text.size with h0|h0
 ·have⟨e1,e2⟩:=bytes_ne text h0
  have HX:=Lib.hid (show noText ⟨9,s0,s1,s2,s3,text,mn,mx,kids⟩=false from decide_eq_false (show ¬text.size=0 by omega))
  cases b
  all_goals
  rcases hm:mayL text.data.toList
  all_goals
   go_enter Tryd.func39,Tryd.ntmps39
   go_wp2_with fail
   go_region
   go_wp2_with (go_at_call 41;refine(may_any text _ hts).mono ?_;rintro e w' ⟨rfl,hb⟩;obtain⟨q0,q1,q2,q3,q4,q5,q6,q7,q8,r0,r1,r2,r3,r4,r5,r6,r7,r8⟩:=blk9 (keptD hb))
   all_goals (go_ret;refine⟨ret_bool ?_,(by first|exact(bx1 w _).drew|exact(bx1 w _).drew.trans (hb.mono (by simp))|exact((bx1 w _).drew.trans (hb.mono (by simp))).setCell (p:=⟨w.heap.size,5,none⟩) (Nat.le_refl _) _)⟩)
   all_goals (first|(simp[fitN,←HS.out,HX.out,noNum,hm];done)|(simp[fitN,←HS.out,HX.out,noNum,hm];omega)|(rw[Bool.eq_iff_iff];simp[fitN,←HS.out,HX.out,noNum,hm];omega)|(simp only[bne_eq_false_iff_eq]at *;simp[fitN,←HS.out,HX.out,noNum,hm];omega))
 ·have⟨e1,e2,e3⟩:=bytes_none text (by omega)
  clear e3
  have HX:=Lib.hid (show noText ⟨9,s0,s1,s2,s3,text,mn,mx,kids⟩=true from decide_eq_true (show text.size=0 by omega))
  cases b
  all_goals
  rcases hm:mayL text.data.toList
  all_goals
   go_enter Tryd.func39,Tryd.ntmps39
   go_wp2_with fail
   go_region
   go_wp2_with (go_at_call 41;refine(may_any text _ hts).mono ?_;rintro e w' ⟨rfl,hb⟩;obtain⟨q0,q1,q2,q3,q4,q5,q6,q7,q8,r0,r1,r2,r3,r4,r5,r6,r7,r8⟩:=blk9 (keptD hb))
   all_goals (go_ret;refine⟨ret_bool ?_,(by first|exact(bx1 w _).drew|exact(bx1 w _).drew.trans (hb.mono (by simp))|exact((bx1 w _).drew.trans (hb.mono (by simp))).setCell (p:=⟨w.heap.size,5,none⟩) (Nat.le_refl _) _)⟩)
   all_goals (first|(simp[fitN,←HS.out,HX.out,noNum,hm];done)|(simp[fitN,←HS.out,HX.out,noNum,hm];omega)|(rw[Bool.eq_iff_iff];simp[fitN,←HS.out,HX.out,noNum,hm];omega)|(simp only[bne_eq_false_iff_eq]at *;simp[fitN,←HS.out,HX.out,noNum,hm];omega))
end Go.Proofs.YtdnochjajoiooaaDoor
