/- The contract of bonsairef04.Fits (printed in part by gen_fits.py). -/
import Derived.Test.YtdnochjajoiooaaDoorDj
import Derived.Test.YtdnochjajoiooaaDoorNr
namespace Go.Proofs.YtdnochjajoiooaaDoor
open Go.RowKit
set_option linter.unusedSimpArgs false
set_option linter.unusedVariables false
set_option maxRecDepth 100000 in
set_option maxHeartbeats 3200000 in
theorem rfits0 (n:Nd) (K:Value) (k:Int) (w:World) (hk:n.kind=0) (hts:n.text.size≤281474976710656):
  Calls Tryd.prog 55 #[ndV n K,.int .i64 k] w fun e w'=>e=.returned (.bool (fitN n k))∧Below w.heap.size w w':=by
 obtain⟨kind,s0,s1,s2,s3,text,mn,mx,kids⟩:=n
 simp only at hk hts ⊢
 subst hk
 have hE:=fun w=>eqSet w s0 s1 s2 s3 0 0 0 0
 have HS:=Lib.hid (show decide (s0=0∧s1=0∧s2=0∧s3=0)=noSet ⟨0,s0,s1,s2,s3,text,mn,mx,kids⟩from rfl)
 generalize decide (s0=0∧s1=0∧s2=0∧s3=0)=b at hE HS
 rcases Nat.lt_or_ge 0 text.size with h0|h0
 ·have⟨e1,e2⟩:=bytes_ne text h0
  have HX:=Lib.hid (show noText ⟨0,s0,s1,s2,s3,text,mn,mx,kids⟩=false from decide_eq_false (show ¬text.size=0 by omega))
  cases b
  all_goals
   go_enter Tryd.func55,Tryd.ntmps55
   go_wp2_with fail
   all_goals (go_ret;refine⟨ret_bool ?_,(by first|exact bx2 w _ _|exact bx1 w _)⟩)
   all_goals (first|(simp[fitN,←HS.out,HX.out,noNum];done)|(simp[fitN,←HS.out,HX.out,noNum];omega)|(rw[Bool.eq_iff_iff];simp[fitN,←HS.out,HX.out,noNum];omega)|(simp only[bne_eq_false_iff_eq]at *;simp[fitN,←HS.out,HX.out,noNum];omega))
 ·have⟨e1,e2,e3⟩:=bytes_none text (by omega)
  clear e3
  have HX:=Lib.hid (show noText ⟨0,s0,s1,s2,s3,text,mn,mx,kids⟩=true from decide_eq_true (show text.size=0 by omega))
  cases b
  all_goals
   go_enter Tryd.func55,Tryd.ntmps55
   go_wp2_with fail
   all_goals (go_ret;refine⟨ret_bool ?_,(by first|exact bx2 w _ _|exact bx1 w _)⟩)
   all_goals (first|(simp[fitN,←HS.out,HX.out,noNum];done)|(simp[fitN,←HS.out,HX.out,noNum];omega)|(rw[Bool.eq_iff_iff];simp[fitN,←HS.out,HX.out,noNum];omega)|(simp only[bne_eq_false_iff_eq]at *;simp[fitN,←HS.out,HX.out,noNum];omega))
set_option maxRecDepth 100000 in
set_option maxHeartbeats 3200000 in
theorem rfits1 (n:Nd) (K:Value) (k:Int) (w:World) (hk:n.kind=1) (hts:n.text.size≤281474976710656):
  Calls Tryd.prog 55 #[ndV n K,.int .i64 k] w fun e w'=>e=.returned (.bool (fitN n k))∧Below w.heap.size w w':=by
 obtain⟨kind,s0,s1,s2,s3,text,mn,mx,kids⟩:=n
 simp only at hk hts ⊢
 subst hk
 have hE:=fun w=>eqSet w s0 s1 s2 s3 0 0 0 0
 have HS:=Lib.hid (show decide (s0=0∧s1=0∧s2=0∧s3=0)=noSet ⟨1,s0,s1,s2,s3,text,mn,mx,kids⟩from rfl)
 generalize decide (s0=0∧s1=0∧s2=0∧s3=0)=b at hE HS
 rcases Nat.lt_or_ge 0 text.size with h0|h0
 ·have⟨e1,e2⟩:=bytes_ne text h0
  have HX:=Lib.hid (show noText ⟨1,s0,s1,s2,s3,text,mn,mx,kids⟩=false from decide_eq_false (show ¬text.size=0 by omega))
  cases b
  all_goals
   go_enter Tryd.func55,Tryd.ntmps55
   go_wp2_with fail
   all_goals (go_ret;refine⟨ret_bool ?_,(by first|exact bx2 w _ _|exact bx1 w _)⟩)
   all_goals (first|(simp[fitN,←HS.out,HX.out,noNum];done)|(simp[fitN,←HS.out,HX.out,noNum];omega)|(rw[Bool.eq_iff_iff];simp[fitN,←HS.out,HX.out,noNum];omega)|(simp only[bne_eq_false_iff_eq]at *;simp[fitN,←HS.out,HX.out,noNum];omega))
 ·have⟨e1,e2,e3⟩:=bytes_none text (by omega)
  clear e3
  have HX:=Lib.hid (show noText ⟨1,s0,s1,s2,s3,text,mn,mx,kids⟩=true from decide_eq_true (show text.size=0 by omega))
  cases b
  all_goals
   go_enter Tryd.func55,Tryd.ntmps55
   go_wp2_with fail
   all_goals (go_ret;refine⟨ret_bool ?_,(by first|exact bx2 w _ _|exact bx1 w _)⟩)
   all_goals (first|(simp[fitN,←HS.out,HX.out,noNum];done)|(simp[fitN,←HS.out,HX.out,noNum];omega)|(rw[Bool.eq_iff_iff];simp[fitN,←HS.out,HX.out,noNum];omega)|(simp only[bne_eq_false_iff_eq]at *;simp[fitN,←HS.out,HX.out,noNum];omega))
set_option maxRecDepth 100000 in
set_option maxHeartbeats 3200000 in
theorem rfits2 (n:Nd) (K:Value) (k:Int) (w:World) (hk:n.kind=2) (hts:n.text.size≤281474976710656):
  Calls Tryd.prog 55 #[ndV n K,.int .i64 k] w fun e w'=>e=.returned (.bool (fitN n k))∧Below w.heap.size w w':=by
 obtain⟨kind,s0,s1,s2,s3,text,mn,mx,kids⟩:=n
 simp only at hk hts ⊢
 subst hk
 have hE:=fun w=>eqSet w s0 s1 s2 s3 0 0 0 0
 have HS:=Lib.hid (show decide (s0=0∧s1=0∧s2=0∧s3=0)=noSet ⟨2,s0,s1,s2,s3,text,mn,mx,kids⟩from rfl)
 generalize decide (s0=0∧s1=0∧s2=0∧s3=0)=b at hE HS
 rcases Nat.lt_or_ge 0 text.size with h0|h0
 ·have⟨e1,e2⟩:=bytes_ne text h0
  have HX:=Lib.hid (show noText ⟨2,s0,s1,s2,s3,text,mn,mx,kids⟩=false from decide_eq_false (show ¬text.size=0 by omega))
  cases b
  all_goals
   go_enter Tryd.func55,Tryd.ntmps55
   go_wp2_with fail
   all_goals (go_ret;refine⟨ret_bool ?_,(by first|exact bx2 w _ _|exact bx1 w _)⟩)
   all_goals (first|(simp[fitN,←HS.out,HX.out,noNum];done)|(simp[fitN,←HS.out,HX.out,noNum];omega)|(rw[Bool.eq_iff_iff];simp[fitN,←HS.out,HX.out,noNum];omega)|(simp only[bne_eq_false_iff_eq]at *;simp[fitN,←HS.out,HX.out,noNum];omega))
 ·have⟨e1,e2,e3⟩:=bytes_none text (by omega)
  clear e3
  have HX:=Lib.hid (show noText ⟨2,s0,s1,s2,s3,text,mn,mx,kids⟩=true from decide_eq_true (show text.size=0 by omega))
  cases b
  all_goals
   go_enter Tryd.func55,Tryd.ntmps55
   go_wp2_with fail
   all_goals (go_ret;refine⟨ret_bool ?_,(by first|exact bx2 w _ _|exact bx1 w _)⟩)
   all_goals (first|(simp[fitN,←HS.out,HX.out,noNum];done)|(simp[fitN,←HS.out,HX.out,noNum];omega)|(rw[Bool.eq_iff_iff];simp[fitN,←HS.out,HX.out,noNum];omega)|(simp only[bne_eq_false_iff_eq]at *;simp[fitN,←HS.out,HX.out,noNum];omega))
set_option maxRecDepth 100000 in
set_option maxHeartbeats 3200000 in
theorem rfits3 (n:Nd) (K:Value) (k:Int) (w:World) (hk:n.kind=3) (hts:n.text.size≤281474976710656):
  Calls Tryd.prog 55 #[ndV n K,.int .i64 k] w fun e w'=>e=.returned (.bool (fitN n k))∧Below w.heap.size w w':=by
 obtain⟨kind,s0,s1,s2,s3,text,mn,mx,kids⟩:=n
 simp only at hk hts ⊢
 subst hk
 have hE:=fun w=>eqSet w s0 s1 s2 s3 0 0 0 0
 have HS:=Lib.hid (show decide (s0=0∧s1=0∧s2=0∧s3=0)=noSet ⟨3,s0,s1,s2,s3,text,mn,mx,kids⟩from rfl)
 generalize decide (s0=0∧s1=0∧s2=0∧s3=0)=b at hE HS
 rcases Nat.lt_or_ge 0 text.size with h0|h0
 ·have⟨e1,e2⟩:=bytes_ne text h0
  have HX:=Lib.hid (show noText ⟨3,s0,s1,s2,s3,text,mn,mx,kids⟩=false from decide_eq_false (show ¬text.size=0 by omega))
  cases b
  all_goals
  rcases hm:mayL text.data.toList
  all_goals
   go_enter Tryd.func55,Tryd.ntmps55
   go_wp2_with (go_at_call 70;refine(rmay_any text _ hts).mono ?_;rintro e w' ⟨rfl,rfl⟩)
   all_goals (go_ret;refine⟨ret_bool ?_,(by first|exact bx2 w _ _|exact bx1 w _)⟩)
   all_goals (first|(simp[fitN,←HS.out,HX.out,noNum,hm];done)|(simp[fitN,←HS.out,HX.out,noNum,hm];omega)|(rw[Bool.eq_iff_iff];simp[fitN,←HS.out,HX.out,noNum,hm];omega)|(simp only[bne_eq_false_iff_eq]at *;simp[fitN,←HS.out,HX.out,noNum,hm];omega))
 ·have⟨e1,e2,e3⟩:=bytes_none text (by omega)
  clear e3
  have HX:=Lib.hid (show noText ⟨3,s0,s1,s2,s3,text,mn,mx,kids⟩=true from decide_eq_true (show text.size=0 by omega))
  cases b
  all_goals
  rcases hm:mayL text.data.toList
  all_goals
   go_enter Tryd.func55,Tryd.ntmps55
   go_wp2_with (go_at_call 70;refine(rmay_any text _ hts).mono ?_;rintro e w' ⟨rfl,rfl⟩)
   all_goals (go_ret;refine⟨ret_bool ?_,(by first|exact bx2 w _ _|exact bx1 w _)⟩)
   all_goals (first|(simp[fitN,←HS.out,HX.out,noNum,hm];done)|(simp[fitN,←HS.out,HX.out,noNum,hm];omega)|(rw[Bool.eq_iff_iff];simp[fitN,←HS.out,HX.out,noNum,hm];omega)|(simp only[bne_eq_false_iff_eq]at *;simp[fitN,←HS.out,HX.out,noNum,hm];omega))
set_option maxRecDepth 100000 in
set_option maxHeartbeats 3200000 in
theorem rfits4 (n:Nd) (K:Value) (k:Int) (w:World) (hk:n.kind=4) (hts:n.text.size≤281474976710656):
  Calls Tryd.prog 55 #[ndV n K,.int .i64 k] w fun e w'=>e=.returned (.bool (fitN n k))∧Below w.heap.size w w':=by
 obtain⟨kind,s0,s1,s2,s3,text,mn,mx,kids⟩:=n
 simp only at hk hts ⊢
 subst hk
 have hE:=fun w=>eqSet w s0 s1 s2 s3 0 0 0 0
 have HS:=Lib.hid (show decide (s0=0∧s1=0∧s2=0∧s3=0)=noSet ⟨4,s0,s1,s2,s3,text,mn,mx,kids⟩from rfl)
 generalize decide (s0=0∧s1=0∧s2=0∧s3=0)=b at hE HS
 rcases Nat.lt_or_ge 0 text.size with h0|h0
 ·have⟨e1,e2⟩:=bytes_ne text h0
  have HX:=Lib.hid (show noText ⟨4,s0,s1,s2,s3,text,mn,mx,kids⟩=false from decide_eq_false (show ¬text.size=0 by omega))
  cases b
  all_goals
   go_enter Tryd.func55,Tryd.ntmps55
   go_wp2_with fail
   all_goals (go_ret;refine⟨ret_bool ?_,(by first|exact bx2 w _ _|exact bx1 w _)⟩)
   all_goals (first|(simp[fitN,←HS.out,HX.out,noNum];done)|(simp[fitN,←HS.out,HX.out,noNum];omega)|(rw[Bool.eq_iff_iff];simp[fitN,←HS.out,HX.out,noNum];omega)|(simp only[bne_eq_false_iff_eq]at *;simp[fitN,←HS.out,HX.out,noNum];omega))
 ·have⟨e1,e2,e3⟩:=bytes_none text (by omega)
  clear e3
  have HX:=Lib.hid (show noText ⟨4,s0,s1,s2,s3,text,mn,mx,kids⟩=true from decide_eq_true (show text.size=0 by omega))
  cases b
  all_goals
   go_enter Tryd.func55,Tryd.ntmps55
   go_wp2_with fail
   all_goals (go_ret;refine⟨ret_bool ?_,(by first|exact bx2 w _ _|exact bx1 w _)⟩)
   all_goals (first|(simp[fitN,←HS.out,HX.out,noNum];done)|(simp[fitN,←HS.out,HX.out,noNum];omega)|(rw[Bool.eq_iff_iff];simp[fitN,←HS.out,HX.out,noNum];omega)|(simp only[bne_eq_false_iff_eq]at *;simp[fitN,←HS.out,HX.out,noNum];omega))
set_option maxRecDepth 100000 in
set_option maxHeartbeats 3200000 in
theorem rfits5 (n:Nd) (K:Value) (k:Int) (w:World) (hk:n.kind=5) (hts:n.text.size≤281474976710656):
  Calls Tryd.prog 55 #[ndV n K,.int .i64 k] w fun e w'=>e=.returned (.bool (fitN n k))∧Below w.heap.size w w':=by
 obtain⟨kind,s0,s1,s2,s3,text,mn,mx,kids⟩:=n
 simp only at hk hts ⊢
 subst hk
 have hE:=fun w=>eqSet w s0 s1 s2 s3 0 0 0 0
 have HS:=Lib.hid (show decide (s0=0∧s1=0∧s2=0∧s3=0)=noSet ⟨5,s0,s1,s2,s3,text,mn,mx,kids⟩from rfl)
 generalize decide (s0=0∧s1=0∧s2=0∧s3=0)=b at hE HS
 rcases Nat.lt_or_ge 0 text.size with h0|h0
 ·have⟨e1,e2⟩:=bytes_ne text h0
  have HX:=Lib.hid (show noText ⟨5,s0,s1,s2,s3,text,mn,mx,kids⟩=false from decide_eq_false (show ¬text.size=0 by omega))
  cases b
  all_goals
   go_enter Tryd.func55,Tryd.ntmps55
   go_wp2_with fail
   all_goals (go_ret;refine⟨ret_bool ?_,(by first|exact bx2 w _ _|exact bx1 w _)⟩)
   all_goals (first|(simp[fitN,←HS.out,HX.out,noNum];done)|(simp[fitN,←HS.out,HX.out,noNum];omega)|(rw[Bool.eq_iff_iff];simp[fitN,←HS.out,HX.out,noNum];omega)|(simp only[bne_eq_false_iff_eq]at *;simp[fitN,←HS.out,HX.out,noNum];omega))
 ·have⟨e1,e2,e3⟩:=bytes_none text (by omega)
  clear e3
  have HX:=Lib.hid (show noText ⟨5,s0,s1,s2,s3,text,mn,mx,kids⟩=true from decide_eq_true (show text.size=0 by omega))
  cases b
  all_goals
   go_enter Tryd.func55,Tryd.ntmps55
   go_wp2_with fail
   all_goals (go_ret;refine⟨ret_bool ?_,(by first|exact bx2 w _ _|exact bx1 w _)⟩)
   all_goals (first|(simp[fitN,←HS.out,HX.out,noNum];done)|(simp[fitN,←HS.out,HX.out,noNum];omega)|(rw[Bool.eq_iff_iff];simp[fitN,←HS.out,HX.out,noNum];omega)|(simp only[bne_eq_false_iff_eq]at *;simp[fitN,←HS.out,HX.out,noNum];omega))
set_option maxRecDepth 100000 in
set_option maxHeartbeats 3200000 in
theorem rfits6 (n:Nd) (K:Value) (k:Int) (w:World) (hk:n.kind=6) (hts:n.text.size≤281474976710656):
  Calls Tryd.prog 55 #[ndV n K,.int .i64 k] w fun e w'=>e=.returned (.bool (fitN n k))∧Below w.heap.size w w':=by
 obtain⟨kind,s0,s1,s2,s3,text,mn,mx,kids⟩:=n
 simp only at hk hts ⊢
 subst hk
 have hE:=fun w=>eqSet w s0 s1 s2 s3 0 0 0 0
 have HS:=Lib.hid (show decide (s0=0∧s1=0∧s2=0∧s3=0)=noSet ⟨6,s0,s1,s2,s3,text,mn,mx,kids⟩from rfl)
 generalize decide (s0=0∧s1=0∧s2=0∧s3=0)=b at hE HS
 rcases Nat.lt_or_ge 0 text.size with h0|h0
 ·have⟨e1,e2⟩:=bytes_ne text h0
  have HX:=Lib.hid (show noText ⟨6,s0,s1,s2,s3,text,mn,mx,kids⟩=false from decide_eq_false (show ¬text.size=0 by omega))
  cases b
  all_goals
   go_enter Tryd.func55,Tryd.ntmps55
   go_wp2_with fail
   all_goals (go_ret;refine⟨ret_bool ?_,(by first|exact bx2 w _ _|exact bx1 w _)⟩)
   all_goals (first|(simp[fitN,←HS.out,HX.out,noNum];done)|(simp[fitN,←HS.out,HX.out,noNum];omega)|(rw[Bool.eq_iff_iff];simp[fitN,←HS.out,HX.out,noNum];omega)|(simp only[bne_eq_false_iff_eq]at *;simp[fitN,←HS.out,HX.out,noNum];omega))
 ·have⟨e1,e2,e3⟩:=bytes_none text (by omega)
  clear e3
  have HX:=Lib.hid (show noText ⟨6,s0,s1,s2,s3,text,mn,mx,kids⟩=true from decide_eq_true (show text.size=0 by omega))
  cases b
  all_goals
   go_enter Tryd.func55,Tryd.ntmps55
   go_wp2_with fail
   all_goals (go_ret;refine⟨ret_bool ?_,(by first|exact bx2 w _ _|exact bx1 w _)⟩)
   all_goals (first|(simp[fitN,←HS.out,HX.out,noNum];done)|(simp[fitN,←HS.out,HX.out,noNum];omega)|(rw[Bool.eq_iff_iff];simp[fitN,←HS.out,HX.out,noNum];omega)|(simp only[bne_eq_false_iff_eq]at *;simp[fitN,←HS.out,HX.out,noNum];omega))
set_option maxRecDepth 100000 in
set_option maxHeartbeats 3200000 in
theorem rfits7 (n:Nd) (K:Value) (k:Int) (w:World) (hk:n.kind=7) (hts:n.text.size≤281474976710656):
  Calls Tryd.prog 55 #[ndV n K,.int .i64 k] w fun e w'=>e=.returned (.bool (fitN n k))∧Below w.heap.size w w':=by
 obtain⟨kind,s0,s1,s2,s3,text,mn,mx,kids⟩:=n
 simp only at hk hts ⊢
 subst hk
 have hE:=fun w=>eqSet w s0 s1 s2 s3 0 0 0 0
 have HS:=Lib.hid (show decide (s0=0∧s1=0∧s2=0∧s3=0)=noSet ⟨7,s0,s1,s2,s3,text,mn,mx,kids⟩from rfl)
 generalize decide (s0=0∧s1=0∧s2=0∧s3=0)=b at hE HS
 rcases Nat.lt_or_ge 0 text.size with h0|h0
 ·have⟨e1,e2⟩:=bytes_ne text h0
  have HX:=Lib.hid (show noText ⟨7,s0,s1,s2,s3,text,mn,mx,kids⟩=false from decide_eq_false (show ¬text.size=0 by omega))
  cases b
  all_goals
   go_enter Tryd.func55,Tryd.ntmps55
   go_wp2_with fail
   all_goals (go_ret;refine⟨ret_bool ?_,(by first|exact bx2 w _ _|exact bx1 w _)⟩)
   all_goals (first|(simp[fitN,←HS.out,HX.out,noNum];done)|(simp[fitN,←HS.out,HX.out,noNum];omega)|(rw[Bool.eq_iff_iff];simp[fitN,←HS.out,HX.out,noNum];omega)|(simp only[bne_eq_false_iff_eq]at *;simp[fitN,←HS.out,HX.out,noNum];omega))
 ·have⟨e1,e2,e3⟩:=bytes_none text (by omega)
  clear e3
  have HX:=Lib.hid (show noText ⟨7,s0,s1,s2,s3,text,mn,mx,kids⟩=true from decide_eq_true (show text.size=0 by omega))
  cases b
  all_goals
   go_enter Tryd.func55,Tryd.ntmps55
   go_wp2_with fail
   all_goals (go_ret;refine⟨ret_bool ?_,(by first|exact bx2 w _ _|exact bx1 w _)⟩)
   all_goals (first|(simp[fitN,←HS.out,HX.out,noNum];done)|(simp[fitN,←HS.out,HX.out,noNum];omega)|(rw[Bool.eq_iff_iff];simp[fitN,←HS.out,HX.out,noNum];omega)|(simp only[bne_eq_false_iff_eq]at *;simp[fitN,←HS.out,HX.out,noNum];omega))
set_option maxRecDepth 100000 in
set_option maxHeartbeats 3200000 in
theorem rfits8 (n:Nd) (K:Value) (k:Int) (w:World) (hk:n.kind=8) (hts:n.text.size≤281474976710656):
  Calls Tryd.prog 55 #[ndV n K,.int .i64 k] w fun e w'=>e=.returned (.bool (fitN n k))∧Below w.heap.size w w':=by
 obtain⟨kind,s0,s1,s2,s3,text,mn,mx,kids⟩:=n
 simp only at hk hts ⊢
 subst hk
 have hE:=fun w=>eqSet w s0 s1 s2 s3 0 0 0 0
 have HS:=Lib.hid (show decide (s0=0∧s1=0∧s2=0∧s3=0)=noSet ⟨8,s0,s1,s2,s3,text,mn,mx,kids⟩from rfl)
 generalize decide (s0=0∧s1=0∧s2=0∧s3=0)=b at hE HS
 rcases Nat.lt_or_ge 0 text.size with h0|h0
 ·have⟨e1,e2⟩:=bytes_ne text h0
  have HX:=Lib.hid (show noText ⟨8,s0,s1,s2,s3,text,mn,mx,kids⟩=false from decide_eq_false (show ¬text.size=0 by omega))
  cases b
  all_goals
   go_enter Tryd.func55,Tryd.ntmps55
   go_wp2_with fail
   all_goals (go_ret;refine⟨ret_bool ?_,(by first|exact bx2 w _ _|exact bx1 w _)⟩)
   all_goals (first|(simp[fitN,←HS.out,HX.out,noNum];done)|(simp[fitN,←HS.out,HX.out,noNum];omega)|(rw[Bool.eq_iff_iff];simp[fitN,←HS.out,HX.out,noNum];omega)|(simp only[bne_eq_false_iff_eq]at *;simp[fitN,←HS.out,HX.out,noNum];omega))
 ·have⟨e1,e2,e3⟩:=bytes_none text (by omega)
  clear e3
  have HX:=Lib.hid (show noText ⟨8,s0,s1,s2,s3,text,mn,mx,kids⟩=true from decide_eq_true (show text.size=0 by omega))
  cases b
  all_goals
   go_enter Tryd.func55,Tryd.ntmps55
   go_wp2_with fail
   all_goals (go_ret;refine⟨ret_bool ?_,(by first|exact bx2 w _ _|exact bx1 w _)⟩)
   all_goals (first|(simp[fitN,←HS.out,HX.out,noNum];done)|(simp[fitN,←HS.out,HX.out,noNum];omega)|(rw[Bool.eq_iff_iff];simp[fitN,←HS.out,HX.out,noNum];omega)|(simp only[bne_eq_false_iff_eq]at *;simp[fitN,←HS.out,HX.out,noNum];omega))
set_option maxRecDepth 100000 in
set_option maxHeartbeats 3200000 in
theorem rfits9 (n:Nd) (K:Value) (k:Int) (w:World) (hk:n.kind=9) (hts:n.text.size≤281474976710656):
  Calls Tryd.prog 55 #[ndV n K,.int .i64 k] w fun e w'=>e=.returned (.bool (fitN n k))∧Below w.heap.size w w':=by
 obtain⟨kind,s0,s1,s2,s3,text,mn,mx,kids⟩:=n
 simp only at hk hts ⊢
 subst hk
 have hE:=fun w=>eqSet w s0 s1 s2 s3 0 0 0 0
 have HS:=Lib.hid (show decide (s0=0∧s1=0∧s2=0∧s3=0)=noSet ⟨9,s0,s1,s2,s3,text,mn,mx,kids⟩from rfl)
 generalize decide (s0=0∧s1=0∧s2=0∧s3=0)=b at hE HS
 rcases Nat.lt_or_ge 0 text.size with h0|h0
 ·have⟨e1,e2⟩:=bytes_ne text h0
  have HX:=Lib.hid (show noText ⟨9,s0,s1,s2,s3,text,mn,mx,kids⟩=false from decide_eq_false (show ¬text.size=0 by omega))
  cases b
  all_goals
  rcases hm:mayL text.data.toList
  all_goals
   go_enter Tryd.func55,Tryd.ntmps55
   go_wp2_with (go_at_call 70;refine(rmay_any text _ hts).mono ?_;rintro e w' ⟨rfl,rfl⟩)
   all_goals (go_ret;refine⟨ret_bool ?_,(by first|exact bx2 w _ _|exact bx1 w _)⟩)
   all_goals (first|(simp[fitN,←HS.out,HX.out,noNum,hm];done)|(simp[fitN,←HS.out,HX.out,noNum,hm];omega)|(rw[Bool.eq_iff_iff];simp[fitN,←HS.out,HX.out,noNum,hm];omega)|(simp only[bne_eq_false_iff_eq]at *;simp[fitN,←HS.out,HX.out,noNum,hm];omega))
 ·have⟨e1,e2,e3⟩:=bytes_none text (by omega)
  clear e3
  have HX:=Lib.hid (show noText ⟨9,s0,s1,s2,s3,text,mn,mx,kids⟩=true from decide_eq_true (show text.size=0 by omega))
  cases b
  all_goals
  rcases hm:mayL text.data.toList
  all_goals
   go_enter Tryd.func55,Tryd.ntmps55
   go_wp2_with (go_at_call 70;refine(rmay_any text _ hts).mono ?_;rintro e w' ⟨rfl,rfl⟩)
   all_goals (go_ret;refine⟨ret_bool ?_,(by first|exact bx2 w _ _|exact bx1 w _)⟩)
   all_goals (first|(simp[fitN,←HS.out,HX.out,noNum,hm];done)|(simp[fitN,←HS.out,HX.out,noNum,hm];omega)|(rw[Bool.eq_iff_iff];simp[fitN,←HS.out,HX.out,noNum,hm];omega)|(simp only[bne_eq_false_iff_eq]at *;simp[fitN,←HS.out,HX.out,noNum,hm];omega))
set_option maxRecDepth 100000 in
set_option maxHeartbeats 1600000 in
theorem rfits_other (n:Nd) (K:Value) (k:Int) (w:World) (h:10≤n.kind) (h2:n.kind≤255):
  Calls Tryd.prog 55 #[ndV n K,.int .i64 k] w fun e w'=>e=.returned (.bool (fitN n k))∧Below w.heap.size w w':=by
 have HF:=Lib.hid (fitN_other n k h)
 obtain⟨kind,s0,s1,s2,s3,text,mn,mx,kids⟩:=n
 simp only at h h2 ⊢
 have hE:=fun w=>eqSet w s0 s1 s2 s3 0 0 0 0
 have k0:(kind==0)=false:=by simp;omega
 have k1:(kind==1)=false:=by simp;omega
 have k2:(kind==2)=false:=by simp;omega
 have k3:(kind==3)=false:=by simp;omega
 have k4:(kind==4)=false:=by simp;omega
 have k5:(kind==5)=false:=by simp;omega
 have k6:(kind==6)=false:=by simp;omega
 have k7:(kind==7)=false:=by simp;omega
 have k8:(kind==8)=false:=by simp;omega
 have k9:(kind==9)=false:=by simp;omega
 generalize decide (s0=0∧s1=0∧s2=0∧s3=0)=b at hE
 rcases Nat.lt_or_ge 0 text.size with h0|h0
 ·have⟨e1,e2⟩:=bytes_ne text h0
  cases b
  all_goals
   go_enter Tryd.func55,Tryd.ntmps55
   go_wp2_with fail
   all_goals (go_ret;exact⟨ret_bool HF.out.symm,by first|exact bx2 w _ _|exact bx1 w _⟩)
 ·have⟨e1,e2,e3⟩:=bytes_none text (by omega)
  clear e3
  cases b
  all_goals
   go_enter Tryd.func55,Tryd.ntmps55
   go_wp2_with fail
   all_goals (go_ret;exact⟨ret_bool HF.out.symm,by first|exact bx2 w _ _|exact bx1 w _⟩)
theorem rfits_any (n:Nd) (K:Value) (k:Int) (w:World) (hk:0≤n.kind∧n.kind≤255) (hts:n.text.size≤281474976710656):
  Calls Tryd.prog 55 #[ndV n K,.int .i64 k] w fun e w'=>e=.returned (.bool (fitN n k))∧Below w.heap.size w w':=by
 have h:n.kind=0∨n.kind=1∨n.kind=2∨n.kind=3∨n.kind=4∨n.kind=5∨n.kind=6∨n.kind=7∨n.kind=8∨n.kind=9∨10≤n.kind:=by omega
 rcases h with h|h|h|h|h|h|h|h|h|h|h
 ·exact rfits0 n K k w h hts
 ·exact rfits1 n K k w h hts
 ·exact rfits2 n K k w h hts
 ·exact rfits3 n K k w h hts
 ·exact rfits4 n K k w h hts
 ·exact rfits5 n K k w h hts
 ·exact rfits6 n K k w h hts
 ·exact rfits7 n K k w h hts
 ·exact rfits8 n K k w h hts
 ·exact rfits9 n K k w h hts
 ·exact rfits_other n K k w h hk.2
end Go.Proofs.YtdnochjajoiooaaDoor
