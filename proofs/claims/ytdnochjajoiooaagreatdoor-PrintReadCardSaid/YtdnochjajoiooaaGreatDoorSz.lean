/- Parts of the proof. -/
import Derived.Test.YtdnochjajoiooaaGreatDoorDq
import Derived.Test.YtdnochjajoiooaaGreatDoorDk
import Derived.Test.YtdnochjajoiooaaGreatDoorJi
import Derived.Test.YtdnochjajoiooaaGreatDoorPn
import Derived.WalkKit
import Derived.ScopeJumps
import Derived.Test.YtdnochjajoiooaaGreatDoorDn
import Derived.WalkSpells
import Derived.Deep.RegionHeld3
import Derived.Deep.Cut
import Derived.Test.YtdnochjajoiooaaGreatDoorLc
import Derived.Test.YtdnochjajoiooaaGreatDoorKd
import Derived.Test.YtdnochjajoiooaaGreatDoorAd
namespace Go.Proofs.YtdnochjajoiooaaGreatDoor
open Go.RowKit
set_option linter.unusedSimpArgs false
set_option linter.unusedVariables false
set_option maxRecDepth 100000 in
set_option maxHeartbeats 1600000 in
theorem TN (w:World):
  Calls Tryz.prog 14 #[] w (FL Dm w):=by
 unfold FL;have HWF:=qd (show Dm.wf from⟨by simp[Dm],by simp[Dm];decide,by simp[Dm],by simp[Dm,U64],by simp[Dm,U64],by simp[Dm,U64],by simp[Dm,U64]⟩);go_enter Tryz.func14,Tryz.ntmps14
 go_wp2_with (go_at_call 33;refine(IH Dm _ HWF.out rfl).mono ?_;rintro e w1 ⟨b,rfl,ht,hb⟩;have HT:=qd ht;have HB:=qd hb;obtain⟨t1,t2,t3,t4⟩:=Bd (Ae hb (Ad w _));clear ht hb)
 refine bodyPost_ret (v:=.agg #[.slice (some ⟨b,0,none⟩) 1 1,.int .i64 0]) (by simp[results,Tryz.results14,go_sem,t1,t2]) rfl ?_;refine⟨b,rfl,(HT.out.agree (fun x hx _=> ?_)).mono (fun x _ hx=> ?_),((Below.step (bx1 w _) HB.out).setCell (p:=⟨w.heap.size,0,none⟩) (Nat.le_refl _) _).setCell (p:=⟨w.heap.size,1,none⟩) (Nat.le_refl _) _⟩
 ·have hx:(w.alloc _).heap.size<=x:=hx;rw[World.size_alloc]at hx;exact(Below.heap_setCell _ _ _ _ (by show x≠w.heap.size;omega)).trans (Below.heap_setCell _ _ _ _ (by show x≠w.heap.size;omega))
 ·have hx:(w.alloc _).heap.size<=x:=hx;rw[World.size_alloc]at hx;show w.heap.size<=x;omega
end Go.Proofs.YtdnochjajoiooaaGreatDoor
namespace Go.Proofs.YtdnochjajoiooaaGreatDoor
open Go.RowKit
set_option linter.unusedSimpArgs false
set_option linter.unusedVariables false
set_option maxRecDepth 100000 in
set_option maxHeartbeats 3200000 in
theorem XE (n:Nd) (K:Value) (k:Int) (w:World) (hk:n.kind=0) (hts:n.text.size<=281474976710656):
  Calls Tryz.prog 56 #[ndV n K,.int .i64 k] w fun e w'=>e=.returned (.bool (Am n k))/\Below w.heap.size w w':=by
 obtain⟨kind,s0,s1,s2,s3,text,mn,mx,kids⟩:=n;simp only at hk hts ⊢;subst hk;have hE:=fun w=>Dg w s0 s1 s2 s3 0 0 0 0
 have HS:=qd (show decide (s0=0/\s1=0/\s2=0/\s3=0)=BQ ⟨0,s0,s1,s2,s3,text,mn,mx,kids⟩from rfl);generalize decide (s0=0/\s1=0/\s2=0/\s3=0)=b at hE HS;rcases Nat.lt_or_ge 0 text.size with h0|h0
 ·have⟨e1,e2⟩:=Bb text h0;have HX:=qd (show Ay ⟨0,s0,s1,s2,s3,text,mn,mx,kids⟩=false from decide_eq_false (show ¬text.size=0 by omega));cases b
  all_goals
   go_enter Tryz.func56,Tryz.ntmps56
   go_wp2_with fail
   all_goals (go_ret;refine⟨Aj ?_,(by first|exact bx2 w _ _|exact bx1 w _)⟩)
   all_goals (first|(simp[Am,<-HS.out,HX.out,Ah];done)|(simp[Am,<-HS.out,HX.out,Ah];omega)|(rw[Bool.eq_iff_iff];simp[Am,<-HS.out,HX.out,Ah];omega)|(simp only[bne_eq_false_iff_eq]at *;simp[Am,<-HS.out,HX.out,Ah];omega))
 ·have⟨e1,e2,e3⟩:=AH text (by omega);clear e3;have HX:=qd (show Ay ⟨0,s0,s1,s2,s3,text,mn,mx,kids⟩=true from decide_eq_true (show text.size=0 by omega));cases b
  all_goals
   go_enter Tryz.func56,Tryz.ntmps56
   go_wp2_with fail
   all_goals (go_ret;refine⟨Aj ?_,(by first|exact bx2 w _ _|exact bx1 w _)⟩)
   all_goals (first|(simp[Am,<-HS.out,HX.out,Ah];done)|(simp[Am,<-HS.out,HX.out,Ah];omega)|(rw[Bool.eq_iff_iff];simp[Am,<-HS.out,HX.out,Ah];omega)|(simp only[bne_eq_false_iff_eq]at *;simp[Am,<-HS.out,HX.out,Ah];omega))
set_option maxRecDepth 100000 in
set_option maxHeartbeats 3200000 in
theorem XF (n:Nd) (K:Value) (k:Int) (w:World) (hk:n.kind=1) (hts:n.text.size<=281474976710656):
  Calls Tryz.prog 56 #[ndV n K,.int .i64 k] w fun e w'=>e=.returned (.bool (Am n k))/\Below w.heap.size w w':=by
 obtain⟨kind,s0,s1,s2,s3,text,mn,mx,kids⟩:=n;simp only at hk hts ⊢;subst hk;have hE:=fun w=>Dg w s0 s1 s2 s3 0 0 0 0
 have HS:=qd (show decide (s0=0/\s1=0/\s2=0/\s3=0)=BQ ⟨1,s0,s1,s2,s3,text,mn,mx,kids⟩from rfl);generalize decide (s0=0/\s1=0/\s2=0/\s3=0)=b at hE HS;rcases Nat.lt_or_ge 0 text.size with h0|h0
 ·have⟨e1,e2⟩:=Bb text h0;have HX:=qd (show Ay ⟨1,s0,s1,s2,s3,text,mn,mx,kids⟩=false from decide_eq_false (show ¬text.size=0 by omega));cases b
  all_goals
   go_enter Tryz.func56,Tryz.ntmps56
   go_wp2_with fail
   all_goals (go_ret;refine⟨Aj ?_,(by first|exact bx2 w _ _|exact bx1 w _)⟩)
   all_goals (first|(simp[Am,<-HS.out,HX.out,Ah];done)|(simp[Am,<-HS.out,HX.out,Ah];omega)|(rw[Bool.eq_iff_iff];simp[Am,<-HS.out,HX.out,Ah];omega)|(simp only[bne_eq_false_iff_eq]at *;simp[Am,<-HS.out,HX.out,Ah];omega))
 ·have⟨e1,e2,e3⟩:=AH text (by omega);clear e3;have HX:=qd (show Ay ⟨1,s0,s1,s2,s3,text,mn,mx,kids⟩=true from decide_eq_true (show text.size=0 by omega));cases b
  all_goals
   go_enter Tryz.func56,Tryz.ntmps56
   go_wp2_with fail
   all_goals (go_ret;refine⟨Aj ?_,(by first|exact bx2 w _ _|exact bx1 w _)⟩)
   all_goals (first|(simp[Am,<-HS.out,HX.out,Ah];done)|(simp[Am,<-HS.out,HX.out,Ah];omega)|(rw[Bool.eq_iff_iff];simp[Am,<-HS.out,HX.out,Ah];omega)|(simp only[bne_eq_false_iff_eq]at *;simp[Am,<-HS.out,HX.out,Ah];omega))
set_option maxRecDepth 100000 in
set_option maxHeartbeats 3200000 in
theorem XG (n:Nd) (K:Value) (k:Int) (w:World) (hk:n.kind=2) (hts:n.text.size<=281474976710656):
  Calls Tryz.prog 56 #[ndV n K,.int .i64 k] w fun e w'=>e=.returned (.bool (Am n k))/\Below w.heap.size w w':=by
 obtain⟨kind,s0,s1,s2,s3,text,mn,mx,kids⟩:=n;simp only at hk hts ⊢;subst hk;have hE:=fun w=>Dg w s0 s1 s2 s3 0 0 0 0
 have HS:=qd (show decide (s0=0/\s1=0/\s2=0/\s3=0)=BQ ⟨2,s0,s1,s2,s3,text,mn,mx,kids⟩from rfl);generalize decide (s0=0/\s1=0/\s2=0/\s3=0)=b at hE HS;rcases Nat.lt_or_ge 0 text.size with h0|h0
 ·have⟨e1,e2⟩:=Bb text h0;have HX:=qd (show Ay ⟨2,s0,s1,s2,s3,text,mn,mx,kids⟩=false from decide_eq_false (show ¬text.size=0 by omega));cases b
  all_goals
   go_enter Tryz.func56,Tryz.ntmps56
   go_wp2_with fail
   all_goals (go_ret;refine⟨Aj ?_,(by first|exact bx2 w _ _|exact bx1 w _)⟩)
   all_goals (first|(simp[Am,<-HS.out,HX.out,Ah];done)|(simp[Am,<-HS.out,HX.out,Ah];omega)|(rw[Bool.eq_iff_iff];simp[Am,<-HS.out,HX.out,Ah];omega)|(simp only[bne_eq_false_iff_eq]at *;simp[Am,<-HS.out,HX.out,Ah];omega))
 ·have⟨e1,e2,e3⟩:=AH text (by omega);clear e3;have HX:=qd (show Ay ⟨2,s0,s1,s2,s3,text,mn,mx,kids⟩=true from decide_eq_true (show text.size=0 by omega));cases b
  all_goals
   go_enter Tryz.func56,Tryz.ntmps56
   go_wp2_with fail
   all_goals (go_ret;refine⟨Aj ?_,(by first|exact bx2 w _ _|exact bx1 w _)⟩)
   all_goals (first|(simp[Am,<-HS.out,HX.out,Ah];done)|(simp[Am,<-HS.out,HX.out,Ah];omega)|(rw[Bool.eq_iff_iff];simp[Am,<-HS.out,HX.out,Ah];omega)|(simp only[bne_eq_false_iff_eq]at *;simp[Am,<-HS.out,HX.out,Ah];omega))
set_option maxRecDepth 100000 in
set_option maxHeartbeats 3200000 in
theorem XH (n:Nd) (K:Value) (k:Int) (w:World) (hk:n.kind=3) (hts:n.text.size<=281474976710656):
  Calls Tryz.prog 56 #[ndV n K,.int .i64 k] w fun e w'=>e=.returned (.bool (Am n k))/\Below w.heap.size w w':=by
 obtain⟨kind,s0,s1,s2,s3,text,mn,mx,kids⟩:=n;simp only at hk hts ⊢;subst hk;have hE:=fun w=>Dg w s0 s1 s2 s3 0 0 0 0
 have HS:=qd (show decide (s0=0/\s1=0/\s2=0/\s3=0)=BQ ⟨3,s0,s1,s2,s3,text,mn,mx,kids⟩from rfl);generalize decide (s0=0/\s1=0/\s2=0/\s3=0)=b at hE HS;rcases Nat.lt_or_ge 0 text.size with h0|h0
 ·have⟨e1,e2⟩:=Bb text h0;have HX:=qd (show Ay ⟨3,s0,s1,s2,s3,text,mn,mx,kids⟩=false from decide_eq_false (show ¬text.size=0 by omega));cases b;all_goals
  rcases hm:Cb text.data.toList
  all_goals
   go_enter Tryz.func56,Tryz.ntmps56
   go_wp2_with (go_at_call 70;refine(IU text _ hts).mono ?_;rintro e w' ⟨rfl,rfl⟩)
   all_goals (go_ret;refine⟨Aj ?_,(by first|exact bx2 w _ _|exact bx1 w _)⟩)
   all_goals (first|(simp[Am,<-HS.out,HX.out,Ah,hm];done)|(simp[Am,<-HS.out,HX.out,Ah,hm];omega)|(rw[Bool.eq_iff_iff];simp[Am,<-HS.out,HX.out,Ah,hm];omega)|(simp only[bne_eq_false_iff_eq]at *;simp[Am,<-HS.out,HX.out,Ah,hm];omega))
 ·have⟨e1,e2,e3⟩:=AH text (by omega);clear e3;have HX:=qd (show Ay ⟨3,s0,s1,s2,s3,text,mn,mx,kids⟩=true from decide_eq_true (show text.size=0 by omega));cases b;all_goals
  rcases hm:Cb text.data.toList
  all_goals
   go_enter Tryz.func56,Tryz.ntmps56
   go_wp2_with (go_at_call 70;refine(IU text _ hts).mono ?_;rintro e w' ⟨rfl,rfl⟩)
   all_goals (go_ret;refine⟨Aj ?_,(by first|exact bx2 w _ _|exact bx1 w _)⟩)
   all_goals (first|(simp[Am,<-HS.out,HX.out,Ah,hm];done)|(simp[Am,<-HS.out,HX.out,Ah,hm];omega)|(rw[Bool.eq_iff_iff];simp[Am,<-HS.out,HX.out,Ah,hm];omega)|(simp only[bne_eq_false_iff_eq]at *;simp[Am,<-HS.out,HX.out,Ah,hm];omega))
set_option maxRecDepth 100000 in
set_option maxHeartbeats 3200000 in
theorem XI (n:Nd) (K:Value) (k:Int) (w:World) (hk:n.kind=4) (hts:n.text.size<=281474976710656):
  Calls Tryz.prog 56 #[ndV n K,.int .i64 k] w fun e w'=>e=.returned (.bool (Am n k))/\Below w.heap.size w w':=by
 obtain⟨kind,s0,s1,s2,s3,text,mn,mx,kids⟩:=n;simp only at hk hts ⊢;subst hk;have hE:=fun w=>Dg w s0 s1 s2 s3 0 0 0 0
 have HS:=qd (show decide (s0=0/\s1=0/\s2=0/\s3=0)=BQ ⟨4,s0,s1,s2,s3,text,mn,mx,kids⟩from rfl);generalize decide (s0=0/\s1=0/\s2=0/\s3=0)=b at hE HS;rcases Nat.lt_or_ge 0 text.size with h0|h0
 ·have⟨e1,e2⟩:=Bb text h0;have HX:=qd (show Ay ⟨4,s0,s1,s2,s3,text,mn,mx,kids⟩=false from decide_eq_false (show ¬text.size=0 by omega));cases b
  all_goals
   go_enter Tryz.func56,Tryz.ntmps56
   go_wp2_with fail
   all_goals (go_ret;refine⟨Aj ?_,(by first|exact bx2 w _ _|exact bx1 w _)⟩)
   all_goals (first|(simp[Am,<-HS.out,HX.out,Ah];done)|(simp[Am,<-HS.out,HX.out,Ah];omega)|(rw[Bool.eq_iff_iff];simp[Am,<-HS.out,HX.out,Ah];omega)|(simp only[bne_eq_false_iff_eq]at *;simp[Am,<-HS.out,HX.out,Ah];omega))
 ·have⟨e1,e2,e3⟩:=AH text (by omega);clear e3;have HX:=qd (show Ay ⟨4,s0,s1,s2,s3,text,mn,mx,kids⟩=true from decide_eq_true (show text.size=0 by omega));cases b
  all_goals
   go_enter Tryz.func56,Tryz.ntmps56
   go_wp2_with fail
   all_goals (go_ret;refine⟨Aj ?_,(by first|exact bx2 w _ _|exact bx1 w _)⟩)
   all_goals (first|(simp[Am,<-HS.out,HX.out,Ah];done)|(simp[Am,<-HS.out,HX.out,Ah];omega)|(rw[Bool.eq_iff_iff];simp[Am,<-HS.out,HX.out,Ah];omega)|(simp only[bne_eq_false_iff_eq]at *;simp[Am,<-HS.out,HX.out,Ah];omega))
set_option maxRecDepth 100000 in
set_option maxHeartbeats 3200000 in
theorem XJ (n:Nd) (K:Value) (k:Int) (w:World) (hk:n.kind=5) (hts:n.text.size<=281474976710656):
  Calls Tryz.prog 56 #[ndV n K,.int .i64 k] w fun e w'=>e=.returned (.bool (Am n k))/\Below w.heap.size w w':=by
 obtain⟨kind,s0,s1,s2,s3,text,mn,mx,kids⟩:=n;simp only at hk hts ⊢;subst hk;have hE:=fun w=>Dg w s0 s1 s2 s3 0 0 0 0
 have HS:=qd (show decide (s0=0/\s1=0/\s2=0/\s3=0)=BQ ⟨5,s0,s1,s2,s3,text,mn,mx,kids⟩from rfl);generalize decide (s0=0/\s1=0/\s2=0/\s3=0)=b at hE HS;rcases Nat.lt_or_ge 0 text.size with h0|h0
 ·have⟨e1,e2⟩:=Bb text h0;have HX:=qd (show Ay ⟨5,s0,s1,s2,s3,text,mn,mx,kids⟩=false from decide_eq_false (show ¬text.size=0 by omega));cases b
  all_goals
   go_enter Tryz.func56,Tryz.ntmps56
   go_wp2_with fail
   all_goals (go_ret;refine⟨Aj ?_,(by first|exact bx2 w _ _|exact bx1 w _)⟩)
   all_goals (first|(simp[Am,<-HS.out,HX.out,Ah];done)|(simp[Am,<-HS.out,HX.out,Ah];omega)|(rw[Bool.eq_iff_iff];simp[Am,<-HS.out,HX.out,Ah];omega)|(simp only[bne_eq_false_iff_eq]at *;simp[Am,<-HS.out,HX.out,Ah];omega))
 ·have⟨e1,e2,e3⟩:=AH text (by omega);clear e3;have HX:=qd (show Ay ⟨5,s0,s1,s2,s3,text,mn,mx,kids⟩=true from decide_eq_true (show text.size=0 by omega));cases b
  all_goals
   go_enter Tryz.func56,Tryz.ntmps56
   go_wp2_with fail
   all_goals (go_ret;refine⟨Aj ?_,(by first|exact bx2 w _ _|exact bx1 w _)⟩)
   all_goals (first|(simp[Am,<-HS.out,HX.out,Ah];done)|(simp[Am,<-HS.out,HX.out,Ah];omega)|(rw[Bool.eq_iff_iff];simp[Am,<-HS.out,HX.out,Ah];omega)|(simp only[bne_eq_false_iff_eq]at *;simp[Am,<-HS.out,HX.out,Ah];omega))
set_option maxRecDepth 100000 in
set_option maxHeartbeats 3200000 in
theorem XK (n:Nd) (K:Value) (k:Int) (w:World) (hk:n.kind=6) (hts:n.text.size<=281474976710656):
  Calls Tryz.prog 56 #[ndV n K,.int .i64 k] w fun e w'=>e=.returned (.bool (Am n k))/\Below w.heap.size w w':=by
 obtain⟨kind,s0,s1,s2,s3,text,mn,mx,kids⟩:=n;simp only at hk hts ⊢;subst hk;have hE:=fun w=>Dg w s0 s1 s2 s3 0 0 0 0
 have HS:=qd (show decide (s0=0/\s1=0/\s2=0/\s3=0)=BQ ⟨6,s0,s1,s2,s3,text,mn,mx,kids⟩from rfl);generalize decide (s0=0/\s1=0/\s2=0/\s3=0)=b at hE HS;rcases Nat.lt_or_ge 0 text.size with h0|h0
 ·have⟨e1,e2⟩:=Bb text h0;have HX:=qd (show Ay ⟨6,s0,s1,s2,s3,text,mn,mx,kids⟩=false from decide_eq_false (show ¬text.size=0 by omega));cases b
  all_goals
   go_enter Tryz.func56,Tryz.ntmps56
   go_wp2_with fail
   all_goals (go_ret;refine⟨Aj ?_,(by first|exact bx2 w _ _|exact bx1 w _)⟩)
   all_goals (first|(simp[Am,<-HS.out,HX.out,Ah];done)|(simp[Am,<-HS.out,HX.out,Ah];omega)|(rw[Bool.eq_iff_iff];simp[Am,<-HS.out,HX.out,Ah];omega)|(simp only[bne_eq_false_iff_eq]at *;simp[Am,<-HS.out,HX.out,Ah];omega))
 ·have⟨e1,e2,e3⟩:=AH text (by omega);clear e3;have HX:=qd (show Ay ⟨6,s0,s1,s2,s3,text,mn,mx,kids⟩=true from decide_eq_true (show text.size=0 by omega));cases b
  all_goals
   go_enter Tryz.func56,Tryz.ntmps56
   go_wp2_with fail
   all_goals (go_ret;refine⟨Aj ?_,(by first|exact bx2 w _ _|exact bx1 w _)⟩)
   all_goals (first|(simp[Am,<-HS.out,HX.out,Ah];done)|(simp[Am,<-HS.out,HX.out,Ah];omega)|(rw[Bool.eq_iff_iff];simp[Am,<-HS.out,HX.out,Ah];omega)|(simp only[bne_eq_false_iff_eq]at *;simp[Am,<-HS.out,HX.out,Ah];omega))
set_option maxRecDepth 100000 in
set_option maxHeartbeats 3200000 in
theorem XL (n:Nd) (K:Value) (k:Int) (w:World) (hk:n.kind=7) (hts:n.text.size<=281474976710656):
  Calls Tryz.prog 56 #[ndV n K,.int .i64 k] w fun e w'=>e=.returned (.bool (Am n k))/\Below w.heap.size w w':=by
 obtain⟨kind,s0,s1,s2,s3,text,mn,mx,kids⟩:=n;simp only at hk hts ⊢;subst hk;have hE:=fun w=>Dg w s0 s1 s2 s3 0 0 0 0
 have HS:=qd (show decide (s0=0/\s1=0/\s2=0/\s3=0)=BQ ⟨7,s0,s1,s2,s3,text,mn,mx,kids⟩from rfl);generalize decide (s0=0/\s1=0/\s2=0/\s3=0)=b at hE HS;rcases Nat.lt_or_ge 0 text.size with h0|h0
 ·have⟨e1,e2⟩:=Bb text h0;have HX:=qd (show Ay ⟨7,s0,s1,s2,s3,text,mn,mx,kids⟩=false from decide_eq_false (show ¬text.size=0 by omega));cases b
  all_goals
   go_enter Tryz.func56,Tryz.ntmps56
   go_wp2_with fail
   all_goals (go_ret;refine⟨Aj ?_,(by first|exact bx2 w _ _|exact bx1 w _)⟩)
   all_goals (first|(simp[Am,<-HS.out,HX.out,Ah];done)|(simp[Am,<-HS.out,HX.out,Ah];omega)|(rw[Bool.eq_iff_iff];simp[Am,<-HS.out,HX.out,Ah];omega)|(simp only[bne_eq_false_iff_eq]at *;simp[Am,<-HS.out,HX.out,Ah];omega))
 ·have⟨e1,e2,e3⟩:=AH text (by omega);clear e3;have HX:=qd (show Ay ⟨7,s0,s1,s2,s3,text,mn,mx,kids⟩=true from decide_eq_true (show text.size=0 by omega));cases b
  all_goals
   go_enter Tryz.func56,Tryz.ntmps56
   go_wp2_with fail
   all_goals (go_ret;refine⟨Aj ?_,(by first|exact bx2 w _ _|exact bx1 w _)⟩)
   all_goals (first|(simp[Am,<-HS.out,HX.out,Ah];done)|(simp[Am,<-HS.out,HX.out,Ah];omega)|(rw[Bool.eq_iff_iff];simp[Am,<-HS.out,HX.out,Ah];omega)|(simp only[bne_eq_false_iff_eq]at *;simp[Am,<-HS.out,HX.out,Ah];omega))
set_option maxRecDepth 100000 in
set_option maxHeartbeats 3200000 in
theorem XM (n:Nd) (K:Value) (k:Int) (w:World) (hk:n.kind=8) (hts:n.text.size<=281474976710656):
  Calls Tryz.prog 56 #[ndV n K,.int .i64 k] w fun e w'=>e=.returned (.bool (Am n k))/\Below w.heap.size w w':=by
 obtain⟨kind,s0,s1,s2,s3,text,mn,mx,kids⟩:=n;simp only at hk hts ⊢;subst hk;have hE:=fun w=>Dg w s0 s1 s2 s3 0 0 0 0
 have HS:=qd (show decide (s0=0/\s1=0/\s2=0/\s3=0)=BQ ⟨8,s0,s1,s2,s3,text,mn,mx,kids⟩from rfl);generalize decide (s0=0/\s1=0/\s2=0/\s3=0)=b at hE HS;rcases Nat.lt_or_ge 0 text.size with h0|h0
 ·have⟨e1,e2⟩:=Bb text h0;have HX:=qd (show Ay ⟨8,s0,s1,s2,s3,text,mn,mx,kids⟩=false from decide_eq_false (show ¬text.size=0 by omega));cases b
  all_goals
   go_enter Tryz.func56,Tryz.ntmps56
   go_wp2_with fail
   all_goals (go_ret;refine⟨Aj ?_,(by first|exact bx2 w _ _|exact bx1 w _)⟩)
   all_goals (first|(simp[Am,<-HS.out,HX.out,Ah];done)|(simp[Am,<-HS.out,HX.out,Ah];omega)|(rw[Bool.eq_iff_iff];simp[Am,<-HS.out,HX.out,Ah];omega)|(simp only[bne_eq_false_iff_eq]at *;simp[Am,<-HS.out,HX.out,Ah];omega))
 ·have⟨e1,e2,e3⟩:=AH text (by omega);clear e3;have HX:=qd (show Ay ⟨8,s0,s1,s2,s3,text,mn,mx,kids⟩=true from decide_eq_true (show text.size=0 by omega));cases b
  all_goals
   go_enter Tryz.func56,Tryz.ntmps56
   go_wp2_with fail
   all_goals (go_ret;refine⟨Aj ?_,(by first|exact bx2 w _ _|exact bx1 w _)⟩)
   all_goals (first|(simp[Am,<-HS.out,HX.out,Ah];done)|(simp[Am,<-HS.out,HX.out,Ah];omega)|(rw[Bool.eq_iff_iff];simp[Am,<-HS.out,HX.out,Ah];omega)|(simp only[bne_eq_false_iff_eq]at *;simp[Am,<-HS.out,HX.out,Ah];omega))
set_option maxRecDepth 100000 in
set_option maxHeartbeats 3200000 in
theorem XN (n:Nd) (K:Value) (k:Int) (w:World) (hk:n.kind=9) (hts:n.text.size<=281474976710656):
  Calls Tryz.prog 56 #[ndV n K,.int .i64 k] w fun e w'=>e=.returned (.bool (Am n k))/\Below w.heap.size w w':=by
 obtain⟨kind,s0,s1,s2,s3,text,mn,mx,kids⟩:=n;simp only at hk hts ⊢;subst hk;have hE:=fun w=>Dg w s0 s1 s2 s3 0 0 0 0
 have HS:=qd (show decide (s0=0/\s1=0/\s2=0/\s3=0)=BQ ⟨9,s0,s1,s2,s3,text,mn,mx,kids⟩from rfl);generalize decide (s0=0/\s1=0/\s2=0/\s3=0)=b at hE HS;rcases Nat.lt_or_ge 0 text.size with h0|h0
 ·have⟨e1,e2⟩:=Bb text h0;have HX:=qd (show Ay ⟨9,s0,s1,s2,s3,text,mn,mx,kids⟩=false from decide_eq_false (show ¬text.size=0 by omega));cases b;all_goals
  rcases hm:Cb text.data.toList
  all_goals
   go_enter Tryz.func56,Tryz.ntmps56
   go_wp2_with (go_at_call 70;refine(IU text _ hts).mono ?_;rintro e w' ⟨rfl,rfl⟩)
   all_goals (go_ret;refine⟨Aj ?_,(by first|exact bx2 w _ _|exact bx1 w _)⟩)
   all_goals (first|(simp[Am,<-HS.out,HX.out,Ah,hm];done)|(simp[Am,<-HS.out,HX.out,Ah,hm];omega)|(rw[Bool.eq_iff_iff];simp[Am,<-HS.out,HX.out,Ah,hm];omega)|(simp only[bne_eq_false_iff_eq]at *;simp[Am,<-HS.out,HX.out,Ah,hm];omega))
 ·have⟨e1,e2,e3⟩:=AH text (by omega);clear e3;have HX:=qd (show Ay ⟨9,s0,s1,s2,s3,text,mn,mx,kids⟩=true from decide_eq_true (show text.size=0 by omega));cases b;all_goals
  rcases hm:Cb text.data.toList
  all_goals
   go_enter Tryz.func56,Tryz.ntmps56
   go_wp2_with (go_at_call 70;refine(IU text _ hts).mono ?_;rintro e w' ⟨rfl,rfl⟩)
   all_goals (go_ret;refine⟨Aj ?_,(by first|exact bx2 w _ _|exact bx1 w _)⟩)
   all_goals (first|(simp[Am,<-HS.out,HX.out,Ah,hm];done)|(simp[Am,<-HS.out,HX.out,Ah,hm];omega)|(rw[Bool.eq_iff_iff];simp[Am,<-HS.out,HX.out,Ah,hm];omega)|(simp only[bne_eq_false_iff_eq]at *;simp[Am,<-HS.out,HX.out,Ah,hm];omega))
set_option maxRecDepth 100000 in
set_option maxHeartbeats 1600000 in
theorem P9 (n:Nd) (K:Value) (k:Int) (w:World) (h:10<=n.kind) (h2:n.kind<=255):
  Calls Tryz.prog 56 #[ndV n K,.int .i64 k] w fun e w'=>e=.returned (.bool (Am n k))/\Below w.heap.size w w':=by
 have HF:=qd (KX n k h);obtain⟨kind,s0,s1,s2,s3,text,mn,mx,kids⟩:=n;simp only at h h2 ⊢;have hE:=fun w=>Dg w s0 s1 s2 s3 0 0 0 0
 have k0:(kind==0)=false:=by simp;omega
 have k1:(kind==1)=false:=by simp;omega
 have k2:(kind==2)=false:=by simp;omega
 have k3:(kind==3)=false:=by simp;omega
 have k4:(kind==4)=false:=by simp;omega
 have k5:(kind==5)=false:=by simp;omega
 have k6:(kind==6)=false:=by simp;omega
 have k7:(kind==7)=false:=by simp;omega
 have k8:(kind==8)=false:=by simp;omega
 have k9:(kind==9)=false:=by simp;omega
 generalize decide (s0=0/\s1=0/\s2=0/\s3=0)=b at hE;rcases Nat.lt_or_ge 0 text.size with h0|h0
 ·have⟨e1,e2⟩:=Bb text h0;cases b
  all_goals
   go_enter Tryz.func56,Tryz.ntmps56
   go_wp2_with fail
   all_goals (go_ret;exact⟨Aj HF.out.symm,by first|exact bx2 w _ _|exact bx1 w _⟩)
 ·have⟨e1,e2,e3⟩:=AH text (by omega);clear e3;cases b
  all_goals
   go_enter Tryz.func56,Tryz.ntmps56
   go_wp2_with fail
   all_goals (go_ret;exact⟨Aj HF.out.symm,by first|exact bx2 w _ _|exact bx1 w _⟩)
theorem JT (n:Nd) (K:Value) (k:Int) (w:World) (hk:0<=n.kind/\n.kind<=255) (hts:n.text.size<=281474976710656):
  Calls Tryz.prog 56 #[ndV n K,.int .i64 k] w fun e w'=>e=.returned (.bool (Am n k))/\Below w.heap.size w w':=by
 have h:n.kind=0\/n.kind=1\/n.kind=2\/n.kind=3\/n.kind=4\/n.kind=5\/n.kind=6\/n.kind=7\/n.kind=8\/n.kind=9\/10<=n.kind:=by omega
 rcases h with h|h|h|h|h|h|h|h|h|h|h
 ·exact XE n K k w h hts
 ·exact XF n K k w h hts
 ·exact XG n K k w h hts
 ·exact XH n K k w h hts
 ·exact XI n K k w h hts
 ·exact XJ n K k w h hts
 ·exact XK n K k w h hts
 ·exact XL n K k w h hts
 ·exact XM n K k w h hts
 ·exact XN n K k w h hts
 ·exact P9 n K k w h hk.2
end Go.Proofs.YtdnochjajoiooaaGreatDoor
/- The contract of tree.Of. -/
namespace Go.Proofs.YtdnochjajoiooaaGreatDoor
open Go.RowKit
set_option linter.unusedSimpArgs false
set_option linter.unusedVariables false
attribute [local go_sem] GE
end Go.Proofs.YtdnochjajoiooaaGreatDoor
/- The contract of a node and its kids,as the examples of layer 9 put them together. -/
namespace Go.Proofs.YtdnochjajoiooaaGreatDoor
open Go.RowKit
set_option linter.unusedSimpArgs false
set_option linter.unusedVariables false
end Go.Proofs.YtdnochjajoiooaaGreatDoor
namespace Go.Proofs.YtdnochjajoiooaaGreatDoor
open Go.RowKit
set_option linter.unusedSimpArgs false
set_option linter.unusedVariables false
theorem Yx {p:Nat->Prop}:∀n,p n-> ∃m,p m/\ ∀k,p k->m<=k:=by
 intro n;induction n using Nat.strongRecOn with
 |_ n ih=>
  intro h;by_cases hn:∃k,k<n/\p k
  ·obtain⟨k,hk,hp⟩:=hn;exact ih k hk hp
  ·exact⟨n,h,fun k hk=>Nat.le_of_not_lt fun hlt=>hn ⟨k,hlt,hk⟩⟩
section
variable {P:Program} {a:Act} {w:World} {Q:Exit->Act->World->Prop}
theorem Jv {c x:Code} (l:Nat) (J:Nat->Act->World->Prop) (hf:findLabel c l=some (.seq .skip x))
  (pass:∀n a w,J n a w->x.wp P (Exit.jump l (fun a' w'=>∃m,m<n/\J m a' w') Q) a w)
  (first:(∀n a w,J n a w->x.wp P (Exit.jump l (fun a' w'=>∃m,J m a' w') Q) a w)->c.wp P (Exit.jump l (fun a' w'=>∃m,J m a' w') Q) a w):(Code.scope c).wp P Q a w:=by
 classical
 have hmin:∀a w,(∃n,J n a w)-> ∃m,J m a w/\ ∀k,J k a w->m<=k:=fun a w ⟨n,h⟩=>Yx n h
 let μ:Act->World->Nat:=fun a w=>if h:∃n,J n a w then Classical.choose (hmin a w h)else 0
 have hμ:∀a w,(∃n,J n a w)->J (μ a w) a w/\ ∀k,J k a w->μ a w<=k:=fun a w h=>by
  have hs:=Classical.choose_spec (hmin a w h);have e:μ a w=Classical.choose (hmin a w h):=dif_pos h;rw[e];exact hs
 have weak:∀n a w,J n a w->x.wp P (Exit.jump l (fun a' w'=>∃m,J m a' w') Q) a w:=fun n a w h=>
  Code.wp_mono (fun e a w hq=>by
   cases e with
   |goto l'=>exact⟨hq.1,hq.2.imp fun m hm=>hm.2⟩
   |_=>exact hq) (pass n a w h)
 refine wp_scope_jumps l (fun a w=>∃n,J n a w) μ hf (first weak) fun a w h=> ?_
 refine wp_seq (wp_skip ?_);refine Code.wp_mono (fun e a' w' hq=> ?_) (pass _ a w (hμ a w h).1);cases e with
 |goto l'=>
  obtain⟨e,m,hm,hj⟩:=hq;exact⟨e,⟨m,hj⟩,Nat.lt_of_le_of_lt ((hμ a' w' ⟨m,hj⟩).2 m hj) hm⟩
 |_=>exact hq
end
attribute [local go_sem] GE
end Go.Proofs.YtdnochjajoiooaaGreatDoor
/- The contracts of slices.Clone over nodes and rules. -/
namespace Go.Proofs.YtdnochjajoiooaaGreatDoor
open Go.RowKit
set_option linter.unusedSimpArgs false
set_option linter.unusedVariables false
end Go.Proofs.YtdnochjajoiooaaGreatDoor
/- The contract of gram.copied. -/
namespace Go.Proofs.YtdnochjajoiooaaGreatDoor
open Go.RowKit
set_option linter.unusedSimpArgs false
set_option linter.unusedVariables false
end Go.Proofs.YtdnochjajoiooaaGreatDoor
/- The contract of gram.Copy. -/
namespace Go.Proofs.YtdnochjajoiooaaGreatDoor
open Go.RowKit
set_option linter.unusedSimpArgs false
set_option linter.unusedVariables false
end Go.Proofs.YtdnochjajoiooaaGreatDoor
namespace Go.Proofs.YtdnochjajoiooaaGreatDoor
open Go.RowKit
set_option linter.unusedSimpArgs false
set_option linter.unusedVariables false
theorem TreePost.out' {t:Tr} {w:World} {e:Ending} {w':World} (h:TreePost t w e w'):∃A c l r,e=.returned (.agg #[.slice A l.length c,.int .i64 r])/\Lt.tr ⟨A,c,l,r⟩=t/\TreeOwn w' (w.heap.size <= ·) ⟨A,c,l,r⟩/\Below w.heap.size w w':=by
 obtain⟨⟨A,c,l,r⟩,h1,h2,h3,h4⟩:=h;exact⟨A,c,l,r,h1,h2,h3,h4⟩
theorem OwnS.ne {w:World} {S:Nat->Prop} {e e':TypeId} {size n c g:Nat} {V:Option Addr} {xs:List Value} {cs:Array Value} {fz:Nat×Nat} (h:OwnS w S e size V n c xs) (hg:w.heap[g]?=some (.cells cs e' fz)) (hne:e≠e'):OwnS w (fun x=>S x/\x≠g) e size V n c xs:=
 ⟨h.1,fun k hk=>⟨h.2 k hk,fun ek=>by
  rcases h.1.2 with⟨hv,_⟩|⟨g',cap,cur,hv,_,hh,_⟩
  ·cases hv;cases hk
  ·cases hv;cases hk;subst ek;rw[hg]at hh;injection hh with hh
   injection hh with _ h2
   exact hne h2.symm⟩⟩
theorem TreeOwn.ne {w:World} {S:Nat->Prop} {t:Lt} {g:Nat} {cs:Array Value} {fz:Nat×Nat} (h:TreeOwn w S t) (hg:w.heap[g]?=some (.cells cs 208 fz)):TreeOwn w (fun x=>S x/\x≠g) t:=
 ⟨h.len,h.row.ne hg (by decide),fun l hl=>⟨(h.kids l hl).1,(h.kids l hl).2.ne hg (by decide)⟩⟩
theorem ReadsP.names {s:List UInt8} {W:List Wd} {l:List (Nat×TT)} {cs:List Nat} (h:ReadsP s W l cs):UO s=UM W l:=by
 unfold UO;rw[h.read,h.begun];simp
theorem VP:∀n:Fin 16,Gr (JR n.val)=some n.val:=by decide
theorem Nm {n:Nat} (h:n<16):Gr (JR n)=some n:=VP ⟨n,h⟩
def LT (left:List UInt8):Prop:=(110:UInt8)∉left/\(114:UInt8)∉left/\(116:UInt8)∉left/\(120:UInt8)∉left/\(92:UInt8)∉left
theorem TO:LT [34]:=by unfold LT;decide
theorem JU:LT Bp:=by unfold LT;decide
theorem TP {left:List UInt8} (hl:LT left) (b:UInt8) (r:List UInt8):AQ left (A6 left b++r) 0=.ok b (A6 left b).length:=by
 obtain⟨h1,h2,h3,h4,h5⟩:=hl;unfold A6;split
 ·rename_i h
  unfold AQ;simp only[List.cons_append,List.getElem?_cons_zero,List.nil_append];rw[if_neg h.2.1,if_pos ⟨h.1,h.2.1,h.2.2⟩];rfl
 split
 ·rename_i h;subst h
  simp[AQ,DF,h1]
 split
 ·rename_i h;subst h
  simp[AQ,DF,h2]
 split
 ·rename_i h;subst h
  simp[AQ,DF,h3]
 split
 ·rename_i hp h10 h13 h9 h
  have hm:DF left b=some b:=by
   unfold DF;by_cases hb:b∈left
   ·rw[if_pos hb]
   ·rcases h with rfl|h
    ·rw[if_neg hb];simp
    ·exact absurd h hb
  simp[AQ,hm]
 ·have hx:DF left 120=none:=by
   unfold DF;rw[if_neg h4];simp
  have hb:=b.toNat_lt;have e1:=Nm (n:=b.toNat/16) (by omega);have e2:=Nm (n:=b.toNat%16) (by omega);simp only[AQ,EJ,List.cons_append,List.nil_append,List.getElem?_cons_zero,List.getElem?_cons_succ,if_true,hx,e1,e2,Nat.zero_add];simp only[List.length_cons,List.length_nil];congr 1;apply UInt8.toNat_inj.1;rw[UInt8.toNat_ofNat'];omega
theorem TQ {t:List UInt8} {a k n:Nat} {b:UInt8} (h:EJ (t.drop a) k=.ok b n):EJ t (a+k)=.ok b (a+n):=by
 unfold EJ at h ⊢;rw[List.getElem?_drop]at h;cases h1:t[a+k]? with
 |none=>rw[h1]at h;cases h
 |some c=>
  rw[h1]at h;simp only at h ⊢;cases h2:Gr c with
  |none=>rw[h2]at h;cases h
  |some x=>
   rw[h2]at h;simp only[List.getElem?_drop]at h ⊢;rw[show a+(k+1)=a+k+1 by omega]at h;cases h3:t[a+k+1]? with
   |none=>rw[h3]at h;cases h
   |some d=>
    rw[h3]at h;simp only at h ⊢;cases h4:Gr d with
    |none=>rw[h4]at h;cases h
    |some y=>rw[h4]at h;simp only at h ⊢;injection h with e1 e2;rw[<-e1,<-e2];congr 1
theorem Rc {left t:List UInt8} {a n:Nat} {b:UInt8} (h:AQ left (t.drop a) 0=.ok b n):AQ left t a=.ok b (a+n):=by
 unfold AQ at h ⊢;rw[List.getElem?_drop,Nat.add_zero]at h;cases h1:t[a]? with
 |none=>rw[h1]at h;cases h
 |some c=>
  rw[h1]at h;simp only at h ⊢;split at h
  ·rename_i hc
   rw[if_pos hc];rw[List.getElem?_drop]at h;simp only[Nat.zero_add]at h;cases h2:t[a+1]? with
   |none=>rw[h2]at h;cases h
   |some d=>
    rw[h2]at h;simp only at h ⊢;cases h3:DF left d with
    |some v=>rw[h3]at h;simp only at h ⊢;injection h with e1 e2;rw[<-e1,<-e2]
    |none=>
     rw[h3]at h;simp only at h ⊢;split at h
     ·rename_i hx;rw[if_pos hx];exact TQ h
     ·cases h
  ·rename_i hc
   rw[if_neg hc];split at h
   ·rename_i hp;rw[if_pos hp];injection h with e1 e2;rw[<-e1,<-e2]
   ·cases h
theorem KF {left:List UInt8} (hl:LT left) (pre:List UInt8) (b:UInt8) (r:List UInt8):AQ left (pre++(A6 left b++r)) pre.length=.ok b (pre.length+(A6 left b).length):=
 Rc (by rw[List.drop_left];exact TP hl b r)
theorem LU (left:List UInt8) (b:UInt8) (r:List UInt8):∃c,(A6 left b++r)[0]?=some c/\(c=92\/c∉left):=by
 unfold A6;split
 ·rename_i h;exact⟨b,by simp,.inr h.2.2⟩
 split
 ·exact⟨92,by simp,.inl rfl⟩
 split
 ·exact⟨92,by simp,.inl rfl⟩
 split
 ·exact⟨92,by simp,.inl rfl⟩
 split <;> exact⟨92,by simp,.inl rfl⟩
theorem LV {left:List UInt8} (hl:LT left) (en:UInt8) (hen:en∈left):∀(l pre rest:List UInt8),RN left en (pre++(l.flatMap (A6 left)++en::rest)) pre.length=(l,pre.length+(l.flatMap (A6 left)).length,0)
 |[],pre,rest=>by
  rw[Q4 (by simp)];simp
 |b::l,pre,rest=>by
  have e:(b::l).flatMap (A6 left)++en::rest=A6 left b++(l.flatMap (A6 left)++en::rest):=by simp
  rw[e]
  have h1:(pre++(A6 left b++(l.flatMap (A6 left)++en::rest)))[pre.length]? ≠ some en:=by
   obtain⟨c,hc,hn⟩:=LU left b (l.flatMap (A6 left)++en::rest);rw[List.getElem?_append_right (Nat.le_refl _),Nat.sub_self,hc];intro e;have:=Option.some.inj e;subst this;rcases hn with h|h
   ·subst h;exact hl.2.2.2.2 hen
   ·exact h hen
  rw[UY h1 (KF hl pre b _)];have ih:=LV hl en hen l (pre++A6 left b) rest;rw[List.append_assoc,List.length_append]at ih;rw[ih];simp only[List.flatMap_cons,List.length_append];rw[Nat.add_assoc]
theorem VQ (s rest:List UInt8) (hs:s.length<=255):BN (JS s++rest)=(s,(JS s).length,0):=by
 have e:JS s++rest=[34]++(s.flatMap (A6 [34])++34::rest):=by simp[JS]
 have h:=LV TO 34 (by simp) s [34] rest;rw[e,Hw (by simp)];rw[show([34]:List UInt8).length=1 from rfl]at h;rw[h];simp only;rw[if_neg (by simp),if_neg (by omega)];simp[JS];omega
theorem Ib (b:UInt8) (r:List UInt8):∃c,(A6 Bp b++r)[0]?=some c/\c≠93/\c≠45/\c≠94:=by
 obtain⟨c,hc,hn⟩:=LU Bp b r;refine⟨c,hc,?_⟩;rcases hn with rfl|h
 ·decide
 ·simp[Bp]at h;exact h
theorem LW (pre:List UInt8) (a:UInt8) (s:List UInt8) (hs:s[0]? ≠ some 45):
  GN (pre++(A6 Bp a++s)) pre.length=((a,a)::(GN ((pre++A6 Bp a)++s) (pre++A6 Bp a).length).1,(GN ((pre++A6 Bp a)++s) (pre++A6 Bp a).length).2):=by
 have h1:(pre++(A6 Bp a++s))[pre.length]? ≠ some 93:=by
  obtain⟨c,hc,h,_⟩:=Ib a s;rw[List.getElem?_append_right (Nat.le_refl _),Nat.sub_self,hc];intro e;exact h (Option.some.inj e)
 have h2:CB (pre++(A6 Bp a++s)) a (pre.length+(A6 Bp a).length)=.ok a (pre.length+(A6 Bp a).length):=by
  unfold CB;rw[if_neg];rw[<-List.append_assoc,List.getElem?_append_right (by simp),List.length_append,Nat.sub_self];exact hs
 rw[R7 h1 (KF JU pre a s) h2 (by omega),List.append_assoc,List.length_append]
theorem VR (pre:List UInt8) (a b:UInt8) (s:List UInt8) (hab:a.toNat<=b.toNat):
  GN (pre++(A6 Bp a++45::(A6 Bp b++s))) pre.length=((a,b)::(GN ((pre++(A6 Bp a++45::A6 Bp b))++s) (pre++(A6 Bp a++45::A6 Bp b)).length).1,(GN ((pre++(A6 Bp a++45::A6 Bp b))++s) (pre++(A6 Bp a++45::A6 Bp b)).length).2):=by
 have h1:(pre++(A6 Bp a++45::(A6 Bp b++s)))[pre.length]? ≠ some 93:=by
  obtain⟨c,hc,h,_⟩:=Ib a (45::(A6 Bp b++s));rw[List.getElem?_append_right (Nat.le_refl _),Nat.sub_self,hc];intro e;exact h (Option.some.inj e)
 have e2:pre++(A6 Bp a++45::(A6 Bp b++s))=(pre++A6 Bp a++[45])++(A6 Bp b++s):=by simp
 have e3:(pre++(A6 Bp a++45::A6 Bp b))++s=pre++(A6 Bp a++45::(A6 Bp b++s)):=by simp
 have h2:CB (pre++(A6 Bp a++45::(A6 Bp b++s))) a (pre.length+(A6 Bp a).length)=.ok b ((pre++(A6 Bp a++45::A6 Bp b)).length):=by
  unfold CB;rw[if_pos]
  ·have h:=KF JU (pre++A6 Bp a++[45]) b s;rw[<-e2]at h;simp only[List.length_append,List.length_cons,List.length_nil]at h ⊢;rw[h];congr 1;omega
  ·rw[<-List.append_assoc,List.getElem?_append_right (by simp),List.length_append,Nat.sub_self];rfl
 rw[R7 h1 (KF JU pre a _) h2 (by omega),e3]
theorem LX (l:List (Nat×Nat)) (rest:List UInt8):∃c,(l.flatMap Cm++93::rest)[0]?=some c/\c≠45/\c≠94:=by
 cases l with
 |nil=>exact⟨93,by simp,by decide,by decide⟩
 |cons r l=>
  obtain⟨c,hc,_,h1,h2⟩:=Ib (UInt8.ofNat r.1) ((if r.1+1<r.2 then[45]else[])++((if r.1≠r.2 then A6 [93,45,94] (UInt8.ofNat r.2)else[])++(l.flatMap Cm++93::rest)));refine⟨c,?_,h1,h2⟩;rw[<-hc];simp only[List.flatMap_cons,Cm,List.append_assoc,Bp]
theorem Ic:∀(l:List (Nat×Nat)) (pre rest:List UInt8),(∀r∈l,r.1<=r.2/\r.2<=255)->GN (pre++(l.flatMap Cm++93::rest)) pre.length=(l.flatMap ED,pre.length+(l.flatMap Cm).length,0)
 |[],pre,rest,_=>by
  rw[Q5 (by simp)];simp
 |(x,y)::l,pre,rest,hl=>by
  have hxy:=hl (x,y) List.mem_cons_self;simp only at hxy;have hl2:=fun r hr=>hl r (List.mem_cons_of_mem _ hr)
  have hf:(l.flatMap Cm++93::rest)[0]? ≠ some 45:=by
   obtain⟨c,hc,h,_⟩:=LX l rest;rw[hc];intro e;exact h (Option.some.inj e)
  have ex:(UInt8.ofNat x).toNat=x:=by rw[UInt8.toNat_ofNat'];omega
  have ey:(UInt8.ofNat y).toNat=y:=by rw[UInt8.toNat_ofNat'];omega
  by_cases h1:x+1<y
  ·have e:((x,y)::l).flatMap Cm++93::rest=A6 Bp (UInt8.ofNat x)++45::(A6 Bp (UInt8.ofNat y)++(l.flatMap Cm++93::rest)):=by
    simp[List.flatMap_cons,Cm,h1,show x≠y by omega,Bp]
   rw[e,VR pre _ _ _ (by omega),Ic l _ rest hl2];simp[List.flatMap_cons,ED,Cm,h1,show x≠y by omega,Bp];omega
  ·by_cases h2:x=y
   ·subst h2
    have e:((x,x)::l).flatMap Cm++93::rest=A6 Bp (UInt8.ofNat x)++(l.flatMap Cm++93::rest):=by
     simp[List.flatMap_cons,Cm,Bp]
    rw[e,LW pre _ _ hf,Ic l _ rest hl2];simp[List.flatMap_cons,ED,Cm,show ¬x+1<x by omega,Bp];omega
   ·have e:((x,y)::l).flatMap Cm++93::rest=A6 Bp (UInt8.ofNat x)++(A6 Bp (UInt8.ofNat y)++(l.flatMap Cm++93::rest)):=by
     simp[List.flatMap_cons,Cm,h1,h2,Bp]
    rw[e,LW pre _ _ (by obtain⟨c,hc,_,h,_⟩:=Ib (UInt8.ofNat y) (l.flatMap Cm++93::rest);rw[hc];intro e;exact h (Option.some.inj e)),LW _ _ _ hf,Ic l _ rest hl2];simp[List.flatMap_cons,ED,Cm,h1,h2,Bp];omega
theorem Re (f:Nat->Bool) (rest:List UInt8) (hf:(List.range 256).all f=false):Bx (C3 f++rest)=(fun k=>xor false (Bu ((Co f).flatMap ED) k),(C3 f).length,0):=by
 have e:C3 f++rest=[91]++((Co f).flatMap Cm++93::rest):=by simp[C3,hf]
 have h:=Ic (Co f) [91] rest (Pf f)
 have hb:Po ([91]++((Co f).flatMap Cm++93::rest))=false:=by
  unfold Po;obtain⟨c,hc,_,h94⟩:=LX (Co f) rest;rw[List.getElem?_append_right (by simp)];refine decide_eq_false fun e=> ?_
  have e2:((Co f).flatMap Cm++93::rest)[0]?=some 94:=e;rw[hc]at e2;exact h94 (Option.some.inj e2)
 have ha:FD ([91]++((Co f).flatMap Cm++93::rest))=1:=by unfold FD;rw[hb];rfl
 rw[e,Hx (by simp),ha];rw[show([91]:List UInt8).length=1 from rfl]at h;rw[h,hb];simp only;rw[if_neg (by simp)];simp[C3,hf];omega
theorem VS (f:Nat->Bool) (k:Nat) (hk:k<256):Bu ((Co f).flatMap ED) k=f k:=by
 have h1:=Tl (Co f) (Pf f) k;have h2:=Va f k;rw[Bool.eq_iff_iff];constructor
 ·intro h;unfold Bu at h;obtain⟨r,hr,hd⟩:=List.any_eq_true.1 h;exact(h2.1 (h1.1 ⟨r,hr,of_decide_eq_true hd⟩)).2
 ·intro h;obtain⟨r,hr,hd⟩:=h1.2 (h2.2 ⟨hk,h⟩);exact List.any_eq_true.2 ⟨r,hr,decide_eq_true hd⟩
def G4 (x:TT):Nat:=(BJ x).length
def szs (l:List TT):Nat:=(l.map G4).sum
theorem LY:∀(off:Nat) (T:List (List Nd)),(G2 off T).length=(T.map List.length).sum
 |_,[]=>rfl
 |off,t::ts=>by simp only[G2,List.length_append,List.length_map,LY (off+t.length) ts,List.map_cons,List.sum_cons]
theorem PA (n:Nd) (ks:List TT):G4 (.mk n ks)=szs ks+1:=by
 unfold G4 szs;rw[G5,List.length_append,LY,List.map_map];rfl
theorem NR (x:TT) (l:List TT):szs (x::l)=G4 x+szs l:=by simp[szs]
theorem XO (a b:List TT):szs (a++b)=szs a+szs b:=by simp[szs]
theorem KH {f:TT->List TT}:∀(l:List TT),(∀x∈l,szs (f x)<=G4 x)->szs (l.flatMap f)<=szs l
 |[],_=>Nat.le_refl _
 |x::l,h=>by
  rw[List.flatMap_cons,XO,NR];have h1:=h x List.mem_cons_self;have h2:=KH l fun y hy=>h y (List.mem_cons_of_mem _ hy)
  omega
theorem VT (x:TT):szs [x]=G4 x:=by simp[szs]
theorem Sf (kind:Int) (x:TT):szs (CU kind x)<=G4 x:=by
 induction x using TT.ind with
 |h n ks ih=>
  rw[Jz];split
  ·have:=KH ks ih;rw[PA];omega
  ·split
   ·exact Nat.zero_le _
   ·rw[VT];exact Nat.le_refl _
theorem Nn (n none:Nd) (l:List TT):G4 (CQ n none l)<=szs l+1:=by
 match l with
 |[]=>rw[CQ,PA];exact Nat.le_refl _
 |[x]=>rw[CQ,VT];omega
 |x::y::l=>rw[CQ,PA];exact Nat.le_refl _
theorem VU {f:TT->TT}:∀(l:List TT),(∀x∈l,G4 (f x)<=G4 x)->szs (l.map f)<=szs l
 |[],_=>Nat.le_refl _
 |x::l,h=>by
  rw[List.map_cons,NR,NR];have h1:=h x List.mem_cons_self;have h2:=VU l fun y hy=>h y (List.mem_cons_of_mem _ hy)
  omega
theorem Sh (x:TT):G4 (Bo x)<=G4 x:=by
 induction x using TT.ind with
 |h n ks ih=>
  have hm:=VU ks ih;rw[J0,PA];unfold KL;split
  ·have h1:=Nn n Bi ((ks.map Bo).flatMap (CU 4));have h2:=KH (ks.map Bo) fun x _=>Sf 4 x
   omega
  split
  ·have h1:=Nn n KJ ((ks.map Bo).flatMap (CU 5));have h2:=KH (ks.map Bo) fun x _=>Sf 5 x
   omega
  ·rw[PA];omega
theorem XP {t:Tr} (h:Bv t):G4 (den t.nodes t.root.toNat)<=t.nodes.length:=by
 have hr:t.root.toNat<t.nodes.length:=by have:=h.1;omega
 unfold G4;rw[<-Ir (AE h) _ (EU h _ hr),DQ];exact CW h _ hr
end Go.Proofs.YtdnochjajoiooaaGreatDoor
