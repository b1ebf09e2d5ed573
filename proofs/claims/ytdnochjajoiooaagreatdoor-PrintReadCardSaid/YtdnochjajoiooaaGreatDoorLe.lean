/- The contracts of quote.escapes, and of a reader's fail, next, sees. The contract of quote.escapes. -/
import Derived.Test.YtdnochjajoiooaaGreatDoorLa
import Derived.Test.YtdnochjajoiooaaGreatDoorLb
import Derived.Deep.RegionHeld3
import Derived.Deep.QuietTactic
import Derived.BigQuiet
import Derived.StillTailTactics
import Derived.Deep.DeepCutAuto
import Derived.Deep.Cut
import Derived.Deep.CutRange
namespace Go.Proofs.YtdnochjajoiooaaGreatDoor
open Go.RowKit
set_option linter.unusedSimpArgs false
set_option linter.unusedVariables false
abbrev Es (t left:ByteArray) (en:UInt8) (m:Nat) (a e:Int):Array Value:= #[.string t,.string left,u8V en,.map (some m),.int .i64 a,.int .i64 e]
def RD (w:World) (r:Nat) (t left:ByteArray) (en:UInt8) (m:Nat) (a e:Int):Prop:=w.heap[r]?=some (.cells (Es t left en m a e) 183 (0,0))
theorem RD.cells {w:World} {r:Nat} {t left:ByteArray} {en:UInt8} {m:Nat} {a e:Int} (h:RD w r t left en m a e):
  w.cell? ⟨r,0,none⟩=some (.string t)/\w.cell? ⟨r,1,none⟩=some (.string left)/\w.cell? ⟨r,2,none⟩=some (u8V en)/\w.cell? ⟨r,3,none⟩=some (.map (some m))/\w.cell? ⟨r,4,none⟩=some (.int .i64 a)/\w.cell? ⟨r,5,none⟩=some (.int .i64 e) /\
  w.frozen? ⟨r,4,none⟩=false/\w.frozen? ⟨r,5,none⟩=false:=by
 simp[World.cell?,World.frozen?,show w.heap[r]?=_ from h]
theorem RD.lt {w:World} {r:Nat} {t left:ByteArray} {en:UInt8} {m:Nat} {a e:Int} (h:RD w r t left en m a e):r<w.heap.size:=(Array.getElem?_eq_some_iff.1 h).1
theorem RD.kept {w w':World} {r:Nat} {t left:ByteArray} {en:UInt8} {m:Nat} {a e:Int} {row:Option Nat} (h:RD w r t left en m a e) (hg:w.grownBy w' row) (hne:some r≠row):RD w' r t left en m a e:=
 (hg.block r h.lt hne).trans h
theorem RD.below {w w':World} {r:Nat} {t left:ByteArray} {en:UInt8} {m:Nat} {a e:Int} (h:RD w r t left en m a e) (hb:Below w.heap.size w w'):RD w' r t left en m a e:=(hb.block r h.lt).trans h
theorem RD.setAt {w:World} {r:Nat} {t left:ByteArray} {en:UInt8} {m:Nat} {a e:Int} (h:RD w r t left en m a e) (k:Int):RD (w.setCell ⟨r,4,none⟩ (.int .i64 k)) r t left en m k e:=by
 have:=heap_setCell_same w r 4 _ 183 (.int .i64 k) h;simpa[RD]using this
theorem RD.setE {w:World} {r:Nat} {t left:ByteArray} {en:UInt8} {m:Nat} {a e:Int} (h:RD w r t left en m a e) (k:Int):RD (w.setCell ⟨r,5,none⟩ (.int .i64 k)) r t left en m a k:=by
 have:=heap_setCell_same w r 5 _ 183 (.int .i64 k) h;simpa[RD]using this
theorem Jc (w:World) (row:Option Nat):w.grownBy w.drew row:=⟨rfl,rfl,rfl,Nat.le_refl _,fun _ _ _=>rfl⟩
theorem BU (w:World) (r i:Nat) (v:Value):w.grownBy (w.setCell ⟨r,i,none⟩ v) (some r):=
 ⟨rfl,rfl,rfl,by show w.heap.size<=(w.heap.modify _ _).size;simp,fun k _ hk=>Below.heap_setCell _ _ _ k (fun e=>hk (by rw[e]))⟩
theorem GV (w:World) (n:Nat) (row:Option Nat):w.grownBy (w.drewN n) row:=⟨rfl,rfl,rfl,Nat.le_refl _,fun _ _ _=>rfl⟩
set_option maxRecDepth 100000 in
set_option maxHeartbeats 1000000 in
theorem GW (r:Nat) (t left:ByteArray) (en:UInt8) (m:Nat) (a e k:Int) (w:World) (h:RD w r t left en m a e):
  Calls Tryz.prog 123 #[.pointer (some ⟨r,0,none⟩),.int .i64 k] w fun en' w'=>en'=.returned (.tuple #[])/\RD w' r t left en m k 4/\w.grownBy w' (some r):=by
 have HR:=qd h;obtain⟨c0,c1,c2,c3,c4,c5,f4,f5⟩:=h.cells;go_enter Tryz.func123,Tryz.ntmps123
 clear h;go_wp2_with fail
 refine bodyPost_end (v:=.tuple #[]) (by simp[results,Tryz.results123]) rfl ?_;exact⟨rfl,(HR.out.setAt k).setE 4,(BU _ _ _ _).trans (BU _ _ _ _)⟩
set_option maxRecDepth 100000 in
set_option maxHeartbeats 1000000 in
theorem BA (r:Nat) (t left:ByteArray) (en:UInt8) (m a:Nat) (e:Int) (w:World) (h:RD w r t left en m (a:Int) e) (ha:a<t.size) (hs:t.size<=1000000):
  Calls Tryz.prog 130 #[.pointer (some ⟨r,0,none⟩)] w fun en' w'=>en'=.returned (.tuple #[u8V t[a],.bool true])/\RD w' r t left en m ((a+1:Nat):Int) e/\w.grownBy w' (some r):=by
 have HR:=qd h;obtain⟨c0,c1,c2,c3,c4,c5,f4,f5⟩:=h.cells;go_enter Tryz.func130,Tryz.ntmps130
 clear h;have i1:¬(t.size:Int)<=(a:Int):=by omega
 have i2:(0:Int)<=(a:Int):=by omega
 have i3:(a:Int)<(t.size:Int):=by omega
 go_wp2_with fail
 go_quiet (fail)
 go_wp2_with fail
 have h1:RD ((w.drewN nq).setCell ⟨r,4,none⟩ (.int .i64 ((a:Int)+1))) r t left en m ((a:Int)+1) e:=(HR.out.kept (GV w nq none) (by simp)).setAt _;have HG:=qd (show w.grownBy ((w.drewN nq).setCell ⟨r,4,none⟩ (.int .i64 ((a:Int)+1))) (some r)from(GV _ _ _).trans (BU _ _ _ _));generalize (w.drewN nq).setCell ⟨r,4,none⟩ (.int .i64 ((a:Int)+1))=W1 at *;clear c0 c1 c2 c3 c4 c5 f4 f5 HR;have HR:=qd h1;obtain⟨c0,c1,c2,c3,c4,c5,f4,f5⟩:=h1.cells;clear h1;go_quiet (fail)
 go_wp2_with fail
 refine bodyPost_ret (v:=.tuple #[u8V t[a],.bool true]) (by simp[results,Tryz.results130,go_sem]) rfl ?_;exact⟨rfl,by rw[show((a+1:Nat):Int)=(a:Int)+1 by omega];exact HR.out.kept (GV _ _ none) (by simp),HG.out.trans (GV _ _ _)⟩
set_option maxRecDepth 100000 in
set_option maxHeartbeats 1000000 in
theorem Hu (r:Nat) (t left:ByteArray) (en:UInt8) (m a:Nat) (e:Int) (w:World) (h:RD w r t left en m (a:Int) e) (ha:¬a<t.size) (hs:t.size<=1000000):
  Calls Tryz.prog 130 #[.pointer (some ⟨r,0,none⟩)] w fun en' w'=>en'=.returned (.tuple #[.int .u8 0,.bool false])/\RD w' r t left en m (t.size:Int) 8/\w.grownBy w' (some r):=by
 have HR:=qd h;obtain⟨c0,c1,c2,c3,c4,c5,f4,f5⟩:=h.cells;go_enter Tryz.func130,Tryz.ntmps130
 clear h;have i1:(t.size:Int)<=(a:Int):=by omega
 go_wp2_with fail
 go_quiet (fail)
 go_wp2_with fail
 refine bodyPost_ret (v:=.tuple #[.int .u8 0,.bool false]) (by simp[results,Tryz.results130,go_sem]) rfl ?_;exact⟨rfl,((HR.out.kept (GV w _ none) (by simp)).setAt _).setE 8,((GV _ _ _).trans (BU _ _ _ _)).trans (BU _ _ _ _)⟩
set_option maxRecDepth 100000 in
set_option maxHeartbeats 1000000 in
theorem Fq (r:Nat) (t left:ByteArray) (en:UInt8) (m a:Nat) (e:Int) (b:UInt8) (w:World) (h:RD w r t left en m (a:Int) e) (hs:t.size<=1000000):
  Calls Tryz.prog 121 #[.pointer (some ⟨r,0,none⟩),u8V b] w fun en' w'=>en'=.returned (.bool (decide (t.data.toList[a]?=some b)))/\w.grownBy w' none:=by
 have HR:=qd h;obtain⟨c0,c1,c2,c3,c4,c5,f4,f5⟩:=h.cells;clear h;by_cases ha:a<t.size
 ·have hq:decide (t.data.toList[a]?=some b)=(((t[a].toNat:Int))==((b.toNat:Int))):=by
   rw[Bool.eq_iff_iff,decide_eq_true_eq,beq_iff_eq,Lib.data_getElem? t a ha,Option.some.injEq,<-UInt8.toNat_inj];omega
  rw[hq];go_enter Tryz.func121,Tryz.ntmps121
  have i1:(a:Int)<(t.size:Int):=by omega
  have i2:(0:Int)<=(a:Int):=by omega
  go_wp2_with fail
  go_quiet (fail)
  go_wp2_with fail
  go_ret;exact⟨rfl,GV _ _ _⟩
 ·have hq:decide (t.data.toList[a]?=some b)=false:=by
   rw[List.getElem?_eq_none (by have:=Ar t;omega)];rfl
  rw[hq];go_enter Tryz.func121,Tryz.ntmps121
  have i1:¬(a:Int)<(t.size:Int):=by omega
  go_wp2_with fail
  go_quiet (fail)
  go_wp2_with fail
  go_ret;exact⟨rfl,GV _ _ _⟩
def Gs (left:List UInt8):UInt8->Option Value:=fun c=>(DF left c).map u8V
theorem Tn (l:List UInt8) (x c:UInt8):Gs (l++[x]) c=if c=x then some (u8V x)else Gs l c:=by
 unfold Gs DF;by_cases h:c=x
 ·subst h;simp
 ·by_cases h2:c∈l <;> simp[h,h2]
theorem Vb (c:UInt8):(if c=92 then some (.int .u8 92)else if c=116 then some (.int .u8 9)else if c=114 then some (.int .u8 13)else if c=110 then some (.int .u8 10)else none:Option Value)=Gs [] c:=by
 unfold Gs DF;by_cases h1:c=92
 ·subst h1;rfl
 by_cases h2:c=116
 ·subst h2;rfl
 by_cases h3:c=114
 ·subst h3;rfl
 by_cases h4:c=110
 ·subst h4;rfl
 simp[h1,h2,h3,h4]
def RB (n:Nat) (f:UInt8->Option Value) (w:World) (e:Ending) (w':World):Prop:=∃b,e=.returned (.map (some b))/\BMap w' b n f/\Below w.heap.size w w'/\w.heap.size<=b
theorem Jd {w w':World} {o:Obj} (h:(w.alloc o).grownBy w' (some w.heap.size)):Below w.heap.size w w':=((Below.refl _ w).alloc (Nat.le_refl _) o).grown h (by simp) (fun k hk=>by cases hk;exact Nat.le_refl _)
set_option maxRecDepth 100000 in
set_option maxHeartbeats 1000000 in
theorem GX (left:ByteArray) (w:World) (hs:left.size<=1000):
  Calls Tryz.prog 129 #[.string left] w (RB 1004 (Gs left.data.toList) w):=by
 have hmm:=@run_makeMap Tryz.prog;unfold RB;have HM0:=qd (BMap.made w);go_enter Tryz.func129,Tryz.ntmps129
 go_wp2_with (first
  |(refine Bj rfl _ _ _ _ rfl 5 Tryz.underlying181 _ _ _ rfl HM0.out (by decide) 110 _ rfl rfl (.int .u8 10) rfl ?_;intro w1 HM1 HG1)
  |(refine Bj rfl _ _ _ _ rfl 5 Tryz.underlying181 _ _ _ rfl HM1.out (by decide) 114 _ rfl rfl (.int .u8 13) rfl ?_;intro w2 HM2 HG2)
  |(refine Bj rfl _ _ _ _ rfl 5 Tryz.underlying181 _ _ _ rfl HM2.out (by decide) 116 _ rfl rfl (.int .u8 9) rfl ?_;intro w3 HM3 HG3)
  |(refine Bj rfl _ _ _ _ rfl 5 Tryz.underlying181 _ _ _ rfl HM3.out (by decide) 92 _ rfl rfl (.int .u8 92) rfl ?_;intro w4 HM4 HG4)
  |fail)
 have HB:=qd ((HM4.out.ext Vb).mono (show 0+1+1+1+1<=4+0 by decide));have HG:=qd (((HG1.out.trans HG2.out).trans HG3.out).trans HG4.out);clear HM0 HM1 HM2 HM3 HM4 HG1 HG2 HG3 HG4;go_loopw [4] (fun i wr=>∃k:Nat,k<=left.size/\i=.int .i64 k/\Hid (BMap wr w.heap.size (4+k) (Gs (left.data.toList.take k)))/\Hid ((w.alloc (.map #[] 0)).grownBy wr (some w.heap.size))) (fun i _=>left.size-(intOf i).toNat)
 case atStart=>exact⟨0,Nat.zero_le _,rfl,by simpa using HB,HG⟩
 case round=>
  clear HB HG;obtain⟨k,hk,rfl,HB,HG⟩:=hrel;by_cases hlt:k<left.size
  ·have i1:(k:Int)<(left.size:Int):=by omega
   have i2:(0:Int)<=(k:Int):=by omega
   go_upto_region 5 with(fail)
   go_still_tail 7,(by kernel_rfl)
   change wpList _ _ _ _ _ wr.drew;have HBD:=qd (HB.out.kept (Jc wr none) (by simp));have HTK:=qd (Hy left k hlt);refine Ea rfl _ _ _ _ rfl 5 Tryz.underlying181 _ _ _ rfl HBD.out (by unfold maxLen;omega) left[k] _ rfl rfl (u8V left[k]) rfl ?_;intro w5 HB5 HG5;have HB6:=qd ((HB5.out.ext (fun c=>(Tn _ _ _).symm)));have HG6:=qd ((HG.out.trans (Jc wr _)).trans HG5.out);clear HB HG HBD HB5 HG5;go_wp2_with fail
   exact⟨⟨k+1,by omega,by go_num,by rw[HTK.out];exact HB6,HG6⟩,by simp only[intOf];omega⟩
  ·obtain rfl:k=left.size:=by omega
   go_wp2_with fail
   go_ret
   exact⟨_,rfl,(by
    have h:=HB.out;rw[LH _ _ (Nat.le_refl _)]at h;exact h.mono (by omega)),Jd HG.out,Nat.le_refl _⟩
end Go.Proofs.YtdnochjajoiooaaGreatDoor
