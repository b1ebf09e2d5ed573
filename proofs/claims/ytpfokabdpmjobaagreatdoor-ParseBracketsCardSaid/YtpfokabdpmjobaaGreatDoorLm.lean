/- The contracts of what reads a word that begins by a certain byte: lex.sign, less, named, dot. -/
import Derived.Test.YtpfokabdpmjobaaGreatDoorNa
import Derived.Test.YtpfokabdpmjobaaGreatDoorLa
import Derived.Test.YtpfokabdpmjobaaGreatDoorLk
namespace Go.Proofs.YtpfokabdpmjobaaGreatDoor
open Go.RowKit
set_option linter.unusedSimpArgs false
set_option linter.unusedVariables false
abbrev wdC (x:Wd):Array Value:= #[.int .u8 (x.kind:Int),.int .i64 (x.frm:Int),.int .i64 (x.til:Int),.string ⟨x.text.toArray⟩,.int .u64 (x.s0:Int),.int .u64 (x.s1:Int),.int .u64 (x.s2:Int),.int .u64 (x.s3:Int),.int .i64 x.low,.int .i64 x.high]
abbrev wdV (x:Wd):Value:=.agg (wdC x)
def ReadPost (s:List UInt8) (a:Nat) (w:World) (e:Ending) (w':World):Prop:=
 ∃x ok,e=.returned (.tuple #[wdV x,.bool ok])∧(ok=true→wordL s a=some x)∧(ok=false→wordL s a=none)∧Below w.heap.size w w'
theorem blk10 {w:World} {b:Nat} {v0 v1 v2 v3 v4 v5 v6 v7 v8 v9:Value} {T:TypeId} (h:w.heap[b]?=some (.cells #[v0,v1,v2,v3,v4,v5,v6,v7,v8,v9] T (0,0))):
  w.cell? ⟨b,0,none⟩=some v0∧w.cell? ⟨b,1,none⟩=some v1∧w.cell? ⟨b,2,none⟩=some v2∧w.cell? ⟨b,3,none⟩=some v3∧w.cell? ⟨b,4,none⟩=some v4∧w.cell? ⟨b,5,none⟩=some v5∧w.cell? ⟨b,6,none⟩=some v6∧w.cell? ⟨b,7,none⟩=some v7∧w.cell? ⟨b,8,none⟩=some v8∧w.cell? ⟨b,9,none⟩=some v9∧(∀i,w.frozen? ⟨b,i,none⟩=false):=by
 simp[World.cell?,World.frozen?,h]
abbrev putW (W:World) (b:Nat) (y0 y1 y2 y3 y4 y5 y6 y7 y8 y9:Value):World:=(((((((((W.setCell ⟨b,0,none⟩ y0).setCell ⟨b,1,none⟩ y1).setCell ⟨b,2,none⟩ y2).setCell ⟨b,3,none⟩ y3).setCell ⟨b,4,none⟩ y4).setCell ⟨b,5,none⟩ y5).setCell ⟨b,6,none⟩ y6).setCell ⟨b,7,none⟩ y7).setCell ⟨b,8,none⟩ y8).setCell ⟨b,9,none⟩ y9
theorem putW_blk {W:World} {b:Nat} {T:TypeId} {x0 x1 x2 x3 x4 x5 x6 x7 x8 x9:Value} (h:W.heap[b]?=some (.cells #[x0,x1,x2,x3,x4,x5,x6,x7,x8,x9] T (0,0))) (y0 y1 y2 y3 y4 y5 y6 y7 y8 y9:Value):(putW W b y0 y1 y2 y3 y4 y5 y6 y7 y8 y9).heap[b]?=some (.cells #[y0,y1,y2,y3,y4,y5,y6,y7,y8,y9] T (0,0)):=by
 have e0:(W.setCell ⟨b,0,none⟩ y0).heap[b]?=some (.cells #[y0,x1,x2,x3,x4,x5,x6,x7,x8,x9] T (0,0)):=heap_setCell_same _ b 0 _ T y0 h
 have e1:((W.setCell ⟨b,0,none⟩ y0).setCell ⟨b,1,none⟩ y1).heap[b]?=some (.cells #[y0,y1,x2,x3,x4,x5,x6,x7,x8,x9] T (0,0)):=heap_setCell_same _ b 1 _ T y1 e0
 have e2:(((W.setCell ⟨b,0,none⟩ y0).setCell ⟨b,1,none⟩ y1).setCell ⟨b,2,none⟩ y2).heap[b]?=some (.cells #[y0,y1,y2,x3,x4,x5,x6,x7,x8,x9] T (0,0)):=heap_setCell_same _ b 2 _ T y2 e1
 have e3:((((W.setCell ⟨b,0,none⟩ y0).setCell ⟨b,1,none⟩ y1).setCell ⟨b,2,none⟩ y2).setCell ⟨b,3,none⟩ y3).heap[b]?=some (.cells #[y0,y1,y2,y3,x4,x5,x6,x7,x8,x9] T (0,0)):=heap_setCell_same _ b 3 _ T y3 e2
 have e4:(((((W.setCell ⟨b,0,none⟩ y0).setCell ⟨b,1,none⟩ y1).setCell ⟨b,2,none⟩ y2).setCell ⟨b,3,none⟩ y3).setCell ⟨b,4,none⟩ y4).heap[b]?=some (.cells #[y0,y1,y2,y3,y4,x5,x6,x7,x8,x9] T (0,0)):=heap_setCell_same _ b 4 _ T y4 e3
 have e5:((((((W.setCell ⟨b,0,none⟩ y0).setCell ⟨b,1,none⟩ y1).setCell ⟨b,2,none⟩ y2).setCell ⟨b,3,none⟩ y3).setCell ⟨b,4,none⟩ y4).setCell ⟨b,5,none⟩ y5).heap[b]?=some (.cells #[y0,y1,y2,y3,y4,y5,x6,x7,x8,x9] T (0,0)):=heap_setCell_same _ b 5 _ T y5 e4
 have e6:(((((((W.setCell ⟨b,0,none⟩ y0).setCell ⟨b,1,none⟩ y1).setCell ⟨b,2,none⟩ y2).setCell ⟨b,3,none⟩ y3).setCell ⟨b,4,none⟩ y4).setCell ⟨b,5,none⟩ y5).setCell ⟨b,6,none⟩ y6).heap[b]?=some (.cells #[y0,y1,y2,y3,y4,y5,y6,x7,x8,x9] T (0,0)):=heap_setCell_same _ b 6 _ T y6 e5
 have e7:((((((((W.setCell ⟨b,0,none⟩ y0).setCell ⟨b,1,none⟩ y1).setCell ⟨b,2,none⟩ y2).setCell ⟨b,3,none⟩ y3).setCell ⟨b,4,none⟩ y4).setCell ⟨b,5,none⟩ y5).setCell ⟨b,6,none⟩ y6).setCell ⟨b,7,none⟩ y7).heap[b]?=some (.cells #[y0,y1,y2,y3,y4,y5,y6,y7,x8,x9] T (0,0)):=heap_setCell_same _ b 7 _ T y7 e6
 have e8:(((((((((W.setCell ⟨b,0,none⟩ y0).setCell ⟨b,1,none⟩ y1).setCell ⟨b,2,none⟩ y2).setCell ⟨b,3,none⟩ y3).setCell ⟨b,4,none⟩ y4).setCell ⟨b,5,none⟩ y5).setCell ⟨b,6,none⟩ y6).setCell ⟨b,7,none⟩ y7).setCell ⟨b,8,none⟩ y8).heap[b]?=some (.cells #[y0,y1,y2,y3,y4,y5,y6,y7,y8,x9] T (0,0)):=heap_setCell_same _ b 8 _ T y8 e7
 have e9:((((((((((W.setCell ⟨b,0,none⟩ y0).setCell ⟨b,1,none⟩ y1).setCell ⟨b,2,none⟩ y2).setCell ⟨b,3,none⟩ y3).setCell ⟨b,4,none⟩ y4).setCell ⟨b,5,none⟩ y5).setCell ⟨b,6,none⟩ y6).setCell ⟨b,7,none⟩ y7).setCell ⟨b,8,none⟩ y8).setCell ⟨b,9,none⟩ y9).heap[b]?=some (.cells #[y0,y1,y2,y3,y4,y5,y6,y7,y8,y9] T (0,0)):=heap_setCell_same _ b 9 _ T y9 e8
 exact e9
theorem putW_below {n:Nat} {w W:World} (h:Below n w W) {b:Nat} (hb:n≤b) (y0 y1 y2 y3 y4 y5 y6 y7 y8 y9:Value):Below n w (putW W b y0 y1 y2 y3 y4 y5 y6 y7 y8 y9):=
 (((((((((h.setCell (p:=⟨b,0,none⟩) hb _).setCell (p:=⟨b,1,none⟩) hb _).setCell (p:=⟨b,2,none⟩) hb _).setCell (p:=⟨b,3,none⟩) hb _).setCell (p:=⟨b,4,none⟩) hb _).setCell (p:=⟨b,5,none⟩) hb _).setCell (p:=⟨b,6,none⟩) hb _).setCell (p:=⟨b,7,none⟩) hb _).setCell (p:=⟨b,8,none⟩) hb _).setCell (p:=⟨b,9,none⟩) hb _
theorem wordL_of {s:List UInt8} {a:Nat} {x:Wd} (h:headW (s.drop a)=some x):wordL s a=some {x with frm:=a,til:=a+x.til}:=by unfold wordL;rw[h];rfl
theorem wordL_none {s:List UInt8} {a:Nat} (h:headW (s.drop a)=none):wordL s a=none:=by unfold wordL;rw[h];rfl
theorem drop_first {s:List UInt8} {a:Nat}:(s.drop a)[0]?=s[a]? :=by rw[List.getElem?_drop];simp
theorem cut_data (s:ByteArray) (a:Nat) (ha:a≤s.size):(s.extract a s.size).data.toList=s.data.toList.drop a:=by
 have h:(s.extract a s.size).data=s.data.extract a s.size:=by simp
 rw[h]
 simp
 rw[List.take_of_length_le]
 simp[sz_data]
set_option maxRecDepth 100000 in
set_option maxHeartbeats 1000000 in
theorem sign1_any (s:ByteArray) (a kind B:Nat) (w:World) (hb:w.cell? ⟨B,0,none⟩=some (.int .u8 (kind:Int))) (ha:a<s.size) (hs:s.size≤1000000) (hk:∃c,s.data.toList[a]?=some c∧signK c=some kind):
  Calls Tryz.prog 121 #[.string s,.int .i64 (a:Int),.pointer (some ⟨B,0,none⟩)] w (ReadPost s.data.toList a w):=by
 have hlt:=cellLt hb
 have hb2:(w.alloc (.cells #[.int .u8 0,.int .i64 0,.int .i64 0,.string ⟨#[]⟩,.int .u64 0,.int .u64 0,.int .u64 0,.int .u64 0,.int .i64 0,.int .i64 0] 32)).cell? ⟨B,0,none⟩=some (.int .u8 (kind:Int)):=(World.grownBy_alloc w _ none).cell hb (by simp)
 go_enter Tryz.func121,Tryz.ntmps121
 go_wp2_with fail
 have e0:=bx_new w (.cells #[.int .u8 (kind:Int),.int .i64 (a:Int),.int .i64 ((a:Int)+1),.string ⟨#[]⟩,.int .u64 0,.int .u64 0,.int .u64 0,.int .u64 0,.int .i64 0,.int .i64 0] 32)
 obtain⟨t0,t1,t2,t3,t4,t5,t6,t7,t8,t9,_⟩:=blk10 e0
 refine bodyPost_ret (v:=.tuple #[.agg #[.int .u8 (kind:Int),.int .i64 (a:Int),.int .i64 ((a:Int)+1),.string ⟨#[]⟩,.int .u64 0,.int .u64 0,.int .u64 0,.int .u64 0,.int .i64 0,.int .i64 0],.bool true]) (by simp[results,Tryz.results121,go_sem,t0,t1,t2,t3,t4,t5,t6,t7,t8,t9]) rfl ?_
 obtain⟨c,h1,h2⟩:=hk
 refine⟨⟨kind,a,a+1,[],0,0,0,0,0,0⟩,true,rfl,fun _=> ?_,fun h=>(by cases h),bx1 w _⟩
 have h3:headW (s.data.toList.drop a)=some ⟨kind,0,1,[],0,0,0,0,0,0⟩:=by
  unfold headW
  rw[drop_first,h1]
  simp only
  unfold signK at h2
  have h4:isLetter c.toNat=false∧c≠123∧c≠34∧c≠91∧c≠46∧c≠60:=by
   split at h2
   ·rename_i h;subst h;decide
   split at h2
   ·rename_i h;subst h;decide
   split at h2
   ·rename_i h;subst h;decide
   split at h2
   ·rename_i h;subst h;decide
   split at h2
   ·rename_i h;subst h;decide
   split at h2
   ·rename_i h;subst h;decide
   split at h2
   ·rename_i h;subst h;decide
   split at h2
   ·rename_i h;subst h;decide
   split at h2
   ·rename_i h;subst h;decide
   split at h2
   ·rename_i h;subst h;decide
   ·cases h2
  rw[if_neg (by simp[h4.1]),if_neg h4.2.1,if_neg h4.2.2.1,if_neg h4.2.2.2.1,if_neg h4.2.2.2.2.1,if_neg h4.2.2.2.2.2]
  show(signK c).map _=_
  unfold signK
  rw[h2];rfl
 rw[wordL_of h3]
theorem arrow_yes {l:List UInt8} (h:l[0]?=some 60) (h2:l[1]?=some 45):Lib.hasPrefix l [60,45]=true:=by
 cases l with
 |nil=>simp at h
 |cons a l=>cases l with
  |nil=>simp at h2
  |cons b l=>simp at h h2;subst h h2;simp[Lib.hasPrefix]
theorem arrow_no {l:List UInt8} (h2:l[1]? ≠ some 45):Lib.hasPrefix l [60,45]=false:=by
 cases l with
 |nil=>rfl
 |cons a l=>cases l with
  |nil=>show((60==a)&&false)=false;simp
  |cons b l=>
   show((60==a)&&((45==b)&&true))=false
   have:((45:UInt8)==b)=false:=by
    rw[beq_eq_false_iff_ne];intro e;exact h2 (by rw[←e];rfl)
   rw[this];simp
theorem sign_fn (kind:Int) (w:World):Calls Tryz.prog 99 #[.int .u8 kind] w fun e w'=>e=.returned (.func (.func 121) #[] #[.pointer (some ⟨w.heap.size,0,none⟩)])∧w'=w.alloc (.cells #[.int .u8 kind] 5):=by
 go_enter Tryz.func99,Tryz.ntmps99
 go_wp2_with fail
 go_ret
 exact⟨rfl,rfl⟩
set_option maxRecDepth 100000 in
set_option maxHeartbeats 1000000 in
theorem less_any (s:ByteArray) (a:Nat) (w:World) (ha:a<s.size) (hs:s.size≤1000000) (hk:s.data.toList[a]?=some 60):
  Calls Tryz.prog 100 #[.string s,.int .i64 (a:Int)] w (ReadPost s.data.toList a w):=by
 have hd:=cut_data s a (by omega)
 have i1:(0:Int)≤(a:Int):=by omega
 have i2:(a:Int)≤(s.size:Int):=by omega
 go_enter Tryz.func100,Tryz.ntmps100
 have h60:headW (s.data.toList.drop a)=if (s.data.toList.drop a)[1]?=some 45 then some ⟨2,0,2,[],0,0,0,0,0,0⟩else some ⟨11,0,1,[],0,0,0,0,0,0⟩:=by
  unfold headW
  rw[drop_first,hk]
  rfl
 by_cases h45:(s.data.toList.drop a)[1]?=some 45
 ·have hp:Lib.hasPrefix (s.extract a s.size).data.toList [60,45]=true:=by rw[hd];exact arrow_yes (by rw[drop_first];exact hk) h45
  rw[if_pos h45]at h60
  have HP:=Lib.hid hp;have HH:=Lib.hid h60
  clear hp h60 h45 hd
  go_wp2_with (first|(go_at_call 122;refine(Tryz.strings_HasPrefix _ _ _).mono ?_;rintro e w' ⟨rfl,rfl⟩;rw[show Lib.hasPrefix (s.extract a s.size).data.toList (⟨#[60,45]⟩:ByteArray).data.toList=true from HP.out]))
  have e0:=bx_new w (.cells #[.int .u8 2,.int .i64 (a:Int),.int .i64 ((a:Int)+2),.string ⟨#[]⟩,.int .u64 0,.int .u64 0,.int .u64 0,.int .u64 0,.int .i64 0,.int .i64 0] 32)
  obtain⟨t0,t1,t2,t3,t4,t5,t6,t7,t8,t9,_⟩:=blk10 e0
  refine bodyPost_ret (v:=.tuple #[.agg #[.int .u8 2,.int .i64 (a:Int),.int .i64 ((a:Int)+2),.string ⟨#[]⟩,.int .u64 0,.int .u64 0,.int .u64 0,.int .u64 0,.int .i64 0,.int .i64 0],.bool true]) (by simp[results,Tryz.results100,go_sem,t0,t1,t2,t3,t4,t5,t6,t7,t8,t9]) rfl ?_
  exact⟨⟨2,a,a+2,[],0,0,0,0,0,0⟩,true,rfl,fun _=>(by rw[wordL_of HH.out]),fun h=>(by cases h),bx1 w _⟩
 ·have hp:Lib.hasPrefix (s.extract a s.size).data.toList [60,45]=false:=by rw[hd];exact arrow_no h45
  rw[if_neg h45]at h60
  have HP:=Lib.hid hp;have HH:=Lib.hid h60
  clear hp h60 h45 hd
  go_wp2_with (first|(go_at_call 122;refine(Tryz.strings_HasPrefix _ _ _).mono ?_;rintro e w' ⟨rfl,rfl⟩;rw[show Lib.hasPrefix (s.extract a s.size).data.toList (⟨#[60,45]⟩:ByteArray).data.toList=false from HP.out]))
  have e0:=bx_new w (.cells #[.int .u8 11,.int .i64 (a:Int),.int .i64 ((a:Int)+1),.string ⟨#[]⟩,.int .u64 0,.int .u64 0,.int .u64 0,.int .u64 0,.int .i64 0,.int .i64 0] 32)
  obtain⟨t0,t1,t2,t3,t4,t5,t6,t7,t8,t9,_⟩:=blk10 e0
  refine bodyPost_ret (v:=.tuple #[.agg #[.int .u8 11,.int .i64 (a:Int),.int .i64 ((a:Int)+1),.string ⟨#[]⟩,.int .u64 0,.int .u64 0,.int .u64 0,.int .u64 0,.int .i64 0,.int .i64 0],.bool true]) (by simp[results,Tryz.results100,go_sem,t0,t1,t2,t3,t4,t5,t6,t7,t8,t9]) rfl ?_
  exact⟨⟨11,a,a+1,[],0,0,0,0,0,0⟩,true,rfl,fun _=>(by rw[wordL_of HH.out]),fun h=>(by cases h),bx1 w _⟩
set_option maxRecDepth 100000 in
set_option maxHeartbeats 1000000 in
theorem dot_any (s:ByteArray) (a:Nat) (w:World) (ha:a<s.size) (hs:s.size≤1000000) (hk:s.data.toList[a]?=some 46):
  Calls Tryz.prog 98 #[.string s,.int .i64 (a:Int)] w (ReadPost s.data.toList a w):=by
 have HH:=Lib.hid (show headW (s.data.toList.drop a)=some ⟨16,0,1,[],fullN,fullN,fullN,fullN,0,0⟩from by unfold headW;rw[drop_first,hk];rfl)
 have HB0:=Lib.hid (bx1 w (.cells (wdC ⟨0,0,0,[],0,0,0,0,0,0⟩) 32))
 have HK0:=Lib.hid (bx_new w (.cells (wdC ⟨0,0,0,[],0,0,0,0,0,0⟩) 32))
 go_enter Tryz.func98,Tryz.ntmps98
 go_wp2_with (first|(go_at_call 32;refine(sall_any _).mono ?_;rintro e w1 ⟨rfl,hb⟩;have HK1:=Lib.hid (bx_kept hb HK0.out);have HB1:=Lib.hid (Below.step HB0.out hb);obtain⟨_,_,_,_,_,_,_,_,_,_,bf⟩:=blk10 HK1.out;have f0:=bf 0;have f1:=bf 1;have f2:=bf 2;have f3:=bf 3;have f4:=bf 4;have f5:=bf 5;have f6:=bf 6;have f7:=bf 7;have f8:=bf 8;have f9:=bf 9;clear bf hb;rw[setV_eq,wordF_full,wordF_full,wordF_full,wordF_full]))
 have e0:=putW_blk HK1.out (.int .u8 16) (.int .i64 (a:Int)) (.int .i64 ((a:Int)+1)) (.string ⟨#[]⟩) (.int .u64 18446744073709551615) (.int .u64 18446744073709551615) (.int .u64 18446744073709551615) (.int .u64 18446744073709551615) (.int .i64 0) (.int .i64 0)
 obtain⟨t0,t1,t2,t3,t4,t5,t6,t7,t8,t9,_⟩:=blk10 e0
 refine bodyPost_ret (v:=.tuple #[.agg #[.int .u8 16,.int .i64 (a:Int),.int .i64 ((a:Int)+1),.string ⟨#[]⟩,.int .u64 18446744073709551615,.int .u64 18446744073709551615,.int .u64 18446744073709551615,.int .u64 18446744073709551615,.int .i64 0,.int .i64 0],.bool true]) (by simp[results,Tryz.results98,go_sem,t0,t1,t2,t3,t4,t5,t6,t7,t8,t9]) rfl ?_
 exact⟨⟨16,a,a+1,[],fullN,fullN,fullN,fullN,0,0⟩,true,rfl,fun _=>(by rw[wordL_of HH.out]),fun h=>(by cases h),putW_below HB1.out (Nat.le_refl _) _ _ _ _ _ _ _ _ _ _⟩
set_option maxRecDepth 100000 in
set_option maxHeartbeats 1000000 in
theorem named_any (s:ByteArray) (a:Nat) (w:World) (ha:a<s.size) (hs:s.size≤1000000) (hk:∃c,s.data.toList[a]?=some c∧isLetter c.toNat=true):
  Calls Tryz.prog 101 #[.string s,.int .i64 (a:Int)] w (ReadPost s.data.toList a w):=by
 obtain⟨c,hc,hl⟩:=hk
 have hd:=cut_data s a (by omega)
 have hse:(s.extract a s.size).size≤s.size:=by simp[ByteArray.size_extract]
 have i1:(0:Int)≤(a:Int):=by omega
 have i2:(a:Int)≤(s.size:Int):=by omega
 have hh:headW (s.data.toList.drop a)=if (takeL (s.data.toList.drop a)).length≤32 then some ⟨1,0,(takeL (s.data.toList.drop a)).length,takeL (s.data.toList.drop a),0,0,0,0,0,0⟩else none:=by
  unfold headW
  rw[drop_first,hc]
  simp only[hl,if_true]
 have hne:takeL (s.data.toList.drop a)≠[]:=by
  have h1:(s.data.toList.drop a)[0]?=some c:=by rw[drop_first];exact hc
  cases he:s.data.toList.drop a with
  |nil=>rw[he]at h1;simp at h1
  |cons x r=>rw[he]at h1;simp at h1;subst h1;simp[takeL,hl]
 have HM:=Lib.hid (show mayL (takeL (s.data.toList.drop a))=decide ((takeL (s.data.toList.drop a)).length≤32)from by
  unfold mayL;rw[takeL_idem];simp[hne])
 have HH:=Lib.hid hh
 have HD:=Lib.hid hd
 have HB0:=Lib.hid (bx1 w (.cells (wdC ⟨0,0,0,[],0,0,0,0,0,0⟩) 32))
 have HK0:=Lib.hid (bx_new w (.cells (wdC ⟨0,0,0,[],0,0,0,0,0,0⟩) 32))
 clear hh hne hl hc hd
 go_enter Tryz.func101,Tryz.ntmps101
 go_wp2_with (first
  |(go_at_call 53;refine(take_any _ _ (by omega)).mono ?_;rintro e w1 ⟨n,rfl,hn,hb⟩;have HN:=Lib.hid (show n.data.toList=takeL (s.data.toList.drop a)from by rw[hn,HD.out]);have HB1:=Lib.hid (Below.step HB0.out hb);have HK1:=Lib.hid (bx_kept hb HK0.out);have hnz:n.size≤s.size:=(by have h1:=takeL_le (s.extract a s.size).data.toList;have h2:=sz_data n;have h3:=sz_data (s.extract a s.size);rw[←hn]at h1;omega);clear hn hb)
  |(go_at_call 20;refine(may_any n _ (by omega)).mono ?_;rintro e w2 ⟨rfl,hb⟩;have HK2:=Lib.hid (bx_kept hb HK1.out);have HB2:=Lib.hid (Below.step HB1.out hb);obtain⟨_,_,_,_,_,_,_,_,_,_,bf⟩:=blk10 HK2.out;have f0:=bf 0;have f1:=bf 1;have f2:=bf 2;have f3:=bf 3;have f4:=bf 4;have f5:=bf 5;have f6:=bf 6;have f7:=bf 7;have f8:=bf 8;have f9:=bf 9;clear bf hb)
  |fail)
 have HS:=Lib.hid (show(takeL (s.data.toList.drop a)).length=n.size from by rw[←HN.out,sz_data])
 rw[HN.out,HM.out,HS.out]
 have e0:=putW_blk HK2.out (.int .u8 1) (.int .i64 (a:Int)) (.int .i64 ((a:Int)+(n.size:Int))) (.string n) (.int .u64 0) (.int .u64 0) (.int .u64 0) (.int .u64 0) (.int .i64 0) (.int .i64 0)
 obtain⟨t0,t1,t2,t3,t4,t5,t6,t7,t8,t9,_⟩:=blk10 e0
 refine bodyPost_ret (v:=.tuple #[.agg #[.int .u8 1,.int .i64 (a:Int),.int .i64 ((a:Int)+(n.size:Int)),.string n,.int .u64 0,.int .u64 0,.int .u64 0,.int .u64 0,.int .i64 0,.int .i64 0],.bool (decide (n.size≤32))]) (by simp[results,Tryz.results101,go_sem,t0,t1,t2,t3,t4,t5,t6,t7,t8,t9]) rfl ?_
 have hh:=HH.out
 rw[HS.out]at hh
 refine⟨⟨1,a,a+n.size,n.data.toList,0,0,0,0,0,0⟩,decide (n.size≤32),?_,fun h=> ?_,fun h=> ?_,putW_below HB2.out (Nat.le_refl _) _ _ _ _ _ _ _ _ _ _⟩
 ·show _=Ending.returned (.tuple #[.agg #[_,_,_,.string ⟨n.data.toList.toArray⟩,_,_,_,_,_,_],_])
  rw[Lib.mk_data];rfl
 ·rw[if_pos (of_decide_eq_true h)]at hh
  rw[wordL_of hh,HN.out]
 ·rw[if_neg (of_decide_eq_false h)]at hh
  exact wordL_none hh
end Go.Proofs.YtpfokabdpmjobaaGreatDoor
