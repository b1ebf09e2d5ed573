/- The contracts of what reads a word that begins by a certain byte: lex.sign, less, named, dot. The contract of lex.skip. The contract of name.Num. -/
import Derived.Test.YtdnochjajoiooaaGreatDoorCu
import Derived.Test.YtdnochjajoiooaaGreatDoorLa
import Derived.Test.YtdnochjajoiooaaGreatDoorLk
import Derived.Deep.Cut
namespace Go.Proofs.YtdnochjajoiooaaGreatDoor
open Go.RowKit
set_option linter.unusedSimpArgs false
set_option linter.unusedVariables false
abbrev wdC (x:Wd):Array Value:= #[.int .u8 (x.kind:Int),.int .i64 (x.frm:Int),.int .i64 (x.til:Int),.string ⟨x.text.toArray⟩,.int .u64 (x.s0:Int),.int .u64 (x.s1:Int),.int .u64 (x.s2:Int),.int .u64 (x.s3:Int),.int .i64 x.low,.int .i64 x.high]
abbrev wdV (x:Wd):Value:=.agg (wdC x)
def ReadPost (s:List UInt8) (a:Nat) (w:World) (e:Ending) (w':World):Prop:=
 ∃x ok,e=.returned (.tuple #[wdV x,.bool ok])/\(ok=true->B9 s a=some x)/\(ok=false->B9 s a=none)/\Below w.heap.size w w'
theorem BB {w:World} {b:Nat} {v0 v1 v2 v3 v4 v5 v6 v7 v8 v9:Value} {T:TypeId} (h:w.heap[b]?=some (.cells #[v0,v1,v2,v3,v4,v5,v6,v7,v8,v9] T (0,0))):
  w.cell? ⟨b,0,none⟩=some v0/\w.cell? ⟨b,1,none⟩=some v1/\w.cell? ⟨b,2,none⟩=some v2/\w.cell? ⟨b,3,none⟩=some v3/\w.cell? ⟨b,4,none⟩=some v4/\w.cell? ⟨b,5,none⟩=some v5/\w.cell? ⟨b,6,none⟩=some v6/\w.cell? ⟨b,7,none⟩=some v7/\w.cell? ⟨b,8,none⟩=some v8/\w.cell? ⟨b,9,none⟩=some v9/\(∀i,w.frozen? ⟨b,i,none⟩=false):=by
 simp[World.cell?,World.frozen?,h]
abbrev Vw (W:World) (b:Nat) (y0 y1 y2 y3 y4 y5 y6 y7 y8 y9:Value):World:=(((((((((W.setCell ⟨b,0,none⟩ y0).setCell ⟨b,1,none⟩ y1).setCell ⟨b,2,none⟩ y2).setCell ⟨b,3,none⟩ y3).setCell ⟨b,4,none⟩ y4).setCell ⟨b,5,none⟩ y5).setCell ⟨b,6,none⟩ y6).setCell ⟨b,7,none⟩ y7).setCell ⟨b,8,none⟩ y8).setCell ⟨b,9,none⟩ y9
theorem CC {W:World} {b:Nat} {T:TypeId} {x0 x1 x2 x3 x4 x5 x6 x7 x8 x9:Value} (h:W.heap[b]?=some (.cells #[x0,x1,x2,x3,x4,x5,x6,x7,x8,x9] T (0,0))) (y0 y1 y2 y3 y4 y5 y6 y7 y8 y9:Value):(Vw W b y0 y1 y2 y3 y4 y5 y6 y7 y8 y9).heap[b]?=some (.cells #[y0,y1,y2,y3,y4,y5,y6,y7,y8,y9] T (0,0)):=by
 have e0:(W.setCell ⟨b,0,none⟩ y0).heap[b]?=some (.cells #[y0,x1,x2,x3,x4,x5,x6,x7,x8,x9] T (0,0)):=heap_setCell_same _ b 0 _ T y0 h;have e1:((W.setCell ⟨b,0,none⟩ y0).setCell ⟨b,1,none⟩ y1).heap[b]?=some (.cells #[y0,y1,x2,x3,x4,x5,x6,x7,x8,x9] T (0,0)):=heap_setCell_same _ b 1 _ T y1 e0;have e2:(((W.setCell ⟨b,0,none⟩ y0).setCell ⟨b,1,none⟩ y1).setCell ⟨b,2,none⟩ y2).heap[b]?=some (.cells #[y0,y1,y2,x3,x4,x5,x6,x7,x8,x9] T (0,0)):=heap_setCell_same _ b 2 _ T y2 e1;have e3:((((W.setCell ⟨b,0,none⟩ y0).setCell ⟨b,1,none⟩ y1).setCell ⟨b,2,none⟩ y2).setCell ⟨b,3,none⟩ y3).heap[b]?=some (.cells #[y0,y1,y2,y3,x4,x5,x6,x7,x8,x9] T (0,0)):=heap_setCell_same _ b 3 _ T y3 e2;have e4:(((((W.setCell ⟨b,0,none⟩ y0).setCell ⟨b,1,none⟩ y1).setCell ⟨b,2,none⟩ y2).setCell ⟨b,3,none⟩ y3).setCell ⟨b,4,none⟩ y4).heap[b]?=some (.cells #[y0,y1,y2,y3,y4,x5,x6,x7,x8,x9] T (0,0)):=heap_setCell_same _ b 4 _ T y4 e3;have e5:((((((W.setCell ⟨b,0,none⟩ y0).setCell ⟨b,1,none⟩ y1).setCell ⟨b,2,none⟩ y2).setCell ⟨b,3,none⟩ y3).setCell ⟨b,4,none⟩ y4).setCell ⟨b,5,none⟩ y5).heap[b]?=some (.cells #[y0,y1,y2,y3,y4,y5,x6,x7,x8,x9] T (0,0)):=heap_setCell_same _ b 5 _ T y5 e4;have e6:(((((((W.setCell ⟨b,0,none⟩ y0).setCell ⟨b,1,none⟩ y1).setCell ⟨b,2,none⟩ y2).setCell ⟨b,3,none⟩ y3).setCell ⟨b,4,none⟩ y4).setCell ⟨b,5,none⟩ y5).setCell ⟨b,6,none⟩ y6).heap[b]?=some (.cells #[y0,y1,y2,y3,y4,y5,y6,x7,x8,x9] T (0,0)):=heap_setCell_same _ b 6 _ T y6 e5;have e7:((((((((W.setCell ⟨b,0,none⟩ y0).setCell ⟨b,1,none⟩ y1).setCell ⟨b,2,none⟩ y2).setCell ⟨b,3,none⟩ y3).setCell ⟨b,4,none⟩ y4).setCell ⟨b,5,none⟩ y5).setCell ⟨b,6,none⟩ y6).setCell ⟨b,7,none⟩ y7).heap[b]?=some (.cells #[y0,y1,y2,y3,y4,y5,y6,y7,x8,x9] T (0,0)):=heap_setCell_same _ b 7 _ T y7 e6;have e8:(((((((((W.setCell ⟨b,0,none⟩ y0).setCell ⟨b,1,none⟩ y1).setCell ⟨b,2,none⟩ y2).setCell ⟨b,3,none⟩ y3).setCell ⟨b,4,none⟩ y4).setCell ⟨b,5,none⟩ y5).setCell ⟨b,6,none⟩ y6).setCell ⟨b,7,none⟩ y7).setCell ⟨b,8,none⟩ y8).heap[b]?=some (.cells #[y0,y1,y2,y3,y4,y5,y6,y7,y8,x9] T (0,0)):=heap_setCell_same _ b 8 _ T y8 e7;have e9:((((((((((W.setCell ⟨b,0,none⟩ y0).setCell ⟨b,1,none⟩ y1).setCell ⟨b,2,none⟩ y2).setCell ⟨b,3,none⟩ y3).setCell ⟨b,4,none⟩ y4).setCell ⟨b,5,none⟩ y5).setCell ⟨b,6,none⟩ y6).setCell ⟨b,7,none⟩ y7).setCell ⟨b,8,none⟩ y8).setCell ⟨b,9,none⟩ y9).heap[b]?=some (.cells #[y0,y1,y2,y3,y4,y5,y6,y7,y8,y9] T (0,0)):=heap_setCell_same _ b 9 _ T y9 e8;exact e9
theorem Ck {n:Nat} {w W:World} (h:Below n w W) {b:Nat} (hb:n<=b) (y0 y1 y2 y3 y4 y5 y6 y7 y8 y9:Value):Below n w (Vw W b y0 y1 y2 y3 y4 y5 y6 y7 y8 y9):=
 (((((((((h.setCell (p:=⟨b,0,none⟩) hb _).setCell (p:=⟨b,1,none⟩) hb _).setCell (p:=⟨b,2,none⟩) hb _).setCell (p:=⟨b,3,none⟩) hb _).setCell (p:=⟨b,4,none⟩) hb _).setCell (p:=⟨b,5,none⟩) hb _).setCell (p:=⟨b,6,none⟩) hb _).setCell (p:=⟨b,7,none⟩) hb _).setCell (p:=⟨b,8,none⟩) hb _).setCell (p:=⟨b,9,none⟩) hb _
theorem D7 {s:List UInt8} {a:Nat} {x:Wd} (h:Bf (s.drop a)=some x):B9 s a=some {x with frm:=a,til:=a+x.til}:=by unfold B9;rw[h];rfl
theorem De {s:List UInt8} {a:Nat} (h:Bf (s.drop a)=none):B9 s a=none:=by unfold B9;rw[h];rfl
theorem Cy {s:List UInt8} {a:Nat}:(s.drop a)[0]?=s[a]? :=by rw[List.getElem?_drop];simp
theorem Gb (s:ByteArray) (a:Nat) (ha:a<=s.size):(s.extract a s.size).data.toList=s.data.toList.drop a:=by
 have h:(s.extract a s.size).data=s.data.extract a s.size:=by simp
 rw[h];simp;rw[List.take_of_length_le];simp[Ar]
set_option maxRecDepth 100000 in
set_option maxHeartbeats 1000000 in
theorem T5 (s:ByteArray) (a kind B:Nat) (w:World) (hb:w.cell? ⟨B,0,none⟩=some (.int .u8 (kind:Int))) (ha:a<s.size) (hs:s.size<=1000000) (hk:∃c,s.data.toList[a]?=some c/\DX c=some kind):
  Calls Tryz.prog 111 #[.string s,.int .i64 (a:Int),.pointer (some ⟨B,0,none⟩)] w (ReadPost s.data.toList a w):=by
 have hlt:=AP hb;have hb2:(w.alloc (.cells #[.int .u8 0,.int .i64 0,.int .i64 0,.string ⟨#[]⟩,.int .u64 0,.int .u64 0,.int .u64 0,.int .u64 0,.int .i64 0,.int .i64 0] 106)).cell? ⟨B,0,none⟩=some (.int .u8 (kind:Int)):=(World.grownBy_alloc w _ none).cell hb (by simp);go_enter Tryz.func111,Tryz.ntmps111
 go_wp2_with fail
 have e0:=Ad w (.cells #[.int .u8 (kind:Int),.int .i64 (a:Int),.int .i64 ((a:Int)+1),.string ⟨#[]⟩,.int .u64 0,.int .u64 0,.int .u64 0,.int .u64 0,.int .i64 0,.int .i64 0] 106);obtain⟨t0,t1,t2,t3,t4,t5,t6,t7,t8,t9,_⟩:=BB e0;refine bodyPost_ret (v:=.tuple #[.agg #[.int .u8 (kind:Int),.int .i64 (a:Int),.int .i64 ((a:Int)+1),.string ⟨#[]⟩,.int .u64 0,.int .u64 0,.int .u64 0,.int .u64 0,.int .i64 0,.int .i64 0],.bool true]) (by simp[results,Tryz.results111,go_sem,t0,t1,t2,t3,t4,t5,t6,t7,t8,t9]) rfl ?_;obtain⟨c,h1,h2⟩:=hk;refine⟨⟨kind,a,a+1,[],0,0,0,0,0,0⟩,true,rfl,fun _=> ?_,fun h=>(by cases h),bx1 w _⟩
 have h3:Bf (s.data.toList.drop a)=some ⟨kind,0,1,[],0,0,0,0,0,0⟩:=by
  unfold Bf;rw[Cy,h1];simp only;unfold DX at h2
  have h4:AO c.toNat=false/\c≠123/\c≠34/\c≠91/\c≠46/\c≠60:=by
   split at h2
   ·rename_i h;subst h;decide
   split at h2
   ·rename_i h;subst h;decide
   split at h2
   ·rename_i h;subst h;decide
   split at h2
   ·rename_i h;subst h;decide
   split at h2
   ·rename_i h;subst h;decide
   split at h2
   ·rename_i h;subst h;decide
   split at h2
   ·rename_i h;subst h;decide
   split at h2
   ·rename_i h;subst h;decide
   split at h2
   ·rename_i h;subst h;decide
   split at h2
   ·rename_i h;subst h;decide
   ·cases h2
  rw[if_neg (by simp[h4.1]),if_neg h4.2.1,if_neg h4.2.2.1,if_neg h4.2.2.2.1,if_neg h4.2.2.2.2.1,if_neg h4.2.2.2.2.2];show(DX c).map _=_;unfold DX;rw[h2];rfl
 rw[D7 h3]
theorem T6 {l:List UInt8} (h:l[0]?=some 60) (h2:l[1]?=some 45):Lib.hasPrefix l [60,45]=true:=by
 cases l with
 |nil=>simp at h
 |cons a l=>cases l with
  |nil=>simp at h2
  |cons b l=>simp at h h2;subst h h2;simp[Lib.hasPrefix]
theorem Vx {l:List UInt8} (h2:l[1]? ≠ some 45):Lib.hasPrefix l [60,45]=false:=by
 cases l with
 |nil=>rfl
 |cons a l=>cases l with
  |nil=>show((60==a)&&false)=false;simp
  |cons b l=>
   show((60==a)&&((45==b)&&true))=false
   have:((45:UInt8)==b)=false:=by
    rw[beq_eq_false_iff_ne];intro e;exact h2 (by rw[<-e];rfl)
   rw[this];simp
theorem WW (kind:Int) (w:World):Calls Tryz.prog 96 #[.int .u8 kind] w fun e w'=>e=.returned (.func (.func 111) #[] #[.pointer (some ⟨w.heap.size,0,none⟩)])/\w'=w.alloc (.cells #[.int .u8 kind] 5):=by
 go_enter Tryz.func96,Tryz.ntmps96
 go_wp2_with fail
 go_ret;exact⟨rfl,rfl⟩
set_option maxRecDepth 100000 in
set_option maxHeartbeats 1000000 in
theorem Vy (s:ByteArray) (a:Nat) (w:World) (ha:a<s.size) (hs:s.size<=1000000) (hk:s.data.toList[a]?=some 60):
  Calls Tryz.prog 97 #[.string s,.int .i64 (a:Int)] w (ReadPost s.data.toList a w):=by
 have hd:=Gb s a (by omega);have i1:(0:Int)<=(a:Int):=by omega
 have i2:(a:Int)<=(s.size:Int):=by omega
 go_enter Tryz.func97,Tryz.ntmps97
 have h60:Bf (s.data.toList.drop a)=if (s.data.toList.drop a)[1]?=some 45 then some ⟨2,0,2,[],0,0,0,0,0,0⟩else some ⟨11,0,1,[],0,0,0,0,0,0⟩:=by
  unfold Bf;rw[Cy,hk];rfl
 by_cases h45:(s.data.toList.drop a)[1]?=some 45
 ·have hp:Lib.hasPrefix (s.extract a s.size).data.toList [60,45]=true:=by rw[hd];exact T6 (by rw[Cy];exact hk) h45
  rw[if_pos h45]at h60;have HP:=qd hp;have HH:=qd h60;clear hp h60 h45 hd;go_wp2_with (first|(go_at_call 112;refine(Tryz.strings_HasPrefix _ _ _).mono ?_;rintro e w' ⟨rfl,rfl⟩;rw[show Lib.hasPrefix (s.extract a s.size).data.toList (⟨#[60,45]⟩:ByteArray).data.toList=true from HP.out]))
  have e0:=Ad w (.cells #[.int .u8 2,.int .i64 (a:Int),.int .i64 ((a:Int)+2),.string ⟨#[]⟩,.int .u64 0,.int .u64 0,.int .u64 0,.int .u64 0,.int .i64 0,.int .i64 0] 106);obtain⟨t0,t1,t2,t3,t4,t5,t6,t7,t8,t9,_⟩:=BB e0;refine bodyPost_ret (v:=.tuple #[.agg #[.int .u8 2,.int .i64 (a:Int),.int .i64 ((a:Int)+2),.string ⟨#[]⟩,.int .u64 0,.int .u64 0,.int .u64 0,.int .u64 0,.int .i64 0,.int .i64 0],.bool true]) (by simp[results,Tryz.results97,go_sem,t0,t1,t2,t3,t4,t5,t6,t7,t8,t9]) rfl ?_;exact⟨⟨2,a,a+2,[],0,0,0,0,0,0⟩,true,rfl,fun _=>(by rw[D7 HH.out]),fun h=>(by cases h),bx1 w _⟩
 ·have hp:Lib.hasPrefix (s.extract a s.size).data.toList [60,45]=false:=by rw[hd];exact Vx h45
  rw[if_neg h45]at h60;have HP:=qd hp;have HH:=qd h60;clear hp h60 h45 hd;go_wp2_with (first|(go_at_call 112;refine(Tryz.strings_HasPrefix _ _ _).mono ?_;rintro e w' ⟨rfl,rfl⟩;rw[show Lib.hasPrefix (s.extract a s.size).data.toList (⟨#[60,45]⟩:ByteArray).data.toList=false from HP.out]))
  have e0:=Ad w (.cells #[.int .u8 11,.int .i64 (a:Int),.int .i64 ((a:Int)+1),.string ⟨#[]⟩,.int .u64 0,.int .u64 0,.int .u64 0,.int .u64 0,.int .i64 0,.int .i64 0] 106);obtain⟨t0,t1,t2,t3,t4,t5,t6,t7,t8,t9,_⟩:=BB e0;refine bodyPost_ret (v:=.tuple #[.agg #[.int .u8 11,.int .i64 (a:Int),.int .i64 ((a:Int)+1),.string ⟨#[]⟩,.int .u64 0,.int .u64 0,.int .u64 0,.int .u64 0,.int .i64 0,.int .i64 0],.bool true]) (by simp[results,Tryz.results97,go_sem,t0,t1,t2,t3,t4,t5,t6,t7,t8,t9]) rfl ?_;exact⟨⟨11,a,a+1,[],0,0,0,0,0,0⟩,true,rfl,fun _=>(by rw[D7 HH.out]),fun h=>(by cases h),bx1 w _⟩
set_option maxRecDepth 100000 in
set_option maxHeartbeats 1000000 in
theorem WX (s:ByteArray) (a:Nat) (w:World) (ha:a<s.size) (hs:s.size<=1000000) (hk:s.data.toList[a]?=some 46):
  Calls Tryz.prog 95 #[.string s,.int .i64 (a:Int)] w (ReadPost s.data.toList a w):=by
 have HH:=qd (show Bf (s.data.toList.drop a)=some ⟨16,0,1,[],FX,FX,FX,FX,0,0⟩from by unfold Bf;rw[Cy,hk];rfl);have HB0:=qd (bx1 w (.cells (wdC ⟨0,0,0,[],0,0,0,0,0,0⟩) 106));have HK0:=qd (Ad w (.cells (wdC ⟨0,0,0,[],0,0,0,0,0,0⟩) 106));go_enter Tryz.func95,Tryz.ntmps95
 go_wp2_with (first|(go_at_call 63;refine(Vm _).mono ?_;rintro e w1 ⟨rfl,hb⟩;have HK1:=qd (Ae hb HK0.out);have HB1:=qd (Below.step HB0.out hb);obtain⟨_,_,_,_,_,_,_,_,_,_,bf⟩:=BB HK1.out;have f0:=bf 0;have f1:=bf 1;have f2:=bf 2;have f3:=bf 3;have f4:=bf 4;have f5:=bf 5;have f6:=bf 6;have f7:=bf 7;have f8:=bf 8;have f9:=bf 9;clear bf hb;rw[Dq,BV,BV,BV,BV]))
 have e0:=CC HK1.out (.int .u8 16) (.int .i64 (a:Int)) (.int .i64 ((a:Int)+1)) (.string ⟨#[]⟩) (.int .u64 18446744073709551615) (.int .u64 18446744073709551615) (.int .u64 18446744073709551615) (.int .u64 18446744073709551615) (.int .i64 0) (.int .i64 0);obtain⟨t0,t1,t2,t3,t4,t5,t6,t7,t8,t9,_⟩:=BB e0;refine bodyPost_ret (v:=.tuple #[.agg #[.int .u8 16,.int .i64 (a:Int),.int .i64 ((a:Int)+1),.string ⟨#[]⟩,.int .u64 18446744073709551615,.int .u64 18446744073709551615,.int .u64 18446744073709551615,.int .u64 18446744073709551615,.int .i64 0,.int .i64 0],.bool true]) (by simp[results,Tryz.results95,go_sem,t0,t1,t2,t3,t4,t5,t6,t7,t8,t9]) rfl ?_;exact⟨⟨16,a,a+1,[],FX,FX,FX,FX,0,0⟩,true,rfl,fun _=>(by rw[D7 HH.out]),fun h=>(by cases h),Ck HB1.out (Nat.le_refl _) _ _ _ _ _ _ _ _ _ _⟩
set_option maxRecDepth 100000 in
set_option maxHeartbeats 1000000 in
theorem T7 (s:ByteArray) (a:Nat) (w:World) (ha:a<s.size) (hs:s.size<=1000000) (hk:∃c,s.data.toList[a]?=some c/\AO c.toNat=true):
  Calls Tryz.prog 98 #[.string s,.int .i64 (a:Int)] w (ReadPost s.data.toList a w):=by
 obtain⟨c,hc,hl⟩:=hk;have hd:=Gb s a (by omega);have hse:(s.extract a s.size).size<=s.size:=by simp[ByteArray.size_extract]
 have i1:(0:Int)<=(a:Int):=by omega
 have i2:(a:Int)<=(s.size:Int):=by omega
 have hh:Bf (s.data.toList.drop a)=if (B0 (s.data.toList.drop a)).length<=32 then some ⟨1,0,(B0 (s.data.toList.drop a)).length,B0 (s.data.toList.drop a),0,0,0,0,0,0⟩else none:=by
  unfold Bf;rw[Cy,hc];simp only[hl,if_true]
 have hne:B0 (s.data.toList.drop a)≠[]:=by
  have h1:(s.data.toList.drop a)[0]?=some c:=by rw[Cy];exact hc
  cases he:s.data.toList.drop a with
  |nil=>rw[he]at h1;simp at h1
  |cons x r=>rw[he]at h1;simp at h1;subst h1;simp[B0,hl]
 have HM:=qd (show Cb (B0 (s.data.toList.drop a))=decide ((B0 (s.data.toList.drop a)).length<=32)from by
  unfold Cb;rw[LI];simp[hne])
 have HH:=qd hh;have HD:=qd hd;have HB0:=qd (bx1 w (.cells (wdC ⟨0,0,0,[],0,0,0,0,0,0⟩) 106));have HK0:=qd (Ad w (.cells (wdC ⟨0,0,0,[],0,0,0,0,0,0⟩) 106));clear hh hne hl hc hd;go_enter Tryz.func98,Tryz.ntmps98
 go_wp2_with (first
  |(go_at_call 72;refine(Oj _ _ (by omega)).mono ?_;rintro e w1 ⟨n,rfl,hn,hb⟩;have HN:=qd (show n.data.toList=B0 (s.data.toList.drop a)from by rw[hn,HD.out]);have HB1:=qd (Below.step HB0.out hb);have HK1:=qd (Ae hb HK0.out);have hnz:n.size<=s.size:=(by have h1:=Ps (s.extract a s.size).data.toList;have h2:=Ar n;have h3:=Ar (s.extract a s.size);rw[<-hn]at h1;omega);clear hn hb)
  |(go_at_call 59;refine(IB n _ (by omega)).mono ?_;rintro e w2 ⟨rfl,hb⟩;have HK2:=qd (Ae hb HK1.out);have HB2:=qd (Below.step HB1.out hb);obtain⟨_,_,_,_,_,_,_,_,_,_,bf⟩:=BB HK2.out;have f0:=bf 0;have f1:=bf 1;have f2:=bf 2;have f3:=bf 3;have f4:=bf 4;have f5:=bf 5;have f6:=bf 6;have f7:=bf 7;have f8:=bf 8;have f9:=bf 9;clear bf hb)
  |fail)
 have HS:=qd (show(B0 (s.data.toList.drop a)).length=n.size from by rw[<-HN.out,Ar]);rw[HN.out,HM.out,HS.out];have e0:=CC HK2.out (.int .u8 1) (.int .i64 (a:Int)) (.int .i64 ((a:Int)+(n.size:Int))) (.string n) (.int .u64 0) (.int .u64 0) (.int .u64 0) (.int .u64 0) (.int .i64 0) (.int .i64 0);obtain⟨t0,t1,t2,t3,t4,t5,t6,t7,t8,t9,_⟩:=BB e0;refine bodyPost_ret (v:=.tuple #[.agg #[.int .u8 1,.int .i64 (a:Int),.int .i64 ((a:Int)+(n.size:Int)),.string n,.int .u64 0,.int .u64 0,.int .u64 0,.int .u64 0,.int .i64 0,.int .i64 0],.bool (decide (n.size<=32))]) (by simp[results,Tryz.results98,go_sem,t0,t1,t2,t3,t4,t5,t6,t7,t8,t9]) rfl ?_;have hh:=HH.out;rw[HS.out]at hh;refine⟨⟨1,a,a+n.size,n.data.toList,0,0,0,0,0,0⟩,decide (n.size<=32),?_,fun h=> ?_,fun h=> ?_,Ck HB2.out (Nat.le_refl _) _ _ _ _ _ _ _ _ _ _⟩
 ·show _=Ending.returned (.tuple #[.agg #[_,_,_,.string ⟨n.data.toList.toArray⟩,_,_,_,_,_,_],_]);rw[Lib.mk_data];rfl
 ·rw[if_pos (of_decide_eq_true h)]at hh;rw[D7 hh,HN.out]
 ·rw[if_neg (of_decide_eq_false h)]at hh;exact De hh
theorem JO:∀l:List UInt8,(Lib.indexByte l 10<0->B3 true l=l.length)/\(∀n:Nat,Lib.indexByte l 10=n->n<=l.length/\B3 true l=n+B3 false (l.drop n))
 |[]=>⟨fun _=>rfl,fun n h=>by simp[Lib.indexByte]at h⟩
 |c::r=>by
  have ih:=JO r;have hg:=Lib.indexByte_ge r 10;by_cases hc:c=10
  ·subst hc;refine⟨fun h=>by simp[Lib.indexByte]at h,fun n h=> ?_⟩;have h0:n=0:=by simp[Lib.indexByte]at h;omega
   subst h0;exact⟨Nat.zero_le _,by simp[B3,GT]⟩
  ·have h1:(c==10)=false:=by simpa using hc
   have h2:(c != 10)=true:=by simpa using hc
   constructor
   ·intro h
    have h3:Lib.indexByte r 10<0:=by
     unfold Lib.indexByte at h;rw[if_neg (by simp[h1])]at h;by_cases h4:Lib.indexByte r 10 = -1
     ·omega
     ·rw[if_neg (by simpa using h4)]at h;omega
    simp only[B3,h2,List.length_cons,ih.1 h3];omega
   ·intro n h;unfold Lib.indexByte at h;rw[if_neg (by simp[h1])]at h;by_cases h4:Lib.indexByte r 10 = -1
    ·rw[if_pos (by simpa using h4)]at h;omega
    ·rw[if_neg (by simpa using h4)]at h;obtain⟨m,rfl⟩:∃m,n=m+1:=⟨n-1,by omega⟩;have h5:=ih.2 m (by omega);refine⟨by simp only[List.length_cons];omega,?_⟩;simp only[B3,h2,List.drop_succ_cons,h5.2];omega
theorem Vz {s:List UInt8} {k:Nat} (h:s.length<=k):A9 s k=k:=by unfold A9;rw[List.drop_eq_nil_of_le h];simp[B3]
theorem T8 {s:List UInt8} {k:Nat} {c:UInt8} (h:s[k]?=some c) (hc:GT c=true):A9 s k=A9 s (k+1):=by
 have hl:=(List.getElem?_eq_some_iff.1 h).1;have h35:c≠35:=fun e=>by subst e;revert hc;decide
 unfold A9;rw[List.drop_eq_getElem_cons hl,(List.getElem?_eq_some_iff.1 h).2];simp only[B3,if_neg h35,hc,if_true];omega
theorem T9 {s:List UInt8} {k:Nat} {c:UInt8} (h:s[k]?=some c) (hc:GT c=false) (h35:c≠35):A9 s k=k:=by
 have hl:=(List.getElem?_eq_some_iff.1 h).1;unfold A9;rw[List.drop_eq_getElem_cons hl,(List.getElem?_eq_some_iff.1 h).2];simp[B3,if_neg h35,hc]
theorem Jj {s:List UInt8} {k:Nat} (h:s[k]?=some 35):A9 s k=k+B3 true (s.drop k):=by
 have hl:=(List.getElem?_eq_some_iff.1 h).1;unfold A9;rw[List.drop_eq_getElem_cons hl,(List.getElem?_eq_some_iff.1 h).2];rfl
theorem V0 {s:List UInt8} {k:Nat} (h:s[k]?=some 35) (hi:Lib.indexByte (s.drop k) 10<0):A9 s k=s.length:=by
 have hl:=(List.getElem?_eq_some_iff.1 h).1;rw[Jj h,(JO _).1 hi,List.length_drop];omega
theorem TB {s:List UInt8} {k n:Nat} (h:s[k]?=some 35) (hi:Lib.indexByte (s.drop k) 10=n):A9 s k=A9 s (k+n)/\k+n<=s.length/\0<n:=by
 have hl:=(List.getElem?_eq_some_iff.1 h).1;obtain⟨h1,h2⟩:=(JO _).2 n hi;rw[List.length_drop]at h1;refine⟨?_,by omega,?_⟩
 ·rw[Jj h,h2];unfold A9;rw[List.drop_drop];omega
 ·rcases Nat.eq_zero_or_pos n with h0|h0
  ·subst h0;rw[List.drop_eq_getElem_cons hl,(List.getElem?_eq_some_iff.1 h).2]at hi;have hg:=Lib.indexByte_ge (s.drop (k+1)) 10;unfold Lib.indexByte at hi;rw[if_neg (by decide)]at hi;by_cases h4:Lib.indexByte (s.drop (k+1)) 10 = -1
   ·rw[if_pos (by simpa using h4)]at hi;omega
   ·rw[if_neg (by simpa using h4)]at hi;omega
  ·exact h0
theorem F5 (s:List UInt8) (k:Nat):A9 s k<=max k s.length:=by
 unfold A9;have:=IZ false (s.drop k);rw[List.length_drop]at this;omega
theorem Dr (s:List UInt8) (k:Nat):k<=A9 s k:=by unfold A9;omega
set_option maxRecDepth 100000 in
set_option maxHeartbeats 2000000 in
theorem E7 (s:ByteArray) (a:Nat) (w:World) (ha:a<=s.size) (hs:s.size<=1000000):
  Calls Tryz.prog 80 #[.string s,.int .i64 (a:Int)] w fun e w'=>e=.returned (.int .i64 (A9 s.data.toList a:Int))/\w'=w:=by
 have hsz:=Ar s;go_enter Tryz.func80,Tryz.ntmps80
 go_wp2_with fail
 go_loopw [1] (fun i wr=>∃k:Nat,i=.int .i64 (k:Int)/\k<=s.size/\Hid (A9 s.data.toList k=A9 s.data.toList a)/\wr=w) (fun i _=>s.size-(intOf i).toNat)
 case atStart=>exact⟨a,rfl,ha,qd rfl,rfl⟩
 case round=>
  obtain⟨k,rfl,hk,HN,rfl⟩:=hrel;by_cases hlt:k<s.size
  ·have i1:(k:Int)<(s.size:Int):=by omega
   have i2:(0:Int)<=(k:Int):=by omega
   have hA:=Lib.data_getElem? s k hlt;by_cases hp:GT s[k]=true
   ·have HP:=qd (T8 hA hp)
    have hp4:s[k]=32\/s[k]=9\/s[k]=13\/s[k]=10:=by
     unfold GT at hp;simpa[or_assoc]using hp
    have hp5:(s[k].toNat:Int)=32\/(s[k].toNat:Int)=9\/(s[k].toNat:Int)=13\/(s[k].toNat:Int)=10:=by
     rcases hp4 with h|h|h|h <;> rw[h] <;> simp
    clear hA hp hp4;rcases hp5 with n1|n1|n1|n1
    all_goals
     go_wp2_with fail
     exact⟨⟨k+1,by go_num,by omega,qd (by rw[<-HP.out];exact HN.out),by first|trivial|rfl⟩,by simp only[intOf];omega⟩
   ·by_cases h35:s[k]=35
    ·have n1:(s[k].toNat:Int)=35:=by rw[h35];rfl
     have hd:=Gb s k (by omega);have i3:(k:Int)<=(s.size:Int):=by omega
     rw[h35]at hA;have hix:=Lib.indexByte_ge (s.data.toList.drop k) 10;by_cases hneg:Lib.indexByte (s.data.toList.drop k) 10<0
     ·have HI:=qd (V0 hA hneg);have HD:=qd hd;clear hA hp h35 hd;generalize hz:Lib.indexByte (s.data.toList.drop k) 10=z at *;have HZ:=qd hz;clear hz;go_wp2_with (first|(go_at_call 75;refine(Tryz.strings_IndexByte _ 10 _).mono ?_;rintro e w' ⟨rfl,rfl⟩;rw[HD.out,show((10:Int).toNat).toUInt8=10 from rfl,HZ.out])|fail)
      go_ret;exact⟨by rw[<-HN.out,HI.out,hsz];rfl,rfl⟩
     ·obtain⟨n,hn⟩:∃n:Nat,Lib.indexByte (s.data.toList.drop k) 10=(n:Int):=⟨(Lib.indexByte (s.data.toList.drop k) 10).toNat,by omega⟩;obtain⟨h1,h2,h3⟩:=TB hA hn;have HI:=qd h1;have HD:=qd hd;have HZ:=qd hn;have i4:¬(n:Int)<0:=by omega
      clear hA hp h35 hd h1 hix hneg hn;go_wp2_with (first|(go_at_call 75;refine(Tryz.strings_IndexByte _ 10 _).mono ?_;rintro e w' ⟨rfl,rfl⟩;rw[HD.out,show((10:Int).toNat).toUInt8=10 from rfl,HZ.out])|fail)
      exact⟨⟨k+n,by go_num,by omega,qd (by rw[<-HI.out];exact HN.out),by first|trivial|rfl⟩,by simp only[intOf];omega⟩
    ·have HP:=qd (T9 hA (by simpa using hp) h35)
     have hp4:s[k]≠32/\s[k]≠9/\s[k]≠13/\s[k]≠10:=by
      unfold GT at hp;simpa[not_or,and_assoc]using hp
     have n1:¬(s[k].toNat:Int)=32:=fun e=>hp4.1 (UInt8.toNat_inj.1 (by simp;omega))
     have n2:¬(s[k].toNat:Int)=9:=fun e=>hp4.2.1 (UInt8.toNat_inj.1 (by simp;omega))
     have n3:¬(s[k].toNat:Int)=13:=fun e=>hp4.2.2.1 (UInt8.toNat_inj.1 (by simp;omega))
     have n4:¬(s[k].toNat:Int)=10:=fun e=>hp4.2.2.2 (UInt8.toNat_inj.1 (by simp;omega))
     have n5:¬(s[k].toNat:Int)=35:=fun e=>h35 (UInt8.toNat_inj.1 (by simp;omega))
     clear hA hp hp4 h35;go_wp2_with fail
     go_ret;exact⟨by rw[<-HN.out,HP.out];rfl,rfl⟩
  ·have hke:k=s.size:=by omega
   have i1:¬(k:Int)<(s.size:Int):=by omega
   have HE:=qd (Vz (s:=s.data.toList) (k:=k) (by omega));go_wp2_with fail
   go_ret;exact⟨by rw[<-HN.out,HE.out,hke];rfl,rfl⟩
theorem Jk {p:Int×Int} {a b:Int} (h:p=(a,b)):Ending.returned (.tuple #[.int .i64 a,.int .i64 b])=.returned (.tuple #[.int .i64 p.1,.int .i64 p.2]):=by rw[h]
theorem WY (s:ByteArray) (most a:Int) (h0:0<s.size) (hz:¬(s[0].toNat=48/\1<s.size)) (k:Nat) (hk:s.size<=k) (hd:Eb (s.data.toList.take k)=true) (ha:a=EF (s.data.toList.take k)):
  (a<=most->CM s.data.toList most=(a,0))/\(most<a->CM s.data.toList most=(0,40)):=by
 rw[LH s k hk]at hd ha;constructor <;> intro h <;> simp only[CM,LJ s h0 hz hd,if_true]
 ·rw[if_neg (by omega),ha]
 ·rw[if_pos (by omega)]
theorem TC (s:ByteArray) (most:Int) (h0:0<s.size) (hm:most<=9223372036854775807) (hz:¬(s[0].toNat=48/\1<s.size)) (k:Nat) (hk:s.size<=k) (hd:Eb (s.data.toList.take k)=true) (ha:9223372036854775807<(EF (s.data.toList.take k):Int)):
  CM s.data.toList most=(0,40):=by
 rw[LH s k hk]at hd ha;simp only[CM,LJ s h0 hz hd,if_true];rw[if_pos (by omega)]
def NumInv (s:ByteArray) (k:Nat) (a:Int) (b:Bool):Prop:=
 Eb (s.data.toList.take k)=true/\(b=false->a=EF (s.data.toList.take k))/\(b=true->9223372036854775807<(EF (s.data.toList.take k):Int))
theorem NumInv.large {s:ByteArray} {k:Nat} {a c:Int} {b:Bool} (h:NumInv s k a b) (hk:k<s.size) (hc:(s[k].toNat:Int)=c) (h3:48<=c) (h4:c<=57) (ha:b=false->(9223372036854775807-(c-48))/10<a):NumInv s (k+1) a true:=by
 obtain⟨h1,h2,h5⟩:=h;refine⟨by rw[Hy s k hk,He,h1,(E8 _).2 (by omega)];rfl,fun h=>(by cases h),fun _=> ?_⟩;rw[Hy s k hk,Hd];cases b
 ·have:=h2 rfl;have:=ha rfl;omega
 ·have:=h5 rfl;omega
theorem NumInv.step {s:ByteArray} {k:Nat} {a c:Int} (h:NumInv s k a false) (hk:k<s.size) (hc:(s[k].toNat:Int)=c) (h3:48<=c) (h4:c<=57):NumInv s (k+1) (a*10+(c-48)) false:=by
 obtain⟨h1,h2,h5⟩:=h;refine⟨by rw[Hy s k hk,He,h1,(E8 _).2 (by omega)];rfl,fun _=> ?_,fun h=>(by cases h)⟩;rw[Hy s k hk,Hd,h2 rfl];omega
set_option maxHeartbeats 1000000 in
theorem EK (s:ByteArray) (most:Int) (w:World) (hs:s.size<=281474976710656) (hm:most<=9223372036854775807):
  Calls Tryz.prog 108 #[.string s,.int .i64 most] w fun e w'=>e=.returned (.tuple #[.int .i64 (CM s.data.toList most).1,.int .i64 (CM s.data.toList most).2])/\w'=w:=by
 go_enter Tryz.func108,Tryz.ntmps108
 go_wp2
 refine wp_scope_jumps 0 (fun a' w'=>w'=w/\CM s.data.toList most=(0,4)/\ ∃u0 u1 u2 u3 u4 u5 u6 u7 u8 u9 u10 u11 u12 u13 u14 u15 u16 u17 u18 u19 u20 u21 u22 u23 u24 u25 u26 u27 u28 u29 u30 u31 u32 u33 u34 u35 u36 u37 u38 u39 u40 u41 u42 u43 u44 u45 u46 u47 u48 u49 u50 u51 u52 u53 u54 u55 u56:Value,a'={tmps:= #[u0,u1,u2,u3,u4,u5,u6,u7,u8,u9,u10,u11,u12,u13,u14,u15,u16,u17,u18,u19,u20,u21,u22,u23,u24,u25,u26,u27,u28,u29,u30,u31,u32,u33,u34,u35,u36,u37,u38,u39,u40,u41,u42,u43,u44,u45,u46,u47,u48,u49,u50,u51,u52,u53,u54,u55,u56],defers:=[]}) (fun _ _=>0) rfl ?_ ?_
 ·by_cases h0:0<s.size
  ·have⟨e1,e2⟩:=Bb s h0;by_cases hz:s[0].toNat=48/\1<s.size
   ·have HN:=qd (JP _ most (NO s hz.2 hz.1));have h5:((s[0].toNat:Int)==48)=true:=by simp;omega
    have h6:(1:Int)<(s.size:Int):=by omega
    clear hz;go_wp2
    go_step3
    exact⟨rfl,rfl,HN.out,_,_,_,_,_,_,_,_,_,_,_,_,_,_,_,_,_,_,_,_,_,_,_,_,_,_,_,_,_,_,_,_,_,_,_,_,_,_,_,_,_,_,_,_,_,_,_,_,_,_,_,_,_,_,_,_,_,rfl⟩
   ·have HZ:=qd hz
    have hc:((s[0].toNat:Int)==48)=false\/(((s[0].toNat:Int)==48)=true/\ ¬(1:Int)<(s.size:Int)):=by
     by_cases h48:s[0].toNat=48
     ·right;exact⟨by simp;omega,by omega⟩
     ·left;simp;omega
    clear hz;rcases hc with h5|⟨h5,h6⟩
    all_goals
     go_wp2
     go_loop [6,7,8] (fun n g i=>∃(k:Nat) (a:Int) (b:Bool),k<=s.size/\n=.int .i64 a/\g=.bool b/\i=.int .i64 k/\0<=a/\a<=9223372036854775807/\NumInv s k a b) (fun _ _ i=>s.size-(intOf i).toNat)
     case atStart=>exact⟨0,0,false,by omega,rfl,rfl,rfl,by omega,by omega,by simp[Eb],fun _=>by simp[EF],fun h=>by cases h⟩
     case round=>
      obtain⟨k,a,b,hk,rfl,rfl,rfl,ha0,ha1,hR⟩:=hrel;have HR:=qd hR;clear hR;by_cases hlt:k<s.size
      ·have hby:(s[k].toNat:Int)<256:=by have:=s[k].toNat_lt;omega
       cases hd:Dt s[k].toNat
       ·have HN:=qd (JP _ most (Pt s k hlt hd));go_wp2_with (first|(go_at_call 86;refine(FH _ _).mono ?_;rintro e w' ⟨rfl,rfl⟩))
        go_step3
        exact⟨rfl,rfl,HN.out,_,_,_,_,_,_,_,_,_,_,_,_,_,_,_,_,_,_,_,_,_,_,_,_,_,_,_,_,_,_,_,_,_,_,_,_,_,_,_,_,_,_,_,_,_,_,_,_,_,_,_,_,_,_,_,_,_,rfl⟩
       ·have hd2:=(E8 _).1 hd;obtain⟨hd3,hd4⟩:=hd2;cases b
        ·go_upto_region 8 with(first|(go_at_call 86;refine(FH _ _).mono ?_;rintro e w' ⟨rfl,rfl⟩))
         clear hd;generalize hc:(s[k].toNat:Int)=c at *;have HC:=qd hc;clear hc;go_wp2
         ·have hlg:(9223372036854775807-(c-48))/10<a:=by assumption
          exact⟨⟨k+1,a,true,by omega,rfl,rfl,by go_num,ha0,ha1,HR.out.large hlt HC.out hd3 hd4 (fun _=>hlg)⟩,by simp[intOf];omega⟩
         ·have hlg:a<=(9223372036854775807-(c-48))/10:=by assumption
          exact⟨⟨k+1,_,false,by omega,rfl,rfl,by go_num,by omega,by omega,HR.out.step hlt HC.out hd3 hd4⟩,by simp[intOf];omega⟩
        ·go_upto_region 8 with(first|(go_at_call 86;refine(FH _ _).mono ?_;rintro e w' ⟨rfl,rfl⟩))
         clear hd;generalize hc:(s[k].toNat:Int)=c at *;have HC:=qd hc;clear hc;go_wp2
         exact⟨⟨k+1,a,true,by omega,rfl,rfl,by go_num,ha0,ha1,HR.out.large hlt HC.out hd3 hd4 (fun h=>by cases h)⟩,by simp[intOf];omega⟩
      ·cases b
       ·have HY:=qd (WY s most a h0 HZ.out k (by omega) HR.out.1 (HR.out.2.1 rfl));go_wp2
        ·have hlg:most<a:=by assumption
         simp only[Exit.jump];go_ret2;exact⟨Jk (HY.out.2 hlg),rfl⟩
        ·have hlg:a<=most:=by assumption
         simp only[Exit.jump];go_ret2;exact⟨Jk (HY.out.1 hlg),rfl⟩
       ·have HY:=qd (TC s most h0 hm HZ.out k (by omega) HR.out.1 (HR.out.2.2 rfl));go_wp2
        simp only[Exit.jump];go_ret2;exact⟨Jk HY.out,rfl⟩
  ·have⟨e1,e2,e3⟩:=AH s h0;have HN:=qd (JP s.data.toList most (by rw[e3];rfl));go_wp2
   go_step3
   exact⟨rfl,rfl,HN.out,_,_,_,_,_,_,_,_,_,_,_,_,_,_,_,_,_,_,_,_,_,_,_,_,_,_,_,_,_,_,_,_,_,_,_,_,_,_,_,_,_,_,_,_,_,_,_,_,_,_,_,_,_,_,_,_,_,rfl⟩
 ·rintro a' w' ⟨rfl,hn,u0,u1,u2,u3,u4,u5,u6,u7,u8,u9,u10,u11,u12,u13,u14,u15,u16,u17,u18,u19,u20,u21,u22,u23,u24,u25,u26,u27,u28,u29,u30,u31,u32,u33,u34,u35,u36,u37,u38,u39,u40,u41,u42,u43,u44,u45,u46,u47,u48,u49,u50,u51,u52,u53,u54,u55,u56,rfl⟩;have HN:=qd hn;clear hn;go_wp2
  simp only[Exit.jump];go_ret2;exact⟨Jk HN.out,rfl⟩
end Go.Proofs.YtdnochjajoiooaaGreatDoor
