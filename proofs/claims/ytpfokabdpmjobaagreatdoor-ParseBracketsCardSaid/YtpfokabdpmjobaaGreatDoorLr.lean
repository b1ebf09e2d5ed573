/- The contracts of quote.escapes, and of a reader's fail, next, sees. The contract of quote.escapes. The contract of lex.readings: for a word's first byte, how it is read. -/
import Derived.Test.YtpfokabdpmjobaaGreatDoorLa
import Derived.Test.YtpfokabdpmjobaaGreatDoorLb
import Derived.Deep.RegionHeld3
import Derived.Deep.QuietTactic
import Derived.BigQuiet
import Derived.StillTailTactics
import Derived.Deep.DeepCutAuto
import Derived.Deep.Cut
import Derived.Deep.CutRange
import Derived.Test.YtpfokabdpmjobaaGreatDoorLm
namespace Go.Proofs.YtpfokabdpmjobaaGreatDoor
open Go.RowKit
set_option linter.unusedSimpArgs false
set_option linter.unusedVariables false
abbrev rdCells (t left:ByteArray) (en:UInt8) (m:Nat) (a e:Int):Array Value:= #[.string t,.string left,u8V en,.map (some m),.int .i64 a,.int .i64 e]
def RD (w:World) (r:Nat) (t left:ByteArray) (en:UInt8) (m:Nat) (a e:Int):Prop:=w.heap[r]?=some (.cells (rdCells t left en m a e) 181 (0,0))
theorem RD.cells {w:World} {r:Nat} {t left:ByteArray} {en:UInt8} {m:Nat} {a e:Int} (h:RD w r t left en m a e):
  w.cell? ⟨r,0,none⟩=some (.string t)∧w.cell? ⟨r,1,none⟩=some (.string left)∧w.cell? ⟨r,2,none⟩=some (u8V en)∧w.cell? ⟨r,3,none⟩=some (.map (some m))∧w.cell? ⟨r,4,none⟩=some (.int .i64 a)∧w.cell? ⟨r,5,none⟩=some (.int .i64 e) ∧
  w.frozen? ⟨r,4,none⟩=false∧w.frozen? ⟨r,5,none⟩=false:=by
 simp[World.cell?,World.frozen?,show w.heap[r]?=_ from h]
theorem RD.lt {w:World} {r:Nat} {t left:ByteArray} {en:UInt8} {m:Nat} {a e:Int} (h:RD w r t left en m a e):r<w.heap.size:=(Array.getElem?_eq_some_iff.1 h).1
theorem RD.kept {w w':World} {r:Nat} {t left:ByteArray} {en:UInt8} {m:Nat} {a e:Int} {row:Option Nat} (h:RD w r t left en m a e) (hg:w.grownBy w' row) (hne:some r≠row):RD w' r t left en m a e:=
 (hg.block r h.lt hne).trans h
theorem RD.below {w w':World} {r:Nat} {t left:ByteArray} {en:UInt8} {m:Nat} {a e:Int} (h:RD w r t left en m a e) (hb:Below w.heap.size w w'):RD w' r t left en m a e:=(hb.block r h.lt).trans h
theorem RD.setAt {w:World} {r:Nat} {t left:ByteArray} {en:UInt8} {m:Nat} {a e:Int} (h:RD w r t left en m a e) (k:Int):RD (w.setCell ⟨r,4,none⟩ (.int .i64 k)) r t left en m k e:=by
 have:=heap_setCell_same w r 4 _ 181 (.int .i64 k) h
 simpa[RD]using this
theorem RD.setE {w:World} {r:Nat} {t left:ByteArray} {en:UInt8} {m:Nat} {a e:Int} (h:RD w r t left en m a e) (k:Int):RD (w.setCell ⟨r,5,none⟩ (.int .i64 k)) r t left en m a k:=by
 have:=heap_setCell_same w r 5 _ 181 (.int .i64 k) h
 simpa[RD]using this
theorem grewD (w:World) (row:Option Nat):w.grownBy w.drew row:=⟨rfl,rfl,rfl,Nat.le_refl _,fun _ _ _=>rfl⟩
theorem grewSet (w:World) (r i:Nat) (v:Value):w.grownBy (w.setCell ⟨r,i,none⟩ v) (some r):=
 ⟨rfl,rfl,rfl,by show w.heap.size≤(w.heap.modify _ _).size;simp,fun k _ hk=>Below.heap_setCell _ _ _ k (fun e=>hk (by rw[e]))⟩
theorem grewDN (w:World) (n:Nat) (row:Option Nat):w.grownBy (w.drewN n) row:=⟨rfl,rfl,rfl,Nat.le_refl _,fun _ _ _=>rfl⟩
set_option maxRecDepth 100000 in
set_option maxHeartbeats 1000000 in
theorem fail_any (r:Nat) (t left:ByteArray) (en:UInt8) (m:Nat) (a e k:Int) (w:World) (h:RD w r t left en m a e):
  Calls Tryz.prog 146 #[.pointer (some ⟨r,0,none⟩),.int .i64 k] w fun en' w'=>en'=.returned (.tuple #[])∧RD w' r t left en m k 4∧w.grownBy w' (some r):=by
 have HR:=Lib.hid h
 obtain⟨c0,c1,c2,c3,c4,c5,f4,f5⟩:=h.cells
 go_enter Tryz.func146,Tryz.ntmps146
 clear h
 go_wp2_with fail
 refine bodyPost_end (v:=.tuple #[]) (by simp[results,Tryz.results146]) rfl ?_
 exact⟨rfl,(HR.out.setAt k).setE 4,(grewSet _ _ _ _).trans (grewSet _ _ _ _)⟩
set_option maxRecDepth 100000 in
set_option maxHeartbeats 1000000 in
theorem next_some (r:Nat) (t left:ByteArray) (en:UInt8) (m a:Nat) (e:Int) (w:World) (h:RD w r t left en m (a:Int) e) (ha:a<t.size) (hs:t.size≤1000000):
  Calls Tryz.prog 173 #[.pointer (some ⟨r,0,none⟩)] w fun en' w'=>en'=.returned (.tuple #[u8V t[a],.bool true])∧RD w' r t left en m ((a+1:Nat):Int) e∧w.grownBy w' (some r):=by
 have HR:=Lib.hid h
 obtain⟨c0,c1,c2,c3,c4,c5,f4,f5⟩:=h.cells
 go_enter Tryz.func173,Tryz.ntmps173
 clear h
 have i1:¬(t.size:Int)≤(a:Int):=by omega
 have i2:(0:Int)≤(a:Int):=by omega
 have i3:(a:Int)<(t.size:Int):=by omega
 go_wp2_with fail
 go_quiet (fail)
 go_wp2_with fail
 have h1:RD ((w.drewN nq).setCell ⟨r,4,none⟩ (.int .i64 ((a:Int)+1))) r t left en m ((a:Int)+1) e:=(HR.out.kept (grewDN w nq none) (by simp)).setAt _
 have HG:=Lib.hid (show w.grownBy ((w.drewN nq).setCell ⟨r,4,none⟩ (.int .i64 ((a:Int)+1))) (some r)from(grewDN _ _ _).trans (grewSet _ _ _ _))
 generalize (w.drewN nq).setCell ⟨r,4,none⟩ (.int .i64 ((a:Int)+1))=W1 at *
 clear c0 c1 c2 c3 c4 c5 f4 f5 HR
 have HR:=Lib.hid h1
 obtain⟨c0,c1,c2,c3,c4,c5,f4,f5⟩:=h1.cells
 clear h1
 go_quiet (fail)
 go_wp2_with fail
 refine bodyPost_ret (v:=.tuple #[u8V t[a],.bool true]) (by simp[results,Tryz.results173,go_sem]) rfl ?_
 exact⟨rfl,by rw[show((a+1:Nat):Int)=(a:Int)+1 by omega];exact HR.out.kept (grewDN _ _ none) (by simp),HG.out.trans (grewDN _ _ _)⟩
set_option maxRecDepth 100000 in
set_option maxHeartbeats 1000000 in
theorem next_none (r:Nat) (t left:ByteArray) (en:UInt8) (m a:Nat) (e:Int) (w:World) (h:RD w r t left en m (a:Int) e) (ha:¬a<t.size) (hs:t.size≤1000000):
  Calls Tryz.prog 173 #[.pointer (some ⟨r,0,none⟩)] w fun en' w'=>en'=.returned (.tuple #[.int .u8 0,.bool false])∧RD w' r t left en m (t.size:Int) 8∧w.grownBy w' (some r):=by
 have HR:=Lib.hid h
 obtain⟨c0,c1,c2,c3,c4,c5,f4,f5⟩:=h.cells
 go_enter Tryz.func173,Tryz.ntmps173
 clear h
 have i1:(t.size:Int)≤(a:Int):=by omega
 go_wp2_with fail
 go_quiet (fail)
 go_wp2_with fail
 refine bodyPost_ret (v:=.tuple #[.int .u8 0,.bool false]) (by simp[results,Tryz.results173,go_sem]) rfl ?_
 exact⟨rfl,((HR.out.kept (grewDN w _ none) (by simp)).setAt _).setE 8,((grewDN _ _ _).trans (grewSet _ _ _ _)).trans (grewSet _ _ _ _)⟩
set_option maxRecDepth 100000 in
set_option maxHeartbeats 1000000 in
theorem sees_any (r:Nat) (t left:ByteArray) (en:UInt8) (m a:Nat) (e:Int) (b:UInt8) (w:World) (h:RD w r t left en m (a:Int) e) (hs:t.size≤1000000):
  Calls Tryz.prog 144 #[.pointer (some ⟨r,0,none⟩),u8V b] w fun en' w'=>en'=.returned (.bool (decide (t.data.toList[a]?=some b)))∧w.grownBy w' none:=by
 have HR:=Lib.hid h
 obtain⟨c0,c1,c2,c3,c4,c5,f4,f5⟩:=h.cells
 clear h
 by_cases ha:a<t.size
 ·have hq:decide (t.data.toList[a]?=some b)=(((t[a].toNat:Int))==((b.toNat:Int))):=by
   rw[Bool.eq_iff_iff,decide_eq_true_eq,beq_iff_eq,Lib.data_getElem? t a ha,Option.some.injEq,←UInt8.toNat_inj]
   omega
  rw[hq]
  go_enter Tryz.func144,Tryz.ntmps144
  have i1:(a:Int)<(t.size:Int):=by omega
  have i2:(0:Int)≤(a:Int):=by omega
  go_wp2_with fail
  go_quiet (fail)
  go_wp2_with fail
  go_ret
  exact⟨rfl,grewDN _ _ _⟩
 ·have hq:decide (t.data.toList[a]?=some b)=false:=by
   rw[List.getElem?_eq_none (by have:=sz_data t;omega)];rfl
  rw[hq]
  go_enter Tryz.func144,Tryz.ntmps144
  have i1:¬(a:Int)<(t.size:Int):=by omega
  go_wp2_with fail
  go_quiet (fail)
  go_wp2_with fail
  go_ret
  exact⟨rfl,grewDN _ _ _⟩
end Go.Proofs.YtpfokabdpmjobaaGreatDoor
namespace Go.Proofs.YtpfokabdpmjobaaGreatDoor
open Go.RowKit
set_option linter.unusedSimpArgs false
set_option linter.unusedVariables false
def escF (left:List UInt8):UInt8→Option Value:=fun c=>(meantB left c).map u8V
theorem escF_step (l:List UInt8) (x c:UInt8):escF (l++[x]) c=if c=x then some (u8V x)else escF l c:=by
 unfold escF meantB
 by_cases h:c=x
 ·subst h;simp
 ·by_cases h2:c∈l <;> simp[h,h2]
theorem escF_nil (c:UInt8):(if c=92 then some (.int .u8 92)else if c=116 then some (.int .u8 9)else if c=114 then some (.int .u8 13)else if c=110 then some (.int .u8 10)else none:Option Value)=escF [] c:=by
 unfold escF meantB
 by_cases h1:c=92
 ·subst h1;rfl
 by_cases h2:c=116
 ·subst h2;rfl
 by_cases h3:c=114
 ·subst h3;rfl
 by_cases h4:c=110
 ·subst h4;rfl
 simp[h1,h2,h3,h4]
def MapPost (n:Nat) (f:UInt8→Option Value) (w:World) (e:Ending) (w':World):Prop:=∃b,e=.returned (.map (some b))∧BMap w' b n f∧Below w.heap.size w w'∧w.heap.size≤b
theorem below_turned {w w':World} {o:Obj} (h:(w.alloc o).grownBy w' (some w.heap.size)):Below w.heap.size w w':=((Below.refl _ w).alloc (Nat.le_refl _) o).grown h (by simp) (fun k hk=>by cases hk;exact Nat.le_refl _)
set_option maxRecDepth 100000 in
set_option maxHeartbeats 1000000 in
theorem escapes_any (left:ByteArray) (w:World) (hs:left.size≤1000):
  Calls Tryz.prog 172 #[.string left] w (MapPost 1004 (escF left.data.toList) w):=by
 have hmm:=@run_makeMap Tryz.prog
 unfold MapPost
 have HM0:=Lib.hid (BMap.made w)
 go_enter Tryz.func172,Tryz.ntmps172
 go_wp2_with (first
  |(refine wpList_insert_bmap rfl _ _ _ _ rfl 5 Tryz.underlying179 _ _ _ rfl HM0.out (by decide) 110 _ rfl rfl (.int .u8 10) rfl ?_;intro w1 HM1 HG1)
  |(refine wpList_insert_bmap rfl _ _ _ _ rfl 5 Tryz.underlying179 _ _ _ rfl HM1.out (by decide) 114 _ rfl rfl (.int .u8 13) rfl ?_;intro w2 HM2 HG2)
  |(refine wpList_insert_bmap rfl _ _ _ _ rfl 5 Tryz.underlying179 _ _ _ rfl HM2.out (by decide) 116 _ rfl rfl (.int .u8 9) rfl ?_;intro w3 HM3 HG3)
  |(refine wpList_insert_bmap rfl _ _ _ _ rfl 5 Tryz.underlying179 _ _ _ rfl HM3.out (by decide) 92 _ rfl rfl (.int .u8 92) rfl ?_;intro w4 HM4 HG4)
  |fail)
 have HB:=Lib.hid ((HM4.out.ext escF_nil).mono (show 0+1+1+1+1≤4+0 by decide))
 have HG:=Lib.hid (((HG1.out.trans HG2.out).trans HG3.out).trans HG4.out)
 clear HM0 HM1 HM2 HM3 HM4 HG1 HG2 HG3 HG4
 go_loopw [4] (fun i wr=>∃k:Nat,k≤left.size∧i=.int .i64 k∧Hid (BMap wr w.heap.size (4+k) (escF (left.data.toList.take k)))∧Hid ((w.alloc (.map #[] 0)).grownBy wr (some w.heap.size))) (fun i _=>left.size-(intOf i).toNat)
 case atStart=>exact⟨0,Nat.zero_le _,rfl,by simpa using HB,HG⟩
 case round=>
  clear HB HG
  obtain⟨k,hk,rfl,HB,HG⟩:=hrel
  by_cases hlt:k<left.size
  ·have i1:(k:Int)<(left.size:Int):=by omega
   have i2:(0:Int)≤(k:Int):=by omega
   go_upto_region 5 with(fail)
   go_still_tail 7,(by kernel_rfl)
   change wpList _ _ _ _ _ wr.drew
   have HBD:=Lib.hid (HB.out.kept (grewD wr none) (by simp))
   have HTK:=Lib.hid (take_at left k hlt)
   refine wpList_store_bmap rfl _ _ _ _ rfl 5 Tryz.underlying179 _ _ _ rfl HBD.out (by unfold maxLen;omega) left[k] _ rfl rfl (u8V left[k]) rfl ?_
   intro w5 HB5 HG5
   have HB6:=Lib.hid ((HB5.out.ext (fun c=>(escF_step _ _ _).symm)))
   have HG6:=Lib.hid ((HG.out.trans (grewD wr _)).trans HG5.out)
   clear HB HG HBD HB5 HG5
   go_wp2_with fail
   exact⟨⟨k+1,by omega,by go_num,by rw[HTK.out];exact HB6,HG6⟩,by simp only[intOf];omega⟩
  ·obtain rfl:k=left.size:=by omega
   go_wp2_with fail
   go_ret
   exact⟨_,rfl,(by
    have h:=HB.out
    rw[take_all _ _ (Nat.le_refl _)]at h
    exact h.mono (by omega)),below_turned HG.out,Nat.le_refl _⟩
end Go.Proofs.YtpfokabdpmjobaaGreatDoor
namespace Go.Proofs.YtpfokabdpmjobaaGreatDoor
open Go.RowKit
set_option linter.unusedSimpArgs false
set_option linter.unusedVariables false
abbrev fnV (f:Nat):Value:=.func (.func f) #[] #[]
abbrev sgV (B:Nat):Value:=.func (.func 121) #[] #[.pointer (some ⟨B,0,none⟩)]
def sgn:List UInt8:=[47,38,33,63,42,43,40,41,60,62,58]
def base4 (c:UInt8):Option Value:=if c=46 then some (fnV 98)else if c=91 then some (fnV 97)else if c=34 then some (fnV 96)else if c=123 then some (fnV 95)else none
def sgnF (Bs:Nat→Nat) (k:Nat) (c:UInt8):Option Value:=if c∈sgn.take k then some (sgV (Bs (sgn.idxOf c)))else base4 c
theorem sgnF_step (Bs:Nat→Nat) (k B:Nat) (hk:k<11) (c:UInt8):(if c=sgn[k]'hk then some (sgV B)else sgnF Bs k c)=sgnF (fun j=>if j=k then B else Bs j) (k+1) c:=by
 have hn:sgn.Nodup:=by decide
 have e:sgn.take (k+1)=sgn.take k++[sgn[k]'hk]:=by rw[List.take_succ_eq_append_getElem hk]
 unfold sgnF
 rw[e]
 by_cases h:c=sgn[k]'hk
 ·subst h
  rw[if_pos rfl,if_pos (by simp),hn.idxOf_getElem k hk]
  show _=some (sgV (if k=k then B else Bs k))
  rw[if_pos rfl]
 ·rw[if_neg h]
  by_cases h2:c∈sgn.take k
  ·rw[if_pos h2,if_pos (by simp[h2])]
   have h3:sgn.idxOf c≠k:=fun e=>h (by
    have h4:c∈sgn:=List.mem_of_mem_take h2
    have h5:=List.getElem_idxOf (List.idxOf_lt_length_of_mem h4)
    rw[←h5];congr 1)
   show _=some (sgV (if sgn.idxOf c=k then B else Bs (sgn.idxOf c)))
   rw[if_neg h3]
  ·rw[if_neg h2,if_neg (by simp[h,h2])]
def g0 (Bs:Nat→Nat) (c:UInt8):Option Value:=if c=60 then some (fnV 100)else sgnF Bs 11 c
def letF (Bs:Nat→Nat) (k:Nat) (c:UInt8):Option Value:=if c.toNat<k∧isLetter c.toNat=true then some (fnV 101)else g0 Bs c
theorem letF_yes (Bs:Nat→Nat) (k:Nat) (hk:k<256) (hl:isLetter k=true) (c:UInt8):(if c=UInt8.ofNat k then some (fnV 101)else letF Bs k c)=letF Bs (k+1) c:=by
 have hn:(UInt8.ofNat k).toNat=k:=by simp;omega
 unfold letF
 by_cases h:c=UInt8.ofNat k
 ·rw[if_pos h,if_pos ⟨by rw[h,hn];omega,by rw[h,hn];exact hl⟩]
 ·rw[if_neg h]
  have h2:c.toNat≠k:=fun e=>h (UInt8.toNat_inj.1 (by rw[hn,e]))
  by_cases h3:c.toNat<k∧isLetter c.toNat=true
  ·rw[if_pos h3,if_pos ⟨by omega,h3.2⟩]
  ·rw[if_neg h3,if_neg (fun h4=>h3 ⟨by omega,h4.2⟩)]
theorem letF_no (Bs:Nat→Nat) (k:Nat) (hl:isLetter k=false) (c:UInt8):letF Bs k c=letF Bs (k+1) c:=by
 unfold letF
 by_cases h2:c.toNat=k
 ·rw[if_neg (fun h=>by omega),if_neg (fun h=>by rw[h2,hl]at h;simp at h)]
 ·by_cases h3:c.toNat<k∧isLetter c.toNat=true
  ·rw[if_pos h3,if_pos ⟨by omega,h3.2⟩]
  ·rw[if_neg h3,if_neg (fun h4=>h3 ⟨by omega,h4.2⟩)]
structure Reads (w:World) (base m:Nat) (Bs:Nat→Nat):Prop where
 map:BMap w m 300 (letF Bs 256)
 box:∀j,j<11→base≤Bs j∧w.heap[Bs j]?=some (.cells #[.int .u8 ((3+j:Nat):Int)] 5 (0,0))
theorem sgn_key (k:Nat) (hk:k<11) (h:k<(⟨#[47,38,33,63,42,43,40,41,60,62,58]⟩:ByteArray).size):(((⟨#[47,38,33,63,42,43,40,41,60,62,58]⟩:ByteArray)[k]).toNat:Int)=((sgn[k]'hk).toNat:Int):=rfl
set_option maxRecDepth 100000 in
set_option maxHeartbeats 2000000 in
theorem readings_any (w:World):Calls Tryz.prog 66 #[] w fun e w'=>∃m Bs,e=.returned (.map (some m))∧Reads w' w.heap.size m Bs∧Below w.heap.size w w'∧w.heap.size≤m:=by
 have hmm:=@run_makeMap Tryz.prog
 have HM0:=Lib.hid (BMap.made w)
 go_enter Tryz.func66,Tryz.ntmps66
 go_wp2_with (first
  |(refine wpList_insert_bmap rfl _ _ _ _ rfl 111 Tryz.underlying107 _ _ _ rfl HM0.out (by decide) 123 _ rfl rfl (fnV 95) rfl ?_;intro w1 HM1 HG1)
  |(refine wpList_insert_bmap rfl _ _ _ _ rfl 111 Tryz.underlying107 _ _ _ rfl HM1.out (by decide) 34 _ rfl rfl (fnV 96) rfl ?_;intro w2 HM2 HG2)
  |(refine wpList_insert_bmap rfl _ _ _ _ rfl 111 Tryz.underlying107 _ _ _ rfl HM2.out (by decide) 91 _ rfl rfl (fnV 97) rfl ?_;intro w3 HM3 HG3)
  |(refine wpList_insert_bmap rfl _ _ _ _ rfl 111 Tryz.underlying107 _ _ _ rfl HM3.out (by decide) 46 _ rfl rfl (fnV 98) rfl ?_;intro w4 HM4 HG4)
  |fail)
 have HB:=Lib.hid ((HM4.out.mono (show 0+1+1+1+1≤4+0 by decide)).ext (g:=sgnF (fun _=>0) 0) (fun c=>by simp[sgnF,base4]))
 have HG:=Lib.hid (((HG1.out.trans HG2.out).trans HG3.out).trans HG4.out)
 clear HM0 HM1 HM2 HM3 HM4 HG1 HG2 HG3 HG4
 have HB0:=Lib.hid (below_turned HG.out)
 have HLT:=Lib.hid HB.out.lt
 go_loopw [2] (fun i wr=>∃(k:Nat) (Bs:Nat→Nat),k≤11∧i=.int .i64 (k:Int)∧Hid (BMap wr w.heap.size (4+k) (sgnF Bs k))∧Hid (∀j,j<k→w.heap.size<Bs j∧wr.heap[Bs j]?=some (.cells #[.int .u8 ((3+j:Nat):Int)] 5 (0,0)))∧Hid (Below w.heap.size w wr)) (fun i _=>11-(intOf i).toNat)
 case atStart=>exact⟨0,fun _=>0,by omega,rfl,HB,Lib.hid (fun j hj=>by omega),HB0⟩
 case round=>
  clear HB HG HB0
  obtain⟨k,Bs,hk,rfl,HB,HX,HW⟩:=hrel
  by_cases hlt:k<11
  ·have i1:(k:Int)<11:=by omega
   have i2:(0:Int)≤(k:Int):=by omega
   have i3:IntKind.u8.wrap (k:Int)=(k:Int):=by rw[show IntKind.u8.wrap (k:Int)=(k:Int)%256 by simp[IntKind.wrap,IntKind.signed,IntKind.bits]];omega
   go_upto_region 5 with(fail)
   have i4:IntKind.u8.wrap (3+(k:Int))=3+(k:Int):=by rw[show IntKind.u8.wrap (3+(k:Int))=(3+(k:Int))%256 by simp[IntKind.wrap,IntKind.signed,IntKind.bits]];omega
   have HBD:=Lib.hid (((HB.out.below (bx1 wr (.cells #[.int .u8 (3+(k:Int))] 5))).kept (grewD _ none) (by simp)))
   have HKY:=Lib.hid (sgn_key k hlt (by show k<11;exact hlt))
   have hn4:4+k<maxLen:=by unfold maxLen;omega
   obtain⟨w5,hrun,h5,hg5⟩:=HBD.out.store (t:=107) (e:=111) Tryz.underlying107 hn4 (sgn[k]'hlt) (sgV wr.heap.size)
   rw[←HKY.out]at hrun
   have HB5:=Lib.hid h5;have HG5:=Lib.hid hg5
   clear h5 hg5
   go_region_held3 (fun _=>True) (trivial) (first
    |(go_at_call 99;refine(sign_fn _ _).mono ?_;rintro e w' ⟨rfl,rfl⟩)
    |fail)
   all_goals
    have HX5:=Lib.hid (show ∀j,j<k+1→w.heap.size<(if j=k then wr.heap.size else Bs j)∧w5.heap[(if j=k then wr.heap.size else Bs j)]?=some (.cells #[.int .u8 ((3+j:Nat):Int)] 5 (0,0))from fun j hj=>by
     by_cases h:j=k
     ·subst h
      rw[if_pos rfl]
      have hl:w.heap.size<wr.heap.size:=HB.out.lt
      exact⟨hl,(HG5.out.block _ (by show wr.heap.size<(wr.alloc _).heap.size;simp) (by simp;omega)).trans (bx_new wr _)⟩
     ·rw[if_neg h]
      obtain⟨h1,h2⟩:=HX.out j (by omega)
      have hl:=(Array.getElem?_eq_some_iff.1 h2).1
      exact⟨h1,(HG5.out.block _ (by show Bs j<(wr.alloc _).heap.size;simp;omega) (by simp;omega)).trans (bx_old h2)⟩)
    have HW5:=Lib.hid (((HW.out.alloc HW.out.size _).drew).grown HG5.out (by show w.heap.size≤(wr.alloc _).heap.size;simp;have:=HW.out.size;omega) (fun j hj=>by cases hj;exact Nat.le_refl _))
    have HB6:=Lib.hid ((HB5.out.ext (fun c=>sgnF_step Bs k wr.heap.size hlt c)))
    clear HBD HKY hrun HB5 HG5
    go_wp2_with fail
    exact⟨⟨k+1,_,by omega,by go_num,HB6,HX5,HW5⟩,by simp only[intOf];omega⟩
  ·have hke:k=11:=by omega
   subst hke
   go_wp2_with (first
    |(at_mapUpdate;refine wpList_store_bmap rfl _ _ _ _ rfl 111 Tryz.underlying107 _ _ _ rfl HB.out (by decide) 60 _ rfl rfl (fnV 100) rfl ?_;intro w5 HB5 HG5)
    |fail)
   have HB6:=Lib.hid (HB5.out.ext (g:=letF Bs 0) (fun c=>by
    show(if c=60 then some (fnV 100)else sgnF Bs 11 c)=letF Bs 0 c
    unfold letF;rw[if_neg (show ¬(c.toNat<0∧isLetter c.toNat=true)from fun h=>Nat.not_lt_zero _ h.1)];rfl))
   have HX5:=Lib.hid (show ∀j,j<11→w.heap.size≤Bs j∧w5.heap[Bs j]?=some (.cells #[.int .u8 ((3+j:Nat):Int)] 5 (0,0))from fun j hj=>by
    obtain⟨h1,h2⟩:=HX.out j hj
    exact⟨by omega,(HG5.out.block _ (Array.getElem?_eq_some_iff.1 h2).1 (by simp;omega)).trans h2⟩)
   have HW5:=Lib.hid (HW.out.grown HG5.out HW.out.size (fun j hj=>by cases hj;exact Nat.le_refl _))
   have HNB:=Lib.hid (show ∀j,j<11→Bs j≠w.heap.size from fun j hj=>by have:=(HX.out j hj).1;omega)
   clear HB HX HW HB5 HG5
   go_loopw [18] (fun i wx=>∃(k:Nat),k≤256∧i=.int .i64 (k:Int)∧Hid (BMap wx w.heap.size (4+11+1+k) (letF Bs k))∧Hid (∀j,j<11→w.heap.size≤Bs j∧wx.heap[Bs j]?=some (.cells #[.int .u8 ((3+j:Nat):Int)] 5 (0,0)))∧Hid (Below w.heap.size w wx)) (fun i _=>256-(intOf i).toNat)
   case atStart=>exact⟨0,by omega,rfl,HB6,HX5,HW5⟩
   case round=>
    clear HB6 HX5 HW5 hlt hk
    rename World=>wz
    obtain⟨k,hk,rfl,HB,HX,HW⟩:=hrel
    by_cases hlt:k<256
    ·have i1:(k:Int)<256:=by omega
     have i3:IntKind.u8.wrap (k:Int)=(k:Int):=by rw[show IntKind.u8.wrap (k:Int)=(k:Int)%256 by simp[IntKind.wrap,IntKind.signed,IntKind.bits]];omega
     have HBN:=Lib.hid (show(UInt8.ofNat k).toNat=k from by simp;omega)
     cases hl:isLetter (k:Int)
     ·have HL:=Lib.hid hl
      have HB2:=Lib.hid ((HB.out.ext (letF_no Bs k (by exact_mod_cast hl))).mono (show 4+11+1+k≤4+11+1+(k+1)by omega))
      clear hl
      go_wp2_with (first
       |(go_at_call 89;refine(letter_any (k:Int) _).mono ?_;rintro e w' ⟨rfl,rfl⟩;rw[HL.out])
       |fail)
      exact⟨⟨k+1,by omega,by go_num,HB2,HX,HW⟩,by simp only[intOf];omega⟩
     ·have HL:=Lib.hid hl
      have hn3:4+11+1+k<maxLen:=by unfold maxLen;omega
      go_wp2_with (first
       |(go_at_call 89;refine(letter_any (k:Int) _).mono ?_;rintro e w' ⟨rfl,rfl⟩;rw[HL.out])
       |(at_mapUpdate;refine wpList_store_bmap rfl _ _ _ _ rfl 111 Tryz.underlying107 _ _ _ rfl HB.out hn3 (UInt8.ofNat k) _ (show((UInt8.ofNat k).toNat:Int)=(k:Int)from congrArg _ HBN.out) rfl (fnV 101) rfl ?_;intro w6 HB6 HG6)
       |fail)
      have HB7:=Lib.hid (HB6.out.ext (letF_yes Bs k hlt (by exact_mod_cast hl)))
      refine⟨⟨k+1,by omega,by go_num,HB7,Lib.hid fun j hj=> ?_,Lib.hid (HW.out.grown HG6.out HW.out.size (fun j hj=>by cases hj;exact Nat.le_refl _))⟩,by simp only[intOf];omega⟩
      obtain⟨h1,h2⟩:=HX.out j hj
      exact⟨h1,(HG6.out.block _ (Array.getElem?_eq_some_iff.1 h2).1 (by have:=HNB.out j hj;simp;omega)).trans h2⟩
    ·have hke:k=256:=by omega
     subst hke
     go_wp2_with fail
     go_ret
     exact⟨_,Bs,rfl,⟨HB.out.mono (by decide),HX.out⟩,HW.out,Nat.le_refl _⟩
end Go.Proofs.YtpfokabdpmjobaaGreatDoor
