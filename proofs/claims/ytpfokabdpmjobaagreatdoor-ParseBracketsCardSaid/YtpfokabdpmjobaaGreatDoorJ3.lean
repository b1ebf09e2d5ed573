/- The contracts of the law's of, wrong and awake (layer 7). -/
import Derived.Test.YtpfokabdpmjobaaGreatDoorJ2
import Derived.Test.YtpfokabdpmjobaaGreatDoorIo
import Derived.Test.YtpfokabdpmjobaaGreatDoorTt
import Derived.Test.YtpfokabdpmjobaaGreatDoorDq
import Derived.Test.YtpfokabdpmjobaaGreatDoorLk
import Derived.Deep.RegionHeld3
import Derived.Deep.DeepCutAuto
import Derived.Deep.Cut
import Derived.Deep.CutRange
namespace Go.Proofs.YtpfokabdpmjobaaGreatDoor
open Go.RowKit
set_option linter.unusedSimpArgs false
set_option linter.unusedVariables false
def setLfP (a b c d:Int):Nd:=⟨1,a,b,c,d,⟨#[]⟩,0,0,[]⟩
set_option maxRecDepth 100000 in
set_option maxHeartbeats 1600000 in
theorem tset7_any (a b c d:Int) (w:World) (h1:U64 a) (h2:U64 b) (h3:U64 c) (h4:U64 d):
  Calls Tryz.prog 31 #[.agg #[.int .u64 a,.int .u64 b,.int .u64 c,.int .u64 d]] w (LeafPost (setLfP a b c d) w):=by
 unfold LeafPost
 have HWF:=Lib.hid (show(setLfP a b c d).wf from⟨by simp[setLfP],by simp[setLfP];decide,by simp[setLfP],h1,h2,h3,h4⟩)
 have HB0:=Lib.hid (bx2 w (.cells #[.int .u64 a,.int .u64 b,.int .u64 c,.int .u64 d] 30) (.cells #[.slice none 0 0,.int .i64 0] 40))
 have hk:=bx_new (w.alloc (.cells #[.int .u64 a,.int .u64 b,.int .u64 c,.int .u64 d] 30)) (.cells #[.slice none 0 0,.int .i64 0] 40)
 rw[World.size_alloc]at hk
 have HK0:=Lib.hid hk
 clear hk h1 h2 h3 h4
 have HSZ:=Lib.hid (show ∀x,((w.alloc (.cells #[.int .u64 a,.int .u64 b,.int .u64 c,.int .u64 d] 30)).alloc (.cells #[.slice none 0 0,.int .i64 0] 40)).heap.size≤x↔w.heap.size+2≤x from fun x=>by simp)
 go_enter Tryz.func31,Tryz.ntmps31
 go_wp2_with (go_at_call 57;refine(leaf_any (setLfP a b c d) _ HWF.out rfl).mono ?_;rintro e w1 ⟨b1,rfl,ht,hb⟩;have HT:=Lib.hid ht;have HB:=Lib.hid (Below.step HB0.out hb);obtain⟨t1,t2,t3,t4⟩:=blk2 (bx_kept hb HK0.out);clear ht hb)
 refine bodyPost_ret (v:=.agg #[.slice (some ⟨b1,0,none⟩) 1 1,.int .i64 0]) (by simp[results,Tryz.results31,go_sem,t1,t2]) rfl ?_
 refine⟨b1,rfl,(HT.out.agree (fun x hx _=> ?_)).mono (fun x _ hx=> ?_),(HB.out.setCell (p:=⟨w.heap.size+1,0,none⟩) (by simp) _).setCell (p:=⟨w.heap.size+1,1,none⟩) (by simp) _⟩
 ·have hx:=(HSZ.out x).1 hx
  exact(Below.heap_setCell _ _ _ _ (by show x≠w.heap.size+1;omega)).trans (Below.heap_setCell _ _ _ _ (by show x≠w.heap.size+1;omega))
 ·have hx:=(HSZ.out x).1 hx
  show w.heap.size≤x;omega
set_option maxRecDepth 100000 in
set_option maxHeartbeats 3200000 in
theorem of7_any (n:Nd) (K:Value) (L:Option Addr) (lc:Nat) (ks:List Lt) (S:Nat→Prop) (w:World) (hn:n.wf) (hL:ttL.row w S L ks) (hl:ks.length≤16777216) (hsum:(ks.map fun t=>t.ls.length).sum≤16777216) (ht:CntTab w) (hok:okT n (ks.map Lt.tr)=true):
  Calls Tryz.prog 28 #[ndV n K,.slice L ks.length lc] w (TreePost (ofT n (ks.map Lt.tr)) w):=by
 have HB0:=Lib.hid (bx2 w (.cells #[.int .u8 n.kind,.int .u64 n.s0,.int .u64 n.s1,.int .u64 n.s2,.int .u64 n.s3,.string n.text,.int .i64 n.mn,.int .i64 n.mx,K] 54) (.cells #[.slice none 0 0,.int .i64 0] 40))
 have hk:=bx_new (w.alloc (.cells #[.int .u8 n.kind,.int .u64 n.s0,.int .u64 n.s1,.int .u64 n.s2,.int .u64 n.s3,.string n.text,.int .i64 n.mn,.int .i64 n.mx,K] 54)) (.cells #[.slice none 0 0,.int .i64 0] 40)
 rw[World.size_alloc]at hk
 have HK0:=Lib.hid hk;clear hk
 have HC:=Lib.hid (oft_any n K L lc ks S _ hn (hL.below HB0.out) hl hsum (ht.below HB0.out))
 have HOK:=Lib.hid hok
 clear hn hL hsum ht hok
 unfold TreePost
 go_enter Tryz.func28,Tryz.ntmps28
 go_wp2_with fail
 refine HC.out.mono ?_
 rintro e w1 ⟨h1, -⟩
 obtain⟨⟨A,c,ls,root⟩,he,htr,hto,hb⟩:=h1 HOK.out
 simp only[Lt.val]at he;subst he
 have HTR:=Lib.hid htr;have HTO:=Lib.hid hto;have HB1:=Lib.hid (Below.step HB0.out hb);have HK1:=Lib.hid (bx_kept hb HK0.out)
 have HZ:=Lib.hid (show w.heap.size+2≤w1.heap.size∧ ∀x,(((w.alloc (.cells #[.int .u8 n.kind,.int .u64 n.s0,.int .u64 n.s1,.int .u64 n.s2,.int .u64 n.s3,.string n.text,.int .i64 n.mn,.int .i64 n.mx,K] 54)).alloc (.cells #[.slice none 0 0,.int .i64 0] 40)).heap.size≤x↔w.heap.size+2≤x)from⟨by have:=hb.size;simp at this;omega,fun x=>by simp⟩)
 clear h1 htr hto hb HB0 HK0 HC
 have HN:=Lib.hid (bx_new w1 (.cells #[.slice A ls.length c,.int .i64 root] 40))
 obtain⟨q1,q2,_,_⟩:=blk2 HN.out
 obtain⟨t1,t2,t3,t4⟩:=blk2 (bx_old (p:=.cells #[.slice A ls.length c,.int .i64 root] 40) HK1.out)
 go_wp2_with fail
 refine bodyPost_ret (v:=.agg #[.slice A ls.length c,.int .i64 root]) (by simp[results,Tryz.results28,go_sem,t1,t2]) rfl ?_
 refine⟨⟨A,c,ls,root⟩,rfl,HTR.out,?_,?_⟩
 ·have h:=HTO.out.below (bx1 w1 (.cells #[.slice A ls.length c,.int .i64 root] 40))
  refine(h.agree (fun x hx _=> ?_)).mono (fun x _ hx=> ?_)
  ·have hx:=(HZ.out.2 x).1 hx
   exact(Below.heap_setCell _ _ _ _ (by show x≠w.heap.size+1;omega)).trans (Below.heap_setCell _ _ _ _ (by show x≠w.heap.size+1;omega))
  ·have hx:=(HZ.out.2 x).1 hx
   show w.heap.size≤x;omega
 ·exact((HB1.out.alloc (by have:=HZ.out.1;omega) _).setCell (p:=⟨w.heap.size+1,0,none⟩) (by simp) _).setCell (p:=⟨w.heap.size+1,1,none⟩) (by simp) _
theorem wrong7_any (s:ByteArray) (a e0:Nat) (w:World) (hs:s.size≤281474976710656) (ht:CntTab w) (hg:gramP s.data.toList=([],a,e0)):
  Calls Tryz.prog 36 #[.string s,.int .i64 (a:Int),.int .i64 (e0:Int)] w fun e w'=>e=.returned (.bool true)∧Below w.heap.size w w':=by
 have HG:=Lib.hid (show Calls Tryz.prog 10 #[.string s] w fun e w'=>∃A c,e=.returned (.tuple #[.agg #[.slice A 0 c],.int .i64 (a:Int),.int .i64 (e0:Int)])∧Below w.heap.size w w' from(pgrammar_any s w hs ht).mono fun e w' hp=>by
  obtain⟨A,c,ds,h1,h2,_,_,_,h3⟩:=hp
  rw[hg]at h1 h2
  have hd:ds=[]:=List.map_eq_nil_iff.1 h2
  subst hd
  exact⟨A,c,h1,h3⟩)
 clear hg ht hs
 go_enter Tryz.func36,Tryz.ntmps36
 go_wp2_with (first
  |(go_at_call 10;(with_reducible refine HG.out.mono ?_);rintro e w1 ⟨A,c,rfl,hb⟩;have HB:=Lib.hid hb;clear hb)
  |fail)
 go_ret
 exact⟨rfl,HB.out.alloc HB.out.size _⟩
def smallTyJ (T:Tr):Bool:=decide (T.nodes.length≤1000)&&(T.nodes.all fun n=>decide (n.kids.length≤1000))&&decide ((kidsOf T.nodes).length≤1000)
structure TYJ (w:World) (T:Tr) (t:Lt):Prop where
 inn:t.inn w (fun _=>True)
 tr:t.tr=T
 small:smallTyJ T=true
theorem TYJ.below {w w':World} {T:Tr} {t:Lt} (h:TYJ w T t) (hb:Below w.heap.size w w'):TYJ w' T t:=⟨h.inn.below hb,h.tr,h.small⟩
theorem TYJ.len {w:World} {T:Tr} {t:Lt} (h:TYJ w T t):t.ls.length≤1000∧(∀l∈t.ls,l.nd.kids.length≤1000)∧(kidsOf (t.ls.map Ln.nd)).length≤1000:=by
 have h1:=h.small
 simp only[smallTyJ,Bool.and_eq_true,decide_eq_true_eq,List.all_eq_true]at h1
 have h2:T.nodes=t.ls.map Ln.nd:=by rw[←h.tr];rfl
 rw[h2]at h1
 refine⟨by simpa using h1.1.1,fun l hl=>h1.1.2 _ (List.mem_map.2 ⟨l,hl,rfl⟩),h1.2⟩
theorem TYJ.own {w':World} {S:Nat→Prop} {T:Tr} {t:Lt} (h:TreeOwn w' S t) (e:t.tr=T) (hs:smallTyJ T=true):TYJ w' T t:=⟨h.inn.mono (fun _ _ _=>trivial),e,hs⟩
def TyPostJ (T:Tr) (w:World) (e:Ending) (w':World):Prop:=∃v:Lt,e=.returned (.agg #[.slice v.A v.ls.length v.c,.int .i64 v.root])∧TYJ w' T v∧TreeOwn w' (w.heap.size ≤ ·) v∧Below w.heap.size w w'
theorem of7_row (n:Nd) (ks:List Lt) (Ts:List Tr) (nb:Nat) (w:World) (hn:n.wf) (hh:w.heap[nb]?=some (.cells (ttL.all ks).toArray 40 (0,0))) (hT:ks.map Lt.tr=Ts) (hk:∀t∈ks,∃T,TYJ w T t) (hl:ks.length≤4) (hok:okT n Ts=true) (hs:smallTyJ (ofT n Ts)=true) (hct:CntTab w) (K:Value) (m lc:Nat) (hm:ks.length=m):
  Calls Tryz.prog 28 #[ndV n K,.slice (some ⟨nb,0,none⟩) m lc] w (TyPostJ (ofT n Ts) w):=by
 subst hT hm
 have hrow:ttL.row w (fun _=>True) (some ⟨nb,0,none⟩) ks:=⟨⟨row_blk hh,fun _ _ _=>trivial⟩,fun t ht=>by
  obtain⟨T,h⟩:=hk t ht;exact h.inn⟩
 have hsum:(ks.map fun t=>t.ls.length).sum≤1000*ks.length:=by
  clear hrow hok hs hl hh
  induction ks with
  |nil=>simp
  |cons a ks ih=>
   have h1:=ih (fun t ht=>hk t (List.mem_cons_of_mem _ ht))
   obtain⟨T,h⟩:=hk a List.mem_cons_self
   have h2:=h.len.1
   simp only[List.map_cons,List.sum_cons,List.length_cons];omega
 refine(of7_any n K (some ⟨nb,0,none⟩) lc ks _ w hn hrow (by omega) (by omega) hct hok).mono ?_
 rintro e w' ⟨v,rfl,htr,hto,hb⟩
 exact⟨v,rfl,.own hto htr hs,hto,hb⟩
def kindJ (k:Int):Nd:=⟨k,0,0,0,0,⟨#[]⟩,0,0,[]⟩
def repJ:Nd:=⟨6,0,0,0,0,⟨#[]⟩,0, -1,[]⟩
theorem kindJ_wf (k:Int) (h:0≤k∧k≤255):(kindJ k).wf:=⟨h,by simp[kindJ];decide,by simp[kindJ],by simp[kindJ,U64],by simp[kindJ,U64],by simp[kindJ,U64],by simp[kindJ,U64]⟩
theorem repJ_wf:repJ.wf:=⟨by simp[repJ],by simp[repJ];decide,by simp[repJ],by simp[repJ,U64],by simp[repJ,U64],by simp[repJ,U64],by simp[repJ,U64]⟩
def oneJ (n:Nd):Tr:=⟨[n],0⟩
def allJ:Nd:=setLfP 18446744073709551615 18446744073709551615 18446744073709551615 18446744073709551615
def digJ:Nd:=setLfP (wordF (rngF 48 57) 0:Nat) (wordF (rngF 48 57) 1:Nat) (wordF (rngF 48 57) 2:Nat) (wordF (rngF 48 57) 3:Nat)
abbrev awR:Tr:=ofT repJ [oneJ (ruleLf ⟨#[98]⟩)]
abbrev awQ:Tr:=ofT (kindJ 4) [oneJ (textLf ⟨#[120]⟩),awR]
abbrev awN:Tr:=ofT (kindJ 8) [oneJ allJ]
abbrev awT:Tr:=ofT (kindJ 5) [awQ,awN]
abbrev awSrc:ByteArray:=⟨#[97,32,60,45,32,34,120,34,32,98,42,32,47,32,33,46,10,98,32,60,45,32,91,48,45,57,93]⟩
theorem aw_gram:gramP awSrc.data.toList=([⟨⟨#[97]⟩,awT⟩,⟨⟨#[98]⟩,oneJ digJ⟩],0,0):=by kernel_rfl
theorem aw_ok:okT repJ [oneJ (ruleLf ⟨#[98]⟩)]=true∧okT (kindJ 4) [oneJ (textLf ⟨#[120]⟩),awR]=true∧okT (kindJ 8) [oneJ allJ]=true∧okT (kindJ 5) [awQ,awN]=true:=⟨by kernel_rfl,by kernel_rfl,by kernel_rfl,by kernel_rfl⟩
theorem aw_same:sameT awT awT=true∧sameT (oneJ digJ) (oneJ digJ)=true:=⟨by kernel_rfl,by kernel_rfl⟩
theorem aw_1:gramP (⟨#[97,32,60,45,32,40,98]⟩:ByteArray).data.toList=([],7,4):=by kernel_rfl
theorem aw_2:gramP (⟨#[97,32,60,45,32,98]⟩:ByteArray).data.toList=([],5,41):=by kernel_rfl
theorem aw_3:gramP (⟨#[97,32,60,45,32,97,32,97,32,60,45,32,97]⟩:ByteArray).data.toList=([],7,6):=by kernel_rfl
theorem aw_4:gramP (⟨#[]⟩:ByteArray).data.toList=([],0,4):=by kernel_rfl
theorem aw_5:gramP (⟨#[97]⟩:ByteArray).data.toList=([],1,4):=by kernel_rfl
theorem aw_6:gramP (⟨#[97,32,60,45,32,33,47,32,98]⟩:ByteArray).data.toList=([],6,4):=by kernel_rfl
abbrev leafJ (b:Nat) (n:Nd):Lt:=⟨some ⟨b,0,none⟩,1,[⟨n,none,0⟩],0⟩
theorem row1J {w:World} {a:Lt} {S:Tr} (ha:TYJ w S a):∀t∈[a],∃T,TYJ w T t:=fun t ht=>by
 obtain rfl:=List.mem_singleton.1 ht
 exact⟨_,ha⟩
theorem row2J {w:World} {a b:Lt} {S T:Tr} (ha:TYJ w S a) (hb:TYJ w T b):∀t∈[a,b],∃T,TYJ w T t:=fun t ht=>by
 simp only[List.mem_cons,List.not_mem_nil,or_false]at ht
 rcases ht with rfl|rfl
 ·exact⟨_,ha⟩
 ·exact⟨_,hb⟩
theorem two_of {ds:List Ld} {x y:Df} (h:ds.map Ld.df=[x,y]):∃a b,ds=[a,b]∧a.df=x∧b.df=y:=by
 obtain⟨a,l,rfl,ha,hl⟩:=List.map_eq_cons_iff.1 h
 obtain⟨b,m,rfl,hb,hm⟩:=List.map_eq_cons_iff.1 hl
 obtain rfl:=List.map_eq_nil_iff.1 hm
 exact⟨a,b,rfl,ha,hb⟩
set_option maxRecDepth 100000 in
set_option maxHeartbeats 12800000 in
theorem awake7_any (w:World) (ht:CntTab w):Calls Tryz.prog 8 #[] w fun e w'=>e=.returned (.bool true)∧Below w.heap.size w w':=by
 have HCT:=Lib.hid ht
 have HG:=Lib.hid (show Calls Tryz.prog 10 #[.string awSrc] w fun e w'=>∃gb go c A0 c0 l0 r0 A1 c1 l1 r1,e=.returned (.tuple #[.agg #[.slice (some ⟨gb,go,none⟩) 2 c],.int .i64 0,.int .i64 0])∧((⟨A0,c0,l0,r0⟩:Lt).tr=awT∧l0.length≤300000)∧((⟨A1,c1,l1,r1⟩:Lt).tr=oneJ digJ∧l1.length≤300000)∧dfL.row w' (fun _=>True) (some ⟨gb,go,none⟩) [⟨⟨#[97]⟩,⟨A0,c0,l0,r0⟩⟩,⟨⟨#[98]⟩,⟨A1,c1,l1,r1⟩⟩]∧Below w.heap.size w w' from(pgrammar_any awSrc w (by decide) ht).mono fun e w' hp=>by
  obtain⟨A,c,ds,h1,h2,h3,h4,h5,h6⟩:=hp
  rw[aw_gram]at h1 h2
  obtain⟨⟨n0,⟨A0,c0,l0,r0⟩⟩,⟨n1,⟨A1,c1,l1,r1⟩⟩,rfl,k0,k1⟩:=two_of h2
  have e0:n0=⟨#[97]⟩:=congrArg Df.name k0
  have e1:n1=⟨#[98]⟩:=congrArg Df.name k1
  subst e0 e1
  have hrow:dfL.row w' (fun _=>True) A [⟨⟨#[97]⟩,⟨A0,c0,l0,r0⟩⟩,⟨⟨#[98]⟩,⟨A1,c1,l1,r1⟩⟩]:=⟨h4.row.mono (fun _ _ _=>trivial),fun d hd=>⟨(h5 d hd).1,(h5 d hd).2.inn.mono (fun _ _ _=>trivial)⟩⟩
  obtain⟨gb,go,rfl,_⟩:=dfRow hrow 0 (by simp)
  exact⟨gb,go,c,A0,c0,l0,r0,A1,c1,l1,r1,h1,⟨congrArg Df.body k0,h3 ⟨⟨#[97]⟩,⟨A0,c0,l0,r0⟩⟩ (by simp)⟩,⟨congrArg Df.body k1,h3 ⟨⟨#[98]⟩,⟨A1,c1,l1,r1⟩⟩ (by simp)⟩,hrow,h6⟩)
 clear ht
 go_enter Tryz.func8,Tryz.ntmps8
 go_upto_region 2 with(first
  |(go_at_call 10;(with_reducible refine HG.out.mono ?_);rintro e w1 ⟨gb,go,c,A0,c0,l0,r0,A1,c1,l1,r1,rfl,h1,h2,h3,h4⟩;have HD0:=Lib.hid h1;have HD1:=Lib.hid h2;have HGR:=Lib.hid h3;have HB1:=Lib.hid h4;clear h1 h2 h3 h4)
  |fail)
 have HK:=Lib.hid (bx_new w1 (.cells #[.slice (some ⟨gb,go,none⟩) 2 c] 35))
 have HGW:=Lib.hid (HGR.out.below (bx1 w1 (.cells #[.slice (some ⟨gb,go,none⟩) 2 c] 35)))
 have HB2:=Lib.hid (Below.step HB1.out (bx1 w1 (.cells #[.slice (some ⟨gb,go,none⟩) 2 c] 35)))
 generalize (w1.alloc (.cells #[.slice (some ⟨gb,go,none⟩) 2 c] 35))=w2 at *
 generalize w1.heap.size=bg at *
 clear HGR HB1 HG w1
 have HS:=Lib.hid (show ∀w',Below w2.heap.size w2 w'→w'.cell? ⟨bg,0,none⟩=some (.slice (some ⟨gb,go,none⟩) 2 c)∧w'.cell? ⟨gb,go,none⟩=some (.string ⟨#[97]⟩)∧w'.cell? ⟨gb,go+1,none⟩=some (.slice A0 l0.length c0)∧w'.cell? ⟨gb,go+2,none⟩=some (.int .i64 r0)∧w'.cell? ⟨gb,go+3,none⟩=some (.string ⟨#[98]⟩)∧w'.cell? ⟨gb,go+4,none⟩=some (.slice A1 l1.length c1)∧w'.cell? ⟨gb,go+5,none⟩=some (.int .i64 r1)from fun w' hb=>by
  have hr:=HGW.out.below hb
  obtain⟨_,_,e1,_,_,x0,x1,x2⟩:=dfRow hr 0 (by simp)
  cases e1
  obtain⟨_,_,e2,_,_,y0,y1,y2⟩:=dfRow hr 1 (by simp)
  cases e2
  exact⟨(blk1 (bx_kept hb HK.out)).1,by simpa using x0,by simpa using x1,by simpa using x2,by simpa using y0,by simpa using y1,by simpa using y2⟩)
 obtain⟨s0,s1,s2,s3,s4,s5,s6⟩:=HS.out w2 (Below.refl _ _)
 go_upto_region 4 with(fail)
 clear s0 s1 s2 s3 s4 s5 s6
 go_wp2_with fail
 refine(text_any ⟨#[120]⟩ _ (by decide)).mono ?_
 rintro e w3 ⟨b3,rfl,hto,hb⟩
 have HT3:=Lib.hid (TYJ.own (T:=oneJ (textLf ⟨#[120]⟩)) hto rfl rfl)
 have HB3:=Lib.hid hb
 clear hto hb
 go_wp2_with fail
 refine(rule_any ⟨#[98]⟩ _ (by decide)).mono ?_
 rintro e w4 ⟨b4,rfl,hto,hb⟩
 have HT4:=Lib.hid (TYJ.own (T:=oneJ (ruleLf ⟨#[98]⟩)) hto rfl rfl)
 have HB4:=Lib.hid (Below.step HB3.out hb)
 have HT3':=Lib.hid (HT3.out.below hb)
 clear hto hb HT3
 have HNB:=Lib.hid (bx_new w4 (.cells #[.slice (some ⟨b4,0,none⟩) 1 1,.int .i64 0] 40))
 have HNA:=Lib.hid (bx1 w4 (.cells #[.slice (some ⟨b4,0,none⟩) 1 1,.int .i64 0] 40))
 go_wp2_with fail
 generalize w4.alloc (.cells #[.slice (some ⟨b4,0,none⟩) 1 1,.int .i64 0] 40)=w5 at *
 have HC6:=Lib.hid (of7_row repJ [leafJ b4 (ruleLf ⟨#[98]⟩)] _ w4.heap.size w5 repJ_wf HNB.out rfl (row1J (HT4.out.below HNA.out)) (by simp) aw_ok.1 (by kernel_rfl) (HCT.out.below (Below.step (Below.step HB2.out HB4.out) HNA.out)) (.slice none 0 0) 1 1 rfl)
 refine HC6.out.mono ?_
 rintro e w6 ⟨⟨A6,c6,l6,r6⟩,rfl,ht6,hto6,hb6⟩
 simp only
 have HT6:=Lib.hid ht6
 have HB6:=Lib.hid (Below.step (Below.step HB4.out HNA.out) hb6)
 have HT36:=Lib.hid ((HT3'.out.below HNA.out).below hb6)
 clear ht6 hto6 hb6 HC6 HNA HNB HT4 HT3' HB4 HB3
 have HNB:=Lib.hid (bx_new w6 (.cells #[.slice (some ⟨b3,0,none⟩) 1 1,.int .i64 0,.slice A6 l6.length c6,.int .i64 r6] 40))
 have HNA:=Lib.hid (bx1 w6 (.cells #[.slice (some ⟨b3,0,none⟩) 1 1,.int .i64 0,.slice A6 l6.length c6,.int .i64 r6] 40))
 go_wp2_with fail
 generalize w6.alloc (.cells #[.slice (some ⟨b3,0,none⟩) 1 1,.int .i64 0,.slice A6 l6.length c6,.int .i64 r6] 40)=w7 at *
 have HC8:=Lib.hid (of7_row (kindJ 4) [leafJ b3 (textLf ⟨#[120]⟩),⟨A6,c6,l6,r6⟩] [oneJ (textLf ⟨#[120]⟩),awR] w6.heap.size w7 (kindJ_wf _ (by decide)) HNB.out (by simp only[List.map_cons,List.map_nil];rw[HT6.out.tr];rfl) (row2J (HT36.out.below HNA.out) (HT6.out.below HNA.out)) (by simp) aw_ok.2.1 (by kernel_rfl) (HCT.out.below (Below.step (Below.step HB2.out HB6.out) HNA.out)) (.slice none 0 0) 2 2 rfl)
 refine HC8.out.mono ?_
 rintro e w8 ⟨⟨A8,c8,l8,r8⟩,rfl,ht8,hto8,hb8⟩
 simp only
 have HT8:=Lib.hid ht8
 have HB8:=Lib.hid (Below.step (Below.step HB6.out HNA.out) hb8)
 clear ht8 hto8 hb8 HC8 HNA HNB HT6 HT36 HB6
 go_wp2_with fail
 refine(all_any _).mono ?_
 rintro e w9 ⟨rfl,hb9⟩
 have HT9:=Lib.hid (HT8.out.below hb9)
 have HB9:=Lib.hid (Below.step HB8.out hb9)
 clear hb9 HT8 HB8
 go_wp2_with fail
 refine(tset7_any 18446744073709551615 18446744073709551615 18446744073709551615 18446744073709551615 _ (by unfold U64;omega) (by unfold U64;omega) (by unfold U64;omega) (by unfold U64;omega)).mono ?_
 rintro e w10 ⟨b10,rfl,hto,hb⟩
 have HT10:=Lib.hid (TYJ.own (T:=oneJ allJ) hto rfl rfl)
 have HB10:=Lib.hid (Below.step HB9.out hb)
 have HT9':=Lib.hid (HT9.out.below hb)
 clear hto hb HT9 HB9
 have HNB:=Lib.hid (bx_new w10 (.cells #[.slice (some ⟨b10,0,none⟩) 1 1,.int .i64 0] 40))
 have HNA:=Lib.hid (bx1 w10 (.cells #[.slice (some ⟨b10,0,none⟩) 1 1,.int .i64 0] 40))
 go_wp2_with fail
 generalize w10.alloc (.cells #[.slice (some ⟨b10,0,none⟩) 1 1,.int .i64 0] 40)=w11 at *
 have HC12:=Lib.hid (of7_row (kindJ 8) [leafJ b10 allJ] _ w10.heap.size w11 (kindJ_wf _ (by decide)) HNB.out rfl (row1J (HT10.out.below HNA.out)) (by simp) aw_ok.2.2.1 (by kernel_rfl) (HCT.out.below (Below.step (Below.step HB2.out HB10.out) HNA.out)) (.slice none 0 0) 1 1 rfl)
 refine HC12.out.mono ?_
 rintro e w12 ⟨⟨A12,c12,l12,r12⟩,rfl,ht12,hto12,hb12⟩
 simp only
 have HT12:=Lib.hid ht12
 have HB12:=Lib.hid (Below.step (Below.step HB10.out HNA.out) hb12)
 have HT912:=Lib.hid ((HT9'.out.below HNA.out).below hb12)
 clear ht12 hto12 hb12 HC12 HNA HNB HT10 HT9' HB10
 have HNB:=Lib.hid (bx_new w12 (.cells #[.slice A8 l8.length c8,.int .i64 r8,.slice A12 l12.length c12,.int .i64 r12] 40))
 have HNA:=Lib.hid (bx1 w12 (.cells #[.slice A8 l8.length c8,.int .i64 r8,.slice A12 l12.length c12,.int .i64 r12] 40))
 go_wp2_with fail
 generalize w12.alloc (.cells #[.slice A8 l8.length c8,.int .i64 r8,.slice A12 l12.length c12,.int .i64 r12] 40)=w13 at *
 have HC14:=Lib.hid (of7_row (kindJ 5) [⟨A8,c8,l8,r8⟩,⟨A12,c12,l12,r12⟩] [awQ,awN] w12.heap.size w13 (kindJ_wf _ (by decide)) HNB.out (by simp only[List.map_cons,List.map_nil];rw[HT912.out.tr,HT12.out.tr];rfl) (row2J (HT912.out.below HNA.out) (HT12.out.below HNA.out)) (by simp) aw_ok.2.2.2 (by kernel_rfl) (HCT.out.below (Below.step (Below.step HB2.out HB12.out) HNA.out)) (.slice none 0 0) 2 2 rfl)
 refine HC14.out.mono ?_
 rintro e w14 ⟨⟨A14,c14,l14,r14⟩,rfl,ht14,hto14,hb14⟩
 simp only
 have HT14:=Lib.hid ht14
 have HB14:=Lib.hid (Below.step (Below.step HB12.out HNA.out) hb14)
 clear ht14 hto14 hb14 HC14 HNA HNB HT12 HT912 HB12
 go_upto_region 5 with(fail)
 have HNB:=Lib.hid (bx_new w14 (.cells #[.slice A14 l14.length c14,.int .i64 r14] 40))
 have HNA:=Lib.hid (bx1 w14 (.cells #[.slice A14 l14.length c14,.int .i64 r14] 40))
 have HT15:=Lib.hid (HT14.out.below HNA.out)
 have HB15:=Lib.hid (Below.step HB14.out HNA.out)
 generalize w14.alloc (.cells #[.slice A14 l14.length c14,.int .i64 r14] 40)=w15 at *
 generalize w14.heap.size=ba at *
 clear HNA HT14 HB14 w14
 have HCU:=Lib.hid (HCT.out.below (Below.step HB2.out HB15.out))
 have HS15:=Lib.hid (show ∀w',Below w15.heap.size w15 w'→w'.cell? ⟨bg,0,none⟩=some (.slice (some ⟨gb,go,none⟩) 2 c)∧w'.cell? ⟨gb,go+1,none⟩=some (.slice A0 l0.length c0)∧w'.cell? ⟨gb,go+2,none⟩=some (.int .i64 r0)∧w'.cell? ⟨gb,go+4,none⟩=some (.slice A1 l1.length c1)∧w'.cell? ⟨gb,go+5,none⟩=some (.int .i64 r1)∧w'.cell? ⟨ba,0,none⟩=some (.slice A14 l14.length c14)∧w'.cell? ⟨ba,1,none⟩=some (.int .i64 r14)from fun w' hb=>by
  obtain⟨s0,_,s2,s3,_,s5,s6⟩:=HS.out w' (Below.step HB15.out hb)
  obtain⟨a0,a1,_,_⟩:=blk2 (bx_kept hb HNB.out)
  exact⟨s0,s2,s3,s5,s6,a0,a1⟩)
 have HSM1:=Lib.hid (show ∀w',Below w15.heap.size w15 w'→Calls Tryz.prog 12 #[.agg #[.slice A0 l0.length c0,.int .i64 r0],.agg #[.slice A14 l14.length c14,.int .i64 r14]] w' fun e w''=>e=.returned (.bool true)∧Below w'.heap.size w' w'' from fun w' hb=>by
  have h1:=(HGW.out.below (Below.step HB15.out hb)).2 ⟨⟨#[97]⟩,⟨A0,c0,l0,r0⟩⟩ (by simp)
  have h2:=HT15.out.below hb
  have h3:=tsame_any A0 A14 c0 c14 l0 l14 r0 r14 _ _ w' h1.2.2 h2.inn.2 (by have:=HD0.out.2;omega) (by have:=h2.len.1;simp only at this;omega) (HCU.out.below hb)
  have e:sameT ⟨l0.map Ln.nd,r0⟩ ⟨l14.map Ln.nd,r14⟩=true:=by
   have e1:(⟨l0.map Ln.nd,r0⟩:Tr)=awT:=HD0.out.1
   have e2:(⟨l14.map Ln.nd,r14⟩:Tr)=awT:=h2.tr
   rw[e1,e2];exact aw_same.1
  rw[e]at h3;exact h3)
 have HSM2:=Lib.hid (show ∀bs w',Below w15.heap.size w15 w'→TYJ w' (oneJ digJ) (leafJ bs digJ)→Calls Tryz.prog 12 #[.agg #[.slice A1 l1.length c1,.int .i64 r1],.agg #[.slice (some ⟨bs,0,none⟩) 1 1,.int .i64 0]] w' fun e w''=>e=.returned (.bool true)∧Below w'.heap.size w' w'' from fun bs w' hb h2=>by
  have h1:=(HGW.out.below (Below.step HB15.out hb)).2 ⟨⟨#[98]⟩,⟨A1,c1,l1,r1⟩⟩ (by simp)
  have h3:=tsame_any A1 (some ⟨bs,0,none⟩) c1 1 l1 [⟨digJ,none,0⟩] r1 0 _ _ w' h1.2.2 h2.inn.2 (by have:=HD1.out.2;omega) (by simp) (HCU.out.below hb)
  have e:sameT ⟨l1.map Ln.nd,r1⟩ ⟨[(⟨digJ,none,0⟩:Ln)].map Ln.nd,0⟩=true:=by
   have e1:(⟨l1.map Ln.nd,r1⟩:Tr)=oneJ digJ:=HD1.out.1
   rw[e1];exact aw_same.2
  rw[e]at h3;exact h3)
 have HRG:=Lib.hid (show ∀w',Calls Tryz.prog 35 #[.int .u8 48,.int .u8 57] w' fun e w''=>e=.returned (.agg #[.int .u64 (wordF (rngF 48 57) 0:Nat),.int .u64 (wordF (rngF 48 57) 1:Nat),.int .u64 (wordF (rngF 48 57) 2:Nat),.int .u64 (wordF (rngF 48 57) 3:Nat)])∧Below w'.heap.size w' w'' from fun w'=>(range_any 48 57 w').mono fun e w'' hp=>⟨hp.1.trans (by rw[setV_eq];rfl),hp.2⟩)
 have HTS:=Lib.hid (show ∀w',Calls Tryz.prog 31 #[.agg #[.int .u64 (wordF (rngF 48 57) 0:Nat),.int .u64 (wordF (rngF 48 57) 1:Nat),.int .u64 (wordF (rngF 48 57) 2:Nat),.int .u64 (wordF (rngF 48 57) 3:Nat)]] w' (LeafPost digJ w')from fun w'=>tset7_any _ _ _ _ w' (by have:=wordF_lt (rngF 48 57) 0;unfold U64;omega) (by have:=wordF_lt (rngF 48 57) 1;unfold U64;omega) (by have:=wordF_lt (rngF 48 57) 2;unfold U64;omega) (by have:=wordF_lt (rngF 48 57) 3;unfold U64;omega))
 have HW1:=Lib.hid (show ∀w',Below w15.heap.size w15 w'→Calls Tryz.prog 36 #[.string ⟨#[97,32,60,45,32,40,98]⟩,.int .i64 7,.int .i64 4] w' fun e w''=>e=.returned (.bool true)∧Below w'.heap.size w' w'' from fun w' hb=>wrong7_any ⟨#[97,32,60,45,32,40,98]⟩ 7 4 w' (by decide) (HCU.out.below hb) aw_1)
 have HW2:=Lib.hid (show ∀w',Below w15.heap.size w15 w'→Calls Tryz.prog 36 #[.string ⟨#[97,32,60,45,32,98]⟩,.int .i64 5,.int .i64 41] w' fun e w''=>e=.returned (.bool true)∧Below w'.heap.size w' w'' from fun w' hb=>wrong7_any ⟨#[97,32,60,45,32,98]⟩ 5 41 w' (by decide) (HCU.out.below hb) aw_2)
 have HW3:=Lib.hid (show ∀w',Below w15.heap.size w15 w'→Calls Tryz.prog 36 #[.string ⟨#[97,32,60,45,32,97,32,97,32,60,45,32,97]⟩,.int .i64 7,.int .i64 6] w' fun e w''=>e=.returned (.bool true)∧Below w'.heap.size w' w'' from fun w' hb=>wrong7_any ⟨#[97,32,60,45,32,97,32,97,32,60,45,32,97]⟩ 7 6 w' (by decide) (HCU.out.below hb) aw_3)
 have HW4:=Lib.hid (show ∀w',Below w15.heap.size w15 w'→Calls Tryz.prog 36 #[.string ⟨#[]⟩,.int .i64 0,.int .i64 4] w' fun e w''=>e=.returned (.bool true)∧Below w'.heap.size w' w'' from fun w' hb=>wrong7_any ⟨#[]⟩ 0 4 w' (by decide) (HCU.out.below hb) aw_4)
 have HW5:=Lib.hid (show ∀w',Below w15.heap.size w15 w'→Calls Tryz.prog 36 #[.string ⟨#[97]⟩,.int .i64 1,.int .i64 4] w' fun e w''=>e=.returned (.bool true)∧Below w'.heap.size w' w'' from fun w' hb=>wrong7_any ⟨#[97]⟩ 1 4 w' (by decide) (HCU.out.below hb) aw_5)
 have HW6:=Lib.hid (show ∀w',Below w15.heap.size w15 w'→Calls Tryz.prog 36 #[.string ⟨#[97,32,60,45,32,33,47,32,98]⟩,.int .i64 6,.int .i64 4] w' fun e w''=>e=.returned (.bool true)∧Below w'.heap.size w' w'' from fun w' hb=>wrong7_any ⟨#[97,32,60,45,32,33,47,32,98]⟩ 6 4 w' (by decide) (HCU.out.below hb) aw_6)
 clear HS HGW HT15 HD0 HD1 HNB HK
 generalize (wordF (rngF 48 57) 0:Nat)=z0 at *
 generalize (wordF (rngF 48 57) 1:Nat)=z1 at *
 generalize (wordF (rngF 48 57) 2:Nat)=z2 at *
 generalize (wordF (rngF 48 57) 3:Nat)=z3 at *
 have HC:=Lib.hid (Below.refl w15.heap.size w15)
 go_region_held3 (fun w'=>w'.cell? ⟨bg,0,none⟩=some (.slice (some ⟨gb,go,none⟩) 2 c)∧w'.cell? ⟨gb,go+1,none⟩=some (.slice A0 l0.length c0)∧w'.cell? ⟨gb,go+2,none⟩=some (.int .i64 r0)∧w'.cell? ⟨gb,go+4,none⟩=some (.slice A1 l1.length c1)∧w'.cell? ⟨gb,go+5,none⟩=some (.int .i64 r1)∧w'.cell? ⟨ba,0,none⟩=some (.slice A14 l14.length c14)∧w'.cell? ⟨ba,1,none⟩=some (.int .i64 r14))
  (exact HS15.out _ (by first|exact HC.out|exact HC.out.drew))
  (first
   |(go_at_call 12;(with_reducible refine(HSM1.out _ (by first|exact HC.out|exact HC.out.drew)).mono ?_);rintro e wx ⟨rfl,hb⟩;have HC':=Lib.hid (Below.step (by first|exact HC.out|exact HC.out.drew) hb);clear HC;have HC:=HC';clear HC' hb)
   |(go_at_call 35;(with_reducible refine(HRG.out _).mono ?_);rintro e wx ⟨rfl,hb⟩;have HC':=Lib.hid (Below.step (by first|exact HC.out|exact HC.out.drew) hb);clear HC;have HC:=HC';clear HC' hb)
   |(go_at_call 31;(with_reducible refine(HTS.out _).mono ?_);rintro e wx ⟨bs,rfl,hto,hb⟩;have HLF:=Lib.hid (TYJ.own (T:=oneJ digJ) hto rfl rfl);have HC':=Lib.hid (Below.step (by first|exact HC.out|exact HC.out.drew) hb);clear HC;have HC:=HC';clear HC' hb hto)
   |(go_at_call 12;(with_reducible refine(HSM2.out bs _ (by first|exact HC.out|exact HC.out.drew) (by first|exact HLF.out|exact HLF.out.below (Below.refl _ _).drew)).mono ?_);rintro e wx ⟨rfl,hb⟩;have HC':=Lib.hid (Below.step (by first|exact HC.out|exact HC.out.drew) hb);clear HC;have HC:=HC';clear HC' hb)
   |(go_at_call 36;(with_reducible refine(HW1.out _ (by first|exact HC.out|exact HC.out.drew)).mono ?_);rintro e wx ⟨rfl,hb⟩;have HC':=Lib.hid (Below.step (by first|exact HC.out|exact HC.out.drew) hb);clear HC;have HC:=HC';clear HC' hb)
   |(go_at_call 36;(with_reducible refine(HW2.out _ (by first|exact HC.out|exact HC.out.drew)).mono ?_);rintro e wx ⟨rfl,hb⟩;have HC':=Lib.hid (Below.step (by first|exact HC.out|exact HC.out.drew) hb);clear HC;have HC:=HC';clear HC' hb)
   |(go_at_call 36;(with_reducible refine(HW3.out _ (by first|exact HC.out|exact HC.out.drew)).mono ?_);rintro e wx ⟨rfl,hb⟩;have HC':=Lib.hid (Below.step (by first|exact HC.out|exact HC.out.drew) hb);clear HC;have HC:=HC';clear HC' hb)
   |(go_at_call 36;(with_reducible refine(HW4.out _ (by first|exact HC.out|exact HC.out.drew)).mono ?_);rintro e wx ⟨rfl,hb⟩;have HC':=Lib.hid (Below.step (by first|exact HC.out|exact HC.out.drew) hb);clear HC;have HC:=HC';clear HC' hb)
   |(go_at_call 36;(with_reducible refine(HW5.out _ (by first|exact HC.out|exact HC.out.drew)).mono ?_);rintro e wx ⟨rfl,hb⟩;have HC':=Lib.hid (Below.step (by first|exact HC.out|exact HC.out.drew) hb);clear HC;have HC:=HC';clear HC' hb)
   |(go_at_call 36;(with_reducible refine(HW6.out _ (by first|exact HC.out|exact HC.out.drew)).mono ?_);rintro e wx ⟨rfl,hb⟩;have HC':=Lib.hid (Below.step (by first|exact HC.out|exact HC.out.drew) hb);clear HC;have HC:=HC';clear HC' hb)
   |fail)
 all_goals
  go_wp2_with fail
  go_ret
  exact⟨rfl,Below.step HB2.out (Below.step HB15.out HC.out)⟩
end Go.Proofs.YtpfokabdpmjobaaGreatDoor
