/- The contracts of a reader's high, and of quote.Unclass. -/
import Derived.Test.YtdnochjajoiooaaGreatDoorLi
import Derived.Test.YtdnochjajoiooaaGreatDoorLk
namespace Go.Proofs.YtdnochjajoiooaaGreatDoor
open Go.RowKit Go.Shelf
set_option linter.unusedSimpArgs false
set_option linter.unusedVariables false
set_option maxRecDepth 100000 in
set_option maxHeartbeats 2000000 in
theorem LC (r:Nat) (t:ByteArray) (en:UInt8) (m n0 k:Nat) (e0:Int) (b:UInt8) (w:World) (h:RD w r t ⟨#[93,45,94]⟩ en m (k:Int) e0) (hm:BMap w m n0 (Gs Bp)) (hmr:m≠r) (hs:t.size<=1000000):
  Calls Tryz.prog 122 #[.pointer (some ⟨r,0,none⟩),u8V b] w (SgPost r t ⟨#[93,45,94]⟩ en m e0 (CB t.data.toList b k) w):=by
 have HR:=qd h;have HM:=qd hm;obtain⟨c0,c1,c2,c3,c4,c5,f4,f5⟩:=h.cells;clear h hm;by_cases hx:t.data.toList[k]?=some 45
 ·have hkb:k<t.size:=by have:=(List.getElem?_eq_some_iff.1 hx).1;have:=Ar t;omega
  have HS:=qd (decide_eq_true hx);have HH:=qd (show CB t.data.toList b k=AQ Bp t.data.toList (k+1)from by unfold CB;rw[if_pos hx]);clear hx;cases hh:AQ Bp t.data.toList (k+1)with
  |ok c n=>
   rw[hh]at HH;have HQ:=qd hh;clear hh;go_enter Tryz.func122,Tryz.ntmps122
   go_wp2_with (first
    |(go_at_call 121;refine(Fq r t _ en m k e0 45 _ HR.out hs).mono ?_;rw[HS.out];rintro e w1 ⟨rfl,h1⟩;have HG1:=qd h1;obtain⟨d0,d1,d2,d3,d4,d5,g4,g5⟩:=(HR.out.kept h1 (by simp)).cells;have HG3:=qd ((h1.but (some r)).trans (BU w1 r 4 (.int .i64 ((k:Int)+1))));have HR1:=qd (show RD (w1.setCell ⟨r,4,none⟩ (.int .i64 ((k:Int)+1))) r t ⟨#[93,45,94]⟩ en m ((k+1:Nat):Int) e0 from(HR.out.kept h1 (by simp)).setAt ((k:Int)+1));have HM1:=qd (HM.out.kept HG3.out (by simpa using hmr));clear h1)
    |(go_at_call 132;refine(Je r t ⟨#[93,45,94]⟩ en m n0 (k+1) e0 _ HR1.out HM1.out hmr hs).mono ?_;rw[show AQ (⟨#[93,45,94]⟩:ByteArray).data.toList t.data.toList (k+1)=.ok c n from HQ.out];rintro e w2 ⟨⟨rfl,h1⟩,h2⟩;have HR2:=qd h1;have HG2:=qd (HG3.out.trans h2);clear h1 h2)
    |fail)
   refine bodyPost_ret (v:=.tuple #[u8V c,.bool true]) (by simp[results,Tryz.results122,go_sem]) rfl ?_;exact SgPost.of_ok HH.out rfl rfl HR2.out HG2.out
  |no p n=>
   rw[hh]at HH;have HQ:=qd hh;clear hh;go_enter Tryz.func122,Tryz.ntmps122
   go_wp2_with (first
    |(go_at_call 121;refine(Fq r t _ en m k e0 45 _ HR.out hs).mono ?_;rw[HS.out];rintro e w1 ⟨rfl,h1⟩;have HG1:=qd h1;obtain⟨d0,d1,d2,d3,d4,d5,g4,g5⟩:=(HR.out.kept h1 (by simp)).cells;have HG3:=qd ((h1.but (some r)).trans (BU w1 r 4 (.int .i64 ((k:Int)+1))));have HR1:=qd (show RD (w1.setCell ⟨r,4,none⟩ (.int .i64 ((k:Int)+1))) r t ⟨#[93,45,94]⟩ en m ((k+1:Nat):Int) e0 from(HR.out.kept h1 (by simp)).setAt ((k:Int)+1));have HM1:=qd (HM.out.kept HG3.out (by simpa using hmr));clear h1)
    |(go_at_call 132;refine(Je r t ⟨#[93,45,94]⟩ en m n0 (k+1) e0 _ HR1.out HM1.out hmr hs).mono ?_;rw[show AQ (⟨#[93,45,94]⟩:ByteArray).data.toList t.data.toList (k+1)=.no p n from HQ.out];rintro e w2 ⟨⟨rfl,h1⟩,h2⟩;have HR2:=qd h1;have HG2:=qd (HG3.out.trans h2);clear h1 h2)
    |fail)
   refine bodyPost_ret (v:=.tuple #[.int .u8 0,.bool false]) (by simp[results,Tryz.results122,go_sem]) rfl ?_;exact SgPost.of_no HH.out rfl rfl rfl HR2.out HG2.out
 ·have HS:=qd (decide_eq_false hx);have HH:=qd (show CB t.data.toList b k=.ok b k from by unfold CB;rw[if_neg hx]);clear hx;go_enter Tryz.func122,Tryz.ntmps122
  go_wp2_with (first
   |(go_at_call 121;refine(Fq r t _ en m k e0 45 _ HR.out hs).mono ?_;rw[HS.out];rintro e w1 ⟨rfl,h1⟩;have HG1:=qd h1;have HR1:=qd (HR.out.kept h1 (by simp));clear h1)
   |fail)
  refine bodyPost_ret (v:=.tuple #[u8V b,.bool true]) (by simp[results,Tryz.results122,go_sem]) rfl ?_;exact SgPost.of_ok HH.out rfl rfl HR1.out (HG1.out.but _)
attribute [local go_sem] Oper.semAt_some
theorem Ty (r:Nat) (w:World):Calls Tryz.prog 120 #[.pointer (some ⟨r,0,none⟩)] w fun e w'=>e=.returned (.func (.func 131) #[] #[.pointer (some ⟨w.heap.size,0,none⟩)])/\w'=w.alloc (.cells #[.pointer (some ⟨r,0,none⟩)] 178):=
 callsIn_wide.1 (Ph Fence.wide 0 trivial rfl r w)
def JN (t:List UInt8) (b:UInt8) (n:Nat):Nat:=match CB t b n with|.ok _ k=>k|.no _ _=>n
theorem WP {t:List UInt8} (b:UInt8) (n:Nat) (hn:n<=t.length):n<=JN t b n/\JN t b n<=t.length:=by
 unfold JN;cases h:CB t b n with
 |ok c k=>exact Fm hn h
 |no p e=>exact⟨Nat.le_refl _,hn⟩
def SetAt (W:World) (b:Nat) (f:Nat->Bool):Prop:=W.heap[b]?=some (.cells (CK (Af f 0) (Af f 1) (Af f 2) (Af f 3)) 39 (0,0))
theorem SetAt.lt {W:World} {b:Nat} {f:Nat->Bool} (h:SetAt W b f):b<W.heap.size:=(Array.getElem?_eq_some_iff.1 h).1
theorem SetAt.kept {W W':World} {b:Nat} {f:Nat->Bool} {row:Option Nat} (h:SetAt W b f) (hg:W.grownBy W' row) (hne:some b≠row):SetAt W' b f:=(hg.block b h.lt hne).trans h
abbrev FC (W:World) (b:Nat) (f:Nat->Bool):World:=(((W.setCell ⟨b,0,none⟩ (.int .u64 ((Af f 0:Nat):Int))).setCell ⟨b,1,none⟩ (.int .u64 ((Af f 1:Nat):Int))).setCell ⟨b,2,none⟩ (.int .u64 ((Af f 2:Nat):Int))).setCell ⟨b,3,none⟩ (.int .u64 ((Af f 3:Nat):Int))
theorem SetAt.put {W:World} {b:Nat} {f:Nat->Bool} (h:SetAt W b f) (g:Nat->Bool):SetAt (FC W b g) b g:=by
 have e0:=heap_setCell_same W b 0 _ 39 (.int .u64 ((Af g 0:Nat):Int)) h;have e1:=heap_setCell_same _ b 1 _ 39 (.int .u64 ((Af g 1:Nat):Int)) e0;have e2:=heap_setCell_same _ b 2 _ 39 (.int .u64 ((Af g 2:Nat):Int)) e1;have e3:=heap_setCell_same _ b 3 _ 39 (.int .u64 ((Af g 3:Nat):Int)) e2;unfold SetAt FC;exact e3
theorem KB (W:World) (b:Nat) (g:Nat->Bool):W.grownBy (FC W b g) (some b):=((((BU _ _ _ _).trans (BU _ _ _ _)).trans (BU _ _ _ _)).trans (BU _ _ _ _))
theorem Vn {w w':World} (h:Below w.heap.size w w') (row:Option Nat):w.grownBy w' row:=⟨h.os,h.tape,h.output,h.size,fun k hk _=>h.block k hk⟩
theorem Ha {W:World} {bs b i:Nat} {v:Value} (h:W.cell? ⟨b,i,none⟩=some v) (hb:b≠bs) (x0 x1 x2 x3:Value):
  ((((W.setCell ⟨bs,0,none⟩ x0).setCell ⟨bs,1,none⟩ x1).setCell ⟨bs,2,none⟩ x2).setCell ⟨bs,3,none⟩ x3).cell? ⟨b,i,none⟩=some v:=by
 have g:=(((BU W bs 0 x0).trans (BU _ bs 1 x1)).trans (BU _ bs 2 x2)).trans (BU _ bs 3 x3);exact g.cell h (fun e=>hb (Option.some.inj e))
structure ClsA (w:World) (t:ByteArray) (bs r m bp:Nat) (a e:Nat) (W:World):Prop where
 set:SetAt W bs (fun _=>false)
 rd:RD W r t ⟨#[93,45,94]⟩ 93 m (a:Int) (e:Int)
 mp:BMap W m 1004 (Gs Bp)
 box:Boxed W bp 178 (.pointer (some ⟨r,0,none⟩))
 below:Below w.heap.size w W
 le:w.heap.size<=bs/\bs<r/\bs<m/\bs<bp/\m≠r/\bp≠r
theorem ClsA.kept {w:World} {t:ByteArray} {bs r m bp a e:Nat} {W W':World} {row:Option Nat} (h:ClsA w t bs r m bp a e W) (hg:W.grownBy W' row) (hr:∀k,row=some k->W.heap.size<=k):ClsA w t bs r m bp a e W':=by
 have hn:∀x,x<W.heap.size->some x≠row:=fun x hx e=>by have:=hr x e.symm;omega
 exact⟨h.set.kept hg (hn _ h.set.lt),h.rd.kept hg (hn _ h.rd.lt),h.mp.kept hg (hn _ h.mp.lt),h.box.kept hg (hn _ h.box.lt),h.below.grown hg h.below.size (fun k hk=>Nat.le_trans h.below.size (hr k hk)),h.le⟩
theorem Vo {w w1:World} {t:ByteArray} {r m a e:Nat} (h1:RD w1 r t ⟨#[93,45,94]⟩ 93 m (a:Int) (e:Int)) (h2:BMap w1 m 1004 (Gs Bp)) (h3:m≠r)
  (h4:(w.alloc (.cells #[.int .u64 0,.int .u64 0,.int .u64 0,.int .u64 0] 39)).heap.size<=r) (h5:(w.alloc (.cells #[.int .u64 0,.int .u64 0,.int .u64 0,.int .u64 0] 39)).heap.size<=m)
  (h6:Below (w.alloc (.cells #[.int .u64 0,.int .u64 0,.int .u64 0,.int .u64 0] 39)).heap.size (w.alloc (.cells #[.int .u64 0,.int .u64 0,.int .u64 0,.int .u64 0] 39)) w1):
  ClsA w t w.heap.size r m w1.heap.size a e (w1.alloc (.cells #[.pointer (some ⟨r,0,none⟩)] 178)):=by
 have hb:=bx1 w1 (.cells #[.pointer (some ⟨r,0,none⟩)] 178);have h7:=(bx1 w (.cells #[.int .u64 0,.int .u64 0,.int .u64 0,.int .u64 0] 39)).trans (h6.mono (by simp));have h8:=h7.size;rw[World.size_alloc]at h4 h5;have h9:=h1.lt;refine⟨?_,h1.below hb,h2.below hb,Boxed.new _ _ _,h7.trans (hb.mono h8),Nat.le_refl _,by omega,by omega,by omega,h3,by omega⟩;unfold SetAt;rw[Ba,Ba,Ba,Ba];exact Ae hb (Ae h6 (Ad w _))
theorem Tz {t:List UInt8} {a0 e0:Nat} {bt:Bool} (hp:BK 91 t=(a0,e0)) (hbt:decide (e0=0/\t[a0]?=some 94)=bt):
  Bx t=if e0≠0 then(fun _=>false,a0,e0)else(if (GN t (if bt=true then a0+1 else a0)).2.2≠0 then(fun _=>false,(GN t (if bt=true then a0+1 else a0)).2.1,(GN t (if bt=true then a0+1 else a0)).2.2)
   else(fun k=>xor bt (Bu (GN t (if bt=true then a0+1 else a0)).1 k),(GN t (if bt=true then a0+1 else a0)).2.1+1,0)):=by
 unfold Bx BK at *;cases hc:t[0]? with
 |none=>rw[hc]at hp;cases hp;simp
 |some c=>
  rw[hc]at hp;simp only at hp ⊢;by_cases h91:c=91
  ·rw[if_pos h91]at hp;cases hp;have hl:=(List.getElem?_eq_some_iff.1 hc).1;have hb:decide (t[1]?=some 94)=bt:=by rw[<-hbt];simp
   have e2:Bh t t.length (if bt=true then 2 else 1)=GN t (if bt=true then 1+1 else 1):=by
    cases bt
    ·simp[GN]
    ·have hl2:=(List.getElem?_eq_some_iff.1 (of_decide_eq_true hb)).1;exact DZ t t.length (t.length+1-2) 2 (by omega) (by omega) (by omega)
   rw[if_neg (by simpa using h91),hb,e2];exact(if_neg (fun h=>h rfl)).symm
  ·rw[if_neg h91]at hp;cases hp;rw[if_pos h91,if_pos (by simp)]
structure ClsI (w:World) (t:ByteArray) (bs r bp bf P0:Nat) (pre:List Sg) (W:World):Prop where
 set:∃rs,SetAt W bs (Bu rs)/\GN t.data.toList P0=(rs++(GN t.data.toList (nxt (JN t.data.toList) P0 pre)).1,(GN t.data.toList (nxt (JN t.data.toList) P0 pre)).2)
 fst:Boxed W bf 3 (.int .i64 (nxt (JN t.data.toList) P0 pre:Int))
 box:Boxed W bp 178 (.pointer (some ⟨r,0,none⟩))
 below:Below w.heap.size w W
 at':nxt (JN t.data.toList) P0 pre<=t.size
structure ClsX (w:World) (t:ByteArray) (bs r m bp P0 e0:Nat) (W:World):Prop where
 e0:e0=0
 set:∃f,SetAt W bs f
 err:∃p k,k≠0/\(GN t.data.toList P0).2=(p,k)/\RD W r t ⟨#[93,45,94]⟩ 93 m (p:Int) (k:Int)
 box:Boxed W bp 178 (.pointer (some ⟨r,0,none⟩))
 below:Below w.heap.size w W
structure ClsF (w:World) (t:ByteArray) (bs r m bp:Nat) (bt:Bool) (D:Nat) (W:World):Prop where
 ends:∃f p k,SetAt W bs f/\RD W r t ⟨#[93,45,94]⟩ 93 m ((p:Nat):Int) ((k:Nat):Int)/\p<=t.size/\(k≠0->Bx t.data.toList=(fun _=>false,p,k))/\(k=0->Bx t.data.toList=(fun i=>xor bt (f i),p+1,0))
 box:Boxed W bp 178 (.pointer (some ⟨r,0,none⟩))
 below:Below w.heap.size w W
 lies:W.heap[D]?=some (.deferred (some []))
theorem ClsI.turn {w:World} {t:ByteArray} {bs r bp bf P0:Nat} {pre:List Sg} {W W':World} {row:Option Nat} (h:ClsI w t bs r bp bf P0 pre W) (hg:W.grownBy W' row)
  (hr:∀k,row=some k->w.heap.size<=k/\k≠bs/\k≠bp/\k≠bf):ClsI w t bs r bp bf P0 pre W':=by
 obtain⟨rs,h1,h2⟩:=h.set;exact⟨⟨rs,h1.kept hg (fun e=>(hr _ e.symm).2.1 rfl),h2⟩,h.fst.kept hg (fun e=>(hr _ e.symm).2.2.2 rfl),h.box.kept hg (fun e=>(hr _ e.symm).2.2.1 rfl),h.below.grown hg h.below.size (fun k hk=>(hr k hk).1),h.at'⟩
theorem ClsX.turn {w:World} {t:ByteArray} {bs r m bp P0 e0:Nat} {W W':World} {row:Option Nat} (h:ClsX w t bs r m bp P0 e0 W) (hg:W.grownBy W' row)
  (hr:∀k,row=some k->w.heap.size<=k/\k≠bs/\k≠bp/\k≠r):ClsX w t bs r m bp P0 e0 W':=by
 obtain⟨f,h1⟩:=h.set;obtain⟨p,k,h2,h3,h4⟩:=h.err;exact⟨h.e0,⟨f,h1.kept hg (fun e=>(hr _ e.symm).2.1 rfl)⟩,⟨p,k,h2,h3,h4.kept hg (fun e=>(hr _ e.symm).2.2.2 rfl)⟩,h.box.kept hg (fun e=>(hr _ e.symm).2.2.1 rfl),h.below.grown hg h.below.size (fun k hk=>(hr k hk).1)⟩
set_option maxRecDepth 100000 in
set_option maxHeartbeats 30000000 in
theorem Vp (n:Nat) (hn:3<=n) (t:ByteArray) (w:World) (hs:t.size<=1000000):
  CallsIn Fence.wide n Tryz.prog 110 #[.string t] w fun e w'=>e=.returned (.tuple #[Ky (Bx t.data.toList).1,.int .i64 ((Bx t.data.toList).2.1:Int),.int .i64 ((Bx t.data.toList).2.2:Int)])/\Below w.heap.size w w':=by
 have hn1:1<=n:=by omega
 have hn2:1<=n-1:=by omega
 have h12:1<=n-1-1:=by omega
 have hfn:∀k,Fence.wide.fn k:=fun _=>trivial
 refine callsIn_of_wp_marks Tryz.func110 rfl trivial ?_ rfl;simp only[Tryz.ntmps110,List.size_toArray,List.length_cons,List.length_nil,Nat.reduceAdd,Nat.reduceSub,Array.replicate_succ,Array.replicate_zero,List.push_toArray,List.append_toArray,List.nil_append,List.cons_append];refine wpIn_wide.2 ?_;obtain⟨a0,ha0⟩:∃a,(BK 91 t.data.toList).1=a:=⟨_,rfl⟩;obtain⟨e0,he0⟩:∃a,(BK 91 t.data.toList).2=a:=⟨_,rfl⟩;obtain⟨bt,hbt⟩:∃b,decide (e0=0/\t.data.toList[a0]?=some 94)=b:=⟨_,rfl⟩
 go_upto_region 2 with(first
  |(go_at_call 119;refine(MV t ⟨#[93,45,94]⟩ 91 93 _ hs (by decide)).mono ?_;rw[show BK 91 t.data.toList=(a0,e0)from by rw[<-ha0,<-he0]];rintro e w1 ⟨r,m,rfl,h1,h2,h3,h4,h5,h6⟩;have HA1:=qd (show ClsA w t w.heap.size r m w1.heap.size a0 e0 (w1.alloc (.cells #[.pointer (some ⟨r,0,none⟩)] 178))from Vo h1 h2 h3 h4 h5 h6);clear h1 h2 h3 h4 h5 h6)
  |fail)
 generalize hbp:w1.heap.size=bp at *;generalize w1.alloc (.cells #[.pointer (some ⟨r,0,none⟩)] 178)=W2 at *;clear hbp;go_cut [6]from 13 to 21 (fun v6 wx=>v6=.bool bt/\Hid (ClsA w t w.heap.size r m bp a0 e0 wx))
 case first=>
  have b0:=HA1.out.box.cell;obtain⟨c0,c1,c2,c3,c4,c5,f4,f5⟩:=HA1.out.rd.cells;by_cases he:e0=0
  ·subst he;have c5':W2.cell? ⟨r,5,none⟩=some (.int .i64 0):=c5;clear c5;have HBT:=qd (show decide (t.data.toList[a0]?=some 94)=bt from by rw[<-hbt];simp)
   go_wp2_with (first
    |(go_at_call 121;refine(Fq r t _ 93 m a0 0 94 _ HA1.out.rd hs).mono ?_;rw[HBT.out];rintro e w2 ⟨rfl,h1⟩;have HA2:=qd (HA1.out.kept h1 (by simp));clear h1)
    |fail)
   go_meet
   case rel=>exact⟨rfl,HA2⟩
  ·have e1:((e0:Int)==0)=false:=by simp;omega
   have e2:¬(e0:Int)=0:=by omega
   have HBT:=qd (show bt=false from by rw[<-hbt];simp[he]);go_wp2_with fail
   go_meet
   case rel=>exact⟨by rw[HBT.out],HA1⟩
 case rest=>
  obtain⟨rfl,HA2⟩:=hcut;clear HA1 W2;obtain⟨P0,hP0⟩:∃P,(if bt=true then a0+1 else a0)=P:=⟨_,rfl⟩
  have ha2:a0<=t.size:=by
   rw[<-ha0];unfold BK;split
   ·exact Nat.zero_le _
   ·rename_i c hc
    have:=(List.getElem?_eq_some_iff.1 hc).1;have:=Ar t;split <;> simp only <;> omega
  have HP:=qd (show P0<=t.size from by
   rw[<-hP0];split
   ·rename_i hb
    rw[hb]at hbt;have:=(List.getElem?_eq_some_iff.1 (of_decide_eq_true hbt).2).1;have:=Ar t;omega
   ·exact ha2)
  have HU:=qd (Tz (show BK 91 t.data.toList=(a0,e0)from by rw[<-ha0,<-he0]) hbt);rw[hP0]at HU;have HE:=qd (show e0≠0->bt=false from fun h=>by rw[<-hbt];simp[h]);clear ha0 he0 ha2;go_upto_if 22 with(fail)
  go_cut []from 22 to 29 (fun wx=>Hid (ClsA w t w.heap.size r m bp P0 e0 wx))
  case first=>
   have b0:=HA2.out.box.cell;obtain⟨c0,c1,c2,c3,c4,c5,f4,f5⟩:=HA2.out.rd.cells;cases bt
   ·go_wp2_with fail
    go_meet
    case rel=>rw[<-hP0];exact HA2
   ·have hal:a0<t.size:=by
     have:=(List.getElem?_eq_some_iff.1 (of_decide_eq_true hbt).2).1;have:=Ar t;omega
    go_wp2_with fail
    go_meet
    case rel=>
     rw[<-hP0];have h:=HA2.out;refine qd ⟨h.set.kept (BU wc r 4 _) (by have:=h.le;simp;omega),h.rd.setAt ((a0:Int)+1),h.mp.kept (BU wc r 4 _) (by have:=h.le;simp;omega),h.box.kept (BU wc r 4 _) (by have:=h.le;simp;omega),h.below.setCell (p:=⟨r,4,none⟩) (by have:=h.le;show w.heap.size<=r;omega) _,h.le⟩
  case rest=>
   have HA3:=hcut;clear HA2 hcut;have b0:=HA3.out.box.cell;obtain⟨c0,c1,c2,c3,c4,c5,f4,f5⟩:=HA3.out.rd.cells;have b1:=(HA3.out.box.alloc (.cells #[.int .i64 (P0:Int)] 3)).cell;go_wp2_with (first|(go_at_call 120;refine(Ty r _).mono ?_;rintro e w' ⟨rfl,rfl⟩)|fail)
   refine(wpIn_wide (n:=n)).1 ?_;clear b1 b0 c0 c1 c2 c3 c4 c5 f4 f5;have HAL:=HA3.out;have HW3:=qd (bx2 wc (.cells #[.int .i64 (P0:Int)] 3) (.cells #[.pointer (some ⟨r,0,none⟩)] 178));have HA4:=qd (HAL.kept (row:=none) ⟨HW3.out.os,HW3.out.tape,HW3.out.output,HW3.out.size,fun k hk _=>HW3.out.block k hk⟩ (by simp))
   have HI3:=qd (show RdI r t ⟨#[93,45,94]⟩ 93 m (wc.heap.size+1) P0 e0 ((wc.alloc (.cells #[.int .i64 (P0:Int)] 3)).alloc (.cells #[.pointer (some ⟨r,0,none⟩)] 178))from⟨HA4.out.rd,HA4.out.mp,by
    have h:=Boxed.new (wc.alloc (.cells #[.int .i64 (P0:Int)] 3)) 178 (.pointer (some ⟨r,0,none⟩));rw[World.size_alloc]at h;exact h⟩)
   have HBF:=qd (show Boxed ((wc.alloc (.cells #[.int .i64 (P0:Int)] 3)).alloc (.cells #[.pointer (some ⟨r,0,none⟩)] 178)) wc.heap.size 3 (.int .i64 (P0:Int))from(Boxed.new wc 3 _).alloc _);have HRL:=qd (show r<wc.heap.size/\m<wc.heap.size/\bp<wc.heap.size/\w.heap.size<wc.heap.size from⟨HAL.rd.lt,HAL.mp.lt,HAL.box.lt,HAL.set.lt⟩);have HQ:=qd HAL.le;have HZ:=qd (show((wc.alloc (.cells #[.int .i64 (P0:Int)] 3)).alloc (.cells #[.pointer (some ⟨r,0,none⟩)] 178)).heap.size=wc.heap.size+2 from by simp);generalize ((wc.alloc (.cells #[.int .i64 (P0:Int)] 3)).alloc (.cells #[.pointer (some ⟨r,0,none⟩)] 178))=W3 at *;clear HAL HA3 HW3;have hz:=HZ.out;have hrl:=HRL.out;have hq:=HQ.out;refine wpIn_mono (Q:=fun e a' W=>(e=.normal\/e=.exit 0)/\ ∃D,a'={tmps:= #[.string t,undef,.pointer (some ⟨w.heap.size,0,none⟩),.int .i64 0,.int .i64 0,.pointer (some ⟨bp,0,none⟩),.bool bt,.pointer (some ⟨wc.heap.size,0,none⟩),undef,undef,undef,.string t,.pointer (some ⟨r,0,none⟩),u13,u14,u15,u16,u17,u18,u19,u20,u21,u22,u23,u24,u25,u26,u27,u28,u29,.pointer (some ⟨r,0,none⟩),.pointer (some ⟨r,0,none⟩),.pointer (some ⟨r,4,none⟩),.int .i64 (P0:Int),.pointer (some ⟨r,0,none⟩),.func (.func 131) #[] #[.pointer (some ⟨wc.heap.size+1,0,none⟩)],undef,undef,undef,undef,undef,undef,undef,undef,undef,undef,undef,undef,undef,undef,undef,undef,undef,undef,undef,undef,undef,undef,undef,undef,undef,undef,undef,undef,undef,undef,undef,undef,undef,undef,undef,undef,undef,undef,undef,undef,undef,undef,undef,undef,undef,undef,undef],defers:=[{target:=.collected D,args:= #[]}]}/\W3.heap.size<=D/\ClsF w t w.heap.size r m bp bt D W) ?_ ?ends
   case ends=>
    rintro e a' W ⟨he,D,rfl,hD,hF⟩
    suffices h:_ by
     rcases he with rfl|rfl
     ·exact h
     ·exact h
    dsimp only;obtain⟨⟨f,p,k,hset,hrd,hp,hu1,hu2⟩,hbox,hbe,hlie⟩:=hF;obtain⟨s0,s1,s2,s3,sf⟩:=DK hset;have g0:=sf 0;have g1:=sf 1;have g2:=sf 2;have g3:=sf 3;obtain⟨c0,c1,c2,c3,c4,c5,f4,f5⟩:=hrd.cells;have b0:=hbox.cell;have HSET:=qd hset;have HBE:=qd hbe;have HLIE:=qd hlie;have HRD:=qd hrd;have HBX:=qd hbox;clear hset sf hrd hbe hlie hbox HU HP hbt hP0 HE HI3 HBF HA4;by_cases hk:k=0
    ·subst hk;have c5':W.cell? ⟨r,5,none⟩=some (.int .i64 0):=c5;have HX:=qd (hu2 rfl);clear hu1 hu2 c5;go_upto_if 74 with(fail)
     go_cut []from 74 to 76 (fun wx=>Hid (SetAt wx w.heap.size (fun i=>xor bt (f i))/\W.grownBy wx (some w.heap.size)))
     case first=>
      cases bt
      ·go_wp2_with fail
       go_meet
       case rel=>exact qd ⟨by simpa using HSET.out,World.grownBy.refl _ _⟩
      ·go_wp2_with (first
        |(go_at_call 76;refine(Vl f _).mono ?_;rintro e w2 ⟨rfl,h1⟩;have HB2:=qd h1;have HS2:=qd (show SetAt w2 w.heap.size f from(h1.block _ HSET.out.lt).trans HSET.out);obtain⟨y0,y1,y2,y3,yf⟩:=DK HS2.out;have z0:=yf 0;have z1:=yf 1;have z2:=yf 2;have z3:=yf 3;clear h1 yf;rw[Dq])
        |fail)
       go_meet
       case rel=>exact qd ⟨by have h:=HS2.out.put (fun k=> !f k);simpa[FC]using h,(Vn HB2.out _).trans (KB w2 w.heap.size (fun k=> !f k))⟩
     case rest=>
      clear s0 s1 s2 s3 g0 g1 g2 g3 b0 c0 c1 c2 c3 c4 f4 f5 c5';have hcu:=hcut.out;have HS:=qd hcu.1;have HG:=qd hcu.2;clear hcut hcu;have HRD2:=qd (HRD.out.kept HG.out (by simp;omega));have HBX2:=qd (HBX.out.kept HG.out (by simp;omega));have HL2:=qd (show wc.heap[D]?=some (.deferred (some []))from(HG.out.block D (Array.getElem?_eq_some_iff.1 HLIE.out).1 (by simp;omega)).trans HLIE.out);have HBE2:=qd (HBE.out.grown HG.out HBE.out.size (fun k hk=>by cases hk;exact Nat.le_refl _));have b0:=HBX2.out.cell;have c4:=HRD2.out.cells.2.2.2.2.1;have hbr:bp≠w.heap.size/\r≠w.heap.size:=by omega
      have hpw:IntKind.i64.wrap ((p:Int)+1)=(p:Int)+1:=by rw[IntKind.wrap_i64];omega
      obtain⟨s0,s1,s2,s3,sf⟩:=DK HS.out;have g0:=sf 0;have g1:=sf 1;have g2:=sf 2;have g3:=sf 3;have HPUT:=qd (HS.out.put (fun i=>xor bt (f i)));have HPG:=qd (KB wc w.heap.size (fun i=>xor bt (f i)));have HSV:=qd (Dq (fun i=>xor bt (f i)));clear sf;unfold SetAt FC at HPUT;unfold FC at HPG;have HUN:=qd (show ∀W',SetAt W' w.heap.size (fun i=>xor bt (f i))=(W'.heap[w.heap.size]?=some (.cells (CK (Af (fun i=>xor bt (f i)) 0) (Af (fun i=>xor bt (f i)) 1) (Af (fun i=>xor bt (f i)) 2) (Af (fun i=>xor bt (f i)) 3)) 39 (0,0)))from fun _=>rfl);generalize Af (fun i=>xor bt (f i)) 0=x0 at *;generalize Af (fun i=>xor bt (f i)) 1=x1 at *;generalize Af (fun i=>xor bt (f i)) 2=x2 at *;generalize Af (fun i=>xor bt (f i)) 3=x3 at *;generalize hbs:w.heap.size=bs at *
      have HCP:=qd (show(fun w':World=>w'.cell? ⟨bp,0,none⟩=some (.pointer (some ⟨r,0,none⟩))/\w'.cell? ⟨r,4,none⟩=some (.int .i64 (p:Int))/\w'.cell? ⟨bs,0,none⟩=some (.int .u64 (x0:Int))/\w'.cell? ⟨bs,1,none⟩=some (.int .u64 (x1:Int))/\w'.cell? ⟨bs,2,none⟩=some (.int .u64 (x2:Int))/\w'.cell? ⟨bs,3,none⟩=some (.int .u64 (x3:Int))/\w'.frozen? ⟨bs,0,none⟩=false/\w'.frozen? ⟨bs,1,none⟩=false/\w'.frozen? ⟨bs,2,none⟩=false/\w'.frozen? ⟨bs,3,none⟩=false)
        ((((wc.setCell ⟨bs,0,none⟩ (.int .u64 x0)).setCell ⟨bs,1,none⟩ (.int .u64 x1)).setCell ⟨bs,2,none⟩ (.int .u64 x2)).setCell ⟨bs,3,none⟩ (.int .u64 x3)).drew from by
       obtain⟨y0,y1,y2,y3,ff⟩:=DK HPUT.out;exact⟨Ha b0 hbr.1 _ _ _ _,Ha c4 hbr.2 _ _ _ _,y0,y1,y2,y3,ff 0,ff 1,ff 2,ff 3⟩)
      have HCW:=qd (show(fun w':World=>w'.cell? ⟨bp,0,none⟩=some (.pointer (some ⟨r,0,none⟩))/\w'.cell? ⟨r,4,none⟩=some (.int .i64 (p:Int))/\w'.cell? ⟨bs,0,none⟩=some (.int .u64 (x0:Int))/\w'.cell? ⟨bs,1,none⟩=some (.int .u64 (x1:Int))/\w'.cell? ⟨bs,2,none⟩=some (.int .u64 (x2:Int))/\w'.cell? ⟨bs,3,none⟩=some (.int .u64 (x3:Int))/\w'.frozen? ⟨bs,0,none⟩=false/\w'.frozen? ⟨bs,1,none⟩=false/\w'.frozen? ⟨bs,2,none⟩=false/\w'.frozen? ⟨bs,3,none⟩=false) wc.drew from⟨b0,c4,s0,s1,s2,s3,g0,g1,g2,g3⟩);go_wp2_with fail
      go_region_held3 (fun w'=>w'.cell? ⟨bp,0,none⟩=some (.pointer (some ⟨r,0,none⟩))/\w'.cell? ⟨r,4,none⟩=some (.int .i64 (p:Int))/\w'.cell? ⟨bs,0,none⟩=some (.int .u64 (x0:Int))/\w'.cell? ⟨bs,1,none⟩=some (.int .u64 (x1:Int))/\w'.cell? ⟨bs,2,none⟩=some (.int .u64 (x2:Int))/\w'.cell? ⟨bs,3,none⟩=some (.int .u64 (x3:Int))/\w'.frozen? ⟨bs,0,none⟩=false/\w'.frozen? ⟨bs,1,none⟩=false/\w'.frozen? ⟨bs,2,none⟩=false/\w'.frozen? ⟨bs,3,none⟩=false) (first|exact HCW.out|exact HCP.out) (fail)
      all_goals
       clear HCW HCP s0 s1 s2 s3 g0 g1 g2 g3 b0 c4;have HS5:=qd (show((((wc.setCell ⟨bs,0,none⟩ (.int .u64 x0)).setCell ⟨bs,1,none⟩ (.int .u64 x1)).setCell ⟨bs,2,none⟩ (.int .u64 x2)).setCell ⟨bs,3,none⟩ (.int .u64 x3)).drew.heap[bs]?=some (.cells (CK x0 x1 x2 x3) 39 (0,0))from HPUT.out);have HL5:=qd (show((((wc.setCell ⟨bs,0,none⟩ (.int .u64 x0)).setCell ⟨bs,1,none⟩ (.int .u64 x1)).setCell ⟨bs,2,none⟩ (.int .u64 x2)).setCell ⟨bs,3,none⟩ (.int .u64 x3)).drew.heap[D]?=some (.deferred (some []))from(HPG.out.block D (Array.getElem?_eq_some_iff.1 HL2.out).1 (by simp;omega)).trans HL2.out);have HB5:=qd ((HBE2.out.grown HPG.out (by rw[<-hbs];exact HBE2.out.size) (fun k hk=>by cases hk;exact Nat.le_refl _)).drew);generalize ((((wc.setCell ⟨bs,0,none⟩ (.int .u64 x0)).setCell ⟨bs,1,none⟩ (.int .u64 x1)).setCell ⟨bs,2,none⟩ (.int .u64 x2)).setCell ⟨bs,3,none⟩ (.int .u64 x3)).drew=W5 at *;go_wp2_with fail
       have HS6:=qd (show(W5.putObj D (.deferred none)).heap[bs]?=some (.cells (CK x0 x1 x2 x3) 39 (0,0))from(World.putObj_heap_other (by omega)).trans HS5.out);obtain⟨t0,t1,t2,t3,_⟩:=DK HS6.out;refine⟨by simp,.inl ⟨_,_,rfl,run_takeDeferred HL5.out,?_⟩⟩;refine⟨.tuple #[.agg (CK x0 x1 x2 x3),.int .i64 ((p:Int)+1),.int .i64 0],by simp[results,Tryz.f110,go_sem,t0,t1,t2,t3],?_,?_⟩
       ·rw[HX.out];show _=Ending.returned (.tuple #[Ky (fun i=>xor bt (f i)),_,_]);rw[HSV.out];rfl
       ·have h:=HB5.out.trans (belowK_b (w:=w) (by omega) W5 D _ (.deferred none) (by omega) HL5.out rfl rfl);rw[hbs];exact h
    ·have i1:((k:Int) != 0)=true:=by simp;omega
     have i2:¬(k:Int)=0:=by omega
     have HX:=qd (hu1 hk);clear hu1 hu2;go_wp2_with fail
     generalize hbs:w.heap.size=bs at *;have hbr:bp≠bs/\r≠bs:=by omega
     have HFZ:=qd (HSET.out.put (fun _=>false))
     have HCP:=qd (show(fun w':World=>w'.cell? ⟨bp,0,none⟩=some (.pointer (some ⟨r,0,none⟩))/\w'.cell? ⟨r,4,none⟩=some (.int .i64 (p:Int))/\w'.cell? ⟨r,5,none⟩=some (.int .i64 (k:Int))/\w'.frozen? ⟨bs,0,none⟩=false/\w'.frozen? ⟨bs,1,none⟩=false/\w'.frozen? ⟨bs,2,none⟩=false/\w'.frozen? ⟨bs,3,none⟩=false)
       ((((W.setCell ⟨bs,0,none⟩ (.int .u64 0)).setCell ⟨bs,1,none⟩ (.int .u64 0)).setCell ⟨bs,2,none⟩ (.int .u64 0)).setCell ⟨bs,3,none⟩ (.int .u64 0)).drew from by
      have h:=HFZ.out;unfold SetAt FC at h;rw[Ba,Ba,Ba,Ba]at h;obtain⟨_,_,_,_,ff⟩:=DK h;exact⟨Ha b0 hbr.1 _ _ _ _,Ha c4 hbr.2 _ _ _ _,Ha c5 hbr.2 _ _ _ _,ff 0,ff 1,ff 2,ff 3⟩)
     have HCW:=qd (show(fun w':World=>w'.cell? ⟨bp,0,none⟩=some (.pointer (some ⟨r,0,none⟩))/\w'.cell? ⟨r,4,none⟩=some (.int .i64 (p:Int))/\w'.cell? ⟨r,5,none⟩=some (.int .i64 (k:Int))/\w'.frozen? ⟨bs,0,none⟩=false/\w'.frozen? ⟨bs,1,none⟩=false/\w'.frozen? ⟨bs,2,none⟩=false/\w'.frozen? ⟨bs,3,none⟩=false) W.drew from⟨b0,c4,c5,g0,g1,g2,g3⟩);go_region_held3 (fun w'=>w'.cell? ⟨bp,0,none⟩=some (.pointer (some ⟨r,0,none⟩))/\w'.cell? ⟨r,4,none⟩=some (.int .i64 (p:Int))/\w'.cell? ⟨r,5,none⟩=some (.int .i64 (k:Int))/\w'.frozen? ⟨bs,0,none⟩=false/\w'.frozen? ⟨bs,1,none⟩=false/\w'.frozen? ⟨bs,2,none⟩=false/\w'.frozen? ⟨bs,3,none⟩=false) (first|exact HCW.out|exact HCP.out) (fail)
     all_goals
      clear HCW HCP s0 s1 s2 s3 g0 g1 g2 g3 b0 c0 c1 c2 c3 c4 c5 f4 f5;have HPG:=qd (KB W bs (fun _=>false));have HS0:=HFZ.out;unfold SetAt FC at HS0;unfold FC at HPG;rw[Ba,Ba,Ba,Ba]at HS0 HPG;have HS5:=qd (show((((W.setCell ⟨bs,0,none⟩ (.int .u64 0)).setCell ⟨bs,1,none⟩ (.int .u64 0)).setCell ⟨bs,2,none⟩ (.int .u64 0)).setCell ⟨bs,3,none⟩ (.int .u64 0)).drew.heap[bs]?=some (.cells (CK 0 0 0 0) 39 (0,0))from HS0);have HL5:=qd (show((((W.setCell ⟨bs,0,none⟩ (.int .u64 0)).setCell ⟨bs,1,none⟩ (.int .u64 0)).setCell ⟨bs,2,none⟩ (.int .u64 0)).setCell ⟨bs,3,none⟩ (.int .u64 0)).drew.heap[D]?=some (.deferred (some []))from(HPG.out.block D (Array.getElem?_eq_some_iff.1 HLIE.out).1 (by simp;omega)).trans HLIE.out);have HB5:=qd (show Below bs w ((((W.setCell ⟨bs,0,none⟩ (.int .u64 0)).setCell ⟨bs,1,none⟩ (.int .u64 0)).setCell ⟨bs,2,none⟩ (.int .u64 0)).setCell ⟨bs,3,none⟩ (.int .u64 0)).drew from(HBE.out.grown HPG.out (by rw[<-hbs];exact HBE.out.size) (fun k hk=>by cases hk;exact Nat.le_refl _)).drew);clear HS0 HFZ HPG;generalize ((((W.setCell ⟨bs,0,none⟩ (.int .u64 0)).setCell ⟨bs,1,none⟩ (.int .u64 0)).setCell ⟨bs,2,none⟩ (.int .u64 0)).setCell ⟨bs,3,none⟩ (.int .u64 0)).drew=W5 at *;go_wp2_with fail
      have HS6:=qd (show(W5.putObj D (.deferred none)).heap[bs]?=some (.cells (CK 0 0 0 0) 39 (0,0))from(World.putObj_heap_other (by omega)).trans HS5.out);obtain⟨t0,t1,t2,t3,_⟩:=DK HS6.out;refine⟨by simp,.inl ⟨_,_,rfl,run_takeDeferred HL5.out,?_⟩⟩;refine⟨.tuple #[.agg (CK 0 0 0 0),.int .i64 (p:Int),.int .i64 (k:Int)],by simp[results,Tryz.f110,go_sem,t0,t1,t2,t3],?_,?_⟩
      ·rw[HX.out];show _=Ending.returned (.tuple #[Ky (fun _=>false),_,_]);rw[Dq,Ba,Ba,Ba,Ba]
      ·have h:=HB5.out.trans (belowK_b (w:=w) (by omega) W5 D _ (.deferred none) (by omega) HL5.out rfl rfl);rw[hbs];exact h
   refine Fz rfl hn1 (gf:=131) (lb:= #[.pointer (some ⟨wc.heap.size+1,0,none⟩)]) rfl trivial (enters_of Tryz.func131 (by kernel_rfl) rfl) (r:=r) (by omega)
    (MW (n-1) hn2 r t ⟨#[93,45,94]⟩ 93 m (wc.heap.size+1) (JN t.data.toList) P0 e0 W3 hs hq.2.2.2.2.1 (by omega) HP.out (fun b k hk=>by have h:=WP (t:=t.data.toList) b k (by have:=Ar t;omega);have:=Ar t;omega) HI3.out)
    (RE (by omega) (by omega) (by omega)) (RF (by omega) (by omega) (by omega)) (RG (by omega) (by omega) (by omega)) (fun _=>rfl)
    (fun pre W=>ClsI w t w.heap.size r bp wc.heap.size P0 pre W) (fun c pre W=>c=.exit 0/\ClsX w t w.heap.size r m bp P0 e0 W)
    ?hI ?hIr ?hIx ?h0 (fun x=>{tmps:= #[.string t,undef,.pointer (some ⟨w.heap.size,0,none⟩),.int .i64 0,.int .i64 0,.pointer (some ⟨bp,0,none⟩),.bool bt,.pointer (some ⟨wc.heap.size,0,none⟩),u8V x.b,undef,undef,.string t,.pointer (some ⟨r,0,none⟩),u13,u14,u15,u16,u17,u18,u19,u20,u21,u22,u23,u24,u25,u26,u27,u28,u29,.pointer (some ⟨r,0,none⟩),.pointer (some ⟨r,0,none⟩),.pointer (some ⟨r,4,none⟩),.int .i64 (P0:Int),.pointer (some ⟨r,0,none⟩),.func (.func 131) #[] #[.pointer (some ⟨wc.heap.size+1,0,none⟩)],u8V x.b,undef,undef,undef,undef,undef,undef,undef,undef,undef,undef,undef,undef,undef,undef,undef,undef,undef,undef,undef,undef,undef,undef,undef,undef,undef,undef,undef,undef,undef,undef,undef,undef,undef,undef,undef,undef,undef,undef,undef,undef,undef,undef,undef,undef,undef,undef],defers:=[]}) ?assign ?body ?done ?stop
   case hI=>exact fun s W W' row h hg hr=>h.turn hg fun k hk=>by have:=(hr k hk).1;omega
   case hIr=>exact fun s W W' h hg=>h.turn hg fun k hk=>by cases hk;omega
   case hIx=>exact fun c s W W' row h hg hr=>⟨h.1,h.2.turn hg fun k hk=>by have:=(hr k hk).1;omega⟩
   case h0=>exact⟨⟨[],HA4.out.set,rfl⟩,HBF.out,HA4.out.box,HA4.out.below,HP.out⟩
   case assign=>
    intro l x W K hK;gi_wp2
    exact hK
   case body=>
    rintro l pre x W hI ⟨⟨hxe,hx1,hx2,hx3⟩,hRI⟩;have hx1':x.a=nxt (JN t.data.toList) P0 pre:=hx1;have hx2':t.data.toList[x.a]? ≠ some 93:=hx2;have hx3':AQ Bp t.data.toList x.a=.ok x.b x.n:=hx3;have hxl:=Ch hx3';have hsz:=Ar t;have HRI:=qd (show RdI r t ⟨#[93,45,94]⟩ 93 m (wc.heap.size+1) x.n 0 W from hRI);clear hRI hx1 hx2 hx3;obtain⟨rs,hset,hrun⟩:=hI.set;rw[<-hx1']at hrun;have b0:=hI.box.cell;have HI:=qd hI;have HSET:=qd hset;have hW:wc.heap.size<W.heap.size:=hI.fst.lt;cases hh:CB t.data.toList x.b x.n with
    |no p k=>
     have HX:=qd (show k≠0/\(GN t.data.toList P0).2=(p,k)from⟨by rcases Ja hh with h|h <;> omega,by rw[hrun,WH (by omega) hx2' hx3' hh]⟩);have HH:=qd hh;clear hh hrun hI hset hx1' hx2' hx3'
     gi_wp2_with (first
      |(gi_at_call 122;refine(CallsIn.inRound l (callsIn_wide.2 (LC r t 93 m 1004 x.n 0 x.b _ HRI.out.1 HRI.out.2.1 hq.2.2.2.2.1 hs))).mono ?_;rw[HH.out];rintro e w2 ⟨⟨rfl,h1⟩,h2⟩;have HR2:=qd h1;have HG2:=qd h2;clear h1 h2)
      |fail)
     refine⟨KeepsFrom.of_grownBy HG2.out (fun k hk=>by cases hk;omega),rfl,⟨hxe,⟨_,HSET.out.kept HG2.out (by simp;omega)⟩,⟨p,k,HX.out.1,HX.out.2,HR2.out⟩,HI.out.box.kept HG2.out (by simp;omega),HI.out.below.grown HG2.out HI.out.below.size (fun k hk=>by cases hk;omega)⟩⟩
    |ok c k=>
     have hk:=Fm (by omega) hh;have HH:=qd hh;by_cases hlt:c.toNat<x.b.toNat
     ·have HX:=qd (show(GN t.data.toList P0).2=(x.a,4)from by rw[hrun,WI (by omega) hx2' hx3' hh hlt]);have e1:(c.toNat:Int)<(x.b.toNat:Int):=by omega
      have HX1:=qd hx1';clear hh hrun hI hset hx1' hx2' hx3'
      gi_wp2_with (first
       |(gi_at_call 122;refine(CallsIn.inRound l (callsIn_wide.2 (LC r t 93 m 1004 x.n 0 x.b _ HRI.out.1 HRI.out.2.1 hq.2.2.2.2.1 hs))).mono ?_;rw[HH.out];rintro e w2 ⟨⟨rfl,h1⟩,h2⟩;have HR2:=qd h1;have HG2:=qd h2;have b2:=(HI.out.box.kept h2 (by simp;omega)).cell;have q2:=(HI.out.fst.kept h2 (by simp;omega)).cell;rw[<-HX1.out]at q2;clear h1 h2)
       |(gi_at_call 123;refine(CallsIn.inRound l (callsIn_wide.2 (GW r t ⟨#[93,45,94]⟩ 93 m _ _ _ _ HR2.out))).mono ?_;rintro e w3 ⟨rfl,h1,h2⟩;have HR3:=qd h1;have HG3:=qd (HG2.out.trans h2);clear h1 h2)
       |fail)
      refine⟨KeepsFrom.of_grownBy HG3.out (fun k hk=>by cases hk;omega),rfl,⟨hxe,⟨_,HSET.out.kept HG3.out (by simp;omega)⟩,⟨x.a,4,by decide,HX.out,HR3.out⟩,HI.out.box.kept HG3.out (by simp;omega),HI.out.below.grown HG3.out HI.out.below.size (fun k hk=>by cases hk;omega)⟩⟩
     ·have HX:=qd (show GN t.data.toList P0=((rs++[(x.b,c)])++(GN t.data.toList k).1,(GN t.data.toList k).2)from by rw[hrun,R7 hx2' hx3' hh hlt];simp);have HAF:=qd (show JN t.data.toList x.b x.n=k from by unfold JN;rw[hh]);have e1:¬(c.toNat:Int)<(x.b.toNat:Int):=by omega
      clear hh hrun hI hset hx1' hx2' hx3'
      gi_wp2_with (first
       |(gi_at_call 122;refine(CallsIn.inRound l (callsIn_wide.2 (LC r t 93 m 1004 x.n 0 x.b _ HRI.out.1 HRI.out.2.1 hq.2.2.2.2.1 hs))).mono ?_;rw[HH.out];rintro e w2 ⟨⟨rfl,h1⟩,h2⟩;have HR2:=qd h1;have HG2:=qd h2;clear h1 h2)
       |fail)
      have HS2:=qd (HSET.out.kept HG2.out (by simp;omega));obtain⟨s0,s1,s2,s3,sf⟩:=DK HS2.out;have g0:=sf 0;have g1:=sf 1;have g2:=sf 2;have g3:=sf 3;clear sf b0;have hmx:Tryz.prog.follows .mixedOrders=true:=by kernel_rfl
      gi_region_with_o (first
       |(gi_at_call 125;refine(CallsIn.inRound l (callsIn_wide.2 (Tx x.b c _))).mono ?_;rintro e w3 ⟨rfl,h1⟩;have HB3:=qd h1;have HS3:=qd (show SetAt w3 w.heap.size (Bu rs)from(h1.block _ HS2.out.lt).trans HS2.out);obtain⟨v0,v1,v2,v3,vf⟩:=DK HS3.out;clear h1 vf)
       |(gi_at_call 124;refine(CallsIn.inRound l (callsIn_wide.2 (X5 (Bu rs) (GZ x.b.toNat c.toNat) _))).mono ?_;rintro e w4 ⟨rfl,h1⟩;have HB4:=qd h1;have HS4:=qd (show SetAt w4 w.heap.size (Bu rs)from(h1.block _ HS3.out.lt).trans HS3.out);obtain⟨y0,y1,y2,y3,yf⟩:=DK HS4.out;have z0:=yf 0;have z1:=yf 1;have z2:=yf 2;have z3:=yf 3;clear h1 yf;rw[Dq]))
      all_goals
       have HG5:=qd ((((Jc w2 (some w.heap.size)).trans (Vn HB3.out _)).trans (Vn HB4.out _)).trans (KB w4 w.heap.size (fun k=>Bu rs k||GZ x.b.toNat c.toNat k)));have HS5:=qd (HS4.out.put (fun k=>Bu rs k||GZ x.b.toNat c.toNat k));clear s0 s1 s2 s3 g0 g1 g2 g3 v0 v1 v2 v3 y0 y1 y2 y3 z0 z1 z2 z3 HB3 HS3 HB4 HS4;unfold FC at HG5 HS5;generalize ((((w4.setCell ⟨w.heap.size,0,none⟩ (.int .u64 ((Af (fun k=>Bu rs k||GZ x.b.toNat c.toNat k) 0:Nat):Int))).setCell ⟨w.heap.size,1,none⟩ (.int .u64 ((Af (fun k=>Bu rs k||GZ x.b.toNat c.toNat k) 1:Nat):Int))).setCell ⟨w.heap.size,2,none⟩ (.int .u64 ((Af (fun k=>Bu rs k||GZ x.b.toNat c.toNat k) 2:Nat):Int))).setCell ⟨w.heap.size,3,none⟩ (.int .u64 ((Af (fun k=>Bu rs k||GZ x.b.toNat c.toNat k) 3:Nat):Int)))=w5 at *;have HR5:=qd (HR2.out.kept HG5.out (by simp;omega));have HX5:=qd ((HI.out.box.kept HG2.out (by simp;omega)).kept HG5.out (by simp;omega));have HF5:=qd ((HI.out.fst.kept HG2.out (by simp;omega)).kept HG5.out (by simp;omega));have b5:=HX5.out.cell;have c5:=HR5.out.cells.2.2.2.2.1;have q5:=HF5.out.frozen;have q6:=HF5.out.cell;gi_wp2
       have HG6:=qd (BU w5 wc.heap.size 0 (.int .i64 (k:Int)));have HNX:=qd (show nxt (JN t.data.toList) P0 (pre++[x])=k from by rw[FZ];exact HAF.out);refine⟨((KeepsFrom.of_grownBy HG2.out (fun k hk=>by cases hk;omega)).trans (KeepsFrom.of_grownBy HG5.out (fun k hk=>by cases hk;omega))).trans (KeepsFrom.of_grownBy HG6.out (fun k hk=>by cases hk;omega)),?_,⟨⟨_,?_,by rw[HNX.out];exact HX.out⟩,by rw[HNX.out];exact HF5.out.set _,HX5.out.kept HG6.out (by simp;omega),((HI.out.below.grown HG2.out HI.out.below.size (fun k hk=>by cases hk;omega)).grown HG5.out (Nat.le_trans HI.out.below.size HG2.out.size) (fun k hk=>by cases hk;omega)).grown HG6.out (Nat.le_trans HI.out.below.size (Nat.le_trans HG2.out.size HG5.out.size)) (fun k hk=>by cases hk;omega),by rw[HNX.out];omega⟩⟩
       ·unfold BkP;rw[HNX.out];exact⟨HR5.out.kept HG6.out (by simp;omega),((HRI.out.2.1.kept HG2.out (by simp;omega)).kept HG5.out (by simp;omega)).kept HG6.out (by simp;omega),((HRI.out.2.2.kept HG2.out (by simp;omega)).kept HG5.out (by simp;omega)).kept HG6.out (by simp)⟩
       ·rw[Mj];exact HS5.out.kept HG6.out (by simp;omega)
   case stop=>
    rintro D c pre W hD ⟨rfl,hX⟩ hK;obtain⟨f,hset⟩:=hX.set;obtain⟨p,k,hk0,hgn,hrd⟩:=hX.err
    have hpl:p<=t.size:=by
     have h:=L6 t.data.toList (t.data.toList.length+1-P0) P0 (by have:=Ar t;have:=HP.out;omega);have h2:(Bh t.data.toList (t.data.toList.length+1-P0) P0).2.1=p:=congrArg Prod.fst hgn;rw[h2]at h;have:=Ar t;omega
    have he0:¬e0≠0:=fun h=>h hX.e0
    have hun:Bx t.data.toList=(fun _=>false,p,k):=by rw[HU.out,if_neg he0,hgn,if_pos hk0]
    refine wpIn_exit ?_;exact⟨.inr rfl,D,rfl,hD,⟨f,p,k,hset,hrd,hpl,fun _=>hun,fun h=>absurd h hk0⟩,hX.box,hX.below,hK⟩
   case done=>
    rintro D xs W hD hS hI hK;obtain⟨rs,hset,hrun⟩:=hI.set;have hsz:=Ar t;have hat:=hI.at';refine⟨.inl rfl,D,rfl,hD,?_⟩;rcases hS with⟨x1,rfl,x3⟩|⟨x1,x2,x3⟩|⟨x1,x2,p,k,x3,x4⟩
    ·have hpa:a0=P0:=by rw[<-hP0,HE.out x1];simp
     exact⟨⟨Bu rs,P0,e0,hset,x3.1,HP.out,fun _=>by rw[HU.out,if_pos x1,hpa],fun h=>absurd h x1⟩,hI.box,hI.below,hK⟩
    ·rw[Q5 x2,List.append_nil]at hrun;exact⟨⟨Bu rs,_,0,hset,x3.1,hat,fun h=>absurd rfl h,fun _=>by rw[HU.out,if_neg (by omega),hrun,if_neg (by simp)]⟩,hI.box,hI.below,hK⟩
    ·have hs3:AQ Bp t.data.toList (nxt (JN t.data.toList) P0 xs)=.no p k:=x3;have hk0:k≠0:=by rcases D5 hs3 with h|h <;> omega
     have hpl:p<=t.size:=by rcases D5 hs3 with h|h <;> omega
     rw[Yb (by omega) x2 hs3,List.append_nil]at hrun;exact⟨⟨Bu rs,p,k,hset,x4.1,hpl,fun _=>by rw[HU.out,if_neg (by omega),hrun,if_pos hk0],fun h=>absurd h hk0⟩,hI.box,hI.below,hK⟩
theorem T0 (t:ByteArray) (w:World) (hs:t.size<=1000000):Calls Tryz.prog 110 #[.string t] w fun e w'=>e=.returned (.tuple #[Ky (Bx t.data.toList).1,.int .i64 ((Bx t.data.toList).2.1:Int),.int .i64 ((Bx t.data.toList).2.2:Int)])/\Below w.heap.size w w':=
 callsIn_wide.1 (Vp 3 (by omega) t w hs)
end Go.Proofs.YtdnochjajoiooaaGreatDoor
