/- The contracts of quote.begin, of a reader's signs, and of the iterator that it hands back. The contracts of a reader's signs, and of the iterator that it hands back. The contract of quote.Unliteral. -/
import Derived.Test.YtdnochjajoiooaaGreatDoorLf
import Derived.Test.YtdnochjajoiooaaGreatDoorLc
import Derived.Shelf.Abstract
import Derived.Shelf.RegionOpen
import Derived.OwnWalkIn
import Derived.TacticsInMore
import Derived.LoopNIn
import Derived.LoopIn
import Derived.Laws.IdiomStrings
import Derived.Sort.QuietIn
namespace Go.Proofs.YtdnochjajoiooaaGreatDoor
open Go.RowKit Go.Shelf
set_option linter.unusedSimpArgs false
set_option linter.unusedVariables false
def BK (first:UInt8) (t:List UInt8):Nat×Nat:=match t[0]? with|none=>(0,8)|some c=>if c=first then(1,0)else(0,4)
theorem Q8 {first:UInt8} {t:List UInt8} (h:t[0]?=none):BK first t=(0,8):=by unfold BK;rw[h]
theorem To {first:UInt8} {t:List UInt8} (h:t[0]?=some first):BK first t=(1,0):=by unfold BK;rw[h];simp
theorem Vg {first c:UInt8} {t:List UInt8} (h:t[0]?=some c) (hc:c≠first):BK first t=(0,4):=by unfold BK;rw[h];simp[hc]
def Tp (t left:ByteArray) (en:UInt8) (p:Nat×Nat) (w:World) (e:Ending) (w':World):Prop:=
 ∃r m,e=.returned (.pointer (some ⟨r,0,none⟩))/\RD w' r t left en m (p.1:Int) (p.2:Int)/\BMap w' m 1004 (Gs left.data.toList)/\m≠r/\w.heap.size<=r/\w.heap.size<=m/\Below w.heap.size w w'
set_option maxRecDepth 100000 in
set_option maxHeartbeats 2000000 in
theorem MV (t left:ByteArray) (first en:UInt8) (w:World) (hs:t.size<=1000000) (hl:left.size<=1000):
  Calls Tryz.prog 119 #[.string t,.string left,u8V first,u8V en] w (Tp t left en (BK first t.data.toList) w):=by
 have hsz:=Ar t;go_enter Tryz.func119,Tryz.ntmps119
 by_cases ha:0<t.size
 ·have hA:t.data.toList[0]?=some t[0]:=Lib.data_getElem? t 0 ha;obtain⟨b,hb⟩:∃b,t[0]=b:=⟨_,rfl⟩;rw[hb]at hA;have HC:=qd hb;clear hb;by_cases hf:b=first
  ·have HB:=qd (To (hf▸hA));have HF:=qd hf;clear hf hA;have e1:((b.toNat:Int)==(first.toNat:Int))=true:=by rw[HF.out];simp
   have e2:(b.toNat:Int)=(first.toNat:Int):=by rw[HF.out]
   go_wp2_with (first
    |(go_at_call 129;refine(GX left _ hl).mono ?_;rintro e w1 ⟨m,rfl,h1,h2,h3⟩;have HR1:=qd (show RD (w1.alloc (.cells (Es t left en m 0 0) 183)) w1.heap.size t left en m ((0:Nat):Int) 0 from Ad _ _);have HM1:=qd (h1.below (bx1 w1 (.cells (Es t left en m 0 0) 183)));have HB1:=qd (h2.alloc h2.size (.cells (Es t left en m 0 0) 183));have HL1:=qd (show w.heap.size<=m/\m≠w1.heap.size/\w.heap.size<=w1.heap.size from⟨h3,Nat.ne_of_lt h1.lt,h2.size⟩);clear h1 h2 h3)
    |(go_at_call 130;refine(BA _ t left en _ 0 0 _ HR1.out ha hs).mono ?_;rw[HC.out];rintro e w2 ⟨rfl,h1,h2⟩;have HR2:=qd h1;have HG2:=qd h2;clear h1 h2)
    |fail)
   go_ret;rw[HB.out];exact⟨_,_,rfl,HR2.out,HM1.out.kept HG2.out (by simpa using HL1.out.2.1),HL1.out.2.1,HL1.out.2.2,HL1.out.1,HB1.out.grown HG2.out HB1.out.size (fun k hk=>by cases hk;exact HL1.out.2.2)⟩
  ·have HB:=qd (Vg hA hf);have HF:=qd hf;have e2:¬(b.toNat:Int)=(first.toNat:Int):=fun e=>hf (UInt8.toNat_inj.1 (by omega))
   have e1:((b.toNat:Int) != (first.toNat:Int))=true:=by simpa using e2
   clear hf hA
   go_wp2_with (first
    |(go_at_call 129;refine(GX left _ hl).mono ?_;rintro e w1 ⟨m,rfl,h1,h2,h3⟩;have HR1:=qd (show RD (w1.alloc (.cells (Es t left en m 0 0) 183)) w1.heap.size t left en m ((0:Nat):Int) 0 from Ad _ _);have HM1:=qd (h1.below (bx1 w1 (.cells (Es t left en m 0 0) 183)));have HB1:=qd (h2.alloc h2.size (.cells (Es t left en m 0 0) 183));have HL1:=qd (show w.heap.size<=m/\m≠w1.heap.size/\w.heap.size<=w1.heap.size from⟨h3,Nat.ne_of_lt h1.lt,h2.size⟩);clear h1 h2 h3)
    |(go_at_call 130;refine(BA _ t left en _ 0 0 _ HR1.out ha hs).mono ?_;rw[HC.out];rintro e w2 ⟨rfl,h1,h2⟩;have HR2:=qd h1;have HG2:=qd h2;clear h1 h2)
    |(go_at_call 123;refine(GW _ t left en _ _ _ _ _ HR2.out).mono ?_;rintro e w3 ⟨rfl,h1,h2⟩;have HR3:=qd h1;have HG3:=qd (HG2.out.trans h2);clear h1 h2)
    |fail)
   go_ret;rw[HB.out];exact⟨_,_,rfl,HR3.out,HM1.out.kept HG3.out (by simpa using HL1.out.2.1),HL1.out.2.1,HL1.out.2.2,HL1.out.1,HB1.out.grown HG3.out HB1.out.size (fun k hk=>by cases hk;exact HL1.out.2.2)⟩
 ·have HB:=qd (Q8 (first:=first) (List.getElem?_eq_none (show t.data.toList.length<=0 by omega)));have HZ:=qd (show(t.size:Int)=0 by omega)
  go_wp2_with (first
   |(go_at_call 129;refine(GX left _ hl).mono ?_;rintro e w1 ⟨m,rfl,h1,h2,h3⟩;have HR1:=qd (show RD (w1.alloc (.cells (Es t left en m 0 0) 183)) w1.heap.size t left en m ((0:Nat):Int) 0 from Ad _ _);have HM1:=qd (h1.below (bx1 w1 (.cells (Es t left en m 0 0) 183)));have HB1:=qd (h2.alloc h2.size (.cells (Es t left en m 0 0) 183));have HL1:=qd (show w.heap.size<=m/\m≠w1.heap.size/\w.heap.size<=w1.heap.size from⟨h3,Nat.ne_of_lt h1.lt,h2.size⟩);clear h1 h2 h3)
   |(go_at_call 130;refine(Hu _ t left en _ 0 0 _ HR1.out ha hs).mono ?_;rintro e w2 ⟨rfl,h1,h2⟩;have HR2:=qd h1;have HG2:=qd h2;clear h1 h2)
   |fail)
  go_ret;rw[HB.out];exact⟨_,_,rfl,by have h:=HR2.out;rw[HZ.out]at h;exact h,HM1.out.kept HG2.out (by simpa using HL1.out.2.1),HL1.out.2.1,HL1.out.2.2,HL1.out.1,HB1.out.grown HG2.out HB1.out.size (fun k hk=>by cases hk;exact HL1.out.2.2)⟩
attribute [local go_sem] Oper.semAt_some
structure Sg where
 a:Nat
 b:UInt8
 n:Nat
def nxt (aft:UInt8->Nat->Nat) (a0:Nat) (pre:List Sg):Nat:=match pre.getLast? with|none=>a0|some x=>aft x.b x.n
theorem FZ (aft:UInt8->Nat->Nat) (a0:Nat) (pre:List Sg) (x:Sg):nxt aft a0 (pre++[x])=aft x.b x.n:=by simp[nxt]
def RdI (r:Nat) (t left:ByteArray) (en:UInt8) (m B:Nat) (a e:Nat) (W:World):Prop:=
 RD W r t left en m (a:Int) (e:Int)/\BMap W m 1004 (Gs left.data.toList)/\Boxed W B 178 (.pointer (some ⟨r,0,none⟩))
theorem RdI.below {r:Nat} {t left:ByteArray} {en:UInt8} {m B a e:Nat} {W W':World} (h:RdI r t left en m B a e W) (hb:Below W.heap.size W W'):RdI r t left en m B a e W':=
 ⟨h.1.below hb,h.2.1.below hb,(hb.block _ h.2.2.lt).trans h.2.2⟩
theorem RdI.kept {r:Nat} {t left:ByteArray} {en:UInt8} {m B a e:Nat} {W W':World} {row:Option Nat} (h:RdI r t left en m B a e W) (hg:W.grownBy W' row) (h1:some r≠row) (h2:some m≠row) (h3:some B≠row):RdI r t left en m B a e W':=
 ⟨h.1.kept hg h1,h.2.1.kept hg h2,h.2.2.kept hg h3⟩
def AtP (r:Nat) (t left:ByteArray) (en:UInt8) (m B:Nat) (aft:UInt8->Nat->Nat) (a0 e0:Nat) (p:List Sg×Sg) (W:World):Prop:=
 (e0=0/\p.2.a=nxt aft a0 p.1/\t.data.toList[p.2.a]? ≠ some en/\AQ left.data.toList t.data.toList p.2.a=.ok p.2.b p.2.n)/\RdI r t left en m B p.2.n 0 W
def BkP (r:Nat) (t left:ByteArray) (en:UInt8) (m B:Nat) (aft:UInt8->Nat->Nat) (a0:Nat) (pre:List Sg) (W:World):Prop:=RdI r t left en m B (nxt aft a0 pre) 0 W
def EnP (r:Nat) (t left:ByteArray) (en:UInt8) (m B:Nat) (aft:UInt8->Nat->Nat) (a0 e0:Nat) (xs:List Sg) (W:World):Prop:=
 (e0≠0/\xs=[]/\RdI r t left en m B a0 e0 W)\/(e0=0/\t.data.toList[nxt aft a0 xs]?=some en/\RdI r t left en m B (nxt aft a0 xs) 0 W) \/
 (e0=0/\t.data.toList[nxt aft a0 xs]? ≠ some en/\ ∃p k,AQ left.data.toList t.data.toList (nxt aft a0 xs)=.no p k/\RdI r t left en m B p k W)
set_option maxHeartbeats 1000000 in
theorem Ph (F:Fence) (n:Nat) (hf:F.fn 120) (hro:F.round=none) (r:Nat) (w:World):
  CallsIn F n Tryz.prog 120 #[.pointer (some ⟨r,0,none⟩)] w fun e w'=>e=.returned (.func (.func 131) #[] #[.pointer (some ⟨w.heap.size,0,none⟩)])/\w'=w.alloc (.cells #[.pointer (some ⟨r,0,none⟩)] 178):=by
 refine callsIn_of_wp Tryz.func120 rfl hf ?_ hro;simp only[Tryz.ntmps120,List.size_toArray,List.length_cons,List.length_nil,Nat.reduceAdd,Nat.reduceSub,Array.replicate_succ,Array.replicate_zero,List.push_toArray,List.append_toArray,List.nil_append,List.cons_append];gi_wp2
 go_ret;exact⟨rfl,rfl⟩
set_option maxRecDepth 100000 in
set_option maxHeartbeats 2000000 in
theorem MW (n:Nat) (hn:1<=n) (r:Nat) (t left:ByteArray) (en:UInt8) (m B:Nat) (aft:UInt8->Nat->Nat) (a0 e0:Nat) (w0:World) (hs:t.size<=1000000) (hmr:m≠r) (hBr:B≠r)
  (ha0:a0<=t.size) (haft:∀b k,k<=t.size->k<=aft b k/\aft b k<=t.size) (h0:RdI r t left en m B a0 e0 w0):
  Xp Fence.wide n Tryz.prog 131 #[.pointer (some ⟨B,0,none⟩)] (fun x:Sg=> #[u8V x.b]) r (AtP r t left en m B aft a0 e0) (BkP r t left en m B aft a0) (EnP r t left en m B aft a0 e0) w0:=by
 intro l J Jx W hW hJ hY hj0;have HI0:=qd (h0.below hW);clear h0;refine callsIn_of_wp Tryz.func131 rfl trivial ?_ rfl;simp only[Tryz.ntmps131,List.size_toArray,List.length_cons,List.length_nil,Nat.reduceAdd,Nat.reduceSub,Array.replicate_succ,Array.replicate_zero,List.push_toArray,List.append_toArray,List.nil_append,List.cons_append];have hfn:∀k,Fence.wide.fn k:=fun _=>trivial
 gi_wp2
 by_cases he:e0=0
 ·subst he;gi_loopw [3] (fun _ wr=>∃pre:List Sg,Hid (RdI r t left en m B (nxt aft a0 pre) 0 wr)/\Hid (nxt aft a0 pre<=t.size)/\J pre wr) (fun _ wr=>t.size+1-(intOf ((wr.cell? ⟨r,4,none⟩).getD undef)).toNat)
  case atStart=>exact⟨[],HI0,qd ha0,hj0⟩
  case round=>
   clear hj0 HI0;obtain⟨pre,HI,HN,hj⟩:=hrel;obtain⟨c0,c1,c2,c3,c4,c5,f4,f5⟩:=HI.out.1.cells;have b0:=HI.out.2.2.cell;obtain⟨a,ha⟩:∃a,nxt aft a0 pre=a:=⟨_,rfl⟩;rw[ha]at HI HN c4;have HA:=qd ha;clear ha;have c5':wr.cell? ⟨r,5,none⟩=some (.int .i64 0):=c5;clear c5;by_cases hse:t.data.toList[a]?=some en
   ·have HSE:=qd (decide_eq_true hse);have HD:=qd (show RD wr.drew r t left en m (a:Int) ((0:Nat):Int)from HI.out.1);gi_wp2
    gi_region_with (first|(gi_at_call 121;refine(callsIn_wide.2 (Fq r t left en m a 0 en _ HD.out hs)).mono ?_;rw[HSE.out];rintro e w1 ⟨rfl,h1⟩;have HG1:=qd h1;clear h1))
    all_goals
     have HG2:=qd ((Jc wr none).trans HG1.out);gi_wp2
     go_end0
     exact⟨⟨_,rfl⟩,.inl ⟨pre,.inr (.inl ⟨rfl,by rw[HA.out];exact hse,by rw[HA.out];exact HI.out.kept HG2.out (by simp) (by simp) (by simp)⟩),hJ _ _ _ hj (HG2.out.but _)⟩⟩
   ·have HSE:=qd (decide_eq_false hse);have HD:=qd (show RD wr.drew r t left en m (a:Int) ((0:Nat):Int)from HI.out.1);have HX:=qd hse;clear hse;cases hsg:AQ left.data.toList t.data.toList a with
    |no p k=>
     have HSG:=qd hsg;clear hsg;gi_wp2
     gi_region_with (first|(gi_at_call 121;refine(callsIn_wide.2 (Fq r t left en m a 0 en _ HD.out hs)).mono ?_;rw[HSE.out];rintro e w1 ⟨rfl,h1⟩;have HG1:=qd h1;clear h1))
     all_goals
      have HG2:=qd ((Jc wr none).trans HG1.out);have HI1:=qd (HI.out.kept HG2.out (by simp) (by simp) (by simp));have b1:=HI1.out.2.2.cell;gi_wp2_with (first|(gi_at_call 132;refine(callsIn_wide.2 (Je r t left en m 1004 a 0 _ HI1.out.1 HI1.out.2.1 hmr hs)).mono ?_;rw[HSG.out];rintro e w2 ⟨⟨rfl,h1⟩,h2⟩;have HR2:=qd h1;have HG3:=qd h2;clear h1 h2))
      refine bodyPost_ret (v:=.tuple #[]) (by simp[results,Tryz.results131]) rfl ?_;exact⟨⟨_,rfl⟩,.inl ⟨pre,.inr (.inr ⟨rfl,by rw[HA.out];exact HX.out,p,k,by rw[HA.out];exact HSG.out,HR2.out,HI1.out.2.1.kept HG3.out (by simpa using hmr),HI1.out.2.2.kept HG3.out (by simpa using hBr)⟩),hJ _ _ _ (hJ _ _ _ hj (HG2.out.but _)) HG3.out⟩⟩
    |ok b k=>
     have HSG:=qd hsg;have HKL:=qd (Ch hsg);clear hsg;gi_wp2
     gi_region_with (first|(gi_at_call 121;refine(callsIn_wide.2 (Fq r t left en m a 0 en _ HD.out hs)).mono ?_;rw[HSE.out];rintro e w1 ⟨rfl,h1⟩;have HG1:=qd h1;clear h1))
     all_goals
      have HG2:=qd ((Jc wr none).trans HG1.out);have HI1:=qd (HI.out.kept HG2.out (by simp) (by simp) (by simp));have b1:=HI1.out.2.2.cell;gi_wp2_with (first|(gi_at_call 132;refine(callsIn_wide.2 (Je r t left en m 1004 a 0 _ HI1.out.1 HI1.out.2.1 hmr hs)).mono ?_;rw[HSG.out];rintro e w2 ⟨⟨rfl,h1⟩,h2⟩;have HI2:=qd (show RdI r t left en m B k 0 w2 from⟨h1,HI1.out.2.1.kept h2 (by simpa using hmr),HI1.out.2.2.kept h2 (by simpa using hBr)⟩);have hj2:=hJ _ _ _ (hJ _ _ _ hj (HG2.out.but _)) h2;clear h1 h2;obtain⟨fn,tmps,assign,body,hy,hR⟩:=hY pre ⟨a,b,k⟩ w2 hj2 ⟨⟨rfl,HA.out.symm,HX.out,HSG.out⟩,HI2.out⟩))
      refine hR.mono ?_;rintro e W3 (⟨rfl,hJ3,hk3⟩|⟨rfl,hJx3⟩)
      ·have HK3:=qd (show RdI r t left en m B (aft b k) 0 W3 from by have h:=hk3;unfold BkP at h;rwa [FZ]at h)
       have HM:=qd (show t.size+1-(intOf ((W3.cell? ⟨r,4,none⟩).getD undef)).toNat<t.size+1-(intOf ((wr.cell? ⟨r,4,none⟩).getD undef)).toNat from by
        rw[HK3.out.1.cells.2.2.2.2.1,c4];have h1:=HKL.out;have h2:=haft b k (by have:=Ar t;omega);have:=Ar t;simp only[Option.getD_some,intOf,Int.toNat_natCast];omega)
       have HNN:=qd (show nxt aft a0 (pre++[⟨a,b,k⟩])=aft b k/\aft b k<=t.size from⟨FZ _ _ _ _,(haft b k (by have h1:=HKL.out;have:=Ar t;omega)).2⟩);clear hk3;gi_wp2
       exact⟨⟨pre++[⟨a,b,k⟩],by rw[HNN.out.1];exact HK3,qd (by rw[HNN.out.1];exact HNN.out.2),hJ3⟩,HM.out⟩
      ·gi_wp2
       refine bodyPost_ret (v:=.tuple #[]) (by simp[results,Tryz.results131]) rfl ?_;exact⟨⟨_,rfl⟩,.inr ⟨_,hJx3⟩⟩
 ·have HE:=qd he;have e1:((e0:Int)==0)=false:=by simp;omega
  have e2:¬(e0:Int)=0:=by omega
  gi_loopw [3] (fun _ wr=>wr=W) (fun _ _=>0)
  case atStart=>rfl
  case round=>
   obtain rfl:=hrel;obtain⟨c0,c1,c2,c3,c4,c5,f4,f5⟩:=HI0.out.1.cells;have b0:=HI0.out.2.2.cell;gi_wp2
   gi_region_with fail
   all_goals
    gi_wp2
    go_end0
    exact⟨⟨_,rfl⟩,.inl ⟨[],.inl ⟨HE.out,rfl,HI0.out.kept (Jc wr none) (by simp) (by simp) (by simp)⟩,hJ _ _ _ hj0 ((Jc wr none).but _)⟩⟩
end Go.Proofs.YtdnochjajoiooaaGreatDoor
namespace Go.Proofs.YtdnochjajoiooaaGreatDoor
open Go.RowKit Go.Shelf
set_option linter.unusedSimpArgs false
set_option linter.unusedVariables false
attribute [local go_sem] Oper.semAt_some
theorem Tq:(Tryz.prog.info? 5).map (fun i=>(i.zero,i.size,i.bytes))=some (some (.int .u8 0),1,1):=by kernel_rfl
theorem Vh {w:World} {base n c:Nat} {V:Option Addr} {l:List UInt8} (h:w.ownsRow base 5 1 (.slice V n c) n (Lib.byteCells l)) (hn:l.length=n):
  (convert 48 9 (.slice V n c)).run Tryz.prog w=.ok (.string ⟨l.toArray⟩) w:=by
 subst hn;rcases h.2 with⟨hv,h0⟩|⟨g,cap,cur,hv,_⟩
 ·obtain rfl:V=none:=by injection hv
  rw[run_convert_bytes_nil w 48 5 Tryz.underlying48 Tryz.underlying5 _ _ _ Tryz.underlying9];have:l=[]:=List.eq_nil_of_length_eq_zero h0;subst this;rfl
 ·obtain rfl:V=some ⟨g,0,none⟩:=by injection hv
  refine run_convert_bytes_back w _ _ _ _ _ l Tryz.underlying48 Tryz.underlying5 Tryz.underlying9 fun j hj=> ?_
  have:=World.ownsRow.cellAt h j (by simpa[Lib.byteCells]using hj);rw[Addr.add_lit,Nat.zero_add,this];simp[Lib.byteCells,hj]
structure LitI (w:World) (bl base:Nat) (t:ByteArray) (a0:Nat) (pre:List Sg) (W:World):Prop where
 row:∃V c,Boxed W bl 48 (.slice V pre.length c)/\W.ownsRow base 5 1 (.slice V pre.length c) pre.length (Lib.byteCells (pre.map Sg.b))
 below:Below w.heap.size w W
 at':nxt (fun _ k=>k) a0 pre<=t.size
 run:RN [34] 34 t.data.toList a0=(pre.map Sg.b++(RN [34] 34 t.data.toList (nxt (fun _ k=>k) a0 pre)).1,(RN [34] 34 t.data.toList (nxt (fun _ k=>k) a0 pre)).2)
theorem LitI.turn {w:World} {bl base:Nat} {t:ByteArray} {a0:Nat} {pre:List Sg} {W W':World} {row:Option Nat} (h:LitI w bl base t a0 pre W) (hg:W.grownBy W' row)
  (hr:∀k,row=some k->w.heap.size<=k/\k≠bl/\(k<base\/ ∃o:Obj,W.heap[k]?=some o/\o.isCells=false)):LitI w bl base t a0 pre W':=by
 obtain⟨⟨V,c,h1,h2⟩,h3,h4,h5⟩:=h;refine⟨⟨V,c,h1.kept hg (fun e=>(hr bl e.symm).2.1 rfl),h2.kept hg ?_⟩,h3.grown hg h3.size (fun k hk=>(hr k hk).1),h4,h5⟩;rcases h2.2 with⟨hv,_⟩|⟨g,cap,cur,hv,hb,hh,_⟩
 ·exact .inl (by rw[hv];rfl)
 ·refine .inr fun e=> ?_
  rw[hv]at e;rcases(hr g (by simpa[Value.ownBlock]using e.symm)).2.2 with h|⟨o,ho,hc⟩
  ·omega
  ·rw[hh]at ho;cases ho;cases hc
theorem RE {r:Nat} {t left:ByteArray} {en:UInt8} {m B:Nat} {aft:UInt8->Nat->Nat} {a0 e0 n:Nat} (h1:r<n) (h2:m<n) (h3:B<n):OwnFrom n (AtP r t left en m B aft a0 e0):=fun s W W' row hs hg hr=>
 ⟨hs.1,hs.2.kept hg (fun e=>by have:=(hr r e.symm).1;omega) (fun e=>by have:=(hr m e.symm).1;omega) (fun e=>by have:=(hr B e.symm).1;omega)⟩
theorem K9 {r:Nat} {t left:ByteArray} {en:UInt8} {m B a e n:Nat} {W W':World} {row:Option Nat} (h1:r<n) (h2:m<n) (h3:B<n) (h:RdI r t left en m B a e W) (hg:W.grownBy W' row) (hr:∀k,row=some k->n<=k):RdI r t left en m B a e W':=
 h.kept hg (fun e=>by have:=hr r e.symm;omega) (fun e=>by have:=hr m e.symm;omega) (fun e=>by have:=hr B e.symm;omega)
theorem RF {r:Nat} {t left:ByteArray} {en:UInt8} {m B:Nat} {aft:UInt8->Nat->Nat} {a0 n:Nat} (h1:r<n) (h2:m<n) (h3:B<n):OwnFrom n (BkP r t left en m B aft a0):=fun s W W' row hs hg hr=>
 K9 h1 h2 h3 hs hg (fun k hk=>(hr k hk).1)
theorem RG {r:Nat} {t left:ByteArray} {en:UInt8} {m B:Nat} {aft:UInt8->Nat->Nat} {a0 e0 n:Nat} (h1:r<n) (h2:m<n) (h3:B<n):OwnFrom n (EnP r t left en m B aft a0 e0):=fun s W W' row hs hg hr=>by
 rcases hs with⟨x,y,z⟩|⟨x,y,z⟩|⟨x,y,p,k,u,z⟩
 ·exact .inl ⟨x,y,K9 h1 h2 h3 z hg (fun k hk=>(hr k hk).1)⟩
 ·exact .inr (.inl ⟨x,y,K9 h1 h2 h3 z hg (fun k hk=>(hr k hk).1)⟩)
 ·exact .inr (.inr ⟨x,y,p,k,u,K9 h1 h2 h3 z hg (fun k hk=>(hr k hk).1)⟩)
def MX (t:List UInt8) (w:World) (e:Ending) (w':World):Prop:=
 e=.returned (.tuple #[.string ⟨(BN t).1.toArray⟩,.int .i64 ((BN t).2.1:Int),.int .i64 ((BN t).2.2:Int)])/\Below w.heap.size w w'
set_option maxRecDepth 100000 in
set_option maxHeartbeats 3200000 in
theorem Vi (n:Nat) (hn:3<=n) (t:ByteArray) (w:World) (hs:t.size<=1000000):
  CallsIn Fence.wide n Tryz.prog 109 #[.string t] w (MX t.data.toList w):=by
 have hn1:1<=n:=by omega
 have hn2:1<=n-1:=by omega
 have h12:1<=n-1-1:=by omega
 have hfn:∀k,Fence.wide.fn k:=fun _=>trivial
 obtain⟨j0,hj,hy0,hy1,hy2⟩:=info_parts Tq;refine callsIn_of_wp_marks Tryz.func109 rfl trivial ?_ rfl;simp only[Tryz.ntmps109,List.size_toArray,List.length_cons,List.length_nil,Nat.reduceAdd,Nat.reduceSub,Array.replicate_succ,Array.replicate_zero,List.push_toArray,List.append_toArray,List.nil_append,List.cons_append]
 gi_wp2_with (first
  |(gi_at_call 119;refine(callsIn_wide.2 (MV t ⟨#[34]⟩ 34 34 _ hs (by decide))).mono ?_;rintro e w1 ⟨r,m,rfl,h1,h2,h3,h4,h5,h6⟩;have HR1:=qd h1;have HM1:=qd h2;have HQ:=qd (show m≠r/\w.heap.size<=r/\w.heap.size<=m from⟨h3,h4,h5⟩);have HB1:=qd h6;clear h1 h2 h3 h4 h5 h6)
  |(gi_at_call 120;refine(Ph _ _ trivial rfl r _).mono ?_;rintro e w' ⟨rfl,rfl⟩)
  |fail)
 have HP:=qd (show(BK 34 t.data.toList).1<=t.size from by
  unfold BK;split
  ·exact Nat.zero_le _
  ·rename_i c hc
   have:=(List.getElem?_eq_some_iff.1 hc).1;have:=Ar t;split <;> simp only <;> omega)
 have HU:=qd (show BN t.data.toList=if (BK 34 t.data.toList).2≠0 then([],(BK 34 t.data.toList).1,(BK 34 t.data.toList).2)else
   (if (RN [34] 34 t.data.toList (BK 34 t.data.toList).1).2.2≠0 then([],(RN [34] 34 t.data.toList (BK 34 t.data.toList).1).2.1,(RN [34] 34 t.data.toList (BK 34 t.data.toList).1).2.2)else if 255<(RN [34] 34 t.data.toList (BK 34 t.data.toList).1).1.length then([],0,40)else((RN [34] 34 t.data.toList (BK 34 t.data.toList).1).1,(RN [34] 34 t.data.toList (BK 34 t.data.toList).1).2.1+1,0))from by
  unfold BN BK;cases t.data.toList[0]? with
  |none=>rfl
  |some c=>
   by_cases hc:c=34
   ·subst hc;simp only[RN];rfl
   ·simp[hc])
 generalize (BK 34 t.data.toList).1=a0 at *;generalize (BK 34 t.data.toList).2=e0 at *;have HBL:=qd (show Boxed ((w1.alloc (.cells #[.slice none 0 0] 48)).alloc (.cells #[.pointer (some ⟨r,0,none⟩)] 178)) w1.heap.size 48 (.slice none 0 0)from(Boxed.new w1 48 (.slice none 0 0)).alloc _);have HW3:=qd (bx2 w1 (.cells #[.slice none 0 0] 48) (.cells #[.pointer (some ⟨r,0,none⟩)] 178))
 have HI3:=qd (show RdI r t ⟨#[34]⟩ 34 m (w1.heap.size+1) a0 e0 ((w1.alloc (.cells #[.slice none 0 0] 48)).alloc (.cells #[.pointer (some ⟨r,0,none⟩)] 178))from⟨HR1.out.below HW3.out,HM1.out.below HW3.out,by
  have h:=Boxed.new (w1.alloc (.cells #[.slice none 0 0] 48)) 178 (.pointer (some ⟨r,0,none⟩));rw[World.size_alloc]at h;exact h⟩)
 have HB3:=qd (HB1.out.trans (HW3.out.mono HB1.out.size));have HZ:=qd (show((w1.alloc (.cells #[.slice none 0 0] 48)).alloc (.cells #[.pointer (some ⟨r,0,none⟩)] 178)).heap.size=w1.heap.size+2 from by simp);have HRL:=qd (show r<w1.heap.size/\m<w1.heap.size/\w.heap.size<=w1.heap.size from⟨HR1.out.lt,HM1.out.lt,HB1.out.size⟩);generalize ((w1.alloc (.cells #[.slice none 0 0] 48)).alloc (.cells #[.pointer (some ⟨r,0,none⟩)] 178))=W3 at *;clear HR1 HM1 HB1 HW3;have hz:=HZ.out;have hrl:=HRL.out;have hq:=HQ.out
 refine Fz rfl hn1 (gf:=131) (lb:= #[.pointer (some ⟨w1.heap.size+1,0,none⟩)]) rfl trivial (enters_of Tryz.func131 (by kernel_rfl) rfl) (r:=r) (by omega)
  (MW (n-1) hn2 r t ⟨#[34]⟩ 34 m (w1.heap.size+1) (fun _ k=>k) a0 e0 W3 hs hq.1 (by omega) HP.out (fun b k hk=>⟨Nat.le_refl _,hk⟩) HI3.out)
  (RE (by omega) (by omega) (by omega)) (RF (by omega) (by omega) (by omega)) (RG (by omega) (by omega) (by omega)) (fun _=>rfl)
  (fun pre W=>LitI w w1.heap.size w1.heap.size t a0 pre W) (fun c pre W=>False)
  ?hI ?hIr ?hIx ?h0 (fun x=>{tmps:= #[.string t,undef,.string ⟨#[]⟩,.int .i64 0,.int .i64 0,.pointer (some ⟨r,0,none⟩),.pointer (some ⟨w1.heap.size,0,none⟩),u8V x.b,.string t,.pointer (some ⟨r,0,none⟩),.pointer (some ⟨r,0,none⟩),.func (.func 131) #[] #[.pointer (some ⟨w1.heap.size+1,0,none⟩)],u8V x.b,undef,undef,undef,undef,undef,undef,undef,undef,undef,undef,undef,undef,undef,undef,undef,undef,undef,undef,undef,undef,undef,undef,undef,undef,undef,undef,undef,undef,undef],defers:=[]}) ?assign ?body ?done ?stop
 case hI=>exact fun s W W' row h hg hr=>h.turn hg fun k hk=>⟨by have:=(hr k hk).1;omega,by have:=(hr k hk).1;omega,.inr (hr k hk).2⟩
 case hIr=>exact fun s W W' h hg=>h.turn hg fun k hk=>by cases hk;exact⟨hq.2.1,by omega,.inl (by omega)⟩
 case hIx=>exact fun c s W W' row hs _ _=>hs
 case h0=>exact⟨⟨none,0,HBL.out,World.ownsRow_nil _ _ _ _⟩,HB3.out,HP.out,rfl⟩
 case assign=>
  intro l x W K hK;gi_wp2
  exact hK
 case body=>
  rintro l pre x W ⟨⟨V,c,hv,hr⟩,hB,hat,hrun⟩ ⟨⟨_,hx1,hx2,hx3⟩,hRI⟩;have hx1':x.a=nxt (fun _ k=>k) a0 pre:=hx1;have hx2':t.data.toList[x.a]? ≠ some 34:=hx2;have hx3':AQ [34] t.data.toList x.a=.ok x.b x.n:=hx3;have HXN:=qd (Ch hx3')
  have HRUN:=qd (show RN [34] 34 t.data.toList a0=((pre++[x]).map Sg.b++(RN [34] 34 t.data.toList x.n).1,(RN [34] 34 t.data.toList x.n).2)from by
   rw[hrun,<-hx1',UY hx2' hx3'];simp)
  have hlr:pre.length<=t.size:=by
   have h:=(JM [34] 34 t.data.toList (t.data.toList.length+1-a0) a0 (by have:=Ar t;have:=HP.out;omega) (by have:=Ar t;have:=HP.out;omega)).1;have h2:=congrArg (fun p=>p.1.length) HRUN.out;simp only[RN,List.length_append,List.length_map,List.length_singleton]at h h2;have:=Ar t;omega
  have HRI:=qd (show RdI r t ⟨#[34]⟩ 34 m (w1.heap.size+1) x.n 0 W from hRI);have b0:=hv.cell;have f0:=hv.frozen;have HB:=qd hB;have HV:=qd hv;have HR:=qd hr;clear hB hv hr hx1 hx2 hx3 hx1' hx2' hx3' hrun hat hRI;have hzW:w1.heap.size<=W.heap.size:=by have:=HV.out.lt;omega
  have HF:=qd (show pre.length+1<=maxLen/\(pre.length+1)*1<=140737488355328/\w1.heap.size<=(W.alloc (.cells #[u8V x.b] 5)).heap.size from⟨by unfold maxLen;omega,by omega,by simp;omega⟩)
  have HCL:=qd (show ∀(j:Nat) (u:Value),[u8V x.b][j]?=some u->(W.alloc (.cells #[u8V x.b] 5)).cell? ((⟨W.heap.size,0,none⟩:Addr).add j)=some u from fun j u hu=>by
   obtain⟨ad,e,h⟩:=Be (cs:=[u8V x.b]) (Ad W _) j u hu;cases e;exact h)
  have HNB:=qd (show ∀k:Nat,(k<w1.heap.size\/k=w1.heap.size+1)->some k≠(Value.slice V pre.length c).ownBlock from fun k hk e=>by
   rcases hk with hk|rfl
   ·have:=Aq HR.out k (by rw[<-Dw V pre.length c];exact e.symm);omega
   ·exact HRI.out.2.2.not_row (by decide) HR.out e)
  gi_wp2_with (first|(gi_at_builtin;refine wpListIn_append_own _ rfl (.tmp 13) (.tmp 15) 48 rfl w1.heap.size 5 j0 (.int .u8 0) 1 1 Tryz.underlying48 hj hy0 hy1 hy2 rfl (by decide) (.slice V pre.length c) pre.length (Lib.byteCells (pre.map Sg.b)) rfl (World.ownsRow.alloc HR.out _) ⟨W.heap.size,0,none⟩ 1 1 [u8V x.b] rfl rfl HCL.out (fun u hu=>by simp only[List.mem_singleton]at hu;subst hu;rfl) HF.out.1 HF.out.2.1 HF.out.2.2 ?_;intro v' w4 hown' hgrow' hnil';obtain⟨g',cap',rfl⟩:=ownsRow_succ hown';have KG:=qd hgrow';obtain⟨k1,k2,k3,k4,k5⟩:=Boxed.appended HV.out (by decide) HR.out hzW (Nat.le_refl _) hown' hgrow';have q1:=k1.cell;have q2:=k1.frozen;have K2:=qd k2;have K3:=qd k3;have K4:=qd k4;have K5:=qd k5;clear k1 k2 k3 k4 k5 hown' hgrow' hnil')|fail)
  have hrl2:=HRL.out;have HRI4:=qd (((HRI.out.below (bx1 W (.cells #[u8V x.b] 5))).kept KG.out (HNB.out r (.inl hrl2.1)) (HNB.out m (.inl hrl2.2.1)) (HNB.out _ (.inr rfl))).kept (BU w4 w1.heap.size 0 (.slice (some ⟨g',0,none⟩) (pre.length+1) cap')) (by simp;omega) (by simp;omega) (by simp));have HE:Lib.byteCells ((pre++[x]).map Sg.b)=Lib.byteCells (pre.map Sg.b)++[u8V x.b]:=by simp[Lib.byteCells]
  have HL:(pre++[x]).length=pre.length+1:=by simp
  refine⟨K4.out.from _,?_,⟨⟨some ⟨g',0,none⟩,cap',?_,?_⟩,HB.out.trans (K5.out.mono HRL.out.2.2),?_,?_⟩⟩
  ·unfold BkP;rw[FZ];exact HRI4.out
  ·rw[HL];exact K2.out
  ·rw[HE,HL];exact K3.out
  ·rw[FZ];have h:=HXN.out;have:=Ar t;omega
  ·rw[FZ];exact HRUN.out
 case done=>
  rintro D xs W hD hS ⟨⟨V,c,hv,hr⟩,hB,hat,hrun⟩ hK;have b0:=hv.cell
  have HB:=qd (show ∀W':World,W'.heap=W.heap->W'.os=W.os->W'.tape=W.tape->W'.output=W.output->Below w.heap.size w (W'.putObj D (.deferred none))from fun W' e1 e2 e3 e4=>by
   have hb:Below w.heap.size w W':=⟨e2.trans hB.os,e3.trans hB.tape,e4.trans hB.output,by rw[e1];exact hB.size,fun k hk=>by rw[e1];exact hB.block k hk⟩;exact hb.trans (belowK_b (w:=w) (Nat.le_refl _) W' D _ (.deferred none) (by omega) (by rw[e1];exact hK) rfl rfl))
  have hcv:∀k,(convert 48 9 (.slice V xs.length c)).run Tryz.prog (W.drewN k)=.ok (.string ⟨(xs.map Sg.b).toArray⟩) (W.drewN k):=fun k=>Vh (show(W.drewN k).ownsRow w1.heap.size 5 1 (.slice V xs.length c) xs.length (Lib.byteCells (xs.map Sg.b))from hr) (by simp)
  clear hv hr;rcases hS with⟨x1,rfl,x3⟩|⟨x1,x2,x3⟩|⟨x1,x2,p,k,x3,x4⟩
  ·have HQ1:=qd (show BN t.data.toList=([],a0,e0)from by rw[HU.out,if_pos x1]);obtain⟨c0,c1,c2,c3,c4,c5,f4,f5⟩:=x3.1.cells;have i1:((e0:Int) != 0)=true:=by simp;omega
   have i2:¬(e0:Int)=0:=by omega
   clear HU hrun x3;gi_wp2
   gi_quiet (fail)
   gi_wp2
   refine⟨by simp,.inl ⟨_,_,rfl,run_takeDeferred (show(W.drewN nq).heap[D]?=some (.deferred (some []))from hK),?_⟩⟩;refine⟨.tuple #[.string ⟨#[]⟩,.int .i64 (a0:Int),.int .i64 (e0:Int)],by simp[results,Tryz.f109,go_sem],?_,HB.out _ rfl rfl rfl rfl⟩;rw[HQ1.out]
  ·rw[Q4 x2,List.append_nil]at hrun;obtain⟨c0,c1,c2,c3,c4,c5,f4,f5⟩:=x3.1.cells;have c5':W.cell? ⟨r,5,none⟩=some (.int .i64 0):=c5;clear c5;by_cases hlen:255<xs.length
   ·have HQ1:=qd (show BN t.data.toList=([],0,40)from by rw[HU.out,if_neg (by omega),hrun];simp[hlen]);have i1:(255:Int)<(xs.length:Int):=by omega
    clear HU hrun x3;gi_wp2
    refine⟨by simp,.inl ⟨_,_,rfl,run_takeDeferred (show(W).heap[D]?=some (.deferred (some []))from hK),?_⟩⟩;refine⟨.tuple #[.string ⟨#[]⟩,.int .i64 0,.int .i64 40],by simp[results,Tryz.f109,go_sem],?_,HB.out _ rfl rfl rfl rfl⟩;rw[HQ1.out];rfl
   ·have HQ1:=qd (show BN t.data.toList=(xs.map Sg.b,nxt (fun _ k=>k) a0 xs+1,0)from by rw[HU.out,if_neg (by omega),hrun];simp[hlen]);have i1:¬(255:Int)<(xs.length:Int):=by omega
    clear HU hrun x3;have hat2:=hat;generalize nxt (fun _ k=>k) a0 xs=q at *;gi_wp2
    gi_quiet (fail)
    gi_wp2
    refine⟨by simp,.inl ⟨_,_,rfl,run_takeDeferred (show(W.drewN nq).heap[D]?=some (.deferred (some []))from hK),?_⟩⟩;refine⟨.tuple #[.string ⟨(xs.map Sg.b).toArray⟩,.int .i64 ((q:Int)+1),.int .i64 0],by simp[results,Tryz.f109,go_sem],?_,HB.out _ rfl rfl rfl rfl⟩;rw[HQ1.out];rfl
  ·have hs3:AQ [34] t.data.toList (nxt (fun _ k=>k) a0 xs)=.no p k:=x3;have hk0:k≠0:=by rcases D5 hs3 with h|h <;> omega
   rw[Ya (by have:=Ar t;omega) x2 hs3,List.append_nil]at hrun;have HQ1:=qd (show BN t.data.toList=([],p,k)from by rw[HU.out,if_neg (by omega),hrun];simp[hk0]);obtain⟨c0,c1,c2,c3,c4,c5,f4,f5⟩:=x4.1.cells;have i1:((k:Int) != 0)=true:=by simp;omega
   have i2:¬(k:Int)=0:=by omega
   clear HU hrun x3 x4 hs3;gi_wp2
   gi_quiet (fail)
   gi_wp2
   refine⟨by simp,.inl ⟨_,_,rfl,run_takeDeferred (show(W.drewN nq).heap[D]?=some (.deferred (some []))from hK),?_⟩⟩;refine⟨.tuple #[.string ⟨#[]⟩,.int .i64 (p:Int),.int .i64 (k:Int)],by simp[results,Tryz.f109,go_sem],?_,HB.out _ rfl rfl rfl rfl⟩;rw[HQ1.out]
 case stop=>
  rintro D c pre W hD h hK;exact h.elim
theorem Tt (t:ByteArray) (w:World) (hs:t.size<=1000000):Calls Tryz.prog 109 #[.string t] w (MX t.data.toList w):=callsIn_wide.1 (Vi 3 (by omega) t w hs)
end Go.Proofs.YtdnochjajoiooaaGreatDoor
