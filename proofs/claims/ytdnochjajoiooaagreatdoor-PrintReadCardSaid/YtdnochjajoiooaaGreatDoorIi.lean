/- The contract of bonsairef04.Right. The tables of the printer, from a row's condition (six tables are laid). -/
import Derived.Test.YtdnochjajoiooaaGreatDoorSz
import Derived.Test.YtdnochjajoiooaaGreatDoorDq
import Derived.Test.YtdnochjajoiooaaGreatDoorGo
import Derived.ProofKit
import Derived.OpenShut
import Derived.LaidMore
import Derived.Stop.Joined
import Derived.Stop.LaidErr
import Derived.Deep.Strs
namespace Go.Proofs.YtdnochjajoiooaaGreatDoor
open Go.RowKit
set_option linter.unusedSimpArgs false
set_option linter.unusedVariables false
def SN (w:World) (A:Option Addr) (c:Nat) (ls:List Ln) (root:Int) (i:Value) (wr:World):Prop:=
 ∃k:Nat,k<=ls.length/\i=.int .i64 k/\Hid (wr.ownsRow (w.heap.size+1) 3 1 (.slice (some ⟨w.heap.size+1,0,none⟩) ls.length ls.length) ls.length (D4 ls.length (BE (ls.map Ln.nd) k 0)))/\Hid (FineTo (ls.map Ln.nd) k)/\Hid (wr.heap[w.heap.size]?=some (.cells #[.slice A ls.length c,.int .i64 root] 24 (0,0)))/\Hid (Below w.heap.size w wr)
def UE (w:World) (A:Option Addr) (c:Nat) (ls:List Ln) (root:Int) (k:Nat) (n:Ln) (nb:Nat) (i:Value) (wr:World):Prop:=
 ∃q:Nat,q<=n.nd.kids.length/\i=.int .i64 q/\Hid (wr.ownsRow (w.heap.size+1) 3 1 (.slice (some ⟨w.heap.size+1,0,none⟩) ls.length ls.length) ls.length (D4 ls.length (BE (ls.map Ln.nd) k q)))/\Hid (∀p (hp:p<n.nd.kids.length),p<q->0<=n.nd.kids[p]/\n.nd.kids[p]<(k:Int))/\Hid (wr.heap[w.heap.size]?=some (.cells #[.slice A ls.length c,.int .i64 root] 24 (0,0))) /\
  Hid (wr.heap[nb]?=some (.cells #[.int .u8 n.nd.kind,.int .u64 n.nd.s0,.int .u64 n.nd.s1,.int .u64 n.nd.s2,.int .u64 n.nd.s3,.string n.nd.text,.int .i64 n.nd.mn,.int .i64 n.nd.mx,.slice n.A n.nd.kids.length n.c] 42 (0,0)))/\Hid (Below w.heap.size w wr)
set_option maxRecDepth 100000 in
set_option maxHeartbeats 3200000 in
theorem Lu (A:Option Addr) (c:Nat) (ls:List Ln) (root:Int) (S:Nat->Prop) (w:World) (hT:ndL.row w S A ls) (hl:ls.length<=4294967296) (hkl:∀l∈ls,l.nd.kids.length<=4294967296) (hks:(Aw (ls.map Ln.nd)).length<=4611686018427387904):
  Calls Tryz.prog 57 #[.agg #[.slice A ls.length c,.int .i64 root]] w fun e w'=>e=.returned (.bool (AA ⟨ls.map Ln.nd,root⟩))/\Below w.heap.size w w':=by
 have hlm:(ls.map Ln.nd).length=ls.length:=by simp
 by_cases hr:0<=root/\root<(ls.length:Int)
 ·obtain⟨hr1,hr2⟩:=hr;obtain⟨i0,hi,hz0,hz1,hz2⟩:=info_parts DA;have HT:=qd hT;clear hT;have HLM:=qd hlm;clear hlm;have HKS:=qd hks;clear hks;have HKL:=qd hkl;clear hkl;go_enter Tryz.func57,Tryz.ntmps57
  go_wp2_with (first|(at_make;refine wpList_make_full _ rfl _ _ 40 rfl (w.heap.size+1) 3 i0 _ 1 Tryz.underlying40 hi hz0 hz1 .i64 .i64 _ _ ls.length rfl rfl rfl rfl ?_ ?_ ?_ ?_))
  ·rw[hz2];omega
  ·unfold maxLen;omega
  ·simp
  intro w1 hown1 hgrow1;rw[Nw]at hown1;have HB1:=qd (show Below w.heap.size w w1 from(bx1 w _).trans ((Below.refl _ _).grown hgrow1 (by simp) (fun k e=>by cases e)));have HO1:=qd hown1;clear hown1;have HK1:=qd ((hgrow1.block w.heap.size (by simp) (fun e=>by cases e)).trans (Ad w _));clear hgrow1;obtain⟨b1,b2,_,_⟩:=Bd HK1.out;go_wp2_with fail
  clear b1 b2;go_loopw [4] (fun i wr=>SN w A c ls root i wr) (fun i _=>ls.length-(intOf i).toNat)
  case atStart=>exact⟨0,by omega,rfl,qd (by rw[J8];exact HO1.out),qd (FineTo.zero _),HK1,HB1⟩
  case round=>
   clear HO1 HK1 HB1;obtain⟨k,hk,rfl,HO,HF,HK,HB⟩:=hrel;obtain⟨b1,b2,_,_⟩:=Bd HK.out;by_cases hlt:k<ls.length
   ·have HR:=qd (HT.out.agree (AF HB.out));have HW:=qd (Mb HT.out k hlt);have HKR:=qd (EX HR.out k hlt);obtain⟨b,o,rfl,hS,hbl,x0,x1,x2,x3,x4,x5,x6,x7,x8⟩:=D3 HR.out k hlt;have i1:(k:Int)<(ls.length:Int):=by omega
    have i0:(0:Int)<=(k:Int):=by omega
    have hkl:ls[k].nd.kids.length<=4294967296:=HKL.out _ (List.getElem_mem hlt);cases hf:Am ls[k].nd (ls[k].nd.kids.length:Nat)
    ·as_aux_lemma=>
      have HX:=qd (show AA ⟨ls.map Ln.nd,root⟩=false from Kd (k:=k) (by rw[HLM.out];exact hlt) (by simpa using hf));go_wp2_with (go_at_call 56;refine(JT ls[k].nd _ _ _ HW.out.1 HW.out.2.1).mono ?_;rintro e w' ⟨rfl,hb⟩)
      go_ret;exact⟨Aj HX.out.symm,(HB.out.trans ((bx1 wr _).mono HB.out.size)).trans (hb.mono (by have:=HB.out.size;simp;omega))⟩
    ·have HF1:=qd hf;go_wp2_with (go_at_call 56;refine(JT ls[k].nd _ _ _ HW.out.1 HW.out.2.1).mono ?_;rintro e w' ⟨rfl,hb⟩;obtain⟨q0,q1,q2,q3,q4,q5,q6,q7,q8,_⟩:=BP (Ae hb (Ad wr _)))
     have HB2:=qd (show Below w.heap.size w w' from(HB.out.trans ((bx1 wr _).mono HB.out.size)).trans (hb.mono (by have:=HB.out.size;simp;omega)));have HO2:=qd (M1 (World.ownsRow.alloc HO.out _) hb);have HK2:=qd (Ae hb (A7 HK.out));have HQ2:=qd (Ae hb (Ad wr (.cells #[.int .u8 ls[k].nd.kind,.int .u64 ls[k].nd.s0,.int .u64 ls[k].nd.s1,.int .u64 ls[k].nd.s2,.int .u64 ls[k].nd.s3,.string ls[k].nd.text,.int .i64 ls[k].nd.mn,.int .i64 ls[k].nd.mx,.slice ls[k].A ls[k].nd.kids.length ls[k].c] 42)));have HNB:=qd (show w.heap.size+2<=wr.heap.size from by have:=(FA HO.out).2;omega)
     have HN0:=qd (show BE (ls.map Ln.nd) k ls[k].nd.kids.length=BE (ls.map Ln.nd) (k+1) 0 by
      have:=Mz (ls.map Ln.nd) k (by rw[HLM.out];exact hlt);simpa using this)
     clear hb q0 q1 q2 q3 q4 q5 q6 q7 q8 x0 x1 x2 x3 x4 x5 x6 x7 x8 hf HO HK b1 b2;go_loopw [6] (fun i wx=>UE w (some ⟨b,o,none⟩) c ls root k ls[k] wr.heap.size i wx) (fun i _=>ls[k].nd.kids.length-(intOf i).toNat)
     case atStart=>exact⟨0,by omega,rfl,HO2,qd (fun p _ h=>by omega),HK2,HQ2,HB2⟩
     case round=>
      clear HO2 HK2 HB2 HQ2 HB HR HKR;obtain⟨q,hq,rfl,HO,HI,HK,HQ,HB⟩:=hrel;obtain⟨q0,q1,q2,q3,q4,q5,q6,q7,q8,_⟩:=BP HQ.out;by_cases hql:q<ls[k].nd.kids.length
      ·as_aux_lemma=>
        obtain⟨kb,ko,hkA,_,_,y0⟩:=E9 (EX (HT.out.agree (AF HB.out)) k hlt) q hql;have i2:(q:Int)<(ls[k].nd.kids.length:Int):=by omega
        have i3:(0:Int)<=(q:Int):=by omega
        have hkz:(ls.map Ln.nd)[k]'(by rw[HLM.out];exact hlt)=ls[k].nd:=by simp
        have HSK:=qd (show BE (ls.map Ln.nd) k (q+1)=BE (ls.map Ln.nd) k q++[ls[k].nd.kids[q]]by
         have:=KZ (ls.map Ln.nd) k q (by rw[HLM.out];exact hlt) (by rw[hkz];exact hql);simpa using this)
        have HXK:=qd (show ¬(0<=ls[k].nd.kids[q]/\ls[k].nd.kids[q]<(k:Int))->AA ⟨ls.map Ln.nd,root⟩=false from fun h=>IE (k:=k) (q:=q) (by rw[HLM.out];exact hlt) (by simpa using hql) (by simpa using h));clear hkz;generalize hz:ls[k].nd.kids[q]=z at y0 HSK HXK;have HZ:=qd hz;clear hz;rw[hkA]at q8;clear hkA;by_cases hz0:z<0
        ·have HX:=qd (HXK.out (by omega));go_wp2_with fail
         go_ret;exact⟨Aj HX.out.symm,HB.out⟩
        ·by_cases hz1:(k:Int)<=z
         ·have HX:=qd (HXK.out (by omega));go_wp2_with fail
          go_ret;exact⟨Aj HX.out.symm,HB.out⟩
         ·obtain⟨m,rfl⟩:=Int.eq_ofNat_of_zero_le (show 0<=z by omega);have hmk:m<k:=by omega
          have c0:=AX HO.out m (by omega) (DO _ _ m (by omega));have c1:=World.ownsRow.frozenAt HO.out m;have i4:(m:Int)<(ls.length:Int):=by omega
          have HCL:=qd (show(BE (ls.map Ln.nd) k q).count (m:Int)<=4611686018427387904 from by
           have h1:=Ox (ls.map Ln.nd) k q;have h2:=HKS.out;have h3:(BE (ls.map Ln.nd) k q).count (m:Int)<=(BE (ls.map Ln.nd) k q).length:=List.count_le_length;omega)
          have HCS:=qd (Nx ls.length (BE (ls.map Ln.nd) k q) m (by omega));have hcl:=HCL.out;generalize (BE (ls.map Ln.nd) k q).count (m:Int)=cc at c0 hcl HCS;go_wp2_with fail
          refine⟨⟨q+1,by omega,by go_num,qd ?_,qd ?_,qd ((Below.heap_setCell _ _ _ _ (by simp)).trans HK.out),qd ((Below.heap_setCell _ _ _ _ (by have:=HNB.out;show _≠w.heap.size+1;omega)).trans HQ.out),qd (HB.out.setCell (p:=⟨w.heap.size+1,m,none⟩) (by simp) _)⟩,by simp[intOf];omega⟩
          ·rw[HSK.out,<-HCS.out];exact(World.ownsRow.stored HO.out _ _).1
          ·intro p hp hpq;by_cases e:p<q
           ·exact HI.out p hp e
           ·obtain rfl:p=q:=by omega
            rw[HZ.out];omega
      ·as_aux_lemma=>
        have hqe:q=ls[k].nd.kids.length:=by omega
        have HFN:=qd (show FineTo (ls.map Ln.nd) (k+1)from HF.out.next (by rw[HLM.out];exact hlt) (by simpa using HF1.out) (fun p hp=>by simpa using HI.out p (by simpa using hp) (by rw[hqe];simpa using hp)));have HQE:=qd hqe;clear hqe;go_wp2_with fail
        exact⟨⟨k+1,by omega,by go_num,qd (by rw[<-HN0.out,<-HQE.out];exact HO.out),HFN,HK,HB⟩,by simp[intOf];omega⟩
   ·have hke:k=ls.length:=by omega
    have HSE:=qd (show BE (ls.map Ln.nd) k 0=Aw (ls.map Ln.nd)by rw[hke,<-HLM.out,Ov]);have HFE:=qd (show FineTo (ls.map Ln.nd) (ls.map Ln.nd).length by rw[HLM.out,<-hke];exact HF.out);have HO3:=qd (show wr.ownsRow (w.heap.size+1) 3 1 (.slice (some ⟨w.heap.size+1,0,none⟩) ls.length ls.length) ls.length (D4 ls.length (Aw (ls.map Ln.nd)))by rw[<-HSE.out];exact HO.out);have HKE:=qd hke;clear hke HO HF HSE;go_wp2_with fail
    go_loop [7] (fun i=>∃j:Nat,j<=ls.length/\i=.int .i64 j/\ ∀p,p<j->(Aw (ls.map Ln.nd)).count (p:Int)=if (p:Int)=root then 0 else 1) (fun i=>ls.length-(intOf i).toNat)
    case atStart=>exact⟨0,by omega,rfl,fun p hp=>by omega⟩
    case round=>as_aux_lemma=>
      obtain⟨j,hj,rfl,hall⟩:=hrel;have HA:=qd hall;clear hall;by_cases hjl:j<ls.length
      ·have c0:=AX HO3.out j hjl (DO _ _ j hjl);have i3:(j:Int)<(ls.length:Int):=by omega
       have i4:(0:Int)<=(j:Int):=by omega
       have HX:=qd (show((Aw (ls.map Ln.nd)).count (j:Int)≠if (j:Int)=root then 0 else 1)->AA ⟨ls.map Ln.nd,root⟩=false from fun h=>IG (t:=⟨ls.map Ln.nd,root⟩) (by rw[HLM.out];exact hjl) h)
       have HM:=qd (show((Aw (ls.map Ln.nd)).count (j:Int)=if (j:Int)=root then 0 else 1)-> ∀p,p<j+1->(Aw (ls.map Ln.nd)).count (p:Int)=if (p:Int)=root then 0 else 1 from fun h p hp=>by
        by_cases e:p<j
        ·exact HA.out p e
        ·obtain rfl:p=j:=by omega
         exact h)
       generalize (Aw (ls.map Ln.nd)).count (j:Int)=cc at c0 HX HM;by_cases he:(j:Int)=root
       ·have he2:((j:Int)==root)=true:=by simpa using he
        have he3:(!((j:Int)==root))=false:=by rw[he2];rfl
        by_cases hc:cc=0
        ·have HM2:=qd (HM.out (by rw[if_pos he];omega));subst hc;clear he;go_wp2_with fail
         exact⟨⟨j+1,by omega,by go_num,HM2.out⟩,by simp[intOf];omega⟩
        ·have HX2:=qd (HX.out (by rw[if_pos he];omega));clear he;go_wp2_with fail
         go_ret;exact⟨Aj HX2.out.symm,HB.out⟩
       ·have he2:((j:Int)==root)=false:=by simpa using he
        by_cases hc:cc=1
        ·have HM2:=qd (HM.out (by rw[if_neg he];omega));subst hc;have c0:wr.cell? ⟨w.heap.size+1,j,none⟩=some (.int .i64 1):=c0;go_wp2_with fail
         exact⟨⟨j+1,by omega,by go_num,HM2.out⟩,by simp[intOf];omega⟩
        ·have hc2:((cc:Int)==1)=false:=by simp;omega
         have hc3:¬((cc:Int)=1):=by omega
         have HX2:=qd (HX.out (by rw[if_neg he];omega));have he4:((j:Int) != root)=true:=by simp[bne,he2]
         have hc4:((cc:Int) != 1)=true:=by simp[bne,hc2]
         go_wp2_with fail
         go_ret;exact⟨Aj HX2.out.symm,HB.out⟩
      ·have HX2:=qd (show AA ⟨ls.map Ln.nd,root⟩=true from M0 (by rw[HLM.out];exact⟨hr1,hr2⟩) HFE.out (fun p hp=>HA.out p (by rw[HLM.out]at hp;omega)));go_wp2_with fail
       go_ret;exact⟨Aj HX2.out.symm,HB.out⟩
 ·have HX:=qd (show AA ⟨ls.map Ln.nd,root⟩=false from Ih (by rw[hlm];exact hr));clear hlm;by_cases h1:root<0
  ·go_enter Tryz.func57,Tryz.ntmps57
   go_wp2_with fail
   go_ret;exact⟨Aj HX.out.symm,bx1 _ _⟩
  ·have h2:(ls.length:Int)<=root:=by omega
   go_enter Tryz.func57,Tryz.ntmps57
   go_wp2_with fail
   go_ret;exact⟨Aj HX.out.symm,bx1 _ _⟩
end Go.Proofs.YtdnochjajoiooaaGreatDoor
namespace Go.Proofs.YtdnochjajoiooaaGreatDoor
open Go.RowKit Go.ChangeShapes Go.WideShapes
set_option linter.unusedSimpArgs false
set_option linter.unusedVariables false
set_option maxRecDepth 100000
theorem glt {w:World} {g:Nat} {v:Value} (h:w.cell? ⟨g,0,none⟩=some v):g<w.heap.size:=AP h
theorem Lv {W:World} {rest:List (String×DataW Unit)} (h:laidMet Tryz.prog (("bonsai/tree.counts",Rows.laid_bonsai_tree_counts)::rest) W):CntTab W:=by
 obtain⟨ps,⟨g',t',cs,fuel,p,q,hg',ht',hvar,hd,_,_⟩,_⟩:=h;obtain rfl:=Option.some.inj ((show Tryz.prog.globalNamed "bonsai/tree.counts" = some 2 by kernel_rfl).symm.trans hg');obtain rfl:=Option.some.inj ((show(Tryz.prog.globals[(2:Nat)]?).map (·.type)=some 118 by kernel_rfl).symm.trans ht');obtain⟨xs,m,_,hx,hcl,hxl,hel⟩:=DataW.trod_array Tryz.underlying118 hd;have k1:Tryz.prog.cellsOf 117=2:=by kernel_rfl
 rw[show Tryz.prog.cellsOf 118=20 by kernel_rfl]at hcl;simp only[k1]at hel
 have hx1:xs.map (·.1)=[Lib.tabData .i64 [0,0],Lib.tabData .i64 [0,0],Lib.tabData .i64 [0,0],Lib.tabData .i64 [0,0],Lib.tabData .i64 [2, -1],Lib.tabData .i64 [2, -1],Lib.tabData .i64 [1,1],Lib.tabData .i64 [1,1],Lib.tabData .i64 [1,1],Lib.tabData .i64 [1,1]]:=by
  have h1:=congrArg Prod.fst hx;simp only[Rows.laid_bonsai_tree_counts,DataW.agg.injEq]at h1;rw[<-h1];rfl
 have hch:∀(i:Nat) (a b:Int),i<10->(xs.map (·.1))[i]?=some (Lib.tabData .i64 [a,b])->(cs.toList.drop (i*2)).take 2=[.int .i64 a,.int .i64 b]:=fun i a b hi he=>by
  have h1:=hel i hi;rw[List.getElem?_map]at he;obtain⟨y,hy,e⟩:=Option.map_eq_some_iff.1 he;rw[hy]at h1;obtain⟨y1,y2⟩:=y;simp only at e;subst e;exact Lib.cells_of_tab (zs:=[a,b]) Tryz.underlying117 Tryz.underlying3 (by kernel_rfl) k1 h1
 rw[hx1]at hch;unfold CntTab;rw[hvar];obtain⟨l⟩:=cs;simp only at hch hcl;match l,hcl with
 |[a0,a1,a2,a3,a4,a5,a6,a7,a8,a9,a10,a11,a12,a13,a14,a15,a16,a17,a18,a19],_=>
  have c0:=hch 0 0 0 (by decide) rfl;have c1:=hch 1 0 0 (by decide) rfl;have c2:=hch 2 0 0 (by decide) rfl;have c3:=hch 3 0 0 (by decide) rfl;have c4:=hch 4 2 (-1) (by decide) rfl;have c5:=hch 5 2 (-1) (by decide) rfl;have c6:=hch 6 1 1 (by decide) rfl;have c7:=hch 7 1 1 (by decide) rfl;have c8:=hch 8 1 1 (by decide) rfl;have c9:=hch 9 1 1 (by decide) rfl;simp only[Nat.zero_mul,List.drop_zero,List.take_succ_cons,List.take_zero,List.drop_succ_cons,List.cons.injEq,and_true,Nat.reduceMul]at c0 c1 c2 c3 c4 c5 c6 c7 c8 c9;obtain⟨rfl,rfl⟩:=c0;obtain⟨rfl,rfl⟩:=c1;obtain⟨rfl,rfl⟩:=c2;obtain⟨rfl,rfl⟩:=c3;obtain⟨rfl,rfl⟩:=c4;obtain⟨rfl,rfl⟩:=c5;obtain⟨rfl,rfl⟩:=c6;obtain⟨rfl,rfl⟩:=c7;obtain⟨rfl,rfl⟩:=c8;obtain⟨rfl,rfl⟩:=c9;rfl
theorem Cu {cs:List Value} {i c:Nat} {l:List Value} (h:(cs.drop (i*c)).take c=l) (j:Nat) (hj:j<c):cs[i*c+j]?=l[j]? :=by
 rw[<-h,List.getElem?_take,if_pos hj,List.getElem?_drop]
theorem OK {H:Type} {enc:TypeId×Value->H} {w:World} {base:Nat} {sp:Nat->Bool} {held:Bool} {fuel:Nat} {cs:List Value} {a b:Int} {s:List UInt8} {p:List MemPlace}
  (h:DataW.trod enc Tryz.prog w base sp held fuel 89 cs=some (.agg [.lit (.int .i64 a),.lit (.int .i64 b),.lit (.string s)],p)):cs=[.int .i64 a,.int .i64 b,.string ⟨s.toArray⟩]:=by
 obtain⟨z0,z1,z2,n,hz,hl,e0,e1,e2⟩:=Go.Deep.trod_struct3 Tryz.underlying89 h;simp only[show Tryz.prog.cellsOf 3=1 by kernel_rfl,show Tryz.prog.cellsOf 9=1 by kernel_rfl]at e0 e1 e2;obtain⟨n0,c0,g0,_⟩:=DataW.trod_int Tryz.underlying3 e0;obtain⟨n1,c1,g1,_⟩:=DataW.trod_int Tryz.underlying3 e1;obtain⟨n2,c2,g2,_⟩:=DataW.trod_string Tryz.underlying9 e2;subst g0 g1 g2;simp only[Prod.mk.injEq,DataW.agg.injEq,List.cons.injEq,DataW.lit.injEq,Lit.int.injEq,Lit.string.injEq,and_true,true_and]at hz;obtain⟨⟨rfl,rfl,rfl⟩,_⟩:=hz;rw[show Tryz.prog.cellsOf 89=3 by kernel_rfl]at hl;match cs,hl with
 |[x,y,z],_=>
  simp at c0 c1 c2;simp[c0,c1,c2]
theorem Qo {W:World} {rest:List (String×DataW Unit)} (h:laidMet Tryz.prog (("bonsai/print.counts",Rows.laid_bonsai_print_counts)::rest) W):CoTab W:=by
 obtain⟨ps,⟨g',t',cs,fuel,p,q,hg',ht',hvar,hd,_,_⟩,_⟩:=h;obtain rfl:=Option.some.inj ((show Tryz.prog.globalNamed "bonsai/print.counts" = some 1 by kernel_rfl).symm.trans hg');obtain rfl:=Option.some.inj ((show(Tryz.prog.globals[(1:Nat)]?).map (·.type)=some 90 by kernel_rfl).symm.trans ht');obtain⟨xs,m,_,hx,hcl,hxl,hel⟩:=DataW.trod_array Tryz.underlying90 hd;have k1:Tryz.prog.cellsOf 89=3:=by kernel_rfl
 simp only[k1]at hel
 have hx1:xs.map (·.1)=[.agg [.lit (.int .i64 0),.lit (.int .i64 1),.lit (.string [63])],.agg [.lit (.int .i64 0),.lit (.int .i64 (-1)),.lit (.string [42])],.agg [.lit (.int .i64 1),.lit (.int .i64 (-1)),.lit (.string [43])]]:=by
  have h1:=congrArg Prod.fst hx;simp only[Rows.laid_bonsai_print_counts,DataW.agg.injEq]at h1;rw[<-h1]
 have hch:∀(i:Nat) (a b:Int) (s:List UInt8),i<3->(xs.map (·.1))[i]?=some (.agg [.lit (.int .i64 a),.lit (.int .i64 b),.lit (.string s)])->(cs.toList.drop (i*3)).take 3=[.int .i64 a,.int .i64 b,.string ⟨s.toArray⟩]:=fun i a b s hi he=>by
  have h1:=hel i hi;rw[List.getElem?_map]at he;obtain⟨y,hy,e⟩:=Option.map_eq_some_iff.1 he;rw[hy]at h1;obtain⟨y1,y2⟩:=y;simp only at e;subst e;exact OK h1
 rw[hx1]at hch;have HC:=fun j=>World.var?_cell (P:=Tryz.prog) (g:=1) (by kernel_rfl) hvar j
 have c0:=hch 0 0 1 [63] (by decide) rfl;have c1:=hch 1 0 (-1) [42] (by decide) rfl;have c2:=hch 2 1 (-1) [43] (by decide) rfl;intro j u hu;rw[HC j]
 have hj:j<9:=by
  rcases Nat.lt_or_ge j 9 with h|h
  ·exact h
  ·rw[List.getElem?_eq_none (by simp;omega)]at hu;simp at hu
 have hj':j=0\/j=1\/j=2\/j=3\/j=4\/j=5\/j=6\/j=7\/j=8:=by omega
 rw[<-Array.getElem?_toList];rcases hj' with rfl|rfl|rfl|rfl|rfl|rfl|rfl|rfl|rfl
 ·exact(Cu c0 0 (by decide)).trans hu
 ·exact(Cu c0 1 (by decide)).trans hu
 ·exact(Cu c0 2 (by decide)).trans hu
 ·exact(Cu c1 0 (by decide)).trans hu
 ·exact(Cu c1 1 (by decide)).trans hu
 ·exact(Cu c1 2 (by decide)).trans hu
 ·exact(Cu c2 0 (by decide)).trans hu
 ·exact(Cu c2 1 (by decide)).trans hu
 ·exact(Cu c2 2 (by decide)).trans hu
theorem Lw {H:Type} {enc:TypeId×Value->H} {w:World} {base:Nat} {sp:Nat->Bool} {held:Bool} {fuel:Nat} {cs:List Value} {x y z:List UInt8} {p:List MemPlace}
  (h:DataW.trod enc Tryz.prog w base sp held fuel 61 cs=some (.agg [.lit (.string x),.lit (.string y),.lit (.string z)],p)):cs=[.string ⟨x.toArray⟩,.string ⟨y.toArray⟩,.string ⟨z.toArray⟩]:=by
 obtain⟨z0,z1,z2,n,hz,hl,e0,e1,e2⟩:=Go.Deep.trod_struct3 Tryz.underlying61 h;simp only[show Tryz.prog.cellsOf 9=1 by kernel_rfl]at e0 e1 e2;obtain⟨n0,c0,g0,_⟩:=DataW.trod_string Tryz.underlying9 e0;obtain⟨n1,c1,g1,_⟩:=DataW.trod_string Tryz.underlying9 e1;obtain⟨n2,c2,g2,_⟩:=DataW.trod_string Tryz.underlying9 e2;subst g0 g1 g2;simp only[Prod.mk.injEq,DataW.agg.injEq,List.cons.injEq,DataW.lit.injEq,Lit.string.injEq,and_true,true_and]at hz;obtain⟨⟨rfl,rfl,rfl⟩,_⟩:=hz;rw[show Tryz.prog.cellsOf 61=3 by kernel_rfl]at hl;match cs,hl with
 |[x,y,z],_=>
  simp at c0 c1 c2;simp[c0,c1,c2]
theorem Qp {W:World} {rest:List (String×DataW Unit)} (h:laidMet Tryz.prog (("bonsai/print.signs",Rows.laid_bonsai_print_signs)::rest) W):SgTab W:=by
 obtain⟨ps,⟨g',t',cs,fuel,p,q,hg',ht',hvar,hd,_,_⟩,_⟩:=h;obtain rfl:=Option.some.inj ((show Tryz.prog.globalNamed "bonsai/print.signs" = some 0 by kernel_rfl).symm.trans hg');obtain rfl:=Option.some.inj ((show(Tryz.prog.globals[(0:Nat)]?).map (·.type)=some 62 by kernel_rfl).symm.trans ht');obtain⟨xs,m,_,hx,hcl,hxl,hel⟩:=DataW.trod_array Tryz.underlying62 hd;have k1:Tryz.prog.cellsOf 61=3:=by kernel_rfl
 simp only[k1]at hel
 have hx1:xs.map (·.1)=(List.range 10).map fun i=>.agg [.lit (.string (sgL.getD (i*3) [])),.lit (.string (sgL.getD (i*3+1) [])),.lit (.string (sgL.getD (i*3+2) []))]:=by
  have h1:=congrArg Prod.fst hx;simp only[Rows.laid_bonsai_print_signs,DataW.agg.injEq]at h1;rw[<-h1];rfl
 have hch:∀(i:Nat),i<10->(cs.toList.drop (i*3)).take 3=[.string ⟨(sgL.getD (i*3) []).toArray⟩,.string ⟨(sgL.getD (i*3+1) []).toArray⟩,.string ⟨(sgL.getD (i*3+2) []).toArray⟩]:=fun i hi=>by
  have h1:=hel i hi;obtain⟨y,hy⟩:∃y,xs[i]?=some y:=⟨_,List.getElem?_eq_getElem (by omega)⟩;have h2:(xs.map (·.1))[i]?=some y.1:=by simp[hy]
  rw[hx1,List.getElem?_map,List.getElem?_range hi]at h2;rw[hy]at h1;obtain⟨y1,y2⟩:=y;simp only[Option.map_some,Option.some.injEq]at h2;subst h2;exact Lw h1
 have HC:=fun j=>World.var?_cell (P:=Tryz.prog) (g:=0) (by kernel_rfl) hvar j
 intro j l hl;rw[HC j]
 have hj:j<30:=by
  rcases Nat.lt_or_ge j 30 with h|h
  ·exact h
  ·rw[List.getElem?_eq_none (by simp[sgL];omega)]at hl;simp at hl
 rw[<-Array.getElem?_toList];have h1:=Cu (hch (j/3) (by omega)) (j%3) (by omega);rw[show j/3*3+j%3=j by omega]at h1;rw[h1];have h3:j%3=0\/j%3=1\/j%3=2:=by omega
 rcases h3 with e|e|e
 ·rw[e];simp[show j/3*3=j by omega,hl]
 ·rw[e];simp[show j/3*3+1=j by omega,hl]
 ·rw[e];simp[show j/3*3+2=j by omega,hl]
theorem Qq {W:World} {rest:List (String×DataW Unit)} (h:laidMet Tryz.prog (("math/bits.deBruijn64tab",Rows.laid_math_bits_deBruijn64tab)::rest) W):DbTab W:=by
 have ht:Lib.TabIs Tryz.prog W "math/bits.deBruijn64tab" .u8 (Lib.deBruijn64tab.map fun n:Nat=>(n:Int)):=Lib.tabIs_of_head (g:=3) (t:=162) (e:=5) (n:=64) (by kernel_rfl) (by kernel_rfl) Tryz.underlying162 Tryz.underlying5 (by kernel_rfl) (by kernel_rfl) h;intro j hj;have hl:Lib.deBruijn64tab.length=64:=by decide
 rw[ht.cell (by kernel_rfl) j (by simp[hl,hj])];simp[hl,hj]
theorem OL {W:World} {rest:List (String×DataW Unit)} (h:laidMet Tryz.prog (("internal/strconv.uint64pow10",Rows.laid_internal_strconv_uint64pow10)::rest) W):Tab W:=
 Lib.tabIs_of_head (g:=4) (t:=173) (e:=37) (n:=20) (by kernel_rfl) (by kernel_rfl) Tryz.underlying173 Tryz.underlying37 (by kernel_rfl) (by kernel_rfl) h
def XX:List (String×DataW Unit):=[("math/bits.deBruijn32tab",Rows.laid_math_bits_deBruijn32tab),("math/bits.deBruijn64tab",Rows.laid_math_bits_deBruijn64tab),("internal/strconv.uint64pow10",Rows.laid_internal_strconv_uint64pow10),("bonsai/tree.counts",Rows.laid_bonsai_tree_counts),("bonsai/print.counts",Rows.laid_bonsai_print_counts),("bonsai/print.signs",Rows.laid_bonsai_print_signs)]
theorem Me {W:World} (h:laidMetH Tryz.prog XX W):PTabs W:=by
 rw[MakeChecks.laidMetH_plain _ _ _ (by kernel_rfl)]at h;have hs:=Qp h.tail.tail.tail.tail.tail;have hc:=Qo h.tail.tail.tail.tail;have hn:=Lv h.tail.tail.tail;have ht:=OL h.tail.tail;have hd:=Qq h.tail
 have hp:4<W.heap.size:=by
  have:=World.var?_cell (P:=Tryz.prog) (g:=4) (by kernel_rfl) ht 0;exact glt (v:=.int .u64 1) (by simpa[Lib.pow10Tab]using this)
 exact⟨hn,hs,hd,hc,ht,hp⟩
end Go.Proofs.YtdnochjajoiooaaGreatDoor
