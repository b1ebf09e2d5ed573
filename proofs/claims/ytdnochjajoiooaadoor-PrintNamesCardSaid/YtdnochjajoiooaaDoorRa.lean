/- The contract of bonsairef04.Right. -/
import Derived.Test.YtdnochjajoiooaaDoorDg
import Derived.Test.YtdnochjajoiooaaDoorDw
namespace Go.Proofs.YtdnochjajoiooaaDoor
open Go.RowKit
set_option linter.unusedSimpArgs false
set_option linter.unusedVariables false
def RRightOut (w:World) (A:Option Addr) (c:Nat) (ls:List Ln) (root:Int) (i:Value) (wr:World):Prop:=
 ∃k:Nat,k≤ls.length∧i=.int .i64 k∧Hid (wr.ownsRow (w.heap.size+1) 3 1 (.slice (some ⟨w.heap.size+1,0,none⟩) ls.length ls.length) ls.length (countsOf ls.length (seenL (ls.map Ln.nd) k 0)))∧Hid (FineTo (ls.map Ln.nd) k)∧Hid (wr.heap[w.heap.size]?=some (.cells #[.slice A ls.length c,.int .i64 root] 25 (0,0)))∧Hid (Below w.heap.size w wr)
def RRightIn (w:World) (A:Option Addr) (c:Nat) (ls:List Ln) (root:Int) (k:Nat) (n:Ln) (nb:Nat) (i:Value) (wr:World):Prop:=
 ∃q:Nat,q≤n.nd.kids.length∧i=.int .i64 q∧Hid (wr.ownsRow (w.heap.size+1) 3 1 (.slice (some ⟨w.heap.size+1,0,none⟩) ls.length ls.length) ls.length (countsOf ls.length (seenL (ls.map Ln.nd) k q)))∧Hid (∀p (hp:p<n.nd.kids.length),p<q→0≤n.nd.kids[p]∧n.nd.kids[p]<(k:Int))∧Hid (wr.heap[w.heap.size]?=some (.cells #[.slice A ls.length c,.int .i64 root] 25 (0,0))) ∧
  Hid (wr.heap[nb]?=some (.cells #[.int .u8 n.nd.kind,.int .u64 n.nd.s0,.int .u64 n.nd.s1,.int .u64 n.nd.s2,.int .u64 n.nd.s3,.string n.nd.text,.int .i64 n.nd.mn,.int .i64 n.nd.mx,.slice n.A n.nd.kids.length n.c] 35 (0,0)))∧Hid (Below w.heap.size w wr)
set_option maxRecDepth 100000 in
set_option maxHeartbeats 3200000 in
theorem rright_any (A:Option Addr) (c:Nat) (ls:List Ln) (root:Int) (S:Nat→Prop) (w:World) (hT:ndL.row w S A ls) (hl:ls.length≤4294967296) (hkl:∀l∈ls,l.nd.kids.length≤4294967296) (hks:(kidsOf (ls.map Ln.nd)).length≤4611686018427387904):
  Calls Tryd.prog 56 #[.agg #[.slice A ls.length c,.int .i64 root]] w fun e w'=>e=.returned (.bool (rightT ⟨ls.map Ln.nd,root⟩))∧Below w.heap.size w w':=by
 have hlm:(ls.map Ln.nd).length=ls.length:=by simp
 by_cases hr:0≤root∧root<(ls.length:Int)
 ·obtain⟨hr1,hr2⟩:=hr
  obtain⟨i0,hi,hz0,hz1,hz2⟩:=info_parts infoInt
  have HT:=Lib.hid hT;clear hT
  have HLM:=Lib.hid hlm;clear hlm
  have HKS:=Lib.hid hks;clear hks
  have HKL:=Lib.hid hkl;clear hkl
  go_enter Tryd.func56,Tryd.ntmps56
  go_wp2_with (first|(at_make;refine wpList_make_full _ rfl _ _ 33 rfl (w.heap.size+1) 3 i0 _ 1 Tryd.underlying33 hi hz0 hz1 .i64 .i64 _ _ ls.length rfl rfl rfl rfl ?_ ?_ ?_ ?_))
  ·rw[hz2];omega
  ·unfold maxLen;omega
  ·simp
  intro w1 hown1 hgrow1
  rw[countsOf_nil]at hown1
  have HB1:=Lib.hid (show Below w.heap.size w w1 from(bx1 w _).trans ((Below.refl _ _).grown hgrow1 (by simp) (fun k e=>by cases e)))
  have HO1:=Lib.hid hown1;clear hown1
  have HK1:=Lib.hid ((hgrow1.block w.heap.size (by simp) (fun e=>by cases e)).trans (bx_new w _));clear hgrow1
  obtain⟨b1,b2,_,_⟩:=blk2 HK1.out
  go_wp2_with fail
  clear b1 b2
  go_loopw [4] (fun i wr=>RRightOut w A c ls root i wr) (fun i _=>ls.length-(intOf i).toNat)
  case atStart=>exact⟨0,by omega,rfl,Lib.hid (by rw[seen_zero];exact HO1.out),Lib.hid (FineTo.zero _),HK1,HB1⟩
  case round=>
   clear HO1 HK1 HB1
   obtain⟨k,hk,rfl,HO,HF,HK,HB⟩:=hrel
   obtain⟨b1,b2,_,_⟩:=blk2 HK.out
   by_cases hlt:k<ls.length
   ·have HR:=Lib.hid (HT.out.agree (below_all HB.out))
    have HW:=Lib.hid (ndWf HT.out k hlt)
    have HKR:=Lib.hid (ndSub HR.out k hlt)
    obtain⟨b,o,rfl,hS,hbl,x0,x1,x2,x3,x4,x5,x6,x7,x8⟩:=ndRow HR.out k hlt
    have i1:(k:Int)<(ls.length:Int):=by omega
    have i0:(0:Int)≤(k:Int):=by omega
    have hkl:ls[k].nd.kids.length≤4294967296:=HKL.out _ (List.getElem_mem hlt)
    cases hf:fitN ls[k].nd (ls[k].nd.kids.length:Nat)
    ·as_aux_lemma=>
      have HX:=Lib.hid (show rightT ⟨ls.map Ln.nd,root⟩=false from right_no_nd (k:=k) (by rw[HLM.out];exact hlt) (by simpa using hf))
      go_wp2_with (go_at_call 55;refine(rfits_any ls[k].nd _ _ _ HW.out.1 HW.out.2.1).mono ?_;rintro e w' ⟨rfl,hb⟩)
      go_ret
      exact⟨ret_bool HX.out.symm,(HB.out.trans ((bx1 wr _).mono HB.out.size)).trans (hb.mono (by have:=HB.out.size;simp;omega))⟩
    ·have HF1:=Lib.hid hf
     go_wp2_with (go_at_call 55;refine(rfits_any ls[k].nd _ _ _ HW.out.1 HW.out.2.1).mono ?_;rintro e w' ⟨rfl,hb⟩;obtain⟨q0,q1,q2,q3,q4,q5,q6,q7,q8,_⟩:=blk9 (bx_kept hb (bx_new wr _)))
     have HB2:=Lib.hid (show Below w.heap.size w w' from(HB.out.trans ((bx1 wr _).mono HB.out.size)).trans (hb.mono (by have:=HB.out.size;simp;omega)))
     have HO2:=Lib.hid (own_below (World.ownsRow.alloc HO.out _) hb)
     have HK2:=Lib.hid (bx_kept hb (bx_old HK.out))
     have HQ2:=Lib.hid (bx_kept hb (bx_new wr (.cells #[.int .u8 ls[k].nd.kind,.int .u64 ls[k].nd.s0,.int .u64 ls[k].nd.s1,.int .u64 ls[k].nd.s2,.int .u64 ls[k].nd.s3,.string ls[k].nd.text,.int .i64 ls[k].nd.mn,.int .i64 ls[k].nd.mx,.slice ls[k].A ls[k].nd.kids.length ls[k].c] 35)))
     have HNB:=Lib.hid (show w.heap.size+2≤wr.heap.size from by have:=(own_lt HO.out).2;omega)
     have HN0:=Lib.hid (show seenL (ls.map Ln.nd) k ls[k].nd.kids.length=seenL (ls.map Ln.nd) (k+1) 0 by
      have:=seen_next (ls.map Ln.nd) k (by rw[HLM.out];exact hlt);simpa using this)
     clear hb q0 q1 q2 q3 q4 q5 q6 q7 q8 x0 x1 x2 x3 x4 x5 x6 x7 x8 hf HO HK b1 b2
     go_loopw [6] (fun i wx=>RRightIn w (some ⟨b,o,none⟩) c ls root k ls[k] wr.heap.size i wx) (fun i _=>ls[k].nd.kids.length-(intOf i).toNat)
     case atStart=>exact⟨0,by omega,rfl,HO2,Lib.hid (fun p _ h=>by omega),HK2,HQ2,HB2⟩
     case round=>
      clear HO2 HK2 HB2 HQ2 HB HR HKR
      obtain⟨q,hq,rfl,HO,HI,HK,HQ,HB⟩:=hrel
      obtain⟨q0,q1,q2,q3,q4,q5,q6,q7,q8,_⟩:=blk9 HQ.out
      by_cases hql:q<ls[k].nd.kids.length
      ·as_aux_lemma=>
        obtain⟨kb,ko,hkA,_,_,y0⟩:=intRow (ndSub (HT.out.agree (below_all HB.out)) k hlt) q hql
        have i2:(q:Int)<(ls[k].nd.kids.length:Int):=by omega
        have i3:(0:Int)≤(q:Int):=by omega
        have hkz:(ls.map Ln.nd)[k]'(by rw[HLM.out];exact hlt)=ls[k].nd:=by simp
        have HSK:=Lib.hid (show seenL (ls.map Ln.nd) k (q+1)=seenL (ls.map Ln.nd) k q++[ls[k].nd.kids[q]]by
         have:=seen_kid (ls.map Ln.nd) k q (by rw[HLM.out];exact hlt) (by rw[hkz];exact hql);simpa using this)
        have HXK:=Lib.hid (show ¬(0≤ls[k].nd.kids[q]∧ls[k].nd.kids[q]<(k:Int))→rightT ⟨ls.map Ln.nd,root⟩=false from fun h=>right_no_kid (k:=k) (q:=q) (by rw[HLM.out];exact hlt) (by simpa using hql) (by simpa using h))
        clear hkz
        generalize hz:ls[k].nd.kids[q]=z at y0 HSK HXK
        have HZ:=Lib.hid hz;clear hz
        rw[hkA]at q8
        clear hkA
        by_cases hz0:z<0
        ·have HX:=Lib.hid (HXK.out (by omega))
         go_wp2_with fail
         go_ret
         exact⟨ret_bool HX.out.symm,HB.out⟩
        ·by_cases hz1:(k:Int)≤z
         ·have HX:=Lib.hid (HXK.out (by omega))
          go_wp2_with fail
          go_ret
          exact⟨ret_bool HX.out.symm,HB.out⟩
         ·obtain⟨m,rfl⟩:=Int.eq_ofNat_of_zero_le (show 0≤z by omega)
          have hmk:m<k:=by omega
          have c0:=own_cell HO.out m (by omega) (countsOf_get _ _ m (by omega))
          have c1:=World.ownsRow.frozenAt HO.out m
          have i4:(m:Int)<(ls.length:Int):=by omega
          have HCL:=Lib.hid (show(seenL (ls.map Ln.nd) k q).count (m:Int)≤4611686018427387904 from by
           have h1:=seen_length (ls.map Ln.nd) k q
           have h2:=HKS.out
           have h3:(seenL (ls.map Ln.nd) k q).count (m:Int)≤(seenL (ls.map Ln.nd) k q).length:=List.count_le_length
           omega)
          have HCS:=Lib.hid (countsOf_set ls.length (seenL (ls.map Ln.nd) k q) m (by omega))
          have hcl:=HCL.out
          generalize (seenL (ls.map Ln.nd) k q).count (m:Int)=cc at c0 hcl HCS
          go_wp2_with fail
          refine⟨⟨q+1,by omega,by go_num,Lib.hid ?_,Lib.hid ?_,Lib.hid ((Below.heap_setCell _ _ _ _ (by simp)).trans HK.out),Lib.hid ((Below.heap_setCell _ _ _ _ (by have:=HNB.out;show _≠w.heap.size+1;omega)).trans HQ.out),Lib.hid (HB.out.setCell (p:=⟨w.heap.size+1,m,none⟩) (by simp) _)⟩,by simp[intOf];omega⟩
          ·rw[HSK.out,←HCS.out]
           exact(World.ownsRow.stored HO.out _ _).1
          ·intro p hp hpq
           by_cases e:p<q
           ·exact HI.out p hp e
           ·obtain rfl:p=q:=by omega
            rw[HZ.out];omega
      ·as_aux_lemma=>
        have hqe:q=ls[k].nd.kids.length:=by omega
        have HFN:=Lib.hid (show FineTo (ls.map Ln.nd) (k+1)from HF.out.next (by rw[HLM.out];exact hlt) (by simpa using HF1.out) (fun p hp=>by simpa using HI.out p (by simpa using hp) (by rw[hqe];simpa using hp)))
        have HQE:=Lib.hid hqe;clear hqe
        go_wp2_with fail
        exact⟨⟨k+1,by omega,by go_num,Lib.hid (by rw[←HN0.out,←HQE.out];exact HO.out),HFN,HK,HB⟩,by simp[intOf];omega⟩
   ·have hke:k=ls.length:=by omega
    have HSE:=Lib.hid (show seenL (ls.map Ln.nd) k 0=kidsOf (ls.map Ln.nd)by rw[hke,←HLM.out,seen_end])
    have HFE:=Lib.hid (show FineTo (ls.map Ln.nd) (ls.map Ln.nd).length by rw[HLM.out,←hke];exact HF.out)
    have HO3:=Lib.hid (show wr.ownsRow (w.heap.size+1) 3 1 (.slice (some ⟨w.heap.size+1,0,none⟩) ls.length ls.length) ls.length (countsOf ls.length (kidsOf (ls.map Ln.nd)))by rw[←HSE.out];exact HO.out)
    have HKE:=Lib.hid hke;clear hke HO HF HSE
    go_wp2_with fail
    go_loop [7] (fun i=>∃j:Nat,j≤ls.length∧i=.int .i64 j∧ ∀p,p<j→(kidsOf (ls.map Ln.nd)).count (p:Int)=if (p:Int)=root then 0 else 1) (fun i=>ls.length-(intOf i).toNat)
    case atStart=>exact⟨0,by omega,rfl,fun p hp=>by omega⟩
    case round=>as_aux_lemma=>
      obtain⟨j,hj,rfl,hall⟩:=hrel
      have HA:=Lib.hid hall;clear hall
      by_cases hjl:j<ls.length
      ·have c0:=own_cell HO3.out j hjl (countsOf_get _ _ j hjl)
       have i3:(j:Int)<(ls.length:Int):=by omega
       have i4:(0:Int)≤(j:Int):=by omega
       have HX:=Lib.hid (show((kidsOf (ls.map Ln.nd)).count (j:Int)≠if (j:Int)=root then 0 else 1)→rightT ⟨ls.map Ln.nd,root⟩=false from fun h=>right_no_end (t:=⟨ls.map Ln.nd,root⟩) (by rw[HLM.out];exact hjl) h)
       have HM:=Lib.hid (show((kidsOf (ls.map Ln.nd)).count (j:Int)=if (j:Int)=root then 0 else 1)→ ∀p,p<j+1→(kidsOf (ls.map Ln.nd)).count (p:Int)=if (p:Int)=root then 0 else 1 from fun h p hp=>by
        by_cases e:p<j
        ·exact HA.out p e
        ·obtain rfl:p=j:=by omega
         exact h)
       generalize (kidsOf (ls.map Ln.nd)).count (j:Int)=cc at c0 HX HM
       by_cases he:(j:Int)=root
       ·have he2:((j:Int)==root)=true:=by simpa using he
        have he3:(!((j:Int)==root))=false:=by rw[he2];rfl
        by_cases hc:cc=0
        ·have HM2:=Lib.hid (HM.out (by rw[if_pos he];omega));subst hc;clear he
         go_wp2_with fail
         exact⟨⟨j+1,by omega,by go_num,HM2.out⟩,by simp[intOf];omega⟩
        ·have HX2:=Lib.hid (HX.out (by rw[if_pos he];omega));clear he
         go_wp2_with fail
         go_ret
         exact⟨ret_bool HX2.out.symm,HB.out⟩
       ·have he2:((j:Int)==root)=false:=by simpa using he
        by_cases hc:cc=1
        ·have HM2:=Lib.hid (HM.out (by rw[if_neg he];omega));subst hc
         have c0:wr.cell? ⟨w.heap.size+1,j,none⟩=some (.int .i64 1):=c0
         go_wp2_with fail
         exact⟨⟨j+1,by omega,by go_num,HM2.out⟩,by simp[intOf];omega⟩
        ·have hc2:((cc:Int)==1)=false:=by simp;omega
         have hc3:¬((cc:Int)=1):=by omega
         have HX2:=Lib.hid (HX.out (by rw[if_neg he];omega))
         have he4:((j:Int) != root)=true:=by simp[bne,he2]
         have hc4:((cc:Int) != 1)=true:=by simp[bne,hc2]
         go_wp2_with fail
         go_ret
         exact⟨ret_bool HX2.out.symm,HB.out⟩
      ·have HX2:=Lib.hid (show rightT ⟨ls.map Ln.nd,root⟩=true from right_yes (by rw[HLM.out];exact⟨hr1,hr2⟩) HFE.out (fun p hp=>HA.out p (by rw[HLM.out]at hp;omega)))
       go_wp2_with fail
       go_ret
       exact⟨ret_bool HX2.out.symm,HB.out⟩
 ·have HX:=Lib.hid (show rightT ⟨ls.map Ln.nd,root⟩=false from right_no_root (by rw[hlm];exact hr))
  clear hlm
  by_cases h1:root<0
  ·go_enter Tryd.func56,Tryd.ntmps56
   go_wp2_with fail
   go_ret
   exact⟨ret_bool HX.out.symm,bx1 _ _⟩
  ·have h2:(ls.length:Int)≤root:=by omega
   go_enter Tryd.func56,Tryd.ntmps56
   go_wp2_with fail
   go_ret
   exact⟨ret_bool HX.out.symm,bx1 _ _⟩
end Go.Proofs.YtdnochjajoiooaaDoor
