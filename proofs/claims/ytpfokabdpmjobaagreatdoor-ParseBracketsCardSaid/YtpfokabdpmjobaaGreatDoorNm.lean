/- The contract of expr.Normal. -/
import Derived.Test.YtpfokabdpmjobaaGreatDoorHt
import Derived.Test.YtpfokabdpmjobaaGreatDoorDj
import Derived.Test.YtpfokabdpmjobaaGreatDoorDn
import Derived.StillTailTactics
namespace Go.Proofs.YtpfokabdpmjobaaGreatDoor
open Go.RowKit
set_option linter.unusedSimpArgs false
set_option linter.unusedVariables false
theorem normT_no {t:Tr} (h:rightT t=false):normT t=false:=by unfold normT;rw[h];rfl
theorem normT_all {t:Tr} (h:rightT t=true) (k:∀i (hi:i<t.nodes.length),shutN t.nodes t.nodes[i]=true):normT t=true:=by
 unfold normT
 rw[h,Bool.true_and,List.all_eq_true]
 intro n hn
 obtain⟨i,hi,rfl⟩:=List.mem_iff_getElem.1 hn
 exact k i hi
theorem normT_bad {t:Tr} {i:Nat} (hi:i<t.nodes.length) (k:shutN t.nodes t.nodes[i]=false):normT t=false:=by
 unfold normT
 rw[Bool.and_eq_false_iff]
 right
 rw[List.all_eq_false]
 exact⟨_,List.getElem_mem hi,by simp[k]⟩
def kidOk (l:List Nd) (kd:Int) (z:Nat):Bool:=decide ((ndAt l z).kind≠kd∧ ¬((ndAt l z).kind=0∧kd=4))
theorem shutN_open (l:List Nd) (n:Nd) (h:¬(n.kind=4∨n.kind=5)):shutN l n=true:=by unfold shutN;rw[if_neg h]
theorem shutN_kids (l:List Nd) (n:Nd) (h:n.kind=4∨n.kind=5):shutN l n=(n.kids.map Int.toNat).all (kidOk l n.kind):=by
 unfold shutN kidOk
 rw[if_pos h,List.all_map];rfl
set_option maxRecDepth 100000 in
set_option maxHeartbeats 3200000 in
theorem normal_any (A:Option Addr) (c:Nat) (ls:List Ln) (root:Int) (S:Nat→Prop) (w:World) (hT:ndL.row w S A ls) (hl:ls.length≤4294967296) (ht:CntTab w):
  Calls Tryz.prog 22 #[.agg #[.slice A ls.length c,.int .i64 root]] w fun e w'=>e=.returned (.bool (normT ⟨ls.map Ln.nd,root⟩))∧Below w.heap.size w w':=by
 have HT:=Lib.hid hT;have HN:=Lib.hid ht
 clear hT ht
 go_enter Tryz.func22,Tryz.ntmps22
 have HB0:=Lib.hid (bx1 w (.cells #[.slice A ls.length c,.int .i64 root] 40))
 have HK0:=Lib.hid (bx_new w (.cells #[.slice A ls.length c,.int .i64 root] 40))
 go_wp2_with fail
 refine(right_any A c ls root S _ (HT.out.below HB0.out) (by omega) (HN.out.below HB0.out)).mono ?_
 rintro e w1 ⟨rfl,hb1⟩
 have HB1:=Lib.hid (Below.step HB0.out hb1);have HK1:=Lib.hid (bx_kept hb1 HK0.out)
 clear hb1
 obtain⟨k0,k1,_,_⟩:=blk2 HK1.out
 cases hr:rightT ⟨ls.map Ln.nd,root⟩
 ·go_wp2_with fail
  go_ret
  exact⟨ret_bool (normT_no hr).symm,HB1.out⟩
 ·have HRT:=Lib.hid hr
  have HR:=Lib.hid ((rightT_iff _).1 hr)
  clear hr
  go_wp2_with fail
  clear k0 k1
  go_loopw [14] (fun i wr=>∃k:Nat,k≤ls.length∧i=.int .i64 k∧Hid (∀i (hi:i<(ls.map Ln.nd).length),i<k→shutN (ls.map Ln.nd) (ls.map Ln.nd)[i]=true)∧Hid (Below w1.heap.size w1 wr)) (fun i _=>ls.length-(intOf i).toNat)
  case atStart=>exact⟨0,Nat.zero_le _,rfl,Lib.hid (fun i hi h=>by omega),Lib.hid (Below.refl _ _)⟩
  case round=>
   obtain⟨wo,rfl⟩:∃wo:World,wo=wr:=⟨_,rfl⟩
   obtain⟨k,hk,rfl,HS,HB⟩:=hrel
   have HBW:=Lib.hid (Below.step HB1.out HB.out)
   by_cases hlt:k<ls.length
   ·obtain⟨b,off,rfl,_,_,x0,x1,x2,x3,x4,x5,x6,x7,x8⟩:=ndRow (HT.out.agree (below_all HBW.out)) k hlt
    have i1:(k:Int)<(ls.length:Int):=by omega
    have HKD:=Lib.hid (show ∀w',Below w.heap.size w w'→intL.row w' S ls[k].A ls[k].nd.kids from fun w' hb=>ndSub (HT.out.agree (below_all hb)) k hlt)
    have HKP:=Lib.hid (show ∀z∈ls[k].nd.kids,0≤z∧z<(k:Int)from fun z hz=>rightP_kid HR.out (i:=k) (n:=ls[k].nd) (by simp[hlt]) hz)
    have hkl:ls[k].nd.kids.length≤k:=right_kids_len HR.out (i:=k) (n:=ls[k].nd) (by simp[hlt])
    have HNX:=Lib.hid (show ∀h:k<(ls.map Ln.nd).length,(ls.map Ln.nd)[k]=ls[k].nd from fun h=>by simp)
    have hml:k<(ls.map Ln.nd).length:=by simpa using hlt
    generalize ls[k]=ln at *
    obtain⟨nd,lA,lc⟩:=ln
    simp only at x0 x1 x2 x3 x4 x5 x6 x7 x8 HKD HKP hkl HNX
    have HNEXT:=Lib.hid (show shutN (ls.map Ln.nd) nd=true→ ∀i (hi:i<(ls.map Ln.nd).length),i<k+1→shutN (ls.map Ln.nd) (ls.map Ln.nd)[i]=true from fun h i hi hik=>by
     by_cases e:i=k
     ·subst e;rw[HNX.out hi];exact h
     ·exact HS.out i hi (by omega))
    have HBAD:=Lib.hid (show shutN (ls.map Ln.nd) nd=false→normT ⟨ls.map Ln.nd,root⟩=false from fun h=>normT_bad (t:=⟨ls.map Ln.nd,root⟩) (i:=k) hml (by show shutN (ls.map Ln.nd) (ls.map Ln.nd)[k]=false;rw[HNX.out hml];exact h))
    have HSO:=Lib.hid (shutN_open (ls.map Ln.nd) nd)
    have HSK:=Lib.hid (shutN_kids (ls.map Ln.nd) nd)
    clear HNX hml
    obtain⟨kd,s0,s1,s2,s3,tx,mn,mx,kids⟩:=nd
    simp only at x0 x1 x2 x3 x4 x5 x6 x7 x8 HKD HKP hkl HSO HSK
    have hW0:=bx1 wo (.cells #[.int .u8 kd,.int .u64 s0,.int .u64 s1,.int .u64 s2,.int .u64 s3,.string tx,.int .i64 mn,.int .i64 mx,.slice lA kids.length lc] 54)
    have HB0':=Lib.hid (Below.step HB.out hW0)
    have HNB:=Lib.hid (bx_new wo (.cells #[.int .u8 kd,.int .u64 s0,.int .u64 s1,.int .u64 s2,.int .u64 s3,.string tx,.int .i64 mn,.int .i64 mx,.slice lA kids.length lc] 54))
    clear hW0
    by_cases hk45:kd=4∨kd=5
    ·have HKK:=Lib.hid (HSK.out hk45)
     have hkind:((kd != 4)=false∧(kd==4)=true)∨((kd != 4)=true∧(kd != 5)=false∧(kd==4)=false∧ ¬kd=4):=by
      rcases hk45 with h|h
      ·left;subst h;exact⟨by decide,by decide⟩
      ·right;subst h;exact⟨by decide,by decide,by decide,by decide⟩
     have HK45:=Lib.hid hk45
     clear hk45 HSO HSK
     rcases hkind with⟨f1,f4⟩|⟨f1,f5,f4,f6⟩
     all_goals
      as_aux_lemma=>
       go_wp2_with fail
       clear x0 x1 x2 x3 x4 x5 x6 x7 x8
       go_loopw [29] (fun i wx=>∃j:Nat,j≤kids.length∧i=.int .i64 j∧Hid (∀z∈(kids.map Int.toNat).take j,kidOk (ls.map Ln.nd) kd z=true)∧Hid (wx.heap[wo.heap.size]?=some (.cells #[.int .u8 kd,.int .u64 s0,.int .u64 s1,.int .u64 s2,.int .u64 s3,.string tx,.int .i64 mn,.int .i64 mx,.slice lA kids.length lc] 54 (0,0)))∧Hid (Below w1.heap.size w1 wx)) (fun i _=>kids.length-(intOf i).toNat)
       case atStart=>exact⟨0,Nat.zero_le _,rfl,Lib.hid (by simp),HNB,HB0'⟩
       case round=>
        clear HNB HB0'
        obtain⟨wx,rfl⟩:∃wx:World,wx=wr:=⟨_,rfl⟩
        obtain⟨j,hj,rfl,HKS,HNX,HBX⟩:=hrel
        have HBWX:=Lib.hid (Below.step HB1.out HBX.out)
        obtain⟨y0,_,_,_,_,_,_,_,y8,_⟩:=blk9 HNX.out
        by_cases hjl:j<kids.length
        ·obtain⟨cb,co,rfl,_,hcl,v0⟩:=intRow (HKD.out _ HBWX.out) j hjl
         have hz:=HKP.out kids[j] (List.getElem_mem hjl)
         obtain⟨z,hzk⟩:=Int.eq_ofNat_of_zero_le hz.1
         have HTK:=Lib.hid (show(kids.map Int.toNat).take (j+1)=(kids.map Int.toNat).take j++[z]from by
          rw[List.take_succ_eq_append_getElem (by simpa using hjl)];simp[hzk])
         have HZM:=Lib.hid (show z∈kids.map Int.toNat from List.mem_map.2 ⟨kids[j],List.getElem_mem hjl,by rw[hzk];rfl⟩)
         rw[hzk]at v0 hz
         clear hzk
         have hzl:z<ls.length:=by omega
         obtain⟨b',off',hA',_,hbl',z0,_⟩:=ndRow (HT.out.agree (below_all HBWX.out)) z hzl
         cases hA'
         have hkw:=(HB.out.block w.heap.size (by have:=(Array.getElem?_eq_some_iff.1 HK1.out).1;exact this))
         obtain⟨k0,k1,_,_⟩:=blk2 ((HBX.out.block w.heap.size ((Array.getElem?_eq_some_iff.1 HK1.out).1)).trans HK1.out)
         have HKO:=Lib.hid (show kidOk (ls.map Ln.nd) kd z=decide (ls[z].nd.kind≠kd∧ ¬(ls[z].nd.kind=0∧kd=4))from by simp[kidOk,ndAt,hzl])
         generalize ls[z].nd.kind=kz at *
         have HNO:=Lib.hid (show kidOk (ls.map Ln.nd) kd z=false→normT ⟨ls.map Ln.nd,root⟩=false from fun h=>HBAD.out (by rw[HKK.out,List.all_eq_false];exact⟨z,HZM.out,by simp[h]⟩))
         have j1:(j:Int)<(kids.length:Int):=by omega
         have j2:(0:Int)≤(j:Int):=by omega
         have z1:(z:Int)<(ls.length:Int):=by omega
         have z2:(0:Int)≤(z:Int):=by omega
         clear hkw hz
         by_cases h1:kz=kd
         ·have g1:(kz==kd)=true:=by simpa using h1
          have HN1:=Lib.hid (HNO.out (by rw[HKO.out,decide_eq_false (fun h=>h.1 h1)]))
          clear h1
          go_wp2_with fail
          go_ret
          exact⟨ret_bool HN1.out.symm,HBWX.out⟩
         ·have g1:(kz==kd)=false:=by simpa using h1
          by_cases h2:kz=0
          ·have g2:(kz==0)=true:=by simpa using h2
           first
            |(have h3:kd=4:=by simpa using f4
              have HN1:=Lib.hid (HNO.out (by rw[HKO.out,decide_eq_false (fun h=>h.2 ⟨h2,h3⟩)]))
              clear h1 h2 h3
              go_wp2_with fail
              go_ret
              exact⟨ret_bool HN1.out.symm,HBWX.out⟩)
            |(have HN1:=Lib.hid (show kidOk (ls.map Ln.nd) kd z=true by rw[HKO.out,decide_eq_true ⟨h1,fun h=>f6 h.2⟩])
              clear h1 h2
              go_wp2_with fail
              exact⟨⟨j+1,by omega,by go_num,Lib.hid (fun x hx=>by
               rw[HTK.out]at hx
               rcases List.mem_append.1 hx with hx|hx
               ·exact HKS.out x hx
               ·simp only[List.mem_singleton]at hx;subst hx;exact HN1.out),HNX,HBX⟩,by simp only[intOf];omega⟩)
          ·have g2:(kz==0)=false:=by simpa using h2
           have HN1:=Lib.hid (show kidOk (ls.map Ln.nd) kd z=true by rw[HKO.out,decide_eq_true ⟨h1,fun h=>h2 h.1⟩])
           clear h1 h2
           go_wp2_with fail
           exact⟨⟨j+1,by omega,by go_num,Lib.hid (fun x hx=>by
            rw[HTK.out]at hx
            rcases List.mem_append.1 hx with hx|hx
            ·exact HKS.out x hx
            ·simp only[List.mem_singleton]at hx;subst hx;exact HN1.out),HNX,HBX⟩,by simp only[intOf];omega⟩
        ·have j1:¬(j:Int)<(kids.length:Int):=by omega
         have HYES:=Lib.hid (show shutN (ls.map Ln.nd) ⟨kd,s0,s1,s2,s3,tx,mn,mx,kids⟩=true from by
          rw[HKK.out,List.all_eq_true]
          intro z hz
          exact HKS.out z (by rw[List.take_of_length_le (by simp;omega)];exact hz))
         go_wp2_with fail
         exact⟨⟨k+1,by omega,by go_num,Lib.hid (HNEXT.out HYES.out),HBX⟩,by simp only[intOf];omega⟩
    ·have e4:(kd != 4)=true:=by simpa using fun h=>hk45 (.inl h)
     have e5:(kd != 5)=true:=by simpa using fun h=>hk45 (.inr h)
     have HYES:=Lib.hid (HSO.out hk45)
     have n4:¬kd=4:=fun h=>hk45 (.inl h)
     have n5:¬kd=5:=fun h=>hk45 (.inr h)
     clear hk45
     go_wp2_with fail
     exact⟨⟨k+1,by omega,by go_num,Lib.hid (HNEXT.out HYES.out),HB0'⟩,by simp only[intOf];omega⟩
   ·have HE:=Lib.hid (normT_all HRT.out fun i hi=>HS.out i hi (by simp at hi;omega))
    go_wp2_with fail
    go_ret
    exact⟨ret_bool HE.out.symm,HBW.out⟩
end Go.Proofs.YtpfokabdpmjobaaGreatDoor
