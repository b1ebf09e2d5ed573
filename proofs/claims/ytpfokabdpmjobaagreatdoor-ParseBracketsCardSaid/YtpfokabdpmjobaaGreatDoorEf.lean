/- The walk of ParseRight. The table of how many kids a kind has, from the row's condition. -/
import Derived.Test.YtpfokabdpmjobaaGreatDoorJ4
import Derived.Test.YtpfokabdpmjobaaGreatDoorJk
import Derived.Test.YtpfokabdpmjobaaGreatDoorNm
import Derived.Test.YtpfokabdpmjobaaGreatDoorDj
import Derived.ProofKit
import Derived.OpenShut
import Derived.LaidMore
import Derived.Stop.Joined
import Derived.Stop.LaidErr
namespace Go.Proofs.YtpfokabdpmjobaaGreatDoor
open Go.RowKit
set_option linter.unusedSimpArgs false
set_option linter.unusedVariables false
set_option maxRecDepth 100000 in
set_option maxHeartbeats 12800000 in
theorem parseright_walk (s:ByteArray) (w:World) (hs:s.size≤281474976710656) (hc:CntTab w):
  Calls Tryz.prog 5 #[.string s] w fun e w'=>e=.returned (.bool true)∧Below w.heap.size w w':=by
 have HCT:=Lib.hid hc
 have HAW:=Lib.hid (show ∀w',Below w.heap.size w w'→Calls Tryz.prog 8 #[] w' fun e w''=>e=.returned (.bool true)∧Below w'.heap.size w' w'' from fun w' hb=>awake7_any w' (HCT.out.below hb))
 have HB0:=Lib.hid (Below.refl w.heap.size w)
 clear hc
 by_cases hbig:2000<s.size
 ·have i1:(2000:Int)<(s.size:Int):=by omega
  go_enter Tryz.func5,Tryz.ntmps5
  go_wp2_with (first
   |(go_at_call 8;(with_reducible refine(HAW.out _ HB0.out).mono ?_);rintro e w1 ⟨rfl,hb⟩;have HB1:=Lib.hid hb;clear hb)
   |fail)
  go_ret
  exact⟨rfl,HB1.out⟩
 ·have i1:¬(2000:Int)<(s.size:Int):=by omega
  have hsl:s.data.toList.length=s.size:=Array.length_toList
  have HSL:=Lib.hid (show s.data.toList.length=s.size∧s.size≤2000 from⟨hsl,by omega⟩)
  have HRT:=Lib.hid (right_p (s:=s.data.toList) (by omega))
  have HGL:=Lib.hid (gram_len (s:=s.data.toList) (by omega))
  have HGS:=Lib.hid (show ∀wx,CntTab wx→_ from fun wx hx=>pg_at s wx hs hx)
  have HNS:=Lib.hid (show ∀wx,CntTab wx→_ from fun wx hx=>pnames_any s wx hs hx)
  have HGX:=Lib.hid (fun(u:ByteArray) (wx:World) (hu:u.size≤281474976710656) (hx:CntTab wx)=>pg_at u wx hu hx)
  unfold PNPost at HNS
  have hle:=HRT.out.le
  clear hbig
  generalize hls:s.data.toList=ls at *
  have HLS:=Lib.hid hls
  clear hls
  obtain⟨at',hat⟩:∃a,(gramP ls).2.1=a:=⟨_,rfl⟩
  obtain⟨es,hes⟩:∃a,(gramP ls).2.2=a:=⟨_,rfl⟩
  obtain⟨nm,hnm⟩:∃a,namesP ls=a:=⟨_,rfl⟩
  rw[hat,hes]at HGS
  rw[hnm]at HNS
  rw[hat,hsl]at hle
  have HES:=Lib.hid (And.intro hat (And.intro hes hnm))
  clear hat hes hnm hsl
  go_enter Tryz.func5,Tryz.ntmps5
  go_upto_region 5 with(first
   |(go_at_call 8;(with_reducible refine(HAW.out _ HB0.out).mono ?_);rintro e w1 ⟨rfl,hb⟩;have HB1:=Lib.hid hb;clear hb)
   |(go_at_call 10;(with_reducible refine(HGS.out _ (HCT.out.below HB1.out)).mono ?_);rintro e w2 ⟨A,c,la,rfl,h1,h2⟩;have HA2:=Lib.hid h1;have HB2:=Lib.hid (Below.step HB1.out h2);clear h1 h2;have HA3:=Lib.hid (HA2.out.below (bx1 w2 (.cells #[.slice A la.length c] 35)));have HB3:=Lib.hid (Below.step HB2.out (bx1 w2 (.cells #[.slice A la.length c] 35)));have HK3:=Lib.hid (bx_new w2 (.cells #[.slice A la.length c] 35)))
   |(go_at_call 16;(with_reducible refine(HNS.out _ (HCT.out.below HB3.out)).mono ?_);rintro e w4 ⟨V,vc,rfl,h1,h2⟩;have HV:=Lib.hid h1;have HA:=Lib.hid (HA3.out.below h2);have HK:=Lib.hid (bx_kept h2 HK3.out);have HB:=Lib.hid (Below.step HB3.out h2);clear h1 h2)
   |fail)
  clear HA3 HB3 HK3 HA2 HB2 HB1 HNS HGS
  generalize w2.heap.size=ga at *
  have hla:la.length=(gramP ls).1.length:=by rw[←HA.out.df];simp
  have HLA:=Lib.hid hla
  have hl64:la.length≤64:=by rw[hla];exact HGL.out
  clear hla
  obtain⟨pa,_⟩:=blk1 HK.out
  have i2:(at':Int)≤(s.size:Int):=by omega
  have i2':¬(s.size:Int)<(at':Int):=by omega
  have i3:¬(at':Int)<0:=by omega
  have hok:es=0↔la.length≠0:=by
   have h1:=HRT.out.ok
   rw[HES.out.2.1]at h1
   rw[h1,HLA.out]
   exact⟨fun h e=>h (List.length_eq_zero_iff.1 e),fun h e=>h (by rw[e];rfl)⟩
  have hform:es=4↔nm.length=0:=by
   have h1:=HRT.out.form
   rw[HES.out.2.1,HES.out.2.2]at h1
   rw[h1];exact List.length_eq_zero_iff.symm
  by_cases he:es=0
  ·subst he
   have i4:(0:Int)<(la.length:Int):=by have:=hok.1 rfl;omega
   have i5:((nm.length:Int)==0)=false:=by have:nm.length≠0:=fun h=>(by have:=hform.2 h;omega);rw[beq_eq_false_iff_ne];omega
   have hnn:0<nm.length:=by have:nm.length≠0:=fun h=>(by have:=hform.2 h;omega);omega
   obtain⟨hz,hnames,htwice,hgood⟩:=HRT.out.good HES.out.2.1
   rw[HES.out.1]at hz
   rw[HES.out.2.2]at hnames htwice hgood
   subst hz
   have hln:nm.length=la.length:=by
    have h1:=congrArg List.length hnames
    rw[List.length_map,List.length_map]at h1
    rw[HLA.out,h1]
   have HLN:=Lib.hid hln
   have i6:((nm.length:Int)==(la.length:Int))=true:=by rw[beq_iff_eq];omega
   have i8:¬(s.size:Int)<0:=by omega
   have HNA:=Lib.hid hnames;have HTW:=Lib.hid htwice;have HGD:=Lib.hid hgood
   clear hok hform hnames htwice hgood
   go_upto_region 14 with(fail)
   rw[hln]at HV
   clear i5 i6 hln pa
   obtain⟨vb,rfl,_,_⟩:=own_some HV.out (by omega)
   have HVC:=Lib.hid (show ∀wx,Below w4.heap.size w4 wx→vb<wx.heap.size∧ ∀k (hk:k<nm.length),wx.cell? ⟨vb,k,none⟩=some (.string ⟨nm[k].toArray⟩)from fun wx hb=>by
    have h1:=own_agree HV.out (fun k hk=>hb.block k (own_blk HV.out k hk).2)
    refine⟨Nat.lt_of_lt_of_le (own_blk HV.out vb rfl).2 hb.size,fun k hk=>own_cell h1 k (by have:=HLN.out;omega) (by simp[strsJ,hk])⟩)
   have HGC:=Lib.hid (show ∀wx,Below w4.heap.size w4 wx→wx.cell? ⟨ga,0,none⟩=some (.slice A la.length c)from fun wx hb=>(blk1 (bx_kept hb HK.out)).1)
   have HR:=Lib.hid (Below.refl w4.heap.size w4)
   go_upto_region 15 with(fail)
   go_loopw [10] (fun v10 wr=>∃i:Nat,i≤la.length∧v10=.int .i64 i∧Hid (Below w4.heap.size w4 wr)) (fun v10 _=>la.length-(intOf v10).toNat)
   case atStart=>exact⟨0,by omega,rfl,HR⟩
   case round=>
    obtain⟨i,hi,rfl,HB1⟩:=hrel
    obtain pa:=HGC.out wr HB1.out
    by_cases hil:i<la.length
    ·have i4':(i:Int)<(la.length:Int):=by omega
     obtain⟨gb,go,rfl,_,_,x0,x1,x2⟩:=dfRow (HA.out.row.below HB1.out) i hil
     obtain⟨hg,e1,e2⟩:=HA.out.at hil
     have hnk:i<nm.length:=by have:=HLN.out;omega
     obtain⟨hm1,hm2,hm3,hm4⟩:=HGD.out _ (List.getElem_mem hg)
     have hne:la[i].name=⟨nm[i].toArray⟩:=by
      rw[e1]
      have h1:((gramP ls).1.map fun d=>d.name)[i]?=(nm.map fun t=>(⟨t.toArray⟩:ByteArray))[i]? :=by rw[HNA.out]
      simp only[List.getElem?_map,List.getElem?_eq_getElem hg,List.getElem?_eq_getElem hnk,Option.map_some,Option.some.injEq]at h1
      exact h1
     have y0:=(HVC.out wr HB1.out).2 i hnk
     rw[←e1,hne]at hm1
     rw[←e2]at hm2 hm3 hm4
     rw[hne]at x0
     have hlen:=HA.out.len _ (List.getElem_mem hil)
     have hTI:=((HA.out.row.below HB1.out).2 _ (List.getElem_mem hil)).2
     have hni:nm[i].length≤32:=by
      have h1:mayL nm[i]=true:=by simpa using hm1
      simp only[mayL,decide_eq_true_eq]at h1;exact h1.2.1
     have HTI:=Lib.hid hTI
     have HTWI:=Lib.hid (show ∀k (hk:k<i),nm[k]≠nm[i]from fun k hk=>HTW.out i hnk k hk)
     generalize la[i]=dx at *
     obtain⟨dn,⟨tA,tc,tls,tr⟩⟩:=dx
     simp only at x0 x1 x2 hm2 hm3 hm4 hlen
     have HM4:=Lib.hid (show ∀ln∈tls,ln.nd.kind=3→ln.nd.text.data.toList∈nm from fun ln hl=>hm4 _ (List.mem_map_of_mem hl))
     have HS:=Lib.hid (show ∀wx,Below wr.heap.size wr wx→wx.cell? ⟨ga,0,none⟩=some (.slice (some ⟨gb,go,none⟩) la.length c)∧wx.cell? ⟨gb,go+i*3,none⟩=some (.string ⟨nm[i].toArray⟩)∧wx.cell? ⟨gb,go+i*3+1,none⟩=some (.slice tA tls.length tc)∧wx.cell? ⟨gb,go+i*3+2,none⟩=some (.int .i64 tr)∧wx.cell? ⟨vb,i,none⟩=some (.string ⟨nm[i].toArray⟩)from fun wx hb=>
      ⟨(hb.cell (cellLt pa)).trans pa,(hb.cell (cellLt x0)).trans x0,(hb.cell (cellLt x1)).trans x1,(hb.cell (cellLt x2)).trans x2,(hb.cell (cellLt y0)).trans y0⟩)
     have HCU:=Lib.hid (show ∀wx,Below wr.heap.size wr wx→CntTab wx from fun wx hb=>HCT.out.below (Below.step HB.out (Below.step HB1.out hb)))
     have HNM:=Lib.hid (show ∀wx,Calls Tryz.prog 20 #[.string ⟨nm[i].toArray⟩] wx fun e w'=>e=.returned (.bool true)∧Below wx.heap.size wx w' from fun wx=>by
      have h1:=may_any ⟨nm[i].toArray⟩ wx (by simp[ByteArray.size];omega)
      rw[hm1]at h1;exact h1)
     have HTM:=Lib.hid (show ∀wx,Below wr.heap.size wr wx→Calls Tryz.prog 21 #[.agg #[.slice tA tls.length tc,.int .i64 tr]] wx fun e w'=>e=.returned (.bool true)∧Below wx.heap.size wx w' from fun wx hb=>by
      have h1:=tmay_any ⟨tA,tc,tls,tr⟩ _ wx (HTI.out.below hb) (by show tls.length≤_;omega) (HCU.out wx hb)
      rw[hm2]at h1;exact h1)
     have HNO:=Lib.hid (show ∀wx,Below wr.heap.size wr wx→Calls Tryz.prog 22 #[.agg #[.slice tA tls.length tc,.int .i64 tr]] wx fun e w'=>e=.returned (.bool true)∧Below wx.heap.size wx w' from fun wx hb=>by
      have h1:=normal_any tA tc tls tr _ wx (HTI.out.below hb).2 (by omega) (HCU.out wx hb)
      rw[show normT ⟨tls.map Ln.nd,tr⟩=true from hm3]at h1;exact h1)
     have HC:=Lib.hid (Below.refl wr.heap.size wr)
     clear hm1 hm2 hm3 hm4 hTI e1 e2 hne hni x0 x1 x2 y0
     generalize hx:nm[i]=x at *
     have HX:=Lib.hid hx;clear hx
     go_upto_region 17 with(fail)
     clear pa
     go_cut [141]from 96 to 196 (fun v141 wx=>v141=.bool false∧Hid (Below wr.heap.size wr wx))
     case first=>
      go_region_held3 (fun wx=>wx.cell? ⟨ga,0,none⟩=some (.slice (some ⟨gb,go,none⟩) la.length c)∧wx.cell? ⟨gb,go+i*3,none⟩=some (.string ⟨x.toArray⟩)∧wx.cell? ⟨gb,go+i*3+1,none⟩=some (.slice tA tls.length tc)∧wx.cell? ⟨gb,go+i*3+2,none⟩=some (.int .i64 tr)∧wx.cell? ⟨vb,i,none⟩=some (.string ⟨x.toArray⟩))
       (exact HS.out _ (by first|exact HC.out|exact HC.out.drew))
       (first
        |(go_at_call 20;(with_reducible refine(HNM.out _).mono ?_);rintro e wx ⟨rfl,hb⟩;have HC':=Lib.hid (Below.step (by first|exact HC.out|exact HC.out.drew) hb);clear HC;have HC:=HC';clear HC' hb)
        |(go_at_call 21;(with_reducible refine(HTM.out _ (by first|exact HC.out|exact HC.out.drew)).mono ?_);rintro e wx ⟨rfl,hb⟩;have HC':=Lib.hid (Below.step (by first|exact HC.out|exact HC.out.drew) hb);clear HC;have HC:=HC';clear HC' hb)
        |(go_at_call 22;(with_reducible refine(HNO.out _ (by first|exact HC.out|exact HC.out.drew)).mono ?_);rintro e wx ⟨rfl,hb⟩;have HC':=Lib.hid (Below.step (by first|exact HC.out|exact HC.out.drew) hb);clear HC;have HC:=HC';clear HC' hb)
        |fail)
      all_goals go_wp2_with fail
      all_goals go_meet
      all_goals exact⟨rfl,HC⟩
     case rest=>
      obtain⟨rfl,HD⟩:=hcut
      have HBc:=Lib.hid (Below.step HB1.out HD.out)
      clear HNM HTM HNO HC
      go_upto_region 20 with(fail)
      obtain⟨wo,rfl⟩:∃wo:World,wo=wr:=⟨_,rfl⟩
      go_loopw [11] (fun v11 wx=>∃k:Nat,k≤i∧v11=.int .i64 k∧Hid (Below wo.heap.size wo wx)) (fun v11 _=>i-(intOf v11).toNat)
      case atStart=>exact⟨0,by omega,rfl,HD⟩
      case round=>
       clear HD HBc
       obtain⟨k,hk,rfl,HBk⟩:=hrel
       have HBK:=Lib.hid (Below.step HB1.out HBk.out)
       obtain⟨s0,s1,s2,s3,s4⟩:=HS.out wr HBk.out
       by_cases hki:k<i
       ·have i5:(k:Int)<(i:Int):=by omega
        have i5':(k:Int)<(la.length:Int):=by omega
        have hkn:k<nm.length:=by have:=HLN.out;omega
        have y1:=(HVC.out wr HBK.out).2 k hkn
        have hne:=HTWI.out k hki
        generalize nm[k]=y at *
        have q2:(y==x)=false:=beq_eq_false_iff_ne.2 hne
        clear hne
        go_upto_region 22 with(fail)
        go_quiet (fail)
        go_wp2_with fail
        exact⟨⟨k+1,by omega,by go_num,Lib.hid (Below.drewN'' HBk.out nq)⟩,by simp only[intOf];omega⟩
       ·obtain rfl:k=i:=by omega
        have i5:¬(k:Int)<(k:Int):=by omega
        go_upto_region 26 with(fail)
        clear s0 s1 s2 s3 s4 i5
        obtain⟨wp,rfl⟩:∃wp:World,wp=wr:=⟨_,rfl⟩
        go_loopw [13] (fun v13 wx=>∃q:Nat,q≤tls.length∧v13=.int .i64 q∧Hid (Below wo.heap.size wo wx)) (fun v13 _=>tls.length-(intOf v13).toNat)
        case atStart=>exact⟨0,by omega,rfl,HBk⟩
        case round=>
         clear HBk HBK
         obtain⟨q,hq,rfl,HBq⟩:=hrel
         have HBQ:=Lib.hid (Below.step HB1.out HBq.out)
         by_cases hql:q<tls.length
         ·have i5:(q:Int)<(tls.length:Int):=by omega
          obtain⟨bt,ot,rfl,_,_,y0,_,_,_,_,y5,_⟩:=ndRow HTI.out.2 q hql
          have HMQ:=Lib.hid (HM4.out _ (List.getElem_mem hql))
          obtain⟨kd,hkd⟩:∃k,tls[q].nd.kind=k:=⟨_,rfl⟩
          obtain⟨tx,htx⟩:∃k,tls[q].nd.text=k:=⟨_,rfl⟩
          rw[hkd,htx]at HMQ
          rw[hkd]at y0
          rw[htx]at y5
          have z0:=(HBq.out.cell (cellLt y0)).trans y0
          have HZC:=Lib.hid (show ∀wx,Below wo.heap.size wo wx→wx.cell? ⟨bt,ot+q*9+5,none⟩=some (.string tx)from fun wx hb=>(hb.cell (cellLt y5)).trans y5)
          clear hkd htx y0 y5
          by_cases hk3:kd=3
          all_goals
           have hkb:(kd != 3) = !decide (kd=3):=by simp[hk3]
           simp only[hk3,decide_true,decide_false,Bool.not_true,Bool.not_false]at hkb
           have HK3:=Lib.hid hk3
           clear hk3
           go_upto_region 30 with(fail)
           go_loopw [14,15] (fun v14 v15 wx=>∃(n:Nat) (b:Bool),n≤la.length∧v15=.int .i64 n∧v14=.bool b∧Hid (b=false→kd=3∧ ∀m (hm:m<nm.length),m<n→nm[m]≠tx.data.toList)∧Hid (Below wo.heap.size wo wx)) (fun _ v15 _=>la.length-(intOf v15).toNat)
           case atStart=>first
            |exact⟨0,false,by omega,rfl,rfl,Lib.hid fun _=>⟨HK3.out,fun m _ h=>by omega⟩,HBq⟩
            |exact⟨0,true,by omega,rfl,rfl,Lib.hid fun h=>(by cases h),HBq⟩
            |exact⟨0,kd != 3,by omega,rfl,rfl,Lib.hid fun h=>⟨by simpa using h,fun m _ h=>by omega⟩,HBq⟩
            |fail
           case round=>
            clear HBq HBQ
            obtain⟨n,b,hn,rfl,rfl,HIN,HBn⟩:=hrel
            have HBN:=Lib.hid (Below.step HB1.out HBn.out)
            by_cases hnl:n<la.length
            ·have i6:(n:Int)<(la.length:Int):=by omega
             cases b
             ·have hnn2:n<nm.length:=by have:=HLN.out;omega
              have y1:=(HVC.out wr HBN.out).2 n hnn2
              have z5:=HZC.out wr HBn.out
              have hmn:(⟨nm[n].toArray⟩:ByteArray)=tx↔nm[n]=tx.data.toList:=⟨fun e=>by rw[←e],fun e=>by rw[e]⟩
              generalize hy:nm[n]=y at *
              go_upto_region 32 with(fail)
              by_cases hyt:(⟨y.toArray⟩:ByteArray)=tx
              ·subst hyt
               go_quiet (fail)
               go_wp2_with fail
               exact⟨⟨n+1,true,by omega,by go_num,rfl,Lib.hid (fun h=>by cases h),Lib.hid (Below.drewN'' HBn.out nq)⟩,by simp only[intOf];omega⟩
              ·have hyn:y≠tx.data.toList:=fun e=>hyt (hmn.2 e)
               have HNX:=Lib.hid (show ∀m (hm:m<nm.length),m<n+1→nm[m]≠tx.data.toList from fun m hm h1=>by
                by_cases e:m=n
                ·subst e;rw[hy];exact hyn
                ·exact(HIN.out rfl).2 m hm (by omega))
               have HK9:=Lib.hid (HIN.out rfl).1
               have q2:(y==tx.toList)=false:=by
                rw[beq_eq_false_iff_ne]
                intro e
                rw[Lib.toList_data]at e
                exact hyn e
               clear hy hyn hyt hmn
               go_quiet (fail)
               go_wp2_with fail
               exact⟨⟨n+1,false,by omega,by go_num,rfl,Lib.hid (fun _=>⟨HK9.out,HNX.out⟩),Lib.hid (Below.drewN'' HBn.out nq)⟩,by simp only[intOf];omega⟩
             ·go_wp2_with fail
              exact⟨⟨q+1,by omega,by go_num,HBn⟩,by simp only[intOf];omega⟩
            ·obtain rfl:n=la.length:=by omega
             have i6:¬(la.length:Int)<(la.length:Int):=by omega
             obtain rfl:b=true:=by
              cases b
              ·obtain⟨k3,hall⟩:=HIN.out rfl
               have hm:=HMQ.out k3
               obtain⟨m,hm1,hm2⟩:=List.mem_iff_getElem.1 hm
               exact absurd hm2 (hall m hm1 (by have:=HLN.out;omega))
              ·rfl
             go_wp2_with fail
             exact⟨⟨q+1,by omega,by go_num,HBn⟩,by simp only[intOf];omega⟩
         ·obtain rfl:q=tls.length:=by omega
          have i5:¬(tls.length:Int)<(tls.length:Int):=by omega
          go_wp2_with fail
          exact⟨⟨k+1,by omega,by go_num,HBQ⟩,by simp only[intOf];omega⟩
    ·obtain rfl:i=la.length:=by omega
     have i4':¬(la.length:Int)<(la.length:Int):=by omega
     go_wp2_with fail
     go_ret
     exact⟨rfl,Below.step HB.out HB1.out⟩
  ·by_cases hf:es=4
   ·subst hf
    have hla0:la.length=0:=Decidable.byContradiction fun h=>he (hok.2 h)
    have hnm0:nm.length=0:=hform.1 rfl
    have i4:¬(0:Int)<(la.length:Int):=by omega
    have i5:((nm.length:Int)==0)=true:=by rw[beq_iff_eq];omega
    obtain⟨pp,hpp⟩:∃a,(gramP (ls.take at')).2.1=a:=⟨_,rfl⟩
    obtain⟨ff,hff⟩:∃a,(gramP (ls.take at')).2.2=a:=⟨_,rfl⟩
    have HPRE:=Lib.hid (show ff=4→at'≤pp from by have h1:=HRT.out.pre HES.out.2.1;rw[HES.out.1,hff,hpp]at h1;exact h1)
    have hxt:(s.extract 0 at').data.toList=ls.take at':=by rw[←HLS.out];simp[ByteArray.data_extract]
    have HGU:=Lib.hid (show ∀wx,CntTab wx→Calls Tryz.prog 10 #[.string (s.extract 0 at')] wx fun e w'=>∃(A:Option Addr) (c:Nat) (ds:List Ld),e=.returned (.tuple #[.agg #[.slice A ds.length c],.int .i64 (pp:Int),.int .i64 (ff:Int)])∧Below wx.heap.size wx w' from fun wx hx=>by
     have hxs:(s.extract 0 at').size≤281474976710656:=by
      have h1:=congrArg List.length hxt
      rw[List.length_take]at h1
      have h2:(s.extract 0 at').data.toList.length=(s.extract 0 at').size:=Array.length_toList
      have:=HSL.out
      omega
     have h:=HGX.out (s.extract 0 at') wx hxs hx
     rw[hxt,hpp,hff]at h
     exact h.mono fun e w' ⟨A,c,ds,h1,_,h3⟩=>⟨A,c,ds,h1,h3⟩)
    have i6:(0:Int)≤(at':Int):=by omega
    have i7:at'≤s.size:=by omega
    clear hok hform hxt hpp hff i4 i5
    by_cases hff4:ff=4
    ·have hle2:=HPRE.out hff4
     subst hff4
     have i8:(at':Int)≤(pp:Int):=by omega
     go_wp2_with (first
      |(go_at_call 10;(with_reducible refine(HGU.out _ (HCT.out.below HB.out)).mono ?_);rintro e w6 ⟨U,cu,lu,rfl,h2⟩;have HB6:=Lib.hid h2;clear h2)
      |fail)
     go_ret
     exact⟨rfl,Below.step HB.out (HB6.out.alloc HB6.out.size _)⟩
    ·have i8:((ff:Int)==4)=false:=by rw[beq_eq_false_iff_ne];omega
     go_wp2_with (first
      |(go_at_call 10;(with_reducible refine(HGU.out _ (HCT.out.below HB.out)).mono ?_);rintro e w6 ⟨U,cu,lu,rfl,h2⟩;have HB6:=Lib.hid h2;clear h2)
      |fail)
     go_ret
     exact⟨rfl,Below.step HB.out (HB6.out.alloc HB6.out.size _)⟩
   ·have i4:¬(0:Int)<(la.length:Int):=by
     have:la.length=0:=Decidable.byContradiction fun h=>he (hok.2 h)
     omega
    have hn0:nm.length≠0:=fun h=>hf (hform.2 h)
    have i4n:¬0<la.length:=by omega
    have her:=HRT.out.err
    rw[HES.out.2.1]at her
    clear hok hform
    generalize nm.length=nk at *
    have i5:((nk:Int)==0)=false:=by rw[beq_eq_false_iff_ne];omega
    have i5':(nk==0)=false:=by rw[beq_eq_false_iff_ne];omega
    rcases her with h|h|h|h|h
    ·exact absurd h he
    ·exact absurd h hf
    all_goals
     subst h
     go_wp2_with fail
     go_ret
     exact⟨rfl,HB.out⟩
end Go.Proofs.YtpfokabdpmjobaaGreatDoor
namespace Go.Proofs.YtpfokabdpmjobaaGreatDoor
open Go.RowKit Go.ChangeShapes Go.WideShapes
set_option linter.unusedSimpArgs false
set_option linter.unusedVariables false
set_option maxRecDepth 100000
theorem counts_of_laid {W:World} (h:laidMetH Tryz.prog [("bonsai/tree.counts",Rows.laid_bonsai_tree_counts)] W):CntTab W:=by
 rw[MakeChecks.laidMetH_plain _ _ _ (by kernel_rfl)]at h
 obtain⟨ps,⟨g',t',cs,fuel,p,q,hg',ht',hvar,hd,_,_⟩,_⟩:=h
 obtain rfl:=Option.some.inj ((show Tryz.prog.globalNamed "bonsai/tree.counts" = some 0 by kernel_rfl).symm.trans hg')
 obtain rfl:=Option.some.inj ((show(Tryz.prog.globals[(0:Nat)]?).map (·.type)=some 150 by kernel_rfl).symm.trans ht')
 obtain⟨xs,m,_,hx,hcl,hxl,hel⟩:=DataW.trod_array Tryz.underlying150 hd
 have k1:Tryz.prog.cellsOf 149=2:=by kernel_rfl
 rw[show Tryz.prog.cellsOf 150=20 by kernel_rfl]at hcl
 simp only[k1]at hel
 have hx1:xs.map (·.1)=[Lib.tabData .i64 [0,0],Lib.tabData .i64 [0,0],Lib.tabData .i64 [0,0],Lib.tabData .i64 [0,0],Lib.tabData .i64 [2, -1],Lib.tabData .i64 [2, -1],Lib.tabData .i64 [1,1],Lib.tabData .i64 [1,1],Lib.tabData .i64 [1,1],Lib.tabData .i64 [1,1]]:=by
  have h1:=congrArg Prod.fst hx
  simp only[Rows.laid_bonsai_tree_counts,DataW.agg.injEq]at h1
  rw[←h1];rfl
 have hch:∀(i:Nat) (a b:Int),i<10→(xs.map (·.1))[i]?=some (Lib.tabData .i64 [a,b])→(cs.toList.drop (i*2)).take 2=[.int .i64 a,.int .i64 b]:=fun i a b hi he=>by
  have h1:=hel i hi
  rw[List.getElem?_map]at he
  obtain⟨y,hy,e⟩:=Option.map_eq_some_iff.1 he
  rw[hy]at h1
  obtain⟨y1,y2⟩:=y
  simp only at e
  subst e
  exact Lib.cells_of_tab (zs:=[a,b]) Tryz.underlying149 Tryz.underlying3 (by kernel_rfl) k1 h1
 rw[hx1]at hch
 unfold CntTab
 rw[hvar]
 obtain⟨l⟩:=cs
 simp only at hch hcl
 match l,hcl with
 |[a0,a1,a2,a3,a4,a5,a6,a7,a8,a9,a10,a11,a12,a13,a14,a15,a16,a17,a18,a19],_=>
  have c0:=hch 0 0 0 (by decide) rfl
  have c1:=hch 1 0 0 (by decide) rfl
  have c2:=hch 2 0 0 (by decide) rfl
  have c3:=hch 3 0 0 (by decide) rfl
  have c4:=hch 4 2 (-1) (by decide) rfl
  have c5:=hch 5 2 (-1) (by decide) rfl
  have c6:=hch 6 1 1 (by decide) rfl
  have c7:=hch 7 1 1 (by decide) rfl
  have c8:=hch 8 1 1 (by decide) rfl
  have c9:=hch 9 1 1 (by decide) rfl
  simp only[Nat.zero_mul,List.drop_zero,List.take_succ_cons,List.take_zero,List.drop_succ_cons,List.cons.injEq,and_true,Nat.reduceMul]at c0 c1 c2 c3 c4 c5 c6 c7 c8 c9
  obtain⟨rfl,rfl⟩:=c0;obtain⟨rfl,rfl⟩:=c1;obtain⟨rfl,rfl⟩:=c2;obtain⟨rfl,rfl⟩:=c3;obtain⟨rfl,rfl⟩:=c4
  obtain⟨rfl,rfl⟩:=c5;obtain⟨rfl,rfl⟩:=c6;obtain⟨rfl,rfl⟩:=c7;obtain⟨rfl,rfl⟩:=c8;obtain⟨rfl,rfl⟩:=c9
  rfl
end Go.Proofs.YtpfokabdpmjobaaGreatDoor
