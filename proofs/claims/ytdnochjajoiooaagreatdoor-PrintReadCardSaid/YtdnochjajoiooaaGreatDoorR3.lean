/- The walk of PrintRead. -/
import Derived.Test.YtdnochjajoiooaaGreatDoorRe
import Derived.Test.YtdnochjajoiooaaGreatDoorRl
import Derived.Test.YtdnochjajoiooaaGreatDoorR2
import Derived.Test.YtdnochjajoiooaaGreatDoorQ3
import Derived.Test.YtdnochjajoiooaaGreatDoorEc
import Derived.Test.YtdnochjajoiooaaGreatDoorAk
import Derived.Test.YtdnochjajoiooaaGreatDoorDq
namespace Go.Proofs.YtdnochjajoiooaaGreatDoor
open Go.RowKit
set_option linter.unusedSimpArgs false
set_option linter.unusedVariables false
theorem VJ {t:Tr} (h:AA t=true) (hl:t.nodes.length<=3000):(DC (Bo (JL t))).nodes.length<=300000:=by
 have h1:=Sh (JL t)
 have h2:G4 (JL t)<=3000:=by
  have hR:=(AM _).1 h;have hr:t.root.toNat<t.nodes.length:=by have:=hR.1;omega
  have e:BH t.nodes t.root.toNat=BJ (JL t):=Ir (AE hR) _ (EU hR _ hr);have e2:=congrArg List.length e;rw[DQ,Fv hR]at e2;show(BJ (JL t)).length<=3000;omega
 show G4 (Bo (JL t))<=_;omega
set_option maxRecDepth 100000 in
set_option maxHeartbeats 12800000 in
theorem LP (a:Lt) (S:Nat->Prop) (w:World) (hA:a.inn w S) (hp:PTabs w):
  Calls Tryz.prog 3 #[.agg #[.slice a.A a.ls.length a.c,.int .i64 a.root]] w fun e w'=>e=.returned (.bool true)/\Below w.heap.size w w':=by
 have HA:=qd hA;have HP:=qd hp;clear hA hp
 have HW1:=qd (show ∀n∈a.tr.nodes,(0<=n.s0/\n.s0<18446744073709551616)/\(0<=n.s1/\n.s1<18446744073709551616)/\(0<=n.s2/\n.s2<18446744073709551616)/\(0<=n.s3/\n.s3<18446744073709551616)from fun n hn=>by
  obtain⟨y,hy,rfl⟩:=List.mem_map.1 hn;have h1:=(HA.out.2.2 y hy).1;exact⟨h1.2.2.2.1,h1.2.2.2.2.1,h1.2.2.2.2.2.1,h1.2.2.2.2.2.2⟩)
 have HB0:=qd (bx1 w (.cells #[.slice a.A a.ls.length a.c,.int .i64 a.root] 24));have HK0:=qd (Ad w (.cells #[.slice a.A a.ls.length a.c,.int .i64 a.root] 24));go_enter Tryz.func3,Tryz.ntmps3
 go_wp2_with fail
 refine(Nl _ (HP.out.below HB0.out)).mono ?_;rintro e w1 ⟨rfl,hb⟩;have HK1:=qd (Ae hb HK0.out);have HB1:=qd (Below.step HB0.out hb);clear hb HB0 HK0;obtain⟨p1,p2,_,_⟩:=Bd HK1.out;go_wp2_with fail
 have HRW:=qd (show ttL.row (w1.alloc (.cells #[.slice a.A a.ls.length a.c,.int .i64 a.root] 24)) (fun _=>True) (some ⟨w1.heap.size,0,none⟩) [a]from by
  refine⟨⟨Be (cs:=[.slice a.A a.ls.length a.c,.int .i64 a.root]) (Ad w1 _),fun _ _ _=>trivial⟩,fun t ht=> ?_⟩;obtain rfl:=List.mem_singleton.1 ht;exact((HA.out.below HB1.out).below (bx1 w1 _)).mono (fun _ _ _=>trivial))
 refine(VO [a] (some ⟨w1.heap.size,0,none⟩) 1 (fun _=>True) _ HRW.out (by simp)).mono ?_;rintro e w2 ⟨r,rfl,hr,hb⟩;have HB2:=qd (Below.step HB1.out (Below.step (bx1 w1 _) hb));have HK2:=qd (Ae hb (A7 HK1.out));clear hb HRW p1 p2 HK1 HB1;cases r
 ·have HS:=qd (hr rfl a (by simp));clear hr;have HTA:=qd (show Calls Tryz.prog 6 #[.agg #[.slice a.A a.ls.length a.c,.int .i64 a.root]] w2 fun e w''=>e=.returned (.string ⟨(BX a.tr).toArray⟩)/\Below w2.heap.size w2 w'' from Rs a S w2 (HA.out.below HB2.out) (by have:=HS.out.1;omega) (HP.out.below HB2.out));obtain⟨p1,p2,_,_⟩:=Bd HK2.out
  go_upto_region 4 with(first
   |(go_at_call 6;(with_reducible refine HTA.out.mono ?_);rintro e w3 ⟨rfl,hb⟩;have HB3:=qd (Below.step HB2.out hb);have HK3:=qd (Ae hb HK2.out);clear hb p1 p2)
   |fail)
  cases hra:AA a.tr
  ·rw[Wo _ (UA hra)];go_wp2_with fail
   go_ret;exact⟨rfl,HB3.out⟩
  ·have HRA:=qd hra;have hsz:(⟨(BX a.tr).toArray⟩:ByteArray).size=(BX a.tr).length:=by simp[ByteArray.size]
   obtain⟨a1,a2⟩:=Bb ⟨(BX a.tr).toArray⟩ (by rw[Wn];exact List.length_pos_iff.2 (U9 hra));have hlen:=JD a.tr;have hal:a.tr.nodes.length<=3000:=by have:=HS.out.1;simp only[Lt.tr,List.length_map];omega
   have hsl:(⟨(BX a.tr).toArray⟩:ByteArray).size<=281474976710656:=by rw[hsz];omega
   have HLL:=qd (show(⟨(BX a.tr).toArray⟩:ByteArray).data.toList=BX a.tr from rfl);have HAL:=qd hal;generalize hsb:(⟨(BX a.tr).toArray⟩:ByteArray)=sb at *;clear hlen hsb hal;by_cases hbig:65536<(BX a.tr).length
   ·have i1:(65536:Int)<(sb.size:Int):=by omega
    clear hsz hbig hra hsl;go_wp2_with fail
    go_ret;exact⟨rfl,HB3.out⟩
   ·have i1:¬(65536:Int)<(sb.size:Int):=by omega
    have HPR:=qd (QY hra (TM hra HW1.out) (by omega));obtain⟨M,hM⟩:∃M,DC (Bo (JL a.tr))=M:=⟨_,rfl⟩;have HML:=qd (show M.nodes.length<=300000/\AA M=true from⟨by rw[<-hM];exact VJ hra HAL.out,by rw[<-hM];exact(AM _).2 (NA (Rg (OX hra)).1)⟩);rw[hM,<-hsz]at HPR
    obtain⟨T,ax,ex,hX,hC⟩:∃(T:Tr) (ax ex:Nat),Ef (BX a.tr)=(T,ax,ex)/\((JF M=true/\T=M/\ax=0/\ex=0)\/(JF M=false/\T=⟨[],0⟩/\ax=sb.size/\ex=40)):=by
     cases hm:JF M with
     |true=>exact⟨_,_,_,by rw[HPR.out,if_pos hm],.inl ⟨rfl,rfl,rfl,rfl⟩⟩
     |false=>exact⟨_,_,_,by rw[HPR.out,if_neg (by rw[hm];decide)],.inr ⟨rfl,rfl,rfl,rfl⟩⟩
    have HX:=qd (show Calls Tryz.prog 7 #[.string sb] w3 fun ed w'=>∃(A:Option Addr) (c:Nat) (l:List Ln) (r:Int),ed=.returned (.tuple #[.agg #[.slice A l.length c,.int .i64 r],.int .i64 (ax:Int),.int .i64 (ex:Int)])/\((⟨A,c,l,r⟩:Lt).tr=T/\l.length<=300000)/\TreeOwn w' (fun _=>True) ⟨A,c,l,r⟩/\Below w3.heap.size w3 w' from by
     have h:=TE sb w3 hsl (HP.out.below HB3.out).cn;unfold NP at h;rw[HLL.out,hX]at h;exact h.mono fun e w' ⟨⟨A,c,l,r⟩,h1,h2,h3,h4,h5⟩=>⟨A,c,l,r,h1,⟨h2,h3⟩,h4.mono (fun _ _ _=>trivial),h5⟩)
    have HC:=qd hC;have HMM:=qd hM;clear hsz hbig hra hsl hX hC hM
    go_upto_region 7 with(first
     |(go_at_call 7;(with_reducible refine HX.out.mono ?_);rintro e w4 ⟨xA,xc,xl,xr,rfl,h1,h3,h2⟩;have HX4:=qd (And.intro h1 h3);have HB34:=qd h2;clear h1 h2 h3)
     |fail)
    have hb5:=bx1 w4 (.cells #[.slice xA xl.length xc,.int .i64 xr] 24);have hb35:=Below.step HB34.out hb5;have HXO:=qd (HX4.out.2.below hb5);have HXT:=qd HX4.out.1;have HKX:=qd (Ad w4 (.cells #[.slice xA xl.length xc,.int .i64 xr] 24));have HK5:=qd (Ae hb35 HK3.out);have HB5:=qd (Below.step HB3.out hb35);clear hb5 hb35 HX4 HB34 HX HK3 HB3;generalize (w4.alloc (.cells #[.slice xA xl.length xc,.int .i64 xr] 24))=w5 at *;generalize w4.heap.size=gx at *
    have HMK:=qd (show Calls Tryz.prog 8 #[.agg #[.slice a.A a.ls.length a.c,.int .i64 a.root]] w5 fun e w'=>∃(A:Option Addr) (c:Nat) (l:List Ln) (r:Int),e=.returned (.tuple #[.agg #[.slice A l.length c,.int .i64 r],.bool true])/\(⟨A,c,l,r⟩:Lt).tr=M/\TreeOwn w' (fun _=>True) ⟨A,c,l,r⟩/\Below w5.heap.size w5 w' from
     (Oi a.A a.c a.ls a.root S w5 (HA.out.below HB5.out).2 (by have:=HS.out.1;omega) (HP.out.below HB5.out).cn).mono fun e w' hm=>by
      obtain⟨⟨A,c,l,r⟩,h1,h2,h3,h4⟩:=hm.1 HRA.out;exact⟨A,c,l,r,h1,h2.trans HMM.out,h3.mono (fun _ _ _=>trivial),h4⟩)
    obtain⟨p1,p2,_,_⟩:=Bd HK5.out
    go_upto_region 8 with(first
     |(go_at_call 8;(with_reducible refine HMK.out.mono ?_);rintro e w6 ⟨vA,vc,vl,vr,rfl,h1,h3,h2⟩;have HV6:=qd h3;have HVT:=qd h1;have HB56:=qd h2;clear h1 h2 h3)
     |fail)
    have hb7:=bx1 w6 (.cells #[.slice vA vl.length vc,.int .i64 vr] 24);have hb57:=Below.step HB56.out hb7;have HVO:=qd (HV6.out.below hb7);have HXO7:=qd (HXO.out.below hb57);have HKV:=qd (Ad w6 (.cells #[.slice vA vl.length vc,.int .i64 vr] 24));have HKX7:=qd (Ae hb57 HKX.out);have HB7:=qd (Below.step HB5.out hb57);clear hb7 hb57 HV6 HB56 HMK HXO HKX HK5 HB5 p1 p2;generalize (w6.alloc (.cells #[.slice vA vl.length vc,.int .i64 vr] 24))=w7 at *;generalize w6.heap.size=gv at *
    have hvl:vl.length<=300000:=by
     have h:=congrArg (fun t:Tr=>t.nodes.length) HVT.out;simp only[Lt.tr,List.length_map]at h;rw[h];exact HML.out.1
    have HMY:=qd (show Calls Tryz.prog 9 #[.agg #[.slice vA vl.length vc,.int .i64 vr]] w7 fun e w'=>e=.returned (.bool (JF M))/\Below w7.heap.size w7 w' from by
     have h1:=OJ ⟨vA,vc,vl,vr⟩ _ w7 HVO.out.inn (by show vl.length<=_;omega) (HP.out.below HB7.out).cn;rw[HVT.out]at h1;exact h1)
    have HSM:=qd (show T=M-> ∀wx,Below w7.heap.size w7 wx->Calls Tryz.prog 10 #[.agg #[.slice xA xl.length xc,.int .i64 xr],.agg #[.slice vA vl.length vc,.int .i64 vr]] wx fun e w'=>e=.returned (.bool true)/\Below wx.heap.size wx w' from fun hts wx hb=>by
     have h3:=S3 xA vA xc vc xl vl xr vr _ _ wx (HXO7.out.inn.below hb).2 (HVO.out.inn.below hb).2 (by have:=HXT.out.2;omega) (by omega) (HP.out.below (Below.step HB7.out hb)).cn
     have e:Dy ⟨xl.map Ln.nd,xr⟩ ⟨vl.map Ln.nd,vr⟩=true:=by
      have e1:(⟨xl.map Ln.nd,xr⟩:Tr)=T:=HXT.out.1;have e2:(⟨vl.map Ln.nd,vr⟩:Tr)=M:=HVT.out;rw[e1,e2,hts];exact O6 HML.out.2
     rw[e]at h3;exact h3)
    have HXL:=qd (show T=⟨[],0⟩->xl.length=0 from fun h=>by
     have h1:=congrArg (fun t:Tr=>t.nodes.length) (HXT.out.1.trans h);simpa[Lt.tr]using h1)
    have HCV:=qd (show ∀wx,Below w7.heap.size w7 wx->(wx.cell? ⟨gv,0,none⟩=some (.slice vA vl.length vc)/\wx.cell? ⟨gv,1,none⟩=some (.int .i64 vr))/\wx.cell? ⟨gx,0,none⟩=some (.slice xA xl.length xc)/\wx.cell? ⟨gx,1,none⟩=some (.int .i64 xr)from fun wx hb=>by
     have h1:=Bd (Ae hb HKV.out);have h2:=Bd (Ae hb HKX7.out);exact⟨⟨h1.1,h1.2.1⟩,h2.1,h2.2.1⟩)
    have HE:=qd (Below.refl w7.heap.size w7);obtain⟨⟨p1,p2⟩,p3,p4⟩:=HCV.out _ HE.out;rcases HC.out with⟨m1,k1,rfl,rfl⟩|⟨m1,k1,rfl,rfl⟩
    ·rw[m1]at HMY;have HSM:=qd (HSM.out k1);clear m1 k1 HC HXL hvl
     go_wp2_with (first
      |(go_at_call 9;(with_reducible refine HMY.out.mono ?_);rintro e wx ⟨rfl,hb⟩;have HE':=qd hb;clear HE;have HE:=HE';clear HE' hb p1 p2 p3 p4;obtain⟨⟨p1,p2⟩,p3,p4⟩:=HCV.out _ HE.out)
      |(go_at_call 10;(with_reducible refine(HSM.out _ HE.out).mono ?_);rintro e wx ⟨rfl,hb⟩;have HE':=qd (Below.step HE.out hb);clear HE;have HE:=HE';clear HE' hb p1 p2 p3 p4;obtain⟨⟨p1,p2⟩,p3,p4⟩:=HCV.out _ HE.out)
      |fail)
     go_ret;exact⟨rfl,Below.step HB7.out HE.out⟩
    ·rw[m1]at HMY;have hxl:=HXL.out k1;rw[hxl]at p3
     have HCX:=qd (show ∀wx,Below w7.heap.size w7 wx->wx.cell? ⟨gx,0,none⟩=some (.slice xA 0 xc)from fun wx hb=>by
      have:=(HCV.out wx hb).2.1;rw[hxl]at this;exact this)
     clear m1 k1 HC HXL HSM hvl hxl
     go_wp2_with (first
      |(go_at_call 9;(with_reducible refine HMY.out.mono ?_);rintro e wx ⟨rfl,hb⟩;have HE':=qd hb;clear HE;have HE:=HE';clear HE' hb p1 p2 p3 p4;obtain p3:=HCX.out _ HE.out)
      |fail)
     go_ret;exact⟨rfl,Below.step HB7.out HE.out⟩
 ·as_aux_lemma=>
   go_wp2_with (go_at_call 4;refine(Nl _ (HP.out.below HB2.out)).mono ?_;rintro e w3 ⟨rfl,hb3⟩;have HB3:=qd (Below.step HB2.out hb3);clear hb3)
   go_ret;exact⟨rfl,HB3.out⟩
end Go.Proofs.YtdnochjajoiooaaGreatDoor
