/- The contracts of a reader's hex, sign, signs, and of quote.begin. -/
import Derived.Test.YtdnochjajoiooaaGreatDoorLe
import Derived.Test.YtdnochjajoiooaaGreatDoorCu
namespace Go.Proofs.YtdnochjajoiooaaGreatDoor
open Go.RowKit
set_option linter.unusedSimpArgs false
set_option linter.unusedVariables false
def SgPost (r:Nat) (t left:ByteArray) (en:UInt8) (m:Nat) (e0:Int) (s:SR) (w:World) (e:Ending) (w':World):Prop:=
 (match s with
  |.ok b n=>e=.returned (.tuple #[u8V b,.bool true])/\RD w' r t left en m (n:Int) e0
  |.no p k=>e=.returned (.tuple #[.int .u8 0,.bool false])/\RD w' r t left en m (p:Int) (k:Int))/\w.grownBy w' (some r)
theorem SgPost.of_ok {r:Nat} {t left:ByteArray} {en:UInt8} {m:Nat} {e0:Int} {s:SR} {w:World} {e:Ending} {w':World} {b:UInt8} {n:Nat} {z:Int} (h:s=.ok b n) (hz:z=(n:Int)) (he:e=.returned (.tuple #[u8V b,.bool true])) (hr:RD w' r t left en m z e0) (hg:w.grownBy w' (some r)):SgPost r t left en m e0 s w e w':=by
 subst h hz;exact⟨⟨he,hr⟩,hg⟩
theorem SgPost.of_no {r:Nat} {t left:ByteArray} {en:UInt8} {m:Nat} {e0:Int} {s:SR} {w:World} {e:Ending} {w':World} {p k:Nat} {z z':Int} (h:s=.no p k) (hz:z=(p:Int)) (hz':z'=(k:Int)) (he:e=.returned (.tuple #[.int .u8 0,.bool false])) (hr:RD w' r t left en m z z') (hg:w.grownBy w' (some r)):SgPost r t left en m e0 s w e w':=by
 subst h hz hz';exact⟨⟨he,hr⟩,hg⟩
theorem Pg {n:Nat} (h:n<256):(UInt8.ofNat n).toNat=n:=by simp;omega
def HexInv (t:List UInt8) (a k:Nat) (sum:Nat):Prop:=
 (k=0/\sum=0)\/(k=1/\ ∃c,t[a]?=some c/\Gr c=some sum)\/(k=2/\sum<256/\EJ t a=.ok (UInt8.ofNat sum) (a+2))
theorem HexInv.none {t:List UInt8} {a k sum:Nat} (h:HexInv t a k sum) (hk:k<2) (hn:t[a+k]?=none):EJ t a=.no t.length 8:=by
 rcases h with⟨rfl,rfl⟩|⟨rfl,c,h1,h2⟩|⟨rfl,_⟩
 ·unfold EJ;rw[show t[a]?=Option.none from hn]
 ·unfold EJ;rw[h1];simp only[h2,hn]
 ·omega
theorem HexInv.bad {t:List UInt8} {a k sum:Nat} {d:UInt8} (h:HexInv t a k sum) (hk:k<2) (hn:t[a+k]?=some d) (hd:Gr d=Option.none):EJ t a=.no (a+k) 4:=by
 rcases h with⟨rfl,rfl⟩|⟨rfl,c,h1,h2⟩|⟨rfl,_⟩
 ·unfold EJ;rw[show t[a]?=some d from hn];simp only[hd];rfl
 ·unfold EJ;rw[h1];simp only[h2,hn,hd]
 ·omega
theorem HexInv.step {t:List UInt8} {a k sum y:Nat} {d:UInt8} (h:HexInv t a k sum) (hk:k<2) (hn:t[a+k]?=some d) (hd:Gr d=some y):HexInv t a (k+1) (16*sum+y):=by
 have hy:=NF hd;rcases h with⟨rfl,rfl⟩|⟨rfl,c,h1,h2⟩|⟨rfl,_⟩
 ·exact .inr (.inl ⟨rfl,d,hn,by simpa using hd⟩)
 ·have:=NF h2;refine .inr (.inr ⟨rfl,by omega,?_⟩);unfold EJ;rw[h1];simp only[h2,hn,hd]
 ·omega
theorem HexInv.lt {t:List UInt8} {a k sum:Nat} (h:HexInv t a k sum) (hk:k<2):sum<16:=by
 rcases h with⟨rfl,rfl⟩|⟨rfl,c,h1,h2⟩|⟨rfl,_⟩
 ·omega
 ·exact NF h2
 ·omega
theorem Yd:∀(s d:Fin 16),bits BinOp.or IntKind.u8 (((s.val:Nat):Int)*16%256) ((d.val:Nat):Int)=((16*s.val+d.val:Nat):Int):=by decide
theorem nib {s:Nat} {d:Int} {y:Nat} (hs:s<16) (hd:d=(y:Int)) (hy:y<16):Value.int .u8 (bits BinOp.or IntKind.u8 ((s:Int)*16%256) d)=.int .u8 ((16*s+y:Nat):Int):=by
 subst hd;rw[Yd ⟨s,hs⟩ ⟨y,hy⟩]
theorem Vc {c:UInt8} (h1:(48:Int)<=c.toNat) (h2:(c.toNat:Int)<=57):Gr c=some (c.toNat-48):=by unfold Gr;rw[if_pos ⟨by omega,by omega⟩]
theorem Vd {c:UInt8} (h1:(97:Int)<=c.toNat) (h2:(c.toNat:Int)<=102):Gr c=some (c.toNat-87):=by unfold Gr;rw[if_neg (by omega),if_pos ⟨by omega,by omega⟩]
theorem WL {c:UInt8} (h1:(65:Int)<=c.toNat) (h2:(c.toNat:Int)<=70):Gr c=some (c.toNat-55):=by unfold Gr;rw[if_neg (by omega),if_neg (by omega),if_pos ⟨by omega,by omega⟩]
theorem WM {c:UInt8} (h1:¬((48:Int)<=c.toNat/\(c.toNat:Int)<=57)) (h2:¬((97:Int)<=c.toNat/\(c.toNat:Int)<=102)) (h3:¬((65:Int)<=c.toNat/\(c.toNat:Int)<=70)):Gr c=none:=by
 unfold Gr;rw[if_neg (by omega),if_neg (by omega),if_neg (by omega)]
set_option maxRecDepth 100000 in
set_option maxHeartbeats 2000000 in
theorem RC (r:Nat) (t left:ByteArray) (en:UInt8) (m a:Nat) (e0:Int) (w:World) (h:RD w r t left en m (a:Int) e0) (hs:t.size<=1000000):
  Calls Tryz.prog 136 #[.pointer (some ⟨r,0,none⟩)] w (SgPost r t left en m e0 (EJ t.data.toList a) w):=by
 have HR0:=qd h;clear h;go_enter Tryz.func136,Tryz.ntmps136
 go_wp2_with fail
 go_loopw [4,7] (fun v i wr=>∃k sum:Nat,k<=2/\v=.int .u8 (sum:Int)/\i=.int .i64 (k:Int)/\Hid (HexInv t.data.toList a k sum)/\Hid (RD wr r t left en m ((a+k:Nat):Int) e0)/\Hid (w.grownBy wr (some r))) (fun _ i _=>2-(intOf i).toNat)
 case atStart=>exact⟨0,0,by omega,rfl,rfl,qd (.inl ⟨rfl,rfl⟩),HR0,qd (World.grownBy.refl _ _)⟩
 case round=>
  clear HR0;obtain⟨k,sum,hk,rfl,rfl,HI,HR,HG⟩:=hrel;by_cases hlt:k<2
  ·have i1:(k:Int)<2:=by omega
   by_cases ha:a+k<t.size
   ·have HA:=qd (Lib.data_getElem? t (a+k) ha);have HS:=qd (HI.out.lt hlt);obtain⟨c,hc⟩:∃c,t[a+k]=c:=⟨_,rfl⟩;rw[hc]at HA;have HC:=qd hc;clear hc;by_cases d1:(48:Int)<=c.toNat/\(c.toNat:Int)<=57
    ·obtain⟨d2,d3⟩:=d1;go_wp2_with (first|(go_at_call 130;refine(BA r t left en m (a+k) e0 _ HR.out ha hs).mono ?_;rw[HC.out];rintro e1 w1 ⟨rfl,h1,h2⟩;have HR1:=qd h1;have HG1:=qd (HG.out.trans h2);clear h1 h2))
     exact⟨⟨k+1,16*sum+(c.toNat-48),by omega,nib HS.out (by omega) (by omega),by go_num,qd (HI.out.step hlt HA.out (Vc d2 d3)),HR1,HG1⟩,by simp only[intOf];omega⟩
    by_cases d4:(97:Int)<=c.toNat/\(c.toNat:Int)<=102
    ·obtain⟨d2,d3⟩:=d4;have d5:¬(c.toNat:Int)<=57:=by omega
     have d6:(48:Int)<=c.toNat:=by omega
     clear d1;go_wp2_with (first|(go_at_call 130;refine(BA r t left en m (a+k) e0 _ HR.out ha hs).mono ?_;rw[HC.out];rintro e1 w1 ⟨rfl,h1,h2⟩;have HR1:=qd h1;have HG1:=qd (HG.out.trans h2);clear h1 h2))
     exact⟨⟨k+1,16*sum+(c.toNat-87),by omega,nib HS.out (by omega) (by omega),by go_num,qd (HI.out.step hlt HA.out (Vd d2 d3)),HR1,HG1⟩,by simp only[intOf];omega⟩
    by_cases d7:(65:Int)<=c.toNat/\(c.toNat:Int)<=70
    ·obtain⟨d2,d3⟩:=d7;have d5:¬(c.toNat:Int)<=57:=by omega
     have d6:(48:Int)<=c.toNat:=by omega
     have d8:¬(97:Int)<=c.toNat:=by omega
     clear d1 d4;go_wp2_with (first|(go_at_call 130;refine(BA r t left en m (a+k) e0 _ HR.out ha hs).mono ?_;rw[HC.out];rintro e1 w1 ⟨rfl,h1,h2⟩;have HR1:=qd h1;have HG1:=qd (HG.out.trans h2);clear h1 h2))
     exact⟨⟨k+1,16*sum+(c.toNat-55),by omega,nib HS.out (by omega) (by omega),by go_num,qd (HI.out.step hlt HA.out (WL d2 d3)),HR1,HG1⟩,by simp only[intOf];omega⟩
    have HN:=qd (HI.out.bad hlt HA.out (WM d1 d4 d7));have HD:=qd (show(¬(48:Int)<=c.toNat\/ ¬(c.toNat:Int)<=57)/\(¬(97:Int)<=c.toNat\/ ¬(c.toNat:Int)<=102)/\(¬(65:Int)<=c.toNat\/ ¬(c.toNat:Int)<=70)from by omega);clear d1 d4 d7;have hdd:=HD.out.1;rcases hdd with d1|d1 <;> rcases HD.out.2.1 with d2|d2 <;> rcases HD.out.2.2 with d3|d3
    all_goals
     go_wp2_with (first
      |(go_at_call 130;refine(BA r t left en m (a+k) e0 _ HR.out ha hs).mono ?_;rw[HC.out];rintro e1 w1 ⟨rfl,h1,h2⟩;have c4:=h1.cells.2.2.2.2.1;have HR1:=qd h1;have HG1:=qd (HG.out.trans h2);clear h1 h2)
      |(go_at_call 123;refine(GW r t left en m _ e0 _ _ HR1.out).mono ?_;rintro e1 w2 ⟨rfl,h1,h2⟩;have HR2:=qd h1;have HG2:=qd (HG1.out.trans h2);clear h1 h2))
     all_goals
      refine bodyPost_ret (v:=.tuple #[.int .u8 0,.bool false]) (by simp[results,Tryz.results136,go_sem]) rfl ?_;exact SgPost.of_no HN.out (by omega) rfl rfl HR2.out HG2.out
   ·have HN:=qd (HI.out.none hlt (List.getElem?_eq_none (by have:=Ar t;omega)));go_wp2_with (first|(go_at_call 130;refine(Hu r t left en m (a+k) e0 _ HR.out ha hs).mono ?_;rintro e1 w1 ⟨rfl,h1,h2⟩;have HR1:=qd h1;have HG1:=qd (HG.out.trans h2);clear h1 h2))
    refine bodyPost_ret (v:=.tuple #[.int .u8 0,.bool false]) (by simp[results,Tryz.results136,go_sem]) rfl ?_;exact SgPost.of_no HN.out (by have:=Ar t;omega) rfl rfl HR1.out HG1.out
  ·obtain rfl:k=2:=by omega
   have HQ:=qd (show sum<256/\EJ t.data.toList a=.ok (UInt8.ofNat sum) (a+2)from by rcases HI.out with⟨h,_⟩|⟨h,_⟩|⟨_,h⟩ <;> first|exact h|omega);go_wp2_with fail
   have e1:(Value.int .u8 (sum:Int))=u8V (UInt8.ofNat sum):=by
    show Value.int .u8 (sum:Int)=.int .u8 (((UInt8.ofNat sum).toNat:Nat):Int);rw[Pg HQ.out.1]
   rw[e1];refine bodyPost_ret (v:=.tuple #[u8V (UInt8.ofNat sum),.bool true]) (by simp[results,Tryz.results136,go_sem]) rfl ?_;exact SgPost.of_ok HQ.out.2 rfl rfl HR.out HG.out
theorem NI:∀w,(zeroValue 5).run Tryz.prog w=.ok (.int .u8 0) w:=fun w=>by kernel_rfl
theorem Ve {left:List UInt8} {c v:UInt8} (h:DF left c=some v):(Gs left c).getD (.int .u8 0)=u8V v/\(Gs left c).isSome=true:=by simp[Gs,h]
theorem Vf {left:List UInt8} {c:UInt8} (h:DF left c=none):(Gs left c).getD (.int .u8 0)=.int .u8 0/\(Gs left c).isSome=false:=by simp[Gs,h]
theorem Ye (b:UInt8):((b.toNat:Int)==120)=decide (b=120):=by
 rw[Bool.eq_iff_iff,beq_iff_eq,decide_eq_true_eq,<-UInt8.toNat_inj];show _↔b.toNat=120;omega
set_option maxRecDepth 100000 in
set_option maxHeartbeats 2000000 in
theorem Je (r:Nat) (t left:ByteArray) (en:UInt8) (m n0 a:Nat) (e0:Int) (w:World) (h:RD w r t left en m (a:Int) e0) (hm:BMap w m n0 (Gs left.data.toList)) (hmr:m≠r) (hs:t.size<=1000000):
  Calls Tryz.prog 132 #[.pointer (some ⟨r,0,none⟩)] w (SgPost r t left en m e0 (AQ left.data.toList t.data.toList a) w):=by
 have HR:=qd h;have HM:=qd hm;clear h hm;have hsz:=Ar t;by_cases ha:a<t.size
 ·have hA:t.data.toList[a]?=some t[a]:=Lib.data_getElem? t a ha;obtain⟨b,hb⟩:∃b,t[a]=b:=⟨_,rfl⟩;rw[hb]at hA;have HC:=qd hb;clear hb;have h92:=XR b;by_cases hb:b=92
  ·rw[decide_eq_true hb]at h92;have h92':(b.toNat:Int)=92:=by simpa using h92
   by_cases ha2:a+1<t.size
   ·have hA2:t.data.toList[a+1]?=some t[a+1]:=Lib.data_getElem? t (a+1) ha2;obtain⟨c,hc⟩:∃c,t[a+1]=c:=⟨_,rfl⟩;rw[hc]at hA2;have HC2:=qd hc;clear hc;cases hme:DF left.data.toList c with
    |some v=>
     have HS:=qd (show AQ left.data.toList t.data.toList a=.ok v (a+2)from by unfold AQ;rw[hA];simp only[if_pos hb,hA2,hme]);obtain⟨E1,E2⟩:=Ve hme;have HE1:=qd E1;have HE2:=qd E2;clear E1 E2 hme hA hA2 hb;go_enter Tryz.func132,Tryz.ntmps132
     go_wp2_with (first
      |(go_at_call 130;refine(BA r t left en m a e0 _ HR.out ha hs).mono ?_;rw[HC.out];rintro e1 w1 ⟨rfl,h1,h2⟩;have HR1:=qd h1;have HG1:=qd h2;clear h1 h2)
      |(go_at_call 130;refine(BA r t left en m (a+1) e0 _ HR1.out ha2 hs).mono ?_;rw[HC2.out];rintro e1 w2 ⟨rfl,h1,h2⟩;have c3:=h1.cells.2.2.2.1;have HR2:=qd h1;have HG2:=qd (HG1.out.trans h2);have HM2:=qd (HM.out.kept HG2.out (by simpa using hmr));clear h1 h2)
      |(at_lookup;refine Dp rfl _ _ _ rfl 5 Tryz.underlying181 (NI _) _ _ _ rfl HM2.out c _ rfl rfl ?_;rw[HE1.out,HE2.out])
      |fail)
     refine bodyPost_ret (v:=.tuple #[u8V v,.bool true]) (by simp[results,Tryz.results132,go_sem]) rfl ?_;exact SgPost.of_ok HS.out rfl rfl HR2.out HG2.out
    |none=>
     obtain⟨E1,E2⟩:=Vf hme;have HE1:=qd E1;have HE2:=qd E2;clear E1 E2;have h120:=Ye c;by_cases hx:c=120
     ·rw[decide_eq_true hx]at h120;have h120':(c.toNat:Int)=120:=by simpa using h120
      have HS:=qd (show AQ left.data.toList t.data.toList a=EJ t.data.toList (a+2)from by unfold AQ;rw[hA];simp only[if_pos hb,hA2,hme,if_pos hx]);clear hme hA hA2 hb hx;cases hh:EJ t.data.toList (a+2)with
      |ok v n=>
       rw[hh]at HS;have HH:=qd hh;clear hh;go_enter Tryz.func132,Tryz.ntmps132
       go_wp2_with (first
        |(go_at_call 130;refine(BA r t left en m a e0 _ HR.out ha hs).mono ?_;rw[HC.out];rintro e1 w1 ⟨rfl,h1,h2⟩;have HR1:=qd h1;have HG1:=qd h2;clear h1 h2)
        |(go_at_call 130;refine(BA r t left en m (a+1) e0 _ HR1.out ha2 hs).mono ?_;rw[HC2.out];rintro e1 w2 ⟨rfl,h1,h2⟩;have c3:=h1.cells.2.2.2.1;have HR2:=qd h1;have HG2:=qd (HG1.out.trans h2);have HM2:=qd (HM.out.kept HG2.out (by simpa using hmr));clear h1 h2)
        |(at_lookup;refine Dp rfl _ _ _ rfl 5 Tryz.underlying181 (NI _) _ _ _ rfl HM2.out c _ rfl rfl ?_;rw[HE1.out,HE2.out])
        |(go_at_call 136;refine(RC r t left en m (a+2) e0 _ HR2.out hs).mono ?_;rw[HH.out];rintro e1 w3 ⟨⟨rfl,h1⟩,h2⟩;have HR3:=qd h1;have HG3:=qd (HG2.out.trans h2);clear h1 h2)
        |fail)
       refine bodyPost_ret (v:=.tuple #[u8V v,.bool true]) (by simp[results,Tryz.results132,go_sem]) rfl ?_;exact SgPost.of_ok HS.out rfl rfl HR3.out HG3.out
      |no p k=>
       rw[hh]at HS;have HH:=qd hh;clear hh;go_enter Tryz.func132,Tryz.ntmps132
       go_wp2_with (first
        |(go_at_call 130;refine(BA r t left en m a e0 _ HR.out ha hs).mono ?_;rw[HC.out];rintro e1 w1 ⟨rfl,h1,h2⟩;have HR1:=qd h1;have HG1:=qd h2;clear h1 h2)
        |(go_at_call 130;refine(BA r t left en m (a+1) e0 _ HR1.out ha2 hs).mono ?_;rw[HC2.out];rintro e1 w2 ⟨rfl,h1,h2⟩;have c3:=h1.cells.2.2.2.1;have HR2:=qd h1;have HG2:=qd (HG1.out.trans h2);have HM2:=qd (HM.out.kept HG2.out (by simpa using hmr));clear h1 h2)
        |(at_lookup;refine Dp rfl _ _ _ rfl 5 Tryz.underlying181 (NI _) _ _ _ rfl HM2.out c _ rfl rfl ?_;rw[HE1.out,HE2.out])
        |(go_at_call 136;refine(RC r t left en m (a+2) e0 _ HR2.out hs).mono ?_;rw[HH.out];rintro e1 w3 ⟨⟨rfl,h1⟩,h2⟩;have HR3:=qd h1;have HG3:=qd (HG2.out.trans h2);clear h1 h2)
        |fail)
       refine bodyPost_ret (v:=.tuple #[.int .u8 0,.bool false]) (by simp[results,Tryz.results132,go_sem]) rfl ?_;exact SgPost.of_no HS.out rfl rfl rfl HR3.out HG3.out
     ·rw[decide_eq_false hx]at h120;have h120':¬(c.toNat:Int)=120:=by simpa using h120
      have h120n:((c.toNat:Int) != 120)=true:=by simpa using h120'
      have HS:=qd (show AQ left.data.toList t.data.toList a=.no (a+1) 4 from by unfold AQ;rw[hA];simp only[if_pos hb,hA2,hme,if_neg hx]);clear hme hA hA2 hb hx;go_enter Tryz.func132,Tryz.ntmps132
      go_wp2_with (first
       |(go_at_call 130;refine(BA r t left en m a e0 _ HR.out ha hs).mono ?_;rw[HC.out];rintro e1 w1 ⟨rfl,h1,h2⟩;have HR1:=qd h1;have HG1:=qd h2;clear h1 h2)
       |(go_at_call 130;refine(BA r t left en m (a+1) e0 _ HR1.out ha2 hs).mono ?_;rw[HC2.out];rintro e1 w2 ⟨rfl,h1,h2⟩;have c3:=h1.cells.2.2.2.1;have c4:=h1.cells.2.2.2.2.1;have HR2:=qd h1;have HG2:=qd (HG1.out.trans h2);have HM2:=qd (HM.out.kept HG2.out (by simpa using hmr));clear h1 h2)
       |(at_lookup;refine Dp rfl _ _ _ rfl 5 Tryz.underlying181 (NI _) _ _ _ rfl HM2.out c _ rfl rfl ?_;rw[HE1.out,HE2.out])
       |(go_at_call 123;refine(GW r t left en m _ e0 _ _ HR2.out).mono ?_;rintro e1 w3 ⟨rfl,h1,h2⟩;have HR3:=qd h1;have HG3:=qd (HG2.out.trans h2);clear h1 h2)
       |fail)
      refine bodyPost_ret (v:=.tuple #[.int .u8 0,.bool false]) (by simp[results,Tryz.results132,go_sem]) rfl ?_;exact SgPost.of_no HS.out (by omega) rfl rfl HR3.out HG3.out
   ·have HS:=qd (show AQ left.data.toList t.data.toList a=.no t.data.toList.length 8 from by unfold AQ;rw[hA];simp only[if_pos hb,List.getElem?_eq_none (show t.data.toList.length<=a+1 by omega)]);clear hA hb;go_enter Tryz.func132,Tryz.ntmps132
    go_wp2_with (first
     |(go_at_call 130;refine(BA r t left en m a e0 _ HR.out ha hs).mono ?_;rw[HC.out];rintro e1 w1 ⟨rfl,h1,h2⟩;have HR1:=qd h1;have HG1:=qd h2;clear h1 h2)
     |(go_at_call 130;refine(Hu r t left en m (a+1) e0 _ HR1.out ha2 hs).mono ?_;rintro e1 w2 ⟨rfl,h1,h2⟩;have HR2:=qd h1;have HG2:=qd (HG1.out.trans h2);clear h1 h2)
     |fail)
    refine bodyPost_ret (v:=.tuple #[.int .u8 0,.bool false]) (by simp[results,Tryz.results132,go_sem]) rfl ?_;exact SgPost.of_no HS.out (by omega) rfl rfl HR2.out HG2.out
  ·rw[decide_eq_false hb]at h92;have h92':¬(b.toNat:Int)=92:=by simpa using h92
   have h92n:((b.toNat:Int) != 92)=true:=by simpa using h92'
   by_cases hp:Eo b left.data.toList
   ·have HS:=qd (show AQ left.data.toList t.data.toList a=.ok b (a+1)from by unfold AQ;rw[hA];simp only[if_neg hb,if_pos hp]);have HP:=qd (decide_eq_true hp);clear hA hb hp;go_enter Tryz.func132,Tryz.ntmps132
    go_wp2_with (first
     |(go_at_call 130;refine(BA r t left en m a e0 _ HR.out ha hs).mono ?_;rw[HC.out];rintro e1 w1 ⟨rfl,h1,h2⟩;have c1:=h1.cells.2.1;have HR1:=qd h1;have HG1:=qd h2;clear h1 h2)
     |(go_at_call 74;refine(Hj b left _).mono ?_;rintro e w' ⟨rfl,rfl⟩;rw[HP.out])
     |fail)
    refine bodyPost_ret (v:=.tuple #[u8V b,.bool true]) (by simp[results,Tryz.results132,go_sem]) rfl ?_;exact SgPost.of_ok HS.out rfl rfl HR1.out HG1.out
   ·have HS:=qd (show AQ left.data.toList t.data.toList a=.no a 4 from by unfold AQ;rw[hA];simp only[if_neg hb,if_neg hp]);have HP:=qd (decide_eq_false hp);clear hA hb hp;go_enter Tryz.func132,Tryz.ntmps132
    go_wp2_with (first
     |(go_at_call 130;refine(BA r t left en m a e0 _ HR.out ha hs).mono ?_;rw[HC.out];rintro e1 w1 ⟨rfl,h1,h2⟩;have c1:=h1.cells.2.1;have c4:=h1.cells.2.2.2.2.1;have HR1:=qd h1;have HG1:=qd h2;clear h1 h2)
     |(go_at_call 74;refine(Hj b left _).mono ?_;rintro e w' ⟨rfl,rfl⟩;rw[HP.out])
     |(go_at_call 123;refine(GW r t left en m _ e0 _ _ HR1.out).mono ?_;rintro e1 w3 ⟨rfl,h1,h2⟩;have HR3:=qd h1;have HG3:=qd (HG1.out.trans h2);clear h1 h2)
     |fail)
    refine bodyPost_ret (v:=.tuple #[.int .u8 0,.bool false]) (by simp[results,Tryz.results132,go_sem]) rfl ?_;exact SgPost.of_no HS.out (by omega) rfl rfl HR3.out HG3.out
 ·have HS:=qd (show AQ left.data.toList t.data.toList a=.no t.data.toList.length 8 from by unfold AQ;rw[List.getElem?_eq_none (show t.data.toList.length<=a by omega)]);go_enter Tryz.func132,Tryz.ntmps132
  go_wp2_with (first
   |(go_at_call 130;refine(Hu r t left en m a e0 _ HR.out ha hs).mono ?_;rintro e1 w2 ⟨rfl,h1,h2⟩;have HR2:=qd h1;have HG2:=qd h2;clear h1 h2)
   |fail)
  refine bodyPost_ret (v:=.tuple #[.int .u8 0,.bool false]) (by simp[results,Tryz.results132,go_sem]) rfl ?_;exact SgPost.of_no HS.out (by omega) rfl rfl HR2.out HG2.out
end Go.Proofs.YtdnochjajoiooaaGreatDoor
