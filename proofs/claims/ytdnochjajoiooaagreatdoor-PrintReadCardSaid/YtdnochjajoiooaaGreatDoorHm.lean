/- Depth, Size and May of trees: plain, and the contracts. -/
import Derived.Test.YtdnochjajoiooaaGreatDoorDa
import Derived.Test.YtdnochjajoiooaaGreatDoorPn
import Derived.Test.YtdnochjajoiooaaGreatDoorDq
import Derived.Test.YtdnochjajoiooaaGreatDoorDk
import Derived.Test.YtdnochjajoiooaaGreatDoorDn
import Derived.StillTailTactics
namespace Go.Proofs.YtdnochjajoiooaaGreatDoor
open Go.RowKit
set_option linter.unusedSimpArgs false
set_option linter.unusedVariables false
def Qm (l:List Nd):Nat->Nat->Nat
 |0,_=>0
 |f+1,i=>((Ab l i).map (Qm l f)).foldl max 0+1
def EB (l:List Nd) (i:Nat):Nat:=Qm l (i+1) i
theorem Kj {l:List Nd} (h:AR l):∀(f g i:Nat),i<f->i<g->Qm l f i=Qm l g i
 |0,_,_,hf,_=>by omega
 |_,0,_,_,hg=>by omega
 |f+1,g+1,i,hf,hg=>by
  simp only[Qm];congr 2;refine List.map_congr_left fun k hk=> ?_
  have:=h i k hk;exact Kj h f g k (by omega) (by omega)
theorem Ru {l:List Nd} (h:AR l) (i:Nat):EB l i=((Ab l i).map (EB l)).foldl max 0+1:=by
 show Qm l (i+1) i=_;simp only[Qm];congr 2;refine List.map_congr_left fun k hk=> ?_
 have:=h i k hk;exact Kj h i (k+1) k (by omega) (by omega)
theorem GL (c:Nat):∀(l:List Nat) (a:Nat),a<=c->(∀x∈l,x<=c)->l.foldl max a<=c
 |[],a,h,_=>h
 |x::l,a,h,k=>GL c l (max a x) (Nat.max_le.2 ⟨h,k x List.mem_cons_self⟩) fun y hy=>k y (List.mem_cons_of_mem _ hy)
theorem N3 {l:List Nd} (h:AR l):∀i,EB l i<=i+1:=by
 intro i;induction i using Nat.strongRecOn with
 |_ i ih=>
  rw[Ru h]
  have:((Ab l i).map (EB l)).foldl max 0<=i:=GL i _ 0 (Nat.zero_le _) fun x hx=>by
   obtain⟨k,hk,rfl⟩:=List.mem_map.1 hx;have:=h i k hk;have:=ih k this;omega
  omega
def JE (t:Tr):Nat:=if AA t then EB t.nodes t.root.toNat else 0
def JF (t:Tr):Bool:=decide (t.nodes.length<=1024)&&AA t&&decide (JE t<=32)
theorem Wr {t:Tr} (h:AA t=false):JE t=0:=by unfold JE;rw[if_neg (by simp[h])]
theorem UB {t:Tr} (h:AA t=true):JE t=EB t.nodes t.root.toNat:=by unfold JE;rw[if_pos h]
def dpL (l:List Nd) (n i j:Nat):List Nat:=(List.range n).map fun k=>if k<i then EB l k else if k=i then(((Ab l i).take j).map (EB l)).foldl max 0 else 0
def IQ (l:List Nat):List Value:=l.map fun k:Nat=>Value.int .i64 (k:Int)
theorem Fg (l:List Nat):(IQ l).length=l.length:=by simp[IQ]
theorem Gk (l:List Nd) (n i j:Nat):(dpL l n i j).length=n:=by simp[dpL]
theorem GM (l:List Nd) (n i j k:Nat) (hk:k<n):(IQ (dpL l n i j))[k]?=some (.int .i64 ((if k<i then EB l k else if k=i then(((Ab l i).take j).map (EB l)).foldl max 0 else 0:Nat):Int)):=by
 simp[IQ,dpL,hk]
theorem Ws (l:List Nd) (n i j:Nat) (hj:j<(Ab l i).length) (hi:i<n):(IQ (dpL l n i j)).set i (.int .i64 ((max ((((Ab l i).take j).map (EB l)).foldl max 0) (EB l (Ab l i)[j]):Nat):Int))=IQ (dpL l n i (j+1)):=by
 apply List.ext_getElem?;intro k;by_cases hk:k<n
 ·rw[GM l n i (j+1) k hk];by_cases e:k=i
  ·subst e;rw[List.getElem?_set_self (by rw[Fg,Gk];exact hk),if_neg (by omega),if_pos rfl,List.take_succ_eq_append_getElem hj,List.map_append,List.foldl_append];rfl
  ·rw[List.getElem?_set_ne (by omega),GM l n i j k hk,if_neg e,if_neg e]
 ·rw[List.getElem?_eq_none (by rw[List.length_set,Fg,Gk];omega),List.getElem?_eq_none (by rw[Fg,Gk];omega)]
theorem Wt (l:List Nd) (h:AR l) (n i j:Nat) (hj:(Ab l i).length<=j) (hi:i<n):(IQ (dpL l n i j)).set i (.int .i64 (((((Ab l i).take j).map (EB l)).foldl max 0+1:Nat):Int))=IQ (dpL l n (i+1) 0):=by
 apply List.ext_getElem?;intro k;by_cases hk:k<n
 ·rw[GM l n (i+1) 0 k hk];by_cases e:k=i
  ·subst e;rw[List.getElem?_set_self (by rw[Fg,Gk];exact hk),if_pos (by omega),List.take_of_length_le hj,Ru h]
  ·rw[List.getElem?_set_ne (by omega),GM l n i j k hk,if_neg e];by_cases h1:k<i
   ·rw[if_pos h1,if_pos (by omega)]
   ·rw[if_neg h1,if_neg (by omega)];split <;> simp
 ·rw[List.getElem?_eq_none (by rw[List.length_set,Fg,Gk];omega),List.getElem?_eq_none (by rw[Fg,Gk];omega)]
theorem SL (l:List Nd) (n:Nat):IQ (dpL l n 0 0)=List.replicate n (.int .i64 0):=by
 apply List.ext_getElem?;intro k;by_cases hk:k<n
 ·rw[GM l n 0 0 k hk,if_neg (by omega)];simp only[List.take_zero,List.map_nil,List.foldl_nil,List.getElem?_replicate,hk,if_true];split <;> rfl
 ·rw[List.getElem?_eq_none (by rw[Fg,Gk];omega),List.getElem?_eq_none (by simp;omega)]
theorem UC (l:List Nd) (h:AR l) (i j:Nat):(((Ab l i).take j).map (EB l)).foldl max 0<=i:=by
 refine GL i _ 0 (Nat.zero_le _) fun x hx=> ?_
 obtain⟨k,hk,rfl⟩:=List.mem_map.1 hx;have h1:=h i k (List.mem_of_mem_take hk);have:=N3 h k;omega
theorem UD (a b:Nat):((max a b:Nat):Int)=max (a:Int) (b:Int):=by
 rcases Nat.le_total a b with h|h
 ·rw[Nat.max_eq_right h,Int.max_eq_right (by omega)]
 ·rw[Nat.max_eq_left h,Int.max_eq_left (by omega)]
theorem Qn {w w':World} {B g c n:Nat} {e:TypeId} {size:Nat} {xs:List Value} (h:w.ownsRow B e size (.slice (some ⟨g,0,none⟩) n c) n xs) (hb:Below w.heap.size w w'):w'.ownsRow B e size (.slice (some ⟨g,0,none⟩) n c) n xs:=
 Au h fun k hk=>hb.block k (Aq h k hk).2
theorem Wu (t:Tr):JE t<=t.nodes.length:=by
 unfold JE;split
 ·rename_i h
  have hr:=(AM t).1 h;have h1:=N3 (AE hr) t.root.toNat;have h2:=hr.1;omega
 ·omega
set_option maxRecDepth 100000 in
set_option maxHeartbeats 3200000 in
theorem SM (A:Option Addr) (c:Nat) (ls:List Ln) (root:Int) (S:Nat->Prop) (w:World) (hT:ndL.row w S A ls) (hl:ls.length<=4294967296) (ht:CntTab w):
  Calls Tryz.prog 29 #[.agg #[.slice A ls.length c,.int .i64 root]] w fun e w'=>e=.returned (.int .i64 (JE ⟨ls.map Ln.nd,root⟩:Nat))/\Below w.heap.size w w':=by
 obtain⟨i0,hi,hz0,hz1,hz2⟩:=info_parts DA;have HT:=qd hT;have HN:=qd ht;clear hT ht;go_enter Tryz.func29,Tryz.ntmps29
 have HB0:=qd (bx1 w (.cells #[.slice A ls.length c,.int .i64 root] 24));have HK0:=qd (Ad w (.cells #[.slice A ls.length c,.int .i64 root] 24));go_wp2_with fail
 refine(Dl A c ls root S _ (HT.out.below HB0.out) (by omega) (HN.out.below HB0.out)).mono ?_;rintro e w1 ⟨rfl,hb1⟩;have HB1:=qd (Below.step HB0.out hb1);have HK1:=qd (Ae hb1 HK0.out);clear hb1;obtain⟨k0,k1,_,_⟩:=Bd HK1.out;cases hr:AA ⟨ls.map Ln.nd,root⟩
 ·go_wp2_with fail
  go_ret;exact⟨by rw[show JE ⟨ls.map Ln.nd,root⟩=0 from Wr hr];rfl,HB1.out⟩
 ·have HDT:=qd (UB hr);have HR:=qd ((AM _).1 hr);have HAH:=qd (AE HR.out);clear hr;have F1:=qd (show i0.bytes*ls.length<=281474976710656/\ls.length<=maxLen from⟨by rw[hz2];omega,by unfold maxLen;omega⟩)
  go_wp2_with (first
   |(at_make;refine wpList_make_full _ rfl _ _ 40 rfl w1.heap.size 3 i0 _ 1 Tryz.underlying40 hi hz0 hz1 .i64 .i64 _ _ ls.length rfl rfl rfl rfl F1.out.1 F1.out.2 (Nat.le_refl _) ?_;intro w2 hown2 hgrow2;have HO2:=qd hown2;have HB2:=qd (show Below w1.heap.size w1 w2 from(Below.refl _ _).grown hgrow2 (Nat.le_refl _) (fun k e=>by cases e));clear hown2 hgrow2;have HK2:=qd (Ae HB2.out HK1.out);obtain⟨q0,q1,_,_⟩:=Bd HK2.out)
   |fail)
  have HZ1:=qd (show w.heap.size<w1.heap.size from(Array.getElem?_eq_some_iff.1 HK1.out).1);generalize hZ:w1.heap.size=Z1 at *;have HZE:=qd hZ;clear hZ
  have HO2':=qd (show w2.ownsRow Z1 3 1 (.slice (some ⟨Z1,0,none⟩) ls.length ls.length) ls.length (IQ (dpL (ls.map Ln.nd) ls.length 0 0))from by
   have h:=HO2.out;rw[SL];rw[show(Value.int IntKind.i64 0).cells = #[.int .i64 0]from rfl,Nat.mul_one,toList_madeCells_one]at h;exact h)
  clear HO2 q0 q1;go_loopw [18] (fun i wr=>∃k:Nat,k<=ls.length/\i=.int .i64 k/\Hid (wr.ownsRow Z1 3 1 (.slice (some ⟨Z1,0,none⟩) ls.length ls.length) ls.length (IQ (dpL (ls.map Ln.nd) ls.length k 0)))/\Hid (Below Z1 w1 wr)) (fun i _=>ls.length-(intOf i).toNat)
  case atStart=>exact⟨0,Nat.zero_le _,rfl,HO2',HB2⟩
  case round=>
   clear HO2' HB2 HK2;obtain⟨wo,rfl⟩:∃wo:World,wo=wr:=⟨_,rfl⟩;obtain⟨k,hk,rfl,HO,HB⟩:=hrel;have HBW:=qd (show Below w.heap.size w wo from HB1.out.trans (HB.out.mono (Nat.le_of_lt HZ1.out)));have HKW:=qd ((HB.out.block w.heap.size (by have:=HZ1.out;exact this)).trans HK1.out);by_cases hlt:k<ls.length
   ·obtain⟨b,off,rfl,_,_,x0,x1,x2,x3,x4,x5,x6,x7,x8⟩:=D3 (HT.out.agree (AF HBW.out)) k hlt;have i1:(k:Int)<(ls.length:Int):=by omega
    have HKD:=qd (show ∀w',Below w.heap.size w w'->Az.row w' S ls[k].A ls[k].nd.kids from fun w' hb=>EX (HT.out.agree (AF hb)) k hlt);have HKP:=qd (show ∀z∈ls[k].nd.kids,0<=z/\z<(k:Int)from fun z hz=>Bw HR.out (i:=k) (n:=ls[k].nd) (by simp[hlt]) hz);have HKM:=qd (show Ab (ls.map Ln.nd) k=ls[k].nd.kids.map Int.toNat by simp[Ab,hlt]);have hkl:ls[k].nd.kids.length<=k:=C7 HR.out (i:=k) (n:=ls[k].nd) (by simp[hlt]);have HZO:=qd (show Z1<wo.heap.size from(Aq HO.out Z1 rfl).2);generalize ls[k]=ln at *;obtain⟨nd,lA,lc⟩:=ln;simp only at x0 x1 x2 x3 x4 x5 x6 x7 x8 HKD HKP HKM hkl;go_wp2_with fail
    clear x0 x1 x2 x3 x4 x5 x6 x7 x8;have HNB:=qd (Ad wo (.cells #[.int .u8 nd.kind,.int .u64 nd.s0,.int .u64 nd.s1,.int .u64 nd.s2,.int .u64 nd.s3,.string nd.text,.int .i64 nd.mn,.int .i64 nd.mx,.slice lA nd.kids.length lc] 42));have HO0:=qd (Qn HO.out (bx1 wo (.cells #[.int .u8 nd.kind,.int .u64 nd.s0,.int .u64 nd.s1,.int .u64 nd.s2,.int .u64 nd.s3,.string nd.text,.int .i64 nd.mn,.int .i64 nd.mx,.slice lA nd.kids.length lc] 42)));have HBO:=qd (HB.out.trans ((bx1 wo (.cells #[.int .u8 nd.kind,.int .u64 nd.s0,.int .u64 nd.s1,.int .u64 nd.s2,.int .u64 nd.s3,.string nd.text,.int .i64 nd.mn,.int .i64 nd.mx,.slice lA nd.kids.length lc] 42)).mono (Nat.le_of_lt HZO.out)));have HSO:=qd (show wo.heap.size<(wo.alloc (.cells #[.int .u8 nd.kind,.int .u64 nd.s0,.int .u64 nd.s1,.int .u64 nd.s2,.int .u64 nd.s3,.string nd.text,.int .i64 nd.mn,.int .i64 nd.mx,.slice lA nd.kids.length lc] 42)).heap.size by simp);generalize (wo.alloc (.cells #[.int .u8 nd.kind,.int .u64 nd.s0,.int .u64 nd.s1,.int .u64 nd.s2,.int .u64 nd.s3,.string nd.text,.int .i64 nd.mn,.int .i64 nd.mx,.slice lA nd.kids.length lc] 42))=W0 at *;go_loopw [26] (fun i wx=>∃j:Nat,j<=nd.kids.length/\i=.int .i64 j/\Hid (wx.ownsRow Z1 3 1 (.slice (some ⟨Z1,0,none⟩) ls.length ls.length) ls.length (IQ (dpL (ls.map Ln.nd) ls.length k j)))/\Hid (wx.heap[wo.heap.size]?=some (.cells #[.int .u8 nd.kind,.int .u64 nd.s0,.int .u64 nd.s1,.int .u64 nd.s2,.int .u64 nd.s3,.string nd.text,.int .i64 nd.mn,.int .i64 nd.mx,.slice lA nd.kids.length lc] 42 (0,0)))/\Hid (Below Z1 w1 wx)) (fun i _=>nd.kids.length-(intOf i).toNat)
    case atStart=>exact⟨0,Nat.zero_le _,rfl,HO0,HNB,HBO⟩
    case round=>
     clear HO0 HNB HBO;obtain⟨wx,rfl⟩:∃wx:World,wx=wr:=⟨_,rfl⟩;obtain⟨j,hj,rfl,HOX,HNX,HBX⟩:=hrel;have HBWX:=qd (show Below w.heap.size w wx from HB1.out.trans (HBX.out.mono (Nat.le_of_lt HZ1.out)));obtain⟨_,_,_,_,_,_,_,_,y8,_⟩:=BP HNX.out;have cf:=World.ownsRow.frozenAt HOX.out k;have hck:=AX HOX.out k hlt (GM (ls.map Ln.nd) ls.length k j k hlt);rw[if_neg (Nat.lt_irrefl k),if_pos rfl]at hck;have hmk:=UC (ls.map Ln.nd) HAH.out k j;have i4:(0:Int)<=(k:Int):=by omega
     by_cases hjl:j<nd.kids.length
     ·obtain⟨cb,co,rfl,_,hcl,v0⟩:=E9 (HKD.out _ HBWX.out) j hjl;have hz:=HKP.out nd.kids[j] (List.getElem_mem hjl);obtain⟨z,hzk⟩:=Int.eq_ofNat_of_zero_le hz.1;have HKJ:=qd (show ∃h:j<(Ab (ls.map Ln.nd) k).length,(Ab (ls.map Ln.nd) k)[j]=z from⟨by rw[HKM.out];simpa using hjl,by simp[HKM.out,hzk]⟩);rw[hzk]at v0 hz;clear hzk;have hzi:z<k:=by omega
      have hcz:=AX HOX.out z (by omega) (GM (ls.map Ln.nd) ls.length k j z (by omega));rw[if_pos hzi]at hcz;have hdz:=N3 HAH.out z
      have HNEW:=qd (show(wx.setCell ⟨Z1,k,none⟩ (.int .i64 ((max ((((Ab (ls.map Ln.nd) k).take j).map (EB (ls.map Ln.nd))).foldl max 0) (EB (ls.map Ln.nd) z):Nat):Int))).ownsRow Z1 3 1 (.slice (some ⟨Z1,0,none⟩) ls.length ls.length) ls.length (IQ (dpL (ls.map Ln.nd) ls.length k (j+1)))from by
       obtain⟨h1,h2⟩:=HKJ.out;have h:=(World.ownsRow.stored HOX.out k (.int .i64 ((max ((((Ab (ls.map Ln.nd) k).take j).map (EB (ls.map Ln.nd))).foldl max 0) (EB (ls.map Ln.nd) z):Nat):Int))).1;rw[<-h2]at h ⊢;rwa [Ws (ls.map Ln.nd) ls.length k j h1 hlt]at h)
      generalize (((Ab (ls.map Ln.nd) k).take j).map (EB (ls.map Ln.nd))).foldl max 0=M at *;generalize EB (ls.map Ln.nd) z=D at *;have j1:(j:Int)<(nd.kids.length:Int):=by omega
      have j2:(0:Int)<=(j:Int):=by omega
      have z1:(z:Int)<(ls.length:Int):=by omega
      have z2:(0:Int)<=(z:Int):=by omega
      go_upto_region 10 with(fail)
      go_still_tail 12,(by kernel_rfl)
      change wpList _ _ _ _ _ wx.drew;have cf2:wx.drew.frozen? ⟨Z1,k,none⟩=false:=cf;have hck2:wx.drew.cell? ⟨Z1,k,none⟩=some (.int .i64 (M:Int)):=hck;have HNEW2:=qd (UD M D▸HNEW.out);clear hck hcz cf HNEW;go_wp2_with fail
      have hne:wo.heap.size≠Z1:=by have:=HZO.out;omega
      exact⟨⟨j+1,by omega,by go_num,qd (show((wx.setCell ⟨Z1,k,none⟩ (.int .i64 (max (M:Int) (D:Int)))).drew).ownsRow _ _ _ _ _ _ from HNEW2.out),qd ((Below.heap_setCell wx ⟨Z1,k,none⟩ _ _ hne).trans HNX.out),qd ((HBX.out.setCell (p:=⟨Z1,k,none⟩) (Nat.le_refl _) _).drew)⟩,by simp only[intOf];omega⟩
     ·have j1:¬(j:Int)<(nd.kids.length:Int):=by omega
      have HNEW:=qd (show(wx.setCell ⟨Z1,k,none⟩ (.int .i64 (((((Ab (ls.map Ln.nd) k).take j).map (EB (ls.map Ln.nd))).foldl max 0+1:Nat):Int))).ownsRow Z1 3 1 (.slice (some ⟨Z1,0,none⟩) ls.length ls.length) ls.length (IQ (dpL (ls.map Ln.nd) ls.length (k+1) 0))from by
       have h:=(World.ownsRow.stored HOX.out k (.int .i64 (((((Ab (ls.map Ln.nd) k).take j).map (EB (ls.map Ln.nd))).foldl max 0+1:Nat):Int))).1;rwa [Wt (ls.map Ln.nd) HAH.out ls.length k j (by rw[HKM.out];simp;omega) hlt]at h)
      generalize (((Ab (ls.map Ln.nd) k).take j).map (EB (ls.map Ln.nd))).foldl max 0=M at *;have e1:IntKind.i64.wrap ((M:Int)+1)=(M:Int)+1:=IntWalk.i64_in _ (by omega);go_wp2_with fail
      refine⟨⟨k+1,by omega,by go_num,HNEW,qd (HBX.out.setCell (p:=⟨Z1,k,none⟩) (Nat.le_refl _) _)⟩,by simp only[intOf];omega⟩
   ·have i1:¬(k:Int)<(ls.length:Int):=by omega
    obtain rfl:k=ls.length:=by omega
    have hroot:=HR.out.1;simp only[List.length_map]at hroot;obtain⟨ro,rfl⟩:=Int.eq_ofNat_of_zero_le hroot.1;have hro:ro<ls.length:=by omega
    obtain⟨k0,k1,_,_⟩:=Bd HKW.out;have hce:=AX HO.out ro hro (GM (ls.map Ln.nd) ls.length ls.length 0 ro hro);rw[if_pos hro]at hce;have i2:(ro:Int)<(ls.length:Int):=by omega
    have i3:(0:Int)<=(ro:Int):=by omega
    have HDT2:=qd (show JE ⟨ls.map Ln.nd,(ro:Int)⟩=EB (ls.map Ln.nd) ro from HDT.out);generalize EB (ls.map Ln.nd) ro=dd at *;go_wp2_with fail
    go_ret;exact⟨by rw[HDT2.out];rfl,HBW.out⟩
set_option maxRecDepth 100000 in
set_option maxHeartbeats 1600000 in
theorem OJ (t:Lt) (S:Nat->Prop) (w:World) (hT:t.inn w S) (hl:t.ls.length<=4294967296) (ht:CntTab w):
  Calls Tryz.prog 9 #[t.val] w fun e w'=>e=.returned (.bool (JF t.tr))/\Below w.heap.size w w':=by
 obtain⟨A,c,ls,root⟩:=t;simp only at hl;have HT:=qd hT.2;have HN:=qd ht
 have HMT:=qd (show JF (Lt.tr ⟨A,c,ls,root⟩)=(decide (ls.length<=1024)&&AA ⟨ls.map Ln.nd,root⟩&&decide (JE ⟨ls.map Ln.nd,root⟩<=32))from by
  show(decide ((ls.map Ln.nd).length<=1024)&&_&&_)=_;rw[List.length_map];rfl)
 clear hT ht;show Calls _ _ _ _ fun e w'=>e=.returned (.bool (JF (Lt.tr ⟨A,c,ls,root⟩)))/\Below w.heap.size w w'
 rw[HMT.out];clear HMT;go_enter Tryz.func9,Tryz.ntmps9
 have HB0:=qd (bx1 w (.cells #[.slice A ls.length c,.int .i64 root] 24));have HK0:=qd (Ad w (.cells #[.slice A ls.length c,.int .i64 root] 24));by_cases h1:ls.length<=1024
 ·have h1':(ls.length:Int)<=1024:=by omega
  rw[decide_eq_true h1,Bool.true_and];have HRR:=qd (show ∀w',Below w.heap.size w w'->Calls Tryz.prog 17 #[.agg #[.slice A ls.length c,.int .i64 root]] w' fun e w''=>e=.returned (.bool (AA ⟨ls.map Ln.nd,root⟩))/\Below w'.heap.size w' w'' from fun w' hb=>Dl A c ls root S w' (HT.out.below hb) (by omega) (HN.out.below hb));have HDD:=qd (show ∀w',Below w.heap.size w w'->Calls Tryz.prog 29 #[.agg #[.slice A ls.length c,.int .i64 root]] w' fun e w''=>e=.returned (.int .i64 (JE ⟨ls.map Ln.nd,root⟩:Nat))/\Below w'.heap.size w' w'' from fun w' hb=>SM A c ls root S w' (HT.out.below hb) hl (HN.out.below hb));have HDL:=qd (Wu ⟨ls.map Ln.nd,root⟩);clear h1;generalize JE ⟨ls.map Ln.nd,root⟩=dp at *;cases hr:AA ⟨ls.map Ln.nd,root⟩
  ·rw[hr]at HRR;clear hr
   go_wp2_with (first
    |(go_at_call 17;refine(HRR.out _ HB0.out).mono ?_;rintro e w1 ⟨rfl,hb⟩;have HB1:=qd (Below.step HB0.out hb);clear hb)
    |fail)
   go_ret;exact⟨rfl,HB1.out⟩
  ·rw[hr]at HRR;clear hr;by_cases h2:dp<=32
   ·have h2':(dp:Int)<=32:=by omega
    rw[decide_eq_true h2];clear h2
    go_wp2_with (first
     |(go_at_call 17;refine(HRR.out _ HB0.out).mono ?_;rintro e w1 ⟨rfl,hb⟩;have HB1:=qd (Below.step HB0.out hb);have HK1:=qd (Ae hb HK0.out);clear hb;obtain⟨k0,k1,_,_⟩:=Bd HK1.out)
     |(go_at_call 29;refine(HDD.out _ HB1.out).mono ?_;rintro e w2 ⟨rfl,hb⟩;have HB2:=qd (Below.step HB1.out hb);clear hb)
     |fail)
    go_ret;exact⟨rfl,HB2.out⟩
   ·have h2':¬(dp:Int)<=32:=by omega
    rw[decide_eq_false h2];clear h2
    go_wp2_with (first
     |(go_at_call 17;refine(HRR.out _ HB0.out).mono ?_;rintro e w1 ⟨rfl,hb⟩;have HB1:=qd (Below.step HB0.out hb);have HK1:=qd (Ae hb HK0.out);clear hb;obtain⟨k0,k1,_,_⟩:=Bd HK1.out)
     |(go_at_call 29;refine(HDD.out _ HB1.out).mono ?_;rintro e w2 ⟨rfl,hb⟩;have HB2:=qd (Below.step HB1.out hb);clear hb)
     |fail)
    go_ret;exact⟨Aj (by simp;omega),HB2.out⟩
 ·have h1':¬(ls.length:Int)<=1024:=by omega
  rw[decide_eq_false h1,Bool.false_and,Bool.false_and];clear h1;go_wp2_with fail
  go_ret;exact⟨rfl,HB0.out⟩
end Go.Proofs.YtdnochjajoiooaaGreatDoor
