/- Depth, Size and May of trees: plain, and the contracts. What a text denotes, plain: the grammar, the names, the expression; what is so of them. -/
import Derived.Test.YtpfokabdpmjobaaGreatDoorDa
import Derived.Test.YtpfokabdpmjobaaGreatDoorLa
import Derived.Test.YtpfokabdpmjobaaGreatDoorHt
import Derived.Test.YtpfokabdpmjobaaGreatDoorDw
import Derived.Test.YtpfokabdpmjobaaGreatDoorDj
import Derived.Test.YtpfokabdpmjobaaGreatDoorDn
import Derived.StillTailTactics
import Derived.Test.YtpfokabdpmjobaaGreatDoorJh
import Derived.Test.YtpfokabdpmjobaaGreatDoorAv
namespace Go.Proofs.YtpfokabdpmjobaaGreatDoor
open Go.RowKit
set_option linter.unusedSimpArgs false
set_option linter.unusedVariables false
def depF (l:List Nd):Nat→Nat→Nat
 |0,_=>0
 |f+1,i=>((kidsAt l i).map (depF l f)).foldl max 0+1
def depN (l:List Nd) (i:Nat):Nat:=depF l (i+1) i
theorem depF_stable {l:List Nd} (h:Ahead l):∀(f g i:Nat),i<f→i<g→depF l f i=depF l g i
 |0,_,_,hf,_=>by omega
 |_,0,_,_,hg=>by omega
 |f+1,g+1,i,hf,hg=>by
  simp only[depF]
  congr 2
  refine List.map_congr_left fun k hk=> ?_
  have:=h i k hk
  exact depF_stable h f g k (by omega) (by omega)
theorem depN_eq {l:List Nd} (h:Ahead l) (i:Nat):depN l i=((kidsAt l i).map (depN l)).foldl max 0+1:=by
 show depF l (i+1) i=_
 simp only[depF]
 congr 2
 refine List.map_congr_left fun k hk=> ?_
 have:=h i k hk
 exact depF_stable h i (k+1) k (by omega) (by omega)
theorem fold_max_le (c:Nat):∀(l:List Nat) (a:Nat),a≤c→(∀x∈l,x≤c)→l.foldl max a≤c
 |[],a,h,_=>h
 |x::l,a,h,k=>fold_max_le c l (max a x) (Nat.max_le.2 ⟨h,k x List.mem_cons_self⟩) fun y hy=>k y (List.mem_cons_of_mem _ hy)
theorem depN_le {l:List Nd} (h:Ahead l):∀i,depN l i≤i+1:=by
 intro i
 induction i using Nat.strongRecOn with
 |_ i ih=>
  rw[depN_eq h]
  have:((kidsAt l i).map (depN l)).foldl max 0≤i:=fold_max_le i _ 0 (Nat.zero_le _) fun x hx=>by
   obtain⟨k,hk,rfl⟩:=List.mem_map.1 hx
   have:=h i k hk;have:=ih k this
   omega
  omega
def depT (t:Tr):Nat:=if rightT t then depN t.nodes t.root.toNat else 0
def mayT (t:Tr):Bool:=decide (t.nodes.length≤1024)&&rightT t&&decide (depT t≤32)
theorem depT_no {t:Tr} (h:rightT t=false):depT t=0:=by unfold depT;rw[if_neg (by simp[h])]
theorem depT_yes {t:Tr} (h:rightT t=true):depT t=depN t.nodes t.root.toNat:=by unfold depT;rw[if_pos h]
def dpL (l:List Nd) (n i j:Nat):List Nat:=(List.range n).map fun k=>if k<i then depN l k else if k=i then(((kidsAt l i).take j).map (depN l)).foldl max 0 else 0
def natV (l:List Nat):List Value:=l.map fun k:Nat=>Value.int .i64 (k:Int)
theorem natV_len (l:List Nat):(natV l).length=l.length:=by simp[natV]
theorem dpL_len (l:List Nd) (n i j:Nat):(dpL l n i j).length=n:=by simp[dpL]
theorem dpL_at (l:List Nd) (n i j k:Nat) (hk:k<n):(natV (dpL l n i j))[k]?=some (.int .i64 ((if k<i then depN l k else if k=i then(((kidsAt l i).take j).map (depN l)).foldl max 0 else 0:Nat):Int)):=by
 simp[natV,dpL,hk]
theorem dpL_kid (l:List Nd) (n i j:Nat) (hj:j<(kidsAt l i).length) (hi:i<n):(natV (dpL l n i j)).set i (.int .i64 ((max ((((kidsAt l i).take j).map (depN l)).foldl max 0) (depN l (kidsAt l i)[j]):Nat):Int))=natV (dpL l n i (j+1)):=by
 apply List.ext_getElem?
 intro k
 by_cases hk:k<n
 ·rw[dpL_at l n i (j+1) k hk]
  by_cases e:k=i
  ·subst e
   rw[List.getElem?_set_self (by rw[natV_len,dpL_len];exact hk),if_neg (by omega),if_pos rfl,List.take_succ_eq_append_getElem hj,List.map_append,List.foldl_append]
   rfl
  ·rw[List.getElem?_set_ne (by omega),dpL_at l n i j k hk,if_neg e,if_neg e]
 ·rw[List.getElem?_eq_none (by rw[List.length_set,natV_len,dpL_len];omega),List.getElem?_eq_none (by rw[natV_len,dpL_len];omega)]
theorem dpL_end (l:List Nd) (h:Ahead l) (n i j:Nat) (hj:(kidsAt l i).length≤j) (hi:i<n):(natV (dpL l n i j)).set i (.int .i64 (((((kidsAt l i).take j).map (depN l)).foldl max 0+1:Nat):Int))=natV (dpL l n (i+1) 0):=by
 apply List.ext_getElem?
 intro k
 by_cases hk:k<n
 ·rw[dpL_at l n (i+1) 0 k hk]
  by_cases e:k=i
  ·subst e
   rw[List.getElem?_set_self (by rw[natV_len,dpL_len];exact hk),if_pos (by omega),List.take_of_length_le hj,depN_eq h]
  ·rw[List.getElem?_set_ne (by omega),dpL_at l n i j k hk,if_neg e]
   by_cases h1:k<i
   ·rw[if_pos h1,if_pos (by omega)]
   ·rw[if_neg h1,if_neg (by omega)]
    split <;> simp
 ·rw[List.getElem?_eq_none (by rw[List.length_set,natV_len,dpL_len];omega),List.getElem?_eq_none (by rw[natV_len,dpL_len];omega)]
theorem dpL_start (l:List Nd) (n:Nat):natV (dpL l n 0 0)=List.replicate n (.int .i64 0):=by
 apply List.ext_getElem?
 intro k
 by_cases hk:k<n
 ·rw[dpL_at l n 0 0 k hk,if_neg (by omega)]
  simp only[List.take_zero,List.map_nil,List.foldl_nil,List.getElem?_replicate,hk,if_true]
  split <;> rfl
 ·rw[List.getElem?_eq_none (by rw[natV_len,dpL_len];omega),List.getElem?_eq_none (by simp;omega)]
theorem foldl_le (l:List Nd) (h:Ahead l) (i j:Nat):(((kidsAt l i).take j).map (depN l)).foldl max 0≤i:=by
 refine fold_max_le i _ 0 (Nat.zero_le _) fun x hx=> ?_
 obtain⟨k,hk,rfl⟩:=List.mem_map.1 hx
 have h1:=h i k (List.mem_of_mem_take hk);have:=depN_le h k
 omega
theorem max_cast (a b:Nat):((max a b:Nat):Int)=max (a:Int) (b:Int):=by
 rcases Nat.le_total a b with h|h
 ·rw[Nat.max_eq_right h,Int.max_eq_right (by omega)]
 ·rw[Nat.max_eq_left h,Int.max_eq_left (by omega)]
theorem row_belowI {w w':World} {B g c n:Nat} {e:TypeId} {size:Nat} {xs:List Value} (h:w.ownsRow B e size (.slice (some ⟨g,0,none⟩) n c) n xs) (hb:Below w.heap.size w w'):w'.ownsRow B e size (.slice (some ⟨g,0,none⟩) n c) n xs:=
 own_agree h fun k hk=>hb.block k (own_blk h k hk).2
theorem depT_le (t:Tr):depT t≤t.nodes.length:=by
 unfold depT
 split
 ·rename_i h
  have hr:=(rightT_iff t).1 h
  have h1:=depN_le (rightP_ahead hr) t.root.toNat
  have h2:=hr.1
  omega
 ·omega
set_option maxRecDepth 100000 in
set_option maxHeartbeats 3200000 in
theorem depth_any (A:Option Addr) (c:Nat) (ls:List Ln) (root:Int) (S:Nat→Prop) (w:World) (hT:ndL.row w S A ls) (hl:ls.length≤4294967296) (ht:CntTab w):
  Calls Tryz.prog 54 #[.agg #[.slice A ls.length c,.int .i64 root]] w fun e w'=>e=.returned (.int .i64 (depT ⟨ls.map Ln.nd,root⟩:Nat))∧Below w.heap.size w w':=by
 obtain⟨i0,hi,hz0,hz1,hz2⟩:=info_parts infoInt
 have HT:=Lib.hid hT;have HN:=Lib.hid ht
 clear hT ht
 go_enter Tryz.func54,Tryz.ntmps54
 have HB0:=Lib.hid (bx1 w (.cells #[.slice A ls.length c,.int .i64 root] 40))
 have HK0:=Lib.hid (bx_new w (.cells #[.slice A ls.length c,.int .i64 root] 40))
 go_wp2_with fail
 refine(right_any A c ls root S _ (HT.out.below HB0.out) (by omega) (HN.out.below HB0.out)).mono ?_
 rintro e w1 ⟨rfl,hb1⟩
 have HB1:=Lib.hid (Below.step HB0.out hb1);have HK1:=Lib.hid (bx_kept hb1 HK0.out)
 clear hb1
 obtain⟨k0,k1,_,_⟩:=blk2 HK1.out
 cases hr:rightT ⟨ls.map Ln.nd,root⟩
 ·go_wp2_with fail
  go_ret
  exact⟨by rw[show depT ⟨ls.map Ln.nd,root⟩=0 from depT_no hr];rfl,HB1.out⟩
 ·have HDT:=Lib.hid (depT_yes hr)
  have HR:=Lib.hid ((rightT_iff _).1 hr)
  have HAH:=Lib.hid (rightP_ahead HR.out)
  clear hr
  have F1:=Lib.hid (show i0.bytes*ls.length≤281474976710656∧ls.length≤maxLen from⟨by rw[hz2];omega,by unfold maxLen;omega⟩)
  go_wp2_with (first
   |(at_make;refine wpList_make_full _ rfl _ _ 52 rfl w1.heap.size 3 i0 _ 1 Tryz.underlying52 hi hz0 hz1 .i64 .i64 _ _ ls.length rfl rfl rfl rfl F1.out.1 F1.out.2 (Nat.le_refl _) ?_;intro w2 hown2 hgrow2;have HO2:=Lib.hid hown2;have HB2:=Lib.hid (show Below w1.heap.size w1 w2 from(Below.refl _ _).grown hgrow2 (Nat.le_refl _) (fun k e=>by cases e));clear hown2 hgrow2;have HK2:=Lib.hid (bx_kept HB2.out HK1.out);obtain⟨q0,q1,_,_⟩:=blk2 HK2.out)
   |fail)
  have HZ1:=Lib.hid (show w.heap.size<w1.heap.size from(Array.getElem?_eq_some_iff.1 HK1.out).1)
  generalize hZ:w1.heap.size=Z1 at *
  have HZE:=Lib.hid hZ;clear hZ
  have HO2':=Lib.hid (show w2.ownsRow Z1 3 1 (.slice (some ⟨Z1,0,none⟩) ls.length ls.length) ls.length (natV (dpL (ls.map Ln.nd) ls.length 0 0))from by
   have h:=HO2.out
   rw[dpL_start]
   rw[show(Value.int IntKind.i64 0).cells = #[.int .i64 0]from rfl,Nat.mul_one,toList_madeCells_one]at h
   exact h)
  clear HO2 q0 q1
  go_loopw [18] (fun i wr=>∃k:Nat,k≤ls.length∧i=.int .i64 k∧Hid (wr.ownsRow Z1 3 1 (.slice (some ⟨Z1,0,none⟩) ls.length ls.length) ls.length (natV (dpL (ls.map Ln.nd) ls.length k 0)))∧Hid (Below Z1 w1 wr)) (fun i _=>ls.length-(intOf i).toNat)
  case atStart=>exact⟨0,Nat.zero_le _,rfl,HO2',HB2⟩
  case round=>
   clear HO2' HB2 HK2
   obtain⟨wo,rfl⟩:∃wo:World,wo=wr:=⟨_,rfl⟩
   obtain⟨k,hk,rfl,HO,HB⟩:=hrel
   have HBW:=Lib.hid (show Below w.heap.size w wo from HB1.out.trans (HB.out.mono (Nat.le_of_lt HZ1.out)))
   have HKW:=Lib.hid ((HB.out.block w.heap.size (by have:=HZ1.out;exact this)).trans HK1.out)
   by_cases hlt:k<ls.length
   ·obtain⟨b,off,rfl,_,_,x0,x1,x2,x3,x4,x5,x6,x7,x8⟩:=ndRow (HT.out.agree (below_all HBW.out)) k hlt
    have i1:(k:Int)<(ls.length:Int):=by omega
    have HKD:=Lib.hid (show ∀w',Below w.heap.size w w'→intL.row w' S ls[k].A ls[k].nd.kids from fun w' hb=>ndSub (HT.out.agree (below_all hb)) k hlt)
    have HKP:=Lib.hid (show ∀z∈ls[k].nd.kids,0≤z∧z<(k:Int)from fun z hz=>rightP_kid HR.out (i:=k) (n:=ls[k].nd) (by simp[hlt]) hz)
    have HKM:=Lib.hid (show kidsAt (ls.map Ln.nd) k=ls[k].nd.kids.map Int.toNat by simp[kidsAt,hlt])
    have hkl:ls[k].nd.kids.length≤k:=right_kids_len HR.out (i:=k) (n:=ls[k].nd) (by simp[hlt])
    have HZO:=Lib.hid (show Z1<wo.heap.size from(own_blk HO.out Z1 rfl).2)
    generalize ls[k]=ln at *
    obtain⟨nd,lA,lc⟩:=ln
    simp only at x0 x1 x2 x3 x4 x5 x6 x7 x8 HKD HKP HKM hkl
    go_wp2_with fail
    clear x0 x1 x2 x3 x4 x5 x6 x7 x8
    have HNB:=Lib.hid (bx_new wo (.cells #[.int .u8 nd.kind,.int .u64 nd.s0,.int .u64 nd.s1,.int .u64 nd.s2,.int .u64 nd.s3,.string nd.text,.int .i64 nd.mn,.int .i64 nd.mx,.slice lA nd.kids.length lc] 54))
    have HO0:=Lib.hid (row_belowI HO.out (bx1 wo (.cells #[.int .u8 nd.kind,.int .u64 nd.s0,.int .u64 nd.s1,.int .u64 nd.s2,.int .u64 nd.s3,.string nd.text,.int .i64 nd.mn,.int .i64 nd.mx,.slice lA nd.kids.length lc] 54)))
    have HBO:=Lib.hid (HB.out.trans ((bx1 wo (.cells #[.int .u8 nd.kind,.int .u64 nd.s0,.int .u64 nd.s1,.int .u64 nd.s2,.int .u64 nd.s3,.string nd.text,.int .i64 nd.mn,.int .i64 nd.mx,.slice lA nd.kids.length lc] 54)).mono (Nat.le_of_lt HZO.out)))
    have HSO:=Lib.hid (show wo.heap.size<(wo.alloc (.cells #[.int .u8 nd.kind,.int .u64 nd.s0,.int .u64 nd.s1,.int .u64 nd.s2,.int .u64 nd.s3,.string nd.text,.int .i64 nd.mn,.int .i64 nd.mx,.slice lA nd.kids.length lc] 54)).heap.size by simp)
    generalize (wo.alloc (.cells #[.int .u8 nd.kind,.int .u64 nd.s0,.int .u64 nd.s1,.int .u64 nd.s2,.int .u64 nd.s3,.string nd.text,.int .i64 nd.mn,.int .i64 nd.mx,.slice lA nd.kids.length lc] 54))=W0 at *
    go_loopw [26] (fun i wx=>∃j:Nat,j≤nd.kids.length∧i=.int .i64 j∧Hid (wx.ownsRow Z1 3 1 (.slice (some ⟨Z1,0,none⟩) ls.length ls.length) ls.length (natV (dpL (ls.map Ln.nd) ls.length k j)))∧Hid (wx.heap[wo.heap.size]?=some (.cells #[.int .u8 nd.kind,.int .u64 nd.s0,.int .u64 nd.s1,.int .u64 nd.s2,.int .u64 nd.s3,.string nd.text,.int .i64 nd.mn,.int .i64 nd.mx,.slice lA nd.kids.length lc] 54 (0,0)))∧Hid (Below Z1 w1 wx)) (fun i _=>nd.kids.length-(intOf i).toNat)
    case atStart=>exact⟨0,Nat.zero_le _,rfl,HO0,HNB,HBO⟩
    case round=>
     clear HO0 HNB HBO
     obtain⟨wx,rfl⟩:∃wx:World,wx=wr:=⟨_,rfl⟩
     obtain⟨j,hj,rfl,HOX,HNX,HBX⟩:=hrel
     have HBWX:=Lib.hid (show Below w.heap.size w wx from HB1.out.trans (HBX.out.mono (Nat.le_of_lt HZ1.out)))
     obtain⟨_,_,_,_,_,_,_,_,y8,_⟩:=blk9 HNX.out
     have cf:=World.ownsRow.frozenAt HOX.out k
     have hck:=own_cell HOX.out k hlt (dpL_at (ls.map Ln.nd) ls.length k j k hlt)
     rw[if_neg (Nat.lt_irrefl k),if_pos rfl]at hck
     have hmk:=foldl_le (ls.map Ln.nd) HAH.out k j
     have i4:(0:Int)≤(k:Int):=by omega
     by_cases hjl:j<nd.kids.length
     ·obtain⟨cb,co,rfl,_,hcl,v0⟩:=intRow (HKD.out _ HBWX.out) j hjl
      have hz:=HKP.out nd.kids[j] (List.getElem_mem hjl)
      obtain⟨z,hzk⟩:=Int.eq_ofNat_of_zero_le hz.1
      have HKJ:=Lib.hid (show ∃h:j<(kidsAt (ls.map Ln.nd) k).length,(kidsAt (ls.map Ln.nd) k)[j]=z from⟨by rw[HKM.out];simpa using hjl,by simp[HKM.out,hzk]⟩)
      rw[hzk]at v0 hz
      clear hzk
      have hzi:z<k:=by omega
      have hcz:=own_cell HOX.out z (by omega) (dpL_at (ls.map Ln.nd) ls.length k j z (by omega))
      rw[if_pos hzi]at hcz
      have hdz:=depN_le HAH.out z
      have HNEW:=Lib.hid (show(wx.setCell ⟨Z1,k,none⟩ (.int .i64 ((max ((((kidsAt (ls.map Ln.nd) k).take j).map (depN (ls.map Ln.nd))).foldl max 0) (depN (ls.map Ln.nd) z):Nat):Int))).ownsRow Z1 3 1 (.slice (some ⟨Z1,0,none⟩) ls.length ls.length) ls.length (natV (dpL (ls.map Ln.nd) ls.length k (j+1)))from by
       obtain⟨h1,h2⟩:=HKJ.out
       have h:=(World.ownsRow.stored HOX.out k (.int .i64 ((max ((((kidsAt (ls.map Ln.nd) k).take j).map (depN (ls.map Ln.nd))).foldl max 0) (depN (ls.map Ln.nd) z):Nat):Int))).1
       rw[←h2]at h ⊢
       rwa [dpL_kid (ls.map Ln.nd) ls.length k j h1 hlt]at h)
      generalize (((kidsAt (ls.map Ln.nd) k).take j).map (depN (ls.map Ln.nd))).foldl max 0=M at *
      generalize depN (ls.map Ln.nd) z=D at *
      have j1:(j:Int)<(nd.kids.length:Int):=by omega
      have j2:(0:Int)≤(j:Int):=by omega
      have z1:(z:Int)<(ls.length:Int):=by omega
      have z2:(0:Int)≤(z:Int):=by omega
      go_upto_region 10 with(fail)
      go_still_tail 12,(by kernel_rfl)
      change wpList _ _ _ _ _ wx.drew
      have cf2:wx.drew.frozen? ⟨Z1,k,none⟩=false:=cf
      have hck2:wx.drew.cell? ⟨Z1,k,none⟩=some (.int .i64 (M:Int)):=hck
      have HNEW2:=Lib.hid (max_cast M D▸HNEW.out)
      clear hck hcz cf HNEW
      go_wp2_with fail
      have hne:wo.heap.size≠Z1:=by have:=HZO.out;omega
      exact⟨⟨j+1,by omega,by go_num,Lib.hid (show((wx.setCell ⟨Z1,k,none⟩ (.int .i64 (max (M:Int) (D:Int)))).drew).ownsRow _ _ _ _ _ _ from HNEW2.out),Lib.hid ((Below.heap_setCell wx ⟨Z1,k,none⟩ _ _ hne).trans HNX.out),Lib.hid ((HBX.out.setCell (p:=⟨Z1,k,none⟩) (Nat.le_refl _) _).drew)⟩,by simp only[intOf];omega⟩
     ·have j1:¬(j:Int)<(nd.kids.length:Int):=by omega
      have HNEW:=Lib.hid (show(wx.setCell ⟨Z1,k,none⟩ (.int .i64 (((((kidsAt (ls.map Ln.nd) k).take j).map (depN (ls.map Ln.nd))).foldl max 0+1:Nat):Int))).ownsRow Z1 3 1 (.slice (some ⟨Z1,0,none⟩) ls.length ls.length) ls.length (natV (dpL (ls.map Ln.nd) ls.length (k+1) 0))from by
       have h:=(World.ownsRow.stored HOX.out k (.int .i64 (((((kidsAt (ls.map Ln.nd) k).take j).map (depN (ls.map Ln.nd))).foldl max 0+1:Nat):Int))).1
       rwa [dpL_end (ls.map Ln.nd) HAH.out ls.length k j (by rw[HKM.out];simp;omega) hlt]at h)
      generalize (((kidsAt (ls.map Ln.nd) k).take j).map (depN (ls.map Ln.nd))).foldl max 0=M at *
      have e1:IntKind.i64.wrap ((M:Int)+1)=(M:Int)+1:=IntWalk.i64_in _ (by omega)
      go_wp2_with fail
      refine⟨⟨k+1,by omega,by go_num,HNEW,Lib.hid (HBX.out.setCell (p:=⟨Z1,k,none⟩) (Nat.le_refl _) _)⟩,by simp only[intOf];omega⟩
   ·have i1:¬(k:Int)<(ls.length:Int):=by omega
    obtain rfl:k=ls.length:=by omega
    have hroot:=HR.out.1
    simp only[List.length_map]at hroot
    obtain⟨ro,rfl⟩:=Int.eq_ofNat_of_zero_le hroot.1
    have hro:ro<ls.length:=by omega
    obtain⟨k0,k1,_,_⟩:=blk2 HKW.out
    have hce:=own_cell HO.out ro hro (dpL_at (ls.map Ln.nd) ls.length ls.length 0 ro hro)
    rw[if_pos hro]at hce
    have i2:(ro:Int)<(ls.length:Int):=by omega
    have i3:(0:Int)≤(ro:Int):=by omega
    have HDT2:=Lib.hid (show depT ⟨ls.map Ln.nd,(ro:Int)⟩=depN (ls.map Ln.nd) ro from HDT.out)
    generalize depN (ls.map Ln.nd) ro=dd at *
    go_wp2_with fail
    go_ret
    exact⟨by rw[HDT2.out];rfl,HBW.out⟩
set_option maxRecDepth 100000 in
set_option maxHeartbeats 1600000 in
theorem tmay_any (t:Lt) (S:Nat→Prop) (w:World) (hT:t.inn w S) (hl:t.ls.length≤4294967296) (ht:CntTab w):
  Calls Tryz.prog 21 #[t.val] w fun e w'=>e=.returned (.bool (mayT t.tr))∧Below w.heap.size w w':=by
 obtain⟨A,c,ls,root⟩:=t
 simp only at hl
 have HT:=Lib.hid hT.2;have HN:=Lib.hid ht
 have HMT:=Lib.hid (show mayT (Lt.tr ⟨A,c,ls,root⟩)=(decide (ls.length≤1024)&&rightT ⟨ls.map Ln.nd,root⟩&&decide (depT ⟨ls.map Ln.nd,root⟩≤32))from by
  show(decide ((ls.map Ln.nd).length≤1024)&&_&&_)=_
  rw[List.length_map];rfl)
 clear hT ht
 show Calls _ _ _ _ fun e w'=>e=.returned (.bool (mayT (Lt.tr ⟨A,c,ls,root⟩)))∧Below w.heap.size w w'
 rw[HMT.out]
 clear HMT
 go_enter Tryz.func21,Tryz.ntmps21
 have HB0:=Lib.hid (bx1 w (.cells #[.slice A ls.length c,.int .i64 root] 40))
 have HK0:=Lib.hid (bx_new w (.cells #[.slice A ls.length c,.int .i64 root] 40))
 by_cases h1:ls.length≤1024
 ·have h1':(ls.length:Int)≤1024:=by omega
  rw[decide_eq_true h1,Bool.true_and]
  have HRR:=Lib.hid (show ∀w',Below w.heap.size w w'→Calls Tryz.prog 43 #[.agg #[.slice A ls.length c,.int .i64 root]] w' fun e w''=>e=.returned (.bool (rightT ⟨ls.map Ln.nd,root⟩))∧Below w'.heap.size w' w'' from fun w' hb=>right_any A c ls root S w' (HT.out.below hb) (by omega) (HN.out.below hb))
  have HDD:=Lib.hid (show ∀w',Below w.heap.size w w'→Calls Tryz.prog 54 #[.agg #[.slice A ls.length c,.int .i64 root]] w' fun e w''=>e=.returned (.int .i64 (depT ⟨ls.map Ln.nd,root⟩:Nat))∧Below w'.heap.size w' w'' from fun w' hb=>depth_any A c ls root S w' (HT.out.below hb) hl (HN.out.below hb))
  have HDL:=Lib.hid (depT_le ⟨ls.map Ln.nd,root⟩)
  clear h1
  generalize depT ⟨ls.map Ln.nd,root⟩=dp at *
  cases hr:rightT ⟨ls.map Ln.nd,root⟩
  ·rw[hr]at HRR
   clear hr
   go_wp2_with (first
    |(go_at_call 43;refine(HRR.out _ HB0.out).mono ?_;rintro e w1 ⟨rfl,hb⟩;have HB1:=Lib.hid (Below.step HB0.out hb);clear hb)
    |fail)
   go_ret
   exact⟨rfl,HB1.out⟩
  ·rw[hr]at HRR
   clear hr
   by_cases h2:dp≤32
   ·have h2':(dp:Int)≤32:=by omega
    rw[decide_eq_true h2]
    clear h2
    go_wp2_with (first
     |(go_at_call 43;refine(HRR.out _ HB0.out).mono ?_;rintro e w1 ⟨rfl,hb⟩;have HB1:=Lib.hid (Below.step HB0.out hb);have HK1:=Lib.hid (bx_kept hb HK0.out);clear hb;obtain⟨k0,k1,_,_⟩:=blk2 HK1.out)
     |(go_at_call 54;refine(HDD.out _ HB1.out).mono ?_;rintro e w2 ⟨rfl,hb⟩;have HB2:=Lib.hid (Below.step HB1.out hb);clear hb)
     |fail)
    go_ret
    exact⟨rfl,HB2.out⟩
   ·have h2':¬(dp:Int)≤32:=by omega
    rw[decide_eq_false h2]
    clear h2
    go_wp2_with (first
     |(go_at_call 43;refine(HRR.out _ HB0.out).mono ?_;rintro e w1 ⟨rfl,hb⟩;have HB1:=Lib.hid (Below.step HB0.out hb);have HK1:=Lib.hid (bx_kept hb HK0.out);clear hb;obtain⟨k0,k1,_,_⟩:=blk2 HK1.out)
     |(go_at_call 54;refine(HDD.out _ HB1.out).mono ?_;rintro e w2 ⟨rfl,hb⟩;have HB2:=Lib.hid (Below.step HB1.out hb);clear hb)
     |fail)
    go_ret
    exact⟨ret_bool (by simp;omega),HB2.out⟩
 ·have h1':¬(ls.length:Int)≤1024:=by omega
  rw[decide_eq_false h1,Bool.false_and,Bool.false_and]
  clear h1
  go_wp2_with fail
  go_ret
  exact⟨rfl,HB0.out⟩
end Go.Proofs.YtpfokabdpmjobaaGreatDoor
namespace Go.Proofs.YtpfokabdpmjobaaGreatDoor
set_option linter.unusedSimpArgs false
set_option linter.unusedVariables false
def textW (W:List Wd) (i:Nat):List UInt8:=(wdW W i).text
def bodyT (t:TT):Tr:=treeOf (makeTT t)
def defW (W:List Wd) (p:Nat×TT):Df:=⟨⟨(textW W p.1).toArray⟩,bodyT p.2⟩
def namesW (W:List Wd) (l:List (Nat×TT)):List (List UInt8):=l.map fun p=>textW W p.1
def twiceW (nm:List (List UInt8)):Option Nat:=(List.range nm.length).find? fun i=>decide (nm.getD i []∈nm.take i)
def lackW (W:List Wd) (nm:List (List UInt8)) (cs:List Nat):Option Nat:=cs.find? fun c=>decide (textW W c∉nm)
def largeW (l:List (Nat×TT)):Bool:=decide (64<l.length)||l.any fun p=> !mayT (bodyT p.2)
def judgeW (W:List Wd) (fin:Nat) (l:List (Nat×TT)) (cs:List Nat):Nat×Nat:=
 match twiceW (namesW W l)with
 |some i=>((wdW W ((l.map Prod.fst).getD i 0)).frm,6)
 |none=>match lackW W (namesW W l) cs with
  |some c=>((wdW W c).frm,41)
  |none=>if largeW l then(fin,40)else(0,0)
def readW (s:List UInt8):(List (Nat×TT)×List Nat)×Nat×Nat:=
 if (begunW s).2.2=40 then(([],[]),(begunW s).2.1,40)
 else match rulesP (begunW s).1 with
  |.fail k=>(([],[]),placeW (begunW s).1 (begunW s).2.1 k,4)
  |.done l cs=>((l,cs),(begunW s).2.1,(begunW s).2.2)
def gramP (s:List UInt8):List Df×Nat×Nat:=
 if (readW s).2.2≠0 then([],(readW s).2.1,(readW s).2.2)
 else if (judgeW (begunW s).1 (readW s).2.1 (readW s).1.1 (readW s).1.2).2≠0 then([],judgeW (begunW s).1 (readW s).2.1 (readW s).1.1 (readW s).1.2)
 else((readW s).1.1.map (defW (begunW s).1),0,0)
def namesP (s:List UInt8):List (List UInt8):=if (readW s).2.2≠0 then[]else namesW (begunW s).1 (readW s).1.1
def exprP (s:List UInt8):Tr×Nat×Nat:=
 if (begunW s).2.2=40 then(⟨[],0⟩,(begunW s).2.1,40)
 else match (choiceP (begunW s).1 0 []).1 with
  |.fail k=>(⟨[],0⟩,placeW (begunW s).1 (begunW s).2.1 k,4)
  |.done j t=>if j<(begunW s).1.length then(⟨[],0⟩,placeW (begunW s).1 (begunW s).2.1 j,4)else if (begunW s).2.2≠0 then(⟨[],0⟩,(begunW s).2.1,(begunW s).2.2)else if !mayT (bodyT t)then(⟨[],0⟩,(begunW s).2.1,40)else(bodyT t,0,0)
theorem run_calls {W:List Wd}:∀(f:Nat) (s:PS),(∀c∈s.calls,kdW W c=1)→ ∀c∈(runP W f s).2,kdW W c=1
 |0,s,h=>h
 |f+1,s,h=>by
  rw[runP]
  cases hs:stepP W s with
  |inr r=>exact h
  |inl s'=>
   refine run_calls f s' ?_
   obtain⟨i,st,C⟩:=s
   simp only at h
   cases st with
   |nil=>simp[stepP]at hs
   |cons top rest=>
    simp only[stepP]at hs
    split at hs
    ·injection hs with hs;subst hs
     simp only
     split
     ·rename_i h1
      intro c hc
      rcases List.mem_append.1 hc with hc|hc
      ·exact h c hc
      ·obtain rfl:=List.mem_singleton.1 hc;exact h1
     ·exact h
    ·repeat' (split at hs)
     all_goals first|(injection hs with hs;subst hs;exact h)|cases hs
theorem rules_inv {W:List Wd} {P:List Nat→TT→Prop} (hM:Makes W P) (hW:∀x∈W,mayS x):∀(f i:Nat) (acc:List (Nat×TT)) (C:List Nat),(∀p∈acc,kdW W p.1=1∧P C p.2)→(∀c∈C,kdW W c=1) →
  ∀l cs,rulesF W f i acc C=.done l cs→(l≠[]∧ ∀p∈l,kdW W p.1=1∧P cs p.2)∧ ∀c∈cs,kdW W c=1
 |0,i,acc,C,ha,hc,l,cs,h=>by simp[rulesF]at h
 |f+1,i,acc,C,ha,hc,l,cs,h=>by
  rw[rulesF]at h
  split at h
  ·cases h
  rename_i h1
  split at h
  ·cases h
  cases hch:choiceP W (i+2) C with
  |mk r C'=>
   rw[hch]at h
   cases r with
   |fail j=>cases h
   |done j t=>
    have hg:=(good_choice hM hW hch).1
    have hc':∀c∈C',kdW W c=1:=by
     have:=run_calls (W:=W) (W.length+1-(i+2)) ⟨i+2,[botP],C⟩ hc
     unfold choiceP at hch
     rw[hch]at this
     exact this
    have hpre:=calls_pre hch
    have ha':∀p∈acc++[(i,t)],kdW W p.1=1∧P C' p.2:=fun p hp=>by
     rcases List.mem_append.1 hp with hp|hp
     ·obtain⟨D,rfl⟩:=hpre
      exact⟨(ha p hp).1,hM.mono _ _ _ (ha p hp).2⟩
     ·obtain rfl:=List.mem_singleton.1 hp
      exact⟨by simpa using h1,hg⟩
    simp only at h
    split at h
    ·injection h with e1 e2
     subst e1 e2
     exact⟨⟨by simp,ha'⟩,hc'⟩
    ·exact rules_inv hM hW f j _ C' ha' hc' l cs h
 where
 run_pre {W:List Wd}:∀(f:Nat) (s:PS),∃D,(runP W f s).2=s.calls++D
  |0,s=>⟨[],by simp[runP]⟩
  |f+1,s=>by
   rw[runP]
   cases hs:stepP W s with
   |inr r=>exact⟨[],by simp⟩
   |inl s'=>
    obtain⟨D,hD⟩:=run_pre f s'
    simp only
    rw[hD]
    obtain⟨i,st,C⟩:=s
    cases st with
    |nil=>simp[stepP]at hs
    |cons top rest=>
     simp only[stepP]at hs
     split at hs
     ·injection hs with hs;subst hs
      simp only
      split
      ·exact⟨[i]++D,by simp⟩
      ·exact⟨D,rfl⟩
     ·repeat' (split at hs)
      all_goals first|(injection hs with hs;subst hs;exact⟨D,rfl⟩)|cases hs
 calls_pre {W:List Wd} {i:Nat} {C C':List Nat} {r:PR} (h:choiceP W i C=(r,C')):∃D,C'=C++D:=by
  obtain⟨D,hD⟩:=run_pre (W:=W) (W.length+1-i) ⟨i,[botP],C⟩
  unfold choiceP at h
  rw[h]at hD
  exact⟨D,hD⟩
structure ReadsP (s:List UInt8) (W:List Wd) (l:List (Nat×TT)) (cs:List Nat):Prop where
 begun:begunW s=(W,s.length,0)
 rules:rulesP W=.done l cs
 read:readW s=((l,cs),s.length,0)
 may:∀x∈W,mayS x
 ne:l≠[]
 ofs:∀p∈l,kdW W p.1=1∧fitTT p.2∧allTT (calledN W cs) p.2
 calls:∀c∈cs,kdW W c=1
theorem makes_and {W:List Wd} {P Q:List Nat→TT→Prop} (h:Makes W P) (k:Makes W Q):Makes W fun C t=>P C t∧Q C t where
 mono C D t x:=⟨h.mono C D t x.1,k.mono C D t x.2⟩
 empty C:=⟨h.empty C,k.empty C⟩
 leaf C i x:=⟨h.leaf C i x,k.leaf C i x⟩
 rep C i lo hi t e x:=⟨h.rep C i lo hi t e x.1,k.rep C i lo hi t e x.2⟩
 head C j t e x:=⟨h.head C j t e x.1,k.head C j t e x.2⟩
 seq C n l e hl x:=⟨h.seq C n l e hl fun t ht=>(x t ht).1,k.seq C n l e hl fun t ht=>(x t ht).2⟩
 cap C nm t e x:=⟨h.cap C nm t e x.1,k.cap C nm t e x.2⟩
theorem read_cases {s:List UInt8} (hs:¬65536<s.length):(∃W l cs,ReadsP s W l cs)∨(∃p,readW s=(([],[]),p,4)∧p≤s.length∧((readW (s.take p)).2.2=4→p≤(readW (s.take p)).2.1))∨ ∃l cs p,readW s=((l,cs),p,4)∧p≤s.length∧(readW (s.take p)).2.2≠4:=by
 obtain⟨W,fin,e,hb⟩:∃W fin e,begunW s=(W,fin,e):=⟨_,_,_,rfl⟩
 obtain⟨h1,h2,h3⟩:=begun_of hs hb
 have he:¬e=40:=by omega
 cases hr:rulesP W with
 |fail k=>
  right;left
  have hk:=rules_at _ 0 [] [] k (Nat.zero_le _) hr
  refine⟨placeW W fin k,?_,?_,?_⟩
  ·unfold readW;rw[hb];simp only[if_neg he,hr]
  ·rcases Nat.lt_or_ge k W.length with hl|hl
   ·have:=(begun_take hs hb hl).1
    simp only[placeW,List.getElem?_eq_getElem hl,Option.map_some,Option.getD_some];omega
   ·simp only[placeW,List.getElem?_eq_none hl,Option.map_none,Option.getD_none];omega
  ·intro h4
   rcases Nat.lt_or_ge k W.length with hl|hl
   ·have ep:placeW W fin k=W[k].frm:=by simp only[placeW,List.getElem?_eq_getElem hl,Option.map_some,Option.getD_some]
    rw[ep]at h4 ⊢
    have hbt:=(begun_take hs hb hl).2
    unfold readW at h4 ⊢
    rw[hbt]at h4 ⊢
    simp only[Nat.reduceEqDiff,if_false]at h4 ⊢
    cases hr2:rulesP (W.take k)with
    |fail k'=>
     have hge:=rules_prefix hr hk hr2
     simp only
     have hl2:(W.take k).length≤k':=by rw[List.length_take];omega
     simp only[placeW,List.getElem?_eq_none hl2,Option.map_none,Option.getD_none]
     exact Nat.le_refl _
    |done l cs=>rw[hr2]at h4;simp at h4
   ·have ep:placeW W fin k=fin:=by simp only[placeW,List.getElem?_eq_none hl,Option.map_none,Option.getD_none]
    rw[ep]at h4 ⊢
    rcases h1 with⟨h5,h6⟩|⟨h5,h6⟩
    ·rw[h6,List.take_length]
     unfold readW;rw[hb];simp only[if_neg he,hr,ep];omega
    ·have hb2:begunW (s.take fin)=(W,fin,0):=by
      unfold begunW;rw[h2];simp only[if_true,List.length_take,Nat.min_eq_left (Nat.le_of_lt h6)]
     unfold readW;rw[hb2];simp only[Nat.reduceEqDiff,if_false,hr,ep];exact Nat.le_refl _
 |done l cs=>
  have hrd:readW s=((l,cs),fin,e):=by unfold readW;rw[hb];simp only[if_neg he,hr]
  rcases h1 with⟨h5,h6⟩|⟨h5,h6⟩
  ·left
   subst h5 h6
   have hi:=rules_inv (makes_and (makes_fit h3) (makes_called W)) h3 _ 0 [] [] (by simp) (by simp) l cs hr
   exact⟨W,l,cs,hb,hr,hrd,h3,hi.1.1,hi.1.2,hi.2⟩
  ·right;right
   subst h5
   refine⟨l,cs,fin,hrd,by omega,?_⟩
   have hb2:begunW (s.take fin)=(W,fin,0):=by
    unfold begunW;rw[h2];simp only[if_true,List.length_take,Nat.min_eq_left (Nat.le_of_lt h6)]
   unfold readW;rw[hb2];simp[hr]
end Go.Proofs.YtpfokabdpmjobaaGreatDoor
