/- The contracts of tree.same, slices.EqualFunc over nodes, tree.Same. -/
import Derived.Test.YtpfokabdpmjobaaGreatDoorDw
import Derived.WalkSpells
import Derived.Deep.RegionHeld3
import Derived.Deep.Cut
namespace Go.Proofs.YtpfokabdpmjobaaGreatDoor
open Go.RowKit
set_option linter.unusedSimpArgs false
set_option linter.unusedVariables false
theorem equal_ints (l m:List Int) (A B:Option Addr) (c d:Nat) (S T:Nat→Prop) (w:World) (hA:intL.row w S A l) (hB:intL.row w T B m) (hl:l.length≤281474976710656) (hm:m.length≤281474976710656):
  Calls Tryz.prog 79 #[.slice A l.length c,.slice B m.length d] w fun e w'=>e=.returned (.bool (decide (l=m)))∧ ∃q,w'=w.drewN q:=by
 by_cases hlm:l.length=m.length
 ·by_cases h0:0<l.length
  ·obtain⟨b1,o1,rfl,h1⟩:=intAt hA h0
   obtain⟨b2,o2,rfl,h2⟩:=intAt hB (by omega)
   refine(Tryz.slices_Equal_int b1 o1 l.length c b2 o2 m.length d l m w (Nat.le_refl _) (Nat.le_refl _) (by omega) (by omega) h1 h2).mono fun e w' ⟨he,hw⟩=>⟨?_,hw⟩
   rw[he,List.take_length,List.take_length]
   congr 2
   rw[Bool.eq_iff_iff];simp
  ·have e1:l=[]:=List.eq_nil_of_length_eq_zero (by omega)
   have e2:m=[]:=List.eq_nil_of_length_eq_zero (by omega)
   subst e1 e2
   exact(Tryz.slices_Equal_int_empty A B c 0 d w (by omega)).mono fun e w' ⟨he,hw⟩=>⟨by rw[he];rfl,0,hw⟩
 ·exact(Tryz.slices_Equal_int_lens A B l.length c m.length d w hlm).mono fun e w' ⟨he,hw⟩=>⟨by rw[he,decide_eq_false (fun e=>hlm (by rw[e]))],0,hw⟩
set_option maxRecDepth 100000 in
set_option maxHeartbeats 1600000 in
theorem ndsame_any (a b:Nd) (A B:Option Addr) (c d:Nat) (S T:Nat→Prop) (w:World) (hA:intL.row w S A a.kids) (hB:intL.row w T B b.kids) (hl:a.kids.length≤281474976710656) (hm:b.kids.length≤281474976710656):
  Calls Tryz.prog 46 #[ndV a (.slice A a.kids.length c),ndV b (.slice B b.kids.length d)] w fun e w'=>e=.returned (.bool (decide (a=b)))∧Below w.heap.size w w':=by
 obtain⟨ak,a0,a1,a2,a3,at',an,ax,al⟩:=a
 obtain⟨bk,b0,b1,b2,b3,bt,bn,bx,bl⟩:=b
 simp only at hA hB hl hm ⊢
 have hE:=fun w=>eqSet w a0 a1 a2 a3 b0 b1 b2 b3
 by_cases h1:ak=bk
 ·have e1:(ak==bk)=true:=by simp[h1]
  by_cases h2:a0=b0∧a1=b1∧a2=b2∧a3=b3
  ·rw[decide_eq_true h2]at hE
   by_cases h3:at'=bt
   ·have e3:(at'.toList==bt.toList)=true:=by simp[h3]
    by_cases h4:an=bn
    ·have e4:(an==bn)=true:=by simp[h4]
     by_cases h5:ax=bx
     ·have e5:(ax==bx)=true:=by simp[h5]
      have H:=Lib.hid (show decide ((⟨ak,a0,a1,a2,a3,at',an,ax,al⟩:Nd)=⟨bk,b0,b1,b2,b3,bt,bn,bx,bl⟩)=decide (al=bl)by
       obtain⟨h21,h22,h23,h24⟩:=h2
       subst h1 h21 h22 h23 h24 h3 h4 h5
       simp)
      clear h1 h2 h3 h4 h5
      go_enter Tryz.func46,Tryz.ntmps46
      go_wp2_with (go_at_call 79;refine(equal_ints al bl A B c d S T _ (hA.below (bx2 w _ _)) (hB.below (bx2 w _ _)) hl hm).mono ?_;rintro e w' ⟨rfl,q,rfl⟩)
      go_ret
      exact⟨ret_bool H.out.symm,Below.drewN'' (bx2 w _ _) _⟩
     ·have e5:(ax==bx)=false:=by simpa using h5
      have H:=Lib.hid (show decide ((⟨ak,a0,a1,a2,a3,at',an,ax,al⟩:Nd)=⟨bk,b0,b1,b2,b3,bt,bn,bx,bl⟩)=false from decide_eq_false (fun e=>h5 (congrArg Nd.mx e)))
      clear h1 h2 h3 h4 h5
      go_enter Tryz.func46,Tryz.ntmps46
      go_wp2_with fail
      go_ret
      exact⟨ret_bool H.out.symm,bx2 w _ _⟩
    ·have e4:(an==bn)=false:=by simpa using h4
     have H:=Lib.hid (show decide ((⟨ak,a0,a1,a2,a3,at',an,ax,al⟩:Nd)=⟨bk,b0,b1,b2,b3,bt,bn,bx,bl⟩)=false from decide_eq_false (fun e=>h4 (congrArg Nd.mn e)))
     clear h1 h2 h3 h4
     go_enter Tryz.func46,Tryz.ntmps46
     go_wp2_with fail
     go_ret
     exact⟨ret_bool H.out.symm,bx2 w _ _⟩
   ·have e3:(at'.toList==bt.toList)=false:=by
     rw[beq_eq_false_iff_ne]
     intro e
     rw[Lib.toList_data,Lib.toList_data]at e
     exact h3 (str_ext e)
    have H:=Lib.hid (show decide ((⟨ak,a0,a1,a2,a3,at',an,ax,al⟩:Nd)=⟨bk,b0,b1,b2,b3,bt,bn,bx,bl⟩)=false from decide_eq_false (fun e=>h3 (congrArg Nd.text e)))
    clear h1 h2 h3
    go_enter Tryz.func46,Tryz.ntmps46
    go_wp2_with fail
    go_ret
    exact⟨ret_bool H.out.symm,bx2 w _ _⟩
  ·rw[decide_eq_false h2]at hE
   have H:=Lib.hid (show decide ((⟨ak,a0,a1,a2,a3,at',an,ax,al⟩:Nd)=⟨bk,b0,b1,b2,b3,bt,bn,bx,bl⟩)=false from decide_eq_false (fun e=>h2 ⟨congrArg Nd.s0 e,congrArg Nd.s1 e,congrArg Nd.s2 e,congrArg Nd.s3 e⟩))
   clear h1 h2
   go_enter Tryz.func46,Tryz.ntmps46
   go_wp2_with fail
   go_ret
   exact⟨ret_bool H.out.symm,bx2 w _ _⟩
 ·have e1:(ak==bk)=false:=by simpa using h1
  have H:=Lib.hid (show decide ((⟨ak,a0,a1,a2,a3,at',an,ax,al⟩:Nd)=⟨bk,b0,b1,b2,b3,bt,bn,bx,bl⟩)=false from decide_eq_false (fun e=>h1 (congrArg Nd.kind e)))
  clear h1
  go_enter Tryz.func46,Tryz.ntmps46
  go_wp2_with fail
  go_ret
  exact⟨ret_bool H.out.symm,bx2 w _ _⟩
set_option maxRecDepth 100000 in
set_option maxHeartbeats 1600000 in
theorem eqnodes_any (ls ms:List Ln) (A B:Option Addr) (c d:Nat) (S T:Nat→Prop) (w:World) (hA:ndL.row w S A ls) (hB:ndL.row w T B ms) (hl:ls.length≤281474976710656) (hm:ms.length≤281474976710656):
  Calls Tryz.prog 44 #[.slice A ls.length c,.slice B ms.length d,.func (.func 46) #[] #[]] w fun e w'=>e=.returned (.bool (decide (ls.map Ln.nd=ms.map Ln.nd)))∧Below w.heap.size w w':=by
 have HTA:=Lib.hid hA;have HTB:=Lib.hid hB;clear hA hB
 by_cases hlm:ls.length=ms.length
 ·have e1:((ls.length:Int) != (ms.length:Int))=false:=by simp[hlm]
  have HLM:=Lib.hid hlm;clear hlm
  go_enter Tryz.func44,Tryz.ntmps44
  go_wp2_with fail
  clear e1
  go_loopw [17] (fun i wr=>∃k:Nat,k≤ls.length∧i=.int .i64 k∧Hid ((ls.map Ln.nd).take k=(ms.map Ln.nd).take k)∧Hid (Below w.heap.size w wr)) (fun i _=>ls.length-(intOf i).toNat)
  case atStart=>exact⟨0,by omega,rfl,Lib.hid (by simp),Lib.hid (Below.refl _ _)⟩
  case round=>
   obtain⟨k,hk,rfl,HE,HB⟩:=hrel
   by_cases hlt:k<ls.length
   ·have hlt2:k<ms.length:=by have:=HLM.out;omega
    have HA':=Lib.hid (HTA.out.agree (below_all HB.out))
    have HB':=Lib.hid (HTB.out.agree (below_all HB.out))
    have HWA:=Lib.hid (ndWf HA'.out k hlt)
    have HWB:=Lib.hid (ndWf HB'.out k hlt2)
    have HKA:=Lib.hid (ndSub HA'.out k hlt)
    have HKB:=Lib.hid (ndSub HB'.out k hlt2)
    obtain⟨b,o,rfl,_,_,x0,x1,x2,x3,x4,x5,x6,x7,x8⟩:=ndRow HA'.out k hlt
    obtain⟨b',o',rfl,_,hbl,y0,y1,y2,y3,y4,y5,y6,y7,y8⟩:=ndRow HB'.out k hlt2
    have i1:(k:Int)<(ls.length:Int):=by omega
    have i2:(k:Int)<(ms.length:Int):=by omega
    have HNX:=Lib.hid (show(ls.map Ln.nd).take (k+1)=(ls.map Ln.nd).take k++[ls[k].nd]by rw[List.take_succ_eq_append_getElem (by simpa using hlt)];simp)
    have HNY:=Lib.hid (show(ms.map Ln.nd).take (k+1)=(ms.map Ln.nd).take k++[ms[k].nd]by rw[List.take_succ_eq_append_getElem (by simpa using hlt2)];simp)
    have HNE:=Lib.hid (show ls[k].nd≠ms[k].nd→decide (ls.map Ln.nd=ms.map Ln.nd)=false from fun h=>decide_eq_false (fun e=>h (by
     have h1:(ls.map Ln.nd)[k]?=(ms.map Ln.nd)[k]? :=by rw[e]
     simpa[hlt,hlt2]using h1)))
    cases hs:decide (ls[k].nd=ms[k].nd)
    ·have HX:=Lib.hid (HNE.out (of_decide_eq_false hs))
     go_wp2_with (go_at_call 46;refine(ndsame_any ls[k].nd ms[k].nd ls[k].A ms[k].A ls[k].c ms[k].c S T _ (HKA.out.below (bx2 _ _ _)) (HKB.out.below (bx2 _ _ _)) HWA.out.2.2.1 HWB.out.2.2.1).mono ?_;rintro e w' ⟨rfl,hb⟩)
     go_ret
     exact⟨ret_bool HX.out.symm,(HB.out.trans ((bx2 wr _ _).mono HB.out.size)).trans (hb.mono (by have:=HB.out.size;simp;omega))⟩
    ·have HX:=Lib.hid (show(ls.map Ln.nd).take (k+1)=(ms.map Ln.nd).take (k+1)by rw[HNX.out,HNY.out,HE.out,of_decide_eq_true hs])
     go_wp2_with (go_at_call 46;refine(ndsame_any ls[k].nd ms[k].nd ls[k].A ms[k].A ls[k].c ms[k].c S T _ (HKA.out.below (bx2 _ _ _)) (HKB.out.below (bx2 _ _ _)) HWA.out.2.2.1 HWB.out.2.2.1).mono ?_;rintro e w' ⟨rfl,hb⟩)
     exact⟨⟨k+1,by omega,by go_num,HX,Lib.hid ((HB.out.trans ((bx2 wr _ _).mono HB.out.size)).trans (hb.mono (by have:=HB.out.size;simp;omega)))⟩,by simp[intOf];omega⟩
   ·have HX:=Lib.hid (show decide (ls.map Ln.nd=ms.map Ln.nd)=true from decide_eq_true (by
     have h:=HE.out
     rwa [List.take_of_length_le (by simp;omega),List.take_of_length_le (by have:=HLM.out;simp;omega)]at h))
    go_wp2_with fail
    go_ret
    exact⟨ret_bool HX.out.symm,HB.out⟩
 ·have e1:((ls.length:Int) != (ms.length:Int))=true:=by simp;omega
  have HX:=Lib.hid (show decide (ls.map Ln.nd=ms.map Ln.nd)=false from decide_eq_false (fun e=>hlm (by have:=congrArg List.length e;simpa using this)));clear hlm
  go_enter Tryz.func44,Tryz.ntmps44
  go_wp2_with fail
  go_ret
  exact⟨ret_bool HX.out.symm,Below.refl _ _⟩
attribute [local go_sem] field_nodes
set_option maxRecDepth 100000 in
set_option maxHeartbeats 3200000 in
theorem tsame_any (A B:Option Addr) (c d:Nat) (ls ms:List Ln) (ra rb:Int) (S T:Nat→Prop) (w:World) (hA:ndL.row w S A ls) (hB:ndL.row w T B ms) (hl:ls.length≤4294967296) (hm:ms.length≤4294967296) (ht:CntTab w):
  Calls Tryz.prog 12 #[.agg #[.slice A ls.length c,.int .i64 ra],.agg #[.slice B ms.length d,.int .i64 rb]] w fun e w'=>e=.returned (.bool (sameT ⟨ls.map Ln.nd,ra⟩ ⟨ms.map Ln.nd,rb⟩))∧Below w.heap.size w w':=by
 have HTA:=Lib.hid hA;have HTB:=Lib.hid hB;clear hA hB
 have HC:=Lib.hid ht;clear ht
 by_cases hlm:ls.length=ms.length
 ·have e1:((ls.length:Int) != (ms.length:Int))=false:=by simp[hlm]
  have HLM:=Lib.hid hlm;clear hlm
  cases hra:rightT ⟨ls.map Ln.nd,ra⟩
  ·have HX:=Lib.hid (sameT_no_left (b:=⟨ms.map Ln.nd,rb⟩) hra)
   go_enter Tryz.func12,Tryz.ntmps12
   go_wp2_with (go_at_call 43;refine(right_any A c ls ra S _ (HTA.out.below (bx2 w _ _)) (by omega) (HC.out.below (bx2 w _ _))).mono ?_;rintro e w1 ⟨rfl,hb1⟩)
   go_ret
   exact⟨ret_bool HX.out.symm,Below.step (bx2 w _ _) hb1⟩
  ·cases hrb:rightT ⟨ms.map Ln.nd,rb⟩
   ·have HX:=Lib.hid (sameT_no_right (a:=⟨ls.map Ln.nd,ra⟩) hrb)
    go_enter Tryz.func12,Tryz.ntmps12
    go_wp2_with fail
    refine(right_any A c ls ra S _ (HTA.out.below (bx2 w _ _)) (by omega) (HC.out.below (bx2 w _ _))).mono ?_
    rintro e w1 ⟨rfl,hb1⟩
    have HB1:=Lib.hid hb1
    obtain⟨k1,k2⟩:=bx2_kept hb1
    obtain⟨q1,q2,_,_⟩:=blk2 k1
    obtain⟨q3,q4,_,_⟩:=blk2 k2
    have HBB:=Lib.hid (Below.step (bx2 w _ _) hb1)
    clear hb1 k1 k2
    go_wp2_with fail
    refine(right_any B d ms rb T _ (HTB.out.below HBB.out) (by omega) (HC.out.below HBB.out)).mono ?_
    rintro e w2 ⟨rfl,hb2⟩
    go_wp2_with fail
    go_ret
    exact⟨ret_bool HX.out.symm,Below.step HBB.out hb2⟩
   ·have HX:=Lib.hid (sameT_yes hra hrb)
    have HPA:=Lib.hid ((rightT_iff _).1 hra);have HPB:=Lib.hid ((rightT_iff _).1 hrb)
    have hr1:=HPA.out.1;have hr2:=HPB.out.1
    simp only[List.length_map]at hr1 hr2
    obtain⟨na,rfl⟩:=Int.eq_ofNat_of_zero_le hr1.1
    obtain⟨nb,rfl⟩:=Int.eq_ofNat_of_zero_le hr2.1
    have hna:na<ls.length:=by omega
    have hnb:nb<ms.length:=by omega
    clear hr1 hr2
    go_enter Tryz.func12,Tryz.ntmps12
    go_wp2_with fail
    refine(right_any A c ls na S _ (HTA.out.below (bx2 w _ _)) (by omega) (HC.out.below (bx2 w _ _))).mono ?_
    rintro e w1 ⟨rfl,hb1⟩
    obtain⟨k1,k2⟩:=bx2_kept hb1
    obtain⟨q1,q2,_,_⟩:=blk2 k1
    obtain⟨q3,q4,_,_⟩:=blk2 k2
    have HBB:=Lib.hid (Below.step (bx2 w _ _) hb1)
    have HK1:=Lib.hid k1;have HK2:=Lib.hid k2
    clear hb1 k1 k2
    go_wp2_with fail
    clear q1 q2 q3 q4
    refine(right_any B d ms nb T _ (HTB.out.below HBB.out) (by omega) (HC.out.below HBB.out)).mono ?_
    rintro e w2 ⟨rfl,hb2⟩
    have HB2:=Lib.hid (Below.step HBB.out hb2)
    have HK3:=Lib.hid (bx_kept hb2 HK1.out);have HK4:=Lib.hid (bx_kept hb2 HK2.out)
    clear hb2 HK1 HK2 HBB
    go_wp2_with fail
    have HSZ:=Lib.hid (show w.heap.size+1<w2.heap.size from heap_lt' HK4.out)
    have HSB:=Lib.hid (show ∀w',Below w2.heap.size w2 w'→(w'.cell? ⟨w.heap.size,0,none⟩=some (.slice A ls.length c)∧w'.cell? ⟨w.heap.size,1,none⟩=some (.int .i64 (na:Int)))∧w'.cell? ⟨w.heap.size+1,0,none⟩=some (.slice B ms.length d)∧w'.cell? ⟨w.heap.size+1,1,none⟩=some (.int .i64 (nb:Int))from fun w' hb=>by
     obtain⟨p1,p2,_,_⟩:=blk2 (bx_kept hb HK3.out)
     obtain⟨p3,p4,_,_⟩:=blk2 (bx_kept hb HK4.out)
     exact⟨⟨p1,p2⟩,p3,p4⟩)
    go_region_held3 (fun w'=>(w'.cell? ⟨w.heap.size,0,none⟩=some (.slice A ls.length c)∧w'.cell? ⟨w.heap.size,1,none⟩=some (.int .i64 (na:Int)))∧w'.cell? ⟨w.heap.size+1,0,none⟩=some (.slice B ms.length d)∧w'.cell? ⟨w.heap.size+1,1,none⟩=some (.int .i64 (nb:Int)))
     (first|exact HSB.out _ (Below.refl _ _).drew|exact HSB.out _ HB3.out|exact HSB.out _ HB4.out|exact HSB.out _ HB5.out)
     (first
      |((go_at_call 45;(with_reducible refine(taken_any A c ls na na S _ (HTA.out.below (Below.drew HB2.out)) hl HPA.out hna).mono ?_));intro e w3 h3;obtain⟨A1,c1,l1,r1,rfl,hva,hoa,hba⟩:=TreePost.out h3;clear h3;have HVA:=Lib.hid (And.intro hva hoa);have HB3:=Lib.hid (show Below w2.heap.size w2 w3 from(Below.refl _ w2).drew.trans hba);clear hva hoa hba)
      |((go_at_call 45;(with_reducible refine(taken_any B d ms nb nb T _ (HTB.out.below (Below.step HB2.out HB3.out)) hm HPB.out hnb).mono ?_));intro e w4 h4;obtain⟨A2,c2,l2,r2,rfl,hvb,hob,hbb⟩:=TreePost.out h4;clear h4;have HVB:=Lib.hid (And.intro hvb hob);have HVA':=Lib.hid (HVA.out.2.below hbb);have HB4:=Lib.hid (show Below w2.heap.size w2 w4 from Below.step HB3.out hbb);clear hvb hob hbb)
      |((go_at_call 44;(have c67:=eqnodes_any l1 l2 A1 A2 c1 c2 _ _ _ HVA'.out.inn.2 HVB.out.2.inn.2 HVA'.out.len HVB.out.2.len);go_loud (refine c67.mono ?_));rintro e w5 ⟨rfl,hb5⟩;have HB5:=Lib.hid (show Below w2.heap.size w2 w5 from Below.step HB4.out hb5);clear hb5))
    go_wp2_with fail
    go_ret
    refine⟨ret_bool ?_,Below.step HB2.out HB5.out⟩
    rw[HX.out]
    have e1:=congrArg Tr.nodes HVA.out.1;have e2:=congrArg Tr.nodes HVB.out.1
    simp only[Lt.tr,takenT]at e1 e2
    rw[e1,e2];rfl
 ·have e1:((ls.length:Int) != (ms.length:Int))=true:=by simp;omega
  have HX:=Lib.hid (show sameT ⟨ls.map Ln.nd,ra⟩ ⟨ms.map Ln.nd,rb⟩=false by
   cases h:sameT ⟨ls.map Ln.nd,ra⟩ ⟨ms.map Ln.nd,rb⟩
   ·rfl
   ·have:=sameT_length h;simp at this;exact absurd this hlm)
  clear hlm
  go_enter Tryz.func12,Tryz.ntmps12
  go_wp2_with fail
  go_ret
  exact⟨ret_bool HX.out.symm,bx2 w _ _⟩
