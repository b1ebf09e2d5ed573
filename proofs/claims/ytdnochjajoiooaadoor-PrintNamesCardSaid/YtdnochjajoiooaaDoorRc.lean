/- The contract of bonsairef04.Sub. -/
import Derived.Test.YtdnochjajoiooaaDoorRa
import Derived.Test.YtdnochjajoiooaaDoorDn
import Derived.Test.YtdnochjajoiooaaDoorTt
namespace Go.Proofs.YtdnochjajoiooaaDoor
open Go.RowKit
set_option linter.unusedSimpArgs false
set_option linter.unusedVariables false
def SubPost (t:Tr) (node:Nat) (w:World) (e:Ending) (w':World):Prop:=∃v:Lt,e=.returned (.tuple #[v.val,.bool true])∧v.tr=takenT t node∧TreeOwn w' (w.heap.size ≤ ·) v∧Below w.heap.size w w'
def SubRel1 (w:World) (A:Option Addr) (c:Nat) (ls:List Ln) (root:Int) (P:List Nat) (v6 v7:Value) (wr:World):Prop:=
 ∃(o seen:List Nat) (V6 V7:Option Addr) (c6 c7 m n:Nat),v6=.slice V6 n c6∧v7=.slice V7 m c7∧Hid (m=o.length)∧Hid (n=seen.length)∧Hid (wr.ownsRow (w.heap.size+2) 3 1 (.slice V6 n c6) n (natsV seen))∧Hid (wr.ownsRow (w.heap.size+2) 3 1 (.slice V7 m c7) m (natsV o))∧Hid (ApartB V6 V7)∧Hid (o.flatMap (postN (ls.map Ln.nd))++seen.reverse=P) ∧
  Hid (wr.heap[w.heap.size]?=some (.cells #[.slice A ls.length c,.int .i64 root] 25 (0,0))∧wr.heap[w.heap.size+1]?=some (.cells #[.slice none 0 0,.int .i64 0] 25 (0,0)))∧Hid (Below w.heap.size w wr)∧Hid (w.heap.size+2≤wr.heap.size)
def SubRel2 (w1:World) (P:List Nat) (ls:List Ln) (Z:Nat) (v10 v11:Value) (wr:World):Prop:=
 ∃(k:Nat) (ls':List Ln) (pl:List Value) (V:Option Addr) (vc:Nat),k≤P.length∧v11=.int .i64 ((P.length:Int)-1-(k:Int))∧v10=.slice V k vc∧Hid (wr.ownsRow Z 3 1 (.slice (some ⟨Z,0,none⟩) ls.length ls.length) ls.length pl)∧Hid (∀j p,j<k→P[j]?=some p→pl[p]?=some (.int .i64 (j:Int))) ∧
  Hid (wr.ownsRow (Z+1) 35 9 (.slice V k vc) k (ndL.all ls'))∧Hid (ls'.map Ln.nd=(P.take k).map (fun p=>placed P (ndAt (ls.map Ln.nd) p)))∧Hid (∀l∈ls',NdOwn wr (fun x=>Z<x∧blkOf V≠some x) l)∧Hid (Below Z w1 wr)∧Hid (Z<wr.heap.size)
def SubRel3 (w3:World) (nb:Nat) (ks:List Value) (v13 v14:Value) (wx:World):Prop:=
 ∃(q:Nat) (U:Option Addr) (uc:Nat),q≤ks.length∧v14=.int .i64 q∧v13=.slice U q uc∧Hid (wx.ownsRow (nb+1) 3 1 (.slice U q uc) q (ks.take q))∧Hid (Below (nb+1) w3 wx)∧Hid (nb+1≤wx.heap.size)
set_option maxRecDepth 100000 in
set_option maxHeartbeats 12800000 in
theorem rsub_any (A:Option Addr) (c:Nat) (ls:List Ln) (root:Int) (node:Nat) (S:Nat→Prop) (w:World) (hT:ndL.row w S A ls) (hl:ls.length≤16777216) (hkl:∀l∈ls,l.nd.kids.length≤4294967296) (hks:(kidsOf (ls.map Ln.nd)).length≤4611686018427387904) (hr:rightP ⟨ls.map Ln.nd,root⟩) (hn:node<ls.length):
  Calls Tryd.prog 71 #[.agg #[.slice A ls.length c,.int .i64 root],.int .i64 node] w (SubPost ⟨ls.map Ln.nd,root⟩ node w):=by
 obtain⟨i0,hi,hz0,hz1,hz2⟩:=info_parts infoInt
 obtain⟨j0,hj,hy0,hy1,hy2⟩:=info_parts infoNode
 have HT:=Lib.hid hT;clear hT
 have HR:=Lib.hid hr;clear hr
 have HPL:=Lib.hid (show(postN (ls.map Ln.nd) node).length≤ls.length by have:=post_length HR.out node (by simpa using hn);simpa using this)
 have HAH:=Lib.hid (rightP_ahead HR.out)
 have HND:=Lib.hid (post_nodup HR.out node (by simpa using hn))
 have HMEM:=Lib.hid (show ∀p∈postN (ls.map Ln.nd) node,p<ls.length from fun p hp=>by have:=postN_le HAH.out node p hp;omega)
 have HNE:=Lib.hid (postN_ne (ls.map Ln.nd) node)
 have HRT:=Lib.hid (show ∀w',ndL.row w' S A ls→_ from fun w' h=>rright_any A c ls root S w' h (by omega) hkl hks)
 rw[(rightT_iff _).2 HR.out]at HRT
 clear hkl hks
 unfold SubPost takenT takenL
 have HKB:=Lib.hid (show ∀k (hk:k<(postN (ls.map Ln.nd) node).length) z,z∈kidsAt (ls.map Ln.nd) (postN (ls.map Ln.nd) node)[k]→ ∃j,j<k∧(postN (ls.map Ln.nd) node)[j]?=some z from fun k hk z hz=>kid_before HAH.out hk hz)
 have HST:=Lib.hid (walk_start (l:=ls.map Ln.nd) node)
 simp only
 generalize hPd:postN (ls.map Ln.nd) node=P at *
 have HPD:=Lib.hid hPd
 clear hPd
 have HB0:=Lib.hid (bx2 w (.cells #[.slice A ls.length c,.int .i64 root] 25) (.cells #[.slice none 0 0,.int .i64 0] 25))
 have HK0:=Lib.hid (show ∀w',Below ((w.alloc (.cells #[.slice A ls.length c,.int .i64 root] 25)).alloc (.cells #[.slice none 0 0,.int .i64 0] 25)).heap.size ((w.alloc (.cells #[.slice A ls.length c,.int .i64 root] 25)).alloc (.cells #[.slice none 0 0,.int .i64 0] 25)) w'→w'.heap[w.heap.size]?=some (.cells #[.slice A ls.length c,.int .i64 root] 25 (0,0))∧w'.heap[w.heap.size+1]?=some (.cells #[.slice none 0 0,.int .i64 0] 25 (0,0))∧w.heap.size+2≤w'.heap.size from fun w' hb=>by
  refine⟨bx_kept hb (bx_old (bx_new w _)),bx_kept hb ?_,by have:=hb.size;simp at this;omega⟩
  have h:=bx_new (w.alloc (.cells #[.slice A ls.length c,.int .i64 root] 25)) (.cells #[.slice none 0 0,.int .i64 0] 25)
  rw[World.size_alloc]at h;exact h)
 have n1:(node:Int)<(ls.length:Int):=by omega
 have n2:(0:Int)≤(node:Int):=by omega
 have n3:decide ((node:Int)<0)=false:=by simp
 have n4:decide ((ls.length:Int)≤(node:Int))=false:=by simp;omega
 have n5:decide (ls.length≤node)=false:=by simp;omega
 have n6:¬ls.length≤node:=by omega
 go_enter Tryd.func71,Tryd.ntmps71
 go_wp2_with fail
 refine(HRT.out _ (HT.out.below HB0.out)).mono ?_
 rintro e w1 ⟨rfl,hb⟩
 have HK1:=Lib.hid (HK0.out _ hb)
 have HB1:=Lib.hid (Below.step HB0.out hb)
 clear hb HB0 HK0
 obtain⟨q1,q2,_,_⟩:=blk2 HK1.out.1
 go_wp2_with fail
 clear q1 q2
 go_loopw [6,7] (fun v6 v7 wr=>SubRel1 w A c ls root P v6 v7 wr) (fun v6 _ _=>ls.length-sliceLen v6)
 case atStart=>
  refine⟨[node],[],none,some ⟨w1.heap.size,0,none⟩,0,1,1,0,rfl,rfl,Lib.hid rfl,Lib.hid rfl,Lib.hid (World.ownsRow_nil _ _ _ _),Lib.hid ?_,Lib.hid (ApartB.none _),Lib.hid ?_,Lib.hid ⟨bx_old HK1.out.1,bx_old HK1.out.2.1⟩,Lib.hid (Below.step HB1.out (bx1 w1 _)),Lib.hid (by have:=HK1.out.2.2;simp;omega)⟩
  ·exact⟨rfl,.inr ⟨w1.heap.size,1,_,rfl,HK1.out.2.2,bx_new w1 _,by simp,by unfold maxLen;omega,rfl,rfl⟩⟩
  ·exact HST.out
 case round=>
  clear HK1 HB1
  obtain⟨o,seen,V6,V7,c6,c7,m,n,rfl,rfl,HM,HNN,HO6,HO7,HAP,HE,HK,HB,HZ⟩:=hrel
  have HWB:=Lib.hid (walk_bound (l:=ls.map Ln.nd) (j:=node) (by rw[HPD.out];exact HE.out))
  rcases List.eq_nil_or_concat o with rfl|⟨o',i,ho⟩
  ·have HEE:=Lib.hid (show seen.reverse=P from walk_end (l:=ls.map Ln.nd) (j:=node) (by rw[HPD.out];exact HE.out) |>.trans HPD.out)
   obtain rfl:m=0:=HM.out
   have hnp:n=P.length:=by rw[HNN.out,←HEE.out,List.length_reverse]
   subst hnp
   have hpl:=HPL.out
   have hpos:=HNE.out
   obtain⟨g,hg,hg1,hg2⟩:=own_some HO6.out (by omega)
   subst hg
   have HBK:=Lib.hid (show ∀k (h:k<P.length),(natsV seen)[P.length-1-k]?=some (.int .i64 (P[k]:Int))from fun k h=>by
    have e:seen=P.reverse:=by rw[←HEE.out,List.reverse_reverse]
    have h2:(P.reverse)[P.length-1-k]?=some P[k]:=by
     rw[List.getElem?_reverse (by omega),show P.length-1-(P.length-1-k)=k by omega,List.getElem?_eq_getElem h]
    subst e
    rw[natsV,List.getElem?_map,h2];rfl)
   obtain⟨q1,q2,_,_⟩:=blk2 HK.out.1
   have F1:=Lib.hid (show i0.bytes*ls.length≤281474976710656∧ls.length≤maxLen from⟨by rw[hz2];omega,by unfold maxLen;omega⟩)
   have k1:(1:Int)≤(P.length:Int):=by omega
   go_wp2_with (at_make;refine wpList_make_full _ rfl _ _ 33 rfl wr.heap.size 3 i0 _ 1 Tryd.underlying33 hi hz0 hz1 .i64 .i64 _ _ ls.length rfl rfl rfl rfl F1.out.1 F1.out.2 (Nat.le_refl _) ?_;intro w2 hown2 hgrow2;have HO2:=Lib.hid hown2;have HB2:=Lib.hid (show Below wr.heap.size wr w2 from(Below.refl _ _).grown hgrow2 (Nat.le_refl _) (fun k e=>by cases e));clear hown2 hgrow2)
   clear q1 q2
   go_loopw [10,11] (fun v10 v11 wx=>SubRel2 wr P ls wr.heap.size v10 v11 wx) (fun _ v11 _=>(intOf v11+1).toNat)
   case atStart=>exact⟨0,[],_,none,0,Nat.zero_le _,by simp,rfl,HO2,Lib.hid (fun j p h=>by omega),Lib.hid (World.ownsRow_nil _ _ _ _),Lib.hid rfl,Lib.hid (by simp),HB2,Lib.hid (own_lt HO2.out).2⟩
   case round=>
    clear HO2 HB2
    obtain⟨wo,rfl⟩:∃wo:World,wo=wr:=⟨_,rfl⟩
    obtain⟨k,ls',pl,V,vc,hk,hv,rfl,HPL1,HPLS,HO3,HLS,HOW,HB3,HZ3⟩:=hrel
    by_cases hlt:k<P.length
    ·obtain⟨d,hd⟩:∃d:Nat,(P.length:Int)-1-(k:Int)=(d:Int):=⟨P.length-1-k,by omega⟩
     rw[hd]at hv
     subst hv
     have hdd:d=P.length-1-k:=by omega
     have HDK:=Lib.hid hd
     clear hd
     have HBC:=Lib.hid (HBK.out k hlt)
     rw[←hdd]at HBC
     have HDD:=Lib.hid hdd
     have HKP:=Lib.hid (show P[k]?=some P[k]from List.getElem?_eq_getElem hlt)
     have HKBK:=Lib.hid (HKB.out k hlt)
     have hp:=HMEM.out P[k] (List.getElem_mem hlt)
     have HTK:=Lib.hid (show P.take (k+1)=P.take k++[P[k]]from List.take_succ_eq_append_getElem hlt)
     generalize P[k]=p at *
     have d1:(d:Int)<(P.length:Int):=by omega
     have d2:(0:Int)≤(d:Int):=by omega
     clear hdd
     have p1:(p:Int)<(ls.length:Int):=by omega
     have p2:(0:Int)≤(p:Int):=by omega
     obtain⟨b,o,hA,_,_,x0,x1,x2,x3,x4,x5,x6,x7,x8⟩:=ndRow (HT.out.agree (below_all HB.out)) p hp
     have hbl:b<w.heap.size:=ndBlk (hA▸HT.out) (by omega)
     subst hA
     have HNDP:=Lib.hid (show ndAt (ls.map Ln.nd) p=ls[p].nd from by simp[ndAt,List.getElem?_map,List.getElem?_eq_getElem hp])
     have HKID:=Lib.hid (show kidsAt (ls.map Ln.nd) p=ls[p].nd.kids.map Int.toNat from by simp[kidsAt,List.getElem?_map,List.getElem?_eq_getElem hp])
     have HWF:=Lib.hid (ndWf HT.out p hp)
     have HKR:=Lib.hid (show ∀w',Below w.heap.size w w'→intL.row w' S ls[p].A ls[p].nd.kids from fun w' h=>ndSub (HT.out.agree (below_all h)) p hp)
     have HKL:=Lib.hid (show ls[p].nd.kids.length≤p from right_kids_len HR.out (i:=p) (n:=ls[p].nd) (by simp only;rw[List.getElem?_map,List.getElem?_eq_getElem hp];rfl))
     have HKZ:=Lib.hid (show ∀z∈ls[p].nd.kids,0≤z∧z<(p:Int)from fun z hz=>rightP_kid HR.out (i:=p) (n:=ls[p].nd) (by simp only;rw[List.getElem?_map,List.getElem?_eq_getElem hp];rfl) hz)
     generalize ls[p]=x at *
     have HS15:=Lib.hid (show ∀w',Below wr.heap.size wr w'→w'.cell? ⟨w.heap.size,0,none⟩=some (.slice (some ⟨b,o,none⟩) ls.length c)∧w'.cell? ⟨g,d,none⟩=some (.int .i64 (p:Int))∧w'.cell? ⟨b,o+p*9,none⟩=some (.int .u8 x.nd.kind)∧w'.cell? ⟨b,o+p*9+1,none⟩=some (.int .u64 x.nd.s0)∧w'.cell? ⟨b,o+p*9+2,none⟩=some (.int .u64 x.nd.s1)∧w'.cell? ⟨b,o+p*9+3,none⟩=some (.int .u64 x.nd.s2)∧w'.cell? ⟨b,o+p*9+4,none⟩=some (.int .u64 x.nd.s3)∧w'.cell? ⟨b,o+p*9+5,none⟩=some (.string x.nd.text)∧w'.cell? ⟨b,o+p*9+6,none⟩=some (.int .i64 x.nd.mn)∧w'.cell? ⟨b,o+p*9+7,none⟩=some (.int .i64 x.nd.mx)∧w'.cell? ⟨b,o+p*9+8,none⟩=some (.slice x.A x.nd.kids.length x.c)from fun w' h=>⟨(h.cell (by show w.heap.size<_;omega)).trans (blk2 HK.out.1).1,(h.cell (by show g<_;omega)).trans (own_cell HO6.out d (by omega) HBC.out),(h.cell (by exact cellLt x0)).trans x0,(h.cell (by exact cellLt x1)).trans x1,(h.cell (by exact cellLt x2)).trans x2,(h.cell (by exact cellLt x3)).trans x3,(h.cell (by exact cellLt x4)).trans x4,(h.cell (by exact cellLt x5)).trans x5,(h.cell (by exact cellLt x6)).trans x6,(h.cell (by exact cellLt x7)).trans x7,(h.cell (by exact cellLt x8)).trans x8⟩)
     clear x0 x1 x2 x3 x4 x5 x6 x7 x8
     go_upto_region 15 with(fail)
     go_region_held3 (fun w'=>w'.cell? ⟨w.heap.size,0,none⟩=some (.slice (some ⟨b,o,none⟩) ls.length c)∧w'.cell? ⟨g,d,none⟩=some (.int .i64 (p:Int))∧w'.cell? ⟨b,o+p*9,none⟩=some (.int .u8 x.nd.kind)∧w'.cell? ⟨b,o+p*9+1,none⟩=some (.int .u64 x.nd.s0)∧w'.cell? ⟨b,o+p*9+2,none⟩=some (.int .u64 x.nd.s1)∧w'.cell? ⟨b,o+p*9+3,none⟩=some (.int .u64 x.nd.s2)∧w'.cell? ⟨b,o+p*9+4,none⟩=some (.int .u64 x.nd.s3)∧w'.cell? ⟨b,o+p*9+5,none⟩=some (.string x.nd.text)∧w'.cell? ⟨b,o+p*9+6,none⟩=some (.int .i64 x.nd.mn)∧w'.cell? ⟨b,o+p*9+7,none⟩=some (.int .i64 x.nd.mx)∧w'.cell? ⟨b,o+p*9+8,none⟩=some (.slice x.A x.nd.kids.length x.c))
      (exact HS15.out _ (by first|exact HB3.out|exact HB3.out.drew|exact HB3.out.drew.alloc (by have:=HZ3.out;show wr.heap.size≤wo.heap.size;omega) _))
      (fail)
     have HN3:=Lib.hid (show(wo.alloc (.cells #[.int .u8 x.nd.kind,.int .u64 x.nd.s0,.int .u64 x.nd.s1,.int .u64 x.nd.s2,.int .u64 x.nd.s3,.string x.nd.text,.int .i64 x.nd.mn,.int .i64 x.nd.mx,.slice x.A x.nd.kids.length x.c] 35)).drew.heap[wo.heap.size]?=some (.cells #[.int .u8 x.nd.kind,.int .u64 x.nd.s0,.int .u64 x.nd.s1,.int .u64 x.nd.s2,.int .u64 x.nd.s3,.string x.nd.text,.int .i64 x.nd.mn,.int .i64 x.nd.mx,.slice x.A x.nd.kids.length x.c] 35 (0,0))from bx_new wo _)
     have HE3:=Lib.hid (show ∀y,y<wo.heap.size→(wo.alloc (.cells #[.int .u8 x.nd.kind,.int .u64 x.nd.s0,.int .u64 x.nd.s1,.int .u64 x.nd.s2,.int .u64 x.nd.s3,.string x.nd.text,.int .i64 x.nd.mn,.int .i64 x.nd.mx,.slice x.A x.nd.kids.length x.c] 35)).drew.heap[y]?=wo.heap[y]? from fun y hy=>Below.heap_alloc wo _ y hy)
     have HB4:=Lib.hid (show Below wr.heap.size wr (wo.alloc (.cells #[.int .u8 x.nd.kind,.int .u64 x.nd.s0,.int .u64 x.nd.s1,.int .u64 x.nd.s2,.int .u64 x.nd.s3,.string x.nd.text,.int .i64 x.nd.mn,.int .i64 x.nd.mx,.slice x.A x.nd.kids.length x.c] 35)).drew from(HB3.out.alloc (by have:=HZ3.out;omega) _).drew)
     have HZ4:=Lib.hid (show(wo.alloc (.cells #[.int .u8 x.nd.kind,.int .u64 x.nd.s0,.int .u64 x.nd.s1,.int .u64 x.nd.s2,.int .u64 x.nd.s3,.string x.nd.text,.int .i64 x.nd.mn,.int .i64 x.nd.mx,.slice x.A x.nd.kids.length x.c] 35)).drew.heap.size=wo.heap.size+1 from by show(wo.alloc _).heap.size=_;simp)
     have HPL2:=Lib.hid (show(wo.alloc (.cells #[.int .u8 x.nd.kind,.int .u64 x.nd.s0,.int .u64 x.nd.s1,.int .u64 x.nd.s2,.int .u64 x.nd.s3,.string x.nd.text,.int .i64 x.nd.mn,.int .i64 x.nd.mx,.slice x.A x.nd.kids.length x.c] 35)).drew.ownsRow wr.heap.size 3 1 (.slice (some ⟨wr.heap.size,0,none⟩) ls.length ls.length) ls.length pl from own_agree HPL1.out (fun y hy=>by cases hy;exact HE3.out _ HZ3.out))
     obtain⟨plp,hplp⟩:∃u,pl[p]?=some u:=⟨_,List.getElem?_eq_getElem (show p<pl.length by have:=HPL1.out.1;omega)⟩
     have c0:=own_cell HPL2.out p hp hplp
     have c1:=World.ownsRow.frozenAt HPL2.out p
     obtain⟨_,c2,_⟩:=HS15.out _ HB4.out
     generalize (wo.alloc (.cells #[.int .u8 x.nd.kind,.int .u64 x.nd.s0,.int .u64 x.nd.s1,.int .u64 x.nd.s2,.int .u64 x.nd.s3,.string x.nd.text,.int .i64 x.nd.mn,.int .i64 x.nd.mx,.slice x.A x.nd.kids.length x.c] 35)).drew=W3 at *
     have HNB:=Lib.hid HZ3.out
     have HBW3:=Lib.hid (show Below wr.heap.size wo W3 from⟨HB4.out.os.trans HB3.out.os.symm,HB4.out.tape.trans HB3.out.tape.symm,HB4.out.output.trans HB3.out.output.symm,by have:=HZ4.out;omega,fun y hy=>HE3.out y (by have:=HZ3.out;omega)⟩)
     generalize hnb:wo.heap.size=nb at *
     have HNBE:=Lib.hid hnb
     clear hnb
     go_upto_region 17 with(fail)
     have HPL4:=Lib.hid (World.ownsRow.stored HPL2.out p (.int .i64 (k:Int))).1
     have HE4:=Lib.hid (show ∀y,y≠wr.heap.size→(W3.setCell ⟨wr.heap.size,p,none⟩ (.int .i64 (k:Int))).heap[y]?=W3.heap[y]? from fun y hy=>Below.heap_setCell _ _ _ _ hy)
     have HZ5:=Lib.hid (show(W3.setCell ⟨wr.heap.size,p,none⟩ (.int .i64 (k:Int))).heap.size=nb+1 from by have:=HZ4.out;simpa using this)
     have HB5:=Lib.hid (show Below wr.heap.size wr (W3.setCell ⟨wr.heap.size,p,none⟩ (.int .i64 (k:Int)))from HB4.out.setCell (p:=⟨wr.heap.size,p,none⟩) (Nat.le_refl _) _)
     clear c0 c1 c2 HPL2
     generalize W3.setCell ⟨wr.heap.size,p,none⟩ (.int .i64 (k:Int))=W4 at *
     have HN4:=Lib.hid ((HE4.out nb (by have:=HNB.out;omega)).trans HN3.out)
     have HPLK:=Lib.hid (show ∀z:Nat,z<p→z∈kidsAt (ls.map Ln.nd) p→(pl.set p (.int .i64 (k:Int)))[z]?=some (.int .i64 ((P.idxOf z:Nat):Int))from fun z hzp hz=>by
      obtain⟨j,hjk,hj⟩:=HKBK.out z hz
      rw[List.getElem?_set_ne (by omega),idx_of HND.out hj]
      exact HPLS.out j z hjk hj)
     go_wp2_with fail
     have hkl:x.nd.kids.length≤16777216:=by have:=HKL.out;omega
     have hksl:(intL.all (placed P x.nd).kids).length=x.nd.kids.length:=by rw[intL.all_length];show(x.nd.kids.map _).length*1=_;simp
     have HKSL:=Lib.hid hksl;clear hksl
     go_loopw [13,14] (fun v13 v14 wx=>SubRel3 W4 nb (intL.all (placed P x.nd).kids) v13 v14 wx) (fun _ v14 _=>x.nd.kids.length-(intOf v14).toNat)
     case atStart=>exact⟨0,none,0,Nat.zero_le _,rfl,rfl,Lib.hid (World.ownsRow_nil _ _ _ _),Lib.hid (Below.refl _ _),Lib.hid (by have:=HZ5.out;omega)⟩
     case round=>
      obtain⟨wx,rfl⟩:∃wx:World,wx=wr:=⟨_,rfl⟩
      obtain⟨q,U,uc,hq,rfl,rfl,HU,HBX,HZX⟩:=hrel
      rw[HKSL.out]at hq
      have HNX:=Lib.hid ((HBX.out.block nb (by omega)).trans HN4.out)
      obtain⟨_,_,_,_,_,_,_,_,y8,_,_,_,_,_,_,_,_,z8⟩:=blk9 HNX.out
      by_cases hql:q<x.nd.kids.length
      ·obtain⟨kb,ko,hkA,_,hkb,y0⟩:=intRow (HKR.out wx (HB.out.trans ((HB5.out.mono (by have:=HB.out.size;omega)).trans (HBX.out.mono (by have:=HB.out.size;have:=HNB.out;omega))))) q hql
       have HZQ:=Lib.hid (HKZ.out x.nd.kids[q] (List.getElem_mem hql))
       have HKM:=Lib.hid (show x.nd.kids[q].toNat∈kidsAt (ls.map Ln.nd) p from by rw[HKID.out];exact List.mem_map.2 ⟨_,List.getElem_mem hql,rfl⟩)
       have HTQ:=Lib.hid (show(intL.all (placed P x.nd).kids).take (q+1)=(intL.all (placed P x.nd).kids).take q++[.int .i64 ((P.idxOf x.nd.kids[q].toNat:Nat):Int)]from by
        rw[List.take_succ_eq_append_getElem (by rw[HKSL.out];exact hql)]
        congr 1
        simp[intL_all,placed])
       generalize x.nd.kids[q]=z at *
       obtain⟨zz,rfl⟩:=Int.eq_ofNat_of_zero_le HZQ.out.1
       have hzp:zz<p:=by have:=HZQ.out.2;omega
       simp only[Int.toNat_natCast]at HKM HTQ
       have c0:=own_cell (own_agree HPL4.out (fun y hy=>by cases hy;exact HBX.out.block wr.heap.size (by have:=HNB.out;omega))) zz (by omega) (HPLK.out zz hzp HKM.out)
       rw[hkA]at y8
       clear hkA
       have i3:(q:Int)<(x.nd.kids.length:Int):=by omega
       have i4:(0:Int)≤(q:Int):=by omega
       have i5:(zz:Int)<(ls.length:Int):=by omega
       have i6:(0:Int)≤(zz:Int):=by omega
       generalize P.idxOf zz=jz at *
       have F4:=Lib.hid (show q+1≤maxLen∧(q+1)*8≤140737488355328∧nb+1≤(wx.alloc (.cells #[.int .i64 (jz:Int)] 3)).heap.size from⟨by unfold maxLen;omega,by omega,by have:=HZX.out;simp;omega⟩)
       go_wp2_with (at_builtin;refine wpList_append_at _ rfl (.tmp 92) (.tmp 101) 33 rfl (nb+1) 3 i0 (.int .i64 0) 1 8 Tryd.underlying33 hi hz0 hz1 hz2 rfl (by decide) U uc q ((intL.all (placed P x.nd).kids).take q) rfl (World.ownsRow.alloc HU.out _) (some ⟨wx.heap.size,0,none⟩) 1 1 [.int .i64 (jz:Int)] rfl rfl (row_blk (bx_new wx _)) (fun u hu=>by simp only[List.mem_singleton]at hu;subst hu;rfl) F4.out.1 F4.out.2.1 F4.out.2.2 ?_;intro U' uc' w6 HU6 HG6 HA6)
       exact⟨⟨q+1,U',uc',by rw[HKSL.out];omega,by go_num,rfl,Lib.hid (by rw[HTQ.out];exact HU6.out),Lib.hid (HBX.out.trans (((Below.refl _ wx).alloc HZX.out _).trans (below_grownA (World.ownsRow.alloc HU.out _) HG6.out (Nat.le_refl _) F4.out.2.2))),Lib.hid (by have:=HG6.out.size;have:=F4.out.2.2;omega)⟩,by simp[intOf];omega⟩
      ·obtain rfl:q=x.nd.kids.length:=by omega
       have HX7:=Lib.hid (set_blk9 (u:=(.slice U x.nd.kids.length uc)) HNX.out)
       have HE7:=Lib.hid (show ∀y,y≠nb→(wx.setCell ⟨nb,8,none⟩ (.slice U x.nd.kids.length uc)).heap[y]?=wx.heap[y]? from fun y hy=>Below.heap_setCell _ _ _ _ hy)
       have HZ7:=Lib.hid (show(wx.setCell ⟨nb,8,none⟩ (.slice U x.nd.kids.length uc)).heap.size=wx.heap.size from by simp)
       have HB7:=Lib.hid (show Below wr.heap.size wr (wx.setCell ⟨nb,8,none⟩ (.slice U x.nd.kids.length uc))from(HB5.out.trans (HBX.out.mono (by have:=HNB.out;omega))).setCell (p:=⟨nb,8,none⟩) (by have:=HNB.out;show wr.heap.size≤nb;omega) _)
       go_upto_region 23 with(fail)
       generalize wx.setCell ⟨nb,8,none⟩ (.slice U x.nd.kids.length uc)=w7 at *
       clear y8 z8
       have HCH:=Lib.hid (show ∀y,y<nb→y≠wr.heap.size→w7.heap[y]?=wo.heap[y]? from fun y h1 h2=>(HE7.out y (by omega)).trans ((HBX.out.block y (by omega)).trans ((HE4.out y h2).trans (HE3.out y h1))))
       have HVB:=Lib.hid (show ∀y,blkOf V=some y→wr.heap.size+1≤y∧y<nb from fun y hy=>by have h:=own_blk HO3.out y hy;have:=HNBE.out;omega)
       have HO3b:=Lib.hid (show(w7.alloc (.cells #[.int .u8 x.nd.kind,.int .u64 x.nd.s0,.int .u64 x.nd.s1,.int .u64 x.nd.s2,.int .u64 x.nd.s3,.string x.nd.text,.int .i64 x.nd.mn,.int .i64 x.nd.mx,.slice U x.nd.kids.length uc] 35)).ownsRow (wr.heap.size+1) 35 9 (.slice V k vc) k (ndL.all ls')from World.ownsRow.alloc (own_agree HO3.out (fun y hy=>HCH.out y ((HVB.out y hy).2) (by have:=(HVB.out y hy).1;omega))) _)
       have HNO:=Lib.hid (show ∀u∈([.int .u8 x.nd.kind,.int .u64 x.nd.s0,.int .u64 x.nd.s1,.int .u64 x.nd.s2,.int .u64 x.nd.s3,.string x.nd.text,.int .i64 x.nd.mn,.int .i64 x.nd.mx,.slice U x.nd.kids.length uc]:List Value),u.oneCell'=true from(fun u hu=>by simp only[List.mem_cons,List.not_mem_nil,or_false]at hu;rcases hu with rfl|rfl|rfl|rfl|rfl|rfl|rfl|rfl|rfl <;> rfl))
       have HFF:=Lib.hid (show k+1≤maxLen∧(k+1)*96≤140737488355328∧wr.heap.size+1≤(w7.alloc (.cells #[.int .u8 x.nd.kind,.int .u64 x.nd.s0,.int .u64 x.nd.s1,.int .u64 x.nd.s2,.int .u64 x.nd.s3,.string x.nd.text,.int .i64 x.nd.mn,.int .i64 x.nd.mx,.slice U x.nd.kids.length uc] 35)).heap.size from⟨by unfold maxLen;omega,by omega,by have h1:=HZ7.out;have h2:=HZX.out;have:=HNB.out;simp;omega⟩)
       refine wp_region_list ?_
       refine wpList_val rfl (exec_move rfl rfl) ?_
       refine wpList_val rfl (exec_load rfl rfl (load9 w7 nb _ _ _ _ _ _ _ _ _ _ HX7.out)) ?_
       refine wpList_val rfl (exec_build rfl rfl (build9 w7 _ _ _ _ _ _ _ _ _)) ?_
       refine wpList_append_at _ rfl (.tmp 105) (.tmp 107) 23 rfl (wr.heap.size+1) 35 j0 _ 9 96 Tryd.underlying23 hj hy0 hy1 hy2 rfl (by decide) V vc k (ndL.all ls') rfl HO3b.out (some ⟨w7.heap.size,0,none⟩) 1 1 [.int .u8 x.nd.kind,.int .u64 x.nd.s0,.int .u64 x.nd.s1,.int .u64 x.nd.s2,.int .u64 x.nd.s3,.string x.nd.text,.int .i64 x.nd.mn,.int .i64 x.nd.mx,.slice U x.nd.kids.length uc] rfl rfl (row_blk (bx_new w7 _)) HNO.out HFF.out.1 HFF.out.2.1 HFF.out.2.2 ?_
       intro V' vc' w8 HO8 HG8 HA8
       simp only[Act.put,List.setIfInBounds_toArray,List.set_cons_zero,List.set_cons_succ]
       have hz7:=HZ7.out;have hzx:=HZX.out;have hnb:=HNB.out
       have h8s:w7.heap.size+1≤w8.heap.size:=by have h:=HG8.out.size;simpa using h
       have hK8:∀y,y<w7.heap.size→blkOf V≠some y→w8.heap[y]?=w7.heap[y]? :=fun y h1 h2=>(HG8.out.block y (by simp;omega) (fun e=>h2 e.symm)).trans (Below.heap_alloc _ _ y h1)
       have hVV:∀y,y<w7.heap.size→blkOf V≠some y→blkOf V'≠some y:=fun y h1 h2 e=>by
        rcases HA8.out with h|h
        ·exact h2 (h▸e)
        ·rw[h]at e;injection e with e;rw[World.size_alloc]at e;omega
       have hB8:Below wr.heap.size wr w8:=(HB7.out.alloc (by omega) _).grown HG8.out (by simp;omega) (fun y hy=>by have:=(HVB.out y hy).1;omega)
       have hZV:blkOf V≠some wr.heap.size:=fun e=>by have:=(HVB.out _ e).1;omega
       have HQ8:=Lib.hid (And.intro hK8 (And.intro hVV (And.intro hB8 (And.intro hZV h8s))))
       clear hK8 hVV hB8 hZV h8s
       go_wp2_with fail
       obtain⟨hK8,hVV,hB8,hZV,h8s⟩:=HQ8.out
       refine⟨⟨k+1,ls'++[⟨placed P x.nd,U,uc⟩],pl.set p (.int .i64 (k:Int)),V',vc',hlt,?_,rfl,Lib.hid ?_,Lib.hid ?_,Lib.hid ?_,Lib.hid ?_,Lib.hid ?_,Lib.hid hB8,Lib.hid (by omega)⟩,?_⟩
       ·have:=HDK.out
        congr 1;omega
       ·exact own_agree HPL4.out (fun y hy=>by cases hy;exact(hK8 wr.heap.size (by omega) hZV).trans ((HE7.out _ (by omega)).trans (HBX.out.block _ (by omega))))
       ·intro j q hj hq
        by_cases e:j=k
        ·subst e
         rw[HKP.out]at hq;cases hq
         rw[List.getElem?_set_self (by have:=HPL1.out.1;omega)]
        ·have h1:=HPLS.out j q (by omega) hq
         rw[List.getElem?_set_ne (fun e2=>e ?_)]
         ·exact h1
         ·subst e2
          exact(idx_of HND.out hq).symm.trans (idx_of HND.out HKP.out)
       ·have h:=HO8.out
        rw[Lay.all_append,Lay.all_one,show ndL.cells ⟨placed P x.nd,U,uc⟩=[.int .u8 x.nd.kind,.int .u64 x.nd.s0,.int .u64 x.nd.s1,.int .u64 x.nd.s2,.int .u64 x.nd.s3,.string x.nd.text,.int .i64 x.nd.mn,.int .i64 x.nd.mx,.slice U x.nd.kids.length uc]by simp[ndL,placed]]
        exact h
       ·rw[HTK.out,List.map_append,List.map_append,HLS.out]
        simp[HNDP.out]
       ·intro l hl
        rcases List.mem_append.1 hl with hl|hl
        ·have h1:=(HOW.out l hl).mono (T:=fun y=>y<nb∧wr.heap.size<y∧blkOf V≠some y) (fun y a b=>⟨by have:=HNBE.out;omega,b⟩)
         exact(h1.agree (fun y hy _=>(hK8 y (by omega) hy.2.2).trans (HCH.out y hy.1 (by omega)))).mono (fun y _ hy=>⟨hy.2.1,hVV y (by omega) hy.2.2⟩)
        ·simp only[List.mem_singleton]at hl
         subst hl
         refine⟨placed_wf HWF.out,?_⟩
         have hkl2:(placed P x.nd).kids.length=x.nd.kids.length:=by simp[placed]
         show OwnS w8 _ _ 1 U (placed P x.nd).kids.length uc (intL.all (placed P x.nd).kids)
         have h7:OwnS wx (fun y=>nb+1≤y∧y<wx.heap.size) 3 1 U x.nd.kids.length uc (intL.all (placed P x.nd).kids):=by
          have h:=HU.out
          rw[List.take_of_length_le (by rw[HKSL.out];exact Nat.le_refl _)]at h
          exact⟨own_mono h (Nat.zero_le _),fun y hy=>own_blk h y hy⟩
         rw[hkl2]
         have hVn:∀y,nb+1≤y→blkOf V≠some y:=fun y h e=>by have:=(HVB.out y e).2;omega
         exact(h7.agree (fun y hy _=>(hK8 y (by omega) (hVn y hy.1)).trans (HE7.out y (by omega)))).mono (fun y _ hy=>⟨by omega,hVV y (by omega) (hVn y hy.1)⟩)
       ·simp[intOf]
    ·obtain rfl:k=P.length:=by omega
     rw[show(P.length:Int)-1-(P.length:Int) = -1 by omega]at hv
     subst hv
     have HKO:=Lib.hid ((HB3.out.block (w.heap.size+1) (by have:=HZ.out;omega)).trans HK.out.2)
     obtain⟨s1,s2,s3,s4⟩:=blk2 HKO.out
     have HRS:=Lib.hid (show ∀y,y≠w.heap.size+1→((wo.setCell ⟨w.heap.size+1,0,none⟩ (.slice V P.length vc)).setCell ⟨w.heap.size+1,1,none⟩ (.int .i64 ((P.length:Int)-1))).heap[y]?=wo.heap[y]? from fun y hy=>(Below.heap_setCell _ _ _ _ hy).trans (Below.heap_setCell _ _ _ _ hy))
     have HLL:=Lib.hid (show ls'.length=P.length from by have h:=congrArg List.length HLS.out;rw[List.length_map,List.length_map,List.length_take,Nat.min_self]at h;exact h)
     have HBF:=Lib.hid (show Below w.heap.size w ((wo.setCell ⟨w.heap.size+1,0,none⟩ (.slice V P.length vc)).setCell ⟨w.heap.size+1,1,none⟩ (.int .i64 ((P.length:Int)-1)))from((HB.out.trans (HB3.out.mono HB.out.size)).setCell (p:=⟨w.heap.size+1,0,none⟩) (by simp) _).setCell (p:=⟨w.heap.size+1,1,none⟩) (by simp) _)
     go_wp2_with fail
     refine bodyPost_ret (v:=.tuple #[.agg #[.slice V P.length vc,.int .i64 ((P.length:Int)-1)],.bool true]) (by simp[results,Tryd.results71,go_sem,s1,s2]) rfl ?_
     have hz:=HZ.out
     refine⟨⟨V,vc,ls',(P.length:Int)-1⟩,by simp only[Lt.val];rw[HLL.out],?_,⟨by show ls'.length≤_;rw[HLL.out];omega,?_,fun l hl=> ?_⟩,HBF.out⟩
     ·show Tr.mk (ls'.map Ln.nd) _=_
      rw[HLS.out,List.take_length]
     ·show OwnS _ _ _ 9 V ls'.length vc (ndL.all ls')
      rw[HLL.out]
      exact⟨own_agree (own_mono HO3.out (Nat.zero_le _)) (fun y hy=>HRS.out y (by have:=(own_blk HO3.out y hy).1;omega)),fun y hy=>by have:=(own_blk HO3.out y hy).1;show w.heap.size≤y;omega⟩
     ·exact((HOW.out l hl).agree (fun y hy _=>HRS.out y (by have:=hy.1;omega))).mono (fun y _ hy=>by have:=hy.1;show w.heap.size≤y;omega)
  ·rw[List.concat_eq_append]at ho;subst ho
   have hil:i<ls.length:=by have:=(walk_mem HAH.out (by rw[HPD.out];exact HE.out)).1 i (by simp);omega
   obtain⟨m',rfl⟩:∃m',m=m'+1:=⟨o'.length,by rw[HM.out];simp⟩
   have HM':=Lib.hid (show m'=o'.length by have:=HM.out;simp at this;exact this)
   obtain⟨g,hg,hg1,hg2⟩:=own_some HO7.out (by omega)
   subst hg
   have c0:=own_cell HO7.out m' (by omega) (u:=.int .i64 (i:Int)) (by rw[HM'.out];simp[natsV])
   have hmb:m'+1+n≤ls.length:=by have h1:=HWB.out;rw[HPD.out]at h1;have h2:=HPL.out;have h3:=HM.out;have h4:=HNN.out;omega
   have HKV:=Lib.hid (show intL.all ls[i].nd.kids=natsV (kidsAt (ls.map Ln.nd) i)by
    have:=kids_nats (ls.map Ln.nd) i (by simpa using hil) (fun k hk=>(rightP_kid HR.out (i:=i) (n:=(ls.map Ln.nd)[i]'(by simpa using hil)) (List.getElem?_eq_getElem _) hk).1)
    simpa using this)
   have hkn:(kidsAt (ls.map Ln.nd) i).length=ls[i].nd.kids.length:=by simp[kidsAt,List.getElem?_eq_getElem hil]
   have HE2:=Lib.hid (walk_step HAH.out (j:=node) (by rw[HPD.out];exact HE.out))
   have hmk:m'+ls[i].nd.kids.length+(n+1)≤ls.length:=by
    have h1:=walk_bound HE2.out;rw[HPD.out]at h1;have h2:=HPL.out;have h3:=HM'.out;have h4:=HNN.out
    simp only[List.length_append,hkn,List.length_singleton]at h1;omega
   have HKN:=Lib.hid hkn;clear hkn
   have i1:(i:Int)<(ls.length:Int):=by omega
   have i2:(0:Int)≤(i:Int):=by omega
   have hcap:=own_cap HO7.out
   have e3:(m':Int)≤(c7:Int):=by omega
   have e4:(0:Int)≤(m':Int):=by omega
   have e1:IntKind.i64.wrap ((m':Int)+1-1)=(m':Int):=by rw[IntWalk.i64_in _ (by omega)];omega
   have e5:IntKind.i64.wrap (m':Int)=(m':Int):=IntWalk.i64_in _ (by omega)
   have HCUT:=Lib.hid (show wr.ownsRow (w.heap.size+2) 3 1 (.slice (some ⟨g,0,none⟩) m' c7) m' (natsV o')by
    have:=own_cut HO7.out (m:=m') (by omega)
    rw[natsV_append,Nat.mul_one,List.take_left' (by rw[natsV_length];exact HM'.out.symm)]at this
    exact this)
   have HO6b:=Lib.hid (show(wr.alloc (.cells #[.int .i64 (i:Int)] 3)).ownsRow (w.heap.size+2) 3 1 (.slice V6 n c6) n (natsV seen)from World.ownsRow.alloc HO6.out _)
   have F2:=Lib.hid (show n+1≤maxLen∧(n+1)*8≤140737488355328∧w.heap.size+2≤(wr.alloc (.cells #[.int .i64 (i:Int)] 3)).heap.size from⟨by unfold maxLen;omega,by omega,by have:=HZ.out;simp;omega⟩)
   have F3:=Lib.hid (show m'+ls[i].nd.kids.length≤maxLen∧(m'+ls[i].nd.kids.length)*8≤140737488355328 from⟨by unfold maxLen;omega,by omega⟩)
   obtain⟨b,o,hA,_,_,_,_,_,_,_,_,_,_,x8⟩:=ndRow (HT.out.agree (below_all HB.out)) i hil
   have hbl:b<w.heap.size:=ndBlk (hA▸HT.out) (by omega)
   subst hA
   have HS2:=Lib.hid (show ∀w',Below (w.heap.size+2) wr w'→w'.cell? ⟨w.heap.size,0,none⟩=some (.slice (some ⟨b,o,none⟩) ls.length c)∧w'.cell? ⟨b,o+i*9+8,none⟩=some (.slice ls[i].A ls[i].nd.kids.length ls[i].c)from
    fun w' hb=>⟨(hb.cell (by show w.heap.size<_;omega)).trans (blk2 HK.out.1).1,(hb.cell (by show b<_;omega)).trans x8⟩)
   have HKR:=Lib.hid (show ∀w',Below w.heap.size w w'→intL.row w' S ls[i].A ls[i].nd.kids from fun w' h=>ndSub (HT.out.agree (below_all h)) i hil)
   clear x8
   go_wp2_with (first
    |(at_builtin;refine wpList_append_at _ rfl (.tmp 46) (.tmp 48) 33 rfl (w.heap.size+2) 3 i0 (.int .i64 0) 1 8 Tryd.underlying33 hi hz0 hz1 hz2 rfl (by decide) V6 c6 n (natsV seen) rfl HO6b.out (some ⟨wr.heap.size,0,none⟩) 1 1 (natsV [i]) rfl (by simp[natsV]) (row_blk (bx_new wr _)) (natsV_one _) F2.out.1 F2.out.2.1 F2.out.2.2 ?_;intro V' vc' w2 HO2 HG2 HA2;have HB2:=Lib.hid (show Below (w.heap.size+2) wr w2 from((Below.refl _ wr).alloc HZ.out _).trans (below_grownA HO6b.out HG2.out (Nat.le_refl _) F2.out.2.2));have HB2w:=Lib.hid (show Below w.heap.size w w2 from HB.out.trans (HB2.out.mono (by omega)));have HC2:=Lib.hid (kept_apart (World.ownsRow.alloc HCUT.out _) HG2.out HAP.out);have HZ2:=Lib.hid (show w.heap.size+2≤w2.heap.size from Nat.le_trans HZ.out HB2.out.size);obtain⟨p1,p8⟩:=HS2.out w2 HB2.out)
    |(at_builtin;refine wpList_append_at _ rfl (.tmp 50) (.tmp 56) 33 rfl (w.heap.size+2) 3 i0 (.int .i64 0) 1 8 Tryd.underlying33 hi hz0 hz1 hz2 rfl (by decide) (some ⟨g,0,none⟩) c7 m' (natsV o') rfl HC2.out ls[i].A ls[i].nd.kids.length ls[i].c (intL.all ls[i].nd.kids) rfl (by rw[intL.all_length];rfl) (HKR.out _ HB2w.out).rowAt (intL.all_one' _) F3.out.1 F3.out.2 HZ2.out ?_;intro V'' vc'' w3 HO3 HG3 HA3)
    |fail)
   have HB3:=Lib.hid (show Below (w.heap.size+2) wr w3 from HB2.out.trans (below_grownA HC2.out HG3.out (Nat.le_refl _) HZ2.out))
   have HA:=Lib.hid (show ApartB V' (some ⟨g,0,none⟩)from HAP.out.grown (n:=(wr.alloc (.cells #[.int .i64 (i:Int)] 3)).heap.size) (fun k hk=>by have:=(own_blk HO7.out k hk).2;simp;omega) HA2.out)
   refine⟨⟨o'++kidsAt (ls.map Ln.nd) i,seen++[i],V',V'',vc',vc'',_,_,rfl,rfl,Lib.hid (by rw[List.length_append,HKN.out,HM'.out]),Lib.hid (by rw[List.length_append,HNN.out];rfl),Lib.hid ?_,Lib.hid ?_,Lib.hid ?_,Lib.hid ?_,Lib.hid ⟨(HB3.out.block _ (by omega)).trans HK.out.1,(HB3.out.block _ (by omega)).trans HK.out.2⟩,Lib.hid (HB.out.trans (HB3.out.mono (by omega))),Lib.hid (Nat.le_trans HZ.out HB3.out.size)⟩,by simp only[sliceLen];omega⟩
   ·rw[natsV_append]
    exact kept_apart HO2.out HG3.out HA.out.symm
   ·rw[natsV_append,←HKV.out];exact HO3.out
   ·exact(HA.out.symm.grown (n:=w2.heap.size) (fun k hk=>(own_blk HO2.out k hk).2) HA3.out).symm
   ·have h:=HE2.out
    rw[HPD.out]at h;exact h
end Go.Proofs.YtdnochjajoiooaaDoor
/- The contracts of bonsairef04.Clean and bonsairef04.Of. -/
namespace Go.Proofs.YtdnochjajoiooaaDoor
open Go.RowKit
set_option linter.unusedSimpArgs false
set_option linter.unusedVariables false
set_option maxRecDepth 100000 in
set_option maxHeartbeats 3200000 in
theorem rclean_any (A:Option Addr) (c:Nat) (ls:List Ln) (root:Nat) (S:Nat→Prop) (w:World) (hT:ndL.row w S A ls) (hl:ls.length≤16777216) (hkl:∀l∈ls,l.nd.kids.length≤4294967296) (hks:(kidsOf (ls.map Ln.nd)).length≤4611686018427387904) (hr:rightP ⟨ls.map Ln.nd,root⟩):
  Calls Tryd.prog 57 #[.agg #[.slice A ls.length c,.int .i64 root]] w (TreePost (takenT ⟨ls.map Ln.nd,root⟩ root) w):=by
 have hn:root<ls.length:=by have h:=hr.1.2;simp only[List.length_map]at h;omega
 have HB0:=Lib.hid (bx2 w (.cells #[.slice A ls.length c,.int .i64 root] 25) (.cells #[.slice none 0 0,.int .i64 0] 25))
 have HC:=Lib.hid (rsub_any A c ls root root S _ (hT.below HB0.out) hl hkl hks hr hn)
 have HK0:=Lib.hid (show ∀w',Below ((w.alloc (.cells #[.slice A ls.length c,.int .i64 root] 25)).alloc (.cells #[.slice none 0 0,.int .i64 0] 25)).heap.size ((w.alloc (.cells #[.slice A ls.length c,.int .i64 root] 25)).alloc (.cells #[.slice none 0 0,.int .i64 0] 25)) w'→w'.heap[w.heap.size+1]?=some (.cells #[.slice none 0 0,.int .i64 0] 25 (0,0))∧w.heap.size+2≤w'.heap.size from fun w' hb=>by
  refine⟨bx_kept hb ?_,by have:=hb.size;simp at this;omega⟩
  have h:=bx_new (w.alloc (.cells #[.slice A ls.length c,.int .i64 root] 25)) (.cells #[.slice none 0 0,.int .i64 0] 25)
  rw[World.size_alloc]at h;exact h)
 have HSZ:=Lib.hid (show ∀x,((w.alloc (.cells #[.slice A ls.length c,.int .i64 root] 25)).alloc (.cells #[.slice none 0 0,.int .i64 0] 25)).heap.size≤x↔w.heap.size+2≤x from fun x=>by simp)
 clear hT hkl hks hr
 unfold TreePost
 go_enter Tryd.func57,Tryd.ntmps57
 go_wp2_with fail
 refine HC.out.mono ?_
 rintro e w1 ⟨⟨A1,c1,l1,r1⟩,he,htr,hto,hb⟩
 simp only[Lt.val]at he;subst he
 have HTR:=Lib.hid htr;have HTO:=Lib.hid hto;have HB1:=Lib.hid (Below.step HB0.out hb);have HK1:=Lib.hid (HK0.out _ hb)
 clear htr hto hb HB0 HK0 HC
 have HN:=Lib.hid (bx_new w1 (.cells #[.slice A1 l1.length c1,.int .i64 r1] 25))
 obtain⟨q1,q2,_,_⟩:=blk2 HN.out
 obtain⟨t1,t2,t3,t4⟩:=blk2 (bx_old (p:=.cells #[.slice A1 l1.length c1,.int .i64 r1] 25) HK1.out.1)
 go_wp2_with fail
 refine bodyPost_ret (v:=.agg #[.slice A1 l1.length c1,.int .i64 r1]) (by simp[results,Tryd.results57,go_sem,t1,t2]) rfl ?_
 refine⟨⟨A1,c1,l1,r1⟩,rfl,HTR.out,?_,((HB1.out.alloc (by have:=HK1.out.2;omega) _).setCell (p:=⟨w.heap.size+1,0,none⟩) (by simp) _).setCell (p:=⟨w.heap.size+1,1,none⟩) (by simp) _⟩
 have h:=HTO.out.below (bx1 w1 (.cells #[.slice A1 l1.length c1,.int .i64 r1] 25))
 refine(h.agree (fun x hx _=> ?_)).mono (fun x _ hx=> ?_)
 ·have hx:=(HSZ.out x).1 hx
  exact(Below.heap_setCell _ _ _ _ (by show x≠w.heap.size+1;omega)).trans (Below.heap_setCell _ _ _ _ (by show x≠w.heap.size+1;omega))
 ·have hx:=(HSZ.out x).1 hx
  show w.heap.size≤x;omega
def ROfRel (w:World) (n:Nd) (ks:List Lt) (v6 v7:Value) (wr:World):Prop:=
 ∃(k m:Nat) (V U:Option Addr) (vc uc:Nat) (ls:List Ln) (li:List Int),k≤ks.length∧v7=.int .i64 k∧v6=.slice V m vc ∧
  Hid (ls.length=m∧li.length=k∧putTs ((ks.drop k).map Lt.tr) (ls.map Ln.nd) li=putTs (ks.map Lt.tr) [] []∧m+((ks.drop k).map fun t=>t.ls.length).sum≤16777216) ∧
  Hid (wr.ownsRow (w.heap.size+2) 35 9 (.slice V m vc) m (ndL.all ls))∧Hid (wr.ownsRow (w.heap.size+2) 3 1 (.slice U k uc) k (intL.all li))∧Hid (ApartB V U) ∧
  Hid (∀l∈ls,NdOwn wr (fun x=>w.heap.size+2≤x∧blkOf V≠some x∧blkOf U≠some x) l) ∧
  Hid (wr.heap[w.heap.size]?=some (.cells #[.int .u8 n.kind,.int .u64 n.s0,.int .u64 n.s1,.int .u64 n.s2,.int .u64 n.s3,.string n.text,.int .i64 n.mn,.int .i64 n.mx,.slice U k uc] 35 (0,0)))∧Hid (wr.heap[w.heap.size+1]?=some (.cells #[.slice none 0 0,.int .i64 0] 25 (0,0)))∧Hid (Below w.heap.size w wr)∧Hid (w.heap.size+2≤wr.heap.size)
def ROfIn (w w3:World) (V:Option Addr) (m:Nat) (ls l3:List Ln) (v6 v10:Value) (wx:World):Prop:=
 ∃(q:Nat) (V':Option Addr) (vc':Nat) (l4:List Ln),q≤l3.length∧v10=.int .i64 q∧v6=.slice V' (m+q) vc'∧Hid (l4.map Ln.nd=(l3.take q).map fun l=>moveN (m:Int) l.nd) ∧
  Hid (wx.ownsRow (w.heap.size+2) 35 9 (.slice V' (m+q) vc') (m+q) (ndL.all (ls++l4)))∧Hid (blkOf V'=blkOf V∨ ∃y,blkOf V'=some y∧w3.heap.size≤y) ∧
  Hid (∀l∈l4,NdOwn wx (fun x=>w3.heap.size≤x∧blkOf V'≠some x) l)∧Hid (∀x,x<w3.heap.size→blkOf V≠some x→wx.heap[x]?=w3.heap[x]?)∧Hid (w3.heap.size≤wx.heap.size)∧Hid (Below w.heap.size w wx)
set_option maxRecDepth 100000 in
set_option maxHeartbeats 12800000 in
theorem rof_any (n:Nd) (K:Value) (L:Option Addr) (lc:Nat) (ks:List Lt) (S:Nat→Prop) (w:World) (hn:n.wf) (hL:ttL.row w S L ks) (hl:ks.length≤16777216) (hsum:(ks.map fun t=>t.ls.length).sum≤16777216) (hkk:∀t∈ks,(∀l∈t.ls,l.nd.kids.length≤4294967296)∧(kidsOf (t.ls.map Ln.nd)).length≤4611686018427387904) (hok:okT n (ks.map Lt.tr)=true):
  Calls Tryd.prog 31 #[ndV n K,.slice L ks.length lc] w fun e w'=>∃v:Lt,e=.returned (.tuple #[v.val,.bool true])∧v.tr=ofT n (ks.map Lt.tr)∧TreeOwn w' (w.heap.size ≤ ·) v∧Below w.heap.size w w':=by
 obtain⟨i0,hi,hz0,hz1,hz2⟩:=info_parts infoInt
 obtain⟨j0,hj,hy0,hy1,hy2⟩:=info_parts infoNode
 have HN:=Lib.hid hn;have HL:=Lib.hid hL;have HSUM:=Lib.hid hsum;have HKK:=Lib.hid hkk
 simp only[okT,Bool.and_eq_true,List.length_map,List.all_eq_true]at hok
 obtain⟨hfit,hall⟩:=hok
 have HAL:=Lib.hid (show ∀t∈ks,rightT t.tr=true from fun t ht=>hall _ (List.mem_map.2 ⟨t,ht,rfl⟩))
 clear hn hL hsum hkk hall
 have HFT:=Lib.hid (fun w'=>rfits_any n K ks.length w' HN.out.1 HN.out.2.1)
 rw[hfit]at HFT
 clear hfit
 go_enter Tryd.func31,Tryd.ntmps31
 have HB0:=Lib.hid (bx2 w (.cells #[.int .u8 n.kind,.int .u64 n.s0,.int .u64 n.s1,.int .u64 n.s2,.int .u64 n.s3,.string n.text,.int .i64 n.mn,.int .i64 n.mx,K] 35) (.cells #[.slice none 0 0,.int .i64 0] 25))
 have HKN:=Lib.hid (bx_old (p:=.cells #[.slice none 0 0,.int .i64 0] 25) (bx_new w (.cells #[.int .u8 n.kind,.int .u64 n.s0,.int .u64 n.s1,.int .u64 n.s2,.int .u64 n.s3,.string n.text,.int .i64 n.mn,.int .i64 n.mx,K] 35)))
 have HKR:=bx_new (w.alloc (.cells #[.int .u8 n.kind,.int .u64 n.s0,.int .u64 n.s1,.int .u64 n.s2,.int .u64 n.s3,.string n.text,.int .i64 n.mn,.int .i64 n.mx,K] 35)) (.cells #[.slice none 0 0,.int .i64 0] 25)
 rw[World.size_alloc]at HKR
 have HKR:=Lib.hid HKR
 go_wp2_with fail
 refine(HFT.out _).mono ?_
 rintro e w1 ⟨rfl,hb1⟩
 have HB1:=Lib.hid (Below.step HB0.out hb1);have HN1:=Lib.hid (bx_kept hb1 HKN.out);have HR1:=Lib.hid (bx_kept hb1 HKR.out)
 have HZ1:=Lib.hid (show w.heap.size+2≤w1.heap.size from by have:=hb1.size;simp at this;omega)
 clear hb1 HB0 HKN HKR HFT
 obtain⟨_,_,_,_,_,_,_,_,y8,_,_,_,_,_,_,_,_,z8⟩:=blk9 HN1.out
 go_upto_region 5 with(fail)
 have HN2:=Lib.hid (set_blk9 (u:=.slice none 0 0) HN1.out)
 have HR2:=Lib.hid ((Below.heap_setCell w1 ⟨w.heap.size,8,none⟩ (.slice none 0 0) (w.heap.size+1) (by show w.heap.size+1≠w.heap.size;omega)).trans HR1.out)
 have HB2:=Lib.hid (show Below w.heap.size w (w1.setCell ⟨w.heap.size,8,none⟩ (.slice none 0 0))from HB1.out.setCell (p:=⟨w.heap.size,8,none⟩) (Nat.le_refl _) _)
 have HZ2:=Lib.hid (show w.heap.size+2≤(w1.setCell ⟨w.heap.size,8,none⟩ (.slice none 0 0)).heap.size from by have:=HZ1.out;simpa using this)
 clear HN1 HR1 HB1 HZ1 y8 z8
 generalize w1.setCell ⟨w.heap.size,8,none⟩ (.slice none 0 0)=w2 at *
 go_wp2_with fail
 go_loopw [6,7] (fun v6 v7 wr=>ROfRel w n ks v6 v7 wr) (fun _ v7 _=>ks.length-(intOf v7).toNat)
 case atStart=>exact⟨0,0,none,none,0,0,[],[],Nat.zero_le _,rfl,rfl,Lib.hid ⟨rfl,rfl,rfl,by simpa using HSUM.out⟩,Lib.hid (World.ownsRow_nil _ _ _ _),Lib.hid (World.ownsRow_nil _ _ _ _),Lib.hid (ApartB.none _),Lib.hid (by simp),HN2,HR2,HB2,HZ2⟩
 case round=>
  clear HN2 HR2 HB2 HZ2
  obtain⟨k,m,V,U,vc,uc,ls,li,hk,rfl,rfl,HM,HO6,HO7,HAP,HND,HKN,HKR,HB,HZ⟩:=hrel
  by_cases hlt:k<ks.length
  ·have i1:(k:Int)<(ks.length:Int):=by omega
   have i2:(0:Int)≤(k:Int):=by omega
   obtain⟨b,o,hLL,_,_,x0,x1⟩:=ttRow (HL.out.below HB.out) k hlt
   subst hLL
   have HXX:=Lib.hid (show ∀w',Below wr.heap.size wr w'→w'.cell? ⟨b,o+k*2,none⟩=some (.slice ks[k].A ks[k].ls.length ks[k].c)∧w'.cell? ⟨b,o+k*2+1,none⟩=some (.int .i64 ks[k].root)from fun w' h=>⟨(h.cell (by exact cellLt x0)).trans x0,(h.cell (by exact cellLt x1)).trans x1⟩)
   have HIN:=Lib.hid (show ∀w',Below w.heap.size w w'→Lt.inn w' S ks[k]from fun w' hb=>(HL.out.below hb).sub k hlt)
   have HDR:=Lib.hid (show ks.drop k=ks[k]::ks.drop (k+1)from List.drop_eq_getElem_cons hlt)
   have HRT:=Lib.hid (HAL.out ks[k] (List.getElem_mem hlt))
   have HKT:=Lib.hid (HKK.out ks[k] (List.getElem_mem hlt))
   generalize ks[k]=t at *
   obtain⟨A,c,ts,root⟩:=t
   simp only at x0 x1 HXX HKT
   obtain⟨hlm,hli,hput,hsm⟩:=HM.out
   rw[HDR.out]at hput hsm
   simp only[List.map_cons,List.sum_cons,putTs]at hput hsm
   have HPUT:=Lib.hid hput;have HLI:=Lib.hid hli;have HLM:=Lib.hid hlm
   have htl:ts.length≤16777216:=by omega
   clear hput hli hlm HDR
   have hrp:=(rightT_iff _).1 HRT.out
   obtain⟨rn,rfl⟩:∃rn:Nat,root=(rn:Int):=⟨root.toNat,by have h0:=hrp.1.1;simp only[Lt.tr]at h0;omega⟩
   have HRP:=Lib.hid (show rightP ⟨ts.map Ln.nd,rn⟩from hrp)
   clear hrp
   have hrn:rn<ts.length:=by have h0:=HRP.out.1.2;simp only[List.length_map]at h0;omega
   have HTN:=Lib.hid (show(takenL (ts.map Ln.nd) rn).length=ts.length from by
    have h0:=root_length HRP.out
    simp only[Int.toNat_natCast,List.length_map]at h0
    unfold takenL;rw[List.length_map];exact h0)
   have HRC:=Lib.hid (show ∀w',Below w.heap.size w w'→_ from fun w' h=>rright_any A c ts rn S w' (HIN.out w' h).2 (by omega) HKT.out.1 HKT.out.2)
   have HCC:=Lib.hid (show ∀w',Below w.heap.size w w'→_ from fun w' h=>rclean_any A c ts rn S w' (HIN.out w' h).2 htl HKT.out.1 HKT.out.2 HRP.out)
   rw[show rightT ⟨ts.map Ln.nd,rn⟩=true from HRT.out]at HRC
   go_wp2_with (first
    |(go_at_call 56;refine(HRC.out wr HB.out).mono ?_;rintro e w3 ⟨rfl,hb⟩;have HB3:=Lib.hid (Below.step HB.out hb);have HC3:=Lib.hid hb;clear hb x0 x1;obtain⟨x0,x1⟩:=HXX.out w3 HC3.out)
    |(go_at_call 57;refine(HCC.out w3 HB3.out).mono ?_;rintro e w4 ⟨⟨A3,c3,l3,r3⟩,he,htr,hto,hb⟩;simp only[Lt.val]at he;subst he;have HL3:=Lib.hid (show l3.map Ln.nd=takenL (ts.map Ln.nd) rn from congrArg Tr.nodes htr);have HO3:=Lib.hid hto;have HB4:=Lib.hid (Below.step HB3.out hb);have HC4:=Lib.hid (Below.step HC3.out hb);have HS34:=Lib.hid HC3.out.size;have HS45:=Lib.hid hb.size;clear htr hto hb))
   have hn3:l3.length=ts.length:=by have h0:=congrArg List.length HL3.out;rw[List.length_map]at h0;exact h0.trans HTN.out
   have hpos:0<l3.length:=by omega
   have HN3:=Lib.hid hn3
   have hl3:l3.length≤16777216:=by omega
   have hml:m+l3.length≤16777216:=by omega
   clear hn3
   have HKD:=Lib.hid (show ∀l∈l3,l.nd.kids.length≤ts.length∧ ∀z∈l.nd.kids,0≤z∧z≤(ts.length:Int)from fun l hl=>by
    have h0:=takenL_kids HRP.out rn (by simpa using hrn) l.nd (by simp only;rw[←HL3.out];exact List.mem_map.2 ⟨l,hl,rfl⟩)
    simpa using h0)
   have HBV:=Lib.hid (show(∀x,blkOf V=some x→w.heap.size+2≤x∧x<wr.heap.size)∧ ∀x,blkOf U=some x→w.heap.size+2≤x∧x<wr.heap.size from⟨fun x hx=>own_blk HO6.out x hx,fun x hx=>own_blk HO7.out x hx⟩)
   have HS4:=Lib.hid (show wr.heap.size≤w3.heap.size∧w3.heap.size≤w4.heap.size from⟨HS34.out,HS45.out⟩)
   have HT5:=Lib.hid (bx_new w4 (.cells #[.slice A3 l3.length c3,.int .i64 r3] 25))
   have HZ5:=Lib.hid (show(w4.alloc (.cells #[.slice A3 l3.length c3,.int .i64 r3] 25)).heap.size=w4.heap.size+1 from by simp)
   have HC5:=Lib.hid (show Below wr.heap.size wr (w4.alloc (.cells #[.slice A3 l3.length c3,.int .i64 r3] 25))from HC4.out.alloc (by have:=HS4.out;omega) _)
   have HB5:=Lib.hid (show Below w.heap.size w (w4.alloc (.cells #[.slice A3 l3.length c3,.int .i64 r3] 25))from HB4.out.alloc HB4.out.size _)
   have HE5:=Lib.hid (show ∀y,y<w4.heap.size→(w4.alloc (.cells #[.slice A3 l3.length c3,.int .i64 r3] 25)).heap[y]?=w4.heap[y]? from fun y hy=>Below.heap_alloc w4 _ y hy)
   generalize w4.alloc (.cells #[.slice A3 l3.length c3,.int .i64 r3] 25)=w5 at *
   have HO65:=Lib.hid (own_belowA HO6.out HC5.out)
   clear x0 x1 HXX HRC HCC HIN
   go_loopw [6,10] (fun v6 v10 wx=>ROfIn w w5 V m ls l3 v6 v10 wx) (fun _ v10 _=>l3.length-(intOf v10).toNat)
   case atStart=>exact⟨0,V,vc,[],Nat.zero_le _,rfl,rfl,Lib.hid rfl,Lib.hid (by rw[List.append_nil];exact HO65.out),Lib.hid (Or.inl rfl),Lib.hid (by simp),Lib.hid (fun _ _ _=>rfl),Lib.hid (Nat.le_refl _),HB5⟩
   case round=>
    obtain⟨wx,rfl⟩:∃wx:World,wx=wr:=⟨_,rfl⟩
    obtain⟨q,V',vc',l4,hq,rfl,rfl,HL4,HO8,HVV,HND4,HKP,HZX,HBX⟩:=hrel
    have hs4:=HS4.out;have hz5:=HZ5.out;have hzx:=HZX.out;have hz:=HZ.out
    have HVN:=Lib.hid (show ∀y,wr.heap.size≤y→blkOf V≠some y from fun y h e=>by have:=(HBV.out.1 y e).2;omega)
    have HTX:=Lib.hid ((HKP.out w4.heap.size (by omega) (HVN.out _ (by omega))).trans HT5.out)
    by_cases hql:q<l3.length
    ·have HR3:=Lib.hid (show ndL.row wx (w3.heap.size ≤ ·) A3 l3 from HO3.out.inn.2.agree (fun y hy hyl=>(HKP.out y (by omega) (HVN.out y (by have hy:w3.heap.size≤y:=hy;omega))).trans (HE5.out y hyl)))
     obtain⟨t0,t1,_,_⟩:=blk2 HTX.out
     obtain⟨ab,ao,rfl,_,hab,x0,x1,x2,x3,x4,x5,x6,x7,x8⟩:=ndRow HR3.out q hql
     have HKR:=Lib.hid (ndSub HR3.out q hql)
     have HWF:=Lib.hid (ndWf HR3.out q hql)
     have HKQ:=Lib.hid (HKD.out l3[q] (List.getElem_mem hql))
     have HTQ:=Lib.hid (show l3.take (q+1)=l3.take q++[l3[q]]from List.take_succ_eq_append_getElem hql)
     generalize l3[q]=x at *
     have i3:(q:Int)<(l3.length:Int):=by omega
     have i4:(0:Int)≤(q:Int):=by omega
     go_upto_region 16 with(fail)
     have HN6:=Lib.hid (bx_new wx (.cells #[.int .u8 x.nd.kind,.int .u64 x.nd.s0,.int .u64 x.nd.s1,.int .u64 x.nd.s2,.int .u64 x.nd.s3,.string x.nd.text,.int .i64 x.nd.mn,.int .i64 x.nd.mx,.slice x.A x.nd.kids.length x.c] 35))
     have HZ6:=Lib.hid (show(wx.alloc (.cells #[.int .u8 x.nd.kind,.int .u64 x.nd.s0,.int .u64 x.nd.s1,.int .u64 x.nd.s2,.int .u64 x.nd.s3,.string x.nd.text,.int .i64 x.nd.mn,.int .i64 x.nd.mx,.slice x.A x.nd.kids.length x.c] 35)).heap.size=wx.heap.size+1 from by simp)
     have HE6:=Lib.hid (show ∀y,y<wx.heap.size→(wx.alloc (.cells #[.int .u8 x.nd.kind,.int .u64 x.nd.s0,.int .u64 x.nd.s1,.int .u64 x.nd.s2,.int .u64 x.nd.s3,.string x.nd.text,.int .i64 x.nd.mn,.int .i64 x.nd.mx,.slice x.A x.nd.kids.length x.c] 35)).heap[y]?=wx.heap[y]? from fun y hy=>Below.heap_alloc wx _ y hy)
     have HB6:=Lib.hid (show Below w.heap.size w (wx.alloc (.cells #[.int .u8 x.nd.kind,.int .u64 x.nd.s0,.int .u64 x.nd.s1,.int .u64 x.nd.s2,.int .u64 x.nd.s3,.string x.nd.text,.int .i64 x.nd.mn,.int .i64 x.nd.mx,.slice x.A x.nd.kids.length x.c] 35))from HBX.out.alloc HBX.out.size _)
     have HKR6:=Lib.hid (HKR.out.below (bx1 wx (.cells #[.int .u8 x.nd.kind,.int .u64 x.nd.s0,.int .u64 x.nd.s1,.int .u64 x.nd.s2,.int .u64 x.nd.s3,.string x.nd.text,.int .i64 x.nd.mn,.int .i64 x.nd.mx,.slice x.A x.nd.kids.length x.c] 35)))
     clear x0 x1 x2 x3 x4 x5 x6 x7 x8 t0 t1
     generalize hw6:wx.alloc (.cells #[.int .u8 x.nd.kind,.int .u64 x.nd.s0,.int .u64 x.nd.s1,.int .u64 x.nd.s2,.int .u64 x.nd.s3,.string x.nd.text,.int .i64 x.nd.mn,.int .i64 x.nd.mx,.slice x.A x.nd.kids.length x.c] 35)=w6 at *
     clear hw6
     generalize hnb:wx.heap.size=nb at *
     have HNBE:=Lib.hid hnb
     clear hnb
     have hksl:(intL.all (moveN (m:Int) x.nd).kids).length=x.nd.kids.length:=by rw[intL.all_length];show(x.nd.kids.map _).length*1=_;simp
     have HKSL:=Lib.hid hksl;clear hksl
     go_wp2_with fail
     go_loopw [12,13] (fun v12 v13 wy=>SubRel3 w6 nb (intL.all (moveN (m:Int) x.nd).kids) v12 v13 wy) (fun _ v13 _=>x.nd.kids.length-(intOf v13).toNat)
     case atStart=>exact⟨0,none,0,Nat.zero_le _,rfl,rfl,Lib.hid (World.ownsRow_nil _ _ _ _),Lib.hid (Below.refl _ _),Lib.hid (by have:=HZ6.out;omega)⟩
     case round=>
      obtain⟨wy,rfl⟩:∃wy:World,wy=wr:=⟨_,rfl⟩
      obtain⟨j,Q,qc,hjj,rfl,rfl,HU,HBY,HZY⟩:=hrel
      rw[HKSL.out]at hjj
      have HNY:=Lib.hid ((HBY.out.block nb (by omega)).trans HN6.out)
      obtain⟨_,_,_,_,_,_,_,_,y8,_,_,_,_,_,_,_,_,z8⟩:=blk9 HNY.out
      by_cases hjl:j<x.nd.kids.length
      ·obtain⟨kb,ko,hkA,_,hkb,y0⟩:=intRow HKR6.out j hjl
       have hkb2:kb<nb+1:=by have:=HZ6.out;omega
       have y0:=(HBY.out.cell (p:=⟨kb,ko+j,none⟩) hkb2).trans y0
       have HZQ:=Lib.hid (HKQ.out.2 x.nd.kids[j] (List.getElem_mem hjl))
       have HTJ:=Lib.hid (show(intL.all (moveN (m:Int) x.nd).kids).take (j+1)=(intL.all (moveN (m:Int) x.nd).kids).take j++[.int .i64 ((m:Int)+x.nd.kids[j])]from by
        rw[List.take_succ_eq_append_getElem (by rw[HKSL.out];exact hjl)]
        congr 1
        simp[intL_all,moveN,Int.add_comm])
       generalize x.nd.kids[j]=z at *
       rw[hkA]at y8
       clear hkA
       have hkl:=HKQ.out.1
       have i5:(j:Int)<(x.nd.kids.length:Int):=by omega
       have i6:(0:Int)≤(j:Int):=by omega
       have hzz:=HZQ.out
       have F4:=Lib.hid (show j+1≤maxLen∧(j+1)*8≤140737488355328∧nb+1≤(wy.alloc (.cells #[.int .i64 ((m:Int)+z)] 3)).heap.size from⟨by unfold maxLen;omega,by omega,by have:=HZY.out;simp;omega⟩)
       have hw1:IntKind.i64.wrap ((m:Int)+z)=(m:Int)+z:=IntWalk.i64_in _ (by omega)
       go_wp2_with (at_builtin;refine wpList_append_at _ rfl (.tmp 60) (.tmp 68) 33 rfl (nb+1) 3 i0 (.int .i64 0) 1 8 Tryd.underlying33 hi hz0 hz1 hz2 rfl (by decide) Q qc j ((intL.all (moveN (m:Int) x.nd).kids).take j) rfl (World.ownsRow.alloc HU.out _) (some ⟨wy.heap.size,0,none⟩) 1 1 [.int .i64 ((m:Int)+z)] rfl rfl (row_blk (bx_new wy _)) (fun u hu=>by simp only[List.mem_singleton]at hu;subst hu;rfl) F4.out.1 F4.out.2.1 F4.out.2.2 ?_;intro Q' qc' w7 HU6 HG6 HA6)
       exact⟨⟨j+1,Q',qc',by rw[HKSL.out];omega,by go_num,rfl,Lib.hid (by rw[HTJ.out];exact HU6.out),Lib.hid (HBY.out.trans (((Below.refl _ wy).alloc HZY.out _).trans (below_grownA (World.ownsRow.alloc HU.out _) HG6.out (Nat.le_refl _) F4.out.2.2))),Lib.hid (by have:=HG6.out.size;have:=F4.out.2.2;omega)⟩,by simp[intOf];omega⟩
      ·obtain rfl:j=x.nd.kids.length:=by omega
       have HX7:=Lib.hid (set_blk9 (u:=(.slice Q x.nd.kids.length qc)) HNY.out)
       have HE7:=Lib.hid (show ∀y,y≠nb→(wy.setCell ⟨nb,8,none⟩ (.slice Q x.nd.kids.length qc)).heap[y]?=wy.heap[y]? from fun y hy=>Below.heap_setCell _ _ _ _ hy)
       have HZ7:=Lib.hid (show(wy.setCell ⟨nb,8,none⟩ (.slice Q x.nd.kids.length qc)).heap.size=wy.heap.size from by simp)
       have hnbw:w.heap.size+2≤nb:=by have:=HNBE.out;omega
       have HB7:=Lib.hid (show Below w.heap.size w (wy.setCell ⟨nb,8,none⟩ (.slice Q x.nd.kids.length qc))from(HB6.out.trans (HBY.out.mono (by omega))).setCell (p:=⟨nb,8,none⟩) (by show w.heap.size≤nb;omega) _)
       go_upto_region 22 with(fail)
       generalize wy.setCell ⟨nb,8,none⟩ (.slice Q x.nd.kids.length qc)=w7 at *
       clear y8 z8
       have HCH:=Lib.hid (show ∀y,y<nb→w7.heap[y]?=wx.heap[y]? from fun y h1=>(HE7.out y (by omega)).trans ((HBY.out.block y (by omega)).trans (HE6.out y h1)))
       have HVB:=Lib.hid (show ∀y,blkOf V'=some y→w.heap.size+2≤y∧y<nb from fun y hy=>by have h:=own_blk HO8.out y hy;have:=HNBE.out;omega)
       have HO8b:=Lib.hid (show(w7.alloc (.cells #[.int .u8 x.nd.kind,.int .u64 x.nd.s0,.int .u64 x.nd.s1,.int .u64 x.nd.s2,.int .u64 x.nd.s3,.string x.nd.text,.int .i64 x.nd.mn,.int .i64 x.nd.mx,.slice Q x.nd.kids.length qc] 35)).ownsRow (w.heap.size+2) 35 9 (.slice V' (m+q) vc') (m+q) (ndL.all (ls++l4))from World.ownsRow.alloc (own_agree HO8.out (fun y hy=>HCH.out y (HVB.out y hy).2)) _)
       have HNO:=Lib.hid (show ∀u∈([.int .u8 x.nd.kind,.int .u64 x.nd.s0,.int .u64 x.nd.s1,.int .u64 x.nd.s2,.int .u64 x.nd.s3,.string x.nd.text,.int .i64 x.nd.mn,.int .i64 x.nd.mx,.slice Q x.nd.kids.length qc]:List Value),u.oneCell'=true from(fun u hu=>by simp only[List.mem_cons,List.not_mem_nil,or_false]at hu;rcases hu with rfl|rfl|rfl|rfl|rfl|rfl|rfl|rfl|rfl <;> rfl))
       have hn3:=HN3.out
       have HFF:=Lib.hid (show m+q+1≤maxLen∧(m+q+1)*96≤140737488355328∧w.heap.size+2≤(w7.alloc (.cells #[.int .u8 x.nd.kind,.int .u64 x.nd.s0,.int .u64 x.nd.s1,.int .u64 x.nd.s2,.int .u64 x.nd.s3,.string x.nd.text,.int .i64 x.nd.mn,.int .i64 x.nd.mx,.slice Q x.nd.kids.length qc] 35)).heap.size from⟨by unfold maxLen;omega,by omega,by have h1:=HZ7.out;have h2:=HZY.out;simp;omega⟩)
       clear hn3
       refine wp_region_list ?_
       refine wpList_val rfl (exec_move rfl rfl) ?_
       refine wpList_val rfl (exec_load rfl rfl (load9 w7 nb _ _ _ _ _ _ _ _ _ _ HX7.out)) ?_
       refine wpList_val rfl (exec_build rfl rfl (build9 w7 _ _ _ _ _ _ _ _ _)) ?_
       refine wpList_append_at _ rfl (.tmp 72) (.tmp 74) 23 rfl (w.heap.size+2) 35 j0 _ 9 96 Tryd.underlying23 hj hy0 hy1 hy2 rfl (by decide) V' vc' (m+q) (ndL.all (ls++l4)) rfl HO8b.out (some ⟨w7.heap.size,0,none⟩) 1 1 [.int .u8 x.nd.kind,.int .u64 x.nd.s0,.int .u64 x.nd.s1,.int .u64 x.nd.s2,.int .u64 x.nd.s3,.string x.nd.text,.int .i64 x.nd.mn,.int .i64 x.nd.mx,.slice Q x.nd.kids.length qc] rfl rfl (row_blk (bx_new w7 _)) HNO.out HFF.out.1 HFF.out.2.1 HFF.out.2.2 ?_
       intro V'' vc'' w8 HO9 HG9 HA9
       simp only[Act.put,List.setIfInBounds_toArray,List.set_cons_zero,List.set_cons_succ]
       have hz7:=HZ7.out;have hzy:=HZY.out;have hnbe:=HNBE.out
       have h8s:w7.heap.size+1≤w8.heap.size:=by have h:=HG9.out.size;simpa using h
       have hK8:∀y,y<w7.heap.size→blkOf V'≠some y→w8.heap[y]?=w7.heap[y]? :=fun y h1 h2=>(HG9.out.block y (by simp;omega) (fun e=>h2 e.symm)).trans (Below.heap_alloc _ _ y h1)
       have hV2:∀y,y<w7.heap.size→blkOf V'≠some y→blkOf V''≠some y:=fun y h1 h2 e=>by
        rcases HA9.out with h|h
        ·exact h2 (h▸e)
        ·rw[h]at e;injection e with e;rw[World.size_alloc]at e;omega
       have hB8:Below w.heap.size w w8:=(HB7.out.alloc HB7.out.size _).grown HG9.out (by simp;omega) (fun y hy=>by have:=(HVB.out y hy).1;omega)
       have hV5:∀y,y<w5.heap.size→blkOf V≠some y→blkOf V'≠some y:=fun y h1 h2 e=>by
        rcases HVV.out with h|⟨y',h,h3⟩
        ·exact h2 (h▸e)
        ·rw[h]at e;injection e with e;omega
       have hVV2:blkOf V''=blkOf V∨ ∃y,blkOf V''=some y∧w5.heap.size≤y:=by
        rcases HA9.out with h|h
        ·rw[h];exact HVV.out
        ·exact Or.inr ⟨_,h,by rw[World.size_alloc];omega⟩
       have HQ8:=Lib.hid (And.intro hK8 (And.intro hV2 (And.intro hB8 (And.intro hV5 (And.intro hVV2 h8s)))))
       clear hK8 hV2 hB8 hV5 hVV2 h8s hz7 hzy hnbe
       go_wp2_with fail
       obtain⟨hK8,hV2,hB8,hV5,hVV2,h8s⟩:=HQ8.out
       have hz7:=HZ7.out;have hzy:=HZY.out;have hnbe:=HNBE.out
       refine⟨⟨q+1,V'',vc'',l4++[⟨moveN (m:Int) x.nd,Q,qc⟩],hql,by go_num,rfl,Lib.hid ?_,Lib.hid ?_,Lib.hid hVV2,Lib.hid ?_,Lib.hid ?_,Lib.hid (by omega),Lib.hid hB8⟩,by simp[intOf];omega⟩
       ·rw[HTQ.out,List.map_append,List.map_append,HL4.out];rfl
       ·have h:=HO9.out
        rw[←List.append_assoc,Lay.all_append,Lay.all_one,show ndL.cells ⟨moveN (m:Int) x.nd,Q,qc⟩=[.int .u8 x.nd.kind,.int .u64 x.nd.s0,.int .u64 x.nd.s1,.int .u64 x.nd.s2,.int .u64 x.nd.s3,.string x.nd.text,.int .i64 x.nd.mn,.int .i64 x.nd.mx,.slice Q x.nd.kids.length qc]by simp[ndL,moveN]]
        exact h
       ·intro l hl
        rcases List.mem_append.1 hl with hl|hl
        ·have h1:=(HND4.out l hl).mono (T:=fun y=>y<nb∧w5.heap.size≤y∧blkOf V'≠some y) (fun y a b=>⟨by omega,b⟩)
         exact(h1.agree (fun y hy _=>(hK8 y (by omega) hy.2.2).trans (HCH.out y hy.1))).mono (fun y _ hy=>⟨hy.2.1,hV2 y (by omega) hy.2.2⟩)
        ·simp only[List.mem_singleton]at hl
         subst hl
         refine⟨moveN_wf HWF.out,?_⟩
         have hkl2:(moveN (m:Int) x.nd).kids.length=x.nd.kids.length:=by simp[moveN]
         show OwnS w8 _ _ 1 Q (moveN (m:Int) x.nd).kids.length qc (intL.all (moveN (m:Int) x.nd).kids)
         have h7:OwnS wy (fun y=>nb+1≤y∧y<wy.heap.size) 3 1 Q x.nd.kids.length qc (intL.all (moveN (m:Int) x.nd).kids):=by
          have h:=HU.out
          rw[List.take_of_length_le (by rw[HKSL.out];exact Nat.le_refl _)]at h
          exact⟨own_mono h (Nat.zero_le _),fun y hy=>own_blk h y hy⟩
         rw[hkl2]
         have hVn:∀y,nb+1≤y→blkOf V'≠some y:=fun y h e=>by have:=(HVB.out y e).2;omega
         exact(h7.agree (fun y hy _=>(hK8 y (by omega) (hVn y hy.1)).trans (HE7.out y (by omega)))).mono (fun y _ hy=>⟨by omega,hV2 y (by omega) (hVn y hy.1)⟩)
       ·intro y h1 h2
        exact(hK8 y (by omega) (hV5 y h1 h2)).trans ((HCH.out y (by omega)).trans (HKP.out y h1 h2))
    ·obtain rfl:q=l3.length:=by omega
     have hn3:=HN3.out
     have hl4:l4.length=l3.length:=by have h:=congrArg List.length HL4.out;simpa using h
     have HLN:=Lib.hid hl4
     have HOU:=Lib.hid (show wx.ownsRow (w.heap.size+2) 3 1 (.slice U k uc) k (intL.all li)from own_agree (own_belowA HO7.out HC5.out) (fun y hy=>HKP.out y (by have:=(HBV.out.2 y hy).2;omega) (fun e=>HAP.out y e hy)))
     have HKE:=Lib.hid (show ∀y,y<wr.heap.size→blkOf V≠some y→wx.heap[y]?=wr.heap[y]? from fun y h1 h2=>(HKP.out y (by omega) h2).trans (HC5.out.block y h1))
     have HNX:=Lib.hid ((HKE.out w.heap.size (by omega) (fun e=>by have:=(HBV.out.1 _ e).1;omega)).trans HKN.out)
     have HRX:=Lib.hid ((HKE.out (w.heap.size+1) (by omega) (fun e=>by have:=(HBV.out.1 _ e).1;omega)).trans HKR.out)
     obtain⟨_,_,_,_,_,_,_,_,y8,_,_,_,_,_,_,_,_,z8⟩:=blk9 HNX.out
     have HFF:=Lib.hid (show k+1≤maxLen∧(k+1)*8≤140737488355328∧w.heap.size+2≤(wx.alloc (.cells #[.int .i64 ((m:Int)+(l3.length:Int)-1)] 3)).heap.size from⟨by unfold maxLen;omega,by omega,by simp;omega⟩)
     have hmb:(m:Int)+(l3.length:Int)≤16777216:=by omega
     have hmp:(1:Int)≤(l3.length:Int):=by omega
     clear hn3 hl4
     obtain⟨t0,t1,_,_⟩:=blk2 HTX.out
     go_wp2_with (at_builtin;refine wpList_append_at _ rfl (.tmp 77) (.tmp 81) 33 rfl (w.heap.size+2) 3 i0 (.int .i64 0) 1 8 Tryd.underlying33 hi hz0 hz1 hz2 rfl (by decide) U uc k (intL.all li) rfl (World.ownsRow.alloc HOU.out _) (some ⟨wx.heap.size,0,none⟩) 1 1 [.int .i64 ((m:Int)+(l3.length:Int)-1)] rfl rfl (row_blk (bx_new wx _)) (fun u hu=>by simp only[List.mem_singleton]at hu;subst hu;rfl) HFF.out.1 HFF.out.2.1 HFF.out.2.2 ?_;intro U' uc' w8 HU8 HG8 HA8;have HN8:=Lib.hid ((HG8.out.block w.heap.size (by simp;omega) (fun e=>by have:=(HBV.out.2 _ e.symm).1;omega)).trans (bx_old HNX.out));obtain⟨_,_,_,_,_,_,_,_,v8,_,_,_,_,_,_,_,_,u8⟩:=blk9 HN8.out)
     have hhf:=HFF.out.2.2
     have hu2:∀y,blkOf U=some y→w.heap.size+2≤y∧y<wr.heap.size:=HBV.out.2
     have h8s:wx.heap.size+1≤w8.heap.size:=by have h:=HG8.out.size;simpa using h
     have hK8:∀y,y<wx.heap.size→blkOf U≠some y→w8.heap[y]?=wx.heap[y]? :=fun y h1 h2=>(HG8.out.block y (by simp;omega) (fun e=>h2 e.symm)).trans (Below.heap_alloc _ _ y h1)
     have hE9:∀y,y≠w.heap.size→(w8.setCell ⟨w.heap.size,8,none⟩ (.slice U' (k+1) uc')).heap[y]?=w8.heap[y]? :=fun y hy=>Below.heap_setCell _ _ _ _ hy
     have hB8:Below w.heap.size w w8:=(HBX.out.alloc HBX.out.size _).grown HG8.out (by simp;omega) (fun y hy=>by have:=(hu2 y hy).1;omega)
     have hUU:∀y,y<wx.heap.size→blkOf U≠some y→blkOf U'≠some y:=fun y h1 h2 e=>by
      rcases HA8.out with h|h
      ·exact h2 (h▸e)
      ·rw[h]at e;injection e with e;rw[World.size_alloc]at e;omega
     have hVVV:∀y,y<w5.heap.size→blkOf V≠some y→blkOf V'≠some y:=fun y h1 h2 e=>by
      rcases HVV.out with h|⟨y',h,h3⟩
      ·exact h2 (h▸e)
      ·rw[h]at e;injection e with e;omega
     have hV'b:∀y,blkOf V'=some y→w.heap.size+2≤y∧y<wx.heap.size:=fun y hy=>own_blk HO8.out y hy
     have hVU':∀y,blkOf V'=some y→blkOf U≠some y:=fun y hy e=>by
      rcases HVV.out with h|⟨y',h,h3⟩
      ·exact HAP.out y (h▸hy) e
      ·rw[h]at hy;injection hy with hy;have:=(hu2 y e).2;omega
     refine⟨⟨k+1,m+l3.length,V',U',vc',uc',ls++l4,li++[((m:Int)+(l3.length:Int)-1)],hlt,by go_num,rfl,Lib.hid ⟨?_,?_,?_,?_⟩,Lib.hid ?_,Lib.hid ?_,Lib.hid ?_,Lib.hid ?_,Lib.hid ?_,Lib.hid ?_,Lib.hid (hB8.setCell (p:=⟨w.heap.size,8,none⟩) (Nat.le_refl _) _),Lib.hid (by simp;omega)⟩,by simp only[intOf];omega⟩
     ·rw[List.length_append,HLM.out,HLN.out]
     ·rw[List.length_append,HLI.out];rfl
     ·have h:=HPUT.out
      simp only[Lt.tr,Int.toNat_natCast,List.length_map]at h
      have e:(((ls.map Ln.nd++(takenL (ts.map Ln.nd) rn).map (moveN (ls.length:Nat))).length:Nat):Int)-1=((m:Int)+(l3.length:Int)-1):=by
       have h5:=HTN.out;have h6:=HN3.out;have h7:=HLM.out
       simp only[List.length_append,List.length_map];omega
      rw[e]at h
      rw[List.map_append,HL4.out,List.take_length]
      have e2:(l3.map fun l=>moveN (m:Int) l.nd)=(takenL (ts.map Ln.nd) rn).map (moveN (ls.length:Nat)):=by
       rw[←HL3.out,List.map_map,HLM.out];rfl
      rw[e2];exact h
     ·have:=HN3.out;omega
     ·exact own_agree HO8.out (fun y hy=>(hE9 y (by have:=(hV'b y hy).1;omega)).trans (hK8 y (hV'b y hy).2 (hVU' y hy)))
     ·rw[Lay.all_append]
      exact own_agree HU8.out (fun y hy=>hE9 y (by have:=(own_blk HU8.out y hy).1;omega))
     ·exact fun y hy=>hUU y (hV'b y hy).2 (hVU' y hy)
     ·intro l hl
      rcases List.mem_append.1 hl with hl|hl
      ·have h1:=(HND.out l hl).mono (T:=fun y=>y<wr.heap.size∧w.heap.size+2≤y∧blkOf V≠some y∧blkOf U≠some y) (fun y a b=>⟨a,b⟩)
       exact(h1.agree (fun y hy _=>(hE9 y (by omega)).trans ((hK8 y (by omega) hy.2.2.2).trans (HKE.out y hy.1 hy.2.2.1)))).mono (fun y _ hy=>⟨hy.2.1,hVVV y (by omega) hy.2.2.1,hUU y (by omega) hy.2.2.2⟩)
      ·have h1:=(HND4.out l hl).mono (T:=fun y=>y<wx.heap.size∧w5.heap.size≤y∧blkOf V'≠some y) (fun y a b=>⟨a,b⟩)
       have hUn:∀y,w5.heap.size≤y→blkOf U≠some y:=fun y h e=>by have:=(hu2 y e).2;omega
       exact(h1.agree (fun y hy _=>(hE9 y (by omega)).trans (hK8 y hy.1 (hUn y hy.2.1)))).mono (fun y _ hy=>⟨by omega,hy.2.2,hUU y hy.1 (hUn y hy.2.1)⟩)
     ·exact set_blk9 HN8.out
     ·exact(hE9 _ (by omega)).trans ((hK8 _ (by omega) (fun e=>by have:=(hu2 _ e).1;omega)).trans HRX.out)
  ·obtain rfl:k=ks.length:=by omega
   obtain⟨hlm,hli,hput,hsm⟩:=HM.out
   rw[List.drop_length]at hput hsm
   simp only[List.map_nil,List.sum_nil,putTs]at hput hsm
   subst hlm
   have HEQ:=Lib.hid hput.symm;have HLI:=Lib.hid hli
   have hlm:ls.length≤16777216:=by omega
   clear hput hli hsm HM
   have HBW:=Lib.hid (show ∀x,(blkOf V=some x→w.heap.size+2≤x∧x<wr.heap.size)∧(blkOf U=some x→w.heap.size+2≤x∧x<wr.heap.size)from fun x=>⟨fun e=>own_blk HO6.out x e,fun e=>own_blk HO7.out x e⟩)
   have HO6b:=Lib.hid (show(wr.alloc (.cells #[.int .u8 n.kind,.int .u64 n.s0,.int .u64 n.s1,.int .u64 n.s2,.int .u64 n.s3,.string n.text,.int .i64 n.mn,.int .i64 n.mx,.slice U ks.length uc] 35)).ownsRow (w.heap.size+2) 35 9 (.slice V ls.length vc) ls.length (ndL.all ls)from World.ownsRow.alloc HO6.out _)
   have HNO:=Lib.hid (show ∀u∈([.int .u8 n.kind,.int .u64 n.s0,.int .u64 n.s1,.int .u64 n.s2,.int .u64 n.s3,.string n.text,.int .i64 n.mn,.int .i64 n.mx,.slice U ks.length uc]:List Value),u.oneCell'=true from(fun u hu=>by simp only[List.mem_cons,List.not_mem_nil,or_false]at hu;rcases hu with rfl|rfl|rfl|rfl|rfl|rfl|rfl|rfl|rfl <;> rfl))
   have HFF:=Lib.hid (show ls.length+1≤maxLen∧(ls.length+1)*96≤140737488355328∧w.heap.size+2≤(wr.alloc (.cells #[.int .u8 n.kind,.int .u64 n.s0,.int .u64 n.s1,.int .u64 n.s2,.int .u64 n.s3,.string n.text,.int .i64 n.mn,.int .i64 n.mx,.slice U ks.length uc] 35)).heap.size from⟨by unfold maxLen;omega,by omega,by have h2:=HZ.out;simp;omega⟩)
   go_upto_region 24 with(fail)
   refine wp_region_list ?_
   refine wpList_val rfl (exec_move rfl rfl) ?_
   refine wpList_val rfl (exec_load rfl rfl (load9 wr w.heap.size _ _ _ _ _ _ _ _ _ _ HKN.out)) ?_
   refine wpList_val rfl (exec_build rfl rfl (build9 wr _ _ _ _ _ _ _ _ _)) ?_
   refine wpList_append_at _ rfl (.tmp 84) (.tmp 86) 23 rfl (w.heap.size+2) 35 j0 _ 9 96 Tryd.underlying23 hj hy0 hy1 hy2 rfl (by decide) V vc ls.length (ndL.all ls) rfl HO6b.out (some ⟨wr.heap.size,0,none⟩) 1 1 [.int .u8 n.kind,.int .u64 n.s0,.int .u64 n.s1,.int .u64 n.s2,.int .u64 n.s3,.string n.text,.int .i64 n.mn,.int .i64 n.mx,.slice U ks.length uc] rfl rfl (row_blk (bx_new wr _)) HNO.out HFF.out.1 HFF.out.2.1 HFF.out.2.2 ?_
   intro V' vc' w8 HO8 HG8 HA8
   simp only[Act.put,List.setIfInBounds_toArray,List.set_cons_zero,List.set_cons_succ]
   have HK8:=Lib.hid (show ∀x,x<wr.heap.size→blkOf V≠some x→w8.heap[x]?=wr.heap[x]? from fun x h1 h3=>(HG8.out.block x (by simp;omega) (fun e=>h3 e.symm)).trans (Below.heap_alloc _ _ x h1))
   have HR8:=Lib.hid ((HK8.out (w.heap.size+1) (by have:=HZ.out;omega) (fun e=>by have:=((HBW.out _).1 e).1;omega)).trans HKR.out)
   obtain⟨s1,s2,s3,s4⟩:=blk2 HR8.out
   go_wp2_with fail
   refine bodyPost_ret (v:=.tuple #[.agg #[.slice V' (ls.length+1) vc',.int .i64 (ls.length:Int)],.bool true]) (by simp[results,Tryd.results31,go_sem,s1,s2]) rfl ?_
   have hz:=HZ.out
   have h8s:wr.heap.size+1≤w8.heap.size:=by have h:=HG8.out.size;simp at h;omega
   have hE9:∀x,x≠w.heap.size+1→((w8.setCell ⟨w.heap.size+1,0,none⟩ (.slice V' (ls.length+1) vc')).setCell ⟨w.heap.size+1,1,none⟩ (.int .i64 (ls.length:Int))).heap[x]?=w8.heap[x]? :=fun x hx=>(Below.heap_setCell _ _ _ _ hx).trans (Below.heap_setCell _ _ _ _ hx)
   have hB8:Below w.heap.size w w8:=(HB.out.alloc (by omega) _).grown HG8.out (by simp;omega) (fun x hx=>by have:=((HBW.out x).1 hx).1;omega)
   have hB9:Below w.heap.size w ((w8.setCell ⟨w.heap.size+1,0,none⟩ (.slice V' (ls.length+1) vc')).setCell ⟨w.heap.size+1,1,none⟩ (.int .i64 (ls.length:Int))):=(hB8.setCell (p:=⟨w.heap.size+1,0,none⟩) (by simp) _).setCell (p:=⟨w.heap.size+1,1,none⟩) (by simp) _
   have hkx:∀x,x<wr.heap.size→w.heap.size+2≤x→blkOf V≠some x→((w8.setCell ⟨w.heap.size+1,0,none⟩ (.slice V' (ls.length+1) vc')).setCell ⟨w.heap.size+1,1,none⟩ (.int .i64 (ls.length:Int))).heap[x]?=wr.heap[x]? :=fun x h1 h2 h3=>(hE9 x (by omega)).trans (HK8.out x h1 h3)
   refine⟨⟨V',vc',ls++[⟨{n with kids:=li},U,uc⟩],(ls.length:Int)⟩,?_,?_,⟨?_,?_,?_⟩,hB9⟩
   ·simp[Lt.val]
   ·simp only[Lt.tr,ofT,HEQ.out,List.map_append,List.map_cons,List.map_nil,List.length_map]
   ·simp;omega
   ·show OwnS _ _ _ _ _ (ls++[_]).length _ _
    rw[List.length_append,List.length_singleton,ndL.all_append,ndL.all_one]
    have h:=HO8.out
    have e:ndL.cells ⟨{n with kids:=li},U,uc⟩=[.int .u8 n.kind,.int .u64 n.s0,.int .u64 n.s1,.int .u64 n.s2,.int .u64 n.s3,.string n.text,.int .i64 n.mn,.int .i64 n.mx,.slice U ks.length uc]:=by simp[ndL,HLI.out]
    rw[e]
    exact((own_ownS h).agree (fun x hx _=>hE9 x (by have hx:w.heap.size+2≤x:=hx;omega))).mono (fun x _ hx=>by have hx:w.heap.size+2≤x:=hx;omega)
   ·intro l hl
    rcases List.mem_append.1 hl with hl|hl
    ·have h1:=(HND.out l hl).mono (T:=fun x=>x<wr.heap.size∧w.heap.size+2≤x∧blkOf V≠some x) (fun x a b=>⟨a,b.1,b.2.1⟩)
     exact(h1.agree (fun x hy _=>hkx x hy.1 hy.2.1 hy.2.2)).mono (fun x _ hy=>by omega)
    ·simp only[List.mem_singleton]at hl
     subst hl
     refine⟨?_,?_⟩
     ·obtain⟨h1,h2,h3,h4⟩:=HN.out
      exact⟨h1,h2,by show li.length≤_;rw[HLI.out];omega,h4⟩
     ·show OwnS _ _ _ 1 U li.length uc (intL.all li)
      rw[HLI.out]
      have h7:OwnS wr (fun x=>x<wr.heap.size∧w.heap.size+2≤x∧blkOf V≠some x) 3 1 U ks.length uc (intL.all li):=⟨own_mono HO7.out (Nat.zero_le _),fun x hx=>⟨((HBW.out x).2 hx).2,((HBW.out x).2 hx).1,fun e=>HAP.out x e hx⟩⟩
      exact(h7.agree (fun x hy _=>hkx x hy.1 hy.2.1 hy.2.2)).mono (fun x _ hy=>by omega)
end Go.Proofs.YtdnochjajoiooaaDoor
