/- The contract of tree.taken. -/
import Derived.Test.YtpfokabdpmjobaaGreatDoorHt
import Derived.Laws.CopyOwn
import Derived.Deep.Cut
namespace Go.Proofs.YtpfokabdpmjobaaGreatDoor
open Go.RowKit
set_option linter.unusedSimpArgs false
set_option linter.unusedVariables false
theorem infoNode:(Tryz.prog.info? 54).map (fun i=>(i.zero,i.size,i.bytes))=some (some (.agg #[.int .u8 0,.int .u64 0,.int .u64 0,.int .u64 0,.int .u64 0,.string ByteArray.empty,.int .i64 0,.int .i64 0,.slice none 0 0]),9,96):=by kernel_rfl
theorem own_full {w:World} {B g n:Nat} {e:TypeId} {xs:List Value} (h:w.ownsRow B e 1 (.slice (some ⟨g,0,none⟩) n n) n xs):w.heap[g]?=some (.cells xs.toArray e (0,0)):=by
 rcases h.2 with⟨hv,_⟩|⟨g',cap,cur,hv,_,hh,_,_,hs,ht⟩
 ·cases hv
 ·cases hv
  rw[List.take_of_length_le (by simp;omega)]at ht
  rw[←ht];simpa using hh
theorem own_of_full {w:World} {B g n:Nat} {e:TypeId} {xs:List Value} (h:w.heap[g]?=some (.cells xs.toArray e (0,0))) (hn:xs.length=n) (hB:B≤g) (hm:n≤maxLen):w.ownsRow B e 1 (.slice (some ⟨g,0,none⟩) n n) n xs:=
 ⟨by omega,.inr ⟨g,n,_,rfl,hB,h,Nat.le_refl _,hm,by simp[hn],by simp[←hn]⟩⟩
theorem splice_all (a b:List Value) (h:a.length=b.length):splice a 0 b=b:=by
 simp[splice,←h]
theorem set_blk9 {w:World} {b:Nat} {v0 v1 v2 v3 v4 v5 v6 v7 v8 u:Value} {T:TypeId} (h:w.heap[b]?=some (.cells #[v0,v1,v2,v3,v4,v5,v6,v7,v8] T (0,0))):(w.setCell ⟨b,8,none⟩ u).heap[b]?=some (.cells #[v0,v1,v2,v3,v4,v5,v6,v7,u] T (0,0)):=by
 have:=heap_setCell_same w b 8 _ T u h
 simpa using this
def toldK (P:List Nat) (kids:List Int) (j:Nat):List Value:=(kids.take j).map (fun z=>Value.int .i64 (P.idxOf z.toNat:Nat))++(kids.drop j).map (Value.int .i64)
theorem toldK_zero (P:List Nat) (kids:List Int):toldK P kids 0=intL.all kids:=by simp[toldK,intL_all]
theorem toldK_end (P:List Nat) (n:Nd):toldK P n.kids n.kids.length=intL.all (placed P n).kids:=by
 simp[toldK,intL_all,placed]
theorem toldK_at (P:List Nat) (kids:List Int) (j:Nat) (h:j<kids.length):(toldK P kids j)[j]?=some (.int .i64 kids[j]):=by
 unfold toldK
 rw[List.getElem?_append_right (by simp;omega)]
 simp[Nat.min_eq_left (Nat.le_of_lt h),h]
theorem toldK_set (P:List Nat) (kids:List Int) (j:Nat) (h:j<kids.length):(toldK P kids j).set j (.int .i64 (P.idxOf kids[j].toNat:Nat))=toldK P kids (j+1):=by
 unfold toldK
 have hl:((kids.take j).map (fun z=>Value.int .i64 (P.idxOf z.toNat:Nat))).length=j:=by simp;omega
 rw[List.set_append_right _ _ (by omega),hl,Nat.sub_self,List.drop_eq_getElem_cons h,List.take_succ_eq_append_getElem h,List.map_append,List.map_cons,List.set_cons_zero,List.append_assoc]
 rfl
theorem placed_wf {P:List Nat} {n:Nd} (h:n.wf):(placed P n).wf:=by
 obtain⟨h1,h2,h3,h4⟩:=h
 exact⟨h1,h2,by simpa[placed]using h3,h4⟩
theorem heap_lt' {w:World} {b:Nat} {o:Obj} (h:w.heap[b]?=some o):b<w.heap.size:=(Array.getElem?_eq_some_iff.1 h).1
theorem row_newAt {w:World} {cs:List Value} {T:TypeId} {n:Nat} (hn:w.heap.size=n):∀(j:Nat) (u:Value),cs[j]?=some u→(w.alloc (.cells cs.toArray T)).cell? ((⟨n,0,none⟩:Addr).add j)=some u:=fun j u hu=>by
 subst hn
 obtain⟨_,e,h⟩:=row_blk (bx_new w (.cells cs.toArray T)) j u hu
 cases e;exact h
theorem row_set {w:World} {g j:Nat} {xs:List Value} {T:TypeId} (h:w.heap[g]?=some (.cells xs.toArray T (0,0))) (u:Value):(w.setCell ⟨g,j,none⟩ u).heap[g]?=some (.cells (xs.set j u).toArray T (0,0)):=by
 have:=heap_setCell_same w g j _ T u h
 simpa using this
theorem row_cellAt {w:World} {g j:Nat} {xs:List Value} {T:TypeId} {u:Value} (h:w.heap[g]?=some (.cells xs.toArray T (0,0))) (hu:xs[j]?=some u):w.cell? ⟨g,j,none⟩=some u∧w.frozen? ⟨g,j,none⟩=false:=by
 simp[World.cell?,World.frozen?,h,hu]
theorem right_kids_len {t:Tr} (h:rightP t) {i:Nat} {n:Nd} (hn:t.nodes[i]?=some n):n.kids.length≤i:=by
 have hk:∀k∈n.kids,0≤k∧k<(i:Int):=fun k hk=>rightP_kid h hn hk
 have hnd:(n.kids.map Int.toNat).Nodup:=by
  rw[List.nodup_iff_count]
  intro z
  have h1:=rightP_count h (z:Int)
  have h2:n.kids.count (z:Int)≤(kidsOf t.nodes).count (z:Int):=by
   obtain⟨hi,e⟩:=List.getElem?_eq_some_iff.1 hn
   have:=seen_count t.nodes i n.kids.length (z:Int)
   simp only[seenL,hn,Option.map_some,Option.getD_some,List.take_length,List.count_append]at this
   omega
  have h3:(n.kids.map Int.toNat).count z=n.kids.count (z:Int):=by
   rw[List.count_eq_countP,List.count_eq_countP,List.countP_map]
   refine List.countP_congr fun k hk'=> ?_
   have:=hk k hk'
   simp only[Function.comp_apply,beq_iff_eq]
   omega
  omega
 have:=nodup_length hnd (n:=i) (fun k hk'=>by
  obtain⟨z,hz,rfl⟩:=List.mem_map.1 hk'
  have:=hk z hz
  omega)
 simpa using this
theorem kidAt_mem {l:List Nd} {i:Nat} (hi:i<l.length) {z:Int} (hz:z∈l[i].kids):z.toNat∈kidsAt l i:=by
 simp only[kidsAt,List.getElem?_eq_getElem hi,Option.map_some,Option.getD_some]
 exact List.mem_map.2 ⟨z,hz,rfl⟩
theorem placed_own {w:World} {S:Nat→Prop} {P:List Nat} {n:Nd} {g m:Nat} (h:w.heap[g]?=some (.cells (intL.all (placed P n).kids).toArray 3 (0,0))) (hk:n.kids.length=m) (hm:m≤maxLen) (hS:S g):OwnS w S 3 1 (some ⟨g,0,none⟩) (placed P n).kids.length m (intL.all (placed P n).kids):=by
 have hlen:(placed P n).kids.length=m:=by simp[placed,hk]
 rw[hlen]
 exact⟨own_of_full h (by rw[intL.all_length,hlen];exact Nat.mul_one _) (Nat.zero_le _) hm,fun x hx=>by cases hx;exact hS⟩
def TakenRel (w1:World) (P:List Nat) (ls:List Ln) (Z1 g3:Nat) (i v7:Value) (wr:World):Prop:=
 ∃(k:Nat) (ls':List Ln) (pl:List Value),k≤P.length∧i=.int .i64 k∧v7=.slice (some ⟨g3,0,none⟩) k P.length∧Hid (wr.ownsRow Z1 3 1 (.slice (some ⟨Z1,0,none⟩) ls.length ls.length) ls.length pl)∧Hid (∀j p,j<k→P[j]?=some p→pl[p]?=some (.int .i64 (j:Int))) ∧
  Hid (wr.ownsRow Z1 54 9 (.slice (some ⟨g3,0,none⟩) k P.length) k (ndL.all ls'))∧Hid (ls'.map Ln.nd=(P.take k).map (fun p=>placed P (ndAt (ls.map Ln.nd) p)))∧Hid (∀l∈ls',NdOwn wr (g3 < ·) l)∧Hid (Below Z1 w1 wr)∧Hid (g3<wr.heap.size)
set_option maxRecDepth 100000 in
set_option maxHeartbeats 6400000 in
theorem taken_any (A:Option Addr) (c:Nat) (ls:List Ln) (root:Int) (node:Nat) (S:Nat→Prop) (w:World) (hT:ndL.row w S A ls) (hl:ls.length≤4294967296) (hr:rightP ⟨ls.map Ln.nd,root⟩) (hn:node<ls.length):
  Calls Tryz.prog 45 #[.agg #[.slice A ls.length c,.int .i64 root],.int .i64 node] w (TreePost (takenT ⟨ls.map Ln.nd,root⟩ node) w):=by
 obtain⟨i0,hi,hz0,hz1,hz2⟩:=info_parts infoInt
 obtain⟨j0,hj,hy0,hy1,hy2⟩:=info_parts infoNode
 have HT:=Lib.hid hT;clear hT
 have HR:=Lib.hid hr;clear hr
 have HPL:=Lib.hid (show(postN (ls.map Ln.nd) node).length≤ls.length by have:=post_length HR.out node (by simpa using hn);simpa using this)
 have HAH:=Lib.hid (rightP_ahead HR.out)
 have HND:=Lib.hid (post_nodup HR.out node (by simpa using hn))
 have HMEM:=Lib.hid (show ∀p∈postN (ls.map Ln.nd) node,p<ls.length from fun p hp=>by have:=postN_le HAH.out node p hp;omega)
 have HNE:=Lib.hid (postN_ne (ls.map Ln.nd) node)
 have HBE:=Lib.hid (fun w' (h:ndL.row w' S A ls)=>behind_any A c ls root node S w' h hl HR.out hn)
 unfold TreePost takenT takenL
 have HKB:=Lib.hid (show ∀k (hk:k<(postN (ls.map Ln.nd) node).length) z,z∈kidsAt (ls.map Ln.nd) (postN (ls.map Ln.nd) node)[k]→ ∃j,j<k∧(postN (ls.map Ln.nd) node)[j]?=some z from fun k hk z hz=>kid_before HAH.out hk hz)
 simp only
 generalize hPd:postN (ls.map Ln.nd) node=P at *
 clear hPd
 go_enter Tryz.func45,Tryz.ntmps45
 have F1:=Lib.hid (show i0.bytes*ls.length≤281474976710656∧ls.length≤maxLen from⟨by rw[hz2];omega,by unfold maxLen;omega⟩)
 have F2:=Lib.hid (show j0.bytes*P.length≤281474976710656∧P.length≤maxLen from⟨by have:=HPL.out;rw[hy2];omega,by have:=HPL.out;unfold maxLen;omega⟩)
 go_wp2_with (first
  |(go_at_call 78;refine(HBE.out _ (HT.out.agree (below_all (bx2 w _ _)))).mono ?_;rintro e w1 ⟨g1,c1,rfl,hown1,hb1⟩;have HO1:=Lib.hid hown1;have HB1:=Lib.hid hb1;clear hown1 hb1;have HK1:=Lib.hid (bx_kept HB1.out (bx_old (bx_new w _)));have HK2:=Lib.hid (show w1.heap[w.heap.size+1]?=some (.cells #[.slice none 0 0,.int .i64 0] 40 (0,0))from bx_kept HB1.out (by have h:=bx_new (w.alloc (.cells #[.slice A ls.length c,.int .i64 root] 40)) (.cells #[.slice none 0 0,.int .i64 0] 40);simpa using h));obtain⟨q1,q2,_,_⟩:=blk2 HK1.out)
  |(at_make;refine wpList_make_full _ rfl _ _ 52 rfl w1.heap.size 3 i0 _ 1 Tryz.underlying52 hi hz0 hz1 .i64 .i64 _ _ ls.length rfl rfl rfl rfl F1.out.1 F1.out.2 (Nat.le_refl _) ?_;intro w2 hown2 hgrow2;have HO2:=Lib.hid hown2;have HG2:=Lib.hid hgrow2;clear hown2 hgrow2;have HB2:=Lib.hid (show Below w1.heap.size w1 w2 from(Below.refl _ _).grown HG2.out (Nat.le_refl _) (fun k e=>by cases e)))
  |(at_make;refine wpList_make_own _ rfl _ _ 38 rfl w1.heap.size 54 j0 _ 9 Tryz.underlying38 hj hy0 hy1 .i64 .i64 _ P.length rfl rfl rfl F2.out.1 F2.out.2 HB2.out.size ?_;intro w3 hown3 hgrow3;have HO3:=Lib.hid hown3;have HG3:=Lib.hid hgrow3;clear hown3 hgrow3))
 have HBB:=Lib.hid (show Below w.heap.size w w1 from(bx2 w _ _).trans (HB1.out.mono (by simp;omega)))
 have HZ1:=Lib.hid (show w.heap.size+2≤w1.heap.size by have:=HB1.out.size;simp at this;omega)
 have HG1:=Lib.hid (show w.heap.size+2≤g1∧g1<w1.heap.size by have:=own_lt HO1.out;simp at this;omega)
 have HG1':=Lib.hid (show w1.heap.size<w2.heap.size from(own_lt HO2.out).2)
 have HB3:=Lib.hid (show Below w1.heap.size w1 w3 from HB2.out.grown HG3.out HB2.out.size (fun k e=>by cases e))
 have HZ3:=Lib.hid (show w2.heap.size<w3.heap.size from(own_lt HO3.out).2)
 have HO2':=Lib.hid (own_kept HO2.out HG3.out (fun k _ e=>by cases e))
 clear HG2 HG3 HB2 HO2 q1 q2
 generalize hg3:w2.heap.size=g3 at *
 clear hg3
 generalize hz1:w1.heap.size=Z1 at *
 have HZE:=Lib.hid hz1;clear hz1
 go_loopw [26,7] (fun i v7 wr=>TakenRel w1 P ls Z1 g3 i v7 wr)
  (fun i _ _=>P.length-(intOf i).toNat)
 case atStart=>exact⟨0,[],_,by omega,rfl,rfl,Lib.hid HO2'.out,Lib.hid (fun j p hj=>by omega),Lib.hid HO3.out,Lib.hid (by simp),Lib.hid (by simp),Lib.hid HB3.out,Lib.hid HZ3.out⟩
 case round=>
  clear HO2' HO3 HB3 HZ3
  obtain⟨wo,rfl⟩:∃wo:World,wo=wr:=⟨_,rfl⟩
  obtain⟨k,ls',pl,hk,rfl,rfl,HO2,HPLS,HO3,HLS,HOW,HB,HZ⟩:=hrel
  by_cases hlt:k<P.length
  ·have hkp:P[k]?=some P[k]:=List.getElem?_eq_getElem hlt
   have HKP:=Lib.hid hkp;clear hkp
   have hpl:=HMEM.out P[k] (List.getElem_mem hlt)
   have HKB':=Lib.hid (HKB.out k hlt)
   have HP1:=Lib.hid (show wo.ownsRow (w.heap.size+2) 3 1 (.slice (some ⟨g1,0,none⟩) P.length c1) P.length (natsV P)from own_agree (own_mono HO1.out (by simp)) (fun k hk=>by cases hk;exact HB.out.block _ (by have:=HG1.out;have:=HZE.out;show g1<Z1;omega)))
   have c0:=own_cell HP1.out k hlt (u:=.int .i64 (P[k]:Nat)) (by simp[natsV,hlt])
   have HLP:=Lib.hid (show k<P.length from hlt)
   generalize hpk:P[k]=p at *
   have HPK:=Lib.hid hpk;clear hpk
   have HBW:=Lib.hid (show Below w.heap.size w wo from HBB.out.trans (HB.out.mono (by have:=HZ1.out;have:=HZE.out;omega)))
   have HT':=Lib.hid (HT.out.agree (below_all HBW.out))
   obtain⟨u1,c1'⟩:∃u,wo.cell? ⟨Z1,p,none⟩=some u:=by
    have h:=HO2.out.1
    exact⟨pl[p]'(by omega),own_cell HO2.out p hpl (List.getElem?_eq_getElem (by omega))⟩
   have c2:=World.ownsRow.frozenAt HO2.out p
   obtain⟨b,o,hA,_,_,x0,x1,x2,x3,x4,x5,x6,x7,x8⟩:=ndRow HT'.out p hpl
   have hbl:b<w.heap.size:=ndBlk (hA▸HT.out) (by omega)
   have hbZ:b≠Z1:=by have:=HZ1.out;have:=HZE.out;omega
   have HS1:=Lib.hid (show Agree (· ≠ Z1) wo (wo.setCell ⟨Z1,p,none⟩ (.int .i64 (k:Int)))from set_agree wo ⟨Z1,p,none⟩ _)
   subst hA
   obtain⟨t1,t2,_,_⟩:=blk2 (HB.out.block w.heap.size (by have:=HZ1.out;have:=HZE.out;omega)▸HK1.out)
   have i1:(p:Int)<(ls.length:Int):=by omega
   have i2:(k:Int)<(P.length:Int):=by omega
   have hPb:P.length≤4294967296:=by have:=HPL.out;omega
   have hHZ:w.heap.size≠Z1:=by have:=HZ1.out;have:=HZE.out;omega
   have HSZ2:=Lib.hid (show((wo.setCell ⟨Z1,p,none⟩ (.int .i64 (k:Int))).alloc (.cells #[.int .u8 ls[p].nd.kind,.int .u64 ls[p].nd.s0,.int .u64 ls[p].nd.s1,.int .u64 ls[p].nd.s2,.int .u64 ls[p].nd.s3,.string ls[p].nd.text,.int .i64 ls[p].nd.mn,.int .i64 ls[p].nd.mx,.slice ls[p].A ls[p].nd.kids.length ls[p].c] 54)).heap.size=wo.heap.size+1 by simp)
   have HBX:=Lib.hid (show((wo.setCell ⟨Z1,p,none⟩ (.int .i64 (k:Int))).alloc (.cells #[.int .u8 ls[p].nd.kind,.int .u64 ls[p].nd.s0,.int .u64 ls[p].nd.s1,.int .u64 ls[p].nd.s2,.int .u64 ls[p].nd.s3,.string ls[p].nd.text,.int .i64 ls[p].nd.mn,.int .i64 ls[p].nd.mx,.slice ls[p].A ls[p].nd.kids.length ls[p].c] 54)).heap[wo.heap.size]?=some (.cells #[.int .u8 ls[p].nd.kind,.int .u64 ls[p].nd.s0,.int .u64 ls[p].nd.s1,.int .u64 ls[p].nd.s2,.int .u64 ls[p].nd.s3,.string ls[p].nd.text,.int .i64 ls[p].nd.mn,.int .i64 ls[p].nd.mx,.slice ls[p].A ls[p].nd.kids.length ls[p].c] 54 (0,0))by
    have h:=bx_new (wo.setCell ⟨Z1,p,none⟩ (.int .i64 (k:Int))) (.cells #[.int .u8 ls[p].nd.kind,.int .u64 ls[p].nd.s0,.int .u64 ls[p].nd.s1,.int .u64 ls[p].nd.s2,.int .u64 ls[p].nd.s3,.string ls[p].nd.text,.int .i64 ls[p].nd.mn,.int .i64 ls[p].nd.mx,.slice ls[p].A ls[p].nd.kids.length ls[p].c] 54);simpa using h)
   have HW2A:=Lib.hid (show ∀x,x<wo.heap.size→x≠Z1→((wo.setCell ⟨Z1,p,none⟩ (.int .i64 (k:Int))).alloc (.cells #[.int .u8 ls[p].nd.kind,.int .u64 ls[p].nd.s0,.int .u64 ls[p].nd.s1,.int .u64 ls[p].nd.s2,.int .u64 ls[p].nd.s3,.string ls[p].nd.text,.int .i64 ls[p].nd.mn,.int .i64 ls[p].nd.mx,.slice ls[p].A ls[p].nd.kids.length ls[p].c] 54)).heap[x]?=wo.heap[x]? from fun x h1 h2=>(Below.heap_alloc _ _ x (by simpa using h1)).trans (Below.heap_setCell _ _ _ _ h2))
   have HW2:=Lib.hid (show((wo.setCell ⟨Z1,p,none⟩ (.int .i64 (k:Int))).alloc (.cells #[.int .u8 ls[p].nd.kind,.int .u64 ls[p].nd.s0,.int .u64 ls[p].nd.s1,.int .u64 ls[p].nd.s2,.int .u64 ls[p].nd.s3,.string ls[p].nd.text,.int .i64 ls[p].nd.mn,.int .i64 ls[p].nd.mx,.slice ls[p].A ls[p].nd.kids.length ls[p].c] 54)).heap[g3]?=wo.heap[g3]? ∧ ((wo.setCell ⟨Z1,p,none⟩ (.int .i64 (k:Int))).alloc (.cells #[.int .u8 ls[p].nd.kind,.int .u64 ls[p].nd.s0,.int .u64 ls[p].nd.s1,.int .u64 ls[p].nd.s2,.int .u64 ls[p].nd.s3,.string ls[p].nd.text,.int .i64 ls[p].nd.mn,.int .i64 ls[p].nd.mx,.slice ls[p].A ls[p].nd.kids.length ls[p].c] 54)).heap[Z1]?=(wo.setCell ⟨Z1,p,none⟩ (.int .i64 (k:Int))).heap[Z1]? from⟨HW2A.out g3 HZ.out (by have:=HG1'.out;omega),Below.heap_alloc _ _ Z1 (by have:=HB.out.size;have:=HZ.out;have:=HG1'.out;simp;omega)⟩)
   have HBW2:=Lib.hid (show Below w.heap.size w ((wo.setCell ⟨Z1,p,none⟩ (.int .i64 (k:Int))).alloc (.cells #[.int .u8 ls[p].nd.kind,.int .u64 ls[p].nd.s0,.int .u64 ls[p].nd.s1,.int .u64 ls[p].nd.s2,.int .u64 ls[p].nd.s3,.string ls[p].nd.text,.int .i64 ls[p].nd.mn,.int .i64 ls[p].nd.mx,.slice ls[p].A ls[p].nd.kids.length ls[p].c] 54))from(HBW.out.setCell (p:=⟨Z1,p,none⟩) (by have:=HZ1.out;have:=HZE.out;show w.heap.size≤Z1;omega) _).alloc (by have:=HBW.out.size;simpa using this) _)
   have HPL1:=Lib.hid (World.ownsRow.stored HO2.out p (.int .i64 (k:Int))).1
   have HRK:=Lib.hid (show ls[p].nd.kids.length≤p from right_kids_len HR.out (i:=p) (n:=ls[p].nd) (by simp[hpl]))
   have HWF:=Lib.hid (ndWf HT'.out p hpl)
   by_cases hkid:0<ls[p].nd.kids.length
   ·as_aux_lemma=>
     have F3:=Lib.hid (show i0.bytes*ls[p].nd.kids.length≤281474976710656∧ls[p].nd.kids.length≤maxLen from⟨by have:=HRK.out;rw[hz2];omega,by have:=HRK.out;unfold maxLen;omega⟩)
     have hsz1:(Tryz.prog.info? 3).map (·.size)=some 1:=by kernel_rfl
     have HSZ1:=Lib.hid hsz1;clear hsz1
     go_wp2_with (first
      |(at_make;refine wpList_make_full _ rfl _ _ 52 rfl (wo.heap.size+1) 3 i0 _ 1 Tryz.underlying52 hi hz0 hz1 .i64 .i64 _ _ ls[p].nd.kids.length rfl rfl rfl rfl F3.out.1 F3.out.2 (by simp) ?_;intro w4 ho4 hg4;have HO4:=Lib.hid ho4;have HG4:=Lib.hid hg4;clear ho4 hg4;have HB4:=Lib.hid (show Below (wo.heap.size+1) ((wo.setCell ⟨Z1,p,none⟩ (.int .i64 (k:Int))).alloc (.cells #[.int .u8 ls[p].nd.kind,.int .u64 ls[p].nd.s0,.int .u64 ls[p].nd.s1,.int .u64 ls[p].nd.s2,.int .u64 ls[p].nd.s3,.string ls[p].nd.text,.int .i64 ls[p].nd.mn,.int .i64 ls[p].nd.mx,.slice ls[p].A ls[p].nd.kids.length ls[p].c] 54)) w4 from(Below.refl _ _).grown HG4.out (by simp) (fun k e=>by cases e));have HBW4:=Lib.hid (HBW2.out.trans (HB4.out.mono (by have:=HBW.out.size;omega)));have HBX4:=Lib.hid ((HB4.out.block wo.heap.size (by omega)).trans HBX.out);obtain⟨_,_,_,_,_,_,_,_,y8,_⟩:=blk9 HBX4.out)
      |(with_reducible refine wpList_copy_splice rfl (.tmp 48) (.tmp 50) 52 52 rfl 3 Tryz.underlying52 HSZ1.out (some ⟨wo.heap.size+1,0,none⟩) ls[p].A ls[p].nd.kids.length ls[p].nd.kids.length ls[p].nd.kids.length ls[p].c rfl rfl (wo.heap.size+1) 0 _ 3 (own_full (by simpa using HO4.out)) (intL.all ls[p].nd.kids) ?_ ?_ ?_ (intL.all_one' _) (wo.heap.size+1) w4 (Below.refl _ _) (Nat.le_refl _) ?_))
     ·rw[intL.all_length];show _*1=_;simp[Nat.min_def]
     ·intro _
      have hrow:=(ndSub (HT.out.agree (below_all HBW4.out)) p hpl).rowAt
      obtain⟨ad,e,_⟩:=hrow 0 _ (List.getElem?_eq_getElem (by rw[intL.all_length];show 0<_*1;omega))
      exact⟨ad,e,fun j v hv=>by obtain⟨ad',e',h⟩:=hrow j v hv;rw[e]at e';cases e';exact h⟩
     ·rw[intL.all_length];have:=HO4.out.1;show 0+_*1≤_;simp at this ⊢;omega
     intro w5 HC5 hb5
     have HL5:=Lib.hid (show w5.heap[wo.heap.size+1]?=some (.cells (toldK P ls[p].nd.kids 0).toArray 3 (0,0))by
      have h:=HC5.out
      rw[splice_all _ _ (by rw[intL.all_length,Array.length_toList,size_madeCells];exact(Nat.mul_one _).symm)]at h
      rw[toldK_zero];exact h)
     have HB5:=Lib.hid (HB4.out.trans hb5)
     clear hb5 HC5
     go_wp2_with fail
     go_loopw [54] (fun i wx=>∃j:Nat,j≤ls[p].nd.kids.length∧i=.int .i64 j∧Hid (wx.heap[wo.heap.size+1]?=some (.cells (toldK P ls[p].nd.kids j).toArray 3 (0,0)))∧Hid (Below (wo.heap.size+1) ((wo.setCell ⟨Z1,p,none⟩ (.int .i64 (k:Int))).alloc (.cells #[.int .u8 ls[p].nd.kind,.int .u64 ls[p].nd.s0,.int .u64 ls[p].nd.s1,.int .u64 ls[p].nd.s2,.int .u64 ls[p].nd.s3,.string ls[p].nd.text,.int .i64 ls[p].nd.mn,.int .i64 ls[p].nd.mx,.slice ls[p].A ls[p].nd.kids.length ls[p].c] 54)) wx)) (fun i _=>ls[p].nd.kids.length-(intOf i).toNat)
     case atStart=>exact⟨0,by omega,rfl,HL5,HB5⟩
     case round=>
      clear HL5 HB5 HO4 HG4 HB4 HBX4 HBW4
      obtain⟨j,hjb,rfl,HL6,HB6⟩:=hrel
      obtain⟨w6,rfl⟩:∃w6:World,w6=wr:=⟨_,rfl⟩
      by_cases hjl:j<ls[p].nd.kids.length
      ·have hz:=rightP_kid HR.out (i:=p) (n:=ls[p].nd) (by simp[hpl]) (List.getElem_mem hjl)
       obtain⟨jz,hjz1,hjz2⟩:=HKB'.out ls[p].nd.kids[j].toNat (by have:=kidAt_mem (l:=ls.map Ln.nd) (i:=p) (by simpa using hpl) (z:=ls[p].nd.kids[j]) (by simp);exact this)
       have hidx:=idx_of HND.out hjz2
       have HPLr:=Lib.hid (own_agree HPL1.out (fun x hx=>by cases hx;exact(HB6.out.block Z1 (by have:=HZ.out;have:=HG1'.out;show Z1<_;omega)).trans HW2.out.2))
       have c3:=own_cell HPLr.out ls[p].nd.kids[j].toNat (by omega) (u:=.int .i64 (jz:Int)) (by rw[List.getElem?_set_ne (by omega)];exact HPLS.out jz _ hjz1 hjz2)
       obtain⟨c4,c5⟩:=row_cellAt HL6.out (toldK_at P ls[p].nd.kids j hjl)
       have HST:=Lib.hid (toldK_set P ls[p].nd.kids j hjl)
       rw[hidx]at HST
       have HRN:=Lib.hid (row_set (j:=j) HL6.out (.int .i64 (jz:Int)))
       rw[HST.out]at HRN
       clear hidx HST hjz2
       generalize ls[p].nd.kids[j]=z at *
       obtain⟨zn,rfl⟩:=Int.eq_ofNat_of_zero_le hz.1
       simp only[Int.toNat_natCast]at c3
       have i3:(j:Int)<(ls[p].nd.kids.length:Int):=by omega
       have i4:(zn:Int)<(ls.length:Int):=by omega
       have hkl:ls[p].nd.kids.length≤4294967296:=by have:=HRK.out;omega
       have hz2:=hz.2
       clear hz
       go_wp2_with fail
       exact⟨⟨j+1,by omega,by go_num,HRN,Lib.hid (HB6.out.setCell (p:=⟨wo.heap.size+1,j,none⟩) (Nat.le_refl _) _)⟩,by simp[intOf];omega⟩
      ·obtain rfl:j=ls[p].nd.kids.length:=by omega
       rw[toldK_end]at HL6
       have HBX6:=Lib.hid ((HB6.out.block wo.heap.size (by omega)).trans HBX.out)
       obtain⟨_,_,_,_,_,_,_,_,y8,_,_,_,_,_,_,_,_,z8⟩:=blk9 HBX6.out
       have HX7:=Lib.hid (set_blk9 (u:=(.slice (some ⟨wo.heap.size+1,0,none⟩) (ls[p].nd.kids.length) (ls[p].nd.kids.length))) HBX6.out)
       have HE7:=Lib.hid (show ∀x,x≠wo.heap.size→(w6.setCell ⟨wo.heap.size,8,none⟩ (.slice (some ⟨wo.heap.size+1,0,none⟩) (ls[p].nd.kids.length) (ls[p].nd.kids.length))).heap[x]?=w6.heap[x]? from fun x hx=>Below.heap_setCell _ _ _ _ hx)
       have HM7:=Lib.hid (show(w6.setCell ⟨wo.heap.size,8,none⟩ (.slice (some ⟨wo.heap.size+1,0,none⟩) (ls[p].nd.kids.length) (ls[p].nd.kids.length))).heap.size=w6.heap.size∧(w6.setCell ⟨wo.heap.size,8,none⟩ (.slice (some ⟨wo.heap.size+1,0,none⟩) (ls[p].nd.kids.length) (ls[p].nd.kids.length))).os=w6.os∧(w6.setCell ⟨wo.heap.size,8,none⟩ (.slice (some ⟨wo.heap.size+1,0,none⟩) (ls[p].nd.kids.length) (ls[p].nd.kids.length))).tape=w6.tape∧(w6.setCell ⟨wo.heap.size,8,none⟩ (.slice (some ⟨wo.heap.size+1,0,none⟩) (ls[p].nd.kids.length) (ls[p].nd.kids.length))).output=w6.output from⟨by simp,rfl,rfl,rfl⟩)
       go_upto_region 19 with(fail)
       generalize (w6.setCell ⟨wo.heap.size,8,none⟩ (.slice (some ⟨wo.heap.size+1,0,none⟩) (ls[p].nd.kids.length) (ls[p].nd.kids.length)))=w7 at *
       clear y8 z8
       obtain⟨y0,y1,y2,y3,y4,y5,y6,y7,y8,_⟩:=blk9 HX7.out
       have HO3b:=Lib.hid (show(w7.alloc (.cells #[.int .u8 ls[p].nd.kind,.int .u64 ls[p].nd.s0,.int .u64 ls[p].nd.s1,.int .u64 ls[p].nd.s2,.int .u64 ls[p].nd.s3,.string ls[p].nd.text,.int .i64 ls[p].nd.mn,.int .i64 ls[p].nd.mx,.slice (some ⟨wo.heap.size+1,0,none⟩) (ls[p].nd.kids.length) (ls[p].nd.kids.length)] 54)).ownsRow Z1 54 9 (.slice (some ⟨g3,0,none⟩) k P.length) k (ndL.all ls')from own_agree HO3.out (fun x hx=>by cases hx;exact(Below.heap_alloc _ _ g3 (by have h:=HB6.out.size;have h2:=HM7.out.1;have:=HZ.out;simp at h;show g3<_;omega)).trans ((HE7.out g3 (by have:=HZ.out;omega)).trans ((HB6.out.block g3 (by have:=HZ.out;omega)).trans HW2.out.1))))
       have HNC:=Lib.hid (show ∀(j:Nat) (u:Value),([.int .u8 ls[p].nd.kind,.int .u64 ls[p].nd.s0,.int .u64 ls[p].nd.s1,.int .u64 ls[p].nd.s2,.int .u64 ls[p].nd.s3,.string ls[p].nd.text,.int .i64 ls[p].nd.mn,.int .i64 ls[p].nd.mx,.slice (some ⟨wo.heap.size+1,0,none⟩) (ls[p].nd.kids.length) (ls[p].nd.kids.length)]:List Value)[j]?=some u→(w7.alloc (.cells #[.int .u8 ls[p].nd.kind,.int .u64 ls[p].nd.s0,.int .u64 ls[p].nd.s1,.int .u64 ls[p].nd.s2,.int .u64 ls[p].nd.s3,.string ls[p].nd.text,.int .i64 ls[p].nd.mn,.int .i64 ls[p].nd.mx,.slice (some ⟨wo.heap.size+1,0,none⟩) (ls[p].nd.kids.length) (ls[p].nd.kids.length)] 54)).cell? ((⟨w7.heap.size,0,none⟩:Addr).add j)=some u from row_newAt (cs:=[.int .u8 ls[p].nd.kind,.int .u64 ls[p].nd.s0,.int .u64 ls[p].nd.s1,.int .u64 ls[p].nd.s2,.int .u64 ls[p].nd.s3,.string ls[p].nd.text,.int .i64 ls[p].nd.mn,.int .i64 ls[p].nd.mx,.slice (some ⟨wo.heap.size+1,0,none⟩) (ls[p].nd.kids.length) (ls[p].nd.kids.length)]) rfl)
       have HNO:=Lib.hid (show ∀u∈([.int .u8 ls[p].nd.kind,.int .u64 ls[p].nd.s0,.int .u64 ls[p].nd.s1,.int .u64 ls[p].nd.s2,.int .u64 ls[p].nd.s3,.string ls[p].nd.text,.int .i64 ls[p].nd.mn,.int .i64 ls[p].nd.mx,.slice (some ⟨wo.heap.size+1,0,none⟩) (ls[p].nd.kids.length) (ls[p].nd.kids.length)]:List Value),u.oneCell'=true from(fun u hu=>by simp only[List.mem_cons,List.not_mem_nil,or_false]at hu;rcases hu with rfl|rfl|rfl|rfl|rfl|rfl|rfl|rfl|rfl <;> rfl))
       clear y0 y1 y2 y3 y4 y5 y6 y7 y8
       refine wp_region_list ?_
       refine wpList_val rfl (exec_move rfl rfl) ?_
       refine wpList_val rfl (exec_load rfl rfl (load9 w7 wo.heap.size _ _ _ _ _ _ _ _ _ _ HX7.out)) ?_
       refine wpList_val rfl (exec_build rfl rfl (build9 w7 _ _ _ _ _ _ _ _ _)) ?_
       refine wpList_append_fits _ rfl (.tmp 69) (.tmp 71) 38 rfl Z1 54 j0 9 Tryz.underlying38 hj hy1 g3 k P.length (ndL.all ls') rfl HO3b.out ⟨w7.heap.size,0,none⟩ 1 1 [.int .u8 ls[p].nd.kind,.int .u64 ls[p].nd.s0,.int .u64 ls[p].nd.s1,.int .u64 ls[p].nd.s2,.int .u64 ls[p].nd.s3,.string ls[p].nd.text,.int .i64 ls[p].nd.mn,.int .i64 ls[p].nd.mx,.slice (some ⟨wo.heap.size+1,0,none⟩) (ls[p].nd.kids.length) (ls[p].nd.kids.length)] rfl rfl HNC.out HNO.out HLP.out ?_
       intro w8 ho8 hg8
       have HO8:=Lib.hid ho8;have HG8:=Lib.hid hg8;clear ho8 hg8
       simp only[Act.put,List.setIfInBounds_toArray,List.set_cons_zero,List.set_cons_succ]
       go_wp2_with fail
       have HE8:=Lib.hid (show ∀x,x<w6.heap.size→x≠wo.heap.size→x≠g3→w8.heap[x]?=w6.heap[x]? from fun x h1 h2 h3=>(HG8.out.block x (by have:=HM7.out.1;simp;omega) (fun e=>h3 (by cases e;rfl))).trans ((Below.heap_alloc _ _ x (by have:=HM7.out.1;omega)).trans (HE7.out x h2)))
       have HS6:=Lib.hid HB6.out.size
       have HS8:=Lib.hid (show w6.heap.size≤w8.heap.size by have:=HG8.out.size;have h:=HM7.out.1;simp at this;omega)
       have HZ6:=Lib.hid (show Z1<g3∧w.heap.size+2≤Z1 by have:=HG1'.out;have:=HZ1.out;have:=HZE.out;omega)
       refine⟨⟨k+1,ls'++[⟨placed P ls[p].nd,some ⟨wo.heap.size+1,0,none⟩,ls[p].nd.kids.length⟩],pl.set p (.int .i64 (k:Int)),by omega,by go_num,rfl,Lib.hid ?_,Lib.hid ?_,Lib.hid ?_,Lib.hid ?_,Lib.hid ?_,Lib.hid ?_,Lib.hid ?_⟩,by simp[intOf];omega⟩
       ·have hzz:=HZ6.out;have h6:=HS6.out;have hz:=HZ.out;simp only[HSZ2.out]at h6
        exact own_agree HPL1.out (fun x hx=>by cases hx;exact(HE8.out Z1 (by omega) (by omega) (by omega)).trans ((HB6.out.block Z1 (by omega)).trans HW2.out.2))
       ·intro j q hj hq
        by_cases e:j=k
        ·subst e
         rw[HKP.out]at hq;cases hq
         rw[List.getElem?_set_self (by rw[HO2.out.1];omega)]
        ·have h1:=HPLS.out j q (by omega) hq
         rw[List.getElem?_set_ne (fun e2=>e ?_)]
         ·exact h1
         ·subst e2
          exact(idx_of HND.out hq).symm.trans (idx_of HND.out HKP.out)
       ·have h:=HO8.out
        rw[show ndL.all (ls'++[⟨placed P ls[p].nd,some ⟨wo.heap.size+1,0,none⟩,ls[p].nd.kids.length⟩])=ndL.all ls'++[.int .u8 ls[p].nd.kind,.int .u64 ls[p].nd.s0,.int .u64 ls[p].nd.s1,.int .u64 ls[p].nd.s2,.int .u64 ls[p].nd.s3,.string ls[p].nd.text,.int .i64 ls[p].nd.mn,.int .i64 ls[p].nd.mx,.slice (some ⟨wo.heap.size+1,0,none⟩) (ls[p].nd.kids.length) (ls[p].nd.kids.length)]by rw[Lay.all_append,Lay.all_one];simp[ndL,placed]]
        exact h
       ·have e1:P.take (k+1)=P.take k++[p]:=by rw[List.take_add_one,HKP.out];rfl
        rw[e1,List.map_append,List.map_append,HLS.out]
        simp[ndAt,hpl]
       ·intro l hl
        have hzz:=HZ6.out;have h6:=HS6.out;have hz:=HZ.out;simp only[HSZ2.out]at h6
        rcases List.mem_append.1 hl with hl|hl
        ·refine((HOW.out l hl).mono (T:=fun x=>g3<x∧x<wo.heap.size) (fun x h1 h2=>⟨h2,h1⟩)).agree (fun x hx _=> ?_) |>.mono (fun x _ h=>h.1)
         exact(HE8.out x (by omega) (by omega) (by omega)).trans ((HB6.out.block x (by omega)).trans (HW2A.out x hx.2 (by omega)))
        ·simp only[List.mem_singleton]at hl
         subst hl
         exact⟨placed_wf HWF.out,placed_own ((HE8.out _ (heap_lt' HL6.out) (by omega) (by omega)).trans HL6.out) rfl (by have:=HRK.out;show ls[p].nd.kids.length≤maxLen;unfold maxLen;omega) (show g3<wo.heap.size+1 by omega)⟩
       ·have hzz:=HZ6.out;have h6:=HS6.out;have hz:=HZ.out;simp only[HSZ2.out]at h6
        refine⟨?_,?_,?_,?_,?_⟩
        ·exact HG8.out.os.trans (HM7.out.2.1.trans (HB6.out.os.trans HB.out.os))
        ·exact HG8.out.tape.trans (HM7.out.2.2.1.trans (HB6.out.tape.trans HB.out.tape))
        ·exact HG8.out.output.trans (HM7.out.2.2.2.trans (HB6.out.output.trans HB.out.output))
        ·have:=HB.out.size;have:=HS8.out;omega
        ·intro x hx
         have:=HB.out.size;have:=HZE.out
         exact(HE8.out x (by omega) (by omega) (by omega)).trans ((HB6.out.block x (by omega)).trans ((HW2A.out x (by omega) (by omega)).trans (HB.out.block x hx)))
       ·have h6:=HS6.out;have hz:=HZ.out;have:=HS8.out;simp only[HSZ2.out]at h6;omega
   ·as_aux_lemma=>
     have HK0:=Lib.hid (show ls[p].nd.kids.length=0 by omega)
     go_wp2_with fail
     go_loopw [54] (fun i wx=>i=.int .i64 0∧Hid (Below (wo.heap.size+1) ((wo.setCell ⟨Z1,p,none⟩ (.int .i64 (k:Int))).alloc (.cells #[.int .u8 ls[p].nd.kind,.int .u64 ls[p].nd.s0,.int .u64 ls[p].nd.s1,.int .u64 ls[p].nd.s2,.int .u64 ls[p].nd.s3,.string ls[p].nd.text,.int .i64 ls[p].nd.mn,.int .i64 ls[p].nd.mx,.slice ls[p].A ls[p].nd.kids.length ls[p].c] 54)) wx)) (fun _ _=>0)
     case atStart=>exact⟨rfl,Lib.hid (Below.refl _ _)⟩
     case round=>
      obtain⟨rfl,HB6⟩:=hrel
      obtain⟨w6,rfl⟩:∃w6:World,w6=wr:=⟨_,rfl⟩
      have HBX6:=Lib.hid ((HB6.out.block wo.heap.size (by omega)).trans HBX.out)
      obtain⟨_,_,_,_,_,_,_,_,y8,_,_,_,_,_,_,_,_,z8⟩:=blk9 HBX6.out
      have HX7:=Lib.hid (set_blk9 (u:=(.slice (none) (0) (0))) HBX6.out)
      have HE7:=Lib.hid (show ∀x,x≠wo.heap.size→(w6.setCell ⟨wo.heap.size,8,none⟩ (.slice (none) (0) (0))).heap[x]?=w6.heap[x]? from fun x hx=>Below.heap_setCell _ _ _ _ hx)
      have HM7:=Lib.hid (show(w6.setCell ⟨wo.heap.size,8,none⟩ (.slice (none) (0) (0))).heap.size=w6.heap.size∧(w6.setCell ⟨wo.heap.size,8,none⟩ (.slice (none) (0) (0))).os=w6.os∧(w6.setCell ⟨wo.heap.size,8,none⟩ (.slice (none) (0) (0))).tape=w6.tape∧(w6.setCell ⟨wo.heap.size,8,none⟩ (.slice (none) (0) (0))).output=w6.output from⟨by simp,rfl,rfl,rfl⟩)
      go_upto_region 19 with(fail)
      generalize (w6.setCell ⟨wo.heap.size,8,none⟩ (.slice (none) (0) (0)))=w7 at *
      clear y8 z8
      obtain⟨y0,y1,y2,y3,y4,y5,y6,y7,y8,_⟩:=blk9 HX7.out
      have HO3b:=Lib.hid (show(w7.alloc (.cells #[.int .u8 ls[p].nd.kind,.int .u64 ls[p].nd.s0,.int .u64 ls[p].nd.s1,.int .u64 ls[p].nd.s2,.int .u64 ls[p].nd.s3,.string ls[p].nd.text,.int .i64 ls[p].nd.mn,.int .i64 ls[p].nd.mx,.slice (none) (0) (0)] 54)).ownsRow Z1 54 9 (.slice (some ⟨g3,0,none⟩) k P.length) k (ndL.all ls')from own_agree HO3.out (fun x hx=>by cases hx;exact(Below.heap_alloc _ _ g3 (by have h:=HB6.out.size;have h2:=HM7.out.1;have:=HZ.out;simp at h;show g3<_;omega)).trans ((HE7.out g3 (by have:=HZ.out;omega)).trans ((HB6.out.block g3 (by have:=HZ.out;omega)).trans HW2.out.1))))
      have HNC:=Lib.hid (show ∀(j:Nat) (u:Value),([.int .u8 ls[p].nd.kind,.int .u64 ls[p].nd.s0,.int .u64 ls[p].nd.s1,.int .u64 ls[p].nd.s2,.int .u64 ls[p].nd.s3,.string ls[p].nd.text,.int .i64 ls[p].nd.mn,.int .i64 ls[p].nd.mx,.slice (none) (0) (0)]:List Value)[j]?=some u→(w7.alloc (.cells #[.int .u8 ls[p].nd.kind,.int .u64 ls[p].nd.s0,.int .u64 ls[p].nd.s1,.int .u64 ls[p].nd.s2,.int .u64 ls[p].nd.s3,.string ls[p].nd.text,.int .i64 ls[p].nd.mn,.int .i64 ls[p].nd.mx,.slice (none) (0) (0)] 54)).cell? ((⟨w7.heap.size,0,none⟩:Addr).add j)=some u from row_newAt (cs:=[.int .u8 ls[p].nd.kind,.int .u64 ls[p].nd.s0,.int .u64 ls[p].nd.s1,.int .u64 ls[p].nd.s2,.int .u64 ls[p].nd.s3,.string ls[p].nd.text,.int .i64 ls[p].nd.mn,.int .i64 ls[p].nd.mx,.slice (none) (0) (0)]) rfl)
      have HNO:=Lib.hid (show ∀u∈([.int .u8 ls[p].nd.kind,.int .u64 ls[p].nd.s0,.int .u64 ls[p].nd.s1,.int .u64 ls[p].nd.s2,.int .u64 ls[p].nd.s3,.string ls[p].nd.text,.int .i64 ls[p].nd.mn,.int .i64 ls[p].nd.mx,.slice (none) (0) (0)]:List Value),u.oneCell'=true from(fun u hu=>by simp only[List.mem_cons,List.not_mem_nil,or_false]at hu;rcases hu with rfl|rfl|rfl|rfl|rfl|rfl|rfl|rfl|rfl <;> rfl))
      clear y0 y1 y2 y3 y4 y5 y6 y7 y8
      refine wp_region_list ?_
      refine wpList_val rfl (exec_move rfl rfl) ?_
      refine wpList_val rfl (exec_load rfl rfl (load9 w7 wo.heap.size _ _ _ _ _ _ _ _ _ _ HX7.out)) ?_
      refine wpList_val rfl (exec_build rfl rfl (build9 w7 _ _ _ _ _ _ _ _ _)) ?_
      refine wpList_append_fits _ rfl (.tmp 69) (.tmp 71) 38 rfl Z1 54 j0 9 Tryz.underlying38 hj hy1 g3 k P.length (ndL.all ls') rfl HO3b.out ⟨w7.heap.size,0,none⟩ 1 1 [.int .u8 ls[p].nd.kind,.int .u64 ls[p].nd.s0,.int .u64 ls[p].nd.s1,.int .u64 ls[p].nd.s2,.int .u64 ls[p].nd.s3,.string ls[p].nd.text,.int .i64 ls[p].nd.mn,.int .i64 ls[p].nd.mx,.slice (none) (0) (0)] rfl rfl HNC.out HNO.out HLP.out ?_
      intro w8 ho8 hg8
      have HO8:=Lib.hid ho8;have HG8:=Lib.hid hg8;clear ho8 hg8
      simp only[Act.put,List.setIfInBounds_toArray,List.set_cons_zero,List.set_cons_succ]
      go_wp2_with fail
      have HE8:=Lib.hid (show ∀x,x<w6.heap.size→x≠wo.heap.size→x≠g3→w8.heap[x]?=w6.heap[x]? from fun x h1 h2 h3=>(HG8.out.block x (by have:=HM7.out.1;simp;omega) (fun e=>h3 (by cases e;rfl))).trans ((Below.heap_alloc _ _ x (by have:=HM7.out.1;omega)).trans (HE7.out x h2)))
      have HS6:=Lib.hid HB6.out.size
      have HS8:=Lib.hid (show w6.heap.size≤w8.heap.size by have:=HG8.out.size;have h:=HM7.out.1;simp at this;omega)
      have HZ6:=Lib.hid (show Z1<g3∧w.heap.size+2≤Z1 by have:=HG1'.out;have:=HZ1.out;have:=HZE.out;omega)
      refine⟨⟨k+1,ls'++[⟨placed P ls[p].nd,none,0⟩],pl.set p (.int .i64 (k:Int)),by omega,by go_num,rfl,Lib.hid ?_,Lib.hid ?_,Lib.hid ?_,Lib.hid ?_,Lib.hid ?_,Lib.hid ?_,Lib.hid ?_⟩,by simp[intOf];omega⟩
      ·have hzz:=HZ6.out;have h6:=HS6.out;have hz:=HZ.out;simp only[HSZ2.out]at h6
       exact own_agree HPL1.out (fun x hx=>by cases hx;exact(HE8.out Z1 (by omega) (by omega) (by omega)).trans ((HB6.out.block Z1 (by omega)).trans HW2.out.2))
      ·intro j q hj hq
       by_cases e:j=k
       ·subst e
        rw[HKP.out]at hq;cases hq
        rw[List.getElem?_set_self (by rw[HO2.out.1];omega)]
       ·have h1:=HPLS.out j q (by omega) hq
        rw[List.getElem?_set_ne (fun e2=>e ?_)]
        ·exact h1
        ·subst e2
         exact(idx_of HND.out hq).symm.trans (idx_of HND.out HKP.out)
      ·have h:=HO8.out
       rw[show ndL.all (ls'++[⟨placed P ls[p].nd,none,0⟩])=ndL.all ls'++[.int .u8 ls[p].nd.kind,.int .u64 ls[p].nd.s0,.int .u64 ls[p].nd.s1,.int .u64 ls[p].nd.s2,.int .u64 ls[p].nd.s3,.string ls[p].nd.text,.int .i64 ls[p].nd.mn,.int .i64 ls[p].nd.mx,.slice (none) (0) (0)]by rw[Lay.all_append,Lay.all_one];simp[ndL,placed,HK0.out]]
       exact h
      ·have e1:P.take (k+1)=P.take k++[p]:=by rw[List.take_add_one,HKP.out];rfl
       rw[e1,List.map_append,List.map_append,HLS.out]
       simp[ndAt,hpl]
      ·intro l hl
       have hzz:=HZ6.out;have h6:=HS6.out;have hz:=HZ.out;simp only[HSZ2.out]at h6
       rcases List.mem_append.1 hl with hl|hl
       ·refine((HOW.out l hl).mono (T:=fun x=>g3<x∧x<wo.heap.size) (fun x h1 h2=>⟨h2,h1⟩)).agree (fun x hx _=> ?_) |>.mono (fun x _ h=>h.1)
        exact(HE8.out x (by omega) (by omega) (by omega)).trans ((HB6.out.block x (by omega)).trans (HW2A.out x hx.2 (by omega)))
       ·simp only[List.mem_singleton]at hl
        subst hl
        have hlen:(placed P ls[p].nd).kids=[]:=List.eq_nil_of_length_eq_zero (by have:=HK0.out;simpa[placed]using this)
        refine⟨placed_wf HWF.out,?_⟩
        show OwnS w8 (g3 < ·) 3 1 none (placed P ls[p].nd).kids.length 0 (intL.all (placed P ls[p].nd).kids)
        rw[hlen];exact OwnS.nil _ _ _ _
      ·have hzz:=HZ6.out;have h6:=HS6.out;have hz:=HZ.out;simp only[HSZ2.out]at h6
       refine⟨?_,?_,?_,?_,?_⟩
       ·exact HG8.out.os.trans (HM7.out.2.1.trans (HB6.out.os.trans HB.out.os))
       ·exact HG8.out.tape.trans (HM7.out.2.2.1.trans (HB6.out.tape.trans HB.out.tape))
       ·exact HG8.out.output.trans (HM7.out.2.2.2.trans (HB6.out.output.trans HB.out.output))
       ·have:=HB.out.size;have:=HS8.out;omega
       ·intro x hx
        have:=HB.out.size;have:=HZE.out
        exact(HE8.out x (by omega) (by omega) (by omega)).trans ((HB6.out.block x (by omega)).trans ((HW2A.out x (by omega) (by omega)).trans (HB.out.block x hx)))
      ·have h6:=HS6.out;have hz:=HZ.out;have:=HS8.out;simp only[HSZ2.out]at h6;omega
  ·as_aux_lemma=>
    obtain rfl:k=P.length:=by omega
    have hll:ls'.length=P.length:=by have:=congrArg List.length HLS.out;rw[List.length_map,List.length_map,List.take_length]at this;exact this
    have HK2w:=Lib.hid ((HB.out.block (w.heap.size+1) (by have:=HZ1.out;have:=HZE.out;omega)).trans HK2.out)
    obtain⟨s1,s2,s3,s4⟩:=blk2 HK2w.out
    have hP1:1≤P.length:=HNE.out
    have hP2:P.length≤4294967296:=by have:=HPL.out;omega
    have hP3:(1:Int)≤(P.length:Int):=by omega
    have HLL:=Lib.hid hll;clear hll
    go_wp2_with fail
    refine bodyPost_ret (v:=.agg #[.slice (some ⟨g3,0,none⟩) P.length P.length,.int .i64 ((P.length:Int)-1)]) (by simp[results,Tryz.results45,go_sem,s1,s2]) rfl ?_
    have hZg:w.heap.size+2≤Z1∧Z1<g3:=by have:=HG1'.out;have:=HZ1.out;have:=HZE.out;omega
    have hag:Agree (· ≠ w.heap.size+1) wo ((wo.setCell ⟨w.heap.size+1,0,none⟩ (.slice (some ⟨g3,0,none⟩) P.length P.length)).setCell ⟨w.heap.size+1,1,none⟩ (.int .i64 ((P.length:Int)-1))):=fun x hx _=>(Below.heap_setCell _ _ _ _ hx).trans (Below.heap_setCell _ _ _ _ hx)
    refine⟨⟨some ⟨g3,0,none⟩,P.length,ls',(P.length:Int)-1⟩,by show _=Ending.returned (.agg #[.slice _ ls'.length _,_]);rw[HLL.out],?_,⟨?_,?_,?_⟩,?_⟩
    ·simp only[Lt.tr];rw[HLS.out,List.take_length]
    ·show ls'.length≤_;rw[HLL.out];omega
    ·show OwnS _ _ _ _ _ ls'.length P.length _
     rw[HLL.out]
     exact((own_ownS HO3.out).mono (T:=fun x=>w.heap.size+2≤x) (fun x _ h=>by omega)).agree (hag.mono (fun x _ h=>by omega)) |>.mono (fun x _ h=>by omega)
    ·intro l hl
     exact((HOW.out l hl).agree (hag.mono (fun x _ h=>by omega))).mono (fun x _ h=>by omega)
    ·exact(((HBB.out.trans (HB.out.mono (by omega))).setCell (p:=⟨w.heap.size+1,0,none⟩) (by simp) _).setCell (p:=⟨w.heap.size+1,1,none⟩) (by simp) _)
end Go.Proofs.YtpfokabdpmjobaaGreatDoor
