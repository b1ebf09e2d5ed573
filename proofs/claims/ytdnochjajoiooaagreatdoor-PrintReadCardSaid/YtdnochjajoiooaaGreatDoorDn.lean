/- The contract of tree.taken. -/
import Derived.Test.YtdnochjajoiooaaGreatDoorDk
import Derived.Laws.CopyOwn
import Derived.Deep.Cut
namespace Go.Proofs.YtdnochjajoiooaaGreatDoor
open Go.RowKit
set_option linter.unusedSimpArgs false
set_option linter.unusedVariables false
theorem FK:(Tryz.prog.info? 42).map (fun i=>(i.zero,i.size,i.bytes))=some (some (.agg #[.int .u8 0,.int .u64 0,.int .u64 0,.int .u64 0,.int .u64 0,.string ByteArray.empty,.int .i64 0,.int .i64 0,.slice none 0 0]),9,96):=by kernel_rfl
theorem Uk {w:World} {B g n:Nat} {e:TypeId} {xs:List Value} (h:w.ownsRow B e 1 (.slice (some ⟨g,0,none⟩) n n) n xs):w.heap[g]?=some (.cells xs.toArray e (0,0)):=by
 rcases h.2 with⟨hv,_⟩|⟨g',cap,cur,hv,_,hh,_,_,hs,ht⟩
 ·cases hv
 ·cases hv;rw[List.take_of_length_le (by simp;omega)]at ht;rw[<-ht];simpa using hh
theorem O1 {w:World} {B g n:Nat} {e:TypeId} {xs:List Value} (h:w.heap[g]?=some (.cells xs.toArray e (0,0))) (hn:xs.length=n) (hB:B<=g) (hm:n<=maxLen):w.ownsRow B e 1 (.slice (some ⟨g,0,none⟩) n n) n xs:=
 ⟨by omega,.inr ⟨g,n,_,rfl,hB,h,Nat.le_refl _,hm,by simp[hn],by simp[<-hn]⟩⟩
theorem PU (a b:List Value) (h:a.length=b.length):splice a 0 b=b:=by
 simp[splice,<-h]
theorem Fa {w:World} {b:Nat} {v0 v1 v2 v3 v4 v5 v6 v7 v8 u:Value} {T:TypeId} (h:w.heap[b]?=some (.cells #[v0,v1,v2,v3,v4,v5,v6,v7,v8] T (0,0))):(w.setCell ⟨b,8,none⟩ u).heap[b]?=some (.cells #[v0,v1,v2,v3,v4,v5,v6,v7,u] T (0,0)):=by
 have:=heap_setCell_same w b 8 _ T u h;simpa using this
def GD (P:List Nat) (kids:List Int) (j:Nat):List Value:=(kids.take j).map (fun z=>Value.int .i64 (P.idxOf z.toNat:Nat))++(kids.drop j).map (Value.int .i64)
theorem PV (P:List Nat) (kids:List Int):GD P kids 0=Az.all kids:=by simp[GD,CX]
theorem Sx (P:List Nat) (n:Nd):GD P n.kids n.kids.length=Az.all (AB P n).kids:=by
 simp[GD,CX,AB]
theorem Ul (P:List Nat) (kids:List Int) (j:Nat) (h:j<kids.length):(GD P kids j)[j]?=some (.int .i64 kids[j]):=by
 unfold GD;rw[List.getElem?_append_right (by simp;omega)];simp[Nat.min_eq_left (Nat.le_of_lt h),h]
theorem Sy (P:List Nat) (kids:List Int) (j:Nat) (h:j<kids.length):(GD P kids j).set j (.int .i64 (P.idxOf kids[j].toNat:Nat))=GD P kids (j+1):=by
 unfold GD;have hl:((kids.take j).map (fun z=>Value.int .i64 (P.idxOf z.toNat:Nat))).length=j:=by simp;omega
 rw[List.set_append_right _ _ (by omega),hl,Nat.sub_self,List.drop_eq_getElem_cons h,List.take_succ_eq_append_getElem h,List.map_append,List.map_cons,List.set_cons_zero,List.append_assoc];rfl
theorem Hm {P:List Nat} {n:Nd} (h:n.wf):(AB P n).wf:=by
 obtain⟨h1,h2,h3,h4⟩:=h;exact⟨h1,h2,by simpa[AB]using h3,h4⟩
theorem Av {w:World} {b:Nat} {o:Obj} (h:w.heap[b]?=some o):b<w.heap.size:=(Array.getElem?_eq_some_iff.1 h).1
theorem M3 {w:World} {cs:List Value} {T:TypeId} {n:Nat} (hn:w.heap.size=n):∀(j:Nat) (u:Value),cs[j]?=some u->(w.alloc (.cells cs.toArray T)).cell? ((⟨n,0,none⟩:Addr).add j)=some u:=fun j u hu=>by
 subst hn;obtain⟨_,e,h⟩:=Be (Ad w (.cells cs.toArray T)) j u hu;cases e;exact h
theorem Wf {w:World} {g j:Nat} {xs:List Value} {T:TypeId} (h:w.heap[g]?=some (.cells xs.toArray T (0,0))) (u:Value):(w.setCell ⟨g,j,none⟩ u).heap[g]?=some (.cells (xs.set j u).toArray T (0,0)):=by
 have:=heap_setCell_same w g j _ T u h;simpa using this
theorem PW {w:World} {g j:Nat} {xs:List Value} {T:TypeId} {u:Value} (h:w.heap[g]?=some (.cells xs.toArray T (0,0))) (hu:xs[j]?=some u):w.cell? ⟨g,j,none⟩=some u/\w.frozen? ⟨g,j,none⟩=false:=by
 simp[World.cell?,World.frozen?,h,hu]
theorem C7 {t:Tr} (h:Bv t) {i:Nat} {n:Nd} (hn:t.nodes[i]?=some n):n.kids.length<=i:=by
 have hk:∀k∈n.kids,0<=k/\k<(i:Int):=fun k hk=>Bw h hn hk
 have hnd:(n.kids.map Int.toNat).Nodup:=by
  rw[List.nodup_iff_count];intro z;have h1:=IF h (z:Int)
  have h2:n.kids.count (z:Int)<=(Aw t.nodes).count (z:Int):=by
   obtain⟨hi,e⟩:=List.getElem?_eq_some_iff.1 hn;have:=La t.nodes i n.kids.length (z:Int);simp only[BE,hn,Option.map_some,Option.getD_some,List.take_length,List.count_append]at this;omega
  have h3:(n.kids.map Int.toNat).count z=n.kids.count (z:Int):=by
   rw[List.count_eq_countP,List.count_eq_countP,List.countP_map];refine List.countP_congr fun k hk'=> ?_
   have:=hk k hk';simp only[Function.comp_apply,beq_iff_eq];omega
  omega
 have:=Dk hnd (n:=i) (fun k hk'=>by
  obtain⟨z,hz,rfl⟩:=List.mem_map.1 hk';have:=hk z hz;omega)
 simpa using this
theorem Sz {l:List Nd} {i:Nat} (hi:i<l.length) {z:Int} (hz:z∈l[i].kids):z.toNat∈Ab l i:=by
 simp only[Ab,List.getElem?_eq_getElem hi,Option.map_some,Option.getD_some];exact List.mem_map.2 ⟨z,hz,rfl⟩
theorem PX {w:World} {S:Nat->Prop} {P:List Nat} {n:Nd} {g m:Nat} (h:w.heap[g]?=some (.cells (Az.all (AB P n).kids).toArray 3 (0,0))) (hk:n.kids.length=m) (hm:m<=maxLen) (hS:S g):OwnS w S 3 1 (some ⟨g,0,none⟩) (AB P n).kids.length m (Az.all (AB P n).kids):=by
 have hlen:(AB P n).kids.length=m:=by simp[AB,hk]
 rw[hlen];exact⟨O1 h (by rw[Az.all_length,hlen];exact Nat.mul_one _) (Nat.zero_le _) hm,fun x hx=>by cases hx;exact hS⟩
def Um (w1:World) (P:List Nat) (ls:List Ln) (Z1 g3:Nat) (i v7:Value) (wr:World):Prop:=
 ∃(k:Nat) (ls':List Ln) (pl:List Value),k<=P.length/\i=.int .i64 k/\v7=.slice (some ⟨g3,0,none⟩) k P.length/\Hid (wr.ownsRow Z1 3 1 (.slice (some ⟨Z1,0,none⟩) ls.length ls.length) ls.length pl)/\Hid (∀j p,j<k->P[j]?=some p->pl[p]?=some (.int .i64 (j:Int))) /\
  Hid (wr.ownsRow Z1 42 9 (.slice (some ⟨g3,0,none⟩) k P.length) k (ndL.all ls'))/\Hid (ls'.map Ln.nd=(P.take k).map (fun p=>AB P (An (ls.map Ln.nd) p)))/\Hid (∀l∈ls',NdOwn wr (g3 < ·) l)/\Hid (Below Z1 w1 wr)/\Hid (g3<wr.heap.size)
set_option maxRecDepth 100000 in
set_option maxHeartbeats 6400000 in
theorem M4 (A:Option Addr) (c:Nat) (ls:List Ln) (root:Int) (node:Nat) (S:Nat->Prop) (w:World) (hT:ndL.row w S A ls) (hl:ls.length<=4294967296) (hr:Bv ⟨ls.map Ln.nd,root⟩) (hn:node<ls.length):
  Calls Tryz.prog 31 #[.agg #[.slice A ls.length c,.int .i64 root],.int .i64 node] w (TreePost (EV ⟨ls.map Ln.nd,root⟩ node) w):=by
 obtain⟨i0,hi,hz0,hz1,hz2⟩:=info_parts DA;obtain⟨j0,hj,hy0,hy1,hy2⟩:=info_parts FK;have HT:=qd hT;clear hT;have HR:=qd hr;clear hr;have HPL:=qd (show(Ak (ls.map Ln.nd) node).length<=ls.length by have:=CW HR.out node (by simpa using hn);simpa using this);have HAH:=qd (AE HR.out);have HND:=qd (EU HR.out node (by simpa using hn));have HMEM:=qd (show ∀p∈Ak (ls.map Ln.nd) node,p<ls.length from fun p hp=>by have:=Cr HAH.out node p hp;omega);have HNE:=qd (EW (ls.map Ln.nd) node);have HBE:=qd (fun w' (h:ndL.row w' S A ls)=>PT A c ls root node S w' h hl HR.out hn);unfold TreePost EV BH;have HKB:=qd (show ∀k (hk:k<(Ak (ls.map Ln.nd) node).length) z,z∈Ab (ls.map Ln.nd) (Ak (ls.map Ln.nd) node)[k]-> ∃j,j<k/\(Ak (ls.map Ln.nd) node)[j]?=some z from fun k hk z hz=>Iu HAH.out hk hz);simp only;generalize hPd:Ak (ls.map Ln.nd) node=P at *;clear hPd;go_enter Tryz.func31,Tryz.ntmps31
 have F1:=qd (show i0.bytes*ls.length<=281474976710656/\ls.length<=maxLen from⟨by rw[hz2];omega,by unfold maxLen;omega⟩);have F2:=qd (show j0.bytes*P.length<=281474976710656/\P.length<=maxLen from⟨by have:=HPL.out;rw[hy2];omega,by have:=HPL.out;unfold maxLen;omega⟩)
 go_wp2_with (first
  |(go_at_call 54;refine(HBE.out _ (HT.out.agree (AF (bx2 w _ _)))).mono ?_;rintro e w1 ⟨g1,c1,rfl,hown1,hb1⟩;have HO1:=qd hown1;have HB1:=qd hb1;clear hown1 hb1;have HK1:=qd (Ae HB1.out (A7 (Ad w _)));have HK2:=qd (show w1.heap[w.heap.size+1]?=some (.cells #[.slice none 0 0,.int .i64 0] 24 (0,0))from Ae HB1.out (by have h:=Ad (w.alloc (.cells #[.slice A ls.length c,.int .i64 root] 24)) (.cells #[.slice none 0 0,.int .i64 0] 24);simpa using h));obtain⟨q1,q2,_,_⟩:=Bd HK1.out)
  |(at_make;refine wpList_make_full _ rfl _ _ 40 rfl w1.heap.size 3 i0 _ 1 Tryz.underlying40 hi hz0 hz1 .i64 .i64 _ _ ls.length rfl rfl rfl rfl F1.out.1 F1.out.2 (Nat.le_refl _) ?_;intro w2 hown2 hgrow2;have HO2:=qd hown2;have HG2:=qd hgrow2;clear hown2 hgrow2;have HB2:=qd (show Below w1.heap.size w1 w2 from(Below.refl _ _).grown HG2.out (Nat.le_refl _) (fun k e=>by cases e)))
  |(at_make;refine wpList_make_own _ rfl _ _ 22 rfl w1.heap.size 42 j0 _ 9 Tryz.underlying22 hj hy0 hy1 .i64 .i64 _ P.length rfl rfl rfl F2.out.1 F2.out.2 HB2.out.size ?_;intro w3 hown3 hgrow3;have HO3:=qd hown3;have HG3:=qd hgrow3;clear hown3 hgrow3))
 have HBB:=qd (show Below w.heap.size w w1 from(bx2 w _ _).trans (HB1.out.mono (by simp;omega)));have HZ1:=qd (show w.heap.size+2<=w1.heap.size by have:=HB1.out.size;simp at this;omega);have HG1:=qd (show w.heap.size+2<=g1/\g1<w1.heap.size by have:=FA HO1.out;simp at this;omega);have HG1':=qd (show w1.heap.size<w2.heap.size from(FA HO2.out).2);have HB3:=qd (show Below w1.heap.size w1 w3 from HB2.out.grown HG3.out HB2.out.size (fun k e=>by cases e));have HZ3:=qd (show w2.heap.size<w3.heap.size from(FA HO3.out).2);have HO2':=qd (LM HO2.out HG3.out (fun k _ e=>by cases e));clear HG2 HG3 HB2 HO2 q1 q2;generalize hg3:w2.heap.size=g3 at *;clear hg3;generalize hz1:w1.heap.size=Z1 at *;have HZE:=qd hz1;clear hz1
 go_loopw [26,7] (fun i v7 wr=>Um w1 P ls Z1 g3 i v7 wr)
  (fun i _ _=>P.length-(intOf i).toNat)
 case atStart=>exact⟨0,[],_,by omega,rfl,rfl,qd HO2'.out,qd (fun j p hj=>by omega),qd HO3.out,qd (by simp),qd (by simp),qd HB3.out,qd HZ3.out⟩
 case round=>
  clear HO2' HO3 HB3 HZ3;obtain⟨wo,rfl⟩:∃wo:World,wo=wr:=⟨_,rfl⟩;obtain⟨k,ls',pl,hk,rfl,rfl,HO2,HPLS,HO3,HLS,HOW,HB,HZ⟩:=hrel;by_cases hlt:k<P.length
  ·have hkp:P[k]?=some P[k]:=List.getElem?_eq_getElem hlt;have HKP:=qd hkp;clear hkp;have hpl:=HMEM.out P[k] (List.getElem_mem hlt);have HKB':=qd (HKB.out k hlt);have HP1:=qd (show wo.ownsRow (w.heap.size+2) 3 1 (.slice (some ⟨g1,0,none⟩) P.length c1) P.length (AG P)from Au (Cl HO1.out (by simp)) (fun k hk=>by cases hk;exact HB.out.block _ (by have:=HG1.out;have:=HZE.out;show g1<Z1;omega)));have c0:=AX HP1.out k hlt (u:=.int .i64 (P[k]:Nat)) (by simp[AG,hlt]);have HLP:=qd (show k<P.length from hlt);generalize hpk:P[k]=p at *;have HPK:=qd hpk;clear hpk;have HBW:=qd (show Below w.heap.size w wo from HBB.out.trans (HB.out.mono (by have:=HZ1.out;have:=HZE.out;omega)));have HT':=qd (HT.out.agree (AF HBW.out))
   obtain⟨u1,c1'⟩:∃u,wo.cell? ⟨Z1,p,none⟩=some u:=by
    have h:=HO2.out.1;exact⟨pl[p]'(by omega),AX HO2.out p hpl (List.getElem?_eq_getElem (by omega))⟩
   have c2:=World.ownsRow.frozenAt HO2.out p;obtain⟨b,o,hA,_,_,x0,x1,x2,x3,x4,x5,x6,x7,x8⟩:=D3 HT'.out p hpl;have hbl:b<w.heap.size:=O0 (hA▸HT.out) (by omega);have hbZ:b≠Z1:=by have:=HZ1.out;have:=HZE.out;omega
   have HS1:=qd (show Agree (· ≠ Z1) wo (wo.setCell ⟨Z1,p,none⟩ (.int .i64 (k:Int)))from Sv wo ⟨Z1,p,none⟩ _);subst hA;obtain⟨t1,t2,_,_⟩:=Bd (HB.out.block w.heap.size (by have:=HZ1.out;have:=HZE.out;omega)▸HK1.out);have i1:(p:Int)<(ls.length:Int):=by omega
   have i2:(k:Int)<(P.length:Int):=by omega
   have hPb:P.length<=4294967296:=by have:=HPL.out;omega
   have hHZ:w.heap.size≠Z1:=by have:=HZ1.out;have:=HZE.out;omega
   have HSZ2:=qd (show((wo.setCell ⟨Z1,p,none⟩ (.int .i64 (k:Int))).alloc (.cells #[.int .u8 ls[p].nd.kind,.int .u64 ls[p].nd.s0,.int .u64 ls[p].nd.s1,.int .u64 ls[p].nd.s2,.int .u64 ls[p].nd.s3,.string ls[p].nd.text,.int .i64 ls[p].nd.mn,.int .i64 ls[p].nd.mx,.slice ls[p].A ls[p].nd.kids.length ls[p].c] 42)).heap.size=wo.heap.size+1 by simp)
   have HBX:=qd (show((wo.setCell ⟨Z1,p,none⟩ (.int .i64 (k:Int))).alloc (.cells #[.int .u8 ls[p].nd.kind,.int .u64 ls[p].nd.s0,.int .u64 ls[p].nd.s1,.int .u64 ls[p].nd.s2,.int .u64 ls[p].nd.s3,.string ls[p].nd.text,.int .i64 ls[p].nd.mn,.int .i64 ls[p].nd.mx,.slice ls[p].A ls[p].nd.kids.length ls[p].c] 42)).heap[wo.heap.size]?=some (.cells #[.int .u8 ls[p].nd.kind,.int .u64 ls[p].nd.s0,.int .u64 ls[p].nd.s1,.int .u64 ls[p].nd.s2,.int .u64 ls[p].nd.s3,.string ls[p].nd.text,.int .i64 ls[p].nd.mn,.int .i64 ls[p].nd.mx,.slice ls[p].A ls[p].nd.kids.length ls[p].c] 42 (0,0))by
    have h:=Ad (wo.setCell ⟨Z1,p,none⟩ (.int .i64 (k:Int))) (.cells #[.int .u8 ls[p].nd.kind,.int .u64 ls[p].nd.s0,.int .u64 ls[p].nd.s1,.int .u64 ls[p].nd.s2,.int .u64 ls[p].nd.s3,.string ls[p].nd.text,.int .i64 ls[p].nd.mn,.int .i64 ls[p].nd.mx,.slice ls[p].A ls[p].nd.kids.length ls[p].c] 42);simpa using h)
   have HW2A:=qd (show ∀x,x<wo.heap.size->x≠Z1->((wo.setCell ⟨Z1,p,none⟩ (.int .i64 (k:Int))).alloc (.cells #[.int .u8 ls[p].nd.kind,.int .u64 ls[p].nd.s0,.int .u64 ls[p].nd.s1,.int .u64 ls[p].nd.s2,.int .u64 ls[p].nd.s3,.string ls[p].nd.text,.int .i64 ls[p].nd.mn,.int .i64 ls[p].nd.mx,.slice ls[p].A ls[p].nd.kids.length ls[p].c] 42)).heap[x]?=wo.heap[x]? from fun x h1 h2=>(Below.heap_alloc _ _ x (by simpa using h1)).trans (Below.heap_setCell _ _ _ _ h2));have HW2:=qd (show((wo.setCell ⟨Z1,p,none⟩ (.int .i64 (k:Int))).alloc (.cells #[.int .u8 ls[p].nd.kind,.int .u64 ls[p].nd.s0,.int .u64 ls[p].nd.s1,.int .u64 ls[p].nd.s2,.int .u64 ls[p].nd.s3,.string ls[p].nd.text,.int .i64 ls[p].nd.mn,.int .i64 ls[p].nd.mx,.slice ls[p].A ls[p].nd.kids.length ls[p].c] 42)).heap[g3]?=wo.heap[g3]? /\ ((wo.setCell ⟨Z1,p,none⟩ (.int .i64 (k:Int))).alloc (.cells #[.int .u8 ls[p].nd.kind,.int .u64 ls[p].nd.s0,.int .u64 ls[p].nd.s1,.int .u64 ls[p].nd.s2,.int .u64 ls[p].nd.s3,.string ls[p].nd.text,.int .i64 ls[p].nd.mn,.int .i64 ls[p].nd.mx,.slice ls[p].A ls[p].nd.kids.length ls[p].c] 42)).heap[Z1]?=(wo.setCell ⟨Z1,p,none⟩ (.int .i64 (k:Int))).heap[Z1]? from⟨HW2A.out g3 HZ.out (by have:=HG1'.out;omega),Below.heap_alloc _ _ Z1 (by have:=HB.out.size;have:=HZ.out;have:=HG1'.out;simp;omega)⟩);have HBW2:=qd (show Below w.heap.size w ((wo.setCell ⟨Z1,p,none⟩ (.int .i64 (k:Int))).alloc (.cells #[.int .u8 ls[p].nd.kind,.int .u64 ls[p].nd.s0,.int .u64 ls[p].nd.s1,.int .u64 ls[p].nd.s2,.int .u64 ls[p].nd.s3,.string ls[p].nd.text,.int .i64 ls[p].nd.mn,.int .i64 ls[p].nd.mx,.slice ls[p].A ls[p].nd.kids.length ls[p].c] 42))from(HBW.out.setCell (p:=⟨Z1,p,none⟩) (by have:=HZ1.out;have:=HZE.out;show w.heap.size<=Z1;omega) _).alloc (by have:=HBW.out.size;simpa using this) _);have HPL1:=qd (World.ownsRow.stored HO2.out p (.int .i64 (k:Int))).1;have HRK:=qd (show ls[p].nd.kids.length<=p from C7 HR.out (i:=p) (n:=ls[p].nd) (by simp[hpl]));have HWF:=qd (Mb HT'.out p hpl);by_cases hkid:0<ls[p].nd.kids.length
   ·as_aux_lemma=>
     have F3:=qd (show i0.bytes*ls[p].nd.kids.length<=281474976710656/\ls[p].nd.kids.length<=maxLen from⟨by have:=HRK.out;rw[hz2];omega,by have:=HRK.out;unfold maxLen;omega⟩);have hsz1:(Tryz.prog.info? 3).map (·.size)=some 1:=by kernel_rfl
     have HSZ1:=qd hsz1;clear hsz1
     go_wp2_with (first
      |(at_make;refine wpList_make_full _ rfl _ _ 40 rfl (wo.heap.size+1) 3 i0 _ 1 Tryz.underlying40 hi hz0 hz1 .i64 .i64 _ _ ls[p].nd.kids.length rfl rfl rfl rfl F3.out.1 F3.out.2 (by simp) ?_;intro w4 ho4 hg4;have HO4:=qd ho4;have HG4:=qd hg4;clear ho4 hg4;have HB4:=qd (show Below (wo.heap.size+1) ((wo.setCell ⟨Z1,p,none⟩ (.int .i64 (k:Int))).alloc (.cells #[.int .u8 ls[p].nd.kind,.int .u64 ls[p].nd.s0,.int .u64 ls[p].nd.s1,.int .u64 ls[p].nd.s2,.int .u64 ls[p].nd.s3,.string ls[p].nd.text,.int .i64 ls[p].nd.mn,.int .i64 ls[p].nd.mx,.slice ls[p].A ls[p].nd.kids.length ls[p].c] 42)) w4 from(Below.refl _ _).grown HG4.out (by simp) (fun k e=>by cases e));have HBW4:=qd (HBW2.out.trans (HB4.out.mono (by have:=HBW.out.size;omega)));have HBX4:=qd ((HB4.out.block wo.heap.size (by omega)).trans HBX.out);obtain⟨_,_,_,_,_,_,_,_,y8,_⟩:=BP HBX4.out)
      |(with_reducible refine wpList_copy_splice rfl (.tmp 48) (.tmp 50) 40 40 rfl 3 Tryz.underlying40 HSZ1.out (some ⟨wo.heap.size+1,0,none⟩) ls[p].A ls[p].nd.kids.length ls[p].nd.kids.length ls[p].nd.kids.length ls[p].c rfl rfl (wo.heap.size+1) 0 _ 3 (Uk (by simpa using HO4.out)) (Az.all ls[p].nd.kids) ?_ ?_ ?_ (Az.all_one' _) (wo.heap.size+1) w4 (Below.refl _ _) (Nat.le_refl _) ?_))
     ·rw[Az.all_length];show _*1=_;simp[Nat.min_def]
     ·intro _;have hrow:=(EX (HT.out.agree (AF HBW4.out)) p hpl).rowAt;obtain⟨ad,e,_⟩:=hrow 0 _ (List.getElem?_eq_getElem (by rw[Az.all_length];show 0<_*1;omega));exact⟨ad,e,fun j v hv=>by obtain⟨ad',e',h⟩:=hrow j v hv;rw[e]at e';cases e';exact h⟩
     ·rw[Az.all_length];have:=HO4.out.1;show 0+_*1<=_;simp at this ⊢;omega
     intro w5 HC5 hb5
     have HL5:=qd (show w5.heap[wo.heap.size+1]?=some (.cells (GD P ls[p].nd.kids 0).toArray 3 (0,0))by
      have h:=HC5.out;rw[PU _ _ (by rw[Az.all_length,Array.length_toList,size_madeCells];exact(Nat.mul_one _).symm)]at h;rw[PV];exact h)
     have HB5:=qd (HB4.out.trans hb5);clear hb5 HC5;go_wp2_with fail
     go_loopw [54] (fun i wx=>∃j:Nat,j<=ls[p].nd.kids.length/\i=.int .i64 j/\Hid (wx.heap[wo.heap.size+1]?=some (.cells (GD P ls[p].nd.kids j).toArray 3 (0,0)))/\Hid (Below (wo.heap.size+1) ((wo.setCell ⟨Z1,p,none⟩ (.int .i64 (k:Int))).alloc (.cells #[.int .u8 ls[p].nd.kind,.int .u64 ls[p].nd.s0,.int .u64 ls[p].nd.s1,.int .u64 ls[p].nd.s2,.int .u64 ls[p].nd.s3,.string ls[p].nd.text,.int .i64 ls[p].nd.mn,.int .i64 ls[p].nd.mx,.slice ls[p].A ls[p].nd.kids.length ls[p].c] 42)) wx)) (fun i _=>ls[p].nd.kids.length-(intOf i).toNat)
     case atStart=>exact⟨0,by omega,rfl,HL5,HB5⟩
     case round=>
      clear HL5 HB5 HO4 HG4 HB4 HBX4 HBW4;obtain⟨j,hjb,rfl,HL6,HB6⟩:=hrel;obtain⟨w6,rfl⟩:∃w6:World,w6=wr:=⟨_,rfl⟩;by_cases hjl:j<ls[p].nd.kids.length
      ·have hz:=Bw HR.out (i:=p) (n:=ls[p].nd) (by simp[hpl]) (List.getElem_mem hjl);obtain⟨jz,hjz1,hjz2⟩:=HKB'.out ls[p].nd.kids[j].toNat (by have:=Sz (l:=ls.map Ln.nd) (i:=p) (by simpa using hpl) (z:=ls[p].nd.kids[j]) (by simp);exact this);have hidx:=EZ HND.out hjz2;have HPLr:=qd (Au HPL1.out (fun x hx=>by cases hx;exact(HB6.out.block Z1 (by have:=HZ.out;have:=HG1'.out;show Z1<_;omega)).trans HW2.out.2));have c3:=AX HPLr.out ls[p].nd.kids[j].toNat (by omega) (u:=.int .i64 (jz:Int)) (by rw[List.getElem?_set_ne (by omega)];exact HPLS.out jz _ hjz1 hjz2);obtain⟨c4,c5⟩:=PW HL6.out (Ul P ls[p].nd.kids j hjl);have HST:=qd (Sy P ls[p].nd.kids j hjl);rw[hidx]at HST;have HRN:=qd (Wf (j:=j) HL6.out (.int .i64 (jz:Int)));rw[HST.out]at HRN;clear hidx HST hjz2;generalize ls[p].nd.kids[j]=z at *;obtain⟨zn,rfl⟩:=Int.eq_ofNat_of_zero_le hz.1;simp only[Int.toNat_natCast]at c3;have i3:(j:Int)<(ls[p].nd.kids.length:Int):=by omega
       have i4:(zn:Int)<(ls.length:Int):=by omega
       have hkl:ls[p].nd.kids.length<=4294967296:=by have:=HRK.out;omega
       have hz2:=hz.2;clear hz;go_wp2_with fail
       exact⟨⟨j+1,by omega,by go_num,HRN,qd (HB6.out.setCell (p:=⟨wo.heap.size+1,j,none⟩) (Nat.le_refl _) _)⟩,by simp[intOf];omega⟩
      ·obtain rfl:j=ls[p].nd.kids.length:=by omega
       rw[Sx]at HL6;have HBX6:=qd ((HB6.out.block wo.heap.size (by omega)).trans HBX.out);obtain⟨_,_,_,_,_,_,_,_,y8,_,_,_,_,_,_,_,_,z8⟩:=BP HBX6.out;have HX7:=qd (Fa (u:=(.slice (some ⟨wo.heap.size+1,0,none⟩) (ls[p].nd.kids.length) (ls[p].nd.kids.length))) HBX6.out);have HE7:=qd (show ∀x,x≠wo.heap.size->(w6.setCell ⟨wo.heap.size,8,none⟩ (.slice (some ⟨wo.heap.size+1,0,none⟩) (ls[p].nd.kids.length) (ls[p].nd.kids.length))).heap[x]?=w6.heap[x]? from fun x hx=>Below.heap_setCell _ _ _ _ hx);have HM7:=qd (show(w6.setCell ⟨wo.heap.size,8,none⟩ (.slice (some ⟨wo.heap.size+1,0,none⟩) (ls[p].nd.kids.length) (ls[p].nd.kids.length))).heap.size=w6.heap.size/\(w6.setCell ⟨wo.heap.size,8,none⟩ (.slice (some ⟨wo.heap.size+1,0,none⟩) (ls[p].nd.kids.length) (ls[p].nd.kids.length))).os=w6.os/\(w6.setCell ⟨wo.heap.size,8,none⟩ (.slice (some ⟨wo.heap.size+1,0,none⟩) (ls[p].nd.kids.length) (ls[p].nd.kids.length))).tape=w6.tape/\(w6.setCell ⟨wo.heap.size,8,none⟩ (.slice (some ⟨wo.heap.size+1,0,none⟩) (ls[p].nd.kids.length) (ls[p].nd.kids.length))).output=w6.output from⟨by simp,rfl,rfl,rfl⟩);go_upto_region 19 with(fail)
       generalize (w6.setCell ⟨wo.heap.size,8,none⟩ (.slice (some ⟨wo.heap.size+1,0,none⟩) (ls[p].nd.kids.length) (ls[p].nd.kids.length)))=w7 at *;clear y8 z8;obtain⟨y0,y1,y2,y3,y4,y5,y6,y7,y8,_⟩:=BP HX7.out;have HO3b:=qd (show(w7.alloc (.cells #[.int .u8 ls[p].nd.kind,.int .u64 ls[p].nd.s0,.int .u64 ls[p].nd.s1,.int .u64 ls[p].nd.s2,.int .u64 ls[p].nd.s3,.string ls[p].nd.text,.int .i64 ls[p].nd.mn,.int .i64 ls[p].nd.mx,.slice (some ⟨wo.heap.size+1,0,none⟩) (ls[p].nd.kids.length) (ls[p].nd.kids.length)] 42)).ownsRow Z1 42 9 (.slice (some ⟨g3,0,none⟩) k P.length) k (ndL.all ls')from Au HO3.out (fun x hx=>by cases hx;exact(Below.heap_alloc _ _ g3 (by have h:=HB6.out.size;have h2:=HM7.out.1;have:=HZ.out;simp at h;show g3<_;omega)).trans ((HE7.out g3 (by have:=HZ.out;omega)).trans ((HB6.out.block g3 (by have:=HZ.out;omega)).trans HW2.out.1))));have HNC:=qd (show ∀(j:Nat) (u:Value),([.int .u8 ls[p].nd.kind,.int .u64 ls[p].nd.s0,.int .u64 ls[p].nd.s1,.int .u64 ls[p].nd.s2,.int .u64 ls[p].nd.s3,.string ls[p].nd.text,.int .i64 ls[p].nd.mn,.int .i64 ls[p].nd.mx,.slice (some ⟨wo.heap.size+1,0,none⟩) (ls[p].nd.kids.length) (ls[p].nd.kids.length)]:List Value)[j]?=some u->(w7.alloc (.cells #[.int .u8 ls[p].nd.kind,.int .u64 ls[p].nd.s0,.int .u64 ls[p].nd.s1,.int .u64 ls[p].nd.s2,.int .u64 ls[p].nd.s3,.string ls[p].nd.text,.int .i64 ls[p].nd.mn,.int .i64 ls[p].nd.mx,.slice (some ⟨wo.heap.size+1,0,none⟩) (ls[p].nd.kids.length) (ls[p].nd.kids.length)] 42)).cell? ((⟨w7.heap.size,0,none⟩:Addr).add j)=some u from M3 (cs:=[.int .u8 ls[p].nd.kind,.int .u64 ls[p].nd.s0,.int .u64 ls[p].nd.s1,.int .u64 ls[p].nd.s2,.int .u64 ls[p].nd.s3,.string ls[p].nd.text,.int .i64 ls[p].nd.mn,.int .i64 ls[p].nd.mx,.slice (some ⟨wo.heap.size+1,0,none⟩) (ls[p].nd.kids.length) (ls[p].nd.kids.length)]) rfl);have HNO:=qd (show ∀u∈([.int .u8 ls[p].nd.kind,.int .u64 ls[p].nd.s0,.int .u64 ls[p].nd.s1,.int .u64 ls[p].nd.s2,.int .u64 ls[p].nd.s3,.string ls[p].nd.text,.int .i64 ls[p].nd.mn,.int .i64 ls[p].nd.mx,.slice (some ⟨wo.heap.size+1,0,none⟩) (ls[p].nd.kids.length) (ls[p].nd.kids.length)]:List Value),u.oneCell'=true from(fun u hu=>by simp only[List.mem_cons,List.not_mem_nil,or_false]at hu;rcases hu with rfl|rfl|rfl|rfl|rfl|rfl|rfl|rfl|rfl <;> rfl));clear y0 y1 y2 y3 y4 y5 y6 y7 y8;refine wp_region_list ?_;refine Bc rfl (EQ rfl rfl) ?_;refine Bc rfl (Ep rfl rfl (Lc w7 wo.heap.size _ _ _ _ _ _ _ _ _ _ HX7.out)) ?_;refine Bc rfl (DG rfl rfl (Iv w7 _ _ _ _ _ _ _ _ _)) ?_;refine wpList_append_fits _ rfl (.tmp 69) (.tmp 71) 22 rfl Z1 42 j0 9 Tryz.underlying22 hj hy1 g3 k P.length (ndL.all ls') rfl HO3b.out ⟨w7.heap.size,0,none⟩ 1 1 [.int .u8 ls[p].nd.kind,.int .u64 ls[p].nd.s0,.int .u64 ls[p].nd.s1,.int .u64 ls[p].nd.s2,.int .u64 ls[p].nd.s3,.string ls[p].nd.text,.int .i64 ls[p].nd.mn,.int .i64 ls[p].nd.mx,.slice (some ⟨wo.heap.size+1,0,none⟩) (ls[p].nd.kids.length) (ls[p].nd.kids.length)] rfl rfl HNC.out HNO.out HLP.out ?_;intro w8 ho8 hg8;have HO8:=qd ho8;have HG8:=qd hg8;clear ho8 hg8;simp only[Act.put,List.setIfInBounds_toArray,List.set_cons_zero,List.set_cons_succ];go_wp2_with fail
       have HE8:=qd (show ∀x,x<w6.heap.size->x≠wo.heap.size->x≠g3->w8.heap[x]?=w6.heap[x]? from fun x h1 h2 h3=>(HG8.out.block x (by have:=HM7.out.1;simp;omega) (fun e=>h3 (by cases e;rfl))).trans ((Below.heap_alloc _ _ x (by have:=HM7.out.1;omega)).trans (HE7.out x h2)));have HS6:=qd HB6.out.size;have HS8:=qd (show w6.heap.size<=w8.heap.size by have:=HG8.out.size;have h:=HM7.out.1;simp at this;omega);have HZ6:=qd (show Z1<g3/\w.heap.size+2<=Z1 by have:=HG1'.out;have:=HZ1.out;have:=HZE.out;omega);refine⟨⟨k+1,ls'++[⟨AB P ls[p].nd,some ⟨wo.heap.size+1,0,none⟩,ls[p].nd.kids.length⟩],pl.set p (.int .i64 (k:Int)),by omega,by go_num,rfl,qd ?_,qd ?_,qd ?_,qd ?_,qd ?_,qd ?_,qd ?_⟩,by simp[intOf];omega⟩
       ·have hzz:=HZ6.out;have h6:=HS6.out;have hz:=HZ.out;simp only[HSZ2.out]at h6;exact Au HPL1.out (fun x hx=>by cases hx;exact(HE8.out Z1 (by omega) (by omega) (by omega)).trans ((HB6.out.block Z1 (by omega)).trans HW2.out.2))
       ·intro j q hj hq;by_cases e:j=k
        ·subst e;rw[HKP.out]at hq;cases hq;rw[List.getElem?_set_self (by rw[HO2.out.1];omega)]
        ·have h1:=HPLS.out j q (by omega) hq;rw[List.getElem?_set_ne (fun e2=>e ?_)]
         ·exact h1
         ·subst e2;exact(EZ HND.out hq).symm.trans (EZ HND.out HKP.out)
       ·have h:=HO8.out;rw[show ndL.all (ls'++[⟨AB P ls[p].nd,some ⟨wo.heap.size+1,0,none⟩,ls[p].nd.kids.length⟩])=ndL.all ls'++[.int .u8 ls[p].nd.kind,.int .u64 ls[p].nd.s0,.int .u64 ls[p].nd.s1,.int .u64 ls[p].nd.s2,.int .u64 ls[p].nd.s3,.string ls[p].nd.text,.int .i64 ls[p].nd.mn,.int .i64 ls[p].nd.mx,.slice (some ⟨wo.heap.size+1,0,none⟩) (ls[p].nd.kids.length) (ls[p].nd.kids.length)]by rw[Lay.all_append,Lay.all_one];simp[ndL,AB]];exact h
       ·have e1:P.take (k+1)=P.take k++[p]:=by rw[List.take_add_one,HKP.out];rfl
        rw[e1,List.map_append,List.map_append,HLS.out];simp[An,hpl]
       ·intro l hl;have hzz:=HZ6.out;have h6:=HS6.out;have hz:=HZ.out;simp only[HSZ2.out]at h6;rcases List.mem_append.1 hl with hl|hl
        ·refine((HOW.out l hl).mono (T:=fun x=>g3<x/\x<wo.heap.size) (fun x h1 h2=>⟨h2,h1⟩)).agree (fun x hx _=> ?_) |>.mono (fun x _ h=>h.1)
         exact(HE8.out x (by omega) (by omega) (by omega)).trans ((HB6.out.block x (by omega)).trans (HW2A.out x hx.2 (by omega)))
        ·simp only[List.mem_singleton]at hl;subst hl;exact⟨Hm HWF.out,PX ((HE8.out _ (Av HL6.out) (by omega) (by omega)).trans HL6.out) rfl (by have:=HRK.out;show ls[p].nd.kids.length<=maxLen;unfold maxLen;omega) (show g3<wo.heap.size+1 by omega)⟩
       ·have hzz:=HZ6.out;have h6:=HS6.out;have hz:=HZ.out;simp only[HSZ2.out]at h6;refine⟨?_,?_,?_,?_,?_⟩
        ·exact HG8.out.os.trans (HM7.out.2.1.trans (HB6.out.os.trans HB.out.os))
        ·exact HG8.out.tape.trans (HM7.out.2.2.1.trans (HB6.out.tape.trans HB.out.tape))
        ·exact HG8.out.output.trans (HM7.out.2.2.2.trans (HB6.out.output.trans HB.out.output))
        ·have:=HB.out.size;have:=HS8.out;omega
        ·intro x hx;have:=HB.out.size;have:=HZE.out;exact(HE8.out x (by omega) (by omega) (by omega)).trans ((HB6.out.block x (by omega)).trans ((HW2A.out x (by omega) (by omega)).trans (HB.out.block x hx)))
       ·have h6:=HS6.out;have hz:=HZ.out;have:=HS8.out;simp only[HSZ2.out]at h6;omega
   ·as_aux_lemma=>
     have HK0:=qd (show ls[p].nd.kids.length=0 by omega);go_wp2_with fail
     go_loopw [54] (fun i wx=>i=.int .i64 0/\Hid (Below (wo.heap.size+1) ((wo.setCell ⟨Z1,p,none⟩ (.int .i64 (k:Int))).alloc (.cells #[.int .u8 ls[p].nd.kind,.int .u64 ls[p].nd.s0,.int .u64 ls[p].nd.s1,.int .u64 ls[p].nd.s2,.int .u64 ls[p].nd.s3,.string ls[p].nd.text,.int .i64 ls[p].nd.mn,.int .i64 ls[p].nd.mx,.slice ls[p].A ls[p].nd.kids.length ls[p].c] 42)) wx)) (fun _ _=>0)
     case atStart=>exact⟨rfl,qd (Below.refl _ _)⟩
     case round=>
      obtain⟨rfl,HB6⟩:=hrel;obtain⟨w6,rfl⟩:∃w6:World,w6=wr:=⟨_,rfl⟩;have HBX6:=qd ((HB6.out.block wo.heap.size (by omega)).trans HBX.out);obtain⟨_,_,_,_,_,_,_,_,y8,_,_,_,_,_,_,_,_,z8⟩:=BP HBX6.out;have HX7:=qd (Fa (u:=(.slice (none) (0) (0))) HBX6.out);have HE7:=qd (show ∀x,x≠wo.heap.size->(w6.setCell ⟨wo.heap.size,8,none⟩ (.slice (none) (0) (0))).heap[x]?=w6.heap[x]? from fun x hx=>Below.heap_setCell _ _ _ _ hx);have HM7:=qd (show(w6.setCell ⟨wo.heap.size,8,none⟩ (.slice (none) (0) (0))).heap.size=w6.heap.size/\(w6.setCell ⟨wo.heap.size,8,none⟩ (.slice (none) (0) (0))).os=w6.os/\(w6.setCell ⟨wo.heap.size,8,none⟩ (.slice (none) (0) (0))).tape=w6.tape/\(w6.setCell ⟨wo.heap.size,8,none⟩ (.slice (none) (0) (0))).output=w6.output from⟨by simp,rfl,rfl,rfl⟩);go_upto_region 19 with(fail)
      generalize (w6.setCell ⟨wo.heap.size,8,none⟩ (.slice (none) (0) (0)))=w7 at *;clear y8 z8;obtain⟨y0,y1,y2,y3,y4,y5,y6,y7,y8,_⟩:=BP HX7.out;have HO3b:=qd (show(w7.alloc (.cells #[.int .u8 ls[p].nd.kind,.int .u64 ls[p].nd.s0,.int .u64 ls[p].nd.s1,.int .u64 ls[p].nd.s2,.int .u64 ls[p].nd.s3,.string ls[p].nd.text,.int .i64 ls[p].nd.mn,.int .i64 ls[p].nd.mx,.slice (none) (0) (0)] 42)).ownsRow Z1 42 9 (.slice (some ⟨g3,0,none⟩) k P.length) k (ndL.all ls')from Au HO3.out (fun x hx=>by cases hx;exact(Below.heap_alloc _ _ g3 (by have h:=HB6.out.size;have h2:=HM7.out.1;have:=HZ.out;simp at h;show g3<_;omega)).trans ((HE7.out g3 (by have:=HZ.out;omega)).trans ((HB6.out.block g3 (by have:=HZ.out;omega)).trans HW2.out.1))));have HNC:=qd (show ∀(j:Nat) (u:Value),([.int .u8 ls[p].nd.kind,.int .u64 ls[p].nd.s0,.int .u64 ls[p].nd.s1,.int .u64 ls[p].nd.s2,.int .u64 ls[p].nd.s3,.string ls[p].nd.text,.int .i64 ls[p].nd.mn,.int .i64 ls[p].nd.mx,.slice (none) (0) (0)]:List Value)[j]?=some u->(w7.alloc (.cells #[.int .u8 ls[p].nd.kind,.int .u64 ls[p].nd.s0,.int .u64 ls[p].nd.s1,.int .u64 ls[p].nd.s2,.int .u64 ls[p].nd.s3,.string ls[p].nd.text,.int .i64 ls[p].nd.mn,.int .i64 ls[p].nd.mx,.slice (none) (0) (0)] 42)).cell? ((⟨w7.heap.size,0,none⟩:Addr).add j)=some u from M3 (cs:=[.int .u8 ls[p].nd.kind,.int .u64 ls[p].nd.s0,.int .u64 ls[p].nd.s1,.int .u64 ls[p].nd.s2,.int .u64 ls[p].nd.s3,.string ls[p].nd.text,.int .i64 ls[p].nd.mn,.int .i64 ls[p].nd.mx,.slice (none) (0) (0)]) rfl);have HNO:=qd (show ∀u∈([.int .u8 ls[p].nd.kind,.int .u64 ls[p].nd.s0,.int .u64 ls[p].nd.s1,.int .u64 ls[p].nd.s2,.int .u64 ls[p].nd.s3,.string ls[p].nd.text,.int .i64 ls[p].nd.mn,.int .i64 ls[p].nd.mx,.slice (none) (0) (0)]:List Value),u.oneCell'=true from(fun u hu=>by simp only[List.mem_cons,List.not_mem_nil,or_false]at hu;rcases hu with rfl|rfl|rfl|rfl|rfl|rfl|rfl|rfl|rfl <;> rfl));clear y0 y1 y2 y3 y4 y5 y6 y7 y8;refine wp_region_list ?_;refine Bc rfl (EQ rfl rfl) ?_;refine Bc rfl (Ep rfl rfl (Lc w7 wo.heap.size _ _ _ _ _ _ _ _ _ _ HX7.out)) ?_;refine Bc rfl (DG rfl rfl (Iv w7 _ _ _ _ _ _ _ _ _)) ?_;refine wpList_append_fits _ rfl (.tmp 69) (.tmp 71) 22 rfl Z1 42 j0 9 Tryz.underlying22 hj hy1 g3 k P.length (ndL.all ls') rfl HO3b.out ⟨w7.heap.size,0,none⟩ 1 1 [.int .u8 ls[p].nd.kind,.int .u64 ls[p].nd.s0,.int .u64 ls[p].nd.s1,.int .u64 ls[p].nd.s2,.int .u64 ls[p].nd.s3,.string ls[p].nd.text,.int .i64 ls[p].nd.mn,.int .i64 ls[p].nd.mx,.slice (none) (0) (0)] rfl rfl HNC.out HNO.out HLP.out ?_;intro w8 ho8 hg8;have HO8:=qd ho8;have HG8:=qd hg8;clear ho8 hg8;simp only[Act.put,List.setIfInBounds_toArray,List.set_cons_zero,List.set_cons_succ];go_wp2_with fail
      have HE8:=qd (show ∀x,x<w6.heap.size->x≠wo.heap.size->x≠g3->w8.heap[x]?=w6.heap[x]? from fun x h1 h2 h3=>(HG8.out.block x (by have:=HM7.out.1;simp;omega) (fun e=>h3 (by cases e;rfl))).trans ((Below.heap_alloc _ _ x (by have:=HM7.out.1;omega)).trans (HE7.out x h2)));have HS6:=qd HB6.out.size;have HS8:=qd (show w6.heap.size<=w8.heap.size by have:=HG8.out.size;have h:=HM7.out.1;simp at this;omega);have HZ6:=qd (show Z1<g3/\w.heap.size+2<=Z1 by have:=HG1'.out;have:=HZ1.out;have:=HZE.out;omega);refine⟨⟨k+1,ls'++[⟨AB P ls[p].nd,none,0⟩],pl.set p (.int .i64 (k:Int)),by omega,by go_num,rfl,qd ?_,qd ?_,qd ?_,qd ?_,qd ?_,qd ?_,qd ?_⟩,by simp[intOf];omega⟩
      ·have hzz:=HZ6.out;have h6:=HS6.out;have hz:=HZ.out;simp only[HSZ2.out]at h6;exact Au HPL1.out (fun x hx=>by cases hx;exact(HE8.out Z1 (by omega) (by omega) (by omega)).trans ((HB6.out.block Z1 (by omega)).trans HW2.out.2))
      ·intro j q hj hq;by_cases e:j=k
       ·subst e;rw[HKP.out]at hq;cases hq;rw[List.getElem?_set_self (by rw[HO2.out.1];omega)]
       ·have h1:=HPLS.out j q (by omega) hq;rw[List.getElem?_set_ne (fun e2=>e ?_)]
        ·exact h1
        ·subst e2;exact(EZ HND.out hq).symm.trans (EZ HND.out HKP.out)
      ·have h:=HO8.out;rw[show ndL.all (ls'++[⟨AB P ls[p].nd,none,0⟩])=ndL.all ls'++[.int .u8 ls[p].nd.kind,.int .u64 ls[p].nd.s0,.int .u64 ls[p].nd.s1,.int .u64 ls[p].nd.s2,.int .u64 ls[p].nd.s3,.string ls[p].nd.text,.int .i64 ls[p].nd.mn,.int .i64 ls[p].nd.mx,.slice (none) (0) (0)]by rw[Lay.all_append,Lay.all_one];simp[ndL,AB,HK0.out]];exact h
      ·have e1:P.take (k+1)=P.take k++[p]:=by rw[List.take_add_one,HKP.out];rfl
       rw[e1,List.map_append,List.map_append,HLS.out];simp[An,hpl]
      ·intro l hl;have hzz:=HZ6.out;have h6:=HS6.out;have hz:=HZ.out;simp only[HSZ2.out]at h6;rcases List.mem_append.1 hl with hl|hl
       ·refine((HOW.out l hl).mono (T:=fun x=>g3<x/\x<wo.heap.size) (fun x h1 h2=>⟨h2,h1⟩)).agree (fun x hx _=> ?_) |>.mono (fun x _ h=>h.1)
        exact(HE8.out x (by omega) (by omega) (by omega)).trans ((HB6.out.block x (by omega)).trans (HW2A.out x hx.2 (by omega)))
       ·simp only[List.mem_singleton]at hl;subst hl;have hlen:(AB P ls[p].nd).kids=[]:=List.eq_nil_of_length_eq_zero (by have:=HK0.out;simpa[AB]using this);refine⟨Hm HWF.out,?_⟩;show OwnS w8 (g3 < ·) 3 1 none (AB P ls[p].nd).kids.length 0 (Az.all (AB P ls[p].nd).kids);rw[hlen];exact OwnS.nil _ _ _ _
      ·have hzz:=HZ6.out;have h6:=HS6.out;have hz:=HZ.out;simp only[HSZ2.out]at h6;refine⟨?_,?_,?_,?_,?_⟩
       ·exact HG8.out.os.trans (HM7.out.2.1.trans (HB6.out.os.trans HB.out.os))
       ·exact HG8.out.tape.trans (HM7.out.2.2.1.trans (HB6.out.tape.trans HB.out.tape))
       ·exact HG8.out.output.trans (HM7.out.2.2.2.trans (HB6.out.output.trans HB.out.output))
       ·have:=HB.out.size;have:=HS8.out;omega
       ·intro x hx;have:=HB.out.size;have:=HZE.out;exact(HE8.out x (by omega) (by omega) (by omega)).trans ((HB6.out.block x (by omega)).trans ((HW2A.out x (by omega) (by omega)).trans (HB.out.block x hx)))
      ·have h6:=HS6.out;have hz:=HZ.out;have:=HS8.out;simp only[HSZ2.out]at h6;omega
  ·as_aux_lemma=>
    obtain rfl:k=P.length:=by omega
    have hll:ls'.length=P.length:=by have:=congrArg List.length HLS.out;rw[List.length_map,List.length_map,List.take_length]at this;exact this
    have HK2w:=qd ((HB.out.block (w.heap.size+1) (by have:=HZ1.out;have:=HZE.out;omega)).trans HK2.out);obtain⟨s1,s2,s3,s4⟩:=Bd HK2w.out;have hP1:1<=P.length:=HNE.out;have hP2:P.length<=4294967296:=by have:=HPL.out;omega
    have hP3:(1:Int)<=(P.length:Int):=by omega
    have HLL:=qd hll;clear hll;go_wp2_with fail
    refine bodyPost_ret (v:=.agg #[.slice (some ⟨g3,0,none⟩) P.length P.length,.int .i64 ((P.length:Int)-1)]) (by simp[results,Tryz.results31,go_sem,s1,s2]) rfl ?_;have hZg:w.heap.size+2<=Z1/\Z1<g3:=by have:=HG1'.out;have:=HZ1.out;have:=HZE.out;omega
    have hag:Agree (· ≠ w.heap.size+1) wo ((wo.setCell ⟨w.heap.size+1,0,none⟩ (.slice (some ⟨g3,0,none⟩) P.length P.length)).setCell ⟨w.heap.size+1,1,none⟩ (.int .i64 ((P.length:Int)-1))):=fun x hx _=>(Below.heap_setCell _ _ _ _ hx).trans (Below.heap_setCell _ _ _ _ hx)
    refine⟨⟨some ⟨g3,0,none⟩,P.length,ls',(P.length:Int)-1⟩,by show _=Ending.returned (.agg #[.slice _ ls'.length _,_]);rw[HLL.out],?_,⟨?_,?_,?_⟩,?_⟩
    ·simp only[Lt.tr];rw[HLS.out,List.take_length]
    ·show ls'.length<=_;rw[HLL.out];omega
    ·show OwnS _ _ _ _ _ ls'.length P.length _;rw[HLL.out];exact((GC HO3.out).mono (T:=fun x=>w.heap.size+2<=x) (fun x _ h=>by omega)).agree (hag.mono (fun x _ h=>by omega)) |>.mono (fun x _ h=>by omega)
    ·intro l hl;exact((HOW.out l hl).agree (hag.mono (fun x _ h=>by omega))).mono (fun x _ h=>by omega)
    ·exact(((HBB.out.trans (HB.out.mono (by omega))).setCell (p:=⟨w.heap.size+1,0,none⟩) (by simp) _).setCell (p:=⟨w.heap.size+1,1,none⟩) (by simp) _)
end Go.Proofs.YtdnochjajoiooaaGreatDoor
