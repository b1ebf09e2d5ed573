/- The contract of tree.Fits, whatever kind. append onto a row of the call's own: what is known of the new one, and of where it lies; slices.Reverse of it. -/
import Derived.Test.YtdnochjajoiooaaGreatDoorLo
import Derived.Test.YtdnochjajoiooaaGreatDoorGc
import Derived.Test.YtdnochjajoiooaaGreatDoorDa
import Derived.Laws.OwnMore
import Derived.Test.YtdnochjajoiooaaGreatDoorPn
import Derived.Test.YtdnochjajoiooaaGreatDoorQm
import Derived.Test.YtdnochjajoiooaaGreatDoorShelf
import Derived.Maps.AppendAt
import Derived.Deep.RegionLaw
import Derived.Sort.OwnSortedInts
import Derived.Deep.RegionHeld3
namespace Go.Proofs.YtdnochjajoiooaaGreatDoor
open Go.RowKit
set_option linter.unusedSimpArgs false
set_option linter.unusedVariables false
theorem KX (n:Nd) (k:Int) (h:10<=n.kind):Am n k=false:=by
 unfold Am;rw[if_neg (by omega),if_neg (by omega),if_neg (by omega),if_neg (by omega),if_neg (by omega),if_neg (by omega),if_neg (by omega),if_neg (by omega),if_neg (by omega),if_neg (by omega)]
set_option maxRecDepth 100000 in
set_option maxHeartbeats 1600000 in
theorem PQ (n:Nd) (K:Value) (k:Int) (w:World) (h:10<=n.kind) (h2:n.kind<=255):
  Calls Tryz.prog 35 #[ndV n K,.int .i64 k] w fun e w'=>e=.returned (.bool (Am n k))/\Below w.heap.size w w':=by
 have HF:=qd (KX n k h);obtain⟨kind,s0,s1,s2,s3,text,mn,mx,kids⟩:=n;simp only at h h2 ⊢;go_enter Tryz.func35,Tryz.ntmps35
 go_wp2_with fail
 go_ret;exact⟨Aj HF.out.symm,bx1 w _⟩
theorem KY (n:Nd) (K:Value) (k:Int) (w:World) (ht:CntTab w) (hk:0<=n.kind/\n.kind<=255) (hts:n.text.size<=281474976710656):
  Calls Tryz.prog 35 #[ndV n K,.int .i64 k] w fun e w'=>e=.returned (.bool (Am n k))/\Below w.heap.size w w':=by
 have h:n.kind=0\/n.kind=1\/n.kind=2\/n.kind=3\/n.kind=4\/n.kind=5\/n.kind=6\/n.kind=7\/n.kind=8\/n.kind=9\/10<=n.kind:=by omega
 rcases h with h|h|h|h|h|h|h|h|h|h|h
 ·exact Yh n K k w ht h hts
 ·exact Yi n K k w ht h hts
 ·exact Yj n K k w ht h hts
 ·exact Yk n K k w ht h hts
 ·exact Yl n K k w ht h hts
 ·exact XS n K k w ht h hts
 ·exact XT n K k w ht h hts
 ·exact XU n K k w ht h hts
 ·exact XV n K k w ht h hts
 ·exact XW n K k w ht h hts
 ·exact PQ n K k w h hk.2
end Go.Proofs.YtdnochjajoiooaaGreatDoor
/- Plain laws:how the loops of Right come to whether a tree is right. -/
namespace Go.Proofs.YtdnochjajoiooaaGreatDoor
open Go.RowKit
def BE (l:List Nd) (k q:Nat):List Int:=Aw (l.take k)++((l[k]?.map Nd.kids).getD []).take q
theorem J8 (l:List Nd):BE l 0 0=[]:=by simp[BE,Aw]
theorem Mz (l:List Nd) (k:Nat) (hk:k<l.length):BE l k l[k].kids.length=BE l (k+1) 0:=by
 simp only[BE,List.getElem?_eq_getElem hk,Option.map_some,Option.getD_some,List.take_length,List.take_zero,List.append_nil,Aw];rw[List.take_succ_eq_append_getElem hk,List.flatMap_append];simp
theorem KZ (l:List Nd) (k q:Nat) (hk:k<l.length) (hq:q<l[k].kids.length):BE l k (q+1)=BE l k q++[l[k].kids[q]]:=by
 simp only[BE,List.getElem?_eq_getElem hk,Option.map_some,Option.getD_some];rw[List.take_succ_eq_append_getElem hq,List.append_assoc]
theorem Ou (l:List Nd) (k q:Nat):∃r,Aw l=BE l k q++r:=by
 by_cases hk:k<l.length
 ·refine⟨l[k].kids.drop q++Aw (l.drop (k+1)),?_⟩;simp only[BE,List.getElem?_eq_getElem hk,Option.map_some,Option.getD_some,Aw];conv=>{lhs;rw[<-List.take_append_drop k l,List.flatMap_append,List.drop_eq_getElem_cons hk,List.flatMap_cons]}
  rw[List.append_assoc,<-List.append_assoc (List.take q _),List.take_append_drop]
 ·refine⟨[],?_⟩;simp[BE,List.getElem?_eq_none (show l.length<=k by omega),List.take_of_length_le (show l.length<=k by omega)]
theorem Ov (l:List Nd):BE l l.length 0=Aw l:=by simp[BE]
theorem La (l:List Nd) (k q:Nat) (z:Int):(BE l k q).count z<=(Aw l).count z:=by
 obtain⟨r,h⟩:=Ou l k q;rw[h,List.count_append];omega
theorem Ox (l:List Nd) (k q:Nat):(BE l k q).length<=(Aw l).length:=by
 obtain⟨r,h⟩:=Ou l k q;rw[h,List.length_append];omega
theorem GB {t:Tr} (h:¬Bv t):AA t=false:=by
 cases e:AA t
 ·rfl
 ·exact absurd ((AM t).1 e) h
theorem Ih {t:Tr} (h:¬(0<=t.root/\t.root<(t.nodes.length:Int))):AA t=false:=GB fun hp=>h hp.1
theorem Kd {t:Tr} {k:Nat} (hk:k<t.nodes.length) (h:Am t.nodes[k] t.nodes[k].kids.length=false):AA t=false:=
 GB fun hp=>by have:=DD hp (List.getElem?_eq_getElem hk);rw[h]at this;cases this
theorem IE {t:Tr} {k q:Nat} (hk:k<t.nodes.length) (hq:q<t.nodes[k].kids.length) (h:¬(0<=t.nodes[k].kids[q]/\t.nodes[k].kids[q]<(k:Int))):AA t=false:=
 GB fun hp=>h (Bw hp (List.getElem?_eq_getElem hk) (List.getElem_mem hq))
theorem IF {t:Tr} (hp:Bv t) (z:Int):(Aw t.nodes).count z<=1:=by
 by_cases hz:0<=z/\z<(t.nodes.length:Int)
 ·have:=hp.2.2 z.toNat (by omega);rw[show((z.toNat:Nat):Int)=z by omega]at this;rw[this];split <;> omega
 ·rw[List.count_eq_zero.2 (fun hm=> ?_)]
  ·omega
  ·obtain⟨n,hn,hk⟩:=List.mem_flatMap.1 hm;obtain⟨i,hi⟩:=List.mem_iff_getElem?.1 hn;have:=Bw hp hi hk;have:=(List.getElem?_eq_some_iff.1 hi).1;omega
theorem Nv {t:Tr} {k q:Nat} (hk:k<t.nodes.length) (hq:q<t.nodes[k].kids.length) (h:0<(BE t.nodes k q).count t.nodes[k].kids[q]):AA t=false:=
 GB fun hp=>by
  have h1:=IF hp t.nodes[k].kids[q];have h2:=La t.nodes k (q+1) t.nodes[k].kids[q];rw[KZ _ _ _ hk hq,List.count_append,List.count_singleton]at h2;simp at h2;omega
def FineTo (l:List Nd) (k:Nat):Prop:=∀j,j<k-> ∀n,l[j]?=some n->Ma j n=true
theorem FineTo.zero (l:List Nd):FineTo l 0:=fun j hj=>by omega
theorem FineTo.next {l:List Nd} {k:Nat} (h:FineTo l k) (hk:k<l.length) (hf:Am l[k] l[k].kids.length=true) (hi:∀p (hp:p<l[k].kids.length),0<=l[k].kids[p]/\l[k].kids[p]<(k:Int)):FineTo l (k+1):=fun j hj n hn=>by
 by_cases e:j<k
 ·exact h j e n hn
 ·obtain rfl:j=k:=by omega
  rw[List.getElem?_eq_getElem hk]at hn;cases hn;simp only[Ma,Bool.and_eq_true,hf,true_and,List.all_eq_true,decide_eq_true_eq];intro z hz;obtain⟨p,hp,rfl⟩:=List.mem_iff_getElem.1 hz;exact hi p hp
theorem IG {t:Tr} {j:Nat} (hj:j<t.nodes.length) (h:(Aw t.nodes).count (j:Int)≠if (j:Int)=t.root then 0 else 1):AA t=false:=GB fun hp=>h (hp.2.2 j hj)
theorem M0 {t:Tr} (h0:0<=t.root/\t.root<(t.nodes.length:Int)) (h1:FineTo t.nodes t.nodes.length) (h2:∀j,j<t.nodes.length->(Aw t.nodes).count (j:Int)=if (j:Int)=t.root then 0 else 1):AA t=true:=
 (AM t).2 ⟨h0,fun i n hn=>h1 i (List.getElem?_eq_some_iff.1 hn).1 n hn,h2⟩
def Er (n:Nat) (L:List Int):List Value:=(List.range n).map fun j:Nat=>Value.bool (decide (0<L.count (j:Int)))
theorem DN (n:Nat) (L:List Int):(Er n L).length=n:=by simp[Er]
theorem Ew (n:Nat) (L:List Int) (j:Nat) (h:j<n):(Er n L)[j]?=some (.bool (decide (0<L.count (j:Int)))):=by simp[Er,h]
theorem Oy (n:Nat):(madeCells #[.bool false] n).toList=Er n []:=by
 rw[toList_madeCells_one];apply List.ext_getElem?;intro i;by_cases h:i<n
 ·rw[Ew _ _ _ h,List.getElem?_replicate_of_lt h];rfl
 ·rw[List.getElem?_eq_none (by simp;omega),List.getElem?_eq_none (by rw[DN];omega)]
theorem Oz (n:Nat) (L:List Int) (m:Nat) (h:m<n):(Er n L).set m (.bool true)=Er n (L++[(m:Int)]):=by
 apply List.ext_getElem?;intro i;by_cases hi:i<n
 ·rw[Ew _ _ _ hi,List.getElem?_set];by_cases e:m=i
  ·subst e;rw[if_pos rfl,if_pos (by rw[DN];exact h),List.count_append];simp
  ·rw[if_neg e,Ew _ _ _ hi,List.count_append,List.count_singleton];have:((m:Int)==(i:Int))=false:=by simp;omega
   rw[this];simp
 ·rw[List.getElem?_eq_none (by simp[DN];omega),List.getElem?_eq_none (by rw[DN];omega)]
def D4 (n:Nat) (L:List Int):List Value:=(List.range n).map fun j:Nat=>Value.int .i64 (L.count (j:Int):Nat)
theorem D8 (n:Nat) (L:List Int):(D4 n L).length=n:=by simp[D4]
theorem DO (n:Nat) (L:List Int) (j:Nat) (h:j<n):(D4 n L)[j]?=some (.int .i64 (L.count (j:Int):Nat)):=by simp[D4,h]
theorem Nw (n:Nat):(madeCells #[.int .i64 0] n).toList=D4 n []:=by
 rw[toList_madeCells_one];apply List.ext_getElem?;intro i;by_cases h:i<n
 ·rw[DO _ _ _ h,List.getElem?_replicate_of_lt h];rfl
 ·rw[List.getElem?_eq_none (by simp;omega),List.getElem?_eq_none (by rw[D8];omega)]
theorem Nx (n:Nat) (L:List Int) (m:Nat) (h:m<n):(D4 n L).set m (.int .i64 ((L.count (m:Int):Nat)+1))=D4 n (L++[(m:Int)]):=by
 apply List.ext_getElem?;intro i;by_cases hi:i<n
 ·rw[DO _ _ _ hi,List.getElem?_set];by_cases e:m=i
  ·subst e;rw[if_pos rfl,if_pos (by rw[D8];exact h),List.count_append];simp
  ·rw[if_neg e,DO _ _ _ hi,List.count_append,List.count_singleton];have:((m:Int)==(i:Int))=false:=by simp;omega
   rw[this];simp
 ·rw[List.getElem?_eq_none (by simp[D8];omega),List.getElem?_eq_none (by rw[D8];omega)]
end Go.Proofs.YtdnochjajoiooaaGreatDoor
/- The contract of tree.Right. -/
namespace Go.Proofs.YtdnochjajoiooaaGreatDoor
open Go.RowKit
set_option linter.unusedSimpArgs false
set_option linter.unusedVariables false
theorem Xu {w:World} (h:CntTab w):2<w.heap.size:=by
 have:=h.cells 0;exact AP (a:=⟨2,0,none⟩) (v:=.int .i64 0) (by rw[this];rfl)
theorem CntTab.below {w w':World} (h:CntTab w) (hb:Below w.heap.size w w'):CntTab w':=Gc hb (by kernel_rfl) (Xu h) h
theorem Bd {w:World} {b:Nat} {x y:Value} {T:TypeId} (h:w.heap[b]?=some (.cells #[x,y] T (0,0))):
  w.cell? ⟨b,0,none⟩=some x/\w.cell? ⟨b,1,none⟩=some y/\w.frozen? ⟨b,0,none⟩=false/\w.frozen? ⟨b,1,none⟩=false:=by
 simp[World.cell?,World.frozen?,h]
theorem AX {w:World} {B g n c:Nat} {e:TypeId} {xs:List Value} (h:w.ownsRow B e 1 (.slice (some ⟨g,0,none⟩) n c) n xs) (j:Nat) (hj:j<n) {u:Value} (hu:xs[j]?=some u):w.cell? ⟨g,j,none⟩=some u:=
 (World.ownsRow.cellAt h j (by omega)).trans hu
theorem FA {w:World} {B g n c:Nat} {e:TypeId} {size:Nat} {xs:List Value} (h:w.ownsRow B e size (.slice (some ⟨g,0,none⟩) n c) n xs):B<=g/\g<w.heap.size:=World.ownsRow.lt h g rfl
theorem M1 {w w':World} {B g n c:Nat} {e:TypeId} {size:Nat} {xs:List Value} (h:w.ownsRow B e size (.slice (some ⟨g,0,none⟩) n c) n xs) (hb:Below w.heap.size w w'):w'.ownsRow B e size (.slice (some ⟨g,0,none⟩) n c) n xs:=
 World.ownsRow.kept h (row:=none) ⟨hb.os,hb.tape,hb.output,hb.size,fun k hk _=>hb.block k hk⟩ (Or.inr (fun e=>by cases e))
set_option maxRecDepth 100000 in
set_option maxHeartbeats 3200000 in
theorem Dl (A:Option Addr) (c:Nat) (ls:List Ln) (root:Int) (S:Nat->Prop) (w:World) (hT:ndL.row w S A ls) (hl:ls.length<=281474976710656) (ht:CntTab w):
  Calls Tryz.prog 17 #[.agg #[.slice A ls.length c,.int .i64 root]] w fun e w'=>e=.returned (.bool (AA ⟨ls.map Ln.nd,root⟩))/\Below w.heap.size w w':=by
 have hlm:(ls.map Ln.nd).length=ls.length:=by simp
 by_cases hr:0<=root/\root<(ls.length:Int)
 ·obtain⟨hr1,hr2⟩:=hr;obtain⟨i0,hi,hz0,hz1,hz2⟩:=info_parts VB;have HT:=qd hT;clear hT;have HC:=qd ht;clear ht;have HLM:=qd hlm;clear hlm;go_enter Tryz.func17,Tryz.ntmps17
  go_wp2_with (first|(at_make;refine wpList_make_full _ rfl _ _ 92 rfl (w.heap.size+1) 4 i0 _ 1 Tryz.underlying92 hi hz0 hz1 .i64 .i64 _ _ ls.length rfl rfl rfl rfl ?_ ?_ ?_ ?_))
  ·rw[hz2];omega
  ·unfold maxLen;omega
  ·simp
  intro w1 hown1 hgrow1;rw[Oy]at hown1;have HB1:=qd (show Below w.heap.size w w1 from(bx1 w _).trans ((Below.refl _ _).grown hgrow1 (by simp) (fun k e=>by cases e)));have HO1:=qd hown1;clear hown1;have HK1:=qd ((hgrow1.block w.heap.size (by simp) (fun e=>by cases e)).trans (Ad w _));clear hgrow1;obtain⟨b1,b2,_,_⟩:=Bd HK1.out;go_wp2_with fail
  clear b1 b2;go_loopw [28] (fun i wr=>∃k:Nat,k<=ls.length/\i=.int .i64 k/\wr.ownsRow (w.heap.size+1) 4 1 (.slice (some ⟨w.heap.size+1,0,none⟩) ls.length ls.length) ls.length (Er ls.length (BE (ls.map Ln.nd) k 0))/\FineTo (ls.map Ln.nd) k/\(∀z,(BE (ls.map Ln.nd) k 0).count z<=1)/\wr.heap[w.heap.size]?=some (.cells #[.slice A ls.length c,.int .i64 root] 24 (0,0))/\Below w.heap.size w wr) (fun i _=>ls.length-(intOf i).toNat)
  case atStart=>exact⟨0,by omega,rfl,by rw[J8];exact HO1.out,FineTo.zero _,fun z=>by rw[J8];simp,HK1.out,HB1.out⟩
  case round=>
   clear HO1 HK1 HB1;obtain⟨k,hk,rfl,hown,hfine,hcnt,hbox,hb⟩:=hrel;have HO:=qd hown;clear hown;have HF:=qd hfine;clear hfine;have HN:=qd hcnt;clear hcnt;have HB:=qd hb;clear hb;have HK:=qd hbox;clear hbox;by_cases hlt:k<ls.length
   ·have HR:=qd (HT.out.agree (AF HB.out));have HW:=qd (Mb HT.out k hlt);have HKR:=qd (EX HR.out k hlt);obtain⟨b,o,rfl,hS,hbl,x0,x1,x2,x3,x4,x5,x6,x7,x8⟩:=D3 HR.out k hlt;have i1:(k:Int)<(ls.length:Int):=by omega
    cases hf:Am ls[k].nd (ls[k].nd.kids.length:Nat)
    ·as_aux_lemma=>
      have HX:=qd (show AA ⟨ls.map Ln.nd,root⟩=false from Kd (k:=k) (by rw[HLM.out];exact hlt) (by simpa using hf));go_wp2_with (go_at_call 35;refine(KY ls[k].nd _ _ _ ((HC.out.below HB.out).below (bx1 _ _)) HW.out.1 HW.out.2.1).mono ?_;rintro e w' ⟨rfl,hb⟩)
      go_ret;exact⟨Aj HX.out.symm,(HB.out.trans ((bx1 wr _).mono HB.out.size)).trans (hb.mono (by have:=HB.out.size;simp;omega))⟩
    ·have HF1:=qd hf;go_wp2_with (go_at_call 35;refine(KY ls[k].nd _ _ _ ((HC.out.below HB.out).below (bx1 _ _)) HW.out.1 HW.out.2.1).mono ?_;rintro e w' ⟨rfl,hb⟩;obtain⟨q0,q1,q2,q3,q4,q5,q6,q7,q8,_⟩:=BP (Ae hb (Ad wr _)))
     have HB2:=qd (show Below w.heap.size w w' from(HB.out.trans ((bx1 wr _).mono HB.out.size)).trans (hb.mono (by have:=HB.out.size;simp;omega)));have HO2:=qd (M1 (World.ownsRow.alloc HO.out _) hb);have HK2:=qd (Ae hb (A7 HK.out))
     have HN0:=qd (show BE (ls.map Ln.nd) k ls[k].nd.kids.length=BE (ls.map Ln.nd) (k+1) 0 by
      have:=Mz (ls.map Ln.nd) k (by rw[HLM.out];exact hlt);simpa using this)
     clear hb q0 q1 q2 q3 q4 q5 q6 q7 q8 x0 x1 x2 x3 x4 x5 x6 x7 x8 hf HO HK;go_loopw [42] (fun i wr=>∃q:Nat,q<=ls[k].nd.kids.length/\i=.int .i64 q/\wr.ownsRow (w.heap.size+1) 4 1 (.slice (some ⟨w.heap.size+1,0,none⟩) ls.length ls.length) ls.length (Er ls.length (BE (ls.map Ln.nd) k q))/\(∀z,(BE (ls.map Ln.nd) k q).count z<=1)/\(∀p (hp:p<ls[k].nd.kids.length),p<q->0<=ls[k].nd.kids[p]/\ls[k].nd.kids[p]<(k:Int))/\wr.heap[w.heap.size]?=some (.cells #[.slice (some ⟨b,o,none⟩) ls.length c,.int .i64 root] 24 (0,0))/\Below w.heap.size w wr) (fun i _=>ls[k].nd.kids.length-(intOf i).toNat)
     case atStart=>exact⟨0,by omega,rfl,HO2.out,HN.out,fun p _ h=>by omega,HK2.out,HB2.out⟩
     case round=>
      clear HO2 HK2 HB2 HN HB HR HKR;obtain⟨q,hq,rfl,hown,hcnt,hin,hbox,hb⟩:=hrel;have HO:=qd hown;clear hown;have HN:=qd hcnt;clear hcnt;have HI:=qd hin;clear hin;have HB:=qd hb;clear hb;have HK:=qd hbox;clear hbox;by_cases hql:q<ls[k].nd.kids.length
      ·as_aux_lemma=>
        obtain⟨kb,ko,hkA,_,_,y0⟩:=E9 (EX (HT.out.agree (AF HB.out)) k hlt) q hql;have i2:(q:Int)<(ls[k].nd.kids.length:Int):=by omega
        have hkl:ls[k].nd.kids.length<=281474976710656:=HW.out.2.2.1;have hkz:(ls.map Ln.nd)[k]'(by rw[HLM.out];exact hlt)=ls[k].nd:=by simp
        have HSK:=qd (show BE (ls.map Ln.nd) k (q+1)=BE (ls.map Ln.nd) k q++[ls[k].nd.kids[q]]by
         have:=KZ (ls.map Ln.nd) k q (by rw[HLM.out];exact hlt) (by rw[hkz];exact hql);simpa using this)
        have HXK:=qd (show ¬(0<=ls[k].nd.kids[q]/\ls[k].nd.kids[q]<(k:Int))->AA ⟨ls.map Ln.nd,root⟩=false from fun h=>IE (k:=k) (q:=q) (by rw[HLM.out];exact hlt) (by simpa using hql) (by simpa using h));have HXD:=qd (show 0<(BE (ls.map Ln.nd) k q).count ls[k].nd.kids[q]->AA ⟨ls.map Ln.nd,root⟩=false from fun h=>Nv (k:=k) (q:=q) (by rw[HLM.out];exact hlt) (by simpa using hql) (by simpa using h));clear hkz;generalize hz:ls[k].nd.kids[q]=z at y0 HSK HXK HXD;have HZ:=qd hz;clear hz;have hkA':=qd hkA;clear hkA;generalize hkk:ls[k].A=KA at *;obtain rfl:=hkA'.out;by_cases hz0:z<0
        ·have HX:=qd (HXK.out (by omega));go_wp2_with fail
         go_ret;exact⟨Aj HX.out.symm,HB.out⟩
        ·by_cases hz1:(k:Int)<=z
         ·have HX:=qd (HXK.out (by omega));go_wp2_with fail
          go_ret;exact⟨Aj HX.out.symm,HB.out⟩
         ·obtain⟨m,rfl⟩:=Int.eq_ofNat_of_zero_le (show 0<=z by omega);have hmk:m<k:=by omega
          have c0:=AX HO.out m (by omega) (Ew _ _ m (by omega));have c1:=World.ownsRow.frozenAt HO.out m;have i3:(m:Int)<(ls.length:Int):=by omega
          by_cases hd:0<(BE (ls.map Ln.nd) k q).count (m:Int)
          ·as_aux_lemma=>
           have HX:=qd (HXD.out hd);rw[decide_eq_true hd]at c0;go_wp2_with fail
           go_ret;exact⟨Aj HX.out.symm,HB.out⟩
          ·as_aux_lemma=>
           rw[decide_eq_false hd]at c0;have HD:=qd hd;clear hd;go_wp2_with fail
           refine⟨⟨q+1,by omega,by go_num,?_,?_,?_,(Below.heap_setCell _ _ _ _ (by simp)).trans HK.out,HB.out.setCell (p:=⟨w.heap.size+1,m,none⟩) (by simp) _⟩,by simp[intOf];omega⟩
           ·rw[HSK.out,<-Oz _ _ m (by omega)];exact(World.ownsRow.stored HO.out _ _).1
           ·intro z;rw[HSK.out,List.count_append,List.count_singleton];have:=HN.out z;by_cases e:(m:Int)=z
            ·subst e;have:=HD.out;simp;omega
            ·have:((m:Int)==z)=false:=by simpa using e
             rw[this];simpa using HN.out z
           ·intro p hp hpq;by_cases e:p<q
            ·exact HI.out p hp e
            ·obtain rfl:p=q:=by omega
             rw[HZ.out];omega
      ·as_aux_lemma=>
        have hqe:q=ls[k].nd.kids.length:=by omega
        have HFN:=qd (show FineTo (ls.map Ln.nd) (k+1)from HF.out.next (by rw[HLM.out];exact hlt) (by simpa using HF1.out) (fun p hp=>by simpa using HI.out p (by simpa using hp) (by rw[hqe];simpa using hp)));have HQ:=qd hqe;clear hqe;go_wp2_with fail
        exact⟨⟨k+1,by omega,by go_num,by rw[<-HN0.out,<-HQ.out];exact HO.out,HFN.out,fun z=>by rw[<-HN0.out,<-HQ.out];exact HN.out z,HK.out,HB.out⟩,by simp[intOf];omega⟩
   ·have hke:k=ls.length:=by omega
    have HSE:=qd (show BE (ls.map Ln.nd) k 0=Aw (ls.map Ln.nd)by rw[hke,<-HLM.out,Ov]);have HFE:=qd (show FineTo (ls.map Ln.nd) (ls.map Ln.nd).length by rw[HLM.out,<-hke];exact HF.out);have HO3:=qd (show wr.ownsRow (w.heap.size+1) 4 1 (.slice (some ⟨w.heap.size+1,0,none⟩) ls.length ls.length) ls.length (Er ls.length (Aw (ls.map Ln.nd)))by rw[<-HSE.out];exact HO.out);have HN3:=qd (show ∀z,(Aw (ls.map Ln.nd)).count z<=1 by rw[<-HSE.out];exact HN.out);have HKE:=qd hke;clear hke HO HN HF HSE;obtain⟨b1,b2,_,_⟩:=Bd HK.out;go_wp2_with fail
    go_loop [66] (fun i=>∃j:Nat,j<=ls.length/\i=.int .i64 j/\ ∀p,p<j->(Aw (ls.map Ln.nd)).count (p:Int)=if (p:Int)=root then 0 else 1) (fun i=>ls.length-(intOf i).toNat)
    case atStart=>exact⟨0,by omega,rfl,fun p hp=>by omega⟩
    case round=>as_aux_lemma=>
      obtain⟨j,hj,rfl,hall⟩:=hrel;have HA:=qd hall;clear hall;by_cases hjl:j<ls.length
      ·have c0:=AX HO3.out j hjl (Ew _ _ j hjl);have i3:(j:Int)<(ls.length:Int):=by omega
       have HX:=qd (show((Aw (ls.map Ln.nd)).count (j:Int)≠if (j:Int)=root then 0 else 1)->AA ⟨ls.map Ln.nd,root⟩=false from fun h=>IG (t:=⟨ls.map Ln.nd,root⟩) (by rw[HLM.out];exact hjl) h);have h1:=HN3.out (j:Int)
       have HM:=qd (show((Aw (ls.map Ln.nd)).count (j:Int)=if (j:Int)=root then 0 else 1)-> ∀p,p<j+1->(Aw (ls.map Ln.nd)).count (p:Int)=if (p:Int)=root then 0 else 1 from fun h p hp=>by
        by_cases e:p<j
        ·exact HA.out p e
        ·obtain rfl:p=j:=by omega
         exact h)
       generalize (Aw (ls.map Ln.nd)).count (j:Int)=cc at c0 HX HM h1;by_cases hc:0<cc
       ·rw[decide_eq_true hc]at c0;by_cases he:(j:Int)=root
        ·have he2:((j:Int)==root)=true:=by simpa using he
         have HX2:=qd (HX.out (by rw[if_pos he];omega));clear he;go_wp2_with fail
         go_ret;exact⟨Aj HX2.out.symm,HB.out⟩
        ·have he2:((j:Int)==root)=false:=by simpa using he
         have HM2:=qd (HM.out (by rw[if_neg he];omega));clear he;go_wp2_with fail
         exact⟨⟨j+1,by omega,by go_num,HM2.out⟩,by simp[intOf];omega⟩
       ·rw[decide_eq_false hc]at c0;by_cases he:(j:Int)=root
        ·have he2:((j:Int)==root)=true:=by simpa using he
         have HM2:=qd (HM.out (by rw[if_pos he];omega));clear he;go_wp2_with fail
         exact⟨⟨j+1,by omega,by go_num,HM2.out⟩,by simp[intOf];omega⟩
        ·have he2:((j:Int)==root)=false:=by simpa using he
         have HX2:=qd (HX.out (by rw[if_neg he];omega));clear he;go_wp2_with fail
         go_ret;exact⟨Aj HX2.out.symm,HB.out⟩
      ·have HX2:=qd (show AA ⟨ls.map Ln.nd,root⟩=true from M0 (by rw[HLM.out];exact⟨hr1,hr2⟩) HFE.out (fun p hp=>HA.out p (by rw[HLM.out]at hp;omega)));go_wp2_with fail
       go_ret;exact⟨Aj HX2.out.symm,HB.out⟩
 ·have HX:=qd (show AA ⟨ls.map Ln.nd,root⟩=false from Ih (by rw[hlm];exact hr));clear hlm;by_cases h1:root<0
  ·go_enter Tryz.func17,Tryz.ntmps17
   go_wp2_with fail
   go_ret;exact⟨Aj HX.out.symm,bx1 _ _⟩
  ·have h2:(ls.length:Int)<=root:=by omega
   go_enter Tryz.func17,Tryz.ntmps17
   go_wp2_with fail
   go_ret;exact⟨Aj HX.out.symm,bx1 _ _⟩
end Go.Proofs.YtdnochjajoiooaaGreatDoor
namespace Go.Proofs.YtdnochjajoiooaaGreatDoor
open Go.RowKit Go.Sort
theorem Ke (g c B:Nat) (zs:List Int) (w:World) (e:TypeId) (h:w.ownsRow B e 1 (.slice (some ⟨g,0,none⟩) zs.length c) zs.length (zs.map (.int .i64))):
  Calls Tryz.prog 53 #[.slice (some ⟨g,0,none⟩) zs.length c] w fun en w'=>en=.returned (.tuple #[])/\w'.ownsRow B e 1 (.slice (some ⟨g,0,none⟩) zs.length c) zs.length (zs.reverse.map (.int .i64))/\w.grownBy w' (some g):=by
 rcases h.2 with⟨hv,_⟩|⟨g',cap,cur,hv,hb,hh,hn,hc,hs,ht⟩
 ·cases hv
 ·cases hv;refine(Tryz.slices_Reverse_int g 0 c zs w (holds_of_blockI hh (by rw[<-ht,Nat.mul_one])) (by unfold maxLen at hc;omega)).mono ?_;rintro en w' ⟨he,k,rfl⟩;refine⟨he,?_,?_⟩
  ·have:=ownsRow_sortedI (os:= #[]) (n:=k) (ts:=zs.reverse) (ss:=zs) (by simp) hb hh hn hc hs;rw[grow_empty]at this;exact this
  ·have:=grownBy_sortedI (w:=w) (g:=g) (n:=k) (os:= #[]) zs.reverse.toArray;rw[grow_empty]at this;exact this
end Go.Proofs.YtdnochjajoiooaaGreatDoor
/- The contract of tree.behind. -/
namespace Go.Proofs.YtdnochjajoiooaaGreatDoor
open Go.RowKit
set_option linter.unusedSimpArgs false
set_option linter.unusedVariables false
def AG (l:List Nat):List Value:=l.map fun k:Nat=>Value.int .i64 (k:Int)
theorem DP (l:List Nat):(AG l).length=l.length:=by simp[AG]
theorem FI (l:List Nat):∀u∈AG l,u.oneCell'=true:=fun u hu=>by
 obtain⟨k,_,rfl⟩:=List.mem_map.1 hu;rfl
theorem BI (l m:List Nat):AG (l++m)=AG l++AG m:=by simp[AG]
theorem DE (l:List Nat):AG l=(l.map fun k:Nat=>(k:Int)).map (Value.int .i64):=by simp[AG]
theorem J9 (l:List Nd) (i:Nat) (hi:i<l.length) (h:∀k∈l[i].kids,0<=k):Az.all l[i].kids=AG (Ab l i):=by
 rw[CX];simp only[AG,Ab,List.getElem?_eq_getElem hi,Option.map_some,Option.getD_some,List.map_map];refine List.map_congr_left fun k hk=> ?_
 have:=h k hk;simp only[Function.comp_apply];rw[show((k.toNat:Nat):Int)=k by omega]
theorem O0 {w:World} {S:Nat->Prop} {b o:Nat} {l:List Ln} (h:ndL.row w S (some ⟨b,o,none⟩) l) (hl:0<l.length):b<w.heap.size:=by
 obtain⟨b',o',e,_,hb,_⟩:=D3 h 0 hl;cases e;exact hb
def FJ:Value->Nat|.slice _ n _=>n|_=>0
def Lb (l:List Nat) (w:World) (e:Ending) (w':World):Prop:=∃g c,e=.returned (.slice (some ⟨g,0,none⟩) l.length c)/\w'.ownsRow w.heap.size 3 1 (.slice (some ⟨g,0,none⟩) l.length c) l.length (AG l)/\Below w.heap.size w w'
set_option maxRecDepth 100000 in
set_option maxHeartbeats 3200000 in
theorem PT (A : Option Addr) (c : Nat) (ls : List Ln) (root : Int) (node : Nat) (S : Nat -> Prop) (w : World) (hT : ndL.row w S A ls) (hl : ls.length <= 4294967296) (hr : Bv ⟨ls.map Ln.nd, root⟩) (hn : node < ls.length) :
    Calls Tryz.prog 54 #[.agg #[.slice A ls.length c, .int .i64 root], .int .i64 node] w (Lb (Ak (ls.map Ln.nd) node) w) := by
  obtain ⟨i0, hi, hz0, hz1, hz2⟩ := info_parts DA;have HT := qd hT; clear hT;have HR := qd hr; clear hr;have HPL := qd (show (Ak (ls.map Ln.nd) node).length <= ls.length by have := CW HR.out node (by simpa using hn); simpa using this);have HAH := qd (AE HR.out);go_enter Tryz.func54, Tryz.ntmps54
  go_wp2_with fail
  go_loopw [5, 6] (fun v5 v6 wr => ∃ (o seen : List Nat) (V5 V6 : Option Addr) (c5 c6 m n : Nat), v5 = .slice V5 n c5 /\ v6 = .slice V6 m c6 /\ Hid (m = o.length) /\ Hid (n = seen.length) /\ Hid (wr.ownsRow (w.heap.size + 1) 3 1 (.slice V5 n c5) n (AG seen)) /\ Hid (wr.ownsRow (w.heap.size + 1) 3 1 (.slice V6 m c6) m (AG o)) /\ Hid (ApartB V5 V6) /\ Hid (o.flatMap (Ak (ls.map Ln.nd)) ++ seen.reverse = Ak (ls.map Ln.nd) node) /\ Hid (wr.heap[w.heap.size]? = some (.cells #[.slice A ls.length c, .int .i64 root] 24 (0, 0))) /\ Hid (Below w.heap.size w wr))
    (fun v5 _ _ => ls.length - FJ v5)
  case atStart => exact ⟨[node], [], none, some ⟨w.heap.size + 1, 0, none⟩, 0, 1, 1, 0, rfl, rfl, qd rfl, qd rfl, qd (World.ownsRow_nil _ _ _ _), qd ⟨rfl, .inr ⟨w.heap.size + 1, 1, _, rfl, Nat.le_refl _, by have h := Ad (w.alloc (.cells #[.slice A ls.length c, .int .i64 root] 24)) (.cells #[.int .i64 node] 3); simpa using h, by simp, by unfold maxLen; omega, rfl, rfl⟩⟩, qd (ApartB.none _), qd (by simp), qd (A7 (Ad w _)), qd (bx2 w _ _)⟩
  case round =>
    obtain ⟨o, seen, V5, V6, c5, c6, m, n, rfl, rfl, HM, HNN, HO5, HO6, HAP, HE, HK, HB⟩ := hrel;have HWB := qd (Ei HE.out);rcases List.eq_nil_or_concat o with rfl | ⟨o', i, ho⟩
    · as_aux_lemma =>
        have HEE := qd (KV HE.out);obtain rfl : m = 0 := HM.out;have hsl : 0 < n := by have := EW (ls.map Ln.nd) node; have := HNN.out; rw [<- HEE.out, List.length_reverse] at *; omega
        obtain ⟨g, hg, hg1, hg2⟩ := BS HO5.out hsl;subst hg;have HRV := qd (Ke g c5 (w.heap.size + 1) (seen.map fun k : Nat => (k : Int)) wr 3 (by rw [List.length_map, <- DE, <- HNN.out]; exact HO5.out));simp only [List.length_map, <- HNN.out] at HRV;go_wp2_with (go_at_call 53; refine (HRV.out).mono ?_; rintro e w2 ⟨rfl, hown2, hgrow2⟩; have HO7 := qd hown2; have HG7 := qd hgrow2; clear hown2 hgrow2)
        go_ret;unfold Lb;rw [<- HEE.out, List.length_reverse, <- HNN.out];refine ⟨g, c5, rfl, ?_, ?_⟩
        · have := HO7.out
          rw [<- List.map_reverse, <- DE] at this;exact Cl this (by omega)
        · exact HB.out.trans ((Cc HO5.out HG7.out (Nat.le_refl _) (by omega)).mono (by omega))
    · rw [List.concat_eq_append] at ho; subst ho
      have hil : i < ls.length := by have := (Oo HAH.out HE.out).1 i (by simp); omega
      obtain ⟨m', rfl⟩ : ∃ m', m = m' + 1 := ⟨o'.length, by rw [HM.out]; simp⟩;have HM' := qd (show m' = o'.length by have := HM.out; simp at this; exact this);obtain ⟨g, hg, hg1, hg2⟩ := BS HO6.out (by omega);subst hg;have c0 := AX HO6.out m' (by omega) (u := .int .i64 (i : Int)) (by rw [HM'.out]; simp [AG]);obtain ⟨q1, q2, _, _⟩ := Bd HK.out;have hmb : m' + 1 + n <= ls.length := by have h1 := HWB.out; have h2 := HPL.out; have h3 := HM.out; have h4 := HNN.out; omega
      have HT' := qd (HT.out.agree (AF HB.out));have HKR := qd (EX HT'.out i hil);have hkn : (Ab (ls.map Ln.nd) i).length = ls[i].nd.kids.length := by simp [Ab, List.getElem?_eq_getElem hil]
      have HKV := qd (show Az.all ls[i].nd.kids = AG (Ab (ls.map Ln.nd) i) by
        have := J9 (ls.map Ln.nd) i (by simpa using hil) (fun k hk => (Bw HR.out (i := i) (n := (ls.map Ln.nd)[i]'(by simpa using hil)) (List.getElem?_eq_getElem _) hk).1);simpa using this)
      have HE2 := qd (J7 HAH.out HE.out)
      have hmk : m' + ls[i].nd.kids.length + (n + 1) <= ls.length := by
        have h1 := Ei HE2.out; have h2 := HPL.out; have h3 := HM'.out; have h4 := HNN.out;simp only [List.length_append, hkn, List.length_singleton] at h1; omega
      have HKN := qd hkn; clear hkn;obtain ⟨b, o, hA, _, _, x0, x1, x2, x3, x4, x5, x6, x7, x8⟩ := D3 HT'.out i hil;have hbl : b < w.heap.size := O0 (hA ▸ HT.out) (by omega);subst hA;clear x0 x1 x2 x3 x4 x5 x6 x7;have i1 : (i : Int) < (ls.length : Int) := by omega
      have i2 : (0 : Int) <= (i : Int) := by omega
      go_wp2_with fail
      clear c0
      have HSB := qd (show ∀ w', Below (w.heap.size + 1) wr w' -> w'.cell? ⟨w.heap.size, 0, none⟩ = some (.slice (some ⟨b, o, none⟩) ls.length c) /\ w'.cell? ⟨b, o + i * 9 + 8, none⟩ = some (.slice ls[i].A ls[i].nd.kids.length ls[i].c) from
        fun w' hb => ⟨(hb.cell (by show w.heap.size < _; omega)).trans q1, (hb.cell (by show b < _; omega)).trans x8⟩)
      clear q1 q2 x8
      have HCUT := qd (show wr.drew.ownsRow (w.heap.size + 1) 3 1 (.slice (some ⟨g, 0, none⟩) m' c6) m' (AG o') by
        have := Hz HO6.out (m := m') (by omega);rw [BI, Nat.mul_one, List.take_left' (by rw [DP]; exact HM'.out.symm)] at this;exact this)
      have hcap := Gw HO6.out;have e3 : (m' : Int) <= (c6 : Int) := by omega
      have e4 : (0 : Int) <= (m' : Int) := by omega
      have f1 : m' + ls[i].nd.kids.length <= maxLen := by unfold maxLen; omega
      have f2 : (m' + ls[i].nd.kids.length) * 8 <= 140737488355328 := by omega
      have f3 : w.heap.size + 1 <= wr.drew.heap.size := by show _ <= wr.heap.size; omega
      have F := qd (And.intro f1 (And.intro f2 f3)); clear f1 f2 f3;have e1 : IntKind.i64.wrap ((m' : Int) + 1 - 1) = (m' : Int) := by rw [IntWalk.i64_in _ (by omega)]; omega
      have e5 : IntKind.i64.wrap (m' : Int) = (m' : Int) := IntWalk.i64_in _ (by omega)
      go_region_held3 (fun w' => w'.cell? ⟨w.heap.size, 0, none⟩ = some (.slice (some ⟨b, o, none⟩) ls.length c) /\ w'.cell? ⟨b, o + i * 9 + 8, none⟩ = some (.slice ls[i].A ls[i].nd.kids.length ls[i].c))
        (first | exact HSB.out _ (Below.refl _ _).drew | exact HSB.out _ HB2.out)
        ((refine Bm (by rfl) (.tmp 23) (.tmp 29) 40 (by rfl) (w.heap.size + 1) 3 i0 (.int .i64 0) 1 8 Tryz.underlying40 hi hz0 hz1 hz2 rfl (by decide) (some ⟨g, 0, none⟩) c6 m' (AG o') (by rfl) HCUT.out ls[i].A ls[i].nd.kids.length ls[i].c (Az.all ls[i].nd.kids) (by rfl) (by rw [Az.all_length]; rfl) HKR.out.rowAt (Az.all_one' _) F.out.1 F.out.2.1 F.out.2.2 ?_
          intro V' vc' w2 HO2 HG2 HA2;have HB2 := qd (show Below (w.heap.size + 1) wr w2 from (Below.refl _ wr).drew.trans (Cc HCUT.out HG2.out (Nat.le_refl _) F.out.2.2))))
      clear e1 e3 e4 e5;have HO5b := qd (show (w2.alloc (.cells #[.int .i64 (i : Int)] 3)).ownsRow (w.heap.size + 1) 3 1 (.slice V5 n c5) n (AG seen) from World.ownsRow.alloc (Gx (w := wr.drew) (show wr.drew.ownsRow _ _ _ _ _ _ from HO5.out) HG2.out HAP.out.symm) _);have HBS := qd HB2.out.size;have F2 := qd (show n + 1 <= maxLen /\ (n + 1) * 8 <= 140737488355328 /\ w.heap.size + 1 <= (w2.alloc (.cells #[.int .i64 (i : Int)] 3)).heap.size from ⟨by unfold maxLen; omega, by omega, by have := HBS.out; simp; omega⟩);go_wp2_with (at_builtin; refine Ax _ rfl (.tmp 31) (.tmp 33) 40 rfl (w.heap.size + 1) 3 i0 (.int .i64 0) 1 8 Tryz.underlying40 hi hz0 hz1 hz2 rfl (by decide) V5 c5 n (AG seen) rfl HO5b.out (some ⟨w2.heap.size, 0, none⟩) 1 1 (AG [i]) rfl (by simp [AG]) (Be (Ad w2 _)) (FI _) F2.out.1 F2.out.2.1 F2.out.2.2 ?_; intro V'' vc'' w3 HO3 HG3 HA3)
      have HA : Hid (ApartB V' V5) := qd (HAP.out.symm.grown (n := wr.drew.heap.size) (fun k hk => (Aq HO5.out k hk).2) HA2.out);have HB3 := qd (show Below (w.heap.size + 1) wr w3 from (HB2.out.alloc (by have := HBS.out; omega) _).trans (Cc HO5b.out HG3.out (Nat.le_refl _) F2.out.2.2));refine ⟨⟨o' ++ Ab (ls.map Ln.nd) i, seen ++ [i], V'', V', vc'', vc', _, _, rfl, rfl, qd (by rw [List.length_append, HKN.out, HM'.out]), qd (by rw [List.length_append, HNN.out]; rfl), qd (by rw [BI]; exact HO3.out), qd ?_, qd ?_, qd HE2.out, qd ((HB3.out.block _ (by omega)).trans HK.out), qd (HB.out.trans (HB3.out.mono (by omega)))⟩, by simp only [FJ]; omega⟩
      · rw [BI, <- HKV.out]
        exact Gx (World.ownsRow.alloc HO2.out _) HG3.out HA.out.symm
      · exact HA.out.symm.grown (n := (w2.alloc (.cells #[.int .i64 (i : Int)] 3)).heap.size) (fun k hk => by have := (Aq HO2.out k hk).2; simp; omega) HA3.out
end Go.Proofs.YtdnochjajoiooaaGreatDoor
/- What a call owns of trees:rows of its own;and plain laws of the row of what stands behind a node. -/
namespace Go.Proofs.YtdnochjajoiooaaGreatDoor
open Go.RowKit
set_option linter.unusedSimpArgs false
set_option linter.unusedVariables false
theorem It {α β:Type} (f:α->List β):∀(L:List α) (pre:List β) (p:β) (suf:List β),L.flatMap f=pre++p::suf-> ∃L1 a L2 pre' suf',L=L1++a::L2/\f a=pre'++p::suf'/\pre=L1.flatMap f++pre'
 |[],pre,p,suf,h=>by simp at h
 |x::L,pre,p,suf,h=>by
  rw[List.flatMap_cons,List.append_eq_append_iff]at h;rcases h with⟨a',h1,h2⟩|⟨c',h1,h2⟩
  ·obtain⟨L1,a,L2,pre',suf',e1,e2,e3⟩:=It f L a' p suf h2;exact⟨x::L1,a,L2,pre',suf',by rw[e1];rfl,e2,by rw[h1,e3,List.flatMap_cons,List.append_assoc]⟩
  ·cases c' with
   |nil=>
    simp only[List.nil_append]at h2;obtain⟨L1,a,L2,pre',suf',e1,e2,e3⟩:=It f L [] p suf (by simpa using h2.symm);refine⟨x::L1,a,L2,pre',suf',by rw[e1];rfl,e2,?_⟩;rw[List.flatMap_cons,List.append_assoc,<-e3,List.append_nil];simpa using h1.symm
   |cons c c'=>
    simp only[List.cons_append,List.cons.injEq]at h2;exact⟨[],x,L,pre,c',rfl,by rw[h1,h2.1],by simp⟩
theorem M2 {l:List Nd} (h:AR l):∀(i:Nat) (pre:List Nat) (p:Nat) (suf:List Nat),Ak l i=pre++p::suf-> ∀z∈Ab l p,z∈pre:=by
 intro i;induction i using Nat.strongRecOn with
 |_ i ih=>
  intro pre p suf e z hz;rw[AW h]at e;rcases List.eq_nil_or_concat suf with rfl|⟨s',b,hs⟩
  ·have:=List.append_inj' e rfl;obtain⟨e1,e2⟩:=this;cases e2;rw[<-e1];exact List.mem_flatMap.2 ⟨z,hz,by rw[AW h];simp⟩
  ·rw[List.concat_eq_append]at hs;subst hs;rw[show pre++p::(s'++[b])=(pre++p::s')++[b]by simp]at e;obtain⟨e1,_⟩:=List.append_inj' e rfl;obtain⟨L1,a,L2,pre',suf',e2,e3,e4⟩:=It _ _ _ _ _ e1;have ha:a∈Ab l i:=by rw[e2];simp
   have:=ih a (h i a ha) pre' p suf' e3 z hz;rw[e4,List.mem_append];exact .inr this
theorem Iu {l:List Nd} (h:AR l) {i k:Nat} (hk:k<(Ak l i).length) {z:Nat} (hz:z∈Ab l (Ak l i)[k]):∃j,j<k/\(Ak l i)[j]?=some z:=by
 have e:Ak l i=(Ak l i).take k++(Ak l i)[k]::(Ak l i).drop (k+1):=by rw[<-List.drop_eq_getElem_cons hk,List.take_append_drop]
 have hm:=M2 h i _ _ _ e z hz;obtain⟨j,hj,ej⟩:=List.mem_iff_getElem.1 hm;rw[List.length_take]at hj;refine⟨j,by omega,?_⟩;rw[List.getElem_take]at ej;rw[List.getElem?_eq_getElem (by omega),ej]
theorem EZ {L:List Nat} (h:L.Nodup) {j z:Nat} (hj:L[j]?=some z):L.idxOf z=j:=by
 obtain⟨hl,e⟩:=List.getElem?_eq_some_iff.1 hj;rw[<-e];exact h.idxOf_getElem j hl
def OwnS (w:World) (S:Nat->Prop) (e:TypeId) (size:Nat) (V:Option Addr) (n c:Nat) (xs:List Value):Prop:=w.ownsRow 0 e size (.slice V n c) n xs/\ ∀k,Ai V=some k->S k
theorem OwnS.agree {w w':World} {S:Nat->Prop} {e:TypeId} {size n c:Nat} {V:Option Addr} {xs:List Value} (h:OwnS w S e size V n c xs) (hg:Agree S w w'):OwnS w' S e size V n c xs:=
 ⟨Au h.1 fun k hk=>hg k (h.2 k hk) (Aq h.1 k hk).2,h.2⟩
theorem OwnS.mono {w:World} {S T:Nat->Prop} {e:TypeId} {size n c:Nat} {V:Option Addr} {xs:List Value} (h:OwnS w S e size V n c xs) (hS:∀k,k<w.heap.size->S k->T k):OwnS w T e size V n c xs:=
 ⟨h.1,fun k hk=>hS k (Aq h.1 k hk).2 (h.2 k hk)⟩
theorem GC {w:World} {B:Nat} {e:TypeId} {size n c:Nat} {V:Option Addr} {xs:List Value} (h:w.ownsRow B e size (.slice V n c) n xs):OwnS w (B <= ·) e size V n c xs:=⟨Cl h (Nat.zero_le _),fun k hk=>(Aq h k hk).1⟩
theorem OwnS.own {w:World} {B:Nat} {e:TypeId} {size n c:Nat} {V:Option Addr} {xs:List Value} (h:OwnS w (B <= ·) e size V n c xs):w.ownsRow B e size (.slice V n c) n xs:=by
 refine⟨h.1.1,?_⟩;rcases h.1.2 with h1|⟨g,cap,cur,hv,hb,r⟩
 ·exact .inl h1
 ·cases hv;exact .inr ⟨g,_,cur,rfl,h.2 g rfl,r⟩
theorem OwnS.row {w:World} {S:Nat->Prop} {e:TypeId} {size n c:Nat} {V:Option Addr} {xs:List Value} (h:OwnS w S e size V n c xs):RowIn w S V xs:=
 Hk h.1 fun ad e=>h.2 ad.block (by subst e;rfl)
theorem OwnS.nil (w:World) (S:Nat->Prop) (e:TypeId) (size:Nat):OwnS w S e size none 0 0 []:=⟨World.ownsRow_nil _ _ _ _,fun k hk=>by cases hk⟩
def NdOwn (w:World) (S:Nat->Prop) (l:Ln):Prop:=l.nd.wf/\OwnS w S 3 1 l.A l.nd.kids.length l.c (Az.all l.nd.kids)
theorem NdOwn.agree {w w':World} {S:Nat->Prop} {l:Ln} (h:NdOwn w S l) (hg:Agree S w w'):NdOwn w' S l:=⟨h.1,h.2.agree hg⟩
theorem NdOwn.mono {w:World} {S T:Nat->Prop} {l:Ln} (h:NdOwn w S l) (hS:∀k,k<w.heap.size->S k->T k):NdOwn w T l:=⟨h.1,h.2.mono hS⟩
theorem NdOwn.inn {w:World} {S:Nat->Prop} {l:Ln} (h:NdOwn w S l):ndL.inn w S l:=⟨h.1,h.2.row,fun x _=>trivial⟩
structure TreeOwn (w:World) (S:Nat->Prop) (t:Lt):Prop where
 len:t.ls.length<=281474976710656
 row:OwnS w S 42 9 t.A t.ls.length t.c (ndL.all t.ls)
 kids:∀l∈t.ls,NdOwn w S l
theorem TreeOwn.agree {w w':World} {S:Nat->Prop} {t:Lt} (h:TreeOwn w S t) (hg:Agree S w w'):TreeOwn w' S t:=⟨h.len,h.row.agree hg,fun l hl=>(h.kids l hl).agree hg⟩
theorem TreeOwn.mono {w:World} {S T:Nat->Prop} {t:Lt} (h:TreeOwn w S t) (hS:∀k,k<w.heap.size->S k->T k):TreeOwn w T t:=⟨h.len,h.row.mono hS,fun l hl=>(h.kids l hl).mono hS⟩
theorem TreeOwn.below {w w':World} {S:Nat->Prop} {t:Lt} (h:TreeOwn w S t) (hb:Below w.heap.size w w'):TreeOwn w' S t:=h.agree (AF hb)
theorem TreeOwn.inn {w:World} {S:Nat->Prop} {t:Lt} (h:TreeOwn w S t):t.inn w S:=⟨h.len,h.row.row,fun l hl=>(h.kids l hl).inn⟩
set_option maxRecDepth 100000 in
set_option maxHeartbeats 800000 in
theorem Iv (w:World) (v0 v1 v2 v3 v4 v5 v6 v7 v8:Value):(Instr.buildSlice 22 1 #[(0,.agg #[v0,v1,v2,v3,v4,v5,v6,v7,v8])]).run Tryz.prog w=.ok (.slice (some ⟨w.heap.size,0,none⟩) 1 1) (w.alloc (.cells #[v0,v1,v2,v3,v4,v5,v6,v7,v8] 42)):=by
 go_simp
set_option maxRecDepth 100000 in
set_option maxHeartbeats 800000 in
theorem Lc (w:World) (b:Nat) (v0 v1 v2 v3 v4 v5 v6 v7 v8:Value) (T:TypeId) (h:w.heap[b]?=some (.cells #[v0,v1,v2,v3,v4,v5,v6,v7,v8] T (0,0))):(Instr.loadAt 42 (.pointer (some ⟨b,0,none⟩))).run Tryz.prog w=.ok (.agg #[v0,v1,v2,v3,v4,v5,v6,v7,v8]) w:=by
 obtain⟨h0,h1,h2,h3,h4,h5,h6,h7,h8,_⟩:=BP h;go_simp
def TreePost (t:Tr) (w:World) (e:Ending) (w':World):Prop:=∃v:Lt,e=.returned v.val/\v.tr=t/\TreeOwn w' (w.heap.size <= ·) v/\Below w.heap.size w w'
end Go.Proofs.YtdnochjajoiooaaGreatDoor
