/- The contract of tree.Fits, whatever kind. -/
import Derived.Test.YtdnochjajoiooaaDoorDe
import Derived.Test.YtdnochjajoiooaaDoorDf
import Derived.Test.YtdnochjajoiooaaDoorDa
import Derived.Laws.OwnMore
namespace Go.Proofs.YtdnochjajoiooaaDoor
open Go.RowKit
set_option linter.unusedSimpArgs false
set_option linter.unusedVariables false
theorem fitN_other (n:Nd) (k:Int) (h:10≤n.kind):fitN n k=false:=by
 unfold fitN
 rw[if_neg (by omega),if_neg (by omega),if_neg (by omega),if_neg (by omega),if_neg (by omega),if_neg (by omega),if_neg (by omega),if_neg (by omega),if_neg (by omega),if_neg (by omega)]
set_option maxRecDepth 100000 in
set_option maxHeartbeats 1600000 in
theorem fits_other (n:Nd) (K:Value) (k:Int) (w:World) (h:10≤n.kind) (h2:n.kind≤255):
  Calls Tryd.prog 39 #[ndV n K,.int .i64 k] w fun e w'=>e=.returned (.bool (fitN n k))∧Below w.heap.size w w':=by
 have HF:=Lib.hid (fitN_other n k h)
 obtain⟨kind,s0,s1,s2,s3,text,mn,mx,kids⟩:=n
 simp only at h h2 ⊢
 go_enter Tryd.func39,Tryd.ntmps39
 go_wp2_with fail
 go_ret
 exact⟨ret_bool HF.out.symm,bx1 w _⟩
theorem fits_any (n:Nd) (K:Value) (k:Int) (w:World) (ht:CntTab w) (hk:0≤n.kind∧n.kind≤255) (hts:n.text.size≤281474976710656):
  Calls Tryd.prog 39 #[ndV n K,.int .i64 k] w fun e w'=>e=.returned (.bool (fitN n k))∧Below w.heap.size w w':=by
 have h:n.kind=0∨n.kind=1∨n.kind=2∨n.kind=3∨n.kind=4∨n.kind=5∨n.kind=6∨n.kind=7∨n.kind=8∨n.kind=9∨10≤n.kind:=by omega
 rcases h with h|h|h|h|h|h|h|h|h|h|h
 ·exact fits0 n K k w ht h hts
 ·exact fits1 n K k w ht h hts
 ·exact fits2 n K k w ht h hts
 ·exact fits3 n K k w ht h hts
 ·exact fits4 n K k w ht h hts
 ·exact fits5 n K k w ht h hts
 ·exact fits6 n K k w ht h hts
 ·exact fits7 n K k w ht h hts
 ·exact fits8 n K k w ht h hts
 ·exact fits9 n K k w ht h hts
 ·exact fits_other n K k w h hk.2
end Go.Proofs.YtdnochjajoiooaaDoor
/- Plain laws:how the loops of Right come to whether a tree is right. -/
namespace Go.Proofs.YtdnochjajoiooaaDoor
open Go.RowKit
def seenL (l:List Nd) (k q:Nat):List Int:=kidsOf (l.take k)++((l[k]?.map Nd.kids).getD []).take q
theorem seen_zero (l:List Nd):seenL l 0 0=[]:=by simp[seenL,kidsOf]
theorem seen_next (l:List Nd) (k:Nat) (hk:k<l.length):seenL l k l[k].kids.length=seenL l (k+1) 0:=by
 simp only[seenL,List.getElem?_eq_getElem hk,Option.map_some,Option.getD_some,List.take_length,List.take_zero,List.append_nil,kidsOf]
 rw[List.take_succ_eq_append_getElem hk,List.flatMap_append];simp
theorem seen_kid (l:List Nd) (k q:Nat) (hk:k<l.length) (hq:q<l[k].kids.length):seenL l k (q+1)=seenL l k q++[l[k].kids[q]]:=by
 simp only[seenL,List.getElem?_eq_getElem hk,Option.map_some,Option.getD_some]
 rw[List.take_succ_eq_append_getElem hq,List.append_assoc]
theorem seen_all (l:List Nd) (k q:Nat):∃r,kidsOf l=seenL l k q++r:=by
 by_cases hk:k<l.length
 ·refine⟨l[k].kids.drop q++kidsOf (l.drop (k+1)),?_⟩
  simp only[seenL,List.getElem?_eq_getElem hk,Option.map_some,Option.getD_some,kidsOf]
  conv=>{lhs;rw[←List.take_append_drop k l,List.flatMap_append,List.drop_eq_getElem_cons hk,List.flatMap_cons]}
  rw[List.append_assoc,←List.append_assoc (List.take q _),List.take_append_drop]
 ·refine⟨[],?_⟩
  simp[seenL,List.getElem?_eq_none (show l.length≤k by omega),List.take_of_length_le (show l.length≤k by omega)]
theorem seen_end (l:List Nd):seenL l l.length 0=kidsOf l:=by simp[seenL]
theorem seen_count (l:List Nd) (k q:Nat) (z:Int):(seenL l k q).count z≤(kidsOf l).count z:=by
 obtain⟨r,h⟩:=seen_all l k q
 rw[h,List.count_append];omega
theorem seen_length (l:List Nd) (k q:Nat):(seenL l k q).length≤(kidsOf l).length:=by
 obtain⟨r,h⟩:=seen_all l k q
 rw[h,List.length_append];omega
theorem right_no {t:Tr} (h:¬rightP t):rightT t=false:=by
 cases e:rightT t
 ·rfl
 ·exact absurd ((rightT_iff t).1 e) h
theorem right_no_root {t:Tr} (h:¬(0≤t.root∧t.root<(t.nodes.length:Int))):rightT t=false:=right_no fun hp=>h hp.1
theorem right_no_nd {t:Tr} {k:Nat} (hk:k<t.nodes.length) (h:fitN t.nodes[k] t.nodes[k].kids.length=false):rightT t=false:=
 right_no fun hp=>by have:=rightP_fit hp (List.getElem?_eq_getElem hk);rw[h]at this;cases this
theorem right_no_kid {t:Tr} {k q:Nat} (hk:k<t.nodes.length) (hq:q<t.nodes[k].kids.length) (h:¬(0≤t.nodes[k].kids[q]∧t.nodes[k].kids[q]<(k:Int))):rightT t=false:=
 right_no fun hp=>h (rightP_kid hp (List.getElem?_eq_getElem hk) (List.getElem_mem hq))
theorem rightP_count {t:Tr} (hp:rightP t) (z:Int):(kidsOf t.nodes).count z≤1:=by
 by_cases hz:0≤z∧z<(t.nodes.length:Int)
 ·have:=hp.2.2 z.toNat (by omega)
  rw[show((z.toNat:Nat):Int)=z by omega]at this
  rw[this];split <;> omega
 ·rw[List.count_eq_zero.2 (fun hm=> ?_)]
  ·omega
  ·obtain⟨n,hn,hk⟩:=List.mem_flatMap.1 hm
   obtain⟨i,hi⟩:=List.mem_iff_getElem?.1 hn
   have:=rightP_kid hp hi hk
   have:=(List.getElem?_eq_some_iff.1 hi).1
   omega
theorem right_no_dup {t:Tr} {k q:Nat} (hk:k<t.nodes.length) (hq:q<t.nodes[k].kids.length) (h:0<(seenL t.nodes k q).count t.nodes[k].kids[q]):rightT t=false:=
 right_no fun hp=>by
  have h1:=rightP_count hp t.nodes[k].kids[q]
  have h2:=seen_count t.nodes k (q+1) t.nodes[k].kids[q]
  rw[seen_kid _ _ _ hk hq,List.count_append,List.count_singleton]at h2
  simp at h2;omega
def FineTo (l:List Nd) (k:Nat):Prop:=∀j,j<k→ ∀n,l[j]?=some n→ndOk j n=true
theorem FineTo.zero (l:List Nd):FineTo l 0:=fun j hj=>by omega
theorem FineTo.next {l:List Nd} {k:Nat} (h:FineTo l k) (hk:k<l.length) (hf:fitN l[k] l[k].kids.length=true) (hi:∀p (hp:p<l[k].kids.length),0≤l[k].kids[p]∧l[k].kids[p]<(k:Int)):FineTo l (k+1):=fun j hj n hn=>by
 by_cases e:j<k
 ·exact h j e n hn
 ·obtain rfl:j=k:=by omega
  rw[List.getElem?_eq_getElem hk]at hn
  cases hn
  simp only[ndOk,Bool.and_eq_true,hf,true_and,List.all_eq_true,decide_eq_true_eq]
  intro z hz
  obtain⟨p,hp,rfl⟩:=List.mem_iff_getElem.1 hz
  exact hi p hp
theorem right_no_end {t:Tr} {j:Nat} (hj:j<t.nodes.length) (h:(kidsOf t.nodes).count (j:Int)≠if (j:Int)=t.root then 0 else 1):rightT t=false:=right_no fun hp=>h (hp.2.2 j hj)
theorem right_yes {t:Tr} (h0:0≤t.root∧t.root<(t.nodes.length:Int)) (h1:FineTo t.nodes t.nodes.length) (h2:∀j,j<t.nodes.length→(kidsOf t.nodes).count (j:Int)=if (j:Int)=t.root then 0 else 1):rightT t=true:=
 (rightT_iff t).2 ⟨h0,fun i n hn=>h1 i (List.getElem?_eq_some_iff.1 hn).1 n hn,h2⟩
def boolsOf (n:Nat) (L:List Int):List Value:=(List.range n).map fun j:Nat=>Value.bool (decide (0<L.count (j:Int)))
theorem boolsOf_length (n:Nat) (L:List Int):(boolsOf n L).length=n:=by simp[boolsOf]
theorem boolsOf_get (n:Nat) (L:List Int) (j:Nat) (h:j<n):(boolsOf n L)[j]?=some (.bool (decide (0<L.count (j:Int)))):=by simp[boolsOf,h]
theorem boolsOf_nil (n:Nat):(madeCells #[.bool false] n).toList=boolsOf n []:=by
 rw[toList_madeCells_one]
 apply List.ext_getElem?
 intro i
 by_cases h:i<n
 ·rw[boolsOf_get _ _ _ h,List.getElem?_replicate_of_lt h];rfl
 ·rw[List.getElem?_eq_none (by simp;omega),List.getElem?_eq_none (by rw[boolsOf_length];omega)]
theorem boolsOf_set (n:Nat) (L:List Int) (m:Nat) (h:m<n):(boolsOf n L).set m (.bool true)=boolsOf n (L++[(m:Int)]):=by
 apply List.ext_getElem?
 intro i
 by_cases hi:i<n
 ·rw[boolsOf_get _ _ _ hi,List.getElem?_set]
  by_cases e:m=i
  ·subst e
   rw[if_pos rfl,if_pos (by rw[boolsOf_length];exact h),List.count_append]
   simp
  ·rw[if_neg e,boolsOf_get _ _ _ hi,List.count_append,List.count_singleton]
   have:((m:Int)==(i:Int))=false:=by simp;omega
   rw[this];simp
 ·rw[List.getElem?_eq_none (by simp[boolsOf_length];omega),List.getElem?_eq_none (by rw[boolsOf_length];omega)]
def countsOf (n:Nat) (L:List Int):List Value:=(List.range n).map fun j:Nat=>Value.int .i64 (L.count (j:Int):Nat)
theorem countsOf_length (n:Nat) (L:List Int):(countsOf n L).length=n:=by simp[countsOf]
theorem countsOf_get (n:Nat) (L:List Int) (j:Nat) (h:j<n):(countsOf n L)[j]?=some (.int .i64 (L.count (j:Int):Nat)):=by simp[countsOf,h]
theorem countsOf_nil (n:Nat):(madeCells #[.int .i64 0] n).toList=countsOf n []:=by
 rw[toList_madeCells_one]
 apply List.ext_getElem?
 intro i
 by_cases h:i<n
 ·rw[countsOf_get _ _ _ h,List.getElem?_replicate_of_lt h];rfl
 ·rw[List.getElem?_eq_none (by simp;omega),List.getElem?_eq_none (by rw[countsOf_length];omega)]
theorem countsOf_set (n:Nat) (L:List Int) (m:Nat) (h:m<n):(countsOf n L).set m (.int .i64 ((L.count (m:Int):Nat)+1))=countsOf n (L++[(m:Int)]):=by
 apply List.ext_getElem?
 intro i
 by_cases hi:i<n
 ·rw[countsOf_get _ _ _ hi,List.getElem?_set]
  by_cases e:m=i
  ·subst e
   rw[if_pos rfl,if_pos (by rw[countsOf_length];exact h),List.count_append]
   simp
  ·rw[if_neg e,countsOf_get _ _ _ hi,List.count_append,List.count_singleton]
   have:((m:Int)==(i:Int))=false:=by simp;omega
   rw[this];simp
 ·rw[List.getElem?_eq_none (by simp[countsOf_length];omega),List.getElem?_eq_none (by rw[countsOf_length];omega)]
end Go.Proofs.YtdnochjajoiooaaDoor
/- The contract of tree.Right. -/
namespace Go.Proofs.YtdnochjajoiooaaDoor
open Go.RowKit
set_option linter.unusedSimpArgs false
set_option linter.unusedVariables false
theorem cnt_lt {w:World} (h:CntTab w):2<w.heap.size:=by
 have:=h.cells 0
 exact cellLt (a:=⟨2,0,none⟩) (v:=.int .i64 0) (by rw[this];rfl)
theorem CntTab.below {w w':World} (h:CntTab w) (hb:Below w.heap.size w w'):CntTab w':=var_below hb (by kernel_rfl) (cnt_lt h) h
theorem blk2 {w:World} {b:Nat} {x y:Value} {T:TypeId} (h:w.heap[b]?=some (.cells #[x,y] T (0,0))):
  w.cell? ⟨b,0,none⟩=some x∧w.cell? ⟨b,1,none⟩=some y∧w.frozen? ⟨b,0,none⟩=false∧w.frozen? ⟨b,1,none⟩=false:=by
 simp[World.cell?,World.frozen?,h]
theorem own_cell {w:World} {B g n c:Nat} {e:TypeId} {xs:List Value} (h:w.ownsRow B e 1 (.slice (some ⟨g,0,none⟩) n c) n xs) (j:Nat) (hj:j<n) {u:Value} (hu:xs[j]?=some u):w.cell? ⟨g,j,none⟩=some u:=
 (World.ownsRow.cellAt h j (by omega)).trans hu
theorem own_lt {w:World} {B g n c:Nat} {e:TypeId} {size:Nat} {xs:List Value} (h:w.ownsRow B e size (.slice (some ⟨g,0,none⟩) n c) n xs):B≤g∧g<w.heap.size:=World.ownsRow.lt h g rfl
theorem own_below {w w':World} {B g n c:Nat} {e:TypeId} {size:Nat} {xs:List Value} (h:w.ownsRow B e size (.slice (some ⟨g,0,none⟩) n c) n xs) (hb:Below w.heap.size w w'):w'.ownsRow B e size (.slice (some ⟨g,0,none⟩) n c) n xs:=
 World.ownsRow.kept h (row:=none) ⟨hb.os,hb.tape,hb.output,hb.size,fun k hk _=>hb.block k hk⟩ (Or.inr (fun e=>by cases e))
set_option maxRecDepth 100000 in
set_option maxHeartbeats 3200000 in
theorem right_any (A:Option Addr) (c:Nat) (ls:List Ln) (root:Int) (S:Nat→Prop) (w:World) (hT:ndL.row w S A ls) (hl:ls.length≤281474976710656) (ht:CntTab w):
  Calls Tryd.prog 32 #[.agg #[.slice A ls.length c,.int .i64 root]] w fun e w'=>e=.returned (.bool (rightT ⟨ls.map Ln.nd,root⟩))∧Below w.heap.size w w':=by
 have hlm:(ls.map Ln.nd).length=ls.length:=by simp
 by_cases hr:0≤root∧root<(ls.length:Int)
 ·obtain⟨hr1,hr2⟩:=hr
  obtain⟨i0,hi,hz0,hz1,hz2⟩:=info_parts infoBool
  have HT:=Lib.hid hT;clear hT
  have HC:=Lib.hid ht;clear ht
  have HLM:=Lib.hid hlm;clear hlm
  go_enter Tryd.func32,Tryd.ntmps32
  go_wp2_with (first|(at_make;refine wpList_make_full _ rfl _ _ 105 rfl (w.heap.size+1) 4 i0 _ 1 Tryd.underlying105 hi hz0 hz1 .i64 .i64 _ _ ls.length rfl rfl rfl rfl ?_ ?_ ?_ ?_))
  ·rw[hz2];omega
  ·unfold maxLen;omega
  ·simp
  intro w1 hown1 hgrow1
  rw[boolsOf_nil]at hown1
  have HB1:=Lib.hid (show Below w.heap.size w w1 from(bx1 w _).trans ((Below.refl _ _).grown hgrow1 (by simp) (fun k e=>by cases e)))
  have HO1:=Lib.hid hown1;clear hown1
  have HK1:=Lib.hid ((hgrow1.block w.heap.size (by simp) (fun e=>by cases e)).trans (bx_new w _));clear hgrow1
  obtain⟨b1,b2,_,_⟩:=blk2 HK1.out
  go_wp2_with fail
  clear b1 b2
  go_loopw [28] (fun i wr=>∃k:Nat,k≤ls.length∧i=.int .i64 k∧wr.ownsRow (w.heap.size+1) 4 1 (.slice (some ⟨w.heap.size+1,0,none⟩) ls.length ls.length) ls.length (boolsOf ls.length (seenL (ls.map Ln.nd) k 0))∧FineTo (ls.map Ln.nd) k∧(∀z,(seenL (ls.map Ln.nd) k 0).count z≤1)∧wr.heap[w.heap.size]?=some (.cells #[.slice A ls.length c,.int .i64 root] 25 (0,0))∧Below w.heap.size w wr) (fun i _=>ls.length-(intOf i).toNat)
  case atStart=>exact⟨0,by omega,rfl,by rw[seen_zero];exact HO1.out,FineTo.zero _,fun z=>by rw[seen_zero];simp,HK1.out,HB1.out⟩
  case round=>
   clear HO1 HK1 HB1
   obtain⟨k,hk,rfl,hown,hfine,hcnt,hbox,hb⟩:=hrel
   have HO:=Lib.hid hown;clear hown
   have HF:=Lib.hid hfine;clear hfine
   have HN:=Lib.hid hcnt;clear hcnt
   have HB:=Lib.hid hb;clear hb
   have HK:=Lib.hid hbox;clear hbox
   by_cases hlt:k<ls.length
   ·have HR:=Lib.hid (HT.out.agree (below_all HB.out))
    have HW:=Lib.hid (ndWf HT.out k hlt)
    have HKR:=Lib.hid (ndSub HR.out k hlt)
    obtain⟨b,o,rfl,hS,hbl,x0,x1,x2,x3,x4,x5,x6,x7,x8⟩:=ndRow HR.out k hlt
    have i1:(k:Int)<(ls.length:Int):=by omega
    cases hf:fitN ls[k].nd (ls[k].nd.kids.length:Nat)
    ·as_aux_lemma=>
      have HX:=Lib.hid (show rightT ⟨ls.map Ln.nd,root⟩=false from right_no_nd (k:=k) (by rw[HLM.out];exact hlt) (by simpa using hf))
      go_wp2_with (go_at_call 39;refine(fits_any ls[k].nd _ _ _ ((HC.out.below HB.out).below (bx1 _ _)) HW.out.1 HW.out.2.1).mono ?_;rintro e w' ⟨rfl,hb⟩)
      go_ret
      exact⟨ret_bool HX.out.symm,(HB.out.trans ((bx1 wr _).mono HB.out.size)).trans (hb.mono (by have:=HB.out.size;simp;omega))⟩
    ·have HF1:=Lib.hid hf
     go_wp2_with (go_at_call 39;refine(fits_any ls[k].nd _ _ _ ((HC.out.below HB.out).below (bx1 _ _)) HW.out.1 HW.out.2.1).mono ?_;rintro e w' ⟨rfl,hb⟩;obtain⟨q0,q1,q2,q3,q4,q5,q6,q7,q8,_⟩:=blk9 (bx_kept hb (bx_new wr _)))
     have HB2:=Lib.hid (show Below w.heap.size w w' from(HB.out.trans ((bx1 wr _).mono HB.out.size)).trans (hb.mono (by have:=HB.out.size;simp;omega)))
     have HO2:=Lib.hid (own_below (World.ownsRow.alloc HO.out _) hb)
     have HK2:=Lib.hid (bx_kept hb (bx_old HK.out))
     have HN0:=Lib.hid (show seenL (ls.map Ln.nd) k ls[k].nd.kids.length=seenL (ls.map Ln.nd) (k+1) 0 by
      have:=seen_next (ls.map Ln.nd) k (by rw[HLM.out];exact hlt);simpa using this)
     clear hb q0 q1 q2 q3 q4 q5 q6 q7 q8 x0 x1 x2 x3 x4 x5 x6 x7 x8 hf HO HK
     go_loopw [42] (fun i wr=>∃q:Nat,q≤ls[k].nd.kids.length∧i=.int .i64 q∧wr.ownsRow (w.heap.size+1) 4 1 (.slice (some ⟨w.heap.size+1,0,none⟩) ls.length ls.length) ls.length (boolsOf ls.length (seenL (ls.map Ln.nd) k q))∧(∀z,(seenL (ls.map Ln.nd) k q).count z≤1)∧(∀p (hp:p<ls[k].nd.kids.length),p<q→0≤ls[k].nd.kids[p]∧ls[k].nd.kids[p]<(k:Int))∧wr.heap[w.heap.size]?=some (.cells #[.slice (some ⟨b,o,none⟩) ls.length c,.int .i64 root] 25 (0,0))∧Below w.heap.size w wr) (fun i _=>ls[k].nd.kids.length-(intOf i).toNat)
     case atStart=>exact⟨0,by omega,rfl,HO2.out,HN.out,fun p _ h=>by omega,HK2.out,HB2.out⟩
     case round=>
      clear HO2 HK2 HB2 HN HB HR HKR
      obtain⟨q,hq,rfl,hown,hcnt,hin,hbox,hb⟩:=hrel
      have HO:=Lib.hid hown;clear hown
      have HN:=Lib.hid hcnt;clear hcnt
      have HI:=Lib.hid hin;clear hin
      have HB:=Lib.hid hb;clear hb
      have HK:=Lib.hid hbox;clear hbox
      by_cases hql:q<ls[k].nd.kids.length
      ·as_aux_lemma=>
        obtain⟨kb,ko,hkA,_,_,y0⟩:=intRow (ndSub (HT.out.agree (below_all HB.out)) k hlt) q hql
        have i2:(q:Int)<(ls[k].nd.kids.length:Int):=by omega
        have hkl:ls[k].nd.kids.length≤281474976710656:=HW.out.2.2.1
        have hkz:(ls.map Ln.nd)[k]'(by rw[HLM.out];exact hlt)=ls[k].nd:=by simp
        have HSK:=Lib.hid (show seenL (ls.map Ln.nd) k (q+1)=seenL (ls.map Ln.nd) k q++[ls[k].nd.kids[q]]by
         have:=seen_kid (ls.map Ln.nd) k q (by rw[HLM.out];exact hlt) (by rw[hkz];exact hql);simpa using this)
        have HXK:=Lib.hid (show ¬(0≤ls[k].nd.kids[q]∧ls[k].nd.kids[q]<(k:Int))→rightT ⟨ls.map Ln.nd,root⟩=false from fun h=>right_no_kid (k:=k) (q:=q) (by rw[HLM.out];exact hlt) (by simpa using hql) (by simpa using h))
        have HXD:=Lib.hid (show 0<(seenL (ls.map Ln.nd) k q).count ls[k].nd.kids[q]→rightT ⟨ls.map Ln.nd,root⟩=false from fun h=>right_no_dup (k:=k) (q:=q) (by rw[HLM.out];exact hlt) (by simpa using hql) (by simpa using h))
        clear hkz
        generalize hz:ls[k].nd.kids[q]=z at y0 HSK HXK HXD
        have HZ:=Lib.hid hz;clear hz
        have hkA':=Lib.hid hkA;clear hkA
        generalize hkk:ls[k].A=KA at *
        obtain rfl:=hkA'.out
        by_cases hz0:z<0
        ·have HX:=Lib.hid (HXK.out (by omega))
         go_wp2_with fail
         go_ret
         exact⟨ret_bool HX.out.symm,HB.out⟩
        ·by_cases hz1:(k:Int)≤z
         ·have HX:=Lib.hid (HXK.out (by omega))
          go_wp2_with fail
          go_ret
          exact⟨ret_bool HX.out.symm,HB.out⟩
         ·obtain⟨m,rfl⟩:=Int.eq_ofNat_of_zero_le (show 0≤z by omega)
          have hmk:m<k:=by omega
          have c0:=own_cell HO.out m (by omega) (boolsOf_get _ _ m (by omega))
          have c1:=World.ownsRow.frozenAt HO.out m
          have i3:(m:Int)<(ls.length:Int):=by omega
          by_cases hd:0<(seenL (ls.map Ln.nd) k q).count (m:Int)
          ·as_aux_lemma=>
           have HX:=Lib.hid (HXD.out hd)
           rw[decide_eq_true hd]at c0
           go_wp2_with fail
           go_ret
           exact⟨ret_bool HX.out.symm,HB.out⟩
          ·as_aux_lemma=>
           rw[decide_eq_false hd]at c0
           have HD:=Lib.hid hd;clear hd
           go_wp2_with fail
           refine⟨⟨q+1,by omega,by go_num,?_,?_,?_,(Below.heap_setCell _ _ _ _ (by simp)).trans HK.out,HB.out.setCell (p:=⟨w.heap.size+1,m,none⟩) (by simp) _⟩,by simp[intOf];omega⟩
           ·rw[HSK.out,←boolsOf_set _ _ m (by omega)]
            exact(World.ownsRow.stored HO.out _ _).1
           ·intro z
            rw[HSK.out,List.count_append,List.count_singleton]
            have:=HN.out z
            by_cases e:(m:Int)=z
            ·subst e;have:=HD.out;simp;omega
            ·have:((m:Int)==z)=false:=by simpa using e
             rw[this];simpa using HN.out z
           ·intro p hp hpq
            by_cases e:p<q
            ·exact HI.out p hp e
            ·obtain rfl:p=q:=by omega
             rw[HZ.out];omega
      ·as_aux_lemma=>
        have hqe:q=ls[k].nd.kids.length:=by omega
        have HFN:=Lib.hid (show FineTo (ls.map Ln.nd) (k+1)from HF.out.next (by rw[HLM.out];exact hlt) (by simpa using HF1.out) (fun p hp=>by simpa using HI.out p (by simpa using hp) (by rw[hqe];simpa using hp)))
        have HQ:=Lib.hid hqe;clear hqe
        go_wp2_with fail
        exact⟨⟨k+1,by omega,by go_num,by rw[←HN0.out,←HQ.out];exact HO.out,HFN.out,fun z=>by rw[←HN0.out,←HQ.out];exact HN.out z,HK.out,HB.out⟩,by simp[intOf];omega⟩
   ·have hke:k=ls.length:=by omega
    have HSE:=Lib.hid (show seenL (ls.map Ln.nd) k 0=kidsOf (ls.map Ln.nd)by rw[hke,←HLM.out,seen_end])
    have HFE:=Lib.hid (show FineTo (ls.map Ln.nd) (ls.map Ln.nd).length by rw[HLM.out,←hke];exact HF.out)
    have HO3:=Lib.hid (show wr.ownsRow (w.heap.size+1) 4 1 (.slice (some ⟨w.heap.size+1,0,none⟩) ls.length ls.length) ls.length (boolsOf ls.length (kidsOf (ls.map Ln.nd)))by rw[←HSE.out];exact HO.out)
    have HN3:=Lib.hid (show ∀z,(kidsOf (ls.map Ln.nd)).count z≤1 by rw[←HSE.out];exact HN.out)
    have HKE:=Lib.hid hke;clear hke HO HN HF HSE
    obtain⟨b1,b2,_,_⟩:=blk2 HK.out
    go_wp2_with fail
    go_loop [66] (fun i=>∃j:Nat,j≤ls.length∧i=.int .i64 j∧ ∀p,p<j→(kidsOf (ls.map Ln.nd)).count (p:Int)=if (p:Int)=root then 0 else 1) (fun i=>ls.length-(intOf i).toNat)
    case atStart=>exact⟨0,by omega,rfl,fun p hp=>by omega⟩
    case round=>as_aux_lemma=>
      obtain⟨j,hj,rfl,hall⟩:=hrel
      have HA:=Lib.hid hall;clear hall
      by_cases hjl:j<ls.length
      ·have c0:=own_cell HO3.out j hjl (boolsOf_get _ _ j hjl)
       have i3:(j:Int)<(ls.length:Int):=by omega
       have HX:=Lib.hid (show((kidsOf (ls.map Ln.nd)).count (j:Int)≠if (j:Int)=root then 0 else 1)→rightT ⟨ls.map Ln.nd,root⟩=false from fun h=>right_no_end (t:=⟨ls.map Ln.nd,root⟩) (by rw[HLM.out];exact hjl) h)
       have h1:=HN3.out (j:Int)
       have HM:=Lib.hid (show((kidsOf (ls.map Ln.nd)).count (j:Int)=if (j:Int)=root then 0 else 1)→ ∀p,p<j+1→(kidsOf (ls.map Ln.nd)).count (p:Int)=if (p:Int)=root then 0 else 1 from fun h p hp=>by
        by_cases e:p<j
        ·exact HA.out p e
        ·obtain rfl:p=j:=by omega
         exact h)
       generalize (kidsOf (ls.map Ln.nd)).count (j:Int)=cc at c0 HX HM h1
       by_cases hc:0<cc
       ·rw[decide_eq_true hc]at c0
        by_cases he:(j:Int)=root
        ·have he2:((j:Int)==root)=true:=by simpa using he
         have HX2:=Lib.hid (HX.out (by rw[if_pos he];omega));clear he
         go_wp2_with fail
         go_ret
         exact⟨ret_bool HX2.out.symm,HB.out⟩
        ·have he2:((j:Int)==root)=false:=by simpa using he
         have HM2:=Lib.hid (HM.out (by rw[if_neg he];omega));clear he
         go_wp2_with fail
         exact⟨⟨j+1,by omega,by go_num,HM2.out⟩,by simp[intOf];omega⟩
       ·rw[decide_eq_false hc]at c0
        by_cases he:(j:Int)=root
        ·have he2:((j:Int)==root)=true:=by simpa using he
         have HM2:=Lib.hid (HM.out (by rw[if_pos he];omega));clear he
         go_wp2_with fail
         exact⟨⟨j+1,by omega,by go_num,HM2.out⟩,by simp[intOf];omega⟩
        ·have he2:((j:Int)==root)=false:=by simpa using he
         have HX2:=Lib.hid (HX.out (by rw[if_neg he];omega));clear he
         go_wp2_with fail
         go_ret
         exact⟨ret_bool HX2.out.symm,HB.out⟩
      ·have HX2:=Lib.hid (show rightT ⟨ls.map Ln.nd,root⟩=true from right_yes (by rw[HLM.out];exact⟨hr1,hr2⟩) HFE.out (fun p hp=>HA.out p (by rw[HLM.out]at hp;omega)))
       go_wp2_with fail
       go_ret
       exact⟨ret_bool HX2.out.symm,HB.out⟩
 ·have HX:=Lib.hid (show rightT ⟨ls.map Ln.nd,root⟩=false from right_no_root (by rw[hlm];exact hr))
  clear hlm
  by_cases h1:root<0
  ·go_enter Tryd.func32,Tryd.ntmps32
   go_wp2_with fail
   go_ret
   exact⟨ret_bool HX.out.symm,bx1 _ _⟩
  ·have h2:(ls.length:Int)≤root:=by omega
   go_enter Tryd.func32,Tryd.ntmps32
   go_wp2_with fail
   go_ret
   exact⟨ret_bool HX.out.symm,bx1 _ _⟩
end Go.Proofs.YtdnochjajoiooaaDoor
