/- append onto a row of the call's own: what is known of the new one, and of where it lies; slices.Reverse of it. Plain: what stands at a node, clean, is put together of its kids'. -/
import Derived.Test.YtpfokabdpmjobaaGreatDoorLa
import Derived.Test.YtpfokabdpmjobaaGreatDoorNa
import Derived.Test.YtpfokabdpmjobaaGreatDoorShelf
import Derived.Test.YtpfokabdpmjobaaGreatDoorDj
import Derived.Maps.AppendAt
import Derived.Deep.RegionLaw
import Derived.Sort.OwnSortedInts
import Derived.Deep.RegionHeld3
import Derived.Test.YtpfokabdpmjobaaGreatDoorDa
namespace Go.Proofs.YtpfokabdpmjobaaGreatDoor
open Go.RowKit Go.Sort
theorem reverse_own (g c B:Nat) (zs:List Int) (w:World) (e:TypeId) (h:w.ownsRow B e 1 (.slice (some ⟨g,0,none⟩) zs.length c) zs.length (zs.map (.int .i64))):
  Calls Tryz.prog 104 #[.slice (some ⟨g,0,none⟩) zs.length c] w fun en w'=>en=.returned (.tuple #[])∧w'.ownsRow B e 1 (.slice (some ⟨g,0,none⟩) zs.length c) zs.length (zs.reverse.map (.int .i64))∧w.grownBy w' (some g):=by
 rcases h.2 with⟨hv,_⟩|⟨g',cap,cur,hv,hb,hh,hn,hc,hs,ht⟩
 ·cases hv
 ·cases hv
  refine(Tryz.slices_Reverse_int g 0 c zs w (holds_of_blockI hh (by rw[←ht,Nat.mul_one])) (by unfold maxLen at hc;omega)).mono ?_
  rintro en w' ⟨he,k,rfl⟩
  refine⟨he,?_,?_⟩
  ·have:=ownsRow_sortedI (os:= #[]) (n:=k) (ts:=zs.reverse) (ss:=zs) (by simp) hb hh hn hc hs
   rw[grow_empty]at this
   exact this
  ·have:=grownBy_sortedI (w:=w) (g:=g) (n:=k) (os:= #[]) zs.reverse.toArray
   rw[grow_empty]at this
   exact this
end Go.Proofs.YtpfokabdpmjobaaGreatDoor
/- The contract of tree.behind. -/
namespace Go.Proofs.YtpfokabdpmjobaaGreatDoor
open Go.RowKit
set_option linter.unusedSimpArgs false
set_option linter.unusedVariables false
def natsV (l:List Nat):List Value:=l.map fun k:Nat=>Value.int .i64 (k:Int)
theorem natsV_length (l:List Nat):(natsV l).length=l.length:=by simp[natsV]
theorem natsV_one (l:List Nat):∀u∈natsV l,u.oneCell'=true:=fun u hu=>by
 obtain⟨k,_,rfl⟩:=List.mem_map.1 hu;rfl
theorem natsV_append (l m:List Nat):natsV (l++m)=natsV l++natsV m:=by simp[natsV]
theorem natsV_ints (l:List Nat):natsV l=(l.map fun k:Nat=>(k:Int)).map (Value.int .i64):=by simp[natsV]
theorem kids_nats (l:List Nd) (i:Nat) (hi:i<l.length) (h:∀k∈l[i].kids,0≤k):intL.all l[i].kids=natsV (kidsAt l i):=by
 rw[intL_all]
 simp only[natsV,kidsAt,List.getElem?_eq_getElem hi,Option.map_some,Option.getD_some,List.map_map]
 refine List.map_congr_left fun k hk=> ?_
 have:=h k hk
 simp only[Function.comp_apply]
 rw[show((k.toNat:Nat):Int)=k by omega]
theorem ndBlk {w:World} {S:Nat→Prop} {b o:Nat} {l:List Ln} (h:ndL.row w S (some ⟨b,o,none⟩) l) (hl:0<l.length):b<w.heap.size:=by
 obtain⟨b',o',e,_,hb,_⟩:=ndRow h 0 hl
 cases e;exact hb
def sliceLen:Value→Nat|.slice _ n _=>n|_=>0
def BehindPost (l:List Nat) (w:World) (e:Ending) (w':World):Prop:=∃g c,e=.returned (.slice (some ⟨g,0,none⟩) l.length c)∧w'.ownsRow w.heap.size 3 1 (.slice (some ⟨g,0,none⟩) l.length c) l.length (natsV l)∧Below w.heap.size w w'
set_option maxRecDepth 100000 in
set_option maxHeartbeats 3200000 in
theorem behind_any (A : Option Addr) (c : Nat) (ls : List Ln) (root : Int) (node : Nat) (S : Nat → Prop) (w : World) (hT : ndL.row w S A ls) (hl : ls.length ≤ 4294967296) (hr : rightP ⟨ls.map Ln.nd, root⟩) (hn : node < ls.length) :
    Calls Tryz.prog 78 #[.agg #[.slice A ls.length c, .int .i64 root], .int .i64 node] w (BehindPost (postN (ls.map Ln.nd) node) w) := by
  obtain ⟨i0, hi, hz0, hz1, hz2⟩ := info_parts infoInt
  have HT := Lib.hid hT; clear hT
  have HR := Lib.hid hr; clear hr
  have HPL := Lib.hid (show (postN (ls.map Ln.nd) node).length ≤ ls.length by have := post_length HR.out node (by simpa using hn); simpa using this)
  have HAH := Lib.hid (rightP_ahead HR.out)
  go_enter Tryz.func78, Tryz.ntmps78
  go_wp2_with fail
  go_loopw [5, 6] (fun v5 v6 wr => ∃ (o seen : List Nat) (V5 V6 : Option Addr) (c5 c6 m n : Nat), v5 = .slice V5 n c5 ∧ v6 = .slice V6 m c6 ∧ Hid (m = o.length) ∧ Hid (n = seen.length) ∧ Hid (wr.ownsRow (w.heap.size + 1) 3 1 (.slice V5 n c5) n (natsV seen)) ∧ Hid (wr.ownsRow (w.heap.size + 1) 3 1 (.slice V6 m c6) m (natsV o)) ∧ Hid (ApartB V5 V6) ∧ Hid (o.flatMap (postN (ls.map Ln.nd)) ++ seen.reverse = postN (ls.map Ln.nd) node) ∧ Hid (wr.heap[w.heap.size]? = some (.cells #[.slice A ls.length c, .int .i64 root] 40 (0, 0))) ∧ Hid (Below w.heap.size w wr))
    (fun v5 _ _ => ls.length - sliceLen v5)
  case atStart => exact ⟨[node], [], none, some ⟨w.heap.size + 1, 0, none⟩, 0, 1, 1, 0, rfl, rfl, Lib.hid rfl, Lib.hid rfl, Lib.hid (World.ownsRow_nil _ _ _ _), Lib.hid ⟨rfl, .inr ⟨w.heap.size + 1, 1, _, rfl, Nat.le_refl _, by have h := bx_new (w.alloc (.cells #[.slice A ls.length c, .int .i64 root] 40)) (.cells #[.int .i64 node] 3); simpa using h, by simp, by unfold maxLen; omega, rfl, rfl⟩⟩, Lib.hid (ApartB.none _), Lib.hid (by simp), Lib.hid (bx_old (bx_new w _)), Lib.hid (bx2 w _ _)⟩
  case round =>
    obtain ⟨o, seen, V5, V6, c5, c6, m, n, rfl, rfl, HM, HNN, HO5, HO6, HAP, HE, HK, HB⟩ := hrel
    have HWB := Lib.hid (walk_bound HE.out)
    rcases List.eq_nil_or_concat o with rfl | ⟨o', i, ho⟩
    · as_aux_lemma =>
        have HEE := Lib.hid (walk_end HE.out)
        obtain rfl : m = 0 := HM.out
        have hsl : 0 < n := by have := postN_ne (ls.map Ln.nd) node; have := HNN.out; rw [← HEE.out, List.length_reverse] at *; omega
        obtain ⟨g, hg, hg1, hg2⟩ := own_some HO5.out hsl
        subst hg
        have HRV := Lib.hid (reverse_own g c5 (w.heap.size + 1) (seen.map fun k : Nat => (k : Int)) wr 3 (by rw [List.length_map, ← natsV_ints, ← HNN.out]; exact HO5.out))
        simp only [List.length_map, ← HNN.out] at HRV
        go_wp2_with (go_at_call 104; refine (HRV.out).mono ?_; rintro e w2 ⟨rfl, hown2, hgrow2⟩; have HO7 := Lib.hid hown2; have HG7 := Lib.hid hgrow2; clear hown2 hgrow2)
        go_ret
        unfold BehindPost
        rw [← HEE.out, List.length_reverse, ← HNN.out]
        refine ⟨g, c5, rfl, ?_, ?_⟩
        · have := HO7.out
          rw [← List.map_reverse, ← natsV_ints] at this
          exact own_mono this (by omega)
        · exact HB.out.trans ((below_grownA HO5.out HG7.out (Nat.le_refl _) (by omega)).mono (by omega))
    · rw [List.concat_eq_append] at ho; subst ho
      have hil : i < ls.length := by have := (walk_mem HAH.out HE.out).1 i (by simp); omega
      obtain ⟨m', rfl⟩ : ∃ m', m = m' + 1 := ⟨o'.length, by rw [HM.out]; simp⟩
      have HM' := Lib.hid (show m' = o'.length by have := HM.out; simp at this; exact this)
      obtain ⟨g, hg, hg1, hg2⟩ := own_some HO6.out (by omega)
      subst hg
      have c0 := own_cell HO6.out m' (by omega) (u := .int .i64 (i : Int)) (by rw [HM'.out]; simp [natsV])
      obtain ⟨q1, q2, _, _⟩ := blk2 HK.out
      have hmb : m' + 1 + n ≤ ls.length := by have h1 := HWB.out; have h2 := HPL.out; have h3 := HM.out; have h4 := HNN.out; omega
      have HT' := Lib.hid (HT.out.agree (below_all HB.out))
      have HKR := Lib.hid (ndSub HT'.out i hil)
      have hkn : (kidsAt (ls.map Ln.nd) i).length = ls[i].nd.kids.length := by simp [kidsAt, List.getElem?_eq_getElem hil]
      have HKV := Lib.hid (show intL.all ls[i].nd.kids = natsV (kidsAt (ls.map Ln.nd) i) by
        have := kids_nats (ls.map Ln.nd) i (by simpa using hil) (fun k hk => (rightP_kid HR.out (i := i) (n := (ls.map Ln.nd)[i]'(by simpa using hil)) (List.getElem?_eq_getElem _) hk).1)
        simpa using this)
      have HE2 := Lib.hid (walk_step HAH.out HE.out)
      have hmk : m' + ls[i].nd.kids.length + (n + 1) ≤ ls.length := by
        have h1 := walk_bound HE2.out; have h2 := HPL.out; have h3 := HM'.out; have h4 := HNN.out
        simp only [List.length_append, hkn, List.length_singleton] at h1; omega
      have HKN := Lib.hid hkn; clear hkn
      obtain ⟨b, o, hA, _, _, x0, x1, x2, x3, x4, x5, x6, x7, x8⟩ := ndRow HT'.out i hil
      have hbl : b < w.heap.size := ndBlk (hA ▸ HT.out) (by omega)
      subst hA
      clear x0 x1 x2 x3 x4 x5 x6 x7
      have i1 : (i : Int) < (ls.length : Int) := by omega
      have i2 : (0 : Int) ≤ (i : Int) := by omega
      go_wp2_with fail
      clear c0
      have HSB := Lib.hid (show ∀ w', Below (w.heap.size + 1) wr w' → w'.cell? ⟨w.heap.size, 0, none⟩ = some (.slice (some ⟨b, o, none⟩) ls.length c) ∧ w'.cell? ⟨b, o + i * 9 + 8, none⟩ = some (.slice ls[i].A ls[i].nd.kids.length ls[i].c) from
        fun w' hb => ⟨(hb.cell (by show w.heap.size < _; omega)).trans q1, (hb.cell (by show b < _; omega)).trans x8⟩)
      clear q1 q2 x8
      have HCUT := Lib.hid (show wr.drew.ownsRow (w.heap.size + 1) 3 1 (.slice (some ⟨g, 0, none⟩) m' c6) m' (natsV o') by
        have := own_cut HO6.out (m := m') (by omega)
        rw [natsV_append, Nat.mul_one, List.take_left' (by rw [natsV_length]; exact HM'.out.symm)] at this
        exact this)
      have hcap := own_cap HO6.out
      have e3 : (m' : Int) ≤ (c6 : Int) := by omega
      have e4 : (0 : Int) ≤ (m' : Int) := by omega
      have f1 : m' + ls[i].nd.kids.length ≤ maxLen := by unfold maxLen; omega
      have f2 : (m' + ls[i].nd.kids.length) * 8 ≤ 140737488355328 := by omega
      have f3 : w.heap.size + 1 ≤ wr.drew.heap.size := by show _ ≤ wr.heap.size; omega
      have F := Lib.hid (And.intro f1 (And.intro f2 f3)); clear f1 f2 f3
      have e1 : IntKind.i64.wrap ((m' : Int) + 1 - 1) = (m' : Int) := by rw [IntWalk.i64_in _ (by omega)]; omega
      have e5 : IntKind.i64.wrap (m' : Int) = (m' : Int) := IntWalk.i64_in _ (by omega)
      go_region_held3 (fun w' => w'.cell? ⟨w.heap.size, 0, none⟩ = some (.slice (some ⟨b, o, none⟩) ls.length c) ∧ w'.cell? ⟨b, o + i * 9 + 8, none⟩ = some (.slice ls[i].A ls[i].nd.kids.length ls[i].c))
        (first | exact HSB.out _ (Below.refl _ _).drew | exact HSB.out _ HB2.out)
        ((refine step_append_at (by rfl) (.tmp 23) (.tmp 29) 52 (by rfl) (w.heap.size + 1) 3 i0 (.int .i64 0) 1 8 Tryz.underlying52 hi hz0 hz1 hz2 rfl (by decide) (some ⟨g, 0, none⟩) c6 m' (natsV o') (by rfl) HCUT.out ls[i].A ls[i].nd.kids.length ls[i].c (intL.all ls[i].nd.kids) (by rfl) (by rw [intL.all_length]; rfl) HKR.out.rowAt (intL.all_one' _) F.out.1 F.out.2.1 F.out.2.2 ?_
          intro V' vc' w2 HO2 HG2 HA2
          have HB2 := Lib.hid (show Below (w.heap.size + 1) wr w2 from (Below.refl _ wr).drew.trans (below_grownA HCUT.out HG2.out (Nat.le_refl _) F.out.2.2))))
      clear e1 e3 e4 e5
      have HO5b := Lib.hid (show (w2.alloc (.cells #[.int .i64 (i : Int)] 3)).ownsRow (w.heap.size + 1) 3 1 (.slice V5 n c5) n (natsV seen) from World.ownsRow.alloc (kept_apart (w := wr.drew) (show wr.drew.ownsRow _ _ _ _ _ _ from HO5.out) HG2.out HAP.out.symm) _)
      have HBS := Lib.hid HB2.out.size
      have F2 := Lib.hid (show n + 1 ≤ maxLen ∧ (n + 1) * 8 ≤ 140737488355328 ∧ w.heap.size + 1 ≤ (w2.alloc (.cells #[.int .i64 (i : Int)] 3)).heap.size from ⟨by unfold maxLen; omega, by omega, by have := HBS.out; simp; omega⟩)
      go_wp2_with (at_builtin; refine wpList_append_at _ rfl (.tmp 31) (.tmp 33) 52 rfl (w.heap.size + 1) 3 i0 (.int .i64 0) 1 8 Tryz.underlying52 hi hz0 hz1 hz2 rfl (by decide) V5 c5 n (natsV seen) rfl HO5b.out (some ⟨w2.heap.size, 0, none⟩) 1 1 (natsV [i]) rfl (by simp [natsV]) (row_blk (bx_new w2 _)) (natsV_one _) F2.out.1 F2.out.2.1 F2.out.2.2 ?_; intro V'' vc'' w3 HO3 HG3 HA3)
      have HA : Hid (ApartB V' V5) := Lib.hid (HAP.out.symm.grown (n := wr.drew.heap.size) (fun k hk => (own_blk HO5.out k hk).2) HA2.out)
      have HB3 := Lib.hid (show Below (w.heap.size + 1) wr w3 from (HB2.out.alloc (by have := HBS.out; omega) _).trans (below_grownA HO5b.out HG3.out (Nat.le_refl _) F2.out.2.2))
      refine ⟨⟨o' ++ kidsAt (ls.map Ln.nd) i, seen ++ [i], V'', V', vc'', vc', _, _, rfl, rfl, Lib.hid (by rw [List.length_append, HKN.out, HM'.out]), Lib.hid (by rw [List.length_append, HNN.out]; rfl), Lib.hid (by rw [natsV_append]; exact HO3.out), Lib.hid ?_, Lib.hid ?_, Lib.hid HE2.out, Lib.hid ((HB3.out.block _ (by omega)).trans HK.out), Lib.hid (HB.out.trans (HB3.out.mono (by omega)))⟩, by simp only [sliceLen]; omega⟩
      · rw [natsV_append, ← HKV.out]
        exact kept_apart (World.ownsRow.alloc HO2.out _) HG3.out HA.out.symm
      · exact HA.out.symm.grown (n := (w2.alloc (.cells #[.int .i64 (i : Int)] 3)).heap.size) (fun k hk => by have := (own_blk HO2.out k hk).2; simp; omega) HA3.out
end Go.Proofs.YtpfokabdpmjobaaGreatDoor
/- What a call owns of trees:rows of its own;and plain laws of the row of what stands behind a node. -/
namespace Go.Proofs.YtpfokabdpmjobaaGreatDoor
open Go.RowKit
set_option linter.unusedSimpArgs false
set_option linter.unusedVariables false
theorem flat_split {α β:Type} (f:α→List β):∀(L:List α) (pre:List β) (p:β) (suf:List β),L.flatMap f=pre++p::suf→ ∃L1 a L2 pre' suf',L=L1++a::L2∧f a=pre'++p::suf'∧pre=L1.flatMap f++pre'
 |[],pre,p,suf,h=>by simp at h
 |x::L,pre,p,suf,h=>by
  rw[List.flatMap_cons,List.append_eq_append_iff]at h
  rcases h with⟨a',h1,h2⟩|⟨c',h1,h2⟩
  ·obtain⟨L1,a,L2,pre',suf',e1,e2,e3⟩:=flat_split f L a' p suf h2
   exact⟨x::L1,a,L2,pre',suf',by rw[e1];rfl,e2,by rw[h1,e3,List.flatMap_cons,List.append_assoc]⟩
  ·cases c' with
   |nil=>
    simp only[List.nil_append]at h2
    obtain⟨L1,a,L2,pre',suf',e1,e2,e3⟩:=flat_split f L [] p suf (by simpa using h2.symm)
    refine⟨x::L1,a,L2,pre',suf',by rw[e1];rfl,e2,?_⟩
    rw[List.flatMap_cons,List.append_assoc,←e3,List.append_nil]
    simpa using h1.symm
   |cons c c'=>
    simp only[List.cons_append,List.cons.injEq]at h2
    exact⟨[],x,L,pre,c',rfl,by rw[h1,h2.1],by simp⟩
theorem kid_ahead {l:List Nd} (h:Ahead l):∀(i:Nat) (pre:List Nat) (p:Nat) (suf:List Nat),postN l i=pre++p::suf→ ∀z∈kidsAt l p,z∈pre:=by
 intro i
 induction i using Nat.strongRecOn with
 |_ i ih=>
  intro pre p suf e z hz
  rw[postN_eq h]at e
  rcases List.eq_nil_or_concat suf with rfl|⟨s',b,hs⟩
  ·have:=List.append_inj' e rfl
   obtain⟨e1,e2⟩:=this
   cases e2
   rw[←e1]
   exact List.mem_flatMap.2 ⟨z,hz,by rw[postN_eq h];simp⟩
  ·rw[List.concat_eq_append]at hs
   subst hs
   rw[show pre++p::(s'++[b])=(pre++p::s')++[b]by simp]at e
   obtain⟨e1,_⟩:=List.append_inj' e rfl
   obtain⟨L1,a,L2,pre',suf',e2,e3,e4⟩:=flat_split _ _ _ _ _ e1
   have ha:a∈kidsAt l i:=by rw[e2];simp
   have:=ih a (h i a ha) pre' p suf' e3 z hz
   rw[e4,List.mem_append]
   exact .inr this
theorem kid_before {l:List Nd} (h:Ahead l) {i k:Nat} (hk:k<(postN l i).length) {z:Nat} (hz:z∈kidsAt l (postN l i)[k]):∃j,j<k∧(postN l i)[j]?=some z:=by
 have e:postN l i=(postN l i).take k++(postN l i)[k]::(postN l i).drop (k+1):=by rw[←List.drop_eq_getElem_cons hk,List.take_append_drop]
 have hm:=kid_ahead h i _ _ _ e z hz
 obtain⟨j,hj,ej⟩:=List.mem_iff_getElem.1 hm
 rw[List.length_take]at hj
 refine⟨j,by omega,?_⟩
 rw[List.getElem_take]at ej
 rw[List.getElem?_eq_getElem (by omega),ej]
theorem idx_of {L:List Nat} (h:L.Nodup) {j z:Nat} (hj:L[j]?=some z):L.idxOf z=j:=by
 obtain⟨hl,e⟩:=List.getElem?_eq_some_iff.1 hj
 rw[←e]
 exact h.idxOf_getElem j hl
def OwnS (w:World) (S:Nat→Prop) (e:TypeId) (size:Nat) (V:Option Addr) (n c:Nat) (xs:List Value):Prop:=w.ownsRow 0 e size (.slice V n c) n xs∧ ∀k,blkOf V=some k→S k
theorem OwnS.agree {w w':World} {S:Nat→Prop} {e:TypeId} {size n c:Nat} {V:Option Addr} {xs:List Value} (h:OwnS w S e size V n c xs) (hg:Agree S w w'):OwnS w' S e size V n c xs:=
 ⟨own_agree h.1 fun k hk=>hg k (h.2 k hk) (own_blk h.1 k hk).2,h.2⟩
theorem OwnS.mono {w:World} {S T:Nat→Prop} {e:TypeId} {size n c:Nat} {V:Option Addr} {xs:List Value} (h:OwnS w S e size V n c xs) (hS:∀k,k<w.heap.size→S k→T k):OwnS w T e size V n c xs:=
 ⟨h.1,fun k hk=>hS k (own_blk h.1 k hk).2 (h.2 k hk)⟩
theorem own_ownS {w:World} {B:Nat} {e:TypeId} {size n c:Nat} {V:Option Addr} {xs:List Value} (h:w.ownsRow B e size (.slice V n c) n xs):OwnS w (B ≤ ·) e size V n c xs:=⟨own_mono h (Nat.zero_le _),fun k hk=>(own_blk h k hk).1⟩
theorem OwnS.own {w:World} {B:Nat} {e:TypeId} {size n c:Nat} {V:Option Addr} {xs:List Value} (h:OwnS w (B ≤ ·) e size V n c xs):w.ownsRow B e size (.slice V n c) n xs:=by
 refine⟨h.1.1,?_⟩
 rcases h.1.2 with h1|⟨g,cap,cur,hv,hb,r⟩
 ·exact .inl h1
 ·cases hv
  exact .inr ⟨g,_,cur,rfl,h.2 g rfl,r⟩
theorem OwnS.row {w:World} {S:Nat→Prop} {e:TypeId} {size n c:Nat} {V:Option Addr} {xs:List Value} (h:OwnS w S e size V n c xs):RowIn w S V xs:=
 own_rowIn h.1 fun ad e=>h.2 ad.block (by subst e;rfl)
theorem OwnS.nil (w:World) (S:Nat→Prop) (e:TypeId) (size:Nat):OwnS w S e size none 0 0 []:=⟨World.ownsRow_nil _ _ _ _,fun k hk=>by cases hk⟩
def NdOwn (w:World) (S:Nat→Prop) (l:Ln):Prop:=l.nd.wf∧OwnS w S 3 1 l.A l.nd.kids.length l.c (intL.all l.nd.kids)
theorem NdOwn.agree {w w':World} {S:Nat→Prop} {l:Ln} (h:NdOwn w S l) (hg:Agree S w w'):NdOwn w' S l:=⟨h.1,h.2.agree hg⟩
theorem NdOwn.mono {w:World} {S T:Nat→Prop} {l:Ln} (h:NdOwn w S l) (hS:∀k,k<w.heap.size→S k→T k):NdOwn w T l:=⟨h.1,h.2.mono hS⟩
theorem NdOwn.inn {w:World} {S:Nat→Prop} {l:Ln} (h:NdOwn w S l):ndL.inn w S l:=⟨h.1,h.2.row,fun x _=>trivial⟩
structure TreeOwn (w:World) (S:Nat→Prop) (t:Lt):Prop where
 len:t.ls.length≤281474976710656
 row:OwnS w S 54 9 t.A t.ls.length t.c (ndL.all t.ls)
 kids:∀l∈t.ls,NdOwn w S l
theorem TreeOwn.agree {w w':World} {S:Nat→Prop} {t:Lt} (h:TreeOwn w S t) (hg:Agree S w w'):TreeOwn w' S t:=⟨h.len,h.row.agree hg,fun l hl=>(h.kids l hl).agree hg⟩
theorem TreeOwn.mono {w:World} {S T:Nat→Prop} {t:Lt} (h:TreeOwn w S t) (hS:∀k,k<w.heap.size→S k→T k):TreeOwn w T t:=⟨h.len,h.row.mono hS,fun l hl=>(h.kids l hl).mono hS⟩
theorem TreeOwn.below {w w':World} {S:Nat→Prop} {t:Lt} (h:TreeOwn w S t) (hb:Below w.heap.size w w'):TreeOwn w' S t:=h.agree (below_all hb)
theorem TreeOwn.inn {w:World} {S:Nat→Prop} {t:Lt} (h:TreeOwn w S t):t.inn w S:=⟨h.len,h.row.row,fun l hl=>(h.kids l hl).inn⟩
set_option maxRecDepth 100000 in
set_option maxHeartbeats 800000 in
theorem build9 (w:World) (v0 v1 v2 v3 v4 v5 v6 v7 v8:Value):(Instr.buildSlice 38 1 #[(0,.agg #[v0,v1,v2,v3,v4,v5,v6,v7,v8])]).run Tryz.prog w=.ok (.slice (some ⟨w.heap.size,0,none⟩) 1 1) (w.alloc (.cells #[v0,v1,v2,v3,v4,v5,v6,v7,v8] 54)):=by
 go_simp
set_option maxRecDepth 100000 in
set_option maxHeartbeats 800000 in
theorem load9 (w:World) (b:Nat) (v0 v1 v2 v3 v4 v5 v6 v7 v8:Value) (T:TypeId) (h:w.heap[b]?=some (.cells #[v0,v1,v2,v3,v4,v5,v6,v7,v8] T (0,0))):(Instr.loadAt 54 (.pointer (some ⟨b,0,none⟩))).run Tryz.prog w=.ok (.agg #[v0,v1,v2,v3,v4,v5,v6,v7,v8]) w:=by
 obtain⟨h0,h1,h2,h3,h4,h5,h6,h7,h8,_⟩:=blk9 h
 go_simp
def TreePost (t:Tr) (w:World) (e:Ending) (w':World):Prop:=∃v:Lt,e=.returned v.val∧v.tr=t∧TreeOwn w' (w.heap.size ≤ ·) v∧Below w.heap.size w w'
end Go.Proofs.YtpfokabdpmjobaaGreatDoor
namespace Go.Proofs.YtpfokabdpmjobaaGreatDoor
set_option linter.unusedSimpArgs false
set_option linter.unusedVariables false
def shiftN (off:Nat) (n:Nd):Nd:={n with kids:=n.kids.map (· + (off:Int))}
def catN:Nat→List (List Nd)→List Nd
 |_,[]=>[]
 |off,t::ts=>t.map (shiftN off)++catN (off+t.length) ts
def endsN:Nat→List (List Nd)→List Int
 |_,[]=>[]
 |off,t::ts=>(((off+t.length:Nat):Int)-1)::endsN (off+t.length) ts
def bareN (n:Nd):Nd:={n with kids:=[]}
theorem taken_length (l:List Nd) (i:Nat):(takenL l i).length=(postN l i).length:=by simp[takenL]
theorem idx_mid {pre q suf:List Nat} {z:Nat} (h:z∉pre) (hz:z∈q):(pre++q++suf).idxOf z=pre.length+q.idxOf z:=by
 rw[List.append_assoc,List.idxOf_append,if_neg h,List.idxOf_append,if_pos hz];omega
theorem post_last {l:List Nd} (h:Ahead l) {k:Nat} (hn:(postN l k).Nodup):(postN l k).idxOf k+1=(postN l k).length:=by
 rw[postN_eq h]at hn ⊢
 have hk:k∉(kidsAt l k).flatMap (postN l):=fun hk=>by
  rw[List.nodup_append]at hn
  exact hn.2.2 k hk k (by simp) rfl
 rw[List.idxOf_append,if_neg hk]
 simp
theorem post_kid {l:List Nd} (h:Ahead l) {k p z:Nat} (hp:p∈postN l k) (hz:z∈kidsAt l p):z∈postN l k:=by
 obtain⟨a,b,e⟩:=List.append_of_mem hp
 have:=kid_ahead h k a p b e z hz
 rw[e];exact List.mem_append_left _ this
theorem kidsAt_nd (l:List Nd) (p:Nat):kidsAt l p=(ndAt l p).kids.map Int.toNat:=by
 unfold kidsAt ndAt
 cases l[p]? <;> simp
theorem split_kids {l:List Nd} (h:Ahead l) (P:List Nat) (hP:P.Nodup):∀(ks pre suf:List Nat),P=pre++ks.flatMap (postN l)++suf →
  (ks.flatMap (postN l)).map (fun p=>placed P (ndAt l p))=catN pre.length (ks.map (takenL l))∧(ks.map fun k=>(P.idxOf k:Int))=endsN pre.length (ks.map (takenL l))
 |[],pre,suf,_=>⟨rfl,rfl⟩
 |k::ks,pre,suf,e=>by
  simp only[List.flatMap_cons]at e
  have e1:P=pre++postN l k++(ks.flatMap (postN l)++suf):=by rw[e];simp
  have e2:P=(pre++postN l k)++ks.flatMap (postN l)++suf:=by rw[e];simp
  obtain⟨h1,h2⟩:=split_kids h P hP ks (pre++postN l k) suf e2
  have hnd:(pre++postN l k).Nodup:=by
   rw[e1,List.nodup_append]at hP;exact hP.1
  have hnk:(postN l k).Nodup:=(List.nodup_append.1 hnd).2.1
  have hpre:∀z∈postN l k,z∉pre:=fun z hz hz'=>(List.nodup_append.1 hnd).2.2 z hz' z hz rfl
  have hidx:∀z∈postN l k,P.idxOf z=pre.length+(postN l k).idxOf z:=fun z hz=>by
   rw[e1];exact idx_mid (hpre z hz) hz
  rw[List.length_append]at h1 h2
  constructor
  ·simp only[List.flatMap_cons,List.map_append,List.map_cons,catN,taken_length,h1]
   congr 1
   rw[takenL,List.map_map]
   refine List.map_congr_left fun p hp=> ?_
   simp only[Function.comp_apply,placed,shiftN,List.map_map]
   congr 1
   refine List.map_congr_left fun z hz=> ?_
   have hz':z.toNat∈kidsAt l p:=by rw[kidsAt_nd];exact List.mem_map_of_mem hz
   have:=hidx z.toNat (post_kid h hp hz')
   simp only[Function.comp_apply,this];omega
  ·simp only[List.map_cons,endsN,taken_length,h2]
   congr 1
   have hk:k∈postN l k:=by rw[postN_eq h];simp
   have h3:=hidx k hk
   have h4:=post_last h hnk
   omega
theorem taken_split {l:List Nd} (h:Ahead l) {i:Nat} (hn:(postN l i).Nodup):
  takenL l i=catN 0 ((kidsAt l i).map (takenL l))++[{ndAt l i with kids:=endsN 0 ((kidsAt l i).map (takenL l))}]:=by
 have e:=postN_eq h i
 obtain⟨h1,h2⟩:=split_kids h (postN l i) hn (kidsAt l i) [] [i] (by simpa using e)
 simp only[List.length_nil]at h1 h2
 have h3:(ndAt l i).kids.map (fun k=>((postN l i).idxOf k.toNat:Int))=endsN 0 ((kidsAt l i).map (takenL l)):=by
  rw[←h2,kidsAt_nd,List.map_map];rfl
 refine(congrArg (List.map fun p=>placed (postN l i) (ndAt l p)) e).trans ?_
 rw[List.map_append,h1,←h3]
 rfl
def shutN (l:List Nd) (n:Nd):Bool:=
 if n.kind=4∨n.kind=5 then n.kids.all fun k=>decide ((ndAt l k.toNat).kind≠n.kind∧ ¬((ndAt l k.toNat).kind=0∧n.kind=4))else true
def normT (t:Tr):Bool:=rightT t&&t.nodes.all (shutN t.nodes)
end Go.Proofs.YtpfokabdpmjobaaGreatDoor
