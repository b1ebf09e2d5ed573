/- The contract of the arena's taken, first half: what is open, what has been seen. -/
import Derived.Test.YtpfokabdpmjobaaGreatDoorAi
namespace Go.Proofs.YtpfokabdpmjobaaGreatDoor
open Go.RowKit
set_option linter.unusedSimpArgs false
set_option linter.unusedVariables false
theorem all_setK (l:List Ln) (k:Nat) (hk:k<l.length) (A:Option Addr) (c:Nat) (ks:List Int):(ndL.all l).set (k*9+8) (.slice A ks.length c)=ndL.all (l.set k ⟨{l[k].nd with kids:=ks},A,c⟩):=by
 have hlen:∀m:List Ln,(ndL.all m).length=m.length*9:=fun m=>ndL.all_length m
 apply List.ext_getElem?
 intro i
 by_cases hi:i<l.length*9
 ·have hq:i/9<l.length:=by omega
  have h1:=ndL.all_at (l.set k ⟨{l[k].nd with kids:=ks},A,c⟩) (i/9) (i%9) (by simpa using hq) (show i%9<9 by omega)
  have h2:=ndL.all_at l (i/9) (i%9) hq (show i%9<9 by omega)
  rw[show i/9*ndL.size+i%9=i by show i/9*9+i%9=i;omega]at h1 h2
  rw[h1,List.getElem?_set]
  by_cases e:k*9+8=i
  ·have e1:i/9=k:=by omega
   have e2:i%9=8:=by omega
   rw[if_pos e,if_pos (by rw[hlen];omega)]
   simp only[e1,e2,List.getElem_set_self]
   rfl
  ·rw[if_neg e,h2]
   by_cases e1:i/9=k
   ·subst e1
    have h8:i%9≠8:=by omega
    have h9:i%9<9:=by omega
    simp only[List.getElem_set_self]
    have:∀j,j<8→(ndL.cells l[i/9])[j]?=(ndL.cells ⟨{l[i/9].nd with kids:=ks},A,c⟩)[j]? :=fun j hj=>by
     have h:j=0∨j=1∨j=2∨j=3∨j=4∨j=5∨j=6∨j=7:=by omega
     rcases h with rfl|rfl|rfl|rfl|rfl|rfl|rfl|rfl <;> rfl
    exact this _ (by omega)
   ·rw[List.getElem_set_ne (by omega)]
 ·rw[List.getElem?_eq_none (by rw[List.length_set,hlen];omega),List.getElem?_eq_none (by rw[hlen,List.length_set];omega)]
structure TakeW (w:World) (b H:Nat) (al:List Nd) (root:Nat) (o seen:List Nat) (V5 V6:Option Addr) (c5 c6:Nat) (ls:List Ln) (wr:World):Prop where
 got:wr.ownsRow (H+1) 3 1 (.slice V5 seen.length c5) seen.length (natsV seen)
 stk:wr.ownsRow (H+1) 3 1 (.slice V6 o.length c6) o.length (natsV o)
 apart:ApartB V5 V6
 eq:o.flatMap (postN (starL al))++seen.reverse=postN (starL al) root
 arena:ArenaS wr b (fun x=>b<x∧blkOf V5≠some x∧blkOf V6≠some x) ls
 mixed:Mixed al (ls.map Ln.nd)
 done:∀p∈seen,ndAt (ls.map Ln.nd) p=starN al p
 res:wr.heap[H]?=some (.cells #[.slice none 0 0,.int .i64 0] 40 (0,0))
 below:Below b w wr
 size:H+1≤wr.heap.size
def TakeRel (w:World) (b H:Nat) (al:List Nd) (root:Nat) (v5 v6:Value) (wr:World):Prop:=
 ∃(o seen:List Nat) (V5 V6:Option Addr) (c5 c6 m n:Nat) (ls:List Ln),v5=.slice V5 n c5∧v6=.slice V6 m c6∧m=o.length∧n=seen.length∧Hid (TakeW w b H al root o seen V5 V6 c5 c6 ls wr)
theorem mixed_aheadZ {l m:List Nd} (h:Mixed l m) (hZ:AheadZ l):AheadZ m:=fun i n hn k hk=>by
 have hi:i<m.length:=(List.getElem?_eq_some_iff.1 hn).1
 have hil:i<l.length:=by rw[←h.1];exact hi
 have e:ndAt m i=n:=by unfold ndAt;rw[hn];rfl
 rcases h.2 i hil with e2|e2
 ·refine hZ i (ndAt l i) (by unfold ndAt;rw[List.getElem?_eq_getElem hil];rfl) k ?_
  rw[←e2,e];exact hk
 ·rw[e]at e2;subst e2
  obtain⟨j,hj,rfl⟩:=List.mem_map.1 hk
  have:=partsA_lt hZ.ahead hj
  omega
theorem mixed_post {l m:List Nd} (h:Mixed l m) (hA:Ahead l):∀i,(postN m i).Sublist (postN l i)∧ ∀kind,(kind=4∨kind=5)→((openA l kind i).flatMap (postN m)).Sublist (postN l i):=by
 have hM:=h.ahead hA
 intro i
 induction i using Nat.strongRecOn with
 |_ i ih=>
  have h1:(postN m i).Sublist (postN l i):=by
   rw[postN_eq hM,postN_eq hA]
   refine List.Sublist.append ?_ (List.Sublist.refl _)
   rcases h.kids i with e|e
   ·rw[e];exact flat_sub fun k hk=>(ih k (hA i k hk)).1
   ·rw[e]
    unfold partsA
    by_cases hk:(ndAt l i).kind=4∨(ndAt l i).kind=5
    ·rw[if_pos hk,List.flatMap_assoc]
     exact flat_sub fun k hki=>(ih k (hA i k hki)).2 _ hk
    ·rw[if_neg hk];exact flat_sub fun k hki=>(ih k (hA i k hki)).1
  refine⟨h1,fun kind hk=> ?_⟩
  rw[openA_eq hA]
  split
  ·rw[List.flatMap_assoc]
   refine(flat_sub fun k hki=>(ih k (hA i k hki)).2 kind hk).trans ?_
   rw[postN_eq hA];exact List.sublist_append_left _ _
  ·simpa using h1
theorem post_mem_nodup {l:List Nd} (hA:Ahead l):∀i j,j∈postN l i→(postN l i).Nodup→(postN l j).Nodup:=by
 intro i
 induction i using Nat.strongRecOn with
 |_ i ih=>
  intro j hj hn
  have hj2:=hj
  rw[postN_eq hA]at hj2
  rcases List.mem_append.1 hj2 with h|h
  ·obtain⟨k,hk,hjk⟩:=List.mem_flatMap.1 h
   exact ih k (hA i k hk) j hjk (post_sub hA hk hn)
  ·simp at h;subst h;exact hn
theorem ArenaS.grown {w w':World} {b base n c:Nat} {S S':Nat→Prop} {ls:List Ln} {V:Option Addr} {xs:List Value} (h:ArenaS w b S ls) (hV:w.ownsRow base 3 1 (.slice V n c) n xs) (hg:∀x,x<w.heap.size→blkOf V≠some x→w'.heap[x]?=w.heap[x]?)
  (hS:∀x,x<w.heap.size→S x→S' x∧blkOf V≠some x):ArenaS w' b S' ls:=by
 obtain⟨U,uc,h1,h2,h3⟩:=h
 refine⟨U,uc,(hg b (heap_lt' h1) fun e=> ?_).trans h1,own_agree h2 fun k hk=>hg k (own_blk h2 k hk).2 fun e=> ?_,fun l hl=> ?_⟩
 ·obtain⟨cur,hc⟩:=own_cells hV e
  rw[h1]at hc
  simp only[Option.some.injEq,Obj.cells.injEq]at hc
  exact absurd hc.2.1 (by decide)
 ·obtain⟨cur,hc⟩:=own_cells hV e
  obtain⟨cur2,hc2⟩:=own_cells h2 hk
  rw[hc2]at hc
  simp only[Option.some.injEq,Obj.cells.injEq]at hc
  exact node_ne_int hc.2.1
 ·exact(((h3 l hl).mono (T:=fun x=>S x∧x<w.heap.size) fun k hk hs=>⟨hs,hk⟩).agree fun x hx hxl=>hg x hxl (hS x hxl hx.1).2).mono fun x hxl hx=>(hS x hx.2 hx.1).1
theorem rows_ne {w:World} {b1 b2 n1 n2 c1 c2 k:Nat} {U V:Option Addr} {xs ys:List Value} (hU:w.ownsRow b1 3 1 (.slice U n1 c1) n1 xs) (hV:w.ownsRow b2 54 9 (.slice V n2 c2) n2 ys) (h1:blkOf U=some k) (h2:blkOf V=some k):False:=by
 obtain⟨cur,hc⟩:=own_cells hU h1
 obtain⟨cur2,hc2⟩:=own_cells hV h2
 rw[hc2]at hc
 simp only[Option.some.injEq,Obj.cells.injEq]at hc
 exact node_ne_int hc.2.1
def MakeRel (w2:World) (Z1:Nat) (P:List Nat) (ls:List Ln) (i v9:Value) (wr:World):Prop:=
 ∃(k:Nat) (ls':List Ln) (pl:List Value) (V:Option Addr) (vc:Nat),k≤P.length∧i=.int .i64 (k:Int)∧v9=.slice V k vc∧Hid (wr.ownsRow Z1 3 1 (.slice (some ⟨Z1,0,none⟩) ls.length ls.length) ls.length pl)∧Hid (∀j p,j<k→P[j]?=some p→pl[p]?=some (.int .i64 (j:Int))) ∧
  Hid (wr.ownsRow (Z1+1) 54 9 (.slice V k vc) k (ndL.all ls'))∧Hid (ls'.map Ln.nd=(P.take k).map (fun p=>placed P (ndAt (ls.map Ln.nd) p)))∧Hid (∀l∈ls',NdOwn wr (fun x=>Z1<x∧blkOf V≠some x) l)∧Hid (Below Z1 w2 wr)∧Hid (Z1<wr.heap.size)
def ListRel (w3:World) (nb:Nat) (ks:List Value) (v13 v14:Value) (wx:World):Prop:=
 ∃(q:Nat) (U:Option Addr) (uc:Nat),q≤ks.length∧v14=.int .i64 q∧v13=.slice U q uc∧Hid (wx.ownsRow (nb+1) 3 1 (.slice U q uc) q (ks.take q))∧Hid (Below (nb+1) w3 wx)∧Hid (nb+1≤wx.heap.size)
def TakenPost (b:Nat) (t:Tr) (w:World) (e:Ending) (w':World):Prop:=∃v:Lt,e=.returned v.val∧v.tr=t∧TreeOwn w' (b < ·) v∧Below b w w'
set_option maxRecDepth 100000 in
set_option maxHeartbeats 6400000 in
theorem ataken_any (b : Nat) (ls0 : List Ln) (root : Nat) (w : World) (hA : ArenaAt w b ls0) (hZ : AheadZ (ls0.map Ln.nd)) (hl : ls0.length ≤ 16777216) (hi : root < ls0.length) (hnd : (postN (ls0.map Ln.nd) root).Nodup) :
    Calls Tryz.prog 92 #[.pointer (some ⟨b, 0, none⟩), .int .i64 (root : Int)] w (TakenPost b (takenT ⟨starL (ls0.map Ln.nd), 0⟩ root) w) := by
  obtain ⟨i0, hi0, hz0, hz1, hz2⟩ := info_parts infoInt
  obtain ⟨j0, hj0, hy0, hy1, hy2⟩ := info_parts infoNode
  have hb0 : b < w.heap.size := by obtain ⟨V, c, h, _⟩ := hA; exact heap_lt' h
  have HA := Lib.hid hA; clear hA
  have HND := Lib.hid (List.Sublist.nodup (star_post hZ.ahead root) hnd)
  have HPL := Lib.hid (show (postN (starL (ls0.map Ln.nd)) root).length ≤ ls0.length from nodup_length HND.out fun x hx => by have := postN_le (star_aheadZ hZ.ahead).ahead root x hx; omega)
  have HMEM := Lib.hid (show ∀ p ∈ postN (starL (ls0.map Ln.nd)) root, p < ls0.length ∧ (postN (ls0.map Ln.nd) p).Nodup from fun p hp => ⟨by have := postN_le (star_aheadZ hZ.ahead).ahead root p hp; omega, post_mem_nodup hZ.ahead root p ((star_post hZ.ahead root).subset hp) hnd⟩)
  go_enter Tryz.func92, Tryz.ntmps92
  go_wp2_with fail
  generalize hH : w.heap.size = H at *
  go_loopw [5, 6] (fun v5 v6 wr => TakeRel w b H (ls0.map Ln.nd) root v5 v6 wr) (fun v5 _ _ => ls0.length - sliceLen v5)
  case atStart =>
    refine ⟨[root], [], none, some ⟨H + 1, 0, none⟩, 0, 1, 1, 0, ls0, rfl, rfl, rfl, rfl, Lib.hid ⟨World.ownsRow_nil _ _ _ _, ?_, ApartB.none _, by simp, ?_, Mixed.refl _, by simp, ?_, ?_, by simp; omega⟩⟩
    · have h := bx_new (w.alloc (.cells #[.slice none 0 0, .int .i64 0] 40)) (.cells #[.int .i64 (root : Int)] 3)
      rw [World.size_alloc, hH] at h
      exact own_new (cs := natsV [root]) h rfl
    · obtain ⟨V, c, h1, h2, h3⟩ := HA.out
      refine ⟨V, c, bx_old (bx_old h1), World.ownsRow.alloc (World.ownsRow.alloc h2 _) _, fun l hl => ?_⟩
      have h4 := ((h3 l hl).mono (T := fun x => b < x ∧ x < H) fun k hk hs => ⟨hs, by omega⟩).agree (w' := (w.alloc (.cells #[.slice none 0 0, .int .i64 0] 40)).alloc (.cells #[.int .i64 (root : Int)] 3)) (below_all (bx2 w _ _))
      exact h4.mono fun x _ hx => ⟨hx.1, by simp [blkOf], fun e => by have := hx.2; simp [blkOf] at e; omega⟩
    · rw [← hH]; exact bx_old (bx_new w _)
    · exact (bx2 w _ _).mono (by omega)
  case round =>
    obtain ⟨o, seen, V5, V6, c5, c6, m, n, ls, rfl, rfl, hm, hn, HT⟩ := hrel
    have HWB := Lib.hid (walk_bound HT.out.eq)
    have hlen : ls.length = ls0.length := by have h := HT.out.mixed.1; simpa using h
    rcases List.eq_nil_or_concat o with rfl | ⟨o', i, ho⟩
    · have HEE := Lib.hid (walk_end HT.out.eq)
      have HKB := Lib.hid (show ∀ k (hk : k < (postN (starL (ls0.map Ln.nd)) root).length) z, z ∈ kidsAt (starL (ls0.map Ln.nd)) (postN (starL (ls0.map Ln.nd)) root)[k] → ∃ j, j < k ∧ (postN (starL (ls0.map Ln.nd)) root)[j]? = some z from fun k hk z hz => kid_before (star_aheadZ hZ.ahead).ahead hk hz)
      have HNE := Lib.hid (postN_ne (starL (ls0.map Ln.nd)) root)
      have HSK := Lib.hid (show ∀ p ∈ postN (starL (ls0.map Ln.nd)) root, ndAt (ls.map Ln.nd) p = ndAt (starL (ls0.map Ln.nd)) p ∧ kidsAt (ls.map Ln.nd) p = kidsAt (starL (ls0.map Ln.nd)) p from fun p hp => by
        have h1 := HT.out.done p (by rw [← HEE.out] at hp; simpa using hp)
        have h2 : ndAt (ls.map Ln.nd) p = ndAt (starL (ls0.map Ln.nd)) p := by rw [h1, star_nd _ _ (by have := (HMEM.out p hp).1; simpa using this)]
        exact ⟨h2, by rw [kidsAt_nd, kidsAt_nd, h2]⟩)
      have HKZ := Lib.hid (show ∀ p ∈ postN (starL (ls0.map Ln.nd)) root, ∀ z ∈ (ndAt (ls.map Ln.nd) p).kids, 0 ≤ z ∧ z < (p : Int) from fun p hp z hz => by
        have hpl := (HMEM.out p hp).1
        refine mixed_aheadZ HT.out.mixed hZ p (ndAt (ls.map Ln.nd) p) ?_ z hz
        unfold ndAt
        rw [List.getElem?_eq_getElem (by rw [List.length_map]; omega)]; rfl)
      have HTE := Lib.hid (show (postN (starL (ls0.map Ln.nd)) root).map (fun p => placed (postN (starL (ls0.map Ln.nd)) root) (ndAt (starL (ls0.map Ln.nd)) p)) = (postN (starL (ls0.map Ln.nd)) root).map (fun p => placed (postN (starL (ls0.map Ln.nd)) root) (ndAt (ls.map Ln.nd) p)) from List.map_congr_left fun p hp => by rw [(HSK.out p hp).1])
      have HKB2 := Lib.hid (show ∀ k (hk : k < (postN (starL (ls0.map Ln.nd)) root).length) z, z ∈ kidsAt (ls.map Ln.nd) (postN (starL (ls0.map Ln.nd)) root)[k] → ∃ j, j < k ∧ (postN (starL (ls0.map Ln.nd)) root)[j]? = some z from fun k hk z hz => HKB.out k hk z (by rw [← (HSK.out _ (List.getElem_mem hk)).2]; exact hz))
      have HKL0 := Lib.hid (show ∀ p ∈ postN (starL (ls0.map Ln.nd)) root, (kidsAt (ls.map Ln.nd) p).length ≤ ls0.length from fun p hp => by
        have hsA := (star_aheadZ hZ.ahead).ahead
        have h1 := post_mem_nodup hsA root p hp HND.out
        have h2 : (postN (starL (ls0.map Ln.nd)) p).length ≤ ls0.length := nodup_length h1 (fun y hy => by have := postN_le hsA p y hy; have := (HMEM.out p hp).1; omega)
        rw [postN_eq hsA, List.length_append] at h2
        have h3 := flat_le (starL (ls0.map Ln.nd)) (kidsAt (starL (ls0.map Ln.nd)) p)
        rw [(HSK.out p hp).2]; omega)
      clear HKB HSK
      have hz' := HT.out.arena
      have HGOT := Lib.hid HT.out.got; have HRES := Lib.hid HT.out.res; have HBEL := Lib.hid HT.out.below
      have hszr := HT.out.size
      clear HT HWB
      generalize hPd : postN (starL (ls0.map Ln.nd)) root = P at *
      have HPD := Lib.hid hPd
      clear hPd
      have hmem2 : ∀ p ∈ P, p < ls.length := fun p hp => by have := (HMEM.out p hp).1; omega
      have HMEM2 := Lib.hid hmem2
      have hll : ls.length ≤ 16777216 := by omega
      have hpl := HPL.out
      rw [← hlen] at hpl
      have hsl : seen.length = P.length := by rw [← HEE.out, List.length_reverse]
      have HSL := Lib.hid hsl
      obtain rfl : m = 0 := by simpa using hm
      subst hn
      clear hm HMEM hmem2 hlen HPL hi hnd hZ
      have hpos := HNE.out
      rw [hsl] at HGOT
      obtain ⟨g5, rfl, hg1, hg2⟩ := own_some HGOT.out (by omega)
      have HRV := Lib.hid (reverse_own g5 c5 (H + 1) (seen.map fun k : Nat => (k : Int)) wr 3 (by rw [List.length_map, ← natsV_ints, hsl]; exact HGOT.out))
      rw [← List.map_reverse, HEE.out, ← natsV_ints] at HRV
      simp only [List.length_map, hsl] at HRV
      rw [hsl]
      obtain ⟨AV, avc, hab, hao, hak⟩ := hz'
      have HARS := Lib.hid (show ArenaS wr b (fun x => b < x ∧ blkOf (some (⟨g5, 0, none⟩ : Addr)) ≠ some x ∧ blkOf V6 ≠ some x) ls from ⟨AV, avc, hab, hao, hak⟩)
      have F1 := Lib.hid (show i0.bytes * ls.length ≤ 281474976710656 ∧ ls.length ≤ maxLen from ⟨by rw [hz2]; omega, by unfold maxLen; omega⟩)
      have F2 := Lib.hid (show j0.bytes * P.length ≤ 281474976710656 ∧ P.length ≤ maxLen from ⟨by rw [hy2]; omega, by unfold maxLen; omega⟩)
      have HAB := Lib.hid hab
      clear hab hao hak hsl
      have hbH : b < H := hb0
      have hbg : b ≠ g5 := by omega
      go_wp2_with (first
        | (go_at_call 104; refine (HRV.out).mono ?_; rintro e w2 ⟨rfl, hown2, hgrow2⟩; have HO1 := Lib.hid hown2; have HG1 := Lib.hid hgrow2; have HX1 := Lib.hid (show ∀ x, x < wr.heap.size → x ≠ g5 → w2.heap[x]? = wr.heap[x]? from fun x hx hne => hgrow2.block x hx (fun e => hne (by injection e))); clear hown2 hgrow2; have cb : w2.cell? ⟨b, 0, none⟩ = some (.slice AV ls.length avc) := (by have h := (HX1.out b (heap_lt' HAB.out) hbg).trans HAB.out; simp [World.cell?, h]))
        | (at_make; refine wpList_make_full _ rfl _ _ 52 rfl w2.heap.size 3 i0 _ 1 Tryz.underlying52 hi0 hz0 hz1 .i64 .i64 _ _ ls.length rfl rfl rfl rfl F1.out.1 F1.out.2 (Nat.le_refl _) ?_; intro w3 hown3 hgrow3; have HO2 := Lib.hid hown3; have HG2 := Lib.hid hgrow3; have HB2 := Lib.hid (show Below w2.heap.size w2 w3 from (Below.refl _ _).grown hgrow3 (Nat.le_refl _) (fun k e => by cases e)); have HZ3 := Lib.hid (show w2.heap.size + 1 ≤ w3.heap.size from (own_lt hown3).2); clear hown3 hgrow3)
        | (at_make; refine wpList_make_own _ rfl _ _ 38 rfl (w2.heap.size + 1) 54 j0 _ 9 Tryz.underlying38 hj0 hy0 hy1 .i64 .i64 _ P.length rfl rfl rfl F2.out.1 F2.out.2 HZ3.out ?_; intro w4 hown4 hgrow4; have HO3 := Lib.hid hown4; have HG3 := Lib.hid hgrow4; clear hown4 hgrow4)
        | fail)
      have HAR2 := Lib.hid (show ∀ wx, Below w2.heap.size w2 wx → ndL.row wx (b < ·) AV ls ∧ wx.cell? ⟨b, 0, none⟩ = some (.slice AV ls.length avc) from fun wx hb => by
        have h1 := ArenaS.grown (S' := (b < ·)) HARS.out HGOT.out (fun x hx hne => HX1.out x hx (fun e => hne (by rw [e]; rfl))) (fun x hx hs => ⟨hs.1, hs.2.1⟩)
        obtain ⟨V2, vc2, h2, h3, h4⟩ := h1
        have h5 := (HX1.out b (heap_lt' HAB.out) hbg).trans HAB.out
        rw [h5] at h2
        simp only [Option.some.injEq, Obj.cells.injEq, and_true, Array.mk.injEq, List.cons.injEq, Value.slice.injEq, true_and] at h2
        obtain ⟨rfl, rfl⟩ := h2
        refine ⟨(arena_row h3 h4).below hb, ?_⟩
        have h6 := bx_kept hb h5
        simp [World.cell?, h6])
      have HP2 := Lib.hid (show ∀ wx, Below w2.heap.size w2 wx → wx.ownsRow (H + 1) 3 1 (.slice (some ⟨g5, 0, none⟩) P.length c5) P.length (natsV P) from fun wx hb => own_belowA HO1.out hb)
      have HB4 := Lib.hid (show Below w2.heap.size w2 w4 from HB2.out.grown HG3.out HB2.out.size (fun k e => by cases e))
      have HO2' := Lib.hid (own_kept HO2.out HG3.out (fun k _ e => by cases e))
      have HZ4 := Lib.hid (show w2.heap.size < w4.heap.size from by have := HG3.out.size; have := HZ3.out; omega)
      have HBW2 := Lib.hid (show Below b w w2 ∧ w2.heap[H]? = some (.cells #[.slice none 0 0, .int .i64 0] 40 (0, 0)) ∧ H + 1 ≤ w2.heap.size from
        ⟨HBEL.out.grown HG1.out (by omega) (fun k e => by injection e with e; omega), (HX1.out H (by omega) (by omega)).trans HRES.out, by have := HG1.out.size; omega⟩)
      clear HO2 HG2 HB2 HG3 HO1 HG1 HX1 cb HARS HGOT HAB HRES HBEL HZ3
      go_loopw [68, 9] (fun i v9 wx => MakeRel w2 w2.heap.size P ls i v9 wx) (fun i _ _ => P.length - (intOf i).toNat)
      case atStart => exact ⟨0, [], _, _, _, Nat.zero_le _, rfl, rfl, HO2', Lib.hid (fun j p h => by omega), HO3, Lib.hid (by simp), Lib.hid (by simp), HB4, HZ4⟩
      case round =>
        clear HO2' HO3 HB4 HZ4
        obtain ⟨wo, rfl⟩ : ∃ wo : World, wo = wr := ⟨_, rfl⟩
        obtain ⟨k, ls', pl, V, vc, hk, rfl, rfl, HPL1, HPLS, HO3, HLS, HOW, HB3, HZ3⟩ := hrel
        by_cases hlt : k < P.length
        · have HKP := Lib.hid (show P[k]? = some P[k] from List.getElem?_eq_getElem hlt)
          have HKBK := Lib.hid (HKB2.out k hlt)
          have hp := HMEM2.out P[k] (List.getElem_mem hlt)
          have HKZP := Lib.hid (HKZ.out P[k] (List.getElem_mem hlt))
          have HKLP := Lib.hid (HKL0.out P[k] (List.getElem_mem hlt))
          have HTK := Lib.hid (show P.take (k + 1) = P.take k ++ [P[k]] from List.take_succ_eq_append_getElem hlt)
          have c5k := own_cell (HP2.out _ HB3.out) k hlt (u := .int .i64 (P[k] : Int)) (by simp [natsV, hlt])
          generalize P[k] = p at *
          have d1 : (k : Int) < (P.length : Int) := by omega
          have d2 : (0 : Int) ≤ (k : Int) := by omega
          have p1 : (p : Int) < (ls.length : Int) := by omega
          have p2 : (0 : Int) ≤ (p : Int) := by omega
          obtain ⟨hrow, cbx⟩ := HAR2.out _ HB3.out
          obtain ⟨ab, ao, hA, hab1, hab2, x0, x1, x2, x3, x4, x5, x6, x7, x8⟩ := ndRow hrow p hp
          have habz : ab < w2.heap.size := by
            obtain ⟨hrow2, _⟩ := HAR2.out _ (Below.refl _ w2)
            obtain ⟨ab', ao', hA', _, h, _⟩ := ndRow hrow2 p hp
            rw [hA] at hA'; cases hA'; exact h
          have HNDP := Lib.hid (show ndAt (ls.map Ln.nd) p = ls[p].nd from by simp [ndAt, List.getElem?_map, List.getElem?_eq_getElem hp])
          have HKID := Lib.hid (show kidsAt (ls.map Ln.nd) p = ls[p].nd.kids.map Int.toNat from by simp [kidsAt, List.getElem?_map, List.getElem?_eq_getElem hp])
          have HWF := Lib.hid (ndWf hrow p hp)
          have HKR := Lib.hid (show ∀ wx, Below w2.heap.size w2 wx → intL.row wx (b < ·) ls[p].A ls[p].nd.kids from fun wx h => ndSub (HAR2.out wx h).1 p hp)
          rw [HNDP.out] at HKZP
          have HKL := Lib.hid (show ls[p].nd.kids.length ≤ 16777216 from by
            have h1 := HKLP.out
            rw [HKID.out, List.length_map] at h1; omega)
          obtain ⟨plp, hplp⟩ : ∃ u, pl[p]? = some u := ⟨_, List.getElem?_eq_getElem (show p < pl.length by have := HPL1.out.1; omega)⟩
          have c0 := own_cell HPL1.out p hp hplp
          have c1 := World.ownsRow.frozenAt HPL1.out p
          subst hA
          have hbz : b < w2.heap.size := cellLt (HAR2.out _ (Below.refl _ w2)).2
          have hg5z : g5 < w2.heap.size := (own_lt (HP2.out _ (Below.refl _ w2))).2
          have hzne1 : ab ≠ w2.heap.size := by omega
          have hzne2 : b ≠ w2.heap.size := by omega
          generalize ls[p] = x at *
          have HSZ2 := Lib.hid (show ((wo.setCell ⟨w2.heap.size, p, none⟩ (.int .i64 (k : Int))).alloc (.cells #[.int .u8 x.nd.kind, .int .u64 x.nd.s0, .int .u64 x.nd.s1, .int .u64 x.nd.s2, .int .u64 x.nd.s3, .string x.nd.text, .int .i64 x.nd.mn, .int .i64 x.nd.mx, .slice x.A x.nd.kids.length x.c] 54)).heap.size = wo.heap.size + 1 by simp)
          have HBX := Lib.hid (show ((wo.setCell ⟨w2.heap.size, p, none⟩ (.int .i64 (k : Int))).alloc (.cells #[.int .u8 x.nd.kind, .int .u64 x.nd.s0, .int .u64 x.nd.s1, .int .u64 x.nd.s2, .int .u64 x.nd.s3, .string x.nd.text, .int .i64 x.nd.mn, .int .i64 x.nd.mx, .slice x.A x.nd.kids.length x.c] 54)).heap[wo.heap.size]? = some (.cells #[.int .u8 x.nd.kind, .int .u64 x.nd.s0, .int .u64 x.nd.s1, .int .u64 x.nd.s2, .int .u64 x.nd.s3, .string x.nd.text, .int .i64 x.nd.mn, .int .i64 x.nd.mx, .slice x.A x.nd.kids.length x.c] 54 (0, 0)) by
            have h := bx_new (wo.setCell ⟨w2.heap.size, p, none⟩ (.int .i64 (k : Int))) (.cells #[.int .u8 x.nd.kind, .int .u64 x.nd.s0, .int .u64 x.nd.s1, .int .u64 x.nd.s2, .int .u64 x.nd.s3, .string x.nd.text, .int .i64 x.nd.mn, .int .i64 x.nd.mx, .slice x.A x.nd.kids.length x.c] 54); simpa using h)
          have HW2A := Lib.hid (show ∀ y, y < wo.heap.size → y ≠ w2.heap.size → ((wo.setCell ⟨w2.heap.size, p, none⟩ (.int .i64 (k : Int))).alloc (.cells #[.int .u8 x.nd.kind, .int .u64 x.nd.s0, .int .u64 x.nd.s1, .int .u64 x.nd.s2, .int .u64 x.nd.s3, .string x.nd.text, .int .i64 x.nd.mn, .int .i64 x.nd.mx, .slice x.A x.nd.kids.length x.c] 54)).heap[y]? = wo.heap[y]? from fun y h1 h2 => (Below.heap_alloc _ _ y (by simpa using h1)).trans (Below.heap_setCell _ _ _ _ h2))
          have HPL4 := Lib.hid (show ((wo.setCell ⟨w2.heap.size, p, none⟩ (.int .i64 (k : Int))).alloc (.cells #[.int .u8 x.nd.kind, .int .u64 x.nd.s0, .int .u64 x.nd.s1, .int .u64 x.nd.s2, .int .u64 x.nd.s3, .string x.nd.text, .int .i64 x.nd.mn, .int .i64 x.nd.mx, .slice x.A x.nd.kids.length x.c] 54)).ownsRow w2.heap.size 3 1 (.slice (some ⟨w2.heap.size, 0, none⟩) ls.length ls.length) ls.length (pl.set p (.int .i64 (k : Int))) from World.ownsRow.alloc (World.ownsRow.stored HPL1.out p (.int .i64 (k : Int))).1 _)
          have HB5 := Lib.hid (show Below w2.heap.size w2 ((wo.setCell ⟨w2.heap.size, p, none⟩ (.int .i64 (k : Int))).alloc (.cells #[.int .u8 x.nd.kind, .int .u64 x.nd.s0, .int .u64 x.nd.s1, .int .u64 x.nd.s2, .int .u64 x.nd.s3, .string x.nd.text, .int .i64 x.nd.mn, .int .i64 x.nd.mx, .slice x.A x.nd.kids.length x.c] 54)) from (HB3.out.setCell (p := ⟨w2.heap.size, p, none⟩) (Nat.le_refl _) _).alloc (by have := HZ3.out; simp; omega) _)
          have HNB := Lib.hid HZ3.out
          go_upto_region 16 with (fail)
          generalize ((wo.setCell ⟨w2.heap.size, p, none⟩ (.int .i64 (k : Int))).alloc (.cells #[.int .u8 x.nd.kind, .int .u64 x.nd.s0, .int .u64 x.nd.s1, .int .u64 x.nd.s2, .int .u64 x.nd.s3, .string x.nd.text, .int .i64 x.nd.mn, .int .i64 x.nd.mx, .slice x.A x.nd.kids.length x.c] 54)) = W4 at *
          clear x0 x1 x2 x3 x4 x5 x6 x7 x8 c0 c1 c5k cbx hrow
          generalize hnb : wo.heap.size = nb at *
          have HNBE := Lib.hid hnb
          clear hnb
          have HPLK := Lib.hid (show ∀ z : Nat, z < p → z ∈ kidsAt (ls.map Ln.nd) p → (pl.set p (.int .i64 (k : Int)))[z]? = some (.int .i64 ((P.idxOf z : Nat) : Int)) from fun z hzp hz => by
            obtain ⟨j, hjk, hj⟩ := HKBK.out z hz
            rw [List.getElem?_set_ne (by omega), idx_of HND.out hj]
            exact HPLS.out j z hjk hj)
          obtain ⟨_, _, _, _, _, _, _, _, y8, _⟩ := blk9 HBX.out
          go_wp2_with fail
          clear y8
          have hkl : x.nd.kids.length ≤ 16777216 := HKL.out
          have hksl : (intL.all (placed P x.nd).kids).length = x.nd.kids.length := by rw [intL.all_length]; show (x.nd.kids.map _).length * 1 = _; simp
          have HKSL := Lib.hid hksl; clear hksl
          go_loopw [13, 87] (fun v13 v14 wx => ListRel W4 nb (intL.all (placed P x.nd).kids) v13 v14 wx) (fun _ v14 _ => x.nd.kids.length - (intOf v14).toNat)
          case atStart => exact ⟨0, none, 0, Nat.zero_le _, rfl, rfl, Lib.hid (World.ownsRow_nil _ _ _ _), Lib.hid (Below.refl _ _), Lib.hid (by have := HSZ2.out; omega)⟩
          case round =>
            obtain ⟨wx, rfl⟩ : ∃ wx : World, wx = wr := ⟨_, rfl⟩
            obtain ⟨q, U, uc, hq, rfl, rfl, HU, HBXx, HZX⟩ := hrel
            rw [HKSL.out] at hq
            have HNX := Lib.hid ((HBXx.out.block nb (by omega)).trans HBX.out)
            obtain ⟨_, _, _, _, _, _, _, _, y8, _, _, _, _, _, _, _, _, z8⟩ := blk9 HNX.out
            by_cases hql : q < x.nd.kids.length
            · have HBx2 := Lib.hid (show Below w2.heap.size w2 wx from HB5.out.trans (HBXx.out.mono (by have := HNB.out; omega)))
              obtain ⟨kb, ko, hkA, _, hkb, y0⟩ := intRow (HKR.out wx HBx2.out) q hql
              have HZQ := Lib.hid (HKZP.out x.nd.kids[q] (List.getElem_mem hql))
              have HKM := Lib.hid (show x.nd.kids[q].toNat ∈ kidsAt (ls.map Ln.nd) p from by rw [HKID.out]; exact List.mem_map.2 ⟨_, List.getElem_mem hql, rfl⟩)
              have HTQ := Lib.hid (show (intL.all (placed P x.nd).kids).take (q + 1) = (intL.all (placed P x.nd).kids).take q ++ [.int .i64 ((P.idxOf x.nd.kids[q].toNat : Nat) : Int)] from by
                rw [List.take_succ_eq_append_getElem (by rw [HKSL.out]; exact hql)]
                congr 1
                simp [intL_all, placed])
              generalize x.nd.kids[q] = z at *
              obtain ⟨zz, rfl⟩ := Int.eq_ofNat_of_zero_le HZQ.out.1
              have hzp : zz < p := by have := HZQ.out.2; omega
              simp only [Int.toNat_natCast] at HKM HTQ
              have c0 := own_cell (own_agree HPL4.out (fun y hy => by cases hy; exact HBXx.out.block w2.heap.size (by have := HNB.out; omega))) zz (by omega) (HPLK.out zz hzp HKM.out)
              rw [hkA] at y8
              have i3 : (q : Int) < (x.nd.kids.length : Int) := by omega
              have i4 : (0 : Int) ≤ (q : Int) := by omega
              have i5 : (zz : Int) < (ls.length : Int) := by omega
              have i6 : (0 : Int) ≤ (zz : Int) := by omega
              generalize P.idxOf zz = jz at *
              have F4 := Lib.hid (show q + 1 ≤ maxLen ∧ (q + 1) * 8 ≤ 140737488355328 ∧ nb + 1 ≤ (wx.alloc (.cells #[.int .i64 (jz : Int)] 3)).heap.size from ⟨by unfold maxLen; omega, by omega, by have := HZX.out; simp; omega⟩)
              rw [hkA]
              clear hkA
              go_wp2_with (at_builtin; refine wpList_append_at _ rfl (.tmp 91) (.tmp 96) 52 rfl (nb + 1) 3 i0 (.int .i64 0) 1 8 Tryz.underlying52 hi0 hz0 hz1 hz2 rfl (by decide) U uc q ((intL.all (placed P x.nd).kids).take q) rfl (World.ownsRow.alloc HU.out _) (some ⟨wx.heap.size, 0, none⟩) 1 1 [.int .i64 (jz : Int)] rfl rfl (row_blk (bx_new wx _)) (fun u hu => by simp only [List.mem_singleton] at hu; subst hu; rfl) F4.out.1 F4.out.2.1 F4.out.2.2 ?_; intro U' uc' w6 HU6 HG6 HA6)
              exact ⟨⟨q + 1, U', uc', by rw [HKSL.out]; omega, by go_num, rfl, Lib.hid (by rw [HTQ.out]; exact HU6.out), Lib.hid (HBXx.out.trans (((Below.refl _ wx).alloc HZX.out _).trans (below_grownA (World.ownsRow.alloc HU.out _) HG6.out (Nat.le_refl _) F4.out.2.2))), Lib.hid (by have := HG6.out.size; have := F4.out.2.2; omega)⟩, by simp [intOf]; omega⟩
            · obtain rfl : q = x.nd.kids.length := by omega
              have HX7 := Lib.hid (set_blk9 (u := (.slice U x.nd.kids.length uc)) HNX.out)
              have HE7 := Lib.hid (show ∀ y, y ≠ nb → (wx.setCell ⟨nb, 8, none⟩ (.slice U x.nd.kids.length uc)).heap[y]? = wx.heap[y]? from fun y hy => Below.heap_setCell _ _ _ _ hy)
              have HZ7 := Lib.hid (show (wx.setCell ⟨nb, 8, none⟩ (.slice U x.nd.kids.length uc)).heap.size = wx.heap.size from by simp)
              have HB7 := Lib.hid (show Below w2.heap.size w2 (wx.setCell ⟨nb, 8, none⟩ (.slice U x.nd.kids.length uc)) from (HB5.out.trans (HBXx.out.mono (by have := HNB.out; omega))).setCell (p := ⟨nb, 8, none⟩) (by have := HNB.out; show w2.heap.size ≤ nb; omega) _)
              go_upto_region 23 with (fail)
              generalize wx.setCell ⟨nb, 8, none⟩ (.slice U x.nd.kids.length uc) = w7 at *
              clear y8 z8
              have HCH := Lib.hid (show ∀ y, y < nb → y ≠ w2.heap.size → w7.heap[y]? = wo.heap[y]? from fun y h1 h2 => (HE7.out y (by omega)).trans ((HBXx.out.block y (by omega)).trans (HW2A.out y h1 h2)))
              have HVB := Lib.hid (show ∀ y, blkOf V = some y → w2.heap.size + 1 ≤ y ∧ y < nb from fun y hy => by have h := own_blk HO3.out y hy; have := HNBE.out; omega)
              have HO3b := Lib.hid (show (w7.alloc (.cells #[.int .u8 x.nd.kind, .int .u64 x.nd.s0, .int .u64 x.nd.s1, .int .u64 x.nd.s2, .int .u64 x.nd.s3, .string x.nd.text, .int .i64 x.nd.mn, .int .i64 x.nd.mx, .slice U x.nd.kids.length uc] 54)).ownsRow (w2.heap.size + 1) 54 9 (.slice V k vc) k (ndL.all ls') from World.ownsRow.alloc (own_agree HO3.out (fun y hy => HCH.out y ((HVB.out y hy).2) (by have := (HVB.out y hy).1; omega))) _)
              have HNO := Lib.hid (show ∀ u ∈ ([.int .u8 x.nd.kind, .int .u64 x.nd.s0, .int .u64 x.nd.s1, .int .u64 x.nd.s2, .int .u64 x.nd.s3, .string x.nd.text, .int .i64 x.nd.mn, .int .i64 x.nd.mx, .slice U x.nd.kids.length uc] : List Value), u.oneCell' = true from (fun u hu => by simp only [List.mem_cons, List.not_mem_nil, or_false] at hu; rcases hu with rfl | rfl | rfl | rfl | rfl | rfl | rfl | rfl | rfl <;> rfl))
              have HFF := Lib.hid (show k + 1 ≤ maxLen ∧ (k + 1) * 96 ≤ 140737488355328 ∧ w2.heap.size + 1 ≤ (w7.alloc (.cells #[.int .u8 x.nd.kind, .int .u64 x.nd.s0, .int .u64 x.nd.s1, .int .u64 x.nd.s2, .int .u64 x.nd.s3, .string x.nd.text, .int .i64 x.nd.mn, .int .i64 x.nd.mx, .slice U x.nd.kids.length uc] 54)).heap.size from ⟨by unfold maxLen; omega, by omega, by have h1 := HZ7.out; have h2 := HZX.out; have := HNB.out; simp; omega⟩)
              refine wp_region_list ?_
              refine wpList_val rfl (exec_move rfl rfl) ?_
              refine wpList_val rfl (exec_load rfl rfl (load9 w7 nb _ _ _ _ _ _ _ _ _ _ HX7.out)) ?_
              refine wpList_val rfl (exec_build rfl rfl (build9 w7 _ _ _ _ _ _ _ _ _)) ?_
              refine wpList_append_at _ rfl (.tmp 101) (.tmp 103) 38 rfl (w2.heap.size + 1) 54 j0 _ 9 96 Tryz.underlying38 hj0 hy0 hy1 hy2 rfl (by decide) V vc k (ndL.all ls') rfl HO3b.out (some ⟨w7.heap.size, 0, none⟩) 1 1 [.int .u8 x.nd.kind, .int .u64 x.nd.s0, .int .u64 x.nd.s1, .int .u64 x.nd.s2, .int .u64 x.nd.s3, .string x.nd.text, .int .i64 x.nd.mn, .int .i64 x.nd.mx, .slice U x.nd.kids.length uc] rfl rfl (row_blk (bx_new w7 _)) HNO.out HFF.out.1 HFF.out.2.1 HFF.out.2.2 ?_
              intro V' vc' w8 HO8 HG8 HA8
              simp only [Act.put, List.setIfInBounds_toArray, List.set_cons_zero, List.set_cons_succ]
              have hz7 := HZ7.out; have hzx := HZX.out; have hnb := HNB.out
              have h8s : w7.heap.size + 1 ≤ w8.heap.size := by have h := HG8.out.size; simpa using h
              have hK8 : ∀ y, y < w7.heap.size → blkOf V ≠ some y → w8.heap[y]? = w7.heap[y]? := fun y h1 h2 => (HG8.out.block y (by simp; omega) (fun e => h2 e.symm)).trans (Below.heap_alloc _ _ y h1)
              have hVV : ∀ y, y < w7.heap.size → blkOf V ≠ some y → blkOf V' ≠ some y := fun y h1 h2 e => by
                rcases HA8.out with h | h
                · exact h2 (h ▸ e)
                · rw [h] at e; injection e with e; rw [World.size_alloc] at e; omega
              have hB8 : Below w2.heap.size w2 w8 := (HB7.out.alloc (by omega) _).grown HG8.out (by simp; omega) (fun y hy => by have := (HVB.out y hy).1; omega)
              have hZV : blkOf V ≠ some w2.heap.size := fun e => by have := (HVB.out _ e).1; omega
              have HQ8 := Lib.hid (And.intro hK8 (And.intro hVV (And.intro hB8 (And.intro hZV h8s))))
              clear hK8 hVV hB8 hZV h8s
              go_wp2_with fail
              obtain ⟨hK8, hVV, hB8, hZV, h8s⟩ := HQ8.out
              refine ⟨⟨k + 1, ls' ++ [⟨placed P x.nd, U, uc⟩], pl.set p (.int .i64 (k : Int)), V', vc', hlt, by go_num, rfl, Lib.hid ?_, Lib.hid ?_, Lib.hid ?_, Lib.hid ?_, Lib.hid ?_, Lib.hid hB8, Lib.hid (by omega)⟩, by simp only [intOf]; omega⟩
              · exact own_agree HPL4.out (fun y hy => by cases hy; exact (hK8 w2.heap.size (by omega) hZV).trans ((HE7.out _ (by omega)).trans (HBXx.out.block _ (by omega))))
              · intro j q hj hq
                by_cases e : j = k
                · subst e
                  rw [HKP.out] at hq; cases hq
                  rw [List.getElem?_set_self (by have := HPL1.out.1; omega)]
                · have h1 := HPLS.out j q (by omega) hq
                  rw [List.getElem?_set_ne (fun e2 => e ?_)]
                  · exact h1
                  · subst e2
                    exact (idx_of HND.out hq).symm.trans (idx_of HND.out HKP.out)
              · have h := HO8.out
                rw [Lay.all_append, Lay.all_one, show ndL.cells ⟨placed P x.nd, U, uc⟩ = [.int .u8 x.nd.kind, .int .u64 x.nd.s0, .int .u64 x.nd.s1, .int .u64 x.nd.s2, .int .u64 x.nd.s3, .string x.nd.text, .int .i64 x.nd.mn, .int .i64 x.nd.mx, .slice U x.nd.kids.length uc] by simp [ndL, placed]]
                exact h
              · rw [HTK.out, List.map_append, List.map_append, HLS.out]
                simp [HNDP.out]
              · intro l hl
                rcases List.mem_append.1 hl with hl | hl
                · have h1 := (HOW.out l hl).mono (T := fun y => y < nb ∧ w2.heap.size < y ∧ blkOf V ≠ some y) (fun y a b => ⟨by have := HNBE.out; omega, b⟩)
                  exact (h1.agree (fun y hy _ => (hK8 y (by omega) hy.2.2).trans (HCH.out y hy.1 (by omega)))).mono (fun y _ hy => ⟨hy.2.1, hVV y (by omega) hy.2.2⟩)
                · simp only [List.mem_singleton] at hl
                  subst hl
                  refine ⟨placed_wf HWF.out, ?_⟩
                  have hkl2 : (placed P x.nd).kids.length = x.nd.kids.length := by simp [placed]
                  show OwnS w8 _ _ 1 U (placed P x.nd).kids.length uc (intL.all (placed P x.nd).kids)
                  have h7 : OwnS wx (fun y => nb + 1 ≤ y ∧ y < wx.heap.size) 3 1 U x.nd.kids.length uc (intL.all (placed P x.nd).kids) := by
                    have h := HU.out
                    rw [List.take_of_length_le (by rw [HKSL.out]; exact Nat.le_refl _)] at h
                    exact ⟨own_mono h (Nat.zero_le _), fun y hy => own_blk h y hy⟩
                  rw [hkl2]
                  have hVn : ∀ y, nb + 1 ≤ y → blkOf V ≠ some y := fun y h e => by have := (HVB.out y e).2; omega
                  exact (h7.agree (fun y hy _ => (hK8 y (by omega) (hVn y hy.1)).trans (HE7.out y (by omega)))).mono (fun y _ hy => ⟨by omega, hVV y (by omega) (hVn y hy.1)⟩)
        · obtain rfl : k = P.length := by omega
          have HKO := Lib.hid ((HB3.out.block H (by have := HBW2.out.2.2; omega)).trans HBW2.out.2.1)
          obtain ⟨s1, s2, s3, s4⟩ := blk2 HKO.out
          have HLL := Lib.hid (show ls'.length = P.length from by have h := congrArg List.length HLS.out; rw [List.length_map, List.length_map, List.length_take, Nat.min_self] at h; exact h)
          have d1 : ¬ (P.length : Int) < (P.length : Int) := by omega
          have HRS := Lib.hid (show ∀ y, y ≠ H → ((wo.setCell ⟨H, 0, none⟩ (.slice V P.length vc)).setCell ⟨H, 1, none⟩ (.int .i64 ((P.length : Int) - 1))).heap[y]? = wo.heap[y]? from fun y hy => (Below.heap_setCell _ _ _ _ hy).trans (Below.heap_setCell _ _ _ _ hy))
          have HBF := Lib.hid (show Below b w ((wo.setCell ⟨H, 0, none⟩ (.slice V P.length vc)).setCell ⟨H, 1, none⟩ (.int .i64 ((P.length : Int) - 1))) from ((HBW2.out.1.trans (HB3.out.mono (by have := HBW2.out.2.2; omega))).setCell (p := ⟨H, 0, none⟩) (by show b ≤ H; omega) _).setCell (p := ⟨H, 1, none⟩) (by show b ≤ H; omega) _)
          have hH2 := HBW2.out.2.2
          go_wp2_with fail
          refine bodyPost_ret (v := .agg #[.slice V P.length vc, .int .i64 ((P.length : Int) - 1)]) (by simp [results, Tryz.results92, go_sem, s1, s2]) rfl ?_
          unfold TakenPost
          refine ⟨⟨V, vc, ls', (P.length : Int) - 1⟩, by simp only [Lt.val]; rw [HLL.out], ?_, ⟨by show ls'.length ≤ _; rw [HLL.out]; omega, ?_, fun l hl => ?_⟩, HBF.out⟩
          · show Tr.mk (ls'.map Ln.nd) _ = _
            unfold takenT takenL
            simp only
            rw [HPD.out, HLS.out, List.take_length, HTE.out]
          · show OwnS _ _ _ 9 V ls'.length vc (ndL.all ls')
            rw [HLL.out]
            exact ⟨own_agree (own_mono HO3.out (Nat.zero_le _)) (fun y hy => HRS.out y (by have := (own_blk HO3.out y hy).1; omega)), fun y hy => by have := (own_blk HO3.out y hy).1; show b < y; omega⟩
          · exact ((HOW.out l hl).agree (fun y hy _ => HRS.out y (by have := hy.1; omega))).mono (fun y _ hy => by have := hy.1; show b < y; omega)
    · rw [List.concat_eq_append] at ho; subst ho
      have hmem : i ∈ postN (starL (ls0.map Ln.nd)) root := by
        rw [← HT.out.eq, List.mem_append]; left
        exact List.mem_flatMap.2 ⟨i, by simp, by rw [postN_eq (star_aheadZ hZ.ahead).ahead]; simp⟩
      have hil := (HMEM.out i hmem).1
      have hndi := (HMEM.out i hmem).2
      rw [List.length_append, List.length_singleton] at hm
      subst hm
      have hmb : o'.length + 1 + n ≤ ls0.length := by
        have h1 := HWB.out; have h2 := HPL.out
        rw [List.length_append, List.length_singleton] at h1; omega
      have hil2 : i < ls.length := by omega
      have hll : ls.length ≤ 16777216 := by omega
      have HLEN := Lib.hid hlen
      obtain ⟨vg6, rfl, hg1, hg2⟩ := own_some HT.out.stk (by simp)
      have c0 := own_cell HT.out.stk o'.length (by simp) (u := .int .i64 (i : Int)) (by simp [natsV])
      have HPA := Lib.hid (fun w' (h : ArenaAt w' b ls) => parts_any b ls i w' h (mixed_aheadZ HT.out.mixed hZ) (by omega) hil2 (List.Sublist.nodup (mixed_post HT.out.mixed hZ.ahead i).1 hndi))
      rw [HT.out.mixed.parts hZ.ahead] at HPA
      unfold PartsPost at HPA
      obtain ⟨AV, avc, hab, hao, hak⟩ := HT.out.arena
      obtain ⟨ag, rfl, hag1, hag2⟩ := own_some hao (by omega)
      have HAB := Lib.hid hab; have HAO := Lib.hid hao; have HAK := Lib.hid hak
      clear hab hao hak
      have hsz := HT.out.size
      have hag5 : blkOf V5 ≠ some ag := fun e => rows_ne HT.out.got HAO.out e rfl
      have hag6 : vg6 ≠ ag := fun e => rows_ne HT.out.stk HAO.out (k := ag) (by simp [blkOf, e]) rfl
      have HS1 := Lib.hid (show ∀ w', Below wr.heap.size wr w' → w'.cell? ⟨b, 0, none⟩ = some (.slice (some ⟨ag, 0, none⟩) ls.length avc) from fun w' hb => by
        have h := bx_kept hb HAB.out; simp [World.cell?, h])
      have HS2 := Lib.hid (show ∀ w' u, Below wr.heap.size wr w' → (w'.setCell ⟨ag, i * 9 + 8, none⟩ u).cell? ⟨b, 0, none⟩ = some (.slice (some ⟨ag, 0, none⟩) ls.length avc) from fun w' u hb => (World.cell?_of_block (Below.heap_setCell w' ⟨ag, i * 9 + 8, none⟩ u b (by show b ≠ ag; omega))).trans (HS1.out w' hb))
      have HNDI := Lib.hid (HAK.out ls[i] (List.getElem_mem hil2))
      have i1 : (i : Int) < (ls.length : Int) := by omega
      have i2 : (0 : Int) ≤ (i : Int) := by omega
      have hcap := own_cap HT.out.stk
      rw [List.length_append, List.length_singleton] at hcap
      have e1 : IntKind.i64.wrap (((o'.length + 1 : Nat) : Int) - 1) = (o'.length : Int) := by rw [IntWalk.i64_in _ (by omega)]; omega
      clear hlen
      go_upto_region 5 with (fail)
      clear c0
      have HD := Lib.hid (Below.refl wr.heap.size wr).drew
      have HATD := Lib.hid (show ArenaAt wr.drew b ls from (ArenaS.at HT.out.arena (fun x hx => hx.1)).below (Below.refl wr.heap.size wr).drew)
      go_region_held3 (fun w' => w'.cell? ⟨b, 0, none⟩ = some (.slice (some ⟨ag, 0, none⟩) ls.length avc))
        (first | exact HS1.out _ (Below.refl _ _) | exact HS1.out _ HD.out | exact HS1.out _ HB3.out | exact HS2.out _ _ HB3.out | fail) (first
        | (go_at_call 115; (with_reducible refine (HPA.out _ HATD.out).mono ?_); rintro e w3 ⟨V7, c7, rfl, h1, h2, h3⟩; have HQ1 := Lib.hid h1; have HQ2 := Lib.hid h2; have HB3 := Lib.hid (show Below wr.heap.size wr w3 from HD.out.trans h3); have HQF := Lib.hid (World.ownsRow.frozenAt (own_belowA HAO.out HB3.out) (i * 9 + 8)); have hfz := HQF.out; have hcl := (own_at9 (own_belowA HAO.out HB3.out) i hil2).2.2.2.2.2.2.2.2; clear h1 h2 h3)
        | fail)
      have HPE := Lib.hid (HT.out.mixed.parts hZ.ahead i)
      have HPLT := Lib.hid (show ∀ k ∈ partsA (ls0.map Ln.nd) i, k < i from fun k hk => partsA_lt hZ.ahead hk)
      have HKS := Lib.hid (star_kidsAll (ls0.map Ln.nd) hZ.ahead i)
      have HE2 := Lib.hid (walk_step (star_aheadZ hZ.ahead).ahead HT.out.eq)
      rw [HKS.out] at HE2
      have HSN := Lib.hid (show ({ ls[i].nd with kids := (partsA (ls0.map Ln.nd) i).map fun k : Nat => (k : Int) } : Nd) = starN (ls0.map Ln.nd) i from by
        have e1 : ndAt (ls.map Ln.nd) i = ls[i].nd := by simp [ndAt, hil2]
        rcases HT.out.mixed.2 i (by simpa using hil) with e | e
        · rw [← e1, e]; rfl
        · rw [← e1, e]; rfl)
      have hpb : o'.length + (partsA (ls0.map Ln.nd) i).length + (n + 1) ≤ ls0.length := by
        have h1 := walk_bound HE2.out; have h2 := HPL.out
        simp only [List.length_append, List.length_singleton] at h1; omega
      generalize hPL : partsA (ls0.map Ln.nd) i = PL at *
      have HST := Lib.hid (World.ownsRow.stored (own_belowA HAO.out HB3.out) (i * 9 + 8) (.slice V7 PL.length c7)).1
      have hsk := all_setK ls i hil2 V7 c7 (PL.map fun k : Nat => (k : Int))
      rw [List.length_map] at hsk
      rw [hsk] at HST
      clear hsk
      have HK4 := Lib.hid (show ∀ x, x < wr.heap.size → x ≠ ag → (w3.setCell ⟨ag, i * 9 + 8, none⟩ (.slice V7 PL.length c7)).heap[x]? = wr.heap[x]? from fun x hx hne => (Below.heap_setCell _ _ _ _ hne).trans (HB3.out.block x hx))
      have HK5 := Lib.hid (show ∀ x, x ≠ ag → (w3.setCell ⟨ag, i * 9 + 8, none⟩ (.slice V7 PL.length c7)).heap[x]? = w3.heap[x]? from fun x hne => Below.heap_setCell _ _ _ _ hne)
      have HZ4 := Lib.hid (show (w3.setCell ⟨ag, i * 9 + 8, none⟩ (.slice V7 PL.length c7)).heap.size = w3.heap.size from by simp)
      have HBW4 := Lib.hid (show Below b w (w3.setCell ⟨ag, i * 9 + 8, none⟩ (.slice V7 PL.length c7)) from (HT.out.below.trans (HB3.out.mono (by omega))).setCell (p := ⟨ag, i * 9 + 8, none⟩) (by show b ≤ ag; omega) _)
      generalize w3.setCell ⟨ag, i * 9 + 8, none⟩ (.slice V7 PL.length c7) = W4 at *
      have hw34 := HB3.out.size
      have hz4 := HZ4.out
      have H5 := Lib.hid (show W4.ownsRow (H + 1) 3 1 (.slice V5 seen.length c5) seen.length (natsV seen) from own_agree HT.out.got fun k hk => HK4.out k (own_blk HT.out.got k hk).2 (fun e => hag5 (e ▸ hk)))
      have H6 := Lib.hid (show W4.ownsRow (H + 1) 3 1 (.slice (some ⟨vg6, 0, none⟩) o'.length c6) o'.length (natsV o') from by
        have h := own_cut HT.out.stk (m := o'.length) (by simp)
        rw [natsV_append, Nat.mul_one, List.take_left' (natsV_length _)] at h
        exact own_agree h fun k hk => HK4.out k (own_blk h k hk).2 (fun e => by simp only [blkOf, Option.map_some, Option.some.injEq] at hk; omega))
      have H7 := Lib.hid (show OwnS W4 (b < ·) 3 1 V7 PL.length c7 (natsV PL) from by
        refine ⟨own_agree HQ1.out.1 fun k hk => HK5.out k fun e => ?_, HQ1.out.2⟩
        exact rows_ne HQ1.out.1 (own_belowA HAO.out HB3.out) hk (by rw [e]; rfl))
      have HAR4 := Lib.hid (show ArenaS W4 b (fun x => b < x ∧ blkOf V5 ≠ some x ∧ blkOf (some ⟨vg6, 0, none⟩) ≠ some x) (ls.set i ⟨{ ls[i].nd with kids := PL.map fun k : Nat => (k : Int) }, V7, c7⟩) from by
        refine ⟨some ⟨ag, 0, none⟩, avc, ?_, ?_, fun l hl => ?_⟩
        · rw [List.length_set]; exact (HK4.out b (heap_lt' HAB.out) (by omega)).trans HAB.out
        · rw [List.length_set]; exact HST.out
        · rcases List.mem_or_eq_of_mem_set hl with hl | rfl
          · have h1 := (HAK.out l hl).agree (below_all HB3.out)
            refine ⟨h1.1, ?_⟩
            refine ⟨own_agree h1.2.1 fun k hk => HK5.out k fun e => ?_, h1.2.2⟩
            exact rows_ne h1.2.1 (own_belowA HAO.out HB3.out) hk (by rw [e]; rfl)
          · have hwf := HNDI.out.1
            refine ⟨⟨hwf.1, hwf.2.1, by show (PL.map _).length ≤ _; rw [List.length_map]; omega, hwf.2.2.2⟩, ?_⟩
            show OwnS W4 _ _ 1 V7 (PL.map fun k : Nat => (k : Int)).length c7 (intL.all (PL.map fun k : Nat => (k : Int)))
            rw [List.length_map, intL_all, ← natsV_ints]
            refine ⟨H7.out.1, fun k hk => ⟨H7.out.2 k hk, ?_⟩⟩
            rcases HQ2.out k hk with h | h
            · have h : wr.heap.size ≤ k := h
              refine ⟨fun e => by have := (own_blk HT.out.got k e).2; omega, fun e => ?_⟩
              simp only [blkOf, Option.map_some, Option.some.injEq] at e; omega
            · exact (HNDI.out.2.2 k h).2)
      have hnr : i < (ls.set i ⟨{ ls[i].nd with kids := PL.map fun k : Nat => (k : Int) }, V7, c7⟩).length := by rw [List.length_set]; exact hil2
      have c8 := (own_at9 HST.out i hnr).2.2.2.2.2.2.2.2
      rw [List.getElem_set_self] at c8
      simp only [List.length_map] at c8
      have cb : W4.cell? ⟨b, 0, none⟩ = some (.slice (some ⟨ag, 0, none⟩) ls.length avc) := by have h := (HK4.out b (heap_lt' HAB.out) (by omega)).trans HAB.out; simp [World.cell?, h]
      have HSB := Lib.hid (show ∀ w' : World, (∀ x, x < W4.heap.size → x ≠ vg6 → w'.heap[x]? = W4.heap[x]?) → w'.cell? ⟨b, 0, none⟩ = some (.slice (some ⟨ag, 0, none⟩) ls.length avc) ∧ w'.cell? ⟨ag, i * 9 + 8, none⟩ = some (.slice V7 PL.length c7) from
        fun w' hb => ⟨(World.cell?_of_block (hb b (cellLt cb) (by show b ≠ vg6; omega))).trans cb, (World.cell?_of_block (hb ag (cellLt c8) (fun e => hag6 e.symm))).trans c8⟩)
      clear cb c8
      have HCUT := Lib.hid (show W4.drew.ownsRow (H + 1) 3 1 (.slice (some ⟨vg6, 0, none⟩) o'.length c6) o'.length (natsV o') from H6.out)
      have HROW := Lib.hid (show RowAt W4.drew V7 (natsV PL) from H7.out.row.1)
      have F := Lib.hid (show o'.length + PL.length ≤ maxLen ∧ (o'.length + PL.length) * 8 ≤ 140737488355328 ∧ H + 1 ≤ W4.drew.heap.size from ⟨by unfold maxLen; omega, by omega, by show H + 1 ≤ W4.heap.size; omega⟩)
      have e3 : (o'.length : Int) ≤ (c6 : Int) := by omega
      have e4 : (0 : Int) ≤ (o'.length : Int) := by omega
      have e6 : IntKind.i64.wrap ((o'.length : Int) + 1 - 1) = (o'.length : Int) := by rw [IntWalk.i64_in _ (by omega)]; omega
      have e5 : IntKind.i64.wrap (o'.length : Int) = (o'.length : Int) := IntWalk.i64_in _ (by omega)
      clear e1
      clear HS1 HS2 HPA hfz hcl
      go_upto_region 6 with (fail)
      go_region_held3 (fun w' => w'.cell? ⟨b, 0, none⟩ = some (.slice (some ⟨ag, 0, none⟩) ls.length avc) ∧ w'.cell? ⟨ag, i * 9 + 8, none⟩ = some (.slice V7 PL.length c7))
        (first | exact HSB.out _ (fun x _ _ => rfl) | exact HSB.out _ HX2.out | fail)
        ((refine step_append_at (by rfl) (.tmp 41) (.tmp 49) 52 (by rfl) (H + 1) 3 i0 (.int .i64 0) 1 8 Tryz.underlying52 hi0 hz0 hz1 hz2 rfl (by decide) (some ⟨vg6, 0, none⟩) c6 o'.length (natsV o') (by rfl) HCUT.out V7 PL.length c7 (natsV PL) (by rfl) (by rw [natsV_length, Nat.mul_one]) HROW.out (natsV_one _) F.out.1 F.out.2.1 F.out.2.2 ?_
          intro V' vc' w5 HO5 HG5 HA5
          have HX2 := Lib.hid (show ∀ x, x < W4.heap.size → x ≠ vg6 → w5.heap[x]? = W4.heap[x]? from fun x hx hne => HG5.out.block x hx (fun e => hne (by simp only [blkOf, Option.map_some, Option.some.injEq] at e; exact e)))))
      have hA5 := HA5.out
      have hw5 := HG5.out.size
      have hw5 : W4.heap.size ≤ w5.heap.size := hw5
      have hx2 := HX2.out
      have hvg : ∀ x, blkOf (some (⟨vg6, 0, none⟩ : Addr)) = some x → x = vg6 := fun x e => by simp only [blkOf, Option.map_some, Option.some.injEq] at e; exact e.symm
      have h5lt : ∀ x, blkOf V5 = some x → H + 1 ≤ x ∧ x < W4.heap.size := fun x hx => own_blk H5.out x hx
      have h5vg : ∀ x, blkOf V5 = some x → x ≠ vg6 := fun x hx e => HT.out.apart x hx (by rw [e]; rfl)
      have H55 := Lib.hid (show w5.ownsRow (H + 1) 3 1 (.slice V5 seen.length c5) seen.length (natsV seen) from own_agree H5.out fun k hk => hx2 k (h5lt k hk).2 (h5vg k hk))
      have HAPV := Lib.hid (show ApartB V5 V' from (ApartB.grown (n := W4.heap.size) HT.out.apart.symm (fun k hk => (h5lt k hk).2) hA5).symm)
      have HAR5 := Lib.hid (ArenaS.grown (S' := fun x => b < x ∧ blkOf V5 ≠ some x ∧ blkOf V' ≠ some x) HAR4.out H6.out (fun x hx hne => hx2 x hx (fun e => hne (by rw [e]; rfl))) fun x hx hs => ⟨⟨hs.1, hs.2.1, fun e => by
        rcases hA5 with h | h
        · exact hs.2.2 (h ▸ e)
        · rw [h] at e; injection e with e
          have h9 : W4.drew.heap.size = W4.heap.size := rfl
          omega⟩, hs.2.2⟩)
      have HBW5 := Lib.hid (show Below b w w5 from (HBW4.out.drew).grown HG5.out (by show b ≤ W4.heap.size; omega) (fun k hk => by have := hvg k hk; omega))
      have HRES := Lib.hid (show w5.heap[H]? = some (.cells #[.slice none 0 0, .int .i64 0] 40 (0, 0)) from by
        have hne : H ≠ ag := fun e => by
          obtain ⟨cur2, hc2⟩ := own_cells HAO.out (k := ag) rfl
          rw [← e, HT.out.res] at hc2
          simp only [Option.some.injEq, Obj.cells.injEq] at hc2
          exact absurd hc2.2.1 (by decide)
        exact (hx2 H (by omega) (by omega)).trans ((HK4.out H (by omega) hne).trans HT.out.res))
      have F7 := Lib.hid (show seen.length + 1 ≤ maxLen ∧ (seen.length + 1) * 8 ≤ 140737488355328 ∧ H + 1 ≤ (w5.alloc (.cells #[.int .i64 (i : Int)] 3)).heap.size from ⟨by unfold maxLen; omega, by omega, by simp; omega⟩)
      have HO55 := Lib.hid (World.ownsRow.alloc H55.out (.cells #[.int .i64 (i : Int)] 3))
      have HO5' := Lib.hid (show w5.ownsRow (H + 1) 3 1 (.slice V' (o'.length + PL.length) vc') (o'.length + PL.length) (natsV (o' ++ PL)) from by rw [natsV_append]; exact HO5.out)
      clear hA5 hx2 h5vg
      go_wp2_with (at_builtin; refine wpList_append_at _ rfl (.tmp 51) (.tmp 53) 52 rfl (H + 1) 3 i0 (.int .i64 0) 1 8 Tryz.underlying52 hi0 hz0 hz1 hz2 rfl (by decide) V5 c5 seen.length (natsV seen) rfl HO55.out (some ⟨w5.heap.size, 0, none⟩) 1 1 (natsV [i]) rfl (by simp [natsV]) (row_blk (bx_new w5 _)) (natsV_one _) F7.out.1 F7.out.2.1 F7.out.2.2 ?_; intro V'' vc'' w7 HO7 HG7 HA7)
      have HX7 : ∀ x, x < w5.heap.size → blkOf V5 ≠ some x → w7.heap[x]? = w5.heap[x]? := fun x hx hne => (HG7.out.block x (by simp; omega) (fun e => hne e.symm)).trans (Below.heap_alloc _ _ x hx)
      have hV'lt : ∀ x, blkOf V' = some x → H + 1 ≤ x ∧ x < w5.heap.size := fun x hx => own_blk HO5'.out x hx
      refine ⟨⟨o' ++ PL, seen ++ [i], V'', V', vc'', vc', o'.length + PL.length, seen.length + 1, ls.set i ⟨{ ls[i].nd with kids := PL.map fun k : Nat => (k : Int) }, V7, c7⟩, rfl, rfl, by simp, by simp, Lib.hid ⟨?_, ?_, ?_, HE2.out, ?_, ?_, ?_, ?_, ?_, ?_⟩⟩, by simp only [sliceLen]; omega⟩
      · rw [List.length_append, List.length_singleton, natsV_append]; exact HO7.out
      · rw [List.length_append]
        exact own_agree HO5'.out fun k hk => HX7 k (hV'lt k hk).2 fun e => HAPV.out k e hk
      · exact ApartB.grown (n := (w5.alloc (.cells #[.int .i64 (i : Int)] 3)).heap.size) HAPV.out (fun k hk => by have := (hV'lt k hk).2; simp; omega) HA7.out
      · refine HAR5.out.grown H55.out HX7 fun x hx hs => ⟨⟨hs.1, fun e => ?_, hs.2.2⟩, hs.2.1⟩
        rcases HA7.out with h | h
        · exact hs.2.1 (h ▸ e)
        · rw [h] at e; injection e with e
          rw [World.size_alloc] at e; omega
      · refine ⟨by rw [List.length_map, List.length_set, List.length_map]; exact HLEN.out, fun j hj => ?_⟩
        by_cases e : j = i
        · subst e
          right
          unfold ndAt
          rw [List.getElem?_map, List.getElem?_set_self hil2]
          exact HSN.out
        · have h := HT.out.mixed.2 j hj
          unfold ndAt at h ⊢
          rw [List.getElem?_map, List.getElem?_set_ne (fun e2 => e e2.symm), ← List.getElem?_map]
          exact h
      · intro p hp
        by_cases e : p = i
        · subst e
          unfold ndAt
          rw [List.getElem?_map, List.getElem?_set_self hil2]
          exact HSN.out
        · have h := HT.out.done p (by rcases List.mem_append.1 hp with h | h; exact h; simp at h; exact absurd h e)
          unfold ndAt at h ⊢
          rw [List.getElem?_map, List.getElem?_set_ne (fun e2 => e e2.symm), ← List.getElem?_map]
          exact h
      · exact (HX7 H (heap_lt' HRES.out) fun e => by have := (h5lt H e).1; omega).trans HRES.out
      · exact (HBW5.out.alloc (by omega) _).grown HG7.out (by simp; omega) (fun k hk => by have := (h5lt k hk).1; omega)
      · have := HG7.out.size; rw [World.size_alloc] at this; omega
end Go.Proofs.YtpfokabdpmjobaaGreatDoor
/- The contract of expr.Make. -/
namespace Go.Proofs.YtpfokabdpmjobaaGreatDoor
open Go.RowKit
set_option linter.unusedSimpArgs false
set_option linter.unusedVariables false
attribute [local go_sem] run_store_func
def joinsA:Array Value:= #[.func (.func 112) #[] #[],.func (.func 112) #[] #[],.func (.func 112) #[] #[],.func (.func 112) #[] #[],.func (.func 113) #[] #[],.func (.func 114) #[] #[],.func (.func 112) #[] #[],.func (.func 112) #[] #[],.func (.func 112) #[] #[],.func (.func 112) #[] #[]]
set_option maxRecDepth 100000 in
set_option maxHeartbeats 1600000 in
theorem joiners_any (w:World):Calls Tryz.prog 91 #[] w fun e w'=>e=.returned (.agg joinsA)∧Below w.heap.size w w':=by
 go_enter Tryz.func91,Tryz.ntmps91
 go_wp2_with fail
 exact bodyPost_ret (v:=.agg joinsA) (by simp[results,Tryz.results91,go_sem,joinsA]) rfl ⟨rfl,bx1 w _⟩
def MkRel (W:World) (b cb g n:Nat) (t:Tr) (i:Value) (wr:World):Prop:=
 ∃(k:Nat) (lsA:List Ln) (pl:Nat→Int) (vals:List Value),k≤n∧i=.int .i64 (k:Int)∧Hid (ArenaS wr b (fun x=>b<x∧x≠g) lsA)∧Hid (lsA.length≤k)∧Hid (MakeInv t k (lsA.map Ln.nd) pl)∧Hid (wr.ownsRow (b+1) 3 1 (.slice (some ⟨g,0,none⟩) n n) n vals) ∧
  Hid (∀j,j<k→vals[j]?=some (.int .i64 (pl j)))∧Hid (wr.heap[cb]?=some (.cells joinsA 139 (0,0)))∧Hid (Below b W wr)
theorem stepJ_len (al:List Nd) (n:Nd) (ks:List Int):(stepJ al n ks).1.length≤al.length+1:=by
 obtain⟨L,_,h⟩:=stepJ_shape al n ks
 rcases h with⟨x,_,e⟩|⟨m,_,e⟩ <;> rw[e] <;> simp
theorem mk_fin {W wx w3:World} {b cb g n k:Nat} {t:Tr} {lsA lsB:List Ln} {pl:Nat→Int} {vals:List Value} {nd:Nd} {ks:List Int} {r:Int} (hk:k<n) (hbg:b<g) (hcg:cb<g) (hbc:b<cb) (hal:lsA.length≤k)
  (hst:MakeInv t (k+1) (stepJ (lsA.map Ln.nd) nd ks).1 (fun j=>if j=k then(stepJ (lsA.map Ln.nd) nd ks).2 else pl j)) (hB:lsB.map Ln.nd=(stepJ (lsA.map Ln.nd) nd ks).1) (hr:r=(stepJ (lsA.map Ln.nd) nd ks).2)
  (hA:ArenaS w3 b (fun x=>b<x∧x≠g) lsB) (hK:KeptA b wx w3) (hP:wx.ownsRow (b+1) 3 1 (.slice (some ⟨g,0,none⟩) n n) n vals) (hv:∀j,j<k→vals[j]?=some (.int .i64 (pl j)))
  (hc:wx.heap[cb]?=some (.cells joinsA 139 (0,0))) (hW:Below b W wx):MkRel W b cb g n t (.int .i64 ((k:Int)+1)) (w3.setCell ⟨g,k,none⟩ (.int .i64 r)):=by
 have hgb:blkOf (some (⟨g,0,none⟩:Addr))≠some b:=fun e=>by simp only[blkOf,Option.map_some,Option.some.injEq]at e;omega
 have hP3:=(hK.int (own_ownS hP) hgb).own
 have hvl:=hP.1
 refine⟨k+1,lsB,_,vals.set k (.int .i64 r),hk,congrArg (Value.int .i64) (by omega),Lib.hid ?_,Lib.hid ?_,Lib.hid (hB▸hst),Lib.hid (World.ownsRow.stored hP3 k (.int .i64 r)).1,Lib.hid fun j hj=> ?_,Lib.hid ?_,Lib.hid ((hW.trans hK.1).setCell (p:=⟨g,k,none⟩) (Nat.le_of_lt hbg) _)⟩
 ·exact hA.grown hP3 (fun x hx hne=>Below.heap_setCell _ _ _ _ fun e=>hne (by rw[e];rfl)) fun x hx hs=>⟨hs,fun e=>by simp only[blkOf,Option.map_some,Option.some.injEq]at e;exact hs.2 e.symm⟩
 ·have h:=congrArg List.length hB
  have h2:=stepJ_len (lsA.map Ln.nd) nd ks
  rw[List.length_map]at h h2;omega
 ·by_cases e:j=k
  ·subst e
   rw[List.getElem?_set_self (by omega)]
   simp[hr]
  ·rw[List.getElem?_set_ne (by omega),hv j (by omega)]
   simp[e]
 ·refine(Below.heap_setCell _ _ _ _ (by show cb≠g;omega)).trans ((hK.2 cb (heap_lt' hc) (by omega) fun⟨cs,m,e⟩=> ?_).trans hc)
  rw[hc]at e
  simp only[Option.some.injEq,Obj.cells.injEq]at e
  exact absurd e.2.1 (by decide)
def MakePost (t:Tr) (w:World) (e:Ending) (w':World):Prop:=
 (rightT t=true→ ∃v:Lt,e=.returned (.tuple #[v.val,.bool true])∧v.tr=treeOf (makeTT (den t.nodes t.root.toNat))∧TreeOwn w' (w.heap.size ≤ ·) v∧Below w.heap.size w w') ∧
 (rightT t=false→e=.returned (.tuple #[.agg #[.slice none 0 0,.int .i64 0],.bool false])∧Below w.heap.size w w')
set_option maxRecDepth 100000 in
set_option maxHeartbeats 6400000 in
theorem make_any (A:Option Addr) (c:Nat) (ls:List Ln) (root:Int) (S:Nat→Prop) (w:World) (hT:ndL.row w S A ls) (hl:ls.length≤16777216) (ht:CntTab w):
  Calls Tryz.prog 55 #[.agg #[.slice A ls.length c,.int .i64 root]] w (MakePost ⟨ls.map Ln.nd,root⟩ w):=by
 obtain⟨i0,hi0,hz0,hz1,hz2⟩:=info_parts infoInt
 have HT:=Lib.hid hT;have HCT:=Lib.hid ht;clear hT ht
 have HRG:=Lib.hid (fun w' hT ht=>right_any A c ls root S w' hT (by omega) ht)
 have HB0:=Lib.hid (bx2 w (.cells #[.slice A ls.length c,.int .i64 root] 40) (.cells #[.slice none 0 0,.int .i64 0] 40))
 have HK0:=Lib.hid (show((w.alloc (.cells #[.slice A ls.length c,.int .i64 root] 40)).alloc (.cells #[.slice none 0 0,.int .i64 0] 40)).heap[w.heap.size]?=some (.cells #[.slice A ls.length c,.int .i64 root] 40 (0,0))∧((w.alloc (.cells #[.slice A ls.length c,.int .i64 root] 40)).alloc (.cells #[.slice none 0 0,.int .i64 0] 40)).heap[w.heap.size+1]?=some (.cells #[.slice none 0 0,.int .i64 0] 40 (0,0))from by
  refine⟨bx_old (bx_new w _),?_⟩
  have h:=bx_new (w.alloc (.cells #[.slice A ls.length c,.int .i64 root] 40)) (.cells #[.slice none 0 0,.int .i64 0] 40)
  rw[World.size_alloc]at h;exact h)
 have HZ0:=Lib.hid (show((w.alloc (.cells #[.slice A ls.length c,.int .i64 root] 40)).alloc (.cells #[.slice none 0 0,.int .i64 0] 40)).heap.size=w.heap.size+2 from by simp)
 rcases hr:rightT ⟨ls.map Ln.nd,root⟩with _|_
 ·rw[hr]at HRG
  go_enter Tryz.func55,Tryz.ntmps55
  go_wp2_with (first
   |(go_at_call 43;refine(HRG.out _ (HT.out.below HB0.out) (HCT.out.below HB0.out)).mono ?_;rintro e w1 ⟨rfl,hb⟩;have HB1:=Lib.hid (Below.step HB0.out hb);have HK1:=Lib.hid (And.intro (bx_kept hb HK0.out.1) (bx_kept hb HK0.out.2));clear hb;obtain⟨k0,k1,k2,k3⟩:=blk2 HK1.out.2)
   |fail)
  have HB2:=Lib.hid ((HB1.out.setCell (p:=⟨w.heap.size+1,0,none⟩) (Nat.le_succ _) (.slice none 0 0)).setCell (p:=⟨w.heap.size+1,1,none⟩) (Nat.le_succ _) (.int .i64 0))
  refine bodyPost_ret (v:=.tuple #[.agg #[.slice none 0 0,.int .i64 0],.bool false]) (by simp[results,Tryz.results55,go_sem,k0,k1]) rfl ?_
  unfold MakePost
  exact⟨fun h=>(by rw[hr]at h;cases h),fun _=>⟨rfl,HB2.out⟩⟩
 ·rw[hr]at HRG
  have HR:=Lib.hid ((rightT_iff _).1 hr)
  have F1:=Lib.hid (show i0.bytes*ls.length≤281474976710656∧ls.length≤maxLen from⟨by rw[hz2];omega,by unfold maxLen;omega⟩)
  go_enter Tryz.func55,Tryz.ntmps55
  go_upto_region 5 with(first
   |(go_at_call 43;refine(HRG.out _ (HT.out.below HB0.out) (HCT.out.below HB0.out)).mono ?_;rintro e w1 ⟨rfl,hb⟩;have HB1:=Lib.hid (Below.step HB0.out hb);have HK1:=Lib.hid (And.intro (bx_kept hb HK0.out.1) (bx_kept hb HK0.out.2));have HZ1:=Lib.hid (show w.heap.size+2≤w1.heap.size from by have:=hb.size;have:=HZ0.out;omega);clear hb)
   |(go_at_call 91;refine(joiners_any _).mono ?_;rintro e w2 ⟨rfl,hb⟩;unfold joinsA;have HB2:=Lib.hid hb;clear hb)
   |fail)
  have hW:=bx_new w2 (.cells joinsA 139)
  have hWB:=bx1 w2 (.cells joinsA 139)
  have hWz:(w2.alloc (.cells joinsA 139)).heap.size=w2.heap.size+1:=by simp
  unfold joinsA at hW hWB hWz
  generalize w2.alloc _=W at *
  have ha1:=bx_new w1 (.cells #[.slice none 0 0] 137)
  have HAR0:=Lib.hid (bx_kept (Below.step HB2.out hWB) ha1)
  have HBW:=Lib.hid (show Below w.heap.size w W from Below.step (Below.step (Below.step HB1.out (bx1 w1 _)) HB2.out) hWB)
  have HKW:=Lib.hid (show W.heap[w.heap.size]?=some (.cells #[.slice A ls.length c,.int .i64 root] 40 (0,0))∧W.heap[w.heap.size+1]?=some (.cells #[.slice none 0 0,.int .i64 0] 40 (0,0))from
   ⟨bx_kept (Below.step (Below.step (bx1 w1 _) HB2.out) hWB) HK1.out.1,bx_kept (Below.step (Below.step (bx1 w1 _) HB2.out) hWB) HK1.out.2⟩)
  have hbcb:w1.heap.size<w2.heap.size:=by have:=HB2.out.size;simp at this;omega
  have HWJ:=Lib.hid hW
  have hz1':=HZ1.out
  clear HB1 HK1 HB2 ha1 hW hWB HB0 HK0 HZ0 HZ1
  generalize w1.heap.size=b at *
  generalize w2.heap.size=cb at *
  have hgcb:cb<W.heap.size:=by omega
  clear hWz
  obtain⟨k0,k1,k2,k3⟩:=blk2 HKW.out.1
  go_wp2_with (first
   |(at_make;refine wpList_make_full _ rfl _ _ 52 rfl (b+1) 3 i0 _ 1 Tryz.underlying52 hi0 hz0 hz1 .i64 .i64 _ _ ls.length rfl rfl rfl rfl F1.out.1 F1.out.2 (by omega) ?_;intro w3 hown3 hgrow3;have HO3:=Lib.hid hown3;have HB3:=Lib.hid (show Below W.heap.size W w3 from(Below.refl _ _).grown hgrow3 (Nat.le_refl _) (fun k e=>by cases e));clear hown3 hgrow3;have q0:=(HB3.out.cell (p:=⟨w.heap.size,0,none⟩) (by show w.heap.size<_;omega)).trans k0)
   |fail)
  have HZ3:=Lib.hid (show cb+2≤w3.heap.size from by have:=(own_lt HO3.out).2;omega)
  have HS0:=Lib.hid (show MkRel W b cb W.heap.size ls.length ⟨ls.map Ln.nd,root⟩ (.int .i64 0) w3 from
   ⟨0,[],fun _=>0,_,Nat.zero_le _,rfl,Lib.hid ⟨none,0,(HB3.out.block b (by omega)).trans HAR0.out,World.ownsRow_nil _ _ _ _,by simp⟩,Lib.hid (Nat.le_refl _),Lib.hid (MakeInv.start _ _),HO3,Lib.hid (fun j h=>by omega),Lib.hid ((HB3.out.block cb (by omega)).trans HWJ.out),Lib.hid (HB3.out.mono (by omega))⟩)
  have HBW2:=Lib.hid (show ∀wx,Below b W wx→Below w.heap.size w wx from fun wx h=>HBW.out.trans (h.mono (by omega)))
  clear HO3 HB3 HAR0 HWJ q0 k0 k1 k2 k3 HZ3
  generalize W.heap.size=g at *
  go_loopw [24] (fun i wr=>MkRel W b cb g ls.length ⟨ls.map Ln.nd,root⟩ i wr) (fun i _=>ls.length-(intOf i).toNat)
  case atStart=>exact HS0.out
  case round=>
   clear HS0
   obtain⟨wo,rfl⟩:∃wo:World,wo=wr:=⟨_,rfl⟩
   obtain⟨k,lsA,pl,vals,hk,rfl,HAA,HAL,HMI,HPV,HPLV,HCB,HB⟩:=hrel
   by_cases hlt:k<ls.length
   ·obtain⟨ab,ao,hA,_,hab2,x0,x1,x2,x3,x4,x5,x6,x7,x8⟩:=ndRow (HT.out.below (HBW2.out _ HB.out)) k hlt
    have HWF:=Lib.hid (ndWf HT.out k hlt)
    have HKR:=Lib.hid (show ∀wx,Below b W wx→intL.row wx S ls[k].A ls[k].nd.kids from fun wx h=>ndSub (HT.out.below (HBW2.out _ h)) k hlt)
    have HST:=Lib.hid (HMI.out.step HR.out (i:=k) (n:=ls[k].nd) (by simp[hlt]))
    have HKZ:=Lib.hid (show ∀z∈ls[k].nd.kids,0≤z∧z<(k:Int)from fun z hz=>rightP_kid HR.out (i:=k) (n:=ls[k].nd) (by simp[hlt]) hz)
    have HKL:=Lib.hid (show ls[k].nd.kids.length≤k from right_kids_len HR.out (i:=k) (n:=ls[k].nd) (by simp[hlt]))
    have HFIT:=Lib.hid (show 0≤ls[k].nd.kind∧ls[k].nd.kind≤9 from by
     have h:=rightP_fit HR.out (i:=k) (n:=ls[k].nd) (by simp[hlt])
     unfold fitN at h
     by_cases h9:0≤ls[k].nd.kind∧ls[k].nd.kind≤9
     ·exact h9
     ·rw[if_neg (by omega),if_neg (by omega),if_neg (by omega),if_neg (by omega),if_neg (by omega),if_neg (by omega),if_neg (by omega),if_neg (by omega),if_neg (by omega),if_neg (by omega)]at h
      cases h)
    have d1:(k:Int)<(ls.length:Int):=by omega
    have d2:(0:Int)≤(k:Int):=by omega
    have HNA:=Lib.hid (show wo.heap.size=wo.heap.size from rfl)
    generalize ls[k]=x at *
    have HBX:=Lib.hid (bx_new wo (.cells #[.int .u8 x.nd.kind,.int .u64 x.nd.s0,.int .u64 x.nd.s1,.int .u64 x.nd.s2,.int .u64 x.nd.s3,.string x.nd.text,.int .i64 x.nd.mn,.int .i64 x.nd.mx,.slice x.A x.nd.kids.length x.c] 54))
    have HB5:=Lib.hid (bx1 wo (.cells #[.int .u8 x.nd.kind,.int .u64 x.nd.s0,.int .u64 x.nd.s1,.int .u64 x.nd.s2,.int .u64 x.nd.s3,.string x.nd.text,.int .i64 x.nd.mn,.int .i64 x.nd.mx,.slice x.A x.nd.kids.length x.c] 54))
    have HZ5:=Lib.hid (show(wo.alloc (.cells #[.int .u8 x.nd.kind,.int .u64 x.nd.s0,.int .u64 x.nd.s1,.int .u64 x.nd.s2,.int .u64 x.nd.s3,.string x.nd.text,.int .i64 x.nd.mn,.int .i64 x.nd.mx,.slice x.A x.nd.kids.length x.c] 54)).heap.size=wo.heap.size+1 from by simp)
    subst hA
    go_upto_region 9 with(fail)
    generalize wo.alloc (.cells #[.int .u8 x.nd.kind,.int .u64 x.nd.s0,.int .u64 x.nd.s1,.int .u64 x.nd.s2,.int .u64 x.nd.s3,.string x.nd.text,.int .i64 x.nd.mn,.int .i64 x.nd.mx,.slice x.A x.nd.kids.length x.c] 54)=W5 at *
    clear x0 x1 x2 x3 x4 x5 x6 x7 x8
    obtain⟨_,_,_,_,_,_,_,_,y8,_⟩:=blk9 HBX.out
    go_wp2_with fail
    clear y8
    generalize hnb:wo.heap.size=nb at *
    have HNBE:=Lib.hid hnb
    clear hnb HNA
    have hgnb:g<nb:=by have:=(own_lt HPV.out).2;have:=HNBE.out;omega
    have hcbnb:cb<nb:=by have:=heap_lt' HCB.out;have:=HNBE.out;omega
    have hbnb:b<nb:=by omega
    have hksl:(intL.all (x.nd.kids.map fun z=>pl z.toNat)).length=x.nd.kids.length:=by rw[intL.all_length];show(x.nd.kids.map _).length*1=_;simp
    have HKSL:=Lib.hid hksl;clear hksl
    go_loopw [9,32] (fun v13 v14 wx=>ListRel W5 nb (intL.all (x.nd.kids.map fun z=>pl z.toNat)) v13 v14 wx) (fun _ v14 _=>x.nd.kids.length-(intOf v14).toNat)
    case atStart=>exact⟨0,none,0,Nat.zero_le _,rfl,rfl,Lib.hid (World.ownsRow_nil _ _ _ _),Lib.hid (Below.refl _ _),Lib.hid (by have:=HZ5.out;omega)⟩
    case round=>
     obtain⟨wx,rfl⟩:∃wx:World,wx=wr:=⟨_,rfl⟩
     obtain⟨q,U,uc,hq,rfl,rfl,HU,HBXx,HZX⟩:=hrel
     rw[HKSL.out]at hq
     have HBx2:=Lib.hid (show Below b W wx from HB.out.trans ((HB5.out.mono (by omega)).trans (HBXx.out.mono (by omega))))
     have HPX:=Lib.hid (show wx.ownsRow (b+1) 3 1 (.slice (some ⟨g,0,none⟩) ls.length ls.length) ls.length vals from own_agree HPV.out fun y hy=>by
      cases hy;exact(HBXx.out.block g (by omega)).trans (HB5.out.block g hgnb))
     by_cases hql:q<x.nd.kids.length
     ·obtain⟨kb,ko,hkA,_,hkb,y0⟩:=intRow (HKR.out wx HBx2.out) q hql
      have HZQ:=Lib.hid (HKZ.out x.nd.kids[q] (List.getElem_mem hql))
      have HTQ:=Lib.hid (show(intL.all (x.nd.kids.map fun z=>pl z.toNat)).take (q+1)=(intL.all (x.nd.kids.map fun z=>pl z.toNat)).take q++[.int .i64 (pl x.nd.kids[q].toNat)]from by
       rw[List.take_succ_eq_append_getElem (by rw[HKSL.out];exact hql)]
       congr 1
       simp[intL_all])
      generalize x.nd.kids[q]=z at *
      obtain⟨zz,rfl⟩:=Int.eq_ofNat_of_zero_le HZQ.out.1
      have hzp:zz<k:=by have:=HZQ.out.2;omega
      simp only[Int.toNat_natCast]at HTQ
      have c0:=own_cell HPX.out zz (by omega) (HPLV.out zz hzp)
      have i3:(q:Int)<(x.nd.kids.length:Int):=by omega
      have i4:(0:Int)≤(q:Int):=by omega
      have i5:(zz:Int)<(ls.length:Int):=by omega
      have i6:(0:Int)≤(zz:Int):=by omega
      have hkl2:=HKL.out
      generalize pl zz=pz at *
      have F4:=Lib.hid (show q+1≤maxLen∧(q+1)*8≤140737488355328∧nb+1≤(wx.alloc (.cells #[.int .i64 pz] 3)).heap.size from⟨by unfold maxLen;omega,by omega,by have:=HZX.out;simp;omega⟩)
      rw[hkA]
      clear hkA
      go_wp2_with (at_builtin;refine wpList_append_at _ rfl (.tmp 36) (.tmp 41) 52 rfl (nb+1) 3 i0 (.int .i64 0) 1 8 Tryz.underlying52 hi0 hz0 hz1 hz2 rfl (by decide) U uc q ((intL.all (x.nd.kids.map fun z=>pl z.toNat)).take q) rfl (World.ownsRow.alloc HU.out _) (some ⟨wx.heap.size,0,none⟩) 1 1 [.int .i64 pz] rfl rfl (row_blk (bx_new wx _)) (fun u hu=>by simp only[List.mem_singleton]at hu;subst hu;rfl) F4.out.1 F4.out.2.1 F4.out.2.2 ?_;intro U' uc' w6 HU6 HG6 HA6)
      exact⟨⟨q+1,U',uc',by rw[HKSL.out];omega,by go_num,rfl,Lib.hid (by rw[HTQ.out];exact HU6.out),Lib.hid (HBXx.out.trans (((Below.refl _ wx).alloc HZX.out _).trans (below_grownA (World.ownsRow.alloc HU.out _) HG6.out (Nat.le_refl _) F4.out.2.2))),Lib.hid (by have:=HG6.out.size;have:=F4.out.2.2;omega)⟩,by simp[intOf];omega⟩
     ·obtain rfl:q=x.nd.kids.length:=by omega
      have HNX:=Lib.hid ((HBXx.out.block nb (by omega)).trans HBX.out)
      have HCX:=Lib.hid (show wx.heap[cb]?=some (.cells joinsA 139 (0,0))from(HBXx.out.block cb (by omega)).trans ((HB5.out.block cb hcbnb).trans HCB.out))
      have HAX:=Lib.hid (show ArenaS wx b (fun x=>b<x∧x≠g) lsA from(HAA.out.below (by rw[HNBE.out];exact HB5.out)).below (Below.mono HBXx.out (by have:=HZ5.out;omega)))
      have hul:(x.nd.kids.map fun z=>pl z.toNat).length=x.nd.kids.length:=by simp
      have HOU:=Lib.hid (show OwnS wx (fun x=>b<x∧x≠g) 3 1 U x.nd.kids.length uc (intL.all (x.nd.kids.map fun z=>pl z.toNat))from by
       have h:=HU.out
       rw[List.take_of_length_le (by rw[HKSL.out];exact Nat.le_refl _)]at h
       exact⟨own_mono h (Nat.zero_le _),fun y hy=>by have:=(own_blk h y hy).1;exact⟨by omega,by omega⟩⟩)
      have HKB:=Lib.hid (show ∀z∈(x.nd.kids.map fun z=>pl z.toNat),0≤z∧z<(lsA.length:Int)from fun z hz=>by
       obtain⟨y,hy,rfl⟩:=List.mem_map.1 hz
       have h1:=HKZ.out y hy
       have h2:=HMI.out.nonneg y.toNat (by omega)
       have h3:=(HMI.out.rep y.toNat (by omega)).lt
       rw[List.length_map]at h3;omega)
      have hal:=HAL.out
      have hkl:=HKL.out
      have hkn:=HFIT.out
      obtain⟨plp,hplp⟩:∃u,vals[k]?=some u:=⟨_,List.getElem?_eq_getElem (show k<vals.length by have:=HPV.out.1;omega)⟩
      obtain⟨y0,y1,y2,y3,y4,y5,y6,y7,y8,_⟩:=blk9 HNX.out
      have n1:(0:Int)≤x.nd.kind:=hkn.1
      have n2:x.nd.kind<10:=by omega
      generalize hks:(x.nd.kids.map fun z=>pl z.toNat)=ks at *
      have hgb:blkOf (some (⟨g,0,none⟩:Addr))≠some b:=fun e=>by simp only[blkOf,Option.map_some,Option.some.injEq]at e;omega
      have hSS:∀y,(fun y=>b<y∧y≠g) y→b<y:=fun y hy=>hy.1
      have HSS:=Lib.hid hSS
      have HAXD:=Lib.hid (show ArenaS wx.drew b (fun x=>b<x∧x≠g) lsA from HAX.out.below (Below.refl wx.heap.size wx).drew)
      have HPXD:=Lib.hid (show OwnS wx.drew (b+1 ≤ ·) 3 1 (some ⟨g,0,none⟩) ls.length ls.length vals from own_ownS (show wx.drew.ownsRow _ _ _ _ _ _ from HPX.out))
      have HFIN:=Lib.hid (fun w3 lsB r h1 h2 h3 h4=>mk_fin (W:=W) (wx:=wx.drew) (w3:=w3) (lsB:=lsB) (r:=r) hlt (by omega) hgcb hbcb hal HST.out h1 h2 h3 h4 (show wx.drew.ownsRow _ _ _ _ _ _ from HPX.out) HPLV.out (show wx.drew.heap[cb]?=_ from HCX.out) HBx2.out.drew)
      have hbg:b<g:=by omega
      have hgx:g<wx.heap.size:=(own_lt HPX.out).2
      have HIR:=Lib.hid (show intL.row wx.drew (fun x=>b<x∧x≠g) U ks from by
       have h:=HOU.out
       exact⟨(h.agree (w':=wx.drew) (drew_agree _ wx)).row,fun _ _=>trivial⟩)
      clear hSS
      by_cases h4:x.nd.kind=4
      ·have H4:=Lib.hid h4
       clear h4
       have cj:wx.cell? ⟨cb,x.nd.kind.toNat,none⟩=some (.func (.func 113) #[] #[]):=by
        rw[cell_of_row _ _ _ _ _ _ HCX.out]
        rw[H4.out];rfl
       have HKE:=Lib.hid (seq_any b (fun x=>b<x∧x≠g) HSS.out lsA x.nd (.slice x.A x.nd.kids.length x.c) ks U uc _ wx.drew (fun y hy=>⟨by have hy:wx.heap.size≤y:=hy;omega,by have hy:wx.heap.size≤y:=hy;omega⟩) HAXD.out HWF.out HIR.out (by omega) HKB.out (by omega))
       rw[hul]at HKE
       unfold StepPost at HKE
       go_upto_region 15 with(fail)
       go_region_law ((go_simp;go_at_call 113;refine(HKE.out).mono ?_;rintro e w3 ⟨lsB,rfl,h1,h2,h3⟩;have HQ1:=Lib.hid h1;have HQ2:=Lib.hid h2;have HQ3:=Lib.hid h3;have HP3:=Lib.hid (h3.int HPXD.out hgb).own;have cp:=own_cell HP3.out k (by omega) hplp;have cf:=World.ownsRow.frozenAt HP3.out k;clear h1 h2 h3))
       all_goals
        go_wp2_with fail
        refine⟨HFIN.out _ lsB _ ?_ ?_ HQ2.out HQ3.out,by simp only[intOf];omega⟩
        ·rw[HQ1.out];unfold stepJ;rw[if_pos H4.out]
        ·unfold stepJ;rw[if_pos H4.out]
      ·by_cases h5:x.nd.kind=5
       ·have H5:=Lib.hid h5
        clear h5
        have cj:wx.cell? ⟨cb,x.nd.kind.toNat,none⟩=some (.func (.func 114) #[] #[]):=by
         rw[cell_of_row _ _ _ _ _ _ HCX.out]
         rw[H5.out];rfl
        have HKE:=Lib.hid (choice_any b (fun x=>b<x∧x≠g) HSS.out lsA x.nd (.slice x.A x.nd.kids.length x.c) ks U uc _ wx.drew (fun y hy=>⟨by have hy:wx.heap.size≤y:=hy;omega,by have hy:wx.heap.size≤y:=hy;omega⟩) HAXD.out HWF.out HIR.out (by omega) HKB.out (by omega))
        rw[hul]at HKE
        unfold StepPost at HKE
        go_upto_region 15 with(fail)
        go_region_law ((go_simp;go_at_call 114;refine(HKE.out).mono ?_;rintro e w3 ⟨lsB,rfl,h1,h2,h3⟩;have HQ1:=Lib.hid h1;have HQ2:=Lib.hid h2;have HQ3:=Lib.hid h3;have HP3:=Lib.hid (h3.int HPXD.out hgb).own;have cp:=own_cell HP3.out k (by omega) hplp;have cf:=World.ownsRow.frozenAt HP3.out k;clear h1 h2 h3))
        all_goals
         go_wp2_with fail
         refine⟨HFIN.out _ lsB _ ?_ ?_ HQ2.out HQ3.out,by simp only[intOf];omega⟩
         ·rw[HQ1.out];unfold stepJ;rw[if_neg h4,if_pos H5.out]
         ·unfold stepJ;rw[if_neg h4,if_pos H5.out]
       ·skip
        have cj:wx.cell? ⟨cb,x.nd.kind.toNat,none⟩=some (.func (.func 112) #[] #[]):=by
         rw[cell_of_row _ _ _ _ _ _ HCX.out]
         obtain⟨m,hm⟩:=Int.eq_ofNat_of_zero_le n1
         rw[hm,Int.toNat_natCast]
         have:m=0∨m=1∨m=2∨m=3∨m=6∨m=7∨m=8∨m=9:=by omega
         rcases this with rfl|rfl|rfl|rfl|rfl|rfl|rfl|rfl <;> rfl
        have HNO:=Lib.hid (show NdOwn wx.drew (fun x=>b<x∧x≠g) ⟨{x.nd with kids:=ks},U,uc⟩from⟨⟨HWF.out.1,HWF.out.2.1,by show ks.length≤_;omega,HWF.out.2.2.2⟩,by show OwnS wx.drew _ _ 1 U ks.length uc (intL.all ks);rw[hul];exact HOU.out.agree (drew_agree _ wx)⟩)
        have HKE:=Lib.hid (keep_any b (fun x=>b<x∧x≠g) HSS.out lsA ⟨{x.nd with kids:=ks},U,uc⟩ (.slice x.A x.nd.kids.length x.c) wx.drew HAXD.out HNO.out (by omega))
        unfold StepPost at HKE
        simp only[Ln.kv]at HKE
        rw[hul]at HKE
        go_upto_region 15 with(fail)
        go_region_law ((go_simp;go_at_call 112;refine(HKE.out).mono ?_;rintro e w3 ⟨lsB,rfl,h1,h2,h3⟩;have HQ1:=Lib.hid h1;have HQ2:=Lib.hid h2;have HQ3:=Lib.hid h3;have HP3:=Lib.hid (h3.int HPXD.out hgb).own;have cp:=own_cell HP3.out k (by omega) hplp;have cf:=World.ownsRow.frozenAt HP3.out k;clear h1 h2 h3))
        all_goals
         go_wp2_with fail
         refine⟨HFIN.out _ lsB _ ?_ ?_ HQ2.out HQ3.out,by simp only[intOf];omega⟩
         ·rw[HQ1.out];unfold stepJ;rw[if_neg h4,if_neg h5]
         ·unfold stepJ;rw[if_neg h4,if_neg h5,List.length_map]
   ·obtain rfl:k=ls.length:=by omega
    have hroot:=HR.out.1
    simp only[List.length_map]at hroot
    obtain⟨ro,hro⟩:=Int.eq_ofNat_of_zero_le hroot.1
    subst hro
    have hrl:ro<ls.length:=by omega
    have HMI2:=Lib.hid (show MakeInv ⟨ls.map Ln.nd,(ro:Int)⟩ (ls.map Ln.nd).length (lsA.map Ln.nd) pl from by rw[List.length_map];exact HMI.out)
    have HDN:=Lib.hid (HMI2.out.done HR.out (right_fit HR.out _ (by simpa using hrl)))
    have HNP:=Lib.hid (HMI2.out.nodup HR.out)
    simp only[Int.toNat_natCast]at HDN HNP
    have hpz:=HMI2.out.nonneg ro (by simpa using hrl)
    have hplt:=(HMI2.out.rep ro (by simpa using hrl)).lt
    rw[List.length_map]at hplt
    have c0:=own_cell HPV.out ro hrl (HPLV.out ro hrl)
    obtain⟨pp,hpp⟩:=Int.eq_ofNat_of_zero_le hpz
    rw[hpp]at c0 HDN HNP hplt
    simp only[Int.toNat_natCast]at HDN HNP hplt
    have hal:=HAL.out
    have HTK:=Lib.hid (ataken_any b lsA pp wo (HAA.out.at fun y hy=>hy.1) HMI2.out.ahead (by omega) hplt HNP.out)
    rw[HDN.out.2]at HTK
    unfold TakenPost at HTK
    have HKO:=Lib.hid (And.intro ((HB.out.block w.heap.size (by omega)).trans HKW.out.1) ((HB.out.block (w.heap.size+1) (by omega)).trans HKW.out.2))
    obtain⟨k0,k1,k2,k3⟩:=blk2 HKO.out.1
    have d1:¬(ls.length:Int)<(ls.length:Int):=by omega
    have i5:(ro:Int)<(ls.length:Int):=by omega
    have i6:(0:Int)≤(ro:Int):=by omega
    clear hpp hpz
    go_wp2_with (first
     |(go_at_call 92;(with_reducible refine(HTK.out).mono ?_);rintro e w5 ⟨v,rfl,h1,h2,h3⟩;have HQ1:=Lib.hid h1;have HQ2:=Lib.hid h2;have HQ3:=Lib.hid h3;have HK5:=Lib.hid ((h3.block (w.heap.size+1) (by omega)).trans HKO.out.2);clear h1 h2 h3;obtain⟨s0,s1,s2,s3⟩:=blk2 HK5.out)
     |fail)
    have HRS:=Lib.hid (show ∀y,y≠w.heap.size+1→((w5.setCell ⟨w.heap.size+1,0,none⟩ (.slice v.A v.ls.length v.c)).setCell ⟨w.heap.size+1,1,none⟩ (.int .i64 v.root)).heap[y]?=w5.heap[y]? from fun y hy=>(Below.heap_setCell _ _ _ _ hy).trans (Below.heap_setCell _ _ _ _ hy))
    refine bodyPost_ret (v:=.tuple #[v.val,.bool true]) (by simp[results,Tryz.results55,go_sem,s0,s1]) rfl ?_
    unfold MakePost
    refine⟨fun _=>⟨v,rfl,HQ1.out,(HQ2.out.agree (fun y hy _=>HRS.out y (by have hy:b<y:=hy;omega))).mono (fun y _ hy=>by have hy:b<y:=hy;show w.heap.size≤y;omega),?_⟩,fun h=>(by rw[hr]at h;cases h)⟩
    exact(((HBW.out.trans (HB.out.mono (by omega))).trans (HQ3.out.mono (by omega))).setCell (p:=⟨w.heap.size+1,0,none⟩) (Nat.le_succ _) _).setCell (p:=⟨w.heap.size+1,1,none⟩) (Nat.le_succ _) _
end Go.Proofs.YtpfokabdpmjobaaGreatDoor
