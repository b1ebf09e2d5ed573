/- The contract of the arena's taken, first half: what is open, what has been seen. -/
import Derived.Test.YtdnochjajoiooaaGreatDoorAi
namespace Go.Proofs.YtdnochjajoiooaaGreatDoor
open Go.RowKit
set_option linter.unusedSimpArgs false
set_option linter.unusedVariables false
theorem Uf (l:List Ln) (k:Nat) (hk:k<l.length) (A:Option Addr) (c:Nat) (ks:List Int):(ndL.all l).set (k*9+8) (.slice A ks.length c)=ndL.all (l.set k ⟨{l[k].nd with kids:=ks},A,c⟩):=by
 have hlen:∀m:List Ln,(ndL.all m).length=m.length*9:=fun m=>ndL.all_length m
 apply List.ext_getElem?;intro i;by_cases hi:i<l.length*9
 ·have hq:i/9<l.length:=by omega
  have h1:=ndL.all_at (l.set k ⟨{l[k].nd with kids:=ks},A,c⟩) (i/9) (i%9) (by simpa using hq) (show i%9<9 by omega);have h2:=ndL.all_at l (i/9) (i%9) hq (show i%9<9 by omega);rw[show i/9*ndL.size+i%9=i by show i/9*9+i%9=i;omega]at h1 h2;rw[h1,List.getElem?_set];by_cases e:k*9+8=i
  ·have e1:i/9=k:=by omega
   have e2:i%9=8:=by omega
   rw[if_pos e,if_pos (by rw[hlen];omega)];simp only[e1,e2,List.getElem_set_self];rfl
  ·rw[if_neg e,h2];by_cases e1:i/9=k
   ·subst e1;have h8:i%9≠8:=by omega
    have h9:i%9<9:=by omega
    simp only[List.getElem_set_self]
    have:∀j,j<8->(ndL.cells l[i/9])[j]?=(ndL.cells ⟨{l[i/9].nd with kids:=ks},A,c⟩)[j]? :=fun j hj=>by
     have h:j=0\/j=1\/j=2\/j=3\/j=4\/j=5\/j=6\/j=7:=by omega
     rcases h with rfl|rfl|rfl|rfl|rfl|rfl|rfl|rfl <;> rfl
    exact this _ (by omega)
   ·rw[List.getElem_set_ne (by omega)]
 ·rw[List.getElem?_eq_none (by rw[List.length_set,hlen];omega),List.getElem?_eq_none (by rw[hlen,List.length_set];omega)]
structure TakeW (w:World) (b H:Nat) (al:List Nd) (root:Nat) (o seen:List Nat) (V5 V6:Option Addr) (c5 c6:Nat) (ls:List Ln) (wr:World):Prop where
 got:wr.ownsRow (H+1) 3 1 (.slice V5 seen.length c5) seen.length (AG seen)
 stk:wr.ownsRow (H+1) 3 1 (.slice V6 o.length c6) o.length (AG o)
 apart:ApartB V5 V6
 eq:o.flatMap (Ak (Br al))++seen.reverse=Ak (Br al) root
 arena:ArenaS wr b (fun x=>b<x/\Ai V5≠some x/\Ai V6≠some x) ls
 mixed:Mixed al (ls.map Ln.nd)
 done:∀p∈seen,An (ls.map Ln.nd) p=JX al p
 res:wr.heap[H]?=some (.cells #[.slice none 0 0,.int .i64 0] 24 (0,0))
 below:Below b w wr
 size:H+1<=wr.heap.size
def Wa (w:World) (b H:Nat) (al:List Nd) (root:Nat) (v5 v6:Value) (wr:World):Prop:=
 ∃(o seen:List Nat) (V5 V6:Option Addr) (c5 c6 m n:Nat) (ls:List Ln),v5=.slice V5 n c5/\v6=.slice V6 m c6/\m=o.length/\n=seen.length/\Hid (TakeW w b H al root o seen V5 V6 c5 c6 ls wr)
theorem IA {l m:List Nd} (h:Mixed l m) (hZ:AheadZ l):AheadZ m:=fun i n hn k hk=>by
 have hi:i<m.length:=(List.getElem?_eq_some_iff.1 hn).1;have hil:i<l.length:=by rw[<-h.1];exact hi
 have e:An m i=n:=by unfold An;rw[hn];rfl
 rcases h.2 i hil with e2|e2
 ·refine hZ i (An l i) (by unfold An;rw[List.getElem?_eq_getElem hil];rfl) k ?_;rw[<-e2,e];exact hk
 ·rw[e]at e2;subst e2;obtain⟨j,hj,rfl⟩:=List.mem_map.1 hk;have:=Hh hZ.ahead hj;omega
theorem PI {l m:List Nd} (h:Mixed l m) (hA:AR l):∀i,(Ak m i).Sublist (Ak l i)/\ ∀kind,(kind=4\/kind=5)->((Ed l kind i).flatMap (Ak m)).Sublist (Ak l i):=by
 have hM:=h.ahead hA;intro i;induction i using Nat.strongRecOn with
 |_ i ih=>
  have h1:(Ak m i).Sublist (Ak l i):=by
   rw[AW hM,AW hA];refine List.Sublist.append ?_ (List.Sublist.refl _);rcases h.kids i with e|e
   ·rw[e];exact Ev fun k hk=>(ih k (hA i k hk)).1
   ·rw[e];unfold B5;by_cases hk:(An l i).kind=4\/(An l i).kind=5
    ·rw[if_pos hk,List.flatMap_assoc];exact Ev fun k hki=>(ih k (hA i k hki)).2 _ hk
    ·rw[if_neg hk];exact Ev fun k hki=>(ih k (hA i k hki)).1
  refine⟨h1,fun kind hk=> ?_⟩;rw[Cg hA];split
  ·rw[List.flatMap_assoc];refine(Ev fun k hki=>(ih k (hA i k hki)).2 kind hk).trans ?_;rw[AW hA];exact List.sublist_append_left _ _
  ·simpa using h1
theorem G9 {l:List Nd} (hA:AR l):∀i j,j∈Ak l i->(Ak l i).Nodup->(Ak l j).Nodup:=by
 intro i;induction i using Nat.strongRecOn with
 |_ i ih=>
  intro j hj hn;have hj2:=hj;rw[AW hA]at hj2;rcases List.mem_append.1 hj2 with h|h
  ·obtain⟨k,hk,hjk⟩:=List.mem_flatMap.1 h;exact ih k (hA i k hk) j hjk (NT hA hk hn)
  ·simp at h;subst h;exact hn
theorem ArenaS.grown {w w':World} {b base n c:Nat} {S S':Nat->Prop} {ls:List Ln} {V:Option Addr} {xs:List Value} (h:ArenaS w b S ls) (hV:w.ownsRow base 3 1 (.slice V n c) n xs) (hg:∀x,x<w.heap.size->Ai V≠some x->w'.heap[x]?=w.heap[x]?)
  (hS:∀x,x<w.heap.size->S x->S' x/\Ai V≠some x):ArenaS w' b S' ls:=by
 obtain⟨U,uc,h1,h2,h3⟩:=h;refine⟨U,uc,(hg b (Av h1) fun e=> ?_).trans h1,Au h2 fun k hk=>hg k (Aq h2 k hk).2 fun e=> ?_,fun l hl=> ?_⟩
 ·obtain⟨cur,hc⟩:=CO hV e;rw[h1]at hc;simp only[Option.some.injEq,Obj.cells.injEq]at hc;exact absurd hc.2.1 (by decide)
 ·obtain⟨cur,hc⟩:=CO hV e;obtain⟨cur2,hc2⟩:=CO h2 hk;rw[hc2]at hc;simp only[Option.some.injEq,Obj.cells.injEq]at hc;exact G7 hc.2.1
 ·exact(((h3 l hl).mono (T:=fun x=>S x/\x<w.heap.size) fun k hk hs=>⟨hs,hk⟩).agree fun x hx hxl=>hg x hxl (hS x hxl hx.1).2).mono fun x hxl hx=>(hS x hx.2 hx.1).1
theorem K1 {w:World} {b1 b2 n1 n2 c1 c2 k:Nat} {U V:Option Addr} {xs ys:List Value} (hU:w.ownsRow b1 3 1 (.slice U n1 c1) n1 xs) (hV:w.ownsRow b2 42 9 (.slice V n2 c2) n2 ys) (h1:Ai U=some k) (h2:Ai V=some k):False:=by
 obtain⟨cur,hc⟩:=CO hU h1;obtain⟨cur2,hc2⟩:=CO hV h2;rw[hc2]at hc;simp only[Option.some.injEq,Obj.cells.injEq]at hc;exact G7 hc.2.1
def Wb (w2:World) (Z1:Nat) (P:List Nat) (ls:List Ln) (i v9:Value) (wr:World):Prop:=
 ∃(k:Nat) (ls':List Ln) (pl:List Value) (V:Option Addr) (vc:Nat),k<=P.length/\i=.int .i64 (k:Int)/\v9=.slice V k vc/\Hid (wr.ownsRow Z1 3 1 (.slice (some ⟨Z1,0,none⟩) ls.length ls.length) ls.length pl)/\Hid (∀j p,j<k->P[j]?=some p->pl[p]?=some (.int .i64 (j:Int))) /\
  Hid (wr.ownsRow (Z1+1) 42 9 (.slice V k vc) k (ndL.all ls'))/\Hid (ls'.map Ln.nd=(P.take k).map (fun p=>AB P (An (ls.map Ln.nd) p)))/\Hid (∀l∈ls',NdOwn wr (fun x=>Z1<x/\Ai V≠some x) l)/\Hid (Below Z1 w2 wr)/\Hid (Z1<wr.heap.size)
def Rn (w3:World) (nb:Nat) (ks:List Value) (v13 v14:Value) (wx:World):Prop:=
 ∃(q:Nat) (U:Option Addr) (uc:Nat),q<=ks.length/\v14=.int .i64 q/\v13=.slice U q uc/\Hid (wx.ownsRow (nb+1) 3 1 (.slice U q uc) q (ks.take q))/\Hid (Below (nb+1) w3 wx)/\Hid (nb+1<=wx.heap.size)
def J6 (b:Nat) (t:Tr) (w:World) (e:Ending) (w':World):Prop:=∃v:Lt,e=.returned v.val/\v.tr=t/\TreeOwn w' (b < ·) v/\Below b w w'
set_option maxRecDepth 100000 in
set_option maxHeartbeats 6400000 in
theorem PJ (b : Nat) (ls0 : List Ln) (root : Nat) (w : World) (hA : ArenaAt w b ls0) (hZ : AheadZ (ls0.map Ln.nd)) (hl : ls0.length <= 16777216) (hi : root < ls0.length) (hnd : (Ak (ls0.map Ln.nd) root).Nodup) :
    Calls Tryz.prog 28 #[.pointer (some ⟨b, 0, none⟩), .int .i64 (root : Int)] w (J6 b (EV ⟨Br (ls0.map Ln.nd), 0⟩ root) w) := by
  obtain ⟨i0, hi0, hz0, hz1, hz2⟩ := info_parts DA;obtain ⟨j0, hj0, hy0, hy1, hy2⟩ := info_parts FK;have hb0 : b < w.heap.size := by obtain ⟨V, c, h, _⟩ := hA; exact Av h
  have HA := qd hA; clear hA;have HND := qd (List.Sublist.nodup (J2 hZ.ahead root) hnd);have HPL := qd (show (Ak (Br (ls0.map Ln.nd)) root).length <= ls0.length from Dk HND.out fun x hx => by have := Cr (Cq hZ.ahead).ahead root x hx; omega);have HMEM := qd (show ∀ p ∈ Ak (Br (ls0.map Ln.nd)) root, p < ls0.length /\ (Ak (ls0.map Ln.nd) p).Nodup from fun p hp => ⟨by have := Cr (Cq hZ.ahead).ahead root p hp; omega, G9 hZ.ahead root p ((J2 hZ.ahead root).subset hp) hnd⟩);go_enter Tryz.func28, Tryz.ntmps28
  go_wp2_with fail
  generalize hH : w.heap.size = H at *;go_loopw [5, 6] (fun v5 v6 wr => Wa w b H (ls0.map Ln.nd) root v5 v6 wr) (fun v5 _ _ => ls0.length - FJ v5)
  case atStart =>
    refine ⟨[root], [], none, some ⟨H + 1, 0, none⟩, 0, 1, 1, 0, ls0, rfl, rfl, rfl, rfl, qd ⟨World.ownsRow_nil _ _ _ _, ?_, ApartB.none _, by simp, ?_, Mixed.refl _, by simp, ?_, ?_, by simp; omega⟩⟩
    · have h := Ad (w.alloc (.cells #[.slice none 0 0, .int .i64 0] 24)) (.cells #[.int .i64 (root : Int)] 3)
      rw [World.size_alloc, hH] at h;exact Ny (cs := AG [root]) h rfl
    · obtain ⟨V, c, h1, h2, h3⟩ := HA.out
      refine ⟨V, c, A7 (A7 h1), World.ownsRow.alloc (World.ownsRow.alloc h2 _) _, fun l hl => ?_⟩;have h4 := ((h3 l hl).mono (T := fun x => b < x /\ x < H) fun k hk hs => ⟨hs, by omega⟩).agree (w' := (w.alloc (.cells #[.slice none 0 0, .int .i64 0] 24)).alloc (.cells #[.int .i64 (root : Int)] 3)) (AF (bx2 w _ _));exact h4.mono fun x _ hx => ⟨hx.1, by simp [Ai], fun e => by have := hx.2; simp [Ai] at e; omega⟩
    · rw [<- hH]; exact A7 (Ad w _)
    · exact (bx2 w _ _).mono (by omega)
  case round =>
    obtain ⟨o, seen, V5, V6, c5, c6, m, n, ls, rfl, rfl, hm, hn, HT⟩ := hrel;have HWB := qd (Ei HT.out.eq);have hlen : ls.length = ls0.length := by have h := HT.out.mixed.1; simpa using h
    rcases List.eq_nil_or_concat o with rfl | ⟨o', i, ho⟩
    · have HEE := qd (KV HT.out.eq)
      have HKB := qd (show ∀ k (hk : k < (Ak (Br (ls0.map Ln.nd)) root).length) z, z ∈ Ab (Br (ls0.map Ln.nd)) (Ak (Br (ls0.map Ln.nd)) root)[k] -> ∃ j, j < k /\ (Ak (Br (ls0.map Ln.nd)) root)[j]? = some z from fun k hk z hz => Iu (Cq hZ.ahead).ahead hk hz);have HNE := qd (EW (Br (ls0.map Ln.nd)) root)
      have HSK := qd (show ∀ p ∈ Ak (Br (ls0.map Ln.nd)) root, An (ls.map Ln.nd) p = An (Br (ls0.map Ln.nd)) p /\ Ab (ls.map Ln.nd) p = Ab (Br (ls0.map Ln.nd)) p from fun p hp => by
        have h1 := HT.out.done p (by rw [<- HEE.out] at hp; simpa using hp);have h2 : An (ls.map Ln.nd) p = An (Br (ls0.map Ln.nd)) p := by rw [h1, K0 _ _ (by have := (HMEM.out p hp).1; simpa using this)]
        exact ⟨h2, by rw [B6, B6, h2]⟩)
      have HKZ := qd (show ∀ p ∈ Ak (Br (ls0.map Ln.nd)) root, ∀ z ∈ (An (ls.map Ln.nd) p).kids, 0 <= z /\ z < (p : Int) from fun p hp z hz => by
        have hpl := (HMEM.out p hp).1;refine IA HT.out.mixed hZ p (An (ls.map Ln.nd) p) ?_ z hz;unfold An;rw [List.getElem?_eq_getElem (by rw [List.length_map]; omega)]; rfl)
      have HTE := qd (show (Ak (Br (ls0.map Ln.nd)) root).map (fun p => AB (Ak (Br (ls0.map Ln.nd)) root) (An (Br (ls0.map Ln.nd)) p)) = (Ak (Br (ls0.map Ln.nd)) root).map (fun p => AB (Ak (Br (ls0.map Ln.nd)) root) (An (ls.map Ln.nd) p)) from List.map_congr_left fun p hp => by rw [(HSK.out p hp).1]);have HKB2 := qd (show ∀ k (hk : k < (Ak (Br (ls0.map Ln.nd)) root).length) z, z ∈ Ab (ls.map Ln.nd) (Ak (Br (ls0.map Ln.nd)) root)[k] -> ∃ j, j < k /\ (Ak (Br (ls0.map Ln.nd)) root)[j]? = some z from fun k hk z hz => HKB.out k hk z (by rw [<- (HSK.out _ (List.getElem_mem hk)).2]; exact hz))
      have HKL0 := qd (show ∀ p ∈ Ak (Br (ls0.map Ln.nd)) root, (Ab (ls.map Ln.nd) p).length <= ls0.length from fun p hp => by
        have hsA := (Cq hZ.ahead).ahead;have h1 := G9 hsA root p hp HND.out;have h2 : (Ak (Br (ls0.map Ln.nd)) p).length <= ls0.length := Dk h1 (fun y hy => by have := Cr hsA p y hy; have := (HMEM.out p hp).1; omega);rw [AW hsA, List.length_append] at h2;have h3 := ID (Br (ls0.map Ln.nd)) (Ab (Br (ls0.map Ln.nd)) p);rw [(HSK.out p hp).2]; omega)
      clear HKB HSK;have hz' := HT.out.arena;have HGOT := qd HT.out.got; have HRES := qd HT.out.res; have HBEL := qd HT.out.below;have hszr := HT.out.size;clear HT HWB;generalize hPd : Ak (Br (ls0.map Ln.nd)) root = P at *;have HPD := qd hPd;clear hPd;have hmem2 : ∀ p ∈ P, p < ls.length := fun p hp => by have := (HMEM.out p hp).1; omega
      have HMEM2 := qd hmem2;have hll : ls.length <= 16777216 := by omega
      have hpl := HPL.out;rw [<- hlen] at hpl;have hsl : seen.length = P.length := by rw [<- HEE.out, List.length_reverse]
      have HSL := qd hsl;obtain rfl : m = 0 := by simpa using hm
      subst hn;clear hm HMEM hmem2 hlen HPL hi hnd hZ;have hpos := HNE.out;rw [hsl] at HGOT;obtain ⟨g5, rfl, hg1, hg2⟩ := BS HGOT.out (by omega);have HRV := qd (Ke g5 c5 (H + 1) (seen.map fun k : Nat => (k : Int)) wr 3 (by rw [List.length_map, <- DE, hsl]; exact HGOT.out));rw [<- List.map_reverse, HEE.out, <- DE] at HRV;simp only [List.length_map, hsl] at HRV;rw [hsl];obtain ⟨AV, avc, hab, hao, hak⟩ := hz';have HARS := qd (show ArenaS wr b (fun x => b < x /\ Ai (some (⟨g5, 0, none⟩ : Addr)) ≠ some x /\ Ai V6 ≠ some x) ls from ⟨AV, avc, hab, hao, hak⟩);have F1 := qd (show i0.bytes * ls.length <= 281474976710656 /\ ls.length <= maxLen from ⟨by rw [hz2]; omega, by unfold maxLen; omega⟩);have F2 := qd (show j0.bytes * P.length <= 281474976710656 /\ P.length <= maxLen from ⟨by rw [hy2]; omega, by unfold maxLen; omega⟩);have HAB := qd hab;clear hab hao hak hsl;have hbH : b < H := hb0;have hbg : b ≠ g5 := by omega
      go_wp2_with (first
        | (go_at_call 53; refine (HRV.out).mono ?_; rintro e w2 ⟨rfl, hown2, hgrow2⟩; have HO1 := qd hown2; have HG1 := qd hgrow2; have HX1 := qd (show ∀ x, x < wr.heap.size -> x ≠ g5 -> w2.heap[x]? = wr.heap[x]? from fun x hx hne => hgrow2.block x hx (fun e => hne (by injection e))); clear hown2 hgrow2; have cb : w2.cell? ⟨b, 0, none⟩ = some (.slice AV ls.length avc) := (by have h := (HX1.out b (Av HAB.out) hbg).trans HAB.out; simp [World.cell?, h]))
        | (at_make; refine wpList_make_full _ rfl _ _ 40 rfl w2.heap.size 3 i0 _ 1 Tryz.underlying40 hi0 hz0 hz1 .i64 .i64 _ _ ls.length rfl rfl rfl rfl F1.out.1 F1.out.2 (Nat.le_refl _) ?_; intro w3 hown3 hgrow3; have HO2 := qd hown3; have HG2 := qd hgrow3; have HB2 := qd (show Below w2.heap.size w2 w3 from (Below.refl _ _).grown hgrow3 (Nat.le_refl _) (fun k e => by cases e)); have HZ3 := qd (show w2.heap.size + 1 <= w3.heap.size from (FA hown3).2); clear hown3 hgrow3)
        | (at_make; refine wpList_make_own _ rfl _ _ 22 rfl (w2.heap.size + 1) 42 j0 _ 9 Tryz.underlying22 hj0 hy0 hy1 .i64 .i64 _ P.length rfl rfl rfl F2.out.1 F2.out.2 HZ3.out ?_; intro w4 hown4 hgrow4; have HO3 := qd hown4; have HG3 := qd hgrow4; clear hown4 hgrow4)
        | fail)
      have HAR2 := qd (show ∀ wx, Below w2.heap.size w2 wx -> ndL.row wx (b < ·) AV ls /\ wx.cell? ⟨b, 0, none⟩ = some (.slice AV ls.length avc) from fun wx hb => by
        have h1 := ArenaS.grown (S' := (b < ·)) HARS.out HGOT.out (fun x hx hne => HX1.out x hx (fun e => hne (by rw [e]; rfl))) (fun x hx hs => ⟨hs.1, hs.2.1⟩);obtain ⟨V2, vc2, h2, h3, h4⟩ := h1;have h5 := (HX1.out b (Av HAB.out) hbg).trans HAB.out;rw [h5] at h2;simp only [Option.some.injEq, Obj.cells.injEq, and_true, Array.mk.injEq, List.cons.injEq, Value.slice.injEq, true_and] at h2;obtain ⟨rfl, rfl⟩ := h2;refine ⟨(J4 h3 h4).below hb, ?_⟩;have h6 := Ae hb h5;simp [World.cell?, h6])
      have HP2 := qd (show ∀ wx, Below w2.heap.size w2 wx -> wx.ownsRow (H + 1) 3 1 (.slice (some ⟨g5, 0, none⟩) P.length c5) P.length (AG P) from fun wx hb => CI HO1.out hb);have HB4 := qd (show Below w2.heap.size w2 w4 from HB2.out.grown HG3.out HB2.out.size (fun k e => by cases e));have HO2' := qd (LM HO2.out HG3.out (fun k _ e => by cases e));have HZ4 := qd (show w2.heap.size < w4.heap.size from by have := HG3.out.size; have := HZ3.out; omega)
      have HBW2 := qd (show Below b w w2 /\ w2.heap[H]? = some (.cells #[.slice none 0 0, .int .i64 0] 24 (0, 0)) /\ H + 1 <= w2.heap.size from
        ⟨HBEL.out.grown HG1.out (by omega) (fun k e => by injection e with e; omega), (HX1.out H (by omega) (by omega)).trans HRES.out, by have := HG1.out.size; omega⟩)
      clear HO2 HG2 HB2 HG3 HO1 HG1 HX1 cb HARS HGOT HAB HRES HBEL HZ3;go_loopw [68, 9] (fun i v9 wx => Wb w2 w2.heap.size P ls i v9 wx) (fun i _ _ => P.length - (intOf i).toNat)
      case atStart => exact ⟨0, [], _, _, _, Nat.zero_le _, rfl, rfl, HO2', qd (fun j p h => by omega), HO3, qd (by simp), qd (by simp), HB4, HZ4⟩
      case round =>
        clear HO2' HO3 HB4 HZ4;obtain ⟨wo, rfl⟩ : ∃ wo : World, wo = wr := ⟨_, rfl⟩;obtain ⟨k, ls', pl, V, vc, hk, rfl, rfl, HPL1, HPLS, HO3, HLS, HOW, HB3, HZ3⟩ := hrel;by_cases hlt : k < P.length
        · have HKP := qd (show P[k]? = some P[k] from List.getElem?_eq_getElem hlt)
          have HKBK := qd (HKB2.out k hlt);have hp := HMEM2.out P[k] (List.getElem_mem hlt);have HKZP := qd (HKZ.out P[k] (List.getElem_mem hlt));have HKLP := qd (HKL0.out P[k] (List.getElem_mem hlt));have HTK := qd (show P.take (k + 1) = P.take k ++ [P[k]] from List.take_succ_eq_append_getElem hlt);have c5k := AX (HP2.out _ HB3.out) k hlt (u := .int .i64 (P[k] : Int)) (by simp [AG, hlt]);generalize P[k] = p at *;have d1 : (k : Int) < (P.length : Int) := by omega
          have d2 : (0 : Int) <= (k : Int) := by omega
          have p1 : (p : Int) < (ls.length : Int) := by omega
          have p2 : (0 : Int) <= (p : Int) := by omega
          obtain ⟨hrow, cbx⟩ := HAR2.out _ HB3.out;obtain ⟨ab, ao, hA, hab1, hab2, x0, x1, x2, x3, x4, x5, x6, x7, x8⟩ := D3 hrow p hp
          have habz : ab < w2.heap.size := by
            obtain ⟨hrow2, _⟩ := HAR2.out _ (Below.refl _ w2);obtain ⟨ab', ao', hA', _, h, _⟩ := D3 hrow2 p hp;rw [hA] at hA'; cases hA'; exact h
          have HNDP := qd (show An (ls.map Ln.nd) p = ls[p].nd from by simp [An, List.getElem?_map, List.getElem?_eq_getElem hp]);have HKID := qd (show Ab (ls.map Ln.nd) p = ls[p].nd.kids.map Int.toNat from by simp [Ab, List.getElem?_map, List.getElem?_eq_getElem hp]);have HWF := qd (Mb hrow p hp);have HKR := qd (show ∀ wx, Below w2.heap.size w2 wx -> Az.row wx (b < ·) ls[p].A ls[p].nd.kids from fun wx h => EX (HAR2.out wx h).1 p hp);rw [HNDP.out] at HKZP
          have HKL := qd (show ls[p].nd.kids.length <= 16777216 from by
            have h1 := HKLP.out;rw [HKID.out, List.length_map] at h1; omega)
          obtain ⟨plp, hplp⟩ : ∃ u, pl[p]? = some u := ⟨_, List.getElem?_eq_getElem (show p < pl.length by have := HPL1.out.1; omega)⟩;have c0 := AX HPL1.out p hp hplp;have c1 := World.ownsRow.frozenAt HPL1.out p;subst hA;have hbz : b < w2.heap.size := AP (HAR2.out _ (Below.refl _ w2)).2;have hg5z : g5 < w2.heap.size := (FA (HP2.out _ (Below.refl _ w2))).2;have hzne1 : ab ≠ w2.heap.size := by omega
          have hzne2 : b ≠ w2.heap.size := by omega
          generalize ls[p] = x at *;have HSZ2 := qd (show ((wo.setCell ⟨w2.heap.size, p, none⟩ (.int .i64 (k : Int))).alloc (.cells #[.int .u8 x.nd.kind, .int .u64 x.nd.s0, .int .u64 x.nd.s1, .int .u64 x.nd.s2, .int .u64 x.nd.s3, .string x.nd.text, .int .i64 x.nd.mn, .int .i64 x.nd.mx, .slice x.A x.nd.kids.length x.c] 42)).heap.size = wo.heap.size + 1 by simp)
          have HBX := qd (show ((wo.setCell ⟨w2.heap.size, p, none⟩ (.int .i64 (k : Int))).alloc (.cells #[.int .u8 x.nd.kind, .int .u64 x.nd.s0, .int .u64 x.nd.s1, .int .u64 x.nd.s2, .int .u64 x.nd.s3, .string x.nd.text, .int .i64 x.nd.mn, .int .i64 x.nd.mx, .slice x.A x.nd.kids.length x.c] 42)).heap[wo.heap.size]? = some (.cells #[.int .u8 x.nd.kind, .int .u64 x.nd.s0, .int .u64 x.nd.s1, .int .u64 x.nd.s2, .int .u64 x.nd.s3, .string x.nd.text, .int .i64 x.nd.mn, .int .i64 x.nd.mx, .slice x.A x.nd.kids.length x.c] 42 (0, 0)) by
            have h := Ad (wo.setCell ⟨w2.heap.size, p, none⟩ (.int .i64 (k : Int))) (.cells #[.int .u8 x.nd.kind, .int .u64 x.nd.s0, .int .u64 x.nd.s1, .int .u64 x.nd.s2, .int .u64 x.nd.s3, .string x.nd.text, .int .i64 x.nd.mn, .int .i64 x.nd.mx, .slice x.A x.nd.kids.length x.c] 42); simpa using h)
          have HW2A := qd (show ∀ y, y < wo.heap.size -> y ≠ w2.heap.size -> ((wo.setCell ⟨w2.heap.size, p, none⟩ (.int .i64 (k : Int))).alloc (.cells #[.int .u8 x.nd.kind, .int .u64 x.nd.s0, .int .u64 x.nd.s1, .int .u64 x.nd.s2, .int .u64 x.nd.s3, .string x.nd.text, .int .i64 x.nd.mn, .int .i64 x.nd.mx, .slice x.A x.nd.kids.length x.c] 42)).heap[y]? = wo.heap[y]? from fun y h1 h2 => (Below.heap_alloc _ _ y (by simpa using h1)).trans (Below.heap_setCell _ _ _ _ h2));have HPL4 := qd (show ((wo.setCell ⟨w2.heap.size, p, none⟩ (.int .i64 (k : Int))).alloc (.cells #[.int .u8 x.nd.kind, .int .u64 x.nd.s0, .int .u64 x.nd.s1, .int .u64 x.nd.s2, .int .u64 x.nd.s3, .string x.nd.text, .int .i64 x.nd.mn, .int .i64 x.nd.mx, .slice x.A x.nd.kids.length x.c] 42)).ownsRow w2.heap.size 3 1 (.slice (some ⟨w2.heap.size, 0, none⟩) ls.length ls.length) ls.length (pl.set p (.int .i64 (k : Int))) from World.ownsRow.alloc (World.ownsRow.stored HPL1.out p (.int .i64 (k : Int))).1 _);have HB5 := qd (show Below w2.heap.size w2 ((wo.setCell ⟨w2.heap.size, p, none⟩ (.int .i64 (k : Int))).alloc (.cells #[.int .u8 x.nd.kind, .int .u64 x.nd.s0, .int .u64 x.nd.s1, .int .u64 x.nd.s2, .int .u64 x.nd.s3, .string x.nd.text, .int .i64 x.nd.mn, .int .i64 x.nd.mx, .slice x.A x.nd.kids.length x.c] 42)) from (HB3.out.setCell (p := ⟨w2.heap.size, p, none⟩) (Nat.le_refl _) _).alloc (by have := HZ3.out; simp; omega) _);have HNB := qd HZ3.out;go_upto_region 16 with (fail)
          generalize ((wo.setCell ⟨w2.heap.size, p, none⟩ (.int .i64 (k : Int))).alloc (.cells #[.int .u8 x.nd.kind, .int .u64 x.nd.s0, .int .u64 x.nd.s1, .int .u64 x.nd.s2, .int .u64 x.nd.s3, .string x.nd.text, .int .i64 x.nd.mn, .int .i64 x.nd.mx, .slice x.A x.nd.kids.length x.c] 42)) = W4 at *;clear x0 x1 x2 x3 x4 x5 x6 x7 x8 c0 c1 c5k cbx hrow;generalize hnb : wo.heap.size = nb at *;have HNBE := qd hnb;clear hnb
          have HPLK := qd (show ∀ z : Nat, z < p -> z ∈ Ab (ls.map Ln.nd) p -> (pl.set p (.int .i64 (k : Int)))[z]? = some (.int .i64 ((P.idxOf z : Nat) : Int)) from fun z hzp hz => by
            obtain ⟨j, hjk, hj⟩ := HKBK.out z hz;rw [List.getElem?_set_ne (by omega), EZ HND.out hj];exact HPLS.out j z hjk hj)
          obtain ⟨_, _, _, _, _, _, _, _, y8, _⟩ := BP HBX.out;go_wp2_with fail
          clear y8;have hkl : x.nd.kids.length <= 16777216 := HKL.out;have hksl : (Az.all (AB P x.nd).kids).length = x.nd.kids.length := by rw [Az.all_length]; show (x.nd.kids.map _).length * 1 = _; simp
          have HKSL := qd hksl; clear hksl;go_loopw [13, 87] (fun v13 v14 wx => Rn W4 nb (Az.all (AB P x.nd).kids) v13 v14 wx) (fun _ v14 _ => x.nd.kids.length - (intOf v14).toNat)
          case atStart => exact ⟨0, none, 0, Nat.zero_le _, rfl, rfl, qd (World.ownsRow_nil _ _ _ _), qd (Below.refl _ _), qd (by have := HSZ2.out; omega)⟩
          case round =>
            obtain ⟨wx, rfl⟩ : ∃ wx : World, wx = wr := ⟨_, rfl⟩;obtain ⟨q, U, uc, hq, rfl, rfl, HU, HBXx, HZX⟩ := hrel;rw [HKSL.out] at hq;have HNX := qd ((HBXx.out.block nb (by omega)).trans HBX.out);obtain ⟨_, _, _, _, _, _, _, _, y8, _, _, _, _, _, _, _, _, z8⟩ := BP HNX.out;by_cases hql : q < x.nd.kids.length
            · have HBx2 := qd (show Below w2.heap.size w2 wx from HB5.out.trans (HBXx.out.mono (by have := HNB.out; omega)))
              obtain ⟨kb, ko, hkA, _, hkb, y0⟩ := E9 (HKR.out wx HBx2.out) q hql;have HZQ := qd (HKZP.out x.nd.kids[q] (List.getElem_mem hql));have HKM := qd (show x.nd.kids[q].toNat ∈ Ab (ls.map Ln.nd) p from by rw [HKID.out]; exact List.mem_map.2 ⟨_, List.getElem_mem hql, rfl⟩)
              have HTQ := qd (show (Az.all (AB P x.nd).kids).take (q + 1) = (Az.all (AB P x.nd).kids).take q ++ [.int .i64 ((P.idxOf x.nd.kids[q].toNat : Nat) : Int)] from by
                rw [List.take_succ_eq_append_getElem (by rw [HKSL.out]; exact hql)];congr 1;simp [CX, AB])
              generalize x.nd.kids[q] = z at *;obtain ⟨zz, rfl⟩ := Int.eq_ofNat_of_zero_le HZQ.out.1;have hzp : zz < p := by have := HZQ.out.2; omega
              simp only [Int.toNat_natCast] at HKM HTQ;have c0 := AX (Au HPL4.out (fun y hy => by cases hy; exact HBXx.out.block w2.heap.size (by have := HNB.out; omega))) zz (by omega) (HPLK.out zz hzp HKM.out);rw [hkA] at y8;have i3 : (q : Int) < (x.nd.kids.length : Int) := by omega
              have i4 : (0 : Int) <= (q : Int) := by omega
              have i5 : (zz : Int) < (ls.length : Int) := by omega
              have i6 : (0 : Int) <= (zz : Int) := by omega
              generalize P.idxOf zz = jz at *;have F4 := qd (show q + 1 <= maxLen /\ (q + 1) * 8 <= 140737488355328 /\ nb + 1 <= (wx.alloc (.cells #[.int .i64 (jz : Int)] 3)).heap.size from ⟨by unfold maxLen; omega, by omega, by have := HZX.out; simp; omega⟩);rw [hkA];clear hkA;go_wp2_with (at_builtin; refine Ax _ rfl (.tmp 91) (.tmp 96) 40 rfl (nb + 1) 3 i0 (.int .i64 0) 1 8 Tryz.underlying40 hi0 hz0 hz1 hz2 rfl (by decide) U uc q ((Az.all (AB P x.nd).kids).take q) rfl (World.ownsRow.alloc HU.out _) (some ⟨wx.heap.size, 0, none⟩) 1 1 [.int .i64 (jz : Int)] rfl rfl (Be (Ad wx _)) (fun u hu => by simp only [List.mem_singleton] at hu; subst hu; rfl) F4.out.1 F4.out.2.1 F4.out.2.2 ?_; intro U' uc' w6 HU6 HG6 HA6)
              exact ⟨⟨q + 1, U', uc', by rw [HKSL.out]; omega, by go_num, rfl, qd (by rw [HTQ.out]; exact HU6.out), qd (HBXx.out.trans (((Below.refl _ wx).alloc HZX.out _).trans (Cc (World.ownsRow.alloc HU.out _) HG6.out (Nat.le_refl _) F4.out.2.2))), qd (by have := HG6.out.size; have := F4.out.2.2; omega)⟩, by simp [intOf]; omega⟩
            · obtain rfl : q = x.nd.kids.length := by omega
              have HX7 := qd (Fa (u := (.slice U x.nd.kids.length uc)) HNX.out);have HE7 := qd (show ∀ y, y ≠ nb -> (wx.setCell ⟨nb, 8, none⟩ (.slice U x.nd.kids.length uc)).heap[y]? = wx.heap[y]? from fun y hy => Below.heap_setCell _ _ _ _ hy);have HZ7 := qd (show (wx.setCell ⟨nb, 8, none⟩ (.slice U x.nd.kids.length uc)).heap.size = wx.heap.size from by simp);have HB7 := qd (show Below w2.heap.size w2 (wx.setCell ⟨nb, 8, none⟩ (.slice U x.nd.kids.length uc)) from (HB5.out.trans (HBXx.out.mono (by have := HNB.out; omega))).setCell (p := ⟨nb, 8, none⟩) (by have := HNB.out; show w2.heap.size <= nb; omega) _);go_upto_region 23 with (fail)
              generalize wx.setCell ⟨nb, 8, none⟩ (.slice U x.nd.kids.length uc) = w7 at *;clear y8 z8;have HCH := qd (show ∀ y, y < nb -> y ≠ w2.heap.size -> w7.heap[y]? = wo.heap[y]? from fun y h1 h2 => (HE7.out y (by omega)).trans ((HBXx.out.block y (by omega)).trans (HW2A.out y h1 h2)));have HVB := qd (show ∀ y, Ai V = some y -> w2.heap.size + 1 <= y /\ y < nb from fun y hy => by have h := Aq HO3.out y hy; have := HNBE.out; omega);have HO3b := qd (show (w7.alloc (.cells #[.int .u8 x.nd.kind, .int .u64 x.nd.s0, .int .u64 x.nd.s1, .int .u64 x.nd.s2, .int .u64 x.nd.s3, .string x.nd.text, .int .i64 x.nd.mn, .int .i64 x.nd.mx, .slice U x.nd.kids.length uc] 42)).ownsRow (w2.heap.size + 1) 42 9 (.slice V k vc) k (ndL.all ls') from World.ownsRow.alloc (Au HO3.out (fun y hy => HCH.out y ((HVB.out y hy).2) (by have := (HVB.out y hy).1; omega))) _);have HNO := qd (show ∀ u ∈ ([.int .u8 x.nd.kind, .int .u64 x.nd.s0, .int .u64 x.nd.s1, .int .u64 x.nd.s2, .int .u64 x.nd.s3, .string x.nd.text, .int .i64 x.nd.mn, .int .i64 x.nd.mx, .slice U x.nd.kids.length uc] : List Value), u.oneCell' = true from (fun u hu => by simp only [List.mem_cons, List.not_mem_nil, or_false] at hu; rcases hu with rfl | rfl | rfl | rfl | rfl | rfl | rfl | rfl | rfl <;> rfl));have HFF := qd (show k + 1 <= maxLen /\ (k + 1) * 96 <= 140737488355328 /\ w2.heap.size + 1 <= (w7.alloc (.cells #[.int .u8 x.nd.kind, .int .u64 x.nd.s0, .int .u64 x.nd.s1, .int .u64 x.nd.s2, .int .u64 x.nd.s3, .string x.nd.text, .int .i64 x.nd.mn, .int .i64 x.nd.mx, .slice U x.nd.kids.length uc] 42)).heap.size from ⟨by unfold maxLen; omega, by omega, by have h1 := HZ7.out; have h2 := HZX.out; have := HNB.out; simp; omega⟩);refine wp_region_list ?_;refine Bc rfl (EQ rfl rfl) ?_;refine Bc rfl (Ep rfl rfl (Lc w7 nb _ _ _ _ _ _ _ _ _ _ HX7.out)) ?_;refine Bc rfl (DG rfl rfl (Iv w7 _ _ _ _ _ _ _ _ _)) ?_;refine Ax _ rfl (.tmp 101) (.tmp 103) 22 rfl (w2.heap.size + 1) 42 j0 _ 9 96 Tryz.underlying22 hj0 hy0 hy1 hy2 rfl (by decide) V vc k (ndL.all ls') rfl HO3b.out (some ⟨w7.heap.size, 0, none⟩) 1 1 [.int .u8 x.nd.kind, .int .u64 x.nd.s0, .int .u64 x.nd.s1, .int .u64 x.nd.s2, .int .u64 x.nd.s3, .string x.nd.text, .int .i64 x.nd.mn, .int .i64 x.nd.mx, .slice U x.nd.kids.length uc] rfl rfl (Be (Ad w7 _)) HNO.out HFF.out.1 HFF.out.2.1 HFF.out.2.2 ?_;intro V' vc' w8 HO8 HG8 HA8;simp only [Act.put, List.setIfInBounds_toArray, List.set_cons_zero, List.set_cons_succ];have hz7 := HZ7.out; have hzx := HZX.out; have hnb := HNB.out;have h8s : w7.heap.size + 1 <= w8.heap.size := by have h := HG8.out.size; simpa using h
              have hK8 : ∀ y, y < w7.heap.size -> Ai V ≠ some y -> w8.heap[y]? = w7.heap[y]? := fun y h1 h2 => (HG8.out.block y (by simp; omega) (fun e => h2 e.symm)).trans (Below.heap_alloc _ _ y h1)
              have hVV : ∀ y, y < w7.heap.size -> Ai V ≠ some y -> Ai V' ≠ some y := fun y h1 h2 e => by
                rcases HA8.out with h | h
                · exact h2 (h ▸ e)
                · rw [h] at e; injection e with e; rw [World.size_alloc] at e; omega
              have hB8 : Below w2.heap.size w2 w8 := (HB7.out.alloc (by omega) _).grown HG8.out (by simp; omega) (fun y hy => by have := (HVB.out y hy).1; omega);have hZV : Ai V ≠ some w2.heap.size := fun e => by have := (HVB.out _ e).1; omega
              have HQ8 := qd (And.intro hK8 (And.intro hVV (And.intro hB8 (And.intro hZV h8s))));clear hK8 hVV hB8 hZV h8s;go_wp2_with fail
              obtain ⟨hK8, hVV, hB8, hZV, h8s⟩ := HQ8.out;refine ⟨⟨k + 1, ls' ++ [⟨AB P x.nd, U, uc⟩], pl.set p (.int .i64 (k : Int)), V', vc', hlt, by go_num, rfl, qd ?_, qd ?_, qd ?_, qd ?_, qd ?_, qd hB8, qd (by omega)⟩, by simp only [intOf]; omega⟩
              · exact Au HPL4.out (fun y hy => by cases hy; exact (hK8 w2.heap.size (by omega) hZV).trans ((HE7.out _ (by omega)).trans (HBXx.out.block _ (by omega))))
              · intro j q hj hq
                by_cases e : j = k
                · subst e
                  rw [HKP.out] at hq; cases hq;rw [List.getElem?_set_self (by have := HPL1.out.1; omega)]
                · have h1 := HPLS.out j q (by omega) hq
                  rw [List.getElem?_set_ne (fun e2 => e ?_)]
                  · exact h1
                  · subst e2
                    exact (EZ HND.out hq).symm.trans (EZ HND.out HKP.out)
              · have h := HO8.out
                rw [Lay.all_append, Lay.all_one, show ndL.cells ⟨AB P x.nd, U, uc⟩ = [.int .u8 x.nd.kind, .int .u64 x.nd.s0, .int .u64 x.nd.s1, .int .u64 x.nd.s2, .int .u64 x.nd.s3, .string x.nd.text, .int .i64 x.nd.mn, .int .i64 x.nd.mx, .slice U x.nd.kids.length uc] by simp [ndL, AB]];exact h
              · rw [HTK.out, List.map_append, List.map_append, HLS.out]
                simp [HNDP.out]
              · intro l hl
                rcases List.mem_append.1 hl with hl | hl
                · have h1 := (HOW.out l hl).mono (T := fun y => y < nb /\ w2.heap.size < y /\ Ai V ≠ some y) (fun y a b => ⟨by have := HNBE.out; omega, b⟩)
                  exact (h1.agree (fun y hy _ => (hK8 y (by omega) hy.2.2).trans (HCH.out y hy.1 (by omega)))).mono (fun y _ hy => ⟨hy.2.1, hVV y (by omega) hy.2.2⟩)
                · simp only [List.mem_singleton] at hl
                  subst hl;refine ⟨Hm HWF.out, ?_⟩;have hkl2 : (AB P x.nd).kids.length = x.nd.kids.length := by simp [AB]
                  show OwnS w8 _ _ 1 U (AB P x.nd).kids.length uc (Az.all (AB P x.nd).kids)
                  have h7 : OwnS wx (fun y => nb + 1 <= y /\ y < wx.heap.size) 3 1 U x.nd.kids.length uc (Az.all (AB P x.nd).kids) := by
                    have h := HU.out;rw [List.take_of_length_le (by rw [HKSL.out]; exact Nat.le_refl _)] at h;exact ⟨Cl h (Nat.zero_le _), fun y hy => Aq h y hy⟩
                  rw [hkl2];have hVn : ∀ y, nb + 1 <= y -> Ai V ≠ some y := fun y h e => by have := (HVB.out y e).2; omega
                  exact (h7.agree (fun y hy _ => (hK8 y (by omega) (hVn y hy.1)).trans (HE7.out y (by omega)))).mono (fun y _ hy => ⟨by omega, hVV y (by omega) (hVn y hy.1)⟩)
        · obtain rfl : k = P.length := by omega
          have HKO := qd ((HB3.out.block H (by have := HBW2.out.2.2; omega)).trans HBW2.out.2.1);obtain ⟨s1, s2, s3, s4⟩ := Bd HKO.out;have HLL := qd (show ls'.length = P.length from by have h := congrArg List.length HLS.out; rw [List.length_map, List.length_map, List.length_take, Nat.min_self] at h; exact h);have d1 : ¬ (P.length : Int) < (P.length : Int) := by omega
          have HRS := qd (show ∀ y, y ≠ H -> ((wo.setCell ⟨H, 0, none⟩ (.slice V P.length vc)).setCell ⟨H, 1, none⟩ (.int .i64 ((P.length : Int) - 1))).heap[y]? = wo.heap[y]? from fun y hy => (Below.heap_setCell _ _ _ _ hy).trans (Below.heap_setCell _ _ _ _ hy));have HBF := qd (show Below b w ((wo.setCell ⟨H, 0, none⟩ (.slice V P.length vc)).setCell ⟨H, 1, none⟩ (.int .i64 ((P.length : Int) - 1))) from ((HBW2.out.1.trans (HB3.out.mono (by have := HBW2.out.2.2; omega))).setCell (p := ⟨H, 0, none⟩) (by show b <= H; omega) _).setCell (p := ⟨H, 1, none⟩) (by show b <= H; omega) _);have hH2 := HBW2.out.2.2;go_wp2_with fail
          refine bodyPost_ret (v := .agg #[.slice V P.length vc, .int .i64 ((P.length : Int) - 1)]) (by simp [results, Tryz.results28, go_sem, s1, s2]) rfl ?_;unfold J6;refine ⟨⟨V, vc, ls', (P.length : Int) - 1⟩, by simp only [Lt.val]; rw [HLL.out], ?_, ⟨by show ls'.length <= _; rw [HLL.out]; omega, ?_, fun l hl => ?_⟩, HBF.out⟩
          · show Tr.mk (ls'.map Ln.nd) _ = _
            unfold EV BH;simp only;rw [HPD.out, HLS.out, List.take_length, HTE.out]
          · show OwnS _ _ _ 9 V ls'.length vc (ndL.all ls')
            rw [HLL.out];exact ⟨Au (Cl HO3.out (Nat.zero_le _)) (fun y hy => HRS.out y (by have := (Aq HO3.out y hy).1; omega)), fun y hy => by have := (Aq HO3.out y hy).1; show b < y; omega⟩
          · exact ((HOW.out l hl).agree (fun y hy _ => HRS.out y (by have := hy.1; omega))).mono (fun y _ hy => by have := hy.1; show b < y; omega)
    · rw [List.concat_eq_append] at ho; subst ho
      have hmem : i ∈ Ak (Br (ls0.map Ln.nd)) root := by
        rw [<- HT.out.eq, List.mem_append]; left;exact List.mem_flatMap.2 ⟨i, by simp, by rw [AW (Cq hZ.ahead).ahead]; simp⟩
      have hil := (HMEM.out i hmem).1;have hndi := (HMEM.out i hmem).2;rw [List.length_append, List.length_singleton] at hm;subst hm
      have hmb : o'.length + 1 + n <= ls0.length := by
        have h1 := HWB.out; have h2 := HPL.out;rw [List.length_append, List.length_singleton] at h1; omega
      have hil2 : i < ls.length := by omega
      have hll : ls.length <= 16777216 := by omega
      have HLEN := qd hlen;obtain ⟨vg6, rfl, hg1, hg2⟩ := BS HT.out.stk (by simp);have c0 := AX HT.out.stk o'.length (by simp) (u := .int .i64 (i : Int)) (by simp [AG]);have HPA := qd (fun w' (h : ArenaAt w' b ls) => Ss b ls i w' h (IA HT.out.mixed hZ) (by omega) hil2 (List.Sublist.nodup (PI HT.out.mixed hZ.ahead i).1 hndi));rw [HT.out.mixed.parts hZ.ahead] at HPA;unfold J5 at HPA;obtain ⟨AV, avc, hab, hao, hak⟩ := HT.out.arena;obtain ⟨ag, rfl, hag1, hag2⟩ := BS hao (by omega);have HAB := qd hab; have HAO := qd hao; have HAK := qd hak;clear hab hao hak;have hsz := HT.out.size;have hag5 : Ai V5 ≠ some ag := fun e => K1 HT.out.got HAO.out e rfl
      have hag6 : vg6 ≠ ag := fun e => K1 HT.out.stk HAO.out (k := ag) (by simp [Ai, e]) rfl
      have HS1 := qd (show ∀ w', Below wr.heap.size wr w' -> w'.cell? ⟨b, 0, none⟩ = some (.slice (some ⟨ag, 0, none⟩) ls.length avc) from fun w' hb => by
        have h := Ae hb HAB.out; simp [World.cell?, h])
      have HS2 := qd (show ∀ w' u, Below wr.heap.size wr w' -> (w'.setCell ⟨ag, i * 9 + 8, none⟩ u).cell? ⟨b, 0, none⟩ = some (.slice (some ⟨ag, 0, none⟩) ls.length avc) from fun w' u hb => (World.cell?_of_block (Below.heap_setCell w' ⟨ag, i * 9 + 8, none⟩ u b (by show b ≠ ag; omega))).trans (HS1.out w' hb));have HNDI := qd (HAK.out ls[i] (List.getElem_mem hil2));have i1 : (i : Int) < (ls.length : Int) := by omega
      have i2 : (0 : Int) <= (i : Int) := by omega
      have hcap := Gw HT.out.stk;rw [List.length_append, List.length_singleton] at hcap;have e1 : IntKind.i64.wrap (((o'.length + 1 : Nat) : Int) - 1) = (o'.length : Int) := by rw [IntWalk.i64_in _ (by omega)]; omega
      clear hlen;go_upto_region 5 with (fail)
      clear c0;have HD := qd (Below.refl wr.heap.size wr).drew;have HATD := qd (show ArenaAt wr.drew b ls from (ArenaS.at HT.out.arena (fun x hx => hx.1)).below (Below.refl wr.heap.size wr).drew)
      go_region_held3 (fun w' => w'.cell? ⟨b, 0, none⟩ = some (.slice (some ⟨ag, 0, none⟩) ls.length avc))
        (first | exact HS1.out _ (Below.refl _ _) | exact HS1.out _ HD.out | exact HS1.out _ HB3.out | exact HS2.out _ _ HB3.out | fail) (first
        | (go_at_call 52; (with_reducible refine (HPA.out _ HATD.out).mono ?_); rintro e w3 ⟨V7, c7, rfl, h1, h2, h3⟩; have HQ1 := qd h1; have HQ2 := qd h2; have HB3 := qd (show Below wr.heap.size wr w3 from HD.out.trans h3); have HQF := qd (World.ownsRow.frozenAt (CI HAO.out HB3.out) (i * 9 + 8)); have hfz := HQF.out; have hcl := (Ro (CI HAO.out HB3.out) i hil2).2.2.2.2.2.2.2.2; clear h1 h2 h3)
        | fail)
      have HPE := qd (HT.out.mixed.parts hZ.ahead i);have HPLT := qd (show ∀ k ∈ B5 (ls0.map Ln.nd) i, k < i from fun k hk => Hh hZ.ahead hk);have HKS := qd (DM (ls0.map Ln.nd) hZ.ahead i);have HE2 := qd (J7 (Cq hZ.ahead).ahead HT.out.eq);rw [HKS.out] at HE2
      have HSN := qd (show ({ ls[i].nd with kids := (B5 (ls0.map Ln.nd) i).map fun k : Nat => (k : Int) } : Nd) = JX (ls0.map Ln.nd) i from by
        have e1 : An (ls.map Ln.nd) i = ls[i].nd := by simp [An, hil2]
        rcases HT.out.mixed.2 i (by simpa using hil) with e | e
        · rw [<- e1, e]; rfl
        · rw [<- e1, e]; rfl)
      have hpb : o'.length + (B5 (ls0.map Ln.nd) i).length + (n + 1) <= ls0.length := by
        have h1 := Ei HE2.out; have h2 := HPL.out;simp only [List.length_append, List.length_singleton] at h1; omega
      generalize hPL : B5 (ls0.map Ln.nd) i = PL at *;have HST := qd (World.ownsRow.stored (CI HAO.out HB3.out) (i * 9 + 8) (.slice V7 PL.length c7)).1;have hsk := Uf ls i hil2 V7 c7 (PL.map fun k : Nat => (k : Int));rw [List.length_map] at hsk;rw [hsk] at HST;clear hsk;have HK4 := qd (show ∀ x, x < wr.heap.size -> x ≠ ag -> (w3.setCell ⟨ag, i * 9 + 8, none⟩ (.slice V7 PL.length c7)).heap[x]? = wr.heap[x]? from fun x hx hne => (Below.heap_setCell _ _ _ _ hne).trans (HB3.out.block x hx));have HK5 := qd (show ∀ x, x ≠ ag -> (w3.setCell ⟨ag, i * 9 + 8, none⟩ (.slice V7 PL.length c7)).heap[x]? = w3.heap[x]? from fun x hne => Below.heap_setCell _ _ _ _ hne);have HZ4 := qd (show (w3.setCell ⟨ag, i * 9 + 8, none⟩ (.slice V7 PL.length c7)).heap.size = w3.heap.size from by simp);have HBW4 := qd (show Below b w (w3.setCell ⟨ag, i * 9 + 8, none⟩ (.slice V7 PL.length c7)) from (HT.out.below.trans (HB3.out.mono (by omega))).setCell (p := ⟨ag, i * 9 + 8, none⟩) (by show b <= ag; omega) _);generalize w3.setCell ⟨ag, i * 9 + 8, none⟩ (.slice V7 PL.length c7) = W4 at *;have hw34 := HB3.out.size;have hz4 := HZ4.out;have H5 := qd (show W4.ownsRow (H + 1) 3 1 (.slice V5 seen.length c5) seen.length (AG seen) from Au HT.out.got fun k hk => HK4.out k (Aq HT.out.got k hk).2 (fun e => hag5 (e ▸ hk)))
      have H6 := qd (show W4.ownsRow (H + 1) 3 1 (.slice (some ⟨vg6, 0, none⟩) o'.length c6) o'.length (AG o') from by
        have h := Hz HT.out.stk (m := o'.length) (by simp);rw [BI, Nat.mul_one, List.take_left' (DP _)] at h;exact Au h fun k hk => HK4.out k (Aq h k hk).2 (fun e => by simp only [Ai, Option.map_some, Option.some.injEq] at hk; omega))
      have H7 := qd (show OwnS W4 (b < ·) 3 1 V7 PL.length c7 (AG PL) from by
        refine ⟨Au HQ1.out.1 fun k hk => HK5.out k fun e => ?_, HQ1.out.2⟩;exact K1 HQ1.out.1 (CI HAO.out HB3.out) hk (by rw [e]; rfl))
      have HAR4 := qd (show ArenaS W4 b (fun x => b < x /\ Ai V5 ≠ some x /\ Ai (some ⟨vg6, 0, none⟩) ≠ some x) (ls.set i ⟨{ ls[i].nd with kids := PL.map fun k : Nat => (k : Int) }, V7, c7⟩) from by
        refine ⟨some ⟨ag, 0, none⟩, avc, ?_, ?_, fun l hl => ?_⟩
        · rw [List.length_set]; exact (HK4.out b (Av HAB.out) (by omega)).trans HAB.out
        · rw [List.length_set]; exact HST.out
        · rcases List.mem_or_eq_of_mem_set hl with hl | rfl
          · have h1 := (HAK.out l hl).agree (AF HB3.out)
            refine ⟨h1.1, ?_⟩;refine ⟨Au h1.2.1 fun k hk => HK5.out k fun e => ?_, h1.2.2⟩;exact K1 h1.2.1 (CI HAO.out HB3.out) hk (by rw [e]; rfl)
          · have hwf := HNDI.out.1
            refine ⟨⟨hwf.1, hwf.2.1, by show (PL.map _).length <= _; rw [List.length_map]; omega, hwf.2.2.2⟩, ?_⟩;show OwnS W4 _ _ 1 V7 (PL.map fun k : Nat => (k : Int)).length c7 (Az.all (PL.map fun k : Nat => (k : Int)));rw [List.length_map, CX, <- DE];refine ⟨H7.out.1, fun k hk => ⟨H7.out.2 k hk, ?_⟩⟩;rcases HQ2.out k hk with h | h
            · have h : wr.heap.size <= k := h
              refine ⟨fun e => by have := (Aq HT.out.got k e).2; omega, fun e => ?_⟩;simp only [Ai, Option.map_some, Option.some.injEq] at e; omega
            · exact (HNDI.out.2.2 k h).2)
      have hnr : i < (ls.set i ⟨{ ls[i].nd with kids := PL.map fun k : Nat => (k : Int) }, V7, c7⟩).length := by rw [List.length_set]; exact hil2
      have c8 := (Ro HST.out i hnr).2.2.2.2.2.2.2.2;rw [List.getElem_set_self] at c8;simp only [List.length_map] at c8;have cb : W4.cell? ⟨b, 0, none⟩ = some (.slice (some ⟨ag, 0, none⟩) ls.length avc) := by have h := (HK4.out b (Av HAB.out) (by omega)).trans HAB.out; simp [World.cell?, h]
      have HSB := qd (show ∀ w' : World, (∀ x, x < W4.heap.size -> x ≠ vg6 -> w'.heap[x]? = W4.heap[x]?) -> w'.cell? ⟨b, 0, none⟩ = some (.slice (some ⟨ag, 0, none⟩) ls.length avc) /\ w'.cell? ⟨ag, i * 9 + 8, none⟩ = some (.slice V7 PL.length c7) from
        fun w' hb => ⟨(World.cell?_of_block (hb b (AP cb) (by show b ≠ vg6; omega))).trans cb, (World.cell?_of_block (hb ag (AP c8) (fun e => hag6 e.symm))).trans c8⟩)
      clear cb c8;have HCUT := qd (show W4.drew.ownsRow (H + 1) 3 1 (.slice (some ⟨vg6, 0, none⟩) o'.length c6) o'.length (AG o') from H6.out);have HROW := qd (show RowAt W4.drew V7 (AG PL) from H7.out.row.1);have F := qd (show o'.length + PL.length <= maxLen /\ (o'.length + PL.length) * 8 <= 140737488355328 /\ H + 1 <= W4.drew.heap.size from ⟨by unfold maxLen; omega, by omega, by show H + 1 <= W4.heap.size; omega⟩);have e3 : (o'.length : Int) <= (c6 : Int) := by omega
      have e4 : (0 : Int) <= (o'.length : Int) := by omega
      have e6 : IntKind.i64.wrap ((o'.length : Int) + 1 - 1) = (o'.length : Int) := by rw [IntWalk.i64_in _ (by omega)]; omega
      have e5 : IntKind.i64.wrap (o'.length : Int) = (o'.length : Int) := IntWalk.i64_in _ (by omega);clear e1;clear HS1 HS2 HPA hfz hcl;go_upto_region 6 with (fail)
      go_region_held3 (fun w' => w'.cell? ⟨b, 0, none⟩ = some (.slice (some ⟨ag, 0, none⟩) ls.length avc) /\ w'.cell? ⟨ag, i * 9 + 8, none⟩ = some (.slice V7 PL.length c7))
        (first | exact HSB.out _ (fun x _ _ => rfl) | exact HSB.out _ HX2.out | fail)
        ((refine Bm (by rfl) (.tmp 41) (.tmp 49) 40 (by rfl) (H + 1) 3 i0 (.int .i64 0) 1 8 Tryz.underlying40 hi0 hz0 hz1 hz2 rfl (by decide) (some ⟨vg6, 0, none⟩) c6 o'.length (AG o') (by rfl) HCUT.out V7 PL.length c7 (AG PL) (by rfl) (by rw [DP, Nat.mul_one]) HROW.out (FI _) F.out.1 F.out.2.1 F.out.2.2 ?_
          intro V' vc' w5 HO5 HG5 HA5;have HX2 := qd (show ∀ x, x < W4.heap.size -> x ≠ vg6 -> w5.heap[x]? = W4.heap[x]? from fun x hx hne => HG5.out.block x hx (fun e => hne (by simp only [Ai, Option.map_some, Option.some.injEq] at e; exact e)))))
      have hA5 := HA5.out;have hw5 := HG5.out.size;have hw5 : W4.heap.size <= w5.heap.size := hw5;have hx2 := HX2.out;have hvg : ∀ x, Ai (some (⟨vg6, 0, none⟩ : Addr)) = some x -> x = vg6 := fun x e => by simp only [Ai, Option.map_some, Option.some.injEq] at e; exact e.symm
      have h5lt : ∀ x, Ai V5 = some x -> H + 1 <= x /\ x < W4.heap.size := fun x hx => Aq H5.out x hx
      have h5vg : ∀ x, Ai V5 = some x -> x ≠ vg6 := fun x hx e => HT.out.apart x hx (by rw [e]; rfl)
      have H55 := qd (show w5.ownsRow (H + 1) 3 1 (.slice V5 seen.length c5) seen.length (AG seen) from Au H5.out fun k hk => hx2 k (h5lt k hk).2 (h5vg k hk));have HAPV := qd (show ApartB V5 V' from (ApartB.grown (n := W4.heap.size) HT.out.apart.symm (fun k hk => (h5lt k hk).2) hA5).symm)
      have HAR5 := qd (ArenaS.grown (S' := fun x => b < x /\ Ai V5 ≠ some x /\ Ai V' ≠ some x) HAR4.out H6.out (fun x hx hne => hx2 x hx (fun e => hne (by rw [e]; rfl))) fun x hx hs => ⟨⟨hs.1, hs.2.1, fun e => by
        rcases hA5 with h | h
        · exact hs.2.2 (h ▸ e)
        · rw [h] at e; injection e with e
          have h9 : W4.drew.heap.size = W4.heap.size := rfl;omega⟩, hs.2.2⟩)
      have HBW5 := qd (show Below b w w5 from (HBW4.out.drew).grown HG5.out (by show b <= W4.heap.size; omega) (fun k hk => by have := hvg k hk; omega))
      have HRES := qd (show w5.heap[H]? = some (.cells #[.slice none 0 0, .int .i64 0] 24 (0, 0)) from by
        have hne : H ≠ ag := fun e => by
          obtain ⟨cur2, hc2⟩ := CO HAO.out (k := ag) rfl;rw [<- e, HT.out.res] at hc2;simp only [Option.some.injEq, Obj.cells.injEq] at hc2;exact absurd hc2.2.1 (by decide)
        exact (hx2 H (by omega) (by omega)).trans ((HK4.out H (by omega) hne).trans HT.out.res))
      have F7 := qd (show seen.length + 1 <= maxLen /\ (seen.length + 1) * 8 <= 140737488355328 /\ H + 1 <= (w5.alloc (.cells #[.int .i64 (i : Int)] 3)).heap.size from ⟨by unfold maxLen; omega, by omega, by simp; omega⟩);have HO55 := qd (World.ownsRow.alloc H55.out (.cells #[.int .i64 (i : Int)] 3));have HO5' := qd (show w5.ownsRow (H + 1) 3 1 (.slice V' (o'.length + PL.length) vc') (o'.length + PL.length) (AG (o' ++ PL)) from by rw [BI]; exact HO5.out);clear hA5 hx2 h5vg;go_wp2_with (at_builtin; refine Ax _ rfl (.tmp 51) (.tmp 53) 40 rfl (H + 1) 3 i0 (.int .i64 0) 1 8 Tryz.underlying40 hi0 hz0 hz1 hz2 rfl (by decide) V5 c5 seen.length (AG seen) rfl HO55.out (some ⟨w5.heap.size, 0, none⟩) 1 1 (AG [i]) rfl (by simp [AG]) (Be (Ad w5 _)) (FI _) F7.out.1 F7.out.2.1 F7.out.2.2 ?_; intro V'' vc'' w7 HO7 HG7 HA7)
      have HX7 : ∀ x, x < w5.heap.size -> Ai V5 ≠ some x -> w7.heap[x]? = w5.heap[x]? := fun x hx hne => (HG7.out.block x (by simp; omega) (fun e => hne e.symm)).trans (Below.heap_alloc _ _ x hx)
      have hV'lt : ∀ x, Ai V' = some x -> H + 1 <= x /\ x < w5.heap.size := fun x hx => Aq HO5'.out x hx
      refine ⟨⟨o' ++ PL, seen ++ [i], V'', V', vc'', vc', o'.length + PL.length, seen.length + 1, ls.set i ⟨{ ls[i].nd with kids := PL.map fun k : Nat => (k : Int) }, V7, c7⟩, rfl, rfl, by simp, by simp, qd ⟨?_, ?_, ?_, HE2.out, ?_, ?_, ?_, ?_, ?_, ?_⟩⟩, by simp only [FJ]; omega⟩
      · rw [List.length_append, List.length_singleton, BI]; exact HO7.out
      · rw [List.length_append]
        exact Au HO5'.out fun k hk => HX7 k (hV'lt k hk).2 fun e => HAPV.out k e hk
      · exact ApartB.grown (n := (w5.alloc (.cells #[.int .i64 (i : Int)] 3)).heap.size) HAPV.out (fun k hk => by have := (hV'lt k hk).2; simp; omega) HA7.out
      · refine HAR5.out.grown H55.out HX7 fun x hx hs => ⟨⟨hs.1, fun e => ?_, hs.2.2⟩, hs.2.1⟩
        rcases HA7.out with h | h
        · exact hs.2.1 (h ▸ e)
        · rw [h] at e; injection e with e
          rw [World.size_alloc] at e; omega
      · refine ⟨by rw [List.length_map, List.length_set, List.length_map]; exact HLEN.out, fun j hj => ?_⟩
        by_cases e : j = i
        · subst e
          right
          unfold An;rw [List.getElem?_map, List.getElem?_set_self hil2];exact HSN.out
        · have h := HT.out.mixed.2 j hj
          unfold An at h ⊢;rw [List.getElem?_map, List.getElem?_set_ne (fun e2 => e e2.symm), <- List.getElem?_map];exact h
      · intro p hp
        by_cases e : p = i
        · subst e
          unfold An;rw [List.getElem?_map, List.getElem?_set_self hil2];exact HSN.out
        · have h := HT.out.done p (by rcases List.mem_append.1 hp with h | h; exact h; simp at h; exact absurd h e)
          unfold An at h ⊢;rw [List.getElem?_map, List.getElem?_set_ne (fun e2 => e e2.symm), <- List.getElem?_map];exact h
      · exact (HX7 H (Av HRES.out) fun e => by have := (h5lt H e).1; omega).trans HRES.out
      · exact (HBW5.out.alloc (by omega) _).grown HG7.out (by simp; omega) (fun k hk => by have := (h5lt k hk).1; omega)
      · have := HG7.out.size; rw [World.size_alloc] at this; omega
end Go.Proofs.YtdnochjajoiooaaGreatDoor
/- The contract of expr.Make. -/
namespace Go.Proofs.YtdnochjajoiooaaGreatDoor
open Go.RowKit
set_option linter.unusedSimpArgs false
set_option linter.unusedVariables false
attribute [local go_sem] Lh
def ET:Array Value:= #[.func (.func 49) #[] #[],.func (.func 49) #[] #[],.func (.func 49) #[] #[],.func (.func 49) #[] #[],.func (.func 50) #[] #[],.func (.func 51) #[] #[],.func (.func 49) #[] #[],.func (.func 49) #[] #[],.func (.func 49) #[] #[],.func (.func 49) #[] #[]]
set_option maxRecDepth 100000 in
set_option maxHeartbeats 1600000 in
theorem Oh (w:World):Calls Tryz.prog 27 #[] w fun e w'=>e=.returned (.agg ET)/\Below w.heap.size w w':=by
 go_enter Tryz.func27,Tryz.ntmps27
 go_wp2_with fail
 exact bodyPost_ret (v:=.agg ET) (by simp[results,Tryz.results27,go_sem,ET]) rfl ⟨rfl,bx1 w _⟩
def Ug (W:World) (b cb g n:Nat) (t:Tr) (i:Value) (wr:World):Prop:=
 ∃(k:Nat) (lsA:List Ln) (pl:Nat->Int) (vals:List Value),k<=n/\i=.int .i64 (k:Int)/\Hid (ArenaS wr b (fun x=>b<x/\x≠g) lsA)/\Hid (lsA.length<=k)/\Hid (MakeInv t k (lsA.map Ln.nd) pl)/\Hid (wr.ownsRow (b+1) 3 1 (.slice (some ⟨g,0,none⟩) n n) n vals) /\
  Hid (∀j,j<k->vals[j]?=some (.int .i64 (pl j)))/\Hid (wr.heap[cb]?=some (.cells ET 78 (0,0)))/\Hid (Below b W wr)
theorem St (al:List Nd) (n:Nd) (ks:List Int):(DI al n ks).1.length<=al.length+1:=by
 obtain⟨L,_,h⟩:=Ka al n ks;rcases h with⟨x,_,e⟩|⟨m,_,e⟩ <;> rw[e] <;> simp
theorem Xt {W wx w3:World} {b cb g n k:Nat} {t:Tr} {lsA lsB:List Ln} {pl:Nat->Int} {vals:List Value} {nd:Nd} {ks:List Int} {r:Int} (hk:k<n) (hbg:b<g) (hcg:cb<g) (hbc:b<cb) (hal:lsA.length<=k)
  (hst:MakeInv t (k+1) (DI (lsA.map Ln.nd) nd ks).1 (fun j=>if j=k then(DI (lsA.map Ln.nd) nd ks).2 else pl j)) (hB:lsB.map Ln.nd=(DI (lsA.map Ln.nd) nd ks).1) (hr:r=(DI (lsA.map Ln.nd) nd ks).2)
  (hA:ArenaS w3 b (fun x=>b<x/\x≠g) lsB) (hK:KeptA b wx w3) (hP:wx.ownsRow (b+1) 3 1 (.slice (some ⟨g,0,none⟩) n n) n vals) (hv:∀j,j<k->vals[j]?=some (.int .i64 (pl j)))
  (hc:wx.heap[cb]?=some (.cells ET 78 (0,0))) (hW:Below b W wx):Ug W b cb g n t (.int .i64 ((k:Int)+1)) (w3.setCell ⟨g,k,none⟩ (.int .i64 r)):=by
 have hgb:Ai (some (⟨g,0,none⟩:Addr))≠some b:=fun e=>by simp only[Ai,Option.map_some,Option.some.injEq]at e;omega
 have hP3:=(hK.int (GC hP) hgb).own;have hvl:=hP.1;refine⟨k+1,lsB,_,vals.set k (.int .i64 r),hk,congrArg (Value.int .i64) (by omega),qd ?_,qd ?_,qd (hB▸hst),qd (World.ownsRow.stored hP3 k (.int .i64 r)).1,qd fun j hj=> ?_,qd ?_,qd ((hW.trans hK.1).setCell (p:=⟨g,k,none⟩) (Nat.le_of_lt hbg) _)⟩
 ·exact hA.grown hP3 (fun x hx hne=>Below.heap_setCell _ _ _ _ fun e=>hne (by rw[e];rfl)) fun x hx hs=>⟨hs,fun e=>by simp only[Ai,Option.map_some,Option.some.injEq]at e;exact hs.2 e.symm⟩
 ·have h:=congrArg List.length hB;have h2:=St (lsA.map Ln.nd) nd ks;rw[List.length_map]at h h2;omega
 ·by_cases e:j=k
  ·subst e;rw[List.getElem?_set_self (by omega)];simp[hr]
  ·rw[List.getElem?_set_ne (by omega),hv j (by omega)];simp[e]
 ·refine(Below.heap_setCell _ _ _ _ (by show cb≠g;omega)).trans ((hK.2 cb (Av hc) (by omega) fun⟨cs,m,e⟩=> ?_).trans hc);rw[hc]at e;simp only[Option.some.injEq,Obj.cells.injEq]at e;exact absurd e.2.1 (by decide)
def KT (t:Tr) (w:World) (e:Ending) (w':World):Prop:=
 (AA t=true-> ∃v:Lt,e=.returned (.tuple #[v.val,.bool true])/\v.tr=DC (Bo (den t.nodes t.root.toNat))/\TreeOwn w' (w.heap.size <= ·) v/\Below w.heap.size w w') /\
 (AA t=false->e=.returned (.tuple #[.agg #[.slice none 0 0,.int .i64 0],.bool false])/\Below w.heap.size w w')
set_option maxRecDepth 100000 in
set_option maxHeartbeats 6400000 in
theorem Oi (A:Option Addr) (c:Nat) (ls:List Ln) (root:Int) (S:Nat->Prop) (w:World) (hT:ndL.row w S A ls) (hl:ls.length<=16777216) (ht:CntTab w):
  Calls Tryz.prog 8 #[.agg #[.slice A ls.length c,.int .i64 root]] w (KT ⟨ls.map Ln.nd,root⟩ w):=by
 obtain⟨i0,hi0,hz0,hz1,hz2⟩:=info_parts DA;have HT:=qd hT;have HCT:=qd ht;clear hT ht;have HRG:=qd (fun w' hT ht=>Dl A c ls root S w' hT (by omega) ht);have HB0:=qd (bx2 w (.cells #[.slice A ls.length c,.int .i64 root] 24) (.cells #[.slice none 0 0,.int .i64 0] 24))
 have HK0:=qd (show((w.alloc (.cells #[.slice A ls.length c,.int .i64 root] 24)).alloc (.cells #[.slice none 0 0,.int .i64 0] 24)).heap[w.heap.size]?=some (.cells #[.slice A ls.length c,.int .i64 root] 24 (0,0))/\((w.alloc (.cells #[.slice A ls.length c,.int .i64 root] 24)).alloc (.cells #[.slice none 0 0,.int .i64 0] 24)).heap[w.heap.size+1]?=some (.cells #[.slice none 0 0,.int .i64 0] 24 (0,0))from by
  refine⟨A7 (Ad w _),?_⟩;have h:=Ad (w.alloc (.cells #[.slice A ls.length c,.int .i64 root] 24)) (.cells #[.slice none 0 0,.int .i64 0] 24);rw[World.size_alloc]at h;exact h)
 have HZ0:=qd (show((w.alloc (.cells #[.slice A ls.length c,.int .i64 root] 24)).alloc (.cells #[.slice none 0 0,.int .i64 0] 24)).heap.size=w.heap.size+2 from by simp);rcases hr:AA ⟨ls.map Ln.nd,root⟩with _|_
 ·rw[hr]at HRG;go_enter Tryz.func8,Tryz.ntmps8
  go_wp2_with (first
   |(go_at_call 17;refine(HRG.out _ (HT.out.below HB0.out) (HCT.out.below HB0.out)).mono ?_;rintro e w1 ⟨rfl,hb⟩;have HB1:=qd (Below.step HB0.out hb);have HK1:=qd (And.intro (Ae hb HK0.out.1) (Ae hb HK0.out.2));clear hb;obtain⟨k0,k1,k2,k3⟩:=Bd HK1.out.2)
   |fail)
  have HB2:=qd ((HB1.out.setCell (p:=⟨w.heap.size+1,0,none⟩) (Nat.le_succ _) (.slice none 0 0)).setCell (p:=⟨w.heap.size+1,1,none⟩) (Nat.le_succ _) (.int .i64 0));refine bodyPost_ret (v:=.tuple #[.agg #[.slice none 0 0,.int .i64 0],.bool false]) (by simp[results,Tryz.results8,go_sem,k0,k1]) rfl ?_;unfold KT;exact⟨fun h=>(by rw[hr]at h;cases h),fun _=>⟨rfl,HB2.out⟩⟩
 ·rw[hr]at HRG;have HR:=qd ((AM _).1 hr);have F1:=qd (show i0.bytes*ls.length<=281474976710656/\ls.length<=maxLen from⟨by rw[hz2];omega,by unfold maxLen;omega⟩);go_enter Tryz.func8,Tryz.ntmps8
  go_upto_region 5 with(first
   |(go_at_call 17;refine(HRG.out _ (HT.out.below HB0.out) (HCT.out.below HB0.out)).mono ?_;rintro e w1 ⟨rfl,hb⟩;have HB1:=qd (Below.step HB0.out hb);have HK1:=qd (And.intro (Ae hb HK0.out.1) (Ae hb HK0.out.2));have HZ1:=qd (show w.heap.size+2<=w1.heap.size from by have:=hb.size;have:=HZ0.out;omega);clear hb)
   |(go_at_call 27;refine(Oh _).mono ?_;rintro e w2 ⟨rfl,hb⟩;unfold ET;have HB2:=qd hb;clear hb)
   |fail)
  have hW:=Ad w2 (.cells ET 78);have hWB:=bx1 w2 (.cells ET 78);have hWz:(w2.alloc (.cells ET 78)).heap.size=w2.heap.size+1:=by simp
  unfold ET at hW hWB hWz;generalize w2.alloc _=W at *;have ha1:=Ad w1 (.cells #[.slice none 0 0] 76);have HAR0:=qd (Ae (Below.step HB2.out hWB) ha1);have HBW:=qd (show Below w.heap.size w W from Below.step (Below.step (Below.step HB1.out (bx1 w1 _)) HB2.out) hWB)
  have HKW:=qd (show W.heap[w.heap.size]?=some (.cells #[.slice A ls.length c,.int .i64 root] 24 (0,0))/\W.heap[w.heap.size+1]?=some (.cells #[.slice none 0 0,.int .i64 0] 24 (0,0))from
   ⟨Ae (Below.step (Below.step (bx1 w1 _) HB2.out) hWB) HK1.out.1,Ae (Below.step (Below.step (bx1 w1 _) HB2.out) hWB) HK1.out.2⟩)
  have hbcb:w1.heap.size<w2.heap.size:=by have:=HB2.out.size;simp at this;omega
  have HWJ:=qd hW;have hz1':=HZ1.out;clear HB1 HK1 HB2 ha1 hW hWB HB0 HK0 HZ0 HZ1;generalize w1.heap.size=b at *;generalize w2.heap.size=cb at *;have hgcb:cb<W.heap.size:=by omega
  clear hWz;obtain⟨k0,k1,k2,k3⟩:=Bd HKW.out.1
  go_wp2_with (first
   |(at_make;refine wpList_make_full _ rfl _ _ 40 rfl (b+1) 3 i0 _ 1 Tryz.underlying40 hi0 hz0 hz1 .i64 .i64 _ _ ls.length rfl rfl rfl rfl F1.out.1 F1.out.2 (by omega) ?_;intro w3 hown3 hgrow3;have HO3:=qd hown3;have HB3:=qd (show Below W.heap.size W w3 from(Below.refl _ _).grown hgrow3 (Nat.le_refl _) (fun k e=>by cases e));clear hown3 hgrow3;have q0:=(HB3.out.cell (p:=⟨w.heap.size,0,none⟩) (by show w.heap.size<_;omega)).trans k0)
   |fail)
  have HZ3:=qd (show cb+2<=w3.heap.size from by have:=(FA HO3.out).2;omega)
  have HS0:=qd (show Ug W b cb W.heap.size ls.length ⟨ls.map Ln.nd,root⟩ (.int .i64 0) w3 from
   ⟨0,[],fun _=>0,_,Nat.zero_le _,rfl,qd ⟨none,0,(HB3.out.block b (by omega)).trans HAR0.out,World.ownsRow_nil _ _ _ _,by simp⟩,qd (Nat.le_refl _),qd (MakeInv.start _ _),HO3,qd (fun j h=>by omega),qd ((HB3.out.block cb (by omega)).trans HWJ.out),qd (HB3.out.mono (by omega))⟩)
  have HBW2:=qd (show ∀wx,Below b W wx->Below w.heap.size w wx from fun wx h=>HBW.out.trans (h.mono (by omega)));clear HO3 HB3 HAR0 HWJ q0 k0 k1 k2 k3 HZ3;generalize W.heap.size=g at *;go_loopw [24] (fun i wr=>Ug W b cb g ls.length ⟨ls.map Ln.nd,root⟩ i wr) (fun i _=>ls.length-(intOf i).toNat)
  case atStart=>exact HS0.out
  case round=>
   clear HS0;obtain⟨wo,rfl⟩:∃wo:World,wo=wr:=⟨_,rfl⟩;obtain⟨k,lsA,pl,vals,hk,rfl,HAA,HAL,HMI,HPV,HPLV,HCB,HB⟩:=hrel;by_cases hlt:k<ls.length
   ·obtain⟨ab,ao,hA,_,hab2,x0,x1,x2,x3,x4,x5,x6,x7,x8⟩:=D3 (HT.out.below (HBW2.out _ HB.out)) k hlt;have HWF:=qd (Mb HT.out k hlt);have HKR:=qd (show ∀wx,Below b W wx->Az.row wx S ls[k].A ls[k].nd.kids from fun wx h=>EX (HT.out.below (HBW2.out _ h)) k hlt);have HST:=qd (HMI.out.step HR.out (i:=k) (n:=ls[k].nd) (by simp[hlt]));have HKZ:=qd (show ∀z∈ls[k].nd.kids,0<=z/\z<(k:Int)from fun z hz=>Bw HR.out (i:=k) (n:=ls[k].nd) (by simp[hlt]) hz);have HKL:=qd (show ls[k].nd.kids.length<=k from C7 HR.out (i:=k) (n:=ls[k].nd) (by simp[hlt]))
    have HFIT:=qd (show 0<=ls[k].nd.kind/\ls[k].nd.kind<=9 from by
     have h:=DD HR.out (i:=k) (n:=ls[k].nd) (by simp[hlt]);unfold Am at h;by_cases h9:0<=ls[k].nd.kind/\ls[k].nd.kind<=9
     ·exact h9
     ·rw[if_neg (by omega),if_neg (by omega),if_neg (by omega),if_neg (by omega),if_neg (by omega),if_neg (by omega),if_neg (by omega),if_neg (by omega),if_neg (by omega),if_neg (by omega)]at h;cases h)
    have d1:(k:Int)<(ls.length:Int):=by omega
    have d2:(0:Int)<=(k:Int):=by omega
    have HNA:=qd (show wo.heap.size=wo.heap.size from rfl);generalize ls[k]=x at *;have HBX:=qd (Ad wo (.cells #[.int .u8 x.nd.kind,.int .u64 x.nd.s0,.int .u64 x.nd.s1,.int .u64 x.nd.s2,.int .u64 x.nd.s3,.string x.nd.text,.int .i64 x.nd.mn,.int .i64 x.nd.mx,.slice x.A x.nd.kids.length x.c] 42));have HB5:=qd (bx1 wo (.cells #[.int .u8 x.nd.kind,.int .u64 x.nd.s0,.int .u64 x.nd.s1,.int .u64 x.nd.s2,.int .u64 x.nd.s3,.string x.nd.text,.int .i64 x.nd.mn,.int .i64 x.nd.mx,.slice x.A x.nd.kids.length x.c] 42));have HZ5:=qd (show(wo.alloc (.cells #[.int .u8 x.nd.kind,.int .u64 x.nd.s0,.int .u64 x.nd.s1,.int .u64 x.nd.s2,.int .u64 x.nd.s3,.string x.nd.text,.int .i64 x.nd.mn,.int .i64 x.nd.mx,.slice x.A x.nd.kids.length x.c] 42)).heap.size=wo.heap.size+1 from by simp);subst hA;go_upto_region 9 with(fail)
    generalize wo.alloc (.cells #[.int .u8 x.nd.kind,.int .u64 x.nd.s0,.int .u64 x.nd.s1,.int .u64 x.nd.s2,.int .u64 x.nd.s3,.string x.nd.text,.int .i64 x.nd.mn,.int .i64 x.nd.mx,.slice x.A x.nd.kids.length x.c] 42)=W5 at *;clear x0 x1 x2 x3 x4 x5 x6 x7 x8;obtain⟨_,_,_,_,_,_,_,_,y8,_⟩:=BP HBX.out;go_wp2_with fail
    clear y8;generalize hnb:wo.heap.size=nb at *;have HNBE:=qd hnb;clear hnb HNA;have hgnb:g<nb:=by have:=(FA HPV.out).2;have:=HNBE.out;omega
    have hcbnb:cb<nb:=by have:=Av HCB.out;have:=HNBE.out;omega
    have hbnb:b<nb:=by omega
    have hksl:(Az.all (x.nd.kids.map fun z=>pl z.toNat)).length=x.nd.kids.length:=by rw[Az.all_length];show(x.nd.kids.map _).length*1=_;simp
    have HKSL:=qd hksl;clear hksl;go_loopw [9,32] (fun v13 v14 wx=>Rn W5 nb (Az.all (x.nd.kids.map fun z=>pl z.toNat)) v13 v14 wx) (fun _ v14 _=>x.nd.kids.length-(intOf v14).toNat)
    case atStart=>exact⟨0,none,0,Nat.zero_le _,rfl,rfl,qd (World.ownsRow_nil _ _ _ _),qd (Below.refl _ _),qd (by have:=HZ5.out;omega)⟩
    case round=>
     obtain⟨wx,rfl⟩:∃wx:World,wx=wr:=⟨_,rfl⟩;obtain⟨q,U,uc,hq,rfl,rfl,HU,HBXx,HZX⟩:=hrel;rw[HKSL.out]at hq;have HBx2:=qd (show Below b W wx from HB.out.trans ((HB5.out.mono (by omega)).trans (HBXx.out.mono (by omega))))
     have HPX:=qd (show wx.ownsRow (b+1) 3 1 (.slice (some ⟨g,0,none⟩) ls.length ls.length) ls.length vals from Au HPV.out fun y hy=>by
      cases hy;exact(HBXx.out.block g (by omega)).trans (HB5.out.block g hgnb))
     by_cases hql:q<x.nd.kids.length
     ·obtain⟨kb,ko,hkA,_,hkb,y0⟩:=E9 (HKR.out wx HBx2.out) q hql;have HZQ:=qd (HKZ.out x.nd.kids[q] (List.getElem_mem hql))
      have HTQ:=qd (show(Az.all (x.nd.kids.map fun z=>pl z.toNat)).take (q+1)=(Az.all (x.nd.kids.map fun z=>pl z.toNat)).take q++[.int .i64 (pl x.nd.kids[q].toNat)]from by
       rw[List.take_succ_eq_append_getElem (by rw[HKSL.out];exact hql)];congr 1;simp[CX])
      generalize x.nd.kids[q]=z at *;obtain⟨zz,rfl⟩:=Int.eq_ofNat_of_zero_le HZQ.out.1;have hzp:zz<k:=by have:=HZQ.out.2;omega
      simp only[Int.toNat_natCast]at HTQ;have c0:=AX HPX.out zz (by omega) (HPLV.out zz hzp);have i3:(q:Int)<(x.nd.kids.length:Int):=by omega
      have i4:(0:Int)<=(q:Int):=by omega
      have i5:(zz:Int)<(ls.length:Int):=by omega
      have i6:(0:Int)<=(zz:Int):=by omega
      have hkl2:=HKL.out;generalize pl zz=pz at *;have F4:=qd (show q+1<=maxLen/\(q+1)*8<=140737488355328/\nb+1<=(wx.alloc (.cells #[.int .i64 pz] 3)).heap.size from⟨by unfold maxLen;omega,by omega,by have:=HZX.out;simp;omega⟩);rw[hkA];clear hkA;go_wp2_with (at_builtin;refine Ax _ rfl (.tmp 36) (.tmp 41) 40 rfl (nb+1) 3 i0 (.int .i64 0) 1 8 Tryz.underlying40 hi0 hz0 hz1 hz2 rfl (by decide) U uc q ((Az.all (x.nd.kids.map fun z=>pl z.toNat)).take q) rfl (World.ownsRow.alloc HU.out _) (some ⟨wx.heap.size,0,none⟩) 1 1 [.int .i64 pz] rfl rfl (Be (Ad wx _)) (fun u hu=>by simp only[List.mem_singleton]at hu;subst hu;rfl) F4.out.1 F4.out.2.1 F4.out.2.2 ?_;intro U' uc' w6 HU6 HG6 HA6)
      exact⟨⟨q+1,U',uc',by rw[HKSL.out];omega,by go_num,rfl,qd (by rw[HTQ.out];exact HU6.out),qd (HBXx.out.trans (((Below.refl _ wx).alloc HZX.out _).trans (Cc (World.ownsRow.alloc HU.out _) HG6.out (Nat.le_refl _) F4.out.2.2))),qd (by have:=HG6.out.size;have:=F4.out.2.2;omega)⟩,by simp[intOf];omega⟩
     ·obtain rfl:q=x.nd.kids.length:=by omega
      have HNX:=qd ((HBXx.out.block nb (by omega)).trans HBX.out);have HCX:=qd (show wx.heap[cb]?=some (.cells ET 78 (0,0))from(HBXx.out.block cb (by omega)).trans ((HB5.out.block cb hcbnb).trans HCB.out));have HAX:=qd (show ArenaS wx b (fun x=>b<x/\x≠g) lsA from(HAA.out.below (by rw[HNBE.out];exact HB5.out)).below (Below.mono HBXx.out (by have:=HZ5.out;omega)));have hul:(x.nd.kids.map fun z=>pl z.toNat).length=x.nd.kids.length:=by simp
      have HOU:=qd (show OwnS wx (fun x=>b<x/\x≠g) 3 1 U x.nd.kids.length uc (Az.all (x.nd.kids.map fun z=>pl z.toNat))from by
       have h:=HU.out;rw[List.take_of_length_le (by rw[HKSL.out];exact Nat.le_refl _)]at h;exact⟨Cl h (Nat.zero_le _),fun y hy=>by have:=(Aq h y hy).1;exact⟨by omega,by omega⟩⟩)
      have HKB:=qd (show ∀z∈(x.nd.kids.map fun z=>pl z.toNat),0<=z/\z<(lsA.length:Int)from fun z hz=>by
       obtain⟨y,hy,rfl⟩:=List.mem_map.1 hz;have h1:=HKZ.out y hy;have h2:=HMI.out.nonneg y.toNat (by omega);have h3:=(HMI.out.rep y.toNat (by omega)).lt;rw[List.length_map]at h3;omega)
      have hal:=HAL.out;have hkl:=HKL.out;have hkn:=HFIT.out;obtain⟨plp,hplp⟩:∃u,vals[k]?=some u:=⟨_,List.getElem?_eq_getElem (show k<vals.length by have:=HPV.out.1;omega)⟩;obtain⟨y0,y1,y2,y3,y4,y5,y6,y7,y8,_⟩:=BP HNX.out;have n1:(0:Int)<=x.nd.kind:=hkn.1;have n2:x.nd.kind<10:=by omega
      generalize hks:(x.nd.kids.map fun z=>pl z.toNat)=ks at *;have hgb:Ai (some (⟨g,0,none⟩:Addr))≠some b:=fun e=>by simp only[Ai,Option.map_some,Option.some.injEq]at e;omega
      have hSS:∀y,(fun y=>b<y/\y≠g) y->b<y:=fun y hy=>hy.1
      have HSS:=qd hSS;have HAXD:=qd (show ArenaS wx.drew b (fun x=>b<x/\x≠g) lsA from HAX.out.below (Below.refl wx.heap.size wx).drew);have HPXD:=qd (show OwnS wx.drew (b+1 <= ·) 3 1 (some ⟨g,0,none⟩) ls.length ls.length vals from GC (show wx.drew.ownsRow _ _ _ _ _ _ from HPX.out));have HFIN:=qd (fun w3 lsB r h1 h2 h3 h4=>Xt (W:=W) (wx:=wx.drew) (w3:=w3) (lsB:=lsB) (r:=r) hlt (by omega) hgcb hbcb hal HST.out h1 h2 h3 h4 (show wx.drew.ownsRow _ _ _ _ _ _ from HPX.out) HPLV.out (show wx.drew.heap[cb]?=_ from HCX.out) HBx2.out.drew);have hbg:b<g:=by omega
      have hgx:g<wx.heap.size:=(FA HPX.out).2
      have HIR:=qd (show Az.row wx.drew (fun x=>b<x/\x≠g) U ks from by
       have h:=HOU.out;exact⟨(h.agree (w':=wx.drew) (KW _ wx)).row,fun _ _=>trivial⟩)
      clear hSS;by_cases h4:x.nd.kind=4
      ·have H4:=qd h4;clear h4
       have cj:wx.cell? ⟨cb,x.nd.kind.toNat,none⟩=some (.func (.func 50) #[] #[]):=by
        rw[cell_of_row _ _ _ _ _ _ HCX.out];rw[H4.out];rfl
       have HKE:=qd (VZ b (fun x=>b<x/\x≠g) HSS.out lsA x.nd (.slice x.A x.nd.kids.length x.c) ks U uc _ wx.drew (fun y hy=>⟨by have hy:wx.heap.size<=y:=hy;omega,by have hy:wx.heap.size<=y:=hy;omega⟩) HAXD.out HWF.out HIR.out (by omega) HKB.out (by omega));rw[hul]at HKE;unfold BM at HKE;go_upto_region 15 with(fail)
       go_region_law ((go_simp;go_at_call 50;refine(HKE.out).mono ?_;rintro e w3 ⟨lsB,rfl,h1,h2,h3⟩;have HQ1:=qd h1;have HQ2:=qd h2;have HQ3:=qd h3;have HP3:=qd (h3.int HPXD.out hgb).own;have cp:=AX HP3.out k (by omega) hplp;have cf:=World.ownsRow.frozenAt HP3.out k;clear h1 h2 h3))
       all_goals
        go_wp2_with fail
        refine⟨HFIN.out _ lsB _ ?_ ?_ HQ2.out HQ3.out,by simp only[intOf];omega⟩
        ·rw[HQ1.out];unfold DI;rw[if_pos H4.out]
        ·unfold DI;rw[if_pos H4.out]
      ·by_cases h5:x.nd.kind=5
       ·have H5:=qd h5;clear h5
        have cj:wx.cell? ⟨cb,x.nd.kind.toNat,none⟩=some (.func (.func 51) #[] #[]):=by
         rw[cell_of_row _ _ _ _ _ _ HCX.out];rw[H5.out];rfl
        have HKE:=qd (PF b (fun x=>b<x/\x≠g) HSS.out lsA x.nd (.slice x.A x.nd.kids.length x.c) ks U uc _ wx.drew (fun y hy=>⟨by have hy:wx.heap.size<=y:=hy;omega,by have hy:wx.heap.size<=y:=hy;omega⟩) HAXD.out HWF.out HIR.out (by omega) HKB.out (by omega));rw[hul]at HKE;unfold BM at HKE;go_upto_region 15 with(fail)
        go_region_law ((go_simp;go_at_call 51;refine(HKE.out).mono ?_;rintro e w3 ⟨lsB,rfl,h1,h2,h3⟩;have HQ1:=qd h1;have HQ2:=qd h2;have HQ3:=qd h3;have HP3:=qd (h3.int HPXD.out hgb).own;have cp:=AX HP3.out k (by omega) hplp;have cf:=World.ownsRow.frozenAt HP3.out k;clear h1 h2 h3))
        all_goals
         go_wp2_with fail
         refine⟨HFIN.out _ lsB _ ?_ ?_ HQ2.out HQ3.out,by simp only[intOf];omega⟩
         ·rw[HQ1.out];unfold DI;rw[if_neg h4,if_pos H5.out]
         ·unfold DI;rw[if_neg h4,if_pos H5.out]
       ·skip
        have cj:wx.cell? ⟨cb,x.nd.kind.toNat,none⟩=some (.func (.func 49) #[] #[]):=by
         rw[cell_of_row _ _ _ _ _ _ HCX.out];obtain⟨m,hm⟩:=Int.eq_ofNat_of_zero_le n1;rw[hm,Int.toNat_natCast];have:m=0\/m=1\/m=2\/m=3\/m=6\/m=7\/m=8\/m=9:=by omega
         rcases this with rfl|rfl|rfl|rfl|rfl|rfl|rfl|rfl <;> rfl
        have HNO:=qd (show NdOwn wx.drew (fun x=>b<x/\x≠g) ⟨{x.nd with kids:=ks},U,uc⟩from⟨⟨HWF.out.1,HWF.out.2.1,by show ks.length<=_;omega,HWF.out.2.2.2⟩,by show OwnS wx.drew _ _ 1 U ks.length uc (Az.all ks);rw[hul];exact HOU.out.agree (KW _ wx)⟩);have HKE:=qd (Oa b (fun x=>b<x/\x≠g) HSS.out lsA ⟨{x.nd with kids:=ks},U,uc⟩ (.slice x.A x.nd.kids.length x.c) wx.drew HAXD.out HNO.out (by omega));unfold BM at HKE;simp only[Ln.kv]at HKE;rw[hul]at HKE;go_upto_region 15 with(fail)
        go_region_law ((go_simp;go_at_call 49;refine(HKE.out).mono ?_;rintro e w3 ⟨lsB,rfl,h1,h2,h3⟩;have HQ1:=qd h1;have HQ2:=qd h2;have HQ3:=qd h3;have HP3:=qd (h3.int HPXD.out hgb).own;have cp:=AX HP3.out k (by omega) hplp;have cf:=World.ownsRow.frozenAt HP3.out k;clear h1 h2 h3))
        all_goals
         go_wp2_with fail
         refine⟨HFIN.out _ lsB _ ?_ ?_ HQ2.out HQ3.out,by simp only[intOf];omega⟩
         ·rw[HQ1.out];unfold DI;rw[if_neg h4,if_neg h5]
         ·unfold DI;rw[if_neg h4,if_neg h5,List.length_map]
   ·obtain rfl:k=ls.length:=by omega
    have hroot:=HR.out.1;simp only[List.length_map]at hroot;obtain⟨ro,hro⟩:=Int.eq_ofNat_of_zero_le hroot.1;subst hro;have hrl:ro<ls.length:=by omega
    have HMI2:=qd (show MakeInv ⟨ls.map Ln.nd,(ro:Int)⟩ (ls.map Ln.nd).length (lsA.map Ln.nd) pl from by rw[List.length_map];exact HMI.out);have HDN:=qd (HMI2.out.done HR.out (Mu HR.out _ (by simpa using hrl)));have HNP:=qd (HMI2.out.nodup HR.out);simp only[Int.toNat_natCast]at HDN HNP;have hpz:=HMI2.out.nonneg ro (by simpa using hrl);have hplt:=(HMI2.out.rep ro (by simpa using hrl)).lt;rw[List.length_map]at hplt;have c0:=AX HPV.out ro hrl (HPLV.out ro hrl);obtain⟨pp,hpp⟩:=Int.eq_ofNat_of_zero_le hpz;rw[hpp]at c0 HDN HNP hplt;simp only[Int.toNat_natCast]at HDN HNP hplt;have hal:=HAL.out;have HTK:=qd (PJ b lsA pp wo (HAA.out.at fun y hy=>hy.1) HMI2.out.ahead (by omega) hplt HNP.out);rw[HDN.out.2]at HTK;unfold J6 at HTK;have HKO:=qd (And.intro ((HB.out.block w.heap.size (by omega)).trans HKW.out.1) ((HB.out.block (w.heap.size+1) (by omega)).trans HKW.out.2));obtain⟨k0,k1,k2,k3⟩:=Bd HKO.out.1;have d1:¬(ls.length:Int)<(ls.length:Int):=by omega
    have i5:(ro:Int)<(ls.length:Int):=by omega
    have i6:(0:Int)<=(ro:Int):=by omega
    clear hpp hpz
    go_wp2_with (first
     |(go_at_call 28;(with_reducible refine(HTK.out).mono ?_);rintro e w5 ⟨v,rfl,h1,h2,h3⟩;have HQ1:=qd h1;have HQ2:=qd h2;have HQ3:=qd h3;have HK5:=qd ((h3.block (w.heap.size+1) (by omega)).trans HKO.out.2);clear h1 h2 h3;obtain⟨s0,s1,s2,s3⟩:=Bd HK5.out)
     |fail)
    have HRS:=qd (show ∀y,y≠w.heap.size+1->((w5.setCell ⟨w.heap.size+1,0,none⟩ (.slice v.A v.ls.length v.c)).setCell ⟨w.heap.size+1,1,none⟩ (.int .i64 v.root)).heap[y]?=w5.heap[y]? from fun y hy=>(Below.heap_setCell _ _ _ _ hy).trans (Below.heap_setCell _ _ _ _ hy));refine bodyPost_ret (v:=.tuple #[v.val,.bool true]) (by simp[results,Tryz.results8,go_sem,s0,s1]) rfl ?_;unfold KT;refine⟨fun _=>⟨v,rfl,HQ1.out,(HQ2.out.agree (fun y hy _=>HRS.out y (by have hy:b<y:=hy;omega))).mono (fun y _ hy=>by have hy:b<y:=hy;show w.heap.size<=y;omega),?_⟩,fun h=>(by rw[hr]at h;cases h)⟩;exact(((HBW.out.trans (HB.out.mono (by omega))).trans (HQ3.out.mono (by omega))).setCell (p:=⟨w.heap.size+1,0,none⟩) (Nat.le_succ _) _).setCell (p:=⟨w.heap.size+1,1,none⟩) (Nat.le_succ _) _
end Go.Proofs.YtdnochjajoiooaaGreatDoor
