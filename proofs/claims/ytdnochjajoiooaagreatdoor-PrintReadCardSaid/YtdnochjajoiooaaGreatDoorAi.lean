/- The contract of the arena's parts. -/
import Derived.Test.YtdnochjajoiooaaGreatDoorAh
import Derived.Deep.DeepCutAuto
import Derived.Deep.Cut
import Derived.Deep.CutRange
import Derived.Maps.OwnIn
namespace Go.Proofs.YtdnochjajoiooaaGreatDoor
open Go.RowKit Go.Shelf
set_option linter.unusedSimpArgs false
set_option linter.unusedVariables false
attribute [local go_sem] Oper.semAt_some
def OffD (Ds:List Nat) (w w':World):Prop:=w'.drawn=w.drawn/\w'.os=w.os/\w'.tape=w.tape/\w'.output=w.output/\w'.heap.size=w.heap.size/\ ∀x,x∉Ds->w'.heap[x]?=w.heap[x]?
theorem I9 {F:Fence} {n:Nat} {P:Program} {fn:Func} {tmps:Array Value} {R:Ending->World->Prop}:∀(Ds:List Nat) (w:World),Ds.Nodup->(∀D∈Ds,w.heap[D]?=some (.deferred (some []))) ->
  (∀w',OffD Ds w w'->LeavesIn F n P fn tmps R [] .returning w')->LeavesInM F n P fn tmps R (Nt Ds) .returning w
 |[],w,_,_,h=>h w ⟨rfl,rfl,rfl,rfl,rfl,fun _ _=>rfl⟩
 |D::Ds,w,hn,hD,h=>by
  refine⟨by simp,.inl ⟨D,_,rfl,run_takeDeferred (hD D List.mem_cons_self),?_⟩⟩;have hlt:=Av (hD D List.mem_cons_self);refine I9 Ds _ (List.nodup_cons.1 hn).2 (fun D' hD'=> ?_) fun w' hw=>h w' ?_
  ·rw[World.putObj_heap_other (fun e=>(List.nodup_cons.1 hn).1 (by rw[<-e];exact hD'))];exact hD D' (List.mem_cons_of_mem _ hD')
  ·refine⟨hw.1,hw.2.1,hw.2.2.1,hw.2.2.2.1,hw.2.2.2.2.1.trans (by simp),fun x hx=>(hw.2.2.2.2.2 x (fun e=>hx (List.mem_cons_of_mem _ e))).trans (World.putObj_heap_other (fun e=>hx (by rw[e];exact List.mem_cons_self)))⟩
theorem Mw {F:Fence} {n:Nat} {P:Program} {fn:Func} {R:Ending->World->Prop} {a:Act} {w:World} (Ds:List Nat) (ha:a.defers=Nt Ds) (hn:Ds.Nodup) (hD:∀D∈Ds,w.heap[D]?=some (.deferred (some [])))
  (h:∀w',OffD Ds w w'-> ∃v,(results fn a.tmps).run P w'=.ok v w'/\R (.returned v) w'):bodyPostM F n P fn R .ret a w:=by
 show LeavesInM F n P fn a.tmps R a.defers .returning w;rw[ha];exact I9 Ds w hn hD h
theorem OffD.nil {w w':World} (h:OffD [] w w'):w'=w:=by
 obtain⟨h0,h1,h2,h3,h4,h5⟩:=h;have h6:w'.heap=w.heap:=Array.ext_getElem? fun x=>h5 x (by simp)
 cases w;cases w';simp only at h0 h1 h2 h3 h6;subst h0;subst h1;subst h2;subst h3;subst h6;rfl
theorem Sr {l:List Nd} (hA:AR l) (kind:Int):∀i,(Ed l kind i).Sublist (Ak l i):=by
 intro i;induction i using Nat.strongRecOn with
 |_ i ih=>
  rw[Cg hA,AW hA];split
  ·exact(Ev fun k hk=>ih k (hA i k hk)).trans (List.sublist_append_left _ _)
  ·exact List.sublist_append_right _ _
theorem Xs {p:Nat->Prop}:∀n,p n-> ∃m,p m/\ ∀k,p k->m<=k:=by
 intro n;induction n using Nat.strongRecOn with
 |_ n ih=>
  intro h;by_cases hx:∃k,k<n/\p k
  ·obtain⟨k,hk,hp⟩:=hx;exact ih k hk hp
  ·exact⟨n,h,fun k hk=>Nat.le_of_not_lt fun hlt=>hx ⟨k,hlt,hk⟩⟩
theorem PH {P:Program} {Q:Exit->Act->World->Prop} {a:Act} {w:World} {c:Code} (J:Nat->Act->World->Prop) (m:Nat) (h0:J m a w)
  (round:∀m a w,J m a w->c.wp P (Exit.then (fun a' w'=>∃m',m'<m/\J m' a' w') Q) a w):(Code.loop c).wp P Q a w:=by
 classical
 have hmin:∀a w,(∃n,J n a w)-> ∃m,J m a w/\ ∀k,J k a w->m<=k:=fun a w ⟨n,h⟩=>Xs n h
 let μ:Act->World->Nat:=fun a w=>if h:∃n,J n a w then Classical.choose (hmin a w h)else 0
 have hμ:∀a w,(∃n,J n a w)->J (μ a w) a w/\ ∀k,J k a w->μ a w<=k:=fun a w h=>by
  have hs:=Classical.choose_spec (hmin a w h);have e:μ a w=Classical.choose (hmin a w h):=dif_pos h;rw[e];exact hs
 refine wp_loop (fun a w=>∃n,J n a w) μ ⟨m,h0⟩ fun a w h=> ?_
 refine Code.wp_mono (fun e a' w' hq=> ?_) (round _ a w (hμ a w h).1);cases e with
 |normal=>
  obtain⟨m,hm,hj⟩:=hq;exact⟨⟨m,hj⟩,Nat.lt_of_le_of_lt ((hμ a' w' ⟨m,hj⟩).2 m hj) hm⟩
 |_=>exact hq
def KR (b node H:Nat) (L:Value) (u:Nat->Value) (Ds:List Nat):Act:={tmps:= #[.pointer (some ⟨b,0,none⟩),.int .i64 (node:Int),u 2,u 3,u 4,.pointer (some ⟨H,0,none⟩),L,.pointer (some ⟨H+1+1,0,none⟩),u 8,u 9,u 10,u 11,u 12,u 13,u 14,u 15,u 16,u 17,u 18,u 19,u 20,u 21,u 22,u 23,u 24,u 25,u 26,u 27,u 28,u 29,u 30,u 31,u 32,u 33,u 34,u 35,u 36,u 37,u 38,u 39,u 40,u 41,u 42,u 43,u 44,u 45,u 46,u 47,u 48,u 49,u 50,u 51,u 52,u 53,u 54,u 55,u 56,u 57,u 58,u 59,u 60,u 61,u 62,u 63,u 64,u 65,u 66,u 67,u 68,u 69,u 70,u 71,u 72,u 73,u 74],defers:=Nt Ds}
theorem G8 (b node H:Nat) (L:Value) (Ds:List Nat) (v2 v3 v4 v8 v9 v10 v11 v12 v13 v14 v15 v16 v17 v18 v19 v20 v21 v22 v23 v24 v25 v26 v27 v28 v29 v30 v31 v32 v33 v34 v35 v36 v37 v38 v39 v40 v41 v42 v43 v44 v45 v46 v47 v48 v49 v50 v51 v52 v53 v54 v55 v56 v57 v58 v59 v60 v61 v62 v63 v64 v65 v66 v67 v68 v69 v70 v71 v72 v73 v74:Value):∃u,({tmps:= #[.pointer (some ⟨b,0,none⟩),.int .i64 (node:Int),v2,v3,v4,.pointer (some ⟨H,0,none⟩),L,.pointer (some ⟨H+1+1,0,none⟩),v8,v9,v10,v11,v12,v13,v14,v15,v16,v17,v18,v19,v20,v21,v22,v23,v24,v25,v26,v27,v28,v29,v30,v31,v32,v33,v34,v35,v36,v37,v38,v39,v40,v41,v42,v43,v44,v45,v46,v47,v48,v49,v50,v51,v52,v53,v54,v55,v56,v57,v58,v59,v60,v61,v62,v63,v64,v65,v66,v67,v68,v69,v70,v71,v72,v73,v74],defers:=Nt Ds}:Act)=KR b node H L u Ds:=
 ⟨fun k=>match k with|2=>v2|3=>v3|4=>v4|8=>v8|9=>v9|10=>v10|11=>v11|12=>v12|13=>v13|14=>v14|15=>v15|16=>v16|17=>v17|18=>v18|19=>v19|20=>v20|21=>v21|22=>v22|23=>v23|24=>v24|25=>v25|26=>v26|27=>v27|28=>v28|29=>v29|30=>v30|31=>v31|32=>v32|33=>v33|34=>v34|35=>v35|36=>v36|37=>v37|38=>v38|39=>v39|40=>v40|41=>v41|42=>v42|43=>v43|44=>v44|45=>v45|46=>v46|47=>v47|48=>v48|49=>v49|50=>v50|51=>v51|52=>v52|53=>v53|54=>v54|55=>v55|56=>v56|57=>v57|58=>v58|59=>v59|60=>v60|61=>v61|62=>v62|63=>v63|64=>v64|65=>v65|66=>v66|67=>v67|68=>v68|69=>v69|70=>v70|71=>v71|72=>v72|73=>v73|74=>v74|_=>undef,rfl⟩
def KS (B:Nat) (v:Value) (u:Nat->Value):Act:={tmps:= #[u 0,u 1,u 2,u 3,u 4,u 5,u 6,.pointer (some ⟨B,0,none⟩),u 8,u 9,v,u 11,u 12,u 13,u 14,u 15,u 16,u 17,u 18,u 19,u 20,u 21,u 22,u 23,u 24,u 25,u 26,u 27,u 28,u 29,u 30,u 31,u 32,u 33,u 34,u 35,u 36,u 37,u 38,u 39,u 40,u 41,u 42,u 43,u 44,u 45,u 46,u 47,u 48,u 49,u 50,u 51,u 52,u 53,u 54,u 55,u 56,u 57,u 58,u 59,u 60,u 61,u 62,u 63,u 64,u 65,u 66,u 67,u 68,u 69,u 70,u 71,u 72,u 73,u 74],defers:=[]}
theorem Oe (B:Nat) (v:Value) (v0 v1 v2 v3 v4 v5 v6 v8 v9 v11 v12 v13 v14 v15 v16 v17 v18 v19 v20 v21 v22 v23 v24 v25 v26 v27 v28 v29 v30 v31 v32 v33 v34 v35 v36 v37 v38 v39 v40 v41 v42 v43 v44 v45 v46 v47 v48 v49 v50 v51 v52 v53 v54 v55 v56 v57 v58 v59 v60 v61 v62 v63 v64 v65 v66 v67 v68 v69 v70 v71 v72 v73 v74:Value):∃u,({tmps:= #[v0,v1,v2,v3,v4,v5,v6,.pointer (some ⟨B,0,none⟩),v8,v9,v,v11,v12,v13,v14,v15,v16,v17,v18,v19,v20,v21,v22,v23,v24,v25,v26,v27,v28,v29,v30,v31,v32,v33,v34,v35,v36,v37,v38,v39,v40,v41,v42,v43,v44,v45,v46,v47,v48,v49,v50,v51,v52,v53,v54,v55,v56,v57,v58,v59,v60,v61,v62,v63,v64,v65,v66,v67,v68,v69,v70,v71,v72,v73,v74],defers:=[]}:Act)=KS B v u:=
 ⟨fun k=>match k with|0=>v0|1=>v1|2=>v2|3=>v3|4=>v4|5=>v5|6=>v6|8=>v8|9=>v9|11=>v11|12=>v12|13=>v13|14=>v14|15=>v15|16=>v16|17=>v17|18=>v18|19=>v19|20=>v20|21=>v21|22=>v22|23=>v23|24=>v24|25=>v25|26=>v26|27=>v27|28=>v28|29=>v29|30=>v30|31=>v31|32=>v32|33=>v33|34=>v34|35=>v35|36=>v36|37=>v37|38=>v38|39=>v39|40=>v40|41=>v41|42=>v42|43=>v43|44=>v44|45=>v45|46=>v46|47=>v47|48=>v48|49=>v49|50=>v50|51=>v51|52=>v52|53=>v53|54=>v54|55=>v55|56=>v56|57=>v57|58=>v58|59=>v59|60=>v60|61=>v61|62=>v62|63=>v63|64=>v64|65=>v65|66=>v66|67=>v67|68=>v68|69=>v69|70=>v70|71=>v71|72=>v72|73=>v73|74=>v74|_=>undef,rfl⟩
theorem Gh {A A':World} {row:Option Nat} {B k:Nat} {cs:Array Value} {t:TypeId} {m:Nat×Nat} (h:A.heap[k]?=some (.cells cs t m)) (hg:A.grownBy A' row) (hr:∀r,row=some r->B<=r/\ ∃o:Obj,A.heap[r]?=some o/\o.isCells=false):A'.heap[k]?=A.heap[k]? :=
 hg.block k (Av h) fun e=>by obtain⟨_,o,ho,hc⟩:=hr k e.symm;rw[h]at ho;cases ho;cases hc
theorem CO {w:World} {base:Nat} {e:TypeId} {size n c:Nat} {V:Option Addr} {xs:List Value} (h:w.ownsRow base e size (.slice V n c) n xs) {k:Nat} (hk:Ai V=some k):∃cur,w.heap[k]?=some (.cells cur e (0,0)):=by
 rcases h.2 with⟨hv,_⟩|⟨g,cap,cur,hv,hb,hh,_⟩
 ·cases hv;cases hk
 ·cases hv;cases hk;exact⟨cur,hh⟩
theorem Og {A A':World} {row:Option Nat} {B base size n c:Nat} {e:TypeId} {V:Option Addr} {xs:List Value} (h:A.ownsRow base e size (.slice V n c) n xs) (hg:A.grownBy A' row) (hr:∀r,row=some r->B<=r/\ ∃o:Obj,A.heap[r]?=some o/\o.isCells=false):A'.ownsRow base e size (.slice V n c) n xs:=
 Au h fun k hk=>by obtain⟨cur,hc⟩:=CO h hk;exact Gh hc hg hr
structure KidsI (w:World) (H Bn:Nat) (cs:Array Value) (bs:Value) (o' seen:List Nat) (LA:Option Addr) (lc:Nat) (Ds:List Nat) (pre:List (Int×Int)) (W:World):Prop where
 stk:∃V vc,Boxed W (H+1+1) 40 (.slice V (o'.map (fun k:Nat=>(k:Int))++pre.map Prod.snd).length vc)/\W.ownsRow (H+1) 3 1 (.slice V (o'.map (fun k:Nat=>(k:Int))++pre.map Prod.snd).length vc) (o'.map (fun k:Nat=>(k:Int))++pre.map Prod.snd).length (Az.all (o'.map (fun k:Nat=>(k:Int))++pre.map Prod.snd))/\ApartB V LA
 got:W.ownsRow (H+1) 3 1 (.slice LA seen.length lc) seen.length (AG seen)
 bbx:Boxed W Bn 40 bs
 box:W.heap[H]?=some (.cells cs 42 (0,0))
 marks:∀D∈Ds,H+1<=D/\D<Bn/\W.heap[D]?=some (.deferred (some []))
theorem KidsI.kept {w:World} {H Bn:Nat} {cs:Array Value} {bs:Value} {o' seen:List Nat} {LA:Option Addr} {lc:Nat} {Ds:List Nat} {pre:List (Int×Int)} {A A':World} {row:Option Nat} {B:Nat} (h:KidsI w H Bn cs bs o' seen LA lc Ds pre A) (hg:A.grownBy A' row)
  (hr:∀r,row=some r->B<=r/\ ∃o:Obj,A.heap[r]?=some o/\o.isCells=false) (hB:Bn<B):KidsI w H Bn cs bs o' seen LA lc Ds pre A':=by
 obtain⟨⟨V,vc,h1,h2,h3⟩,h4,h5,h6,h7⟩:=h;refine⟨⟨V,vc,(Gh h1 hg hr).trans h1,Og h2 hg hr,h3⟩,Og h4 hg hr,(Gh h5 hg hr).trans h5,(Gh h6 hg hr).trans h6,fun D hD=>⟨(h7 D hD).1,(h7 D hD).2.1,(hg.block D (Av (h7 D hD).2.2) fun e=> ?_).trans (h7 D hD).2.2⟩⟩;have:=(hr D e.symm).1;have:=(h7 D hD).2.1;omega
structure PartsW (w:World) (H:Nat) (cs:Array Value) (al:List Nd) (nk:Int) (node:Nat) (o seen:List Nat) (V LA:Option Addr) (vc lc:Nat) (Ds:List Nat) (wr:World):Prop where
 box:wr.heap[H]?=some (.cells cs 42 (0,0))
 stk:Boxed wr (H+1+1) 40 (.slice V o.length vc)
 own:wr.ownsRow (H+1) 3 1 (.slice V o.length vc) o.length (AG o)
 got:wr.ownsRow (H+1) 3 1 (.slice LA seen.length lc) seen.length (AG seen)
 apart:ApartB V LA
 eq:seen++o.reverse.flatMap (Ed al nk)=Ed al nk node
 nodup:(o.flatMap (Ak al)).Nodup
 bound:∀x∈o,x<al.length
 marks:Ds.Nodup/\ ∀D∈Ds,H+1<=D/\wr.heap[D]?=some (.deferred (some []))
 below:Below H w wr
def Ud (w:World) (b node H:Nat) (cs:Array Value) (al:List Nd) (nk:Int) (m:Nat) (a:Act) (wr:World):Prop:=
 ∃(o seen:List Nat) (V LA:Option Addr) (vc lc:Nat) (Ds:List Nat),(∃u,a=KR b node H (.slice LA seen.length lc) u Ds)/\m=(o.flatMap (Ak al)).length/\PartsW w H cs al nk node o seen V LA vc lc Ds wr
def J5 (b:Nat) (K:Option Addr) (l:List Nat) (w:World) (e:Ending) (w':World):Prop:=∃V c,e=.returned (.slice V l.length c)/\OwnS w' (b < ·) 3 1 V l.length c (AG l)/\(∀k,Ai V=some k->w.heap.size<=k\/Ai K=some k)/\Below w.heap.size w w'
theorem PartsW.pop {w:World} {H:Nat} {cs:Array Value} {al:List Nd} {nk:Int} {node i:Nat} {o seen:List Nat} {V LA:Option Addr} {vc lc:Nat} {Ds:List Nat} {wr:World} (h:PartsW w H cs al nk node (o++[i]) seen V LA vc lc Ds wr):
  Boxed (wr.setCell ⟨H+1+1,0,none⟩ (.slice V o.length vc)) (H+1+1) 40 (.slice V o.length vc)/\(wr.setCell ⟨H+1+1,0,none⟩ (.slice V o.length vc)).ownsRow (H+1) 3 1 (.slice V o.length vc) o.length (AG o) /\
   (wr.setCell ⟨H+1+1,0,none⟩ (.slice V o.length vc)).ownsRow (H+1) 3 1 (.slice LA seen.length lc) seen.length (AG seen)/\(∀D∈Ds,H+1<=D/\(wr.setCell ⟨H+1+1,0,none⟩ (.slice V o.length vc)).heap[D]?=some (.deferred (some []))) /\
   Below H w (wr.setCell ⟨H+1+1,0,none⟩ (.slice V o.length vc))/\(∀x,x<H+1+1->(wr.setCell ⟨H+1+1,0,none⟩ (.slice V o.length vc)).heap[x]?=wr.heap[x]?):=by
 have hne:∀x,x≠H+1+1->(wr.setCell ⟨H+1+1,0,none⟩ (.slice V o.length vc)).heap[x]?=wr.heap[x]? :=fun x hx=>Below.heap_setCell _ _ _ _ hx
 have hrow:∀{U:Option Addr} {n c:Nat} {xs:List Value},wr.ownsRow (H+1) 3 1 (.slice U n c) n xs-> ∀k,Ai U=some k->k≠H+1+1:=fun hU k hk e=>by
  have h1:=h.stk.not_row (by decide) hU;rw[Dw,hk,e]at h1;exact h1 rfl
 have hcut:=Hz h.own (m:=o.length) (by simp);rw[BI,Nat.mul_one,List.take_left' (DP _)]at hcut;refine⟨h.stk.set _,Au hcut fun k hk=>hne k (hrow hcut k hk),Au h.got fun k hk=>hne k (hrow h.got k hk),fun D hD=>⟨(h.marks.2 D hD).1,(hne D fun e=> ?_).trans (h.marks.2 D hD).2⟩,h.below.setCell (p:=⟨H+1+1,0,none⟩) (by show H<=H+1+1;omega) _,fun x hx=>hne x (by omega)⟩;have h1:=(h.marks.2 D hD).2;rw[e,show wr.heap[H+1+1]?=_ from h.stk]at h1;cases h1
set_option maxRecDepth 100000 in
set_option maxHeartbeats 3200000 in
theorem Ue (n:Nat) (hn:3<=n) (b:Nat) (ls:List Ln) (node:Nat) (w:World) (hA:ArenaAt w b ls) (hZ:AheadZ (ls.map Ln.nd)) (hl:ls.length<=4294967296) (hi:node<ls.length) (hnd:(Ak (ls.map Ln.nd) node).Nodup):
  CallsIn Fence.wide n Tryz.prog 52 #[.pointer (some ⟨b,0,none⟩),.int .i64 (node:Int)] w (J5 b ls[node].A (B5 (ls.map Ln.nd) node) w):=by
 have hn1:1<=n:=by omega
 have hn2:1<=n-1:=by omega
 have h12:1<=n-1-1:=by omega
 have hfn:∀k,Fence.wide.fn k:=fun _=>trivial
 obtain⟨i0,hi0,hz0,hz1,hz2⟩:=info_parts DA;obtain⟨V,vc,hw,ho,hk⟩:=hA;have HRW:=qd (J4 ho hk);have HKK:=qd hk;have HW:=qd hw;clear hk ho;have x0:w.cell? ⟨b,0,none⟩=some (.slice V ls.length vc):=by simp[World.cell?,hw]
 obtain⟨g,o,hVe,_,hgl,z0,z1,z2,z3,z4,z5,z6,z7,z8⟩:=D3 HRW.out node hi;subst hVe;have i1:(node:Int)<(ls.length:Int):=by omega
 have i2:(0:Int)<=(node:Int):=by omega
 refine callsIn_of_wp_marks Tryz.func52 rfl trivial ?_ rfl;simp only[Tryz.ntmps52,List.size_toArray,List.length_cons,List.length_nil,Nat.reduceAdd,Nat.reduceSub,Array.replicate_succ,Array.replicate_zero,List.push_toArray,List.append_toArray,List.nil_append,List.cons_append]
 have hpa:B5 (ls.map Ln.nd) node=if ls[node].nd.kind=4\/ls[node].nd.kind=5 then Ed (ls.map Ln.nd) ls[node].nd.kind node else Ab (ls.map Ln.nd) node:=by
  have hnn:An (ls.map Ln.nd) node=ls[node].nd:=by simp[An,hi]
  unfold B5;rw[hnn,Cg hZ.ahead,hnn,if_pos rfl]
 have HNA:=qd (HKK.out ls[node] (List.getElem_mem hi));by_cases h45:ls[node].nd.kind=4\/ls[node].nd.kind=5
 ·rw[hpa,if_pos h45];clear hpa;have HTG:=qd (show Ed (ls.map Ln.nd) ls[node].nd.kind node=Ed (ls.map Ln.nd) ls[node].nd.kind node from rfl);generalize ls[node].nd.kind=nk at *;have hneq:∃q:Bool,(nk != 4)=q/\(q=true->(nk != 5)=false):=⟨_,rfl,fun h=>by simp at h;simp;omega⟩;obtain⟨q,hq,hq5⟩:=hneq;refine wpIn_wide.2 ?_;go_upto_region 2 with(fail)
  have hbx:=Ad w (.cells #[.int .u8 nk,.int .u64 ls[node].nd.s0,.int .u64 ls[node].nd.s1,.int .u64 ls[node].nd.s2,.int .u64 ls[node].nd.s3,.string ls[node].nd.text,.int .i64 ls[node].nd.mn,.int .i64 ls[node].nd.mx,.slice ls[node].A ls[node].nd.kids.length ls[node].c] 42);have hb1:=bx1 w (.cells #[.int .u8 nk,.int .u64 ls[node].nd.s0,.int .u64 ls[node].nd.s1,.int .u64 ls[node].nd.s2,.int .u64 ls[node].nd.s3,.string ls[node].nd.text,.int .i64 ls[node].nd.mn,.int .i64 ls[node].nd.mx,.slice ls[node].A ls[node].nd.kids.length ls[node].c] 42);have hs1:(w.alloc (.cells #[.int .u8 nk,.int .u64 ls[node].nd.s0,.int .u64 ls[node].nd.s1,.int .u64 ls[node].nd.s2,.int .u64 ls[node].nd.s3,.string ls[node].nd.text,.int .i64 ls[node].nd.mn,.int .i64 ls[node].nd.mx,.slice ls[node].A ls[node].nd.kids.length ls[node].c] 42)).heap.size=w.heap.size+1:=by simp
  generalize (w.alloc (.cells #[.int .u8 nk,.int .u64 ls[node].nd.s0,.int .u64 ls[node].nd.s1,.int .u64 ls[node].nd.s2,.int .u64 ls[node].nd.s3,.string ls[node].nd.text,.int .i64 ls[node].nd.mn,.int .i64 ls[node].nd.mx,.slice ls[node].A ls[node].nd.kids.length ls[node].c] 42))=W1 at *;generalize hH:w.heap.size=H at *;obtain⟨y0,_⟩:=BP hbx;have HBX:=qd hbx;have HB1:=qd hb1;clear hbx hb1 x0 z0 z1 z2 z3 z4 z5 z6 z7 z8;go_cut [25]from 18 to 25 (fun v25 wx=>v25=.bool false/\wx=W1)
  case first=>
   rcases q with _|_;all_goals (try have hq5':=hq5 rfl)
   all_goals go_wp2_with fail
   all_goals go_meet
   all_goals exact⟨rfl,rfl⟩
  case rest=>
   obtain⟨rfl,rfl⟩:=hcut;go_wp2_with fail
   refine PH (Ud w b node H #[.int .u8 nk,.int .u64 ls[node].nd.s0,.int .u64 ls[node].nd.s1,.int .u64 ls[node].nd.s2,.int .u64 ls[node].nd.s3,.string ls[node].nd.text,.int .i64 ls[node].nd.mn,.int .i64 ls[node].nd.mx,.slice ls[node].A ls[node].nd.kids.length ls[node].c] (ls.map Ln.nd) nk) (Ak (ls.map Ln.nd) node).length ?start ?round
   case start=>
    refine⟨[node],[],some ⟨H+1,0,none⟩,none,1,0,[],G8 b node H (.slice none 0 0) [] _ _ _ _ _ _ _ _ _ _ _ _ _ _ _ _ _ _ _ _ _ _ _ _ _ _ _ _ _ _ _ _ _ _ _ _ _ _ _ _ _ _ _ _ _ _ _ _ _ _ _ _ _ _ _ _ _ _ _ _ _ _ _ _ _ _ _ _ _ _,by simp,?_⟩;have ha:(wc.alloc (.cells #[.int .i64 (node:Int)] 3)).heap[H+1]?=some (.cells #[.int .i64 (node:Int)] 3 (0,0)):=by rw[<-hs1];exact Ad wc _
    have hbn:=Boxed.new (wc.alloc (.cells #[.int .i64 (node:Int)] 3)) 40 (.slice (some ⟨H+1,0,none⟩) 1 1);rw[World.size_alloc,hs1]at hbn;exact⟨A7 (A7 HBX.out),hbn,Ny (cs:=AG [node]) (A7 ha) rfl,World.ownsRow_nil _ _ _ _,(ApartB.none _).symm,by simp,by simpa using hnd,by simpa using hi,⟨List.nodup_nil,by simp⟩,(HB1.out.alloc (by omega) _).alloc (by simp;omega) _⟩
   case round=>
    rintro m a wr ⟨o2,seen,V,LA,lvc,lc,Ds,⟨u,rfl⟩,rfl,HP⟩;have HPW:=qd HP;have q0:=HP.stk.cell;have q1:=HP.stk.frozen;unfold KR;rcases List.eq_nil_or_concat o2 with rfl|⟨o',i,ho⟩
    ·clear HP;simp only[List.length_nil]at q0;go_wp2_with fail
     have he:seen=Ed (ls.map Ln.nd) nk node:=by have h:=HPW.out.eq;simpa using h
     refine Mw Ds rfl HPW.out.marks.1 (fun D hD=>(HPW.out.marks.2 D hD).2) fun w' hw'=>⟨.slice LA seen.length lc,by simp[results,Tryz.results52,go_sem],LA,lc,by rw[<-he],?_,fun k hk=>.inl (by have:=(Aq HPW.out.got k hk).1;omega),?_⟩
     ·rw[<-he];refine⟨Cl (Au HPW.out.got fun k hk=>hw'.2.2.2.2.2 k fun hkD=> ?_) (Nat.zero_le _),fun k hk=>by have:=(Aq HPW.out.got k hk).1;show b<k;omega⟩;have h1:=(HPW.out.marks.2 k hkD).2;obtain⟨cur,h2⟩:=CO HPW.out.got hk;rw[h2]at h1;cases h1
     ·rw[hH];exact⟨hw'.2.1.trans HPW.out.below.os,hw'.2.2.1.trans HPW.out.below.tape,hw'.2.2.2.1.trans HPW.out.below.output,by rw[hw'.2.2.2.2.1];exact HPW.out.below.size,fun x hx=>(hw'.2.2.2.2.2 x fun hxD=>by have:=(HPW.out.marks.2 x hxD).1;omega).trans (HPW.out.below.block x hx)⟩
    ·rw[List.concat_eq_append]at ho;subst ho;have hil:=HP.bound i (by simp);rw[List.length_map]at hil
     have hpl:((o'++[i]).flatMap (Ak (ls.map Ln.nd))).length<=ls.length:=Dk HP.nodup fun x hx=>by
      obtain⟨j,hj,hx⟩:=List.mem_flatMap.1 hx;have h1:=Cr hZ.ahead j x hx;have h2:=HP.bound j hj;rw[List.length_map]at h2;omega
     have hol:=ID (ls.map Ln.nd) o'
     have hse:seen.length<=ls.length:=by
      have h1:=congrArg List.length HP.eq;have h2:=(Sr hZ.ahead nk node).length_le;have h3:(Ak (ls.map Ln.nd) node).length<=ls.length:=Dk hnd fun x hx=>by have:=Cr hZ.ahead node x hx;omega
      rw[List.length_append]at h1;omega
     rw[List.flatMap_append,List.length_append]at hpl;simp only[List.flatMap_cons,List.flatMap_nil,List.append_nil]at hpl;have hpn:=EW (ls.map Ln.nd) i;have hon:o'.length+1+seen.length<=8589934592:=by omega
     have hkb:(Ab (ls.map Ln.nd) i).length<=(Ak (ls.map Ln.nd) i).length:=by
      rw[AW hZ.ahead,List.length_append];have:=ID (ls.map Ln.nd) (Ab (ls.map Ln.nd) i);omega
     have hok:o'.length+(Ab (ls.map Ln.nd) i).length<=4294967296:=by omega
     rw[List.length_append,List.length_singleton]at q0;obtain⟨vg,rfl,_,_⟩:=BS HP.own (by simp);have c0:=AX HP.own o'.length (by simp) (u:=.int .i64 (i:Int)) (by simp[AG]);have hcap:=Gw HP.own;rw[List.length_append,List.length_singleton]at hcap;have i3:(o'.length:Int)<=(lvc:Int):=by omega
     have i4:(0:Int)<=(o'.length:Int):=by omega
     obtain⟨p1,p2,p3,p4,p5,p6⟩:=HP.pop;have HBr:=qd HP.below;clear HP;have e1:IntKind.i64.wrap (((o'.length+1:Nat):Int)-1)=(o'.length:Int):=by rw[IntWalk.i64_in _ (by omega)];omega
     go_upto_region 9 with(fail)
     generalize (wr.setCell ⟨H+1+1,0,none⟩ (.slice (some ⟨vg,0,none⟩) o'.length lvc))=W2 at *;have hbH:b<H:=by omega
     have HP5:=qd (show Below w.heap.size w W2 from hH.symm▸p5);have a0:W2.cell? ⟨b,0,none⟩=some (.slice (some ⟨g,o,none⟩) ls.length vc):=by have h:=(p5.block b hbH).trans HW.out;simp[World.cell?,h]
     have a1:W2.cell? ⟨H,0,none⟩=some (.int .u8 nk):=by have h:=(p6 H (by omega)).trans HPW.out.box;simp[World.cell?,h]
     have HR2:=qd (HRW.out.below HP5.out);obtain⟨g',o9,e9,_,_,z0,_,_,_,_,_,_,_,z8⟩:=D3 HR2.out i hil;cases e9;have i5:(i:Int)<(ls.length:Int):=by omega
     have i6:(0:Int)<=(i:Int):=by omega
     have HQ1:=qd p1;have HQ2:=qd p2;have HQ3:=qd p3;have HQ4:=qd p4;have HQ5:=qd p5;have HQ6:=qd p6;clear p1 p2 p3 p4 p5 p6 q0 q1 c0;have HLK:=qd (show(An (ls.map Ln.nd) i).kind=ls[i].nd.kind by simp[An,hil]);generalize hlk:ls[i].nd.kind=lk at *;clear hlk;go_quiet (fail)
     have R1:=qd (show ∀q,Boxed (W2.drewN q) (H+1+1) 40 (.slice (some ⟨vg,0,none⟩) o'.length lvc)from fun q=>HQ1.out);have R2:=qd (show ∀q,(W2.drewN q).ownsRow (H+1) 3 1 (.slice (some ⟨vg,0,none⟩) o'.length lvc) o'.length (AG o')from fun q=>HQ2.out);have R3:=qd (show ∀q,(W2.drewN q).ownsRow (H+1) 3 1 (.slice LA seen.length lc) seen.length (AG seen)from fun q=>HQ3.out);have R4:=qd (show ∀q,∀D∈Ds,H+1<=D/\(W2.drewN q).heap[D]?=some (.deferred (some []))from fun q=>HQ4.out);have R5:=qd (show ∀q,Below H w (W2.drewN q)from fun q=>Py HQ5.out q);have R6:=qd (show ∀q,(W2.drewN q).heap[H]?=wr.heap[H]? from fun q=>HQ6.out H (by omega));clear HQ1 HQ2 HQ3 HQ4 HQ5 HQ6 HR2 HP5 z0 z8 a0 a1;generalize hW3:W2.drewN _=W3;have HB3:=qd (show Boxed W3 (H+1+1) 40 (.slice (some ⟨vg,0,none⟩) o'.length lvc)from hW3▸R1.out _);have HO3:=qd (show W3.ownsRow (H+1) 3 1 (.slice (some ⟨vg,0,none⟩) o'.length lvc) o'.length (AG o')from hW3▸R2.out _);have HL3:=qd (show W3.ownsRow (H+1) 3 1 (.slice LA seen.length lc) seen.length (AG seen)from hW3▸R3.out _);have HD3:=qd (show ∀D∈Ds,H+1<=D/\W3.heap[D]?=some (.deferred (some []))from hW3▸R4.out _);have HW3:=qd (show Below H w W3 from hW3▸R5.out _);have HX3:=qd (show W3.heap[H]?=wr.heap[H]? from hW3▸R6.out _);clear R1 R2 R3 R4 R5 R6 hW3;have hszH:H+1+1<W3.heap.size:=HB3.out.lt;by_cases hkk:lk=nk
     ·have hne:(lk != nk)=false:=by simpa using hkk
      have hbH:b<H:=by omega
      have HB5:=qd (show Below w.heap.size w W3 from hH.symm▸HW3.out);have a0:W3.cell? ⟨b,0,none⟩=some (.slice (some ⟨g,o,none⟩) ls.length vc):=by have h:=(HW3.out.block b hbH).trans HW.out;simp[World.cell?,h]
      have HR2:=qd (HRW.out.below HB5.out);obtain⟨g',o9,e9,_,_,_,_,_,_,_,_,_,_,z8⟩:=D3 HR2.out i hil;cases e9;have HNI:=qd (show NdOwn w (b < ·) ls[i]from HKK.out _ (List.getElem_mem hil));have hkl:ls[i].nd.kids.length<=281474976710656:=HNI.out.1.2.2.1
      have HKR:=qd (show Az.row W3 (· < H+1) ls[i].A ls[i].nd.kids from by
       have h1:Az.row w (· < H+1) ls[i].A ls[i].nd.kids:=(HNI.out.inn.2).mono fun k hk _=>by omega
       exact h1.below HB5.out)
      have HKZ:=qd (show Ab (ls.map Ln.nd) i=ls[i].nd.kids.map Int.toNat by rw[B6];simp[An,hil]);have HKN:=qd (show ∀z∈ls[i].nd.kids,0<=z/\z<(i:Int)from fun z hz=>hZ i ls[i].nd (by simp[hil]) z hz);rw[HKZ.out,List.length_map]at hok;generalize ls[i].nd.kids=ks at *;generalize ls[i].A=KA at *;generalize ls[i].c=kc at *
      go_wp2_with (first
       |(go_at_call 69;refine((callsIn_wide (n:=n)).1 (Od Fence.wide n trivial rfl KA ks.length kc _)).mono ?_;rintro e w' ⟨rfl,rfl⟩)
       |fail)
      refine(wpIn_wide (n:=n)).1 ?_;have hsz4:(W3.alloc (.cells #[.slice KA ks.length kc] 40)).heap.size=W3.heap.size+1:=by simp
      have HI0:=qd (show KidsI w H W3.heap.size #[.int .u8 nk,.int .u64 ls[node].nd.s0,.int .u64 ls[node].nd.s1,.int .u64 ls[node].nd.s2,.int .u64 ls[node].nd.s3,.string ls[node].nd.text,.int .i64 ls[node].nd.mn,.int .i64 ls[node].nd.mx,.slice ls[node].A ls[node].nd.kids.length ls[node].c] (.slice KA ks.length kc) o' seen LA lc Ds [] (W3.alloc (.cells #[.slice KA ks.length kc] 40))from by
       have hB:=HPW.out;refine⟨⟨some ⟨vg,0,none⟩,lvc,?_,?_,hB.apart⟩,World.ownsRow.alloc HL3.out _,Ad W3 _,A7 (HX3.out.trans hB.box),fun D hD=>⟨(HD3.out D hD).1,Av (HD3.out D hD).2,A7 (HD3.out D hD).2⟩⟩
       ·simpa using HB3.out.alloc _
       ·have h:=World.ownsRow.alloc HO3.out (.cells #[.slice KA ks.length kc] 40);rw[DE]at h;simpa[CX]using h)
      have HBW4:=qd (show Below H w (W3.alloc (.cells #[.slice KA ks.length kc] 40))from HW3.out.alloc (by omega) _);have HNW:=qd (show(W3.alloc (.cells #[.slice KA ks.length kc] 40)).heap[W3.heap.size]?=some (.cells #[.slice KA ks.length kc] 40 (0,0))from Ad W3 _);have HKR4:=qd (show Az.row (W3.alloc (.cells #[.slice KA ks.length kc] 40)) (· < H+1) KA ks from HKR.out.below (bx1 W3 _));generalize hBn:W3.heap.size=Bn at *;generalize W3.alloc (.cells #[.slice KA ks.length kc] 40)=W4 at *
      refine wpIn_rangeFunc_ownH rfl hn1 (gf:=83) (lb:= #[.pointer (some ⟨Bn,0,none⟩)]) rfl trivial (enters_of Tryz.func83 (by kernel_rfl) rfl)
       (PG (n-1) hn2 Bn (H+1) kc KA ks W4 (by omega) HNW.out HKR4.out hkl) (fun h k=>h.trans k) (fun W l o o' h1 h2 _ _=>Sq (w:=W4) (by omega) (by omega) W l o o' h1 h2) (Below.refl _ _) (fun _=>rfl)
       (fun pre W=>KidsI w H Bn #[.int .u8 nk,.int .u64 ls[node].nd.s0,.int .u64 ls[node].nd.s1,.int .u64 ls[node].nd.s2,.int .u64 ls[node].nd.s3,.string ls[node].nd.text,.int .i64 ls[node].nd.mn,.int .i64 ls[node].nd.mx,.slice ls[node].A ls[node].nd.kids.length ls[node].c] (.slice KA ks.length kc) o' seen LA lc Ds pre W/\Below H w W) (fun c pre W=>False) ?hI ?hIx ?h0
       (fun x a' W=>∃u,a'=KS (H+1+1) (.int .i64 x.2) u) ?hAx ?assign ?body ?done ?stop
      case hI=>exact OwnFrom.and (fun s A B row hs hg hr=>hs.kept hg hr (by omega)) (ownFrom_below (by omega) (by omega))
      case hIx=>exact fun c s W W' row hs _ _=>hs
      case h0=>exact⟨HI0.out,HBW4.out⟩
      case hAx=>
       rintro x a' _ W W' row ⟨u,rfl⟩ hg hr;exact⟨u,rfl⟩
      case assign=>
       intro l pre x W K hi hK;gi_wp2
       exact hK _ _ (KeepsFrom.refl _ _) (BackK.refl _ _ _) hi (Oe (H+1+1) (.int .i64 x.2) _ _ _ _ _ _ _ _ _ _ _ _ _ _ _ _ _ _ _ _ _ _ _ _ _ _ _ _ _ _ _ _ _ _ _ _ _ _ _ _ _ _ _ _ _ _ _ _ _ _ _ _ _ _ _ _ _ _ _ _ _ _ _ _ _ _ _ _ _ _ _ _ _)
      case body=>
       rintro l pre x a' W _ _ ⟨hI,hB⟩ ⟨u,rfl⟩ hlen;unfold KS;obtain⟨⟨V,vc2,h1,h2,h3⟩,h4,h5,h6,h7⟩:=hI;have hzl:(o'.map (fun k:Nat=>(k:Int))++pre.map Prod.snd).length<=4294967296:=by simp;omega
       have hz2:o'.map (fun k:Nat=>(k:Int))++(pre++[x]).map Prod.snd=(o'.map (fun k:Nat=>(k:Int))++pre.map Prod.snd)++[x.2]:=by simp
       have HZ2:=qd hz2;clear hz2;generalize o'.map (fun k:Nat=>(k:Int))++pre.map Prod.snd=zs at *;generalize x.2=xv at *;have q0:=h1.cell;have q1:=h1.frozen;have hzW:H+1<=W.heap.size:=by have:=h1.lt;omega
       have HV:=qd h1;have HR:=qd h2;have HAQ:=qd h3;have HG:=qd h4;have HBB:=qd h5;have HBO:=qd h6;have HMK:=qd h7;have HBW:=qd hB;clear h1 h2 h3 h4 h5 h6 h7 hB;have HF:=qd (show zs.length+1<=maxLen/\(zs.length+1)*8<=140737488355328/\H+1<=(W.alloc (.cells #[.int .i64 xv] 3)).heap.size from⟨by unfold maxLen;omega,by omega,by simp;omega⟩);gi_wp2_with (first|(gi_at_builtin;refine wpListIn_append_own_at _ rfl (.tmp 70) (.tmp 72) 40 rfl (H+1) 3 i0 (.int .i64 0) 1 8 Tryz.underlying40 hi0 hz0 hz1 hz2 rfl (by decide) (.slice V zs.length vc2) zs.length (Az.all zs) rfl (World.ownsRow.alloc HR.out _) ⟨W.heap.size,0,none⟩ 1 1 [.int .i64 xv] rfl rfl (cell_one_new _ _ _) (by simp[Value.oneCell']) HF.out.1 HF.out.2.1 HF.out.2.2 ?_;intro v' w1 hown' hgrow' hnil' hat';obtain⟨g',cap',rfl⟩:=ownsRow_succ hown';obtain⟨k1,k2,k3,k4,k5⟩:=Boxed.appended HV.out (by decide) HR.out hzW (by omega) hown' hgrow';have q2:=k1.cell;have q3:=k1.frozen;have K2:=qd k2;have K3:=qd k3;have K4:=qd k4;have K5:=qd k5;have KG:=qd hgrow';have KA2:=qd hat';clear k1 k2 k3 k4 k5 hown' hgrow' hnil' hat'))
       simp only[Dw]at KA2 KG;have hVL:=HAQ.out
       have HKEEP:=qd (show ∀y,y<W.heap.size->y≠H+1+1->Ai V≠some y->(w1.setCell ⟨H+1+1,0,none⟩ (.slice (some ⟨g',0,none⟩) (zs.length+1) cap')).heap[y]?=W.heap[y]? from fun y hy hne hv=>
        (Below.heap_setCell _ _ _ _ hne).trans ((KG.out.block y (by simp;omega) (fun e=>hv e.symm)).trans (Below.heap_alloc _ _ y hy)))
       have HNV:=qd (show Ai V≠some Bn from fun e=>HBB.out.not_row (by decide) HR.out (by rw[Dw,e]));have HNH:=qd (show Ai V≠some H from fun e=>by have:=(Aq HR.out H e).1;omega);refine⟨K4.out.from _,⟨K5.out,fun hl2=>HKEEP.out Bn hl2 (by omega) HNV.out⟩,⟨⟨some ⟨g',0,none⟩,cap',?_,?_,?_⟩,?_,(HKEEP.out Bn HBB.out.lt (by omega) HNV.out).trans HBB.out,(HKEEP.out H (by omega) (by omega) HNH.out).trans HBO.out,fun D hD=>⟨(HMK.out D hD).1,(HMK.out D hD).2.1,(HKEEP.out D (Av (HMK.out D hD).2.2) ?_ ?_).trans (HMK.out D hD).2.2⟩⟩,HBW.out.trans (K5.out.mono (by omega))⟩
       ·rw[HZ2.out,List.length_append];exact K2.out
       ·rw[HZ2.out,List.length_append,Az.all_append,Az.all_one];exact K3.out
       ·exact ApartB.grown (n:=(W.alloc (.cells #[.int .i64 xv] 3)).heap.size) hVL (fun k hk=>by have:=(Aq HG.out k hk).2;simp;omega) KA2.out
       ·refine Au HG.out fun k hk=>HKEEP.out k (Aq HG.out k hk).2 (fun e=> ?_) (fun e=>hVL k e hk)
        exact HV.out.not_row (by decide) HG.out (by rw[Dw,hk,e])
       ·intro e;have h1:=(HMK.out D hD).2.2;rw[e,show W.heap[H+1+1]?=_ from HV.out]at h1;cases h1
       ·intro e;obtain⟨cur,h2⟩:=CO HR.out e;rw[(HMK.out D hD).2.2]at h2;cases h2
      case done=>
       rintro D ys W hD hS ⟨hI,hB⟩ hK;obtain⟨⟨V,vc2,h1,h2,h3⟩,h4,h5,h6,h7⟩:=hI;have hkr:ks.reverse.map Int.toNat=(Ab (ls.map Ln.nd) i).reverse:=by rw[HKZ.out,List.map_reverse]
       have hrow:o'.map (fun k:Nat=>(k:Int))++ks.reverse=(o'++(Ab (ls.map Ln.nd) i).reverse).map (fun k:Nat=>(k:Int)):=by
        rw[List.map_append,<-hkr,List.map_map];congr 1;refine(List.map_id _).symm.trans (List.map_congr_left fun z hz=> ?_);have:=HKN.out z (List.mem_reverse.1 hz);simp only[Function.comp_apply,id];omega
       rw[hS,hrow,List.length_map]at h1 h2;rw[CX,<-DE]at h2
       have hperm:((o'++(Ab (ls.map Ln.nd) i).reverse).flatMap (Ak (ls.map Ln.nd))++[i]).Perm ((o'++[i]).flatMap (Ak (ls.map Ln.nd))):=by
        rw[List.flatMap_append,List.flatMap_append,List.append_assoc];simp only[List.flatMap_cons,List.flatMap_nil,List.append_nil];rw[AW hZ.ahead i];exact List.Perm.append (List.Perm.refl _) (List.Perm.append ((List.reverse_perm _).flatMap_right _) (List.Perm.refl _))
       have hB2:=HPW.out;change ∃m',m'<((o'++[i]).flatMap (Ak (ls.map Ln.nd))).length/\Ud w b node H #[.int .u8 nk,.int .u64 ls[node].nd.s0,.int .u64 ls[node].nd.s1,.int .u64 ls[node].nd.s2,.int .u64 ls[node].nd.s3,.string ls[node].nd.text,.int .i64 ls[node].nd.mn,.int .i64 ls[node].nd.mx,.slice ls[node].A ls[node].nd.kids.length ls[node].c] (ls.map Ln.nd) nk m' _ W;refine⟨((o'++(Ab (ls.map Ln.nd) i).reverse).flatMap (Ak (ls.map Ln.nd))).length,?_,o'++(Ab (ls.map Ln.nd) i).reverse,seen,V,LA,vc2,lc,D::Ds,G8 b node H (.slice LA seen.length lc) (D::Ds) _ _ _ _ _ _ _ _ _ _ _ _ _ _ _ _ _ _ _ _ _ _ _ _ _ _ _ _ _ _ _ _ _ _ _ _ _ _ _ _ _ _ _ _ _ _ _ _ _ _ _ _ _ _ _ _ _ _ _ _ _ _ _ _ _ _ _ _ _ _,rfl,⟨h6,h1,h2,h4,h3,?_,?_,fun x hx=> ?_,⟨List.nodup_cons.2 ⟨fun hm=> ?_,hB2.marks.1⟩,fun D' hD'=> ?_⟩,hB⟩⟩
       ·have:=hperm.length_eq;rw[List.length_append,List.length_singleton]at this;omega
       ·have h:=hB2.eq;rw[<-h];simp only[List.reverse_append,List.reverse_cons,List.reverse_nil,List.nil_append,List.singleton_append,List.flatMap_cons,List.reverse_reverse,List.flatMap_append];rw[Cg hZ.ahead nk i,HLK.out,if_pos hkk]
       ·have h:=hperm.nodup_iff.2 hB2.nodup;exact(List.nodup_append.1 h).1
       ·rcases List.mem_append.1 hx with hx|hx
        ·exact hB2.bound x (by simp[hx])
        ·have h1:=hZ.ahead i x (List.mem_reverse.1 hx);have h2:=hB2.bound i (by simp);omega
       ·have:=(h7 D hm).2.1;omega
       ·rcases List.mem_cons.1 hD' with rfl|hD'
        ·exact⟨by omega,hK⟩
        ·exact⟨(h7 D' hD').1,(h7 D' hD').2.2⟩
      case stop=>
       rintro D c pre W hD hT h hK;exact h.elim
     ·have hne:(lk != nk)=true:=by simpa using hkk
      have HOA:=qd (show(W3.alloc (.cells #[.int .i64 (i:Int)] 3)).ownsRow (H+1) 3 1 (.slice LA seen.length lc) seen.length (AG seen)from World.ownsRow.alloc HL3.out _);have F2:=qd (show seen.length+1<=maxLen/\(seen.length+1)*8<=140737488355328/\H+1<=(W3.alloc (.cells #[.int .i64 (i:Int)] 3)).heap.size from⟨by unfold maxLen;omega,by omega,by simp;omega⟩);have HAPP:=qd HPW.out.apart;go_wp2_with (at_builtin;refine Ax _ rfl (.tmp 55) (.tmp 57) 40 rfl (H+1) 3 i0 (.int .i64 0) 1 8 Tryz.underlying40 hi0 hz0 hz1 hz2 rfl (by decide) LA lc seen.length (AG seen) rfl HOA.out (some ⟨W3.heap.size,0,none⟩) 1 1 (AG [i]) rfl (by simp[AG]) (Be (Ad W3 _)) (FI _) F2.out.1 F2.out.2.1 F2.out.2.2 ?_;intro V'' vc'' w4 HO4 HG4 HA4)
      have HKP:=qd (show ∀x,x<W3.heap.size->Ai LA≠some x->w4.heap[x]?=W3.heap[x]? from fun x hx hne=>(HG4.out.block x (by simp;omega) (fun e=>hne e.symm)).trans (Below.heap_alloc _ _ x hx));have hLH:∀x,Ai LA=some x->H+1<=x:=fun x hx=>(Aq HL3.out x hx).1
      refine⟨(o'.flatMap (Ak (ls.map Ln.nd))).length,?_,o',seen++[i],some ⟨vg,0,none⟩,V'',lvc,vc'',Ds,?_,rfl,?_⟩
      ·rw[List.flatMap_append,List.length_append];have:=EW (ls.map Ln.nd) i;simp;omega
      ·rw[List.length_append,List.length_singleton];exact G8 b node H (.slice V'' (seen.length+1) vc'') Ds _ _ _ _ _ _ _ _ _ _ _ _ _ _ _ _ _ _ _ _ _ _ _ _ _ _ _ _ _ _ _ _ _ _ _ _ _ _ _ _ _ _ _ _ _ _ _ _ _ _ _ _ _ _ _ _ _ _ _ _ _ _ _ _ _ _ _ _ _ _
      ·have hB:=HPW.out;refine⟨(HKP.out H (by omega) (fun e=>by have:=hLH H e;omega)).trans (HX3.out.trans hB.box),(HKP.out (H+1+1) hszH (fun e=>HB3.out.not_row (by decide) HL3.out (by rw[Dw,e]))).trans HB3.out,Au HO3.out fun k hk=>HKP.out k (Aq HO3.out k hk).2 (fun e=>hB.apart k hk e),?_,?_,?_,?_,fun x hx=>hB.bound x (by simp[hx]),⟨hB.marks.1,fun D hD=>⟨(HD3.out D hD).1,(HKP.out D (Av (HD3.out D hD).2) fun e=> ?_).trans (HD3.out D hD).2⟩⟩,?_⟩
       ·rw[List.length_append,List.length_singleton,BI];exact HO4.out
       ·exact(ApartB.grown (n:=(W3.alloc (.cells #[.int .i64 (i:Int)] 3)).heap.size) hB.apart.symm (fun k hk=>by have:=(Aq HO3.out k hk).2;simp;omega) HA4).symm
       ·have h:=hB.eq;rw[<-h];simp only[List.reverse_append,List.reverse_cons,List.reverse_nil,List.nil_append,List.singleton_append,List.flatMap_cons,List.append_assoc];rw[Cg hZ.ahead nk i,HLK.out,if_neg hkk];rfl
       ·have h:=hB.nodup;rw[List.flatMap_append]at h;exact(List.nodup_append.1 h).1
       ·obtain⟨cur,h2⟩:=CO HL3.out e;rw[(HD3.out D hD).2]at h2;cases h2
       ·exact(HW3.out.alloc (by omega) _).grown HG4.out (by simp;omega) (fun k hk=>by have:=hLH k hk;omega)
 ·have e4:(ls[node].nd.kind != 4)=true:=by simp;omega
  have e5:(ls[node].nd.kind != 5)=true:=by simp;omega
  rw[hpa,if_neg h45];gi_wp2
  refine Mw [] rfl List.nodup_nil (by simp) fun w' hw'=> ?_
  obtain rfl:=hw'.nil;have hkl:(Ab (ls.map Ln.nd) node).length=ls[node].nd.kids.length:=by rw[B6];simp[An,hi]
  have hkv:Az.all ls[node].nd.kids=AG (Ab (ls.map Ln.nd) node):=by
   have:=J9 (ls.map Ln.nd) node (by simpa using hi) (fun k hk=>(hZ node _ (List.getElem?_eq_getElem (by simpa using hi)) k hk).1);simpa using this
  refine⟨.slice ls[node].A ls[node].nd.kids.length ls[node].c,by simp[results,Tryz.f52,go_sem],ls[node].A,ls[node].c,by rw[hkl],?_,fun k hk=>.inr hk,bx1 w _⟩;rw[hkl,<-hkv];exact(HNA.out.agree (AF (bx1 w _))).2
theorem Ss (b:Nat) (ls:List Ln) (node:Nat) (w:World) (hA:ArenaAt w b ls) (hZ:AheadZ (ls.map Ln.nd)) (hl:ls.length<=4294967296) (hi:node<ls.length) (hnd:(Ak (ls.map Ln.nd) node).Nodup):
  Calls Tryz.prog 52 #[.pointer (some ⟨b,0,none⟩),.int .i64 (node:Int)] w (J5 b ls[node].A (B5 (ls.map Ln.nd) node) w):=
 (callsIn_wide (n:=3)).1 (Ue 3 (Nat.le_refl _) b ls node w hA hZ hl hi hnd)
end Go.Proofs.YtdnochjajoiooaaGreatDoor
