/- A range over an iterator that has memory of its own kinds; each round lays its element in a box of its own. -/
import Derived.Test.YtpfokabdpmjobaaGreatDoorLf
namespace Go.Proofs.YtpfokabdpmjobaaGreatDoor
open Go.RowKit
set_option linter.unusedSimpArgs false
set_option linter.unusedVariables false
section
variable {F:Fence} {n:Nat} {P:Program}
theorem putObj_alloc (W:World) (l:Nat) (o o':Obj) (h:l<W.heap.size):(W.alloc o).putObj l o'=(W.putObj l o').alloc o:=by
 simp only[World.putObj,World.alloc]
 have e:(W.heap.push o).setIfInBounds l o'=(W.heap.setIfInBounds l o').push o:=by
  apply Array.ext
  ·simp
  ·intro i h1 h2
   rw[Array.getElem_setIfInBounds (by simpa using h1),Array.getElem_push,Array.getElem_push]
   simp only[Array.size_setIfInBounds]
   by_cases hi:i<W.heap.size
   ·simp[hi,Array.getElem_setIfInBounds]
   ·have:l≠i:=by omega
    simp[hi,this]
 rw[e]
theorem wpIn_rangeFunc_kpA {α:Type} {g:Operand} {ps:Array Tmp} {assign body:Code} {Q:Exit→Act→World→Prop} {a:Act} {w:World}
  (hro:F.round=none) (h1:1≤n) {gf:Nat} {lb:Array Value} (hg:a.eval g=.func (.func gf) #[] lb) (hFg:F.fn gf) (eg:∀args w,(callFunc gf args).run P w=.ok (.enter gf args) w)
  {encs:α→Array Value} {At:List α×α→Prop} {Kp:World→World→Prop} {S:List α→Prop} (hseq:SeqKp F (n-1) P gf lb encs At Kp S w)
  (hKt:∀{A B C:World},Kp A B→Kp B C→Kp A C) (hKl:∀(W:World) (l:Nat) (o o':Obj),loopish o=true→W.heap[l]?=some o→Kp W (W.putObj l o')) (hps:∀x,(encs x).size=ps.size)
  (I:List α→World→Prop) (Ix:Code→List α→World→Prop) (hI:OwnFrom w.heap.size I) (hIx:∀c,OwnFrom w.heap.size (Ix c)) (h0:I [] w) (ob:α→Obj) (a₁:α→Nat→Act)
  (hassign:∀(l:Nat) (x:α) (W:World) (K:Act→World→Prop),K (a₁ x W.heap.size) (W.alloc (ob x)) →
   assign.wpIn (F.inRound l) (n-1-1) P (Exit.then K (fun _ _ _=>False)) {tmps:=(ps.zip (encs x)).foldl (fun t (p,v)=>t.setIfInBounds p v) a.tmps,defers:=[]} W)
  (hbody:∀(l:Nat) (pre:List α) (x:α) (W0 W:World),I pre W0→Below W0.heap.size W0 W→At (pre,x)→body.wpIn (F.inRound l) (n-1-1) P (kpPost w.heap.size Kp I Ix (pre++[x]) W0 W) (a₁ x W.heap.size) (W.alloc (ob x)))
  (hdone:∀(D:Nat) (xs:List α) (W:World),w.heap.size≤D→S xs→I xs W→W.heap[D]?=some (.deferred (some []))→Q .normal {a with defers:={target:=.collected D,args:= #[]}::a.defers} W)
  (hstop:∀(D:Nat) (c:Code) (pre:List α) (W:World),w.heap.size≤D→Ix c pre W→W.heap[D]?=some (.deferred (some []))→c.wpIn F n P Q {a with defers:={target:=.collected D,args:= #[]}::a.defers} W):
  (Code.rangeFunc g ps assign body).wpIn F n P Q a w:=by
 refine wpIn_rangeFunc ?_
 intro fn hfn
 rw[hro]
 obtain⟨rec,hrec⟩:∃rec:LoopState→Option Code→Loop,rec=fun st pe=>{state:=st,pending:=pe,fn,tmps:=a.tmps,params:=ps,assign,body,defers:=w.heap.size}:=⟨_,rfl⟩
 obtain⟨W1,hW1⟩:∃W1,(w.alloc (.deferred (some []))).alloc (.loop (rec .ready none))=W1:=⟨_,rfl⟩
 have hL1:W1.heap[w.heap.size+1]?=some (.loop (rec .ready none)):=by
  rw[←hW1];have:=World.alloc_heap_new (w.alloc (.deferred (some []))) (.loop (rec .ready none));rwa [World.size_alloc]at this
 have hK1:W1.heap[w.heap.size]?=some (.deferred (some [])):=by
  rw[←hW1];exact(Below.heap_alloc _ _ _ (by simp)).trans (World.alloc_heap_new w _)
 have hI1:I [] W1:=by rw[←hW1];exact hI.alloc _ (hI.alloc _ h0)
 have hb1:Below w.heap.size w W1:=by rw[←hW1];exact((Below.refl _ w).alloc (Nat.le_refl _) _).alloc (by simp) _
 have hlt:∀{W:World} {st:LoopState} {pe:Option Code},W.heap[w.heap.size+1]?=some (.loop (rec st pe))→w.heap.size+1<W.heap.size:=fun hl=>(Array.getElem?_eq_some_iff.1 hl).1
 refine⟨w.heap.size+1,[{target:=.collected w.heap.size,args:= #[]}],W1,{target:=.fn (.func gf) lb,args:= #[.func (.yield (w.heap.size+1)) #[] #[]]},W1,gf,
  #[.func (.yield (w.heap.size+1)) #[] #[]]++lb,W1,?_,?_,?_,?_,fun _=>h1,?_⟩
 ·rw[←hW1,hrec];exact run_enterLoop_outer _ _ _ _ _
 ·simp only[resolve,hg]
  simp[go_sem]
 ·intro f' hf';simp[Target.leads]at hf';subst hf';exact hFg
 ·simp[invoke,go_sem,eg]
 ·refine(hseq (w.heap.size+1)
   (fun pre W=>I pre W∧W.heap[w.heap.size+1]?=some (.loop (rec .ready none))∧W.heap[w.heap.size]?=some (.deferred (some [])))
   (fun pre W=>∃c,Ix c pre W∧W.heap[w.heap.size+1]?=some (.loop (rec .done (some c)))∧W.heap[w.heap.size]?=some (.deferred (some [])))
   W1 hb1
   (fun s A B hs hb=>⟨hI s A B none hs.1 ⟨hb.os,hb.tape,hb.output,hb.size,fun k hk _=>hb.block k hk⟩ (fun r e=>by cases e),(hb.block _ (hlt hs.2.1)).trans hs.2.1,(hb.block _ (by have:=hlt hs.2.1;omega)).trans hs.2.2⟩)
   (fun s A B hs hb=>by
    obtain⟨c,hc,hl,hk⟩:=hs
    exact⟨c,hIx c s A B none hc ⟨hb.os,hb.tape,hb.output,hb.size,fun k hk _=>hb.block k hk⟩ (fun r e=>by cases e),(hb.block _ (hlt hl)).trans hl,(hb.block _ (by have:=hlt hl;omega)).trans hk⟩)
   ?_ ⟨hI1,hL1,hK1⟩).mono ?_
  ·rintro pre x W0 W ⟨hi,hl0,hk0⟩ hb hat
   have hl:W.heap[w.heap.size+1]?=some (.loop (rec .ready none)):=(hb.block _ (hlt hl0)).trans hl0
   have hk:W.heap[w.heap.size]?=some (.deferred (some [])):=(hb.block _ (by have:=hlt hl0;omega)).trans hk0
   have hlt0:=hlt hl0
   have hlt1:=hlt hl
   have hy:=run_yield (P:=P) (args:=encs x) hl (by rw[hrec];exact hps x)
   rw[hrec]at hy
   refine⟨fn,_,assign,body,hy,roundIn_of_wpIn hfn (hassign _ x W _ ⟨_,run_beginRound (show(W.alloc (ob x)).heap[w.heap.size+1]?=_ from(Below.heap_alloc _ _ _ hlt1).trans hl) (by rw[hrec]),?_⟩)⟩
   rw[putObj_alloc W _ _ _ hlt1]
   have hzz:(W.putObj (w.heap.size+1) (.loop {rec .ready none with state:=.busy})).heap.size=W.heap.size:=by simp[World.putObj]
   have hl2:(W.putObj (w.heap.size+1) (.loop {rec .ready none with state:=.busy})).heap[w.heap.size+1]?=some (.loop {rec .ready none with state:=.busy}):=World.putObj_heap_same hlt1
   have hk2:(W.putObj (w.heap.size+1) (.loop {rec .ready none with state:=.busy})).heap[w.heap.size]?=some (.deferred (some [])):=(World.putObj_heap_other (by omega)).trans hk
   rw[←hzz]
   refine wpIn_mono (hbody _ pre x (W0.putObj (w.heap.size+1) (.loop {rec .ready none with state:=.busy})) _ (hI.putObj _ hi (by omega) hl0 rfl) (below_put2 hb hlt0) hat) ?_
   have hw2:Kp W (W.putObj (w.heap.size+1) (.loop {rec .ready none with state:=.busy})):=hKl _ _ _ _ rfl hl
   have fin:∀(jump:Option Code) (W3:World),KeepsFrom w.heap.size (W.putObj (w.heap.size+1) (.loop {rec .ready none with state:=.busy})) W3 →
     (Instr.endRound (w.heap.size+1) jump).run P W3=.ok (.bool jump.isNone) (W3.putObj (w.heap.size+1) (.loop (rec (if jump.isNone then .ready else .done) jump))) ∧
     W3.heap[w.heap.size+1]?=some (.loop {rec .ready none with state:=.busy}) ∧
     (W3.putObj (w.heap.size+1) (.loop (rec (if jump.isNone then .ready else .done) jump))).heap[w.heap.size+1]?=some (.loop (rec (if jump.isNone then .ready else .done) jump)) ∧
     (W3.putObj (w.heap.size+1) (.loop (rec (if jump.isNone then .ready else .done) jump))).heap[w.heap.size]?=some (.deferred (some [])):=fun jump W3 hk3=>by
    have hl3:=hk3.same _ _ (by omega) hl2 rfl
    have:=run_endRound (P:=P) jump hl3
    rw[hrec]at this ⊢
    exact⟨this,by rw[hrec]at hl3;exact hl3,World.putObj_heap_same (Array.getElem?_eq_some_iff.1 hl3).1,(World.putObj_heap_other (by omega)).trans (hk3.same _ _ (Nat.le_refl _) hk2 rfl)⟩
   rintro e a3 W3 hp
   cases e with
   |normal=>
    obtain⟨hk3,hkp3,hnw3,hi3⟩:=hp
    obtain⟨hr,hl3,hl4,hk4⟩:=fin none W3 hk3
    refine⟨_,_,hr,.inl ⟨rfl,⟨hI.putObj _ hi3 (by omega) hl3 rfl,hl4,hk4⟩,hKt (hKt hw2 hkp3) (hKl _ _ _ _ rfl hl3),fun k hk1 hk2=> ?_⟩⟩
    have e0:(W0.putObj (w.heap.size+1) (.loop {rec .ready none with state:=.busy})).heap.size=W0.heap.size:=by simp[World.putObj]
    have e1:(W.putObj (w.heap.size+1) (.loop {rec .ready none with state:=.busy})).heap.size=W.heap.size:=by simp[World.putObj]
    rw[World.putObj_heap_other (show k≠w.heap.size+1 by omega),hnw3 k (by rw[e0];exact hk1) (by rw[e1];exact hk2),World.putObj_heap_other (show k≠w.heap.size+1 by omega)]
   |ret=>
    obtain⟨hk3,hi3⟩:=hp
    obtain⟨hr,hl3,hl4,hk4⟩:=fin (some .ret) W3 hk3
    exact⟨_,_,hr,.inr ⟨rfl,.ret,(hIx _).putObj _ hi3 (by omega) hl3 rfl,hl4,hk4⟩⟩
   |exit id=>
    obtain⟨hk3,hi3⟩:=hp
    obtain⟨hr,hl3,hl4,hk4⟩:=fin (some (.exit id)) W3 hk3
    exact⟨_,_,hr,.inr ⟨rfl,.exit id,(hIx _).putObj _ hi3 (by omega) hl3 rfl,hl4,hk4⟩⟩
   |goto t=>
    obtain⟨hk3,hi3⟩:=hp
    obtain⟨hr,hl3,hl4,hk4⟩:=fin (some (.goto t)) W3 hk3
    exact⟨_,_,hr,.inr ⟨rfl,.goto t,(hIx _).putObj _ hi3 (by omega) hl3 rfl,hl4,hk4⟩⟩
   |panic ch=>exact hp.elim
   |outgrown=>exact hp.elim
  ·rintro e W2 ⟨⟨v,rfl⟩,(⟨xs,hS2,hi,hl,hk⟩|⟨pre,c,hi,hl,hk⟩)⟩
   ·exact⟨none,_,by have:=run_endLoop (P:=P) hl (by rw[hrec];simp);rw[hrec]at this;exact this,hdone _ xs _ (Nat.le_refl _) hS2 (hI.putObj _ hi (by omega) hl rfl) ((World.putObj_heap_other (by omega)).trans hk)⟩
   ·exact⟨some c,_,by have:=run_endLoop (P:=P) hl (by rw[hrec];simp);rw[hrec]at this;exact this,hstop _ c pre _ (Nat.le_refl _) ((hIx c).putObj _ hi (by omega) hl rfl) ((World.putObj_heap_other (by omega)).trans hk)⟩
end
end Go.Proofs.YtpfokabdpmjobaaGreatDoor
