/- A range over an iterator that turns one block of the caller's own (a reader) between two rounds, and tells at its end where that stands. A range over an iterator that has memory of its own kinds, which the body keeps. The contract of quote.plain. The contracts of a reader's hex, sign, signs, and of quote.begin. -/
import Derived.Test.YtpfokabdpmjobaaGreatDoorNa
import Derived.RangeFuncWrites
import Derived.RangeFuncLeaves
import Derived.RangeFuncBox
import Derived.RangeFuncCalls
import Derived.RangeFuncBound
import Derived.RangeFuncFrom
import Derived.Test.YtpfokabdpmjobaaGreatDoorLa
import Derived.Test.YtpfokabdpmjobaaGreatDoorShelf
import Derived.Test.YtpfokabdpmjobaaGreatDoorLr
namespace Go.Proofs.YtpfokabdpmjobaaGreatDoor
open Go.RowKit
set_option linter.unusedSimpArgs false
set_option linter.unusedVariables false
section
variable {F:Fence} {n:Nat} {P:Program}
def SeqRd {α:Type} (F:Fence) (n:Nat) (P:Program) (g:Nat) (lb:Array Value) (encs:α→Array Value) (r:Nat) (At:List α×α→World→Prop) (Bk S:List α→World→Prop) (w0:World):Prop:=
 ∀(l:Nat) (J Jx:List α→World→Prop) (W:World),Below w0.heap.size w0 W →
  (∀s A B,J s A→A.grownBy B (some r)→J s B) →
  (∀pre x W1,J pre W1→At (pre,x) W1→YieldAt F (n-1) P l (encs x) W1 fun e W'=>
   (e=.returned (.bool true)∧J (pre++[x]) W'∧Bk (pre++[x]) W')∨(e=.returned (.bool false)∧Jx (pre++[x]) W')) →
  J [] W →
  CallsIn F n P g (#[.func (.yield l) #[] #[]]++lb) W fun e W'=>(∃v,e=.returned v)∧((∃xs,S xs W'∧J xs W')∨(∃pre,Jx pre W'))
def rdPost {α:Type} (B:Nat) (Bk I:List α→World→Prop) (Ix:Code→List α→World→Prop) (xs:List α) (W:World):Exit→Act→World→Prop
 |.normal,_,W'=>KeepsFrom B W W'∧Bk xs W'∧I xs W'
 |.ret,_,W'=>KeepsFrom B W W'∧Ix .ret xs W'
 |.exit id,_,W'=>KeepsFrom B W W'∧Ix (.exit id) xs W'
 |.goto t,_,W'=>KeepsFrom B W W'∧Ix (.goto t) xs W'
 |.panic _,_,_=>False
 |.outgrown,_,_=>False
theorem wpIn_rangeFunc_rd {α:Type} {g:Operand} {ps:Array Tmp} {assign body:Code} {Q:Exit→Act→World→Prop} {a:Act} {w:World}
  (hro:F.round=none) (h1:1≤n) {gf:Nat} {lb:Array Value} (hg:a.eval g=.func (.func gf) #[] lb) (hFg:F.fn gf) (eg:∀args w,(callFunc gf args).run P w=.ok (.enter gf args) w)
  {encs:α→Array Value} {r:Nat} (hr:r<w.heap.size) {At:List α×α→World→Prop} {Bk S:List α→World→Prop} (hseq:SeqRd F (n-1) P gf lb encs r At Bk S w)
  (hAt:OwnFrom w.heap.size At) (hBk:OwnFrom w.heap.size Bk) (hS:OwnFrom w.heap.size S) (hps:∀x,(encs x).size=ps.size)
  (I:List α→World→Prop) (Ix:Code→List α→World→Prop) (hI:OwnFrom w.heap.size I) (hIr:∀s A B,I s A→A.grownBy B (some r)→I s B) (hIx:∀c,OwnFrom w.heap.size (Ix c)) (h0:I [] w) (a₁:α→Act)
  (hassign:∀(l:Nat) (x:α) (W:World) (K:Act→World→Prop),K (a₁ x) W →
   assign.wpIn (F.inRound l) (n-1-1) P (Exit.then K (fun _ _ _=>False)) {tmps:=(ps.zip (encs x)).foldl (fun t (p,v)=>t.setIfInBounds p v) a.tmps,defers:=[]} W)
  (hbody:∀(l:Nat) (pre:List α) (x:α) (W:World),I pre W→At (pre,x) W→body.wpIn (F.inRound l) (n-1-1) P (rdPost w.heap.size Bk I Ix (pre++[x]) W) (a₁ x) W)
  (hdone:∀(D:Nat) (xs:List α) (W:World),w.heap.size≤D→S xs W→I xs W→W.heap[D]?=some (.deferred (some []))→Q .normal {a with defers:={target:=.collected D,args:= #[]}::a.defers} W)
  (hstop:∀(D:Nat) (c:Code) (pre:List α) (W:World),w.heap.size≤D→Ix c pre W→W.heap[D]?=some (.deferred (some []))→c.wpIn F n P Q {a with defers:={target:=.collected D,args:= #[]}::a.defers} W):
  (Code.rangeFunc g ps assign body).wpIn F n P Q a w:=by
 refine wpIn_rangeFunc ?_
 intro fn hfn
 rw[hro]
 obtain⟨rec,hrec⟩:∃rec:LoopState→Option Code→Loop,rec=fun st pe=>{state:=st,pending:=pe,fn,tmps:=a.tmps,params:=ps,assign,body,defers:=w.heap.size}:=⟨_,rfl⟩
 obtain⟨W1,hW1⟩:∃W1,(w.alloc (.deferred (some []))).alloc (.loop (rec .ready none))=W1:=⟨_,rfl⟩
 have hL1:W1.heap[w.heap.size+1]?=some (.loop (rec .ready none)):=by
  rw[←hW1];have:=World.alloc_heap_new (w.alloc (.deferred (some []))) (.loop (rec .ready none));rwa [World.size_alloc]at this
 have hK1:W1.heap[w.heap.size]?=some (.deferred (some [])):=by
  rw[←hW1];exact(Below.heap_alloc _ _ _ (by simp)).trans (World.alloc_heap_new w _)
 have hI1:I [] W1:=by rw[←hW1];exact hI.alloc _ (hI.alloc _ h0)
 have hb1:Below w.heap.size w W1:=by rw[←hW1];exact((Below.refl _ w).alloc (Nat.le_refl _) _).alloc (by simp) _
 have hlt:∀{W:World} {st:LoopState} {pe:Option Code},W.heap[w.heap.size+1]?=some (.loop (rec st pe))→w.heap.size+1<W.heap.size:=fun hl=>(Array.getElem?_eq_some_iff.1 hl).1
 refine⟨w.heap.size+1,[{target:=.collected w.heap.size,args:= #[]}],W1,{target:=.fn (.func gf) lb,args:= #[.func (.yield (w.heap.size+1)) #[] #[]]},W1,gf,
  #[.func (.yield (w.heap.size+1)) #[] #[]]++lb,W1,?_,?_,?_,?_,fun _=>h1,?_⟩
 ·rw[←hW1,hrec];exact run_enterLoop_outer _ _ _ _ _
 ·simp only[resolve,hg]
  simp[go_sem]
 ·intro f' hf';simp[Target.leads]at hf';subst hf';exact hFg
 ·simp[invoke,go_sem,eg]
 ·refine(hseq (w.heap.size+1)
   (fun pre W=>I pre W∧W.heap[w.heap.size+1]?=some (.loop (rec .ready none))∧W.heap[w.heap.size]?=some (.deferred (some [])))
   (fun pre W=>∃c,Ix c pre W∧W.heap[w.heap.size+1]?=some (.loop (rec .done (some c)))∧W.heap[w.heap.size]?=some (.deferred (some [])))
   W1 hb1
   (fun s A B hs hg'=>⟨hIr s A B hs.1 hg',(hg'.block _ (hlt hs.2.1) (fun e=>by cases e;omega)).trans hs.2.1,(hg'.block _ (by have:=hlt hs.2.1;omega) (fun e=>by cases e;omega)).trans hs.2.2⟩)
   ?_ ⟨hI1,hL1,hK1⟩).mono ?_
  ·rintro pre x W ⟨hi,hl,hk⟩ hat
   have hlt1:=hlt hl
   have hy:=run_yield (P:=P) (args:=encs x) hl (by rw[hrec];exact hps x)
   rw[hrec]at hy
   refine⟨fn,_,assign,body,hy,roundIn_of_wpIn hfn (hassign _ x W _ ⟨_,run_beginRound hl (by rw[hrec]),?_⟩)⟩
   have hl2:(W.putObj (w.heap.size+1) (.loop {rec .ready none with state:=.busy})).heap[w.heap.size+1]?=some (.loop {rec .ready none with state:=.busy}):=World.putObj_heap_same hlt1
   have hk2:(W.putObj (w.heap.size+1) (.loop {rec .ready none with state:=.busy})).heap[w.heap.size]?=some (.deferred (some [])):=(World.putObj_heap_other (by omega)).trans hk
   refine wpIn_mono (hbody _ pre x _ (hI.putObj _ hi (by omega) hl rfl) (hAt.putObj _ hat (by omega) hl rfl)) ?_
   have fin:∀(jump:Option Code) (W3:World),KeepsFrom w.heap.size (W.putObj (w.heap.size+1) (.loop {rec .ready none with state:=.busy})) W3 →
     (Instr.endRound (w.heap.size+1) jump).run P W3=.ok (.bool jump.isNone) (W3.putObj (w.heap.size+1) (.loop (rec (if jump.isNone then .ready else .done) jump))) ∧
     W3.heap[w.heap.size+1]?=some (.loop {rec .ready none with state:=.busy}) ∧
     (W3.putObj (w.heap.size+1) (.loop (rec (if jump.isNone then .ready else .done) jump))).heap[w.heap.size+1]?=some (.loop (rec (if jump.isNone then .ready else .done) jump)) ∧
     (W3.putObj (w.heap.size+1) (.loop (rec (if jump.isNone then .ready else .done) jump))).heap[w.heap.size]?=some (.deferred (some [])):=fun jump W3 hk3=>by
    have hl3:=hk3.same _ _ (by omega) hl2 rfl
    have:=run_endRound (P:=P) jump hl3
    rw[hrec]at this ⊢
    exact⟨this,by rw[hrec]at hl3;exact hl3,World.putObj_heap_same (Array.getElem?_eq_some_iff.1 hl3).1,(World.putObj_heap_other (by omega)).trans (hk3.same _ _ (Nat.le_refl _) hk2 rfl)⟩
   rintro e a3 W3 hp
   cases e with
   |normal=>
    obtain⟨hk3,hbk3,hi3⟩:=hp
    obtain⟨hr,hl3,hl4,hk4⟩:=fin none W3 hk3
    exact⟨_,_,hr,.inl ⟨rfl,⟨hI.putObj _ hi3 (by omega) hl3 rfl,hl4,hk4⟩,hBk.putObj _ hbk3 (by omega) hl3 rfl⟩⟩
   |ret=>
    obtain⟨hk3,hi3⟩:=hp
    obtain⟨hr,hl3,hl4,hk4⟩:=fin (some .ret) W3 hk3
    exact⟨_,_,hr,.inr ⟨rfl,.ret,(hIx _).putObj _ hi3 (by omega) hl3 rfl,hl4,hk4⟩⟩
   |exit id=>
    obtain⟨hk3,hi3⟩:=hp
    obtain⟨hr,hl3,hl4,hk4⟩:=fin (some (.exit id)) W3 hk3
    exact⟨_,_,hr,.inr ⟨rfl,.exit id,(hIx _).putObj _ hi3 (by omega) hl3 rfl,hl4,hk4⟩⟩
   |goto t=>
    obtain⟨hk3,hi3⟩:=hp
    obtain⟨hr,hl3,hl4,hk4⟩:=fin (some (.goto t)) W3 hk3
    exact⟨_,_,hr,.inr ⟨rfl,.goto t,(hIx _).putObj _ hi3 (by omega) hl3 rfl,hl4,hk4⟩⟩
   |panic ch=>exact hp.elim
   |outgrown=>exact hp.elim
  ·rintro e W2 ⟨⟨v,rfl⟩,(⟨xs,hS2,hi,hl,hk⟩|⟨pre,c,hi,hl,hk⟩)⟩
   ·exact⟨none,_,by have:=run_endLoop (P:=P) hl (by rw[hrec];simp);rw[hrec]at this;exact this,hdone _ xs _ (Nat.le_refl _) (hS.putObj _ hS2 (by omega) hl rfl) (hI.putObj _ hi (by omega) hl rfl) ((World.putObj_heap_other (by omega)).trans hk)⟩
   ·exact⟨some c,_,by have:=run_endLoop (P:=P) hl (by rw[hrec];simp);rw[hrec]at this;exact this,hstop _ c pre _ (Nat.le_refl _) ((hIx c).putObj _ hi (by omega) hl rfl) ((World.putObj_heap_other (by omega)).trans hk)⟩
end
end Go.Proofs.YtpfokabdpmjobaaGreatDoor
namespace Go.Proofs.YtpfokabdpmjobaaGreatDoor
open Go.RowKit
set_option linter.unusedSimpArgs false
set_option linter.unusedVariables false
section
variable {F:Fence} {n:Nat} {P:Program}
def loopish:Obj→Bool
 |.loop _=>true
 |.deferred _=>true
 |_=>false
def NewK (W0 W1 W':World):Prop:=∀k,W0.heap.size≤k→k<W1.heap.size→W'.heap[k]?=W1.heap[k]?
theorem below_put2 {A B:World} {l:Nat} {o:Obj} (h:Below A.heap.size A B) (hl:l<A.heap.size):Below (A.putObj l o).heap.size (A.putObj l o) (B.putObj l o):=by
 have e1:(A.putObj l o).heap.size=A.heap.size:=by simp[World.putObj]
 have e2:(B.putObj l o).heap.size=B.heap.size:=by simp[World.putObj]
 refine⟨h.os,h.tape,h.output,by rw[e1,e2];exact h.size,fun k hk=> ?_⟩
 rw[e1]at hk
 by_cases hkl:k=l
 ·subst hkl
  rw[World.putObj_heap_same hk,World.putObj_heap_same (Nat.lt_of_lt_of_le hk h.size)]
 ·rw[World.putObj_heap_other hkl,World.putObj_heap_other hkl];exact h.block k hk
def SeqKp {α:Type} (F:Fence) (n:Nat) (P:Program) (g:Nat) (lb:Array Value) (encs:α→Array Value) (At:List α×α→Prop) (Kp:World→World→Prop) (S:List α→Prop) (w0:World):Prop:=
 ∀(l:Nat) (J Jx:List α→World→Prop) (W:World),Below w0.heap.size w0 W →
  (∀s A B,J s A→Below A.heap.size A B→J s B)→(∀s A B,Jx s A→Below A.heap.size A B→Jx s B) →
  (∀pre x W0 W1,J pre W0→Below W0.heap.size W0 W1→At (pre,x)→YieldAt F (n-1) P l (encs x) W1 fun e W'=>
   (e=.returned (.bool true)∧J (pre++[x]) W'∧Kp W1 W'∧NewK W0 W1 W')∨(e=.returned (.bool false)∧Jx (pre++[x]) W')) →
  J [] W →
  CallsIn F n P g (#[.func (.yield l) #[] #[]]++lb) W fun e W'=>(∃v,e=.returned v)∧((∃xs,S xs∧J xs W')∨(∃pre,Jx pre W'))
def kpPost {α:Type} (B:Nat) (Kp:World→World→Prop) (I:List α→World→Prop) (Ix:Code→List α→World→Prop) (xs:List α) (W0 W:World):Exit→Act→World→Prop
 |.normal,_,W'=>KeepsFrom B W W'∧Kp W W'∧NewK W0 W W'∧I xs W'
 |.ret,_,W'=>KeepsFrom B W W'∧Ix .ret xs W'
 |.exit id,_,W'=>KeepsFrom B W W'∧Ix (.exit id) xs W'
 |.goto t,_,W'=>KeepsFrom B W W'∧Ix (.goto t) xs W'
 |.panic _,_,_=>False
 |.outgrown,_,_=>False
end
end Go.Proofs.YtpfokabdpmjobaaGreatDoor
namespace Go.Proofs.YtpfokabdpmjobaaGreatDoor
open Go.RowKit
set_option linter.unusedSimpArgs false
set_option linter.unusedVariables false
theorem index_lt:∀(l:List UInt8) (b:UInt8),(Lib.indexByte l b<0↔b∉l)
 |[],b=>by simp[Lib.indexByte]
 |x::l,b=>by
  have ih:=index_lt l b
  have h:=Lib.indexByte_ge l b
  unfold Lib.indexByte
  by_cases hx:x=b
  ·subst hx;simp
  ·have hx':¬b=x:=fun e=>hx e.symm
   rw[if_neg (by simpa using hx)]
   simp only[List.mem_cons,not_or,hx',not_false_eq_true,true_and,←ih]
   by_cases h1:Lib.indexByte l b = -1
   ·rw[if_pos (by simpa using h1),h1]
   ·rw[if_neg (by simpa using h1)];omega
theorem toU8 (b:UInt8):((b.toNat:Int).toNat).toUInt8=b:=by simp
theorem eq92 (b:UInt8):((b.toNat:Int)==92)=decide (b=92):=by
 rw[Bool.eq_iff_iff,beq_iff_eq,decide_eq_true_eq,←UInt8.toNat_inj]
 show _↔b.toNat=92
 omega
set_option maxHeartbeats 1000000 in
theorem plain_any (b:UInt8) (left:ByteArray) (w:World):
  Calls Tryz.prog 192 #[.int .u8 (b.toNat:Int),.string left] w fun e w'=>e=.returned (.bool (decide (plainP b left.data.toList)))∧w'=w:=by
 go_enter Tryz.func192,Tryz.ntmps192
 by_cases h1:(32:Int)≤(b.toNat:Int)
 ·by_cases h2:(b.toNat:Int)≤126
  ·have h3:=eq92 b
   by_cases h4:b=92
   ·rw[decide_eq_true h4]at h3
    have h6:(b.toNat:Int)=92:=by simpa using h3
    have hp:¬plainP b left.data.toList:=fun h=>h.2.1 h4
    go_wp2
    go_ret
    exact⟨by first|rfl|(rw[decide_eq_false hp];rfl)|simp[hp],rfl⟩
   ·rw[decide_eq_false h4]at h3
    have h6:¬(b.toNat:Int)=92:=by simpa using h3
    have h9:((b.toNat:Int) != 92)=true:=by simpa using h6
    have h5:=index_lt left.data.toList b
    by_cases h7:b∈left.data.toList
    ·have hp:¬plainP b left.data.toList:=fun h=>h.2.2 h7
     have h8:¬Lib.indexByte left.data.toList b<0:=fun h=>h5.1 h h7
     go_wp2_with (go_at_call 102;refine(Tryz.strings_IndexByte left (b.toNat:Int) _).mono ?_;rintro e w' ⟨rfl,rfl⟩;rw[toU8])
     go_ret
     exact⟨by first|rfl|(rw[decide_eq_false hp];rfl)|simp[hp],rfl⟩
    ·have hp:plainP b left.data.toList:=⟨⟨by omega,by omega⟩,h4,h7⟩
     have h8:=h5.2 h7
     go_wp2_with (go_at_call 102;refine(Tryz.strings_IndexByte left (b.toNat:Int) _).mono ?_;rintro e w' ⟨rfl,rfl⟩;rw[toU8])
     go_ret
     exact⟨by first|rfl|(rw[decide_eq_true hp];rfl)|simp[hp],rfl⟩
  ·have hp:¬plainP b left.data.toList:=fun h=>by have:=h.1.2;omega
   go_wp2
   go_ret
   exact⟨by first|rfl|(rw[decide_eq_false hp];rfl)|simp[hp],rfl⟩
 ·have hp:¬plainP b left.data.toList:=fun h=>by have:=h.1.1;omega
  go_wp2
  go_ret
  exact⟨by first|rfl|(rw[decide_eq_false hp];rfl)|simp[hp],rfl⟩
end Go.Proofs.YtpfokabdpmjobaaGreatDoor
namespace Go.Proofs.YtpfokabdpmjobaaGreatDoor
open Go.RowKit
set_option linter.unusedSimpArgs false
set_option linter.unusedVariables false
def SgPost (r:Nat) (t left:ByteArray) (en:UInt8) (m:Nat) (e0:Int) (s:SR) (w:World) (e:Ending) (w':World):Prop:=
 (match s with
  |.ok b n=>e=.returned (.tuple #[u8V b,.bool true])∧RD w' r t left en m (n:Int) e0
  |.no p k=>e=.returned (.tuple #[.int .u8 0,.bool false])∧RD w' r t left en m (p:Int) (k:Int))∧w.grownBy w' (some r)
theorem SgPost.of_ok {r:Nat} {t left:ByteArray} {en:UInt8} {m:Nat} {e0:Int} {s:SR} {w:World} {e:Ending} {w':World} {b:UInt8} {n:Nat} {z:Int} (h:s=.ok b n) (hz:z=(n:Int)) (he:e=.returned (.tuple #[u8V b,.bool true])) (hr:RD w' r t left en m z e0) (hg:w.grownBy w' (some r)):SgPost r t left en m e0 s w e w':=by
 subst h hz;exact⟨⟨he,hr⟩,hg⟩
theorem SgPost.of_no {r:Nat} {t left:ByteArray} {en:UInt8} {m:Nat} {e0:Int} {s:SR} {w:World} {e:Ending} {w':World} {p k:Nat} {z z':Int} (h:s=.no p k) (hz:z=(p:Int)) (hz':z'=(k:Int)) (he:e=.returned (.tuple #[.int .u8 0,.bool false])) (hr:RD w' r t left en m z z') (hg:w.grownBy w' (some r)):SgPost r t left en m e0 s w e w':=by
 subst h hz hz';exact⟨⟨he,hr⟩,hg⟩
theorem ofNat_small {n:Nat} (h:n<256):(UInt8.ofNat n).toNat=n:=by simp;omega
def HexInv (t:List UInt8) (a k:Nat) (sum:Nat):Prop:=
 (k=0∧sum=0)∨(k=1∧ ∃c,t[a]?=some c∧hexV c=some sum)∨(k=2∧sum<256∧hexR t a=.ok (UInt8.ofNat sum) (a+2))
theorem HexInv.none {t:List UInt8} {a k sum:Nat} (h:HexInv t a k sum) (hk:k<2) (hn:t[a+k]?=none):hexR t a=.no t.length 8:=by
 rcases h with⟨rfl,rfl⟩|⟨rfl,c,h1,h2⟩|⟨rfl,_⟩
 ·unfold hexR;rw[show t[a]?=Option.none from hn]
 ·unfold hexR;rw[h1];simp only[h2,hn]
 ·omega
theorem HexInv.bad {t:List UInt8} {a k sum:Nat} {d:UInt8} (h:HexInv t a k sum) (hk:k<2) (hn:t[a+k]?=some d) (hd:hexV d=Option.none):hexR t a=.no (a+k) 4:=by
 rcases h with⟨rfl,rfl⟩|⟨rfl,c,h1,h2⟩|⟨rfl,_⟩
 ·unfold hexR;rw[show t[a]?=some d from hn];simp only[hd];rfl
 ·unfold hexR;rw[h1];simp only[h2,hn,hd]
 ·omega
theorem HexInv.step {t:List UInt8} {a k sum y:Nat} {d:UInt8} (h:HexInv t a k sum) (hk:k<2) (hn:t[a+k]?=some d) (hd:hexV d=some y):HexInv t a (k+1) (16*sum+y):=by
 have hy:=hexV_lt hd
 rcases h with⟨rfl,rfl⟩|⟨rfl,c,h1,h2⟩|⟨rfl,_⟩
 ·exact .inr (.inl ⟨rfl,d,hn,by simpa using hd⟩)
 ·have:=hexV_lt h2
  refine .inr (.inr ⟨rfl,by omega,?_⟩)
  unfold hexR;rw[h1];simp only[h2,hn,hd]
 ·omega
theorem HexInv.lt {t:List UInt8} {a k sum:Nat} (h:HexInv t a k sum) (hk:k<2):sum<16:=by
 rcases h with⟨rfl,rfl⟩|⟨rfl,c,h1,h2⟩|⟨rfl,_⟩
 ·omega
 ·exact hexV_lt h2
 ·omega
theorem nib16:∀(s d:Fin 16),bits BinOp.or IntKind.u8 (((s.val:Nat):Int)*16%256) ((d.val:Nat):Int)=((16*s.val+d.val:Nat):Int):=by decide
theorem nib {s:Nat} {d:Int} {y:Nat} (hs:s<16) (hd:d=(y:Int)) (hy:y<16):Value.int .u8 (bits BinOp.or IntKind.u8 ((s:Int)*16%256) d)=.int .u8 ((16*s+y:Nat):Int):=by
 subst hd;rw[nib16 ⟨s,hs⟩ ⟨y,hy⟩]
theorem hexV_dig {c:UInt8} (h1:(48:Int)≤c.toNat) (h2:(c.toNat:Int)≤57):hexV c=some (c.toNat-48):=by unfold hexV;rw[if_pos ⟨by omega,by omega⟩]
theorem hexV_low {c:UInt8} (h1:(97:Int)≤c.toNat) (h2:(c.toNat:Int)≤102):hexV c=some (c.toNat-87):=by unfold hexV;rw[if_neg (by omega),if_pos ⟨by omega,by omega⟩]
theorem hexV_up {c:UInt8} (h1:(65:Int)≤c.toNat) (h2:(c.toNat:Int)≤70):hexV c=some (c.toNat-55):=by unfold hexV;rw[if_neg (by omega),if_neg (by omega),if_pos ⟨by omega,by omega⟩]
theorem hexV_no {c:UInt8} (h1:¬((48:Int)≤c.toNat∧(c.toNat:Int)≤57)) (h2:¬((97:Int)≤c.toNat∧(c.toNat:Int)≤102)) (h3:¬((65:Int)≤c.toNat∧(c.toNat:Int)≤70)):hexV c=none:=by
 unfold hexV;rw[if_neg (by omega),if_neg (by omega),if_neg (by omega)]
set_option maxRecDepth 100000 in
set_option maxHeartbeats 2000000 in
theorem hex_any (r:Nat) (t left:ByteArray) (en:UInt8) (m a:Nat) (e0:Int) (w:World) (h:RD w r t left en m (a:Int) e0) (hs:t.size≤1000000):
  Calls Tryz.prog 193 #[.pointer (some ⟨r,0,none⟩)] w (SgPost r t left en m e0 (hexR t.data.toList a) w):=by
 have HR0:=Lib.hid h
 clear h
 go_enter Tryz.func193,Tryz.ntmps193
 go_wp2_with fail
 go_loopw [4,7] (fun v i wr=>∃k sum:Nat,k≤2∧v=.int .u8 (sum:Int)∧i=.int .i64 (k:Int)∧Hid (HexInv t.data.toList a k sum)∧Hid (RD wr r t left en m ((a+k:Nat):Int) e0)∧Hid (w.grownBy wr (some r))) (fun _ i _=>2-(intOf i).toNat)
 case atStart=>exact⟨0,0,by omega,rfl,rfl,Lib.hid (.inl ⟨rfl,rfl⟩),HR0,Lib.hid (World.grownBy.refl _ _)⟩
 case round=>
  clear HR0
  obtain⟨k,sum,hk,rfl,rfl,HI,HR,HG⟩:=hrel
  by_cases hlt:k<2
  ·have i1:(k:Int)<2:=by omega
   by_cases ha:a+k<t.size
   ·have HA:=Lib.hid (Lib.data_getElem? t (a+k) ha)
    have HS:=Lib.hid (HI.out.lt hlt)
    obtain⟨c,hc⟩:∃c,t[a+k]=c:=⟨_,rfl⟩
    rw[hc]at HA
    have HC:=Lib.hid hc;clear hc
    by_cases d1:(48:Int)≤c.toNat∧(c.toNat:Int)≤57
    ·obtain⟨d2,d3⟩:=d1
     go_wp2_with (first|(go_at_call 173;refine(next_some r t left en m (a+k) e0 _ HR.out ha hs).mono ?_;rw[HC.out];rintro e1 w1 ⟨rfl,h1,h2⟩;have HR1:=Lib.hid h1;have HG1:=Lib.hid (HG.out.trans h2);clear h1 h2))
     exact⟨⟨k+1,16*sum+(c.toNat-48),by omega,nib HS.out (by omega) (by omega),by go_num,Lib.hid (HI.out.step hlt HA.out (hexV_dig d2 d3)),HR1,HG1⟩,by simp only[intOf];omega⟩
    by_cases d4:(97:Int)≤c.toNat∧(c.toNat:Int)≤102
    ·obtain⟨d2,d3⟩:=d4
     have d5:¬(c.toNat:Int)≤57:=by omega
     have d6:(48:Int)≤c.toNat:=by omega
     clear d1
     go_wp2_with (first|(go_at_call 173;refine(next_some r t left en m (a+k) e0 _ HR.out ha hs).mono ?_;rw[HC.out];rintro e1 w1 ⟨rfl,h1,h2⟩;have HR1:=Lib.hid h1;have HG1:=Lib.hid (HG.out.trans h2);clear h1 h2))
     exact⟨⟨k+1,16*sum+(c.toNat-87),by omega,nib HS.out (by omega) (by omega),by go_num,Lib.hid (HI.out.step hlt HA.out (hexV_low d2 d3)),HR1,HG1⟩,by simp only[intOf];omega⟩
    by_cases d7:(65:Int)≤c.toNat∧(c.toNat:Int)≤70
    ·obtain⟨d2,d3⟩:=d7
     have d5:¬(c.toNat:Int)≤57:=by omega
     have d6:(48:Int)≤c.toNat:=by omega
     have d8:¬(97:Int)≤c.toNat:=by omega
     clear d1 d4
     go_wp2_with (first|(go_at_call 173;refine(next_some r t left en m (a+k) e0 _ HR.out ha hs).mono ?_;rw[HC.out];rintro e1 w1 ⟨rfl,h1,h2⟩;have HR1:=Lib.hid h1;have HG1:=Lib.hid (HG.out.trans h2);clear h1 h2))
     exact⟨⟨k+1,16*sum+(c.toNat-55),by omega,nib HS.out (by omega) (by omega),by go_num,Lib.hid (HI.out.step hlt HA.out (hexV_up d2 d3)),HR1,HG1⟩,by simp only[intOf];omega⟩
    have HN:=Lib.hid (HI.out.bad hlt HA.out (hexV_no d1 d4 d7))
    have HD:=Lib.hid (show(¬(48:Int)≤c.toNat∨ ¬(c.toNat:Int)≤57)∧(¬(97:Int)≤c.toNat∨ ¬(c.toNat:Int)≤102)∧(¬(65:Int)≤c.toNat∨ ¬(c.toNat:Int)≤70)from by omega)
    clear d1 d4 d7
    have hdd:=HD.out.1
    rcases hdd with d1|d1 <;> rcases HD.out.2.1 with d2|d2 <;> rcases HD.out.2.2 with d3|d3
    all_goals
     go_wp2_with (first
      |(go_at_call 173;refine(next_some r t left en m (a+k) e0 _ HR.out ha hs).mono ?_;rw[HC.out];rintro e1 w1 ⟨rfl,h1,h2⟩;have c4:=h1.cells.2.2.2.2.1;have HR1:=Lib.hid h1;have HG1:=Lib.hid (HG.out.trans h2);clear h1 h2)
      |(go_at_call 146;refine(fail_any r t left en m _ e0 _ _ HR1.out).mono ?_;rintro e1 w2 ⟨rfl,h1,h2⟩;have HR2:=Lib.hid h1;have HG2:=Lib.hid (HG1.out.trans h2);clear h1 h2))
     all_goals
      refine bodyPost_ret (v:=.tuple #[.int .u8 0,.bool false]) (by simp[results,Tryz.results193,go_sem]) rfl ?_
      exact SgPost.of_no HN.out (by omega) rfl rfl HR2.out HG2.out
   ·have HN:=Lib.hid (HI.out.none hlt (List.getElem?_eq_none (by have:=sz_data t;omega)))
    go_wp2_with (first|(go_at_call 173;refine(next_none r t left en m (a+k) e0 _ HR.out ha hs).mono ?_;rintro e1 w1 ⟨rfl,h1,h2⟩;have HR1:=Lib.hid h1;have HG1:=Lib.hid (HG.out.trans h2);clear h1 h2))
    refine bodyPost_ret (v:=.tuple #[.int .u8 0,.bool false]) (by simp[results,Tryz.results193,go_sem]) rfl ?_
    exact SgPost.of_no HN.out (by have:=sz_data t;omega) rfl rfl HR1.out HG1.out
  ·obtain rfl:k=2:=by omega
   have HQ:=Lib.hid (show sum<256∧hexR t.data.toList a=.ok (UInt8.ofNat sum) (a+2)from by rcases HI.out with⟨h,_⟩|⟨h,_⟩|⟨_,h⟩ <;> first|exact h|omega)
   go_wp2_with fail
   have e1:(Value.int .u8 (sum:Int))=u8V (UInt8.ofNat sum):=by
    show Value.int .u8 (sum:Int)=.int .u8 (((UInt8.ofNat sum).toNat:Nat):Int)
    rw[ofNat_small HQ.out.1]
   rw[e1]
   refine bodyPost_ret (v:=.tuple #[u8V (UInt8.ofNat sum),.bool true]) (by simp[results,Tryz.results193,go_sem]) rfl ?_
   exact SgPost.of_ok HQ.out.2 rfl rfl HR.out HG.out
theorem zeroU8:∀w,(zeroValue 5).run Tryz.prog w=.ok (.int .u8 0) w:=fun w=>by kernel_rfl
theorem esc_some {left:List UInt8} {c v:UInt8} (h:meantB left c=some v):(escF left c).getD (.int .u8 0)=u8V v∧(escF left c).isSome=true:=by simp[escF,h]
theorem esc_none {left:List UInt8} {c:UInt8} (h:meantB left c=none):(escF left c).getD (.int .u8 0)=.int .u8 0∧(escF left c).isSome=false:=by simp[escF,h]
theorem eq120 (b:UInt8):((b.toNat:Int)==120)=decide (b=120):=by
 rw[Bool.eq_iff_iff,beq_iff_eq,decide_eq_true_eq,←UInt8.toNat_inj]
 show _↔b.toNat=120
 omega
set_option maxRecDepth 100000 in
set_option maxHeartbeats 2000000 in
theorem sign_any (r:Nat) (t left:ByteArray) (en:UInt8) (m n0 a:Nat) (e0:Int) (w:World) (h:RD w r t left en m (a:Int) e0) (hm:BMap w m n0 (escF left.data.toList)) (hmr:m≠r) (hs:t.size≤1000000):
  Calls Tryz.prog 175 #[.pointer (some ⟨r,0,none⟩)] w (SgPost r t left en m e0 (signR left.data.toList t.data.toList a) w):=by
 have HR:=Lib.hid h;have HM:=Lib.hid hm
 clear h hm
 have hsz:=sz_data t
 by_cases ha:a<t.size
 ·have hA:t.data.toList[a]?=some t[a]:=Lib.data_getElem? t a ha
  obtain⟨b,hb⟩:∃b,t[a]=b:=⟨_,rfl⟩
  rw[hb]at hA
  have HC:=Lib.hid hb;clear hb
  have h92:=eq92 b
  by_cases hb:b=92
  ·rw[decide_eq_true hb]at h92
   have h92':(b.toNat:Int)=92:=by simpa using h92
   by_cases ha2:a+1<t.size
   ·have hA2:t.data.toList[a+1]?=some t[a+1]:=Lib.data_getElem? t (a+1) ha2
    obtain⟨c,hc⟩:∃c,t[a+1]=c:=⟨_,rfl⟩
    rw[hc]at hA2
    have HC2:=Lib.hid hc;clear hc
    cases hme:meantB left.data.toList c with
    |some v=>
     have HS:=Lib.hid (show signR left.data.toList t.data.toList a=.ok v (a+2)from by unfold signR;rw[hA];simp only[if_pos hb,hA2,hme])
     obtain⟨E1,E2⟩:=esc_some hme
     have HE1:=Lib.hid E1;have HE2:=Lib.hid E2
     clear E1 E2 hme hA hA2 hb
     go_enter Tryz.func175,Tryz.ntmps175
     go_wp2_with (first
      |(go_at_call 173;refine(next_some r t left en m a e0 _ HR.out ha hs).mono ?_;rw[HC.out];rintro e1 w1 ⟨rfl,h1,h2⟩;have HR1:=Lib.hid h1;have HG1:=Lib.hid h2;clear h1 h2)
      |(go_at_call 173;refine(next_some r t left en m (a+1) e0 _ HR1.out ha2 hs).mono ?_;rw[HC2.out];rintro e1 w2 ⟨rfl,h1,h2⟩;have c3:=h1.cells.2.2.2.1;have HR2:=Lib.hid h1;have HG2:=Lib.hid (HG1.out.trans h2);have HM2:=Lib.hid (HM.out.kept HG2.out (by simpa using hmr));clear h1 h2)
      |(at_lookup;refine wpList_look_bmap rfl _ _ _ rfl 5 Tryz.underlying179 (zeroU8 _) _ _ _ rfl HM2.out c _ rfl rfl ?_;rw[HE1.out,HE2.out])
      |fail)
     refine bodyPost_ret (v:=.tuple #[u8V v,.bool true]) (by simp[results,Tryz.results175,go_sem]) rfl ?_
     exact SgPost.of_ok HS.out rfl rfl HR2.out HG2.out
    |none=>
     obtain⟨E1,E2⟩:=esc_none hme
     have HE1:=Lib.hid E1;have HE2:=Lib.hid E2
     clear E1 E2
     have h120:=eq120 c
     by_cases hx:c=120
     ·rw[decide_eq_true hx]at h120
      have h120':(c.toNat:Int)=120:=by simpa using h120
      have HS:=Lib.hid (show signR left.data.toList t.data.toList a=hexR t.data.toList (a+2)from by unfold signR;rw[hA];simp only[if_pos hb,hA2,hme,if_pos hx])
      clear hme hA hA2 hb hx
      cases hh:hexR t.data.toList (a+2)with
      |ok v n=>
       rw[hh]at HS
       have HH:=Lib.hid hh;clear hh
       go_enter Tryz.func175,Tryz.ntmps175
       go_wp2_with (first
        |(go_at_call 173;refine(next_some r t left en m a e0 _ HR.out ha hs).mono ?_;rw[HC.out];rintro e1 w1 ⟨rfl,h1,h2⟩;have HR1:=Lib.hid h1;have HG1:=Lib.hid h2;clear h1 h2)
        |(go_at_call 173;refine(next_some r t left en m (a+1) e0 _ HR1.out ha2 hs).mono ?_;rw[HC2.out];rintro e1 w2 ⟨rfl,h1,h2⟩;have c3:=h1.cells.2.2.2.1;have HR2:=Lib.hid h1;have HG2:=Lib.hid (HG1.out.trans h2);have HM2:=Lib.hid (HM.out.kept HG2.out (by simpa using hmr));clear h1 h2)
        |(at_lookup;refine wpList_look_bmap rfl _ _ _ rfl 5 Tryz.underlying179 (zeroU8 _) _ _ _ rfl HM2.out c _ rfl rfl ?_;rw[HE1.out,HE2.out])
        |(go_at_call 193;refine(hex_any r t left en m (a+2) e0 _ HR2.out hs).mono ?_;rw[HH.out];rintro e1 w3 ⟨⟨rfl,h1⟩,h2⟩;have HR3:=Lib.hid h1;have HG3:=Lib.hid (HG2.out.trans h2);clear h1 h2)
        |fail)
       refine bodyPost_ret (v:=.tuple #[u8V v,.bool true]) (by simp[results,Tryz.results175,go_sem]) rfl ?_
       exact SgPost.of_ok HS.out rfl rfl HR3.out HG3.out
      |no p k=>
       rw[hh]at HS
       have HH:=Lib.hid hh;clear hh
       go_enter Tryz.func175,Tryz.ntmps175
       go_wp2_with (first
        |(go_at_call 173;refine(next_some r t left en m a e0 _ HR.out ha hs).mono ?_;rw[HC.out];rintro e1 w1 ⟨rfl,h1,h2⟩;have HR1:=Lib.hid h1;have HG1:=Lib.hid h2;clear h1 h2)
        |(go_at_call 173;refine(next_some r t left en m (a+1) e0 _ HR1.out ha2 hs).mono ?_;rw[HC2.out];rintro e1 w2 ⟨rfl,h1,h2⟩;have c3:=h1.cells.2.2.2.1;have HR2:=Lib.hid h1;have HG2:=Lib.hid (HG1.out.trans h2);have HM2:=Lib.hid (HM.out.kept HG2.out (by simpa using hmr));clear h1 h2)
        |(at_lookup;refine wpList_look_bmap rfl _ _ _ rfl 5 Tryz.underlying179 (zeroU8 _) _ _ _ rfl HM2.out c _ rfl rfl ?_;rw[HE1.out,HE2.out])
        |(go_at_call 193;refine(hex_any r t left en m (a+2) e0 _ HR2.out hs).mono ?_;rw[HH.out];rintro e1 w3 ⟨⟨rfl,h1⟩,h2⟩;have HR3:=Lib.hid h1;have HG3:=Lib.hid (HG2.out.trans h2);clear h1 h2)
        |fail)
       refine bodyPost_ret (v:=.tuple #[.int .u8 0,.bool false]) (by simp[results,Tryz.results175,go_sem]) rfl ?_
       exact SgPost.of_no HS.out rfl rfl rfl HR3.out HG3.out
     ·rw[decide_eq_false hx]at h120
      have h120':¬(c.toNat:Int)=120:=by simpa using h120
      have h120n:((c.toNat:Int) != 120)=true:=by simpa using h120'
      have HS:=Lib.hid (show signR left.data.toList t.data.toList a=.no (a+1) 4 from by unfold signR;rw[hA];simp only[if_pos hb,hA2,hme,if_neg hx])
      clear hme hA hA2 hb hx
      go_enter Tryz.func175,Tryz.ntmps175
      go_wp2_with (first
       |(go_at_call 173;refine(next_some r t left en m a e0 _ HR.out ha hs).mono ?_;rw[HC.out];rintro e1 w1 ⟨rfl,h1,h2⟩;have HR1:=Lib.hid h1;have HG1:=Lib.hid h2;clear h1 h2)
       |(go_at_call 173;refine(next_some r t left en m (a+1) e0 _ HR1.out ha2 hs).mono ?_;rw[HC2.out];rintro e1 w2 ⟨rfl,h1,h2⟩;have c3:=h1.cells.2.2.2.1;have c4:=h1.cells.2.2.2.2.1;have HR2:=Lib.hid h1;have HG2:=Lib.hid (HG1.out.trans h2);have HM2:=Lib.hid (HM.out.kept HG2.out (by simpa using hmr));clear h1 h2)
       |(at_lookup;refine wpList_look_bmap rfl _ _ _ rfl 5 Tryz.underlying179 (zeroU8 _) _ _ _ rfl HM2.out c _ rfl rfl ?_;rw[HE1.out,HE2.out])
       |(go_at_call 146;refine(fail_any r t left en m _ e0 _ _ HR2.out).mono ?_;rintro e1 w3 ⟨rfl,h1,h2⟩;have HR3:=Lib.hid h1;have HG3:=Lib.hid (HG2.out.trans h2);clear h1 h2)
       |fail)
      refine bodyPost_ret (v:=.tuple #[.int .u8 0,.bool false]) (by simp[results,Tryz.results175,go_sem]) rfl ?_
      exact SgPost.of_no HS.out (by omega) rfl rfl HR3.out HG3.out
   ·have HS:=Lib.hid (show signR left.data.toList t.data.toList a=.no t.data.toList.length 8 from by unfold signR;rw[hA];simp only[if_pos hb,List.getElem?_eq_none (show t.data.toList.length≤a+1 by omega)])
    clear hA hb
    go_enter Tryz.func175,Tryz.ntmps175
    go_wp2_with (first
     |(go_at_call 173;refine(next_some r t left en m a e0 _ HR.out ha hs).mono ?_;rw[HC.out];rintro e1 w1 ⟨rfl,h1,h2⟩;have HR1:=Lib.hid h1;have HG1:=Lib.hid h2;clear h1 h2)
     |(go_at_call 173;refine(next_none r t left en m (a+1) e0 _ HR1.out ha2 hs).mono ?_;rintro e1 w2 ⟨rfl,h1,h2⟩;have HR2:=Lib.hid h1;have HG2:=Lib.hid (HG1.out.trans h2);clear h1 h2)
     |fail)
    refine bodyPost_ret (v:=.tuple #[.int .u8 0,.bool false]) (by simp[results,Tryz.results175,go_sem]) rfl ?_
    exact SgPost.of_no HS.out (by omega) rfl rfl HR2.out HG2.out
  ·rw[decide_eq_false hb]at h92
   have h92':¬(b.toNat:Int)=92:=by simpa using h92
   have h92n:((b.toNat:Int) != 92)=true:=by simpa using h92'
   by_cases hp:plainP b left.data.toList
   ·have HS:=Lib.hid (show signR left.data.toList t.data.toList a=.ok b (a+1)from by unfold signR;rw[hA];simp only[if_neg hb,if_pos hp])
    have HP:=Lib.hid (decide_eq_true hp)
    clear hA hb hp
    go_enter Tryz.func175,Tryz.ntmps175
    go_wp2_with (first
     |(go_at_call 173;refine(next_some r t left en m a e0 _ HR.out ha hs).mono ?_;rw[HC.out];rintro e1 w1 ⟨rfl,h1,h2⟩;have c1:=h1.cells.2.1;have HR1:=Lib.hid h1;have HG1:=Lib.hid h2;clear h1 h2)
     |(go_at_call 192;refine(plain_any b left _).mono ?_;rintro e w' ⟨rfl,rfl⟩;rw[HP.out])
     |fail)
    refine bodyPost_ret (v:=.tuple #[u8V b,.bool true]) (by simp[results,Tryz.results175,go_sem]) rfl ?_
    exact SgPost.of_ok HS.out rfl rfl HR1.out HG1.out
   ·have HS:=Lib.hid (show signR left.data.toList t.data.toList a=.no a 4 from by unfold signR;rw[hA];simp only[if_neg hb,if_neg hp])
    have HP:=Lib.hid (decide_eq_false hp)
    clear hA hb hp
    go_enter Tryz.func175,Tryz.ntmps175
    go_wp2_with (first
     |(go_at_call 173;refine(next_some r t left en m a e0 _ HR.out ha hs).mono ?_;rw[HC.out];rintro e1 w1 ⟨rfl,h1,h2⟩;have c1:=h1.cells.2.1;have c4:=h1.cells.2.2.2.2.1;have HR1:=Lib.hid h1;have HG1:=Lib.hid h2;clear h1 h2)
     |(go_at_call 192;refine(plain_any b left _).mono ?_;rintro e w' ⟨rfl,rfl⟩;rw[HP.out])
     |(go_at_call 146;refine(fail_any r t left en m _ e0 _ _ HR1.out).mono ?_;rintro e1 w3 ⟨rfl,h1,h2⟩;have HR3:=Lib.hid h1;have HG3:=Lib.hid (HG1.out.trans h2);clear h1 h2)
     |fail)
    refine bodyPost_ret (v:=.tuple #[.int .u8 0,.bool false]) (by simp[results,Tryz.results175,go_sem]) rfl ?_
    exact SgPost.of_no HS.out (by omega) rfl rfl HR3.out HG3.out
 ·have HS:=Lib.hid (show signR left.data.toList t.data.toList a=.no t.data.toList.length 8 from by unfold signR;rw[List.getElem?_eq_none (show t.data.toList.length≤a by omega)])
  go_enter Tryz.func175,Tryz.ntmps175
  go_wp2_with (first
   |(go_at_call 173;refine(next_none r t left en m a e0 _ HR.out ha hs).mono ?_;rintro e1 w2 ⟨rfl,h1,h2⟩;have HR2:=Lib.hid h1;have HG2:=Lib.hid h2;clear h1 h2)
   |fail)
  refine bodyPost_ret (v:=.tuple #[.int .u8 0,.bool false]) (by simp[results,Tryz.results175,go_sem]) rfl ?_
  exact SgPost.of_no HS.out (by omega) rfl rfl HR2.out HG2.out
end Go.Proofs.YtpfokabdpmjobaaGreatDoor
