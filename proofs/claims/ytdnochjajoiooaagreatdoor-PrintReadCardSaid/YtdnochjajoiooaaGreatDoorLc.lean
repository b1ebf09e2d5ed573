/- The contracts of strings.Builder that the shelf does not lay over this seat: copyCheck, WriteString. Plain laws of texts: signs, literals, classes, numbers are read as they were written. A range over an iterator that turns one block of the caller's own (a reader) between two rounds, and tells at its end where that stands. -/
import Derived.Test.YtdnochjajoiooaaGreatDoorPn
import Derived.Test.YtdnochjajoiooaaGreatDoorShelf
import Derived.WalkKit
import Derived.WalkSpells
import Derived.WalkLawsBesides
import Derived.Lib.Builder
import Derived.Lib.AppendStr
import Derived.Lib.UnsafeStr
import Derived.Laws.Externs
import Derived.Test.YtdnochjajoiooaaGreatDoorQb
import Derived.Test.YtdnochjajoiooaaGreatDoorQm
import Derived.RangeFuncWrites
import Derived.RangeFuncLeaves
import Derived.RangeFuncBox
import Derived.RangeFuncCalls
import Derived.RangeFuncBound
import Derived.RangeFuncFrom
namespace Go.Proofs.YtdnochjajoiooaaGreatDoor
open Go.RowKit
set_option linter.unusedSimpArgs false
set_option linter.unusedVariables false
abbrev BAt (B b:Nat) (p:Value) (l:List UInt8) (w:World):Prop:=Lib.BuilderAt 50 5 B b p (Lib.byteCells l) w
abbrev IsB (B b:Nat) (l:List UInt8) (w:World):Prop:=Lib.IsBuilder 50 5 B b (Lib.byteCells l) w
theorem sizeBuilder:(Tryz.prog.info? 50).map (·.size)=some 2:=by kernel_rfl
theorem liesBuilder:liesAt Tryz.prog Tryz.prog.depth 50 (2/Tryz.prog.cellsOf 50) 0 50 1=true:=by kernel_rfl
set_option maxHeartbeats 1000000 in
set_option maxRecDepth 100000 in
theorem L8 (b:Nat) (w:World) (h0:w.cell? ⟨b,0,none⟩=some (.pointer (some ⟨b,0,none⟩))):
  Calls Tryz.prog 37 #[.pointer (some ⟨b,0,none⟩)] w fun e w'=>e=.returned (.tuple #[])/\w'=w:=by
 obtain⟨j,hj,_⟩:=Option.map_eq_some_iff.1 sizeBuilder;go_enter Tryz.func37,Tryz.ntmps37
 go_wp2
 rw[Lib.run_neq_ptr_same w _ Tryz.underlying47 hj];go_wp2
 go_end0
 exact⟨rfl,rfl⟩
set_option maxHeartbeats 1000000 in
set_option maxRecDepth 100000 in
theorem Kw (b:Nat) (w:World) (h0:w.cell? ⟨b,0,none⟩=some (.pointer none)) (hsh:w.shape? b=some (50,2)) (hfz:w.frozen? ⟨b,0,none⟩=false):
  Calls Tryz.prog 37 #[.pointer (some ⟨b,0,none⟩)] w fun e w'=>e=.returned (.tuple #[])/\w'=w.setCell ⟨b,0,none⟩ (.pointer (some ⟨b,0,none⟩)):=by
 obtain⟨j,hj,hjs⟩:=Option.map_eq_some_iff.1 sizeBuilder;go_enter Tryz.func37,Tryz.ntmps37
 go_wp2
 rw[Lib.run_to_unsafe w ⟨b,0,none⟩ Tryz.underlying47 Tryz.underlying120 hj (by rw[hjs];decide) hsh (Nat.zero_lt_succ 1)];simp only[Result.andThen];rw[Oper.upon_value];go_wp2
 rw[run_callFunc_extern Tryz.func61 (by kernel_rfl) (by kernel_rfl) (by kernel_rfl) (e:=Extern.AbiNoEscape.same) (by kernel_rfl)];rw[Lib.run_noEscape];simp only[Result.andThen];rw[Oper.upon_value];go_wp2
 rw[Lib.run_from_unsafe w ⟨b,0,none⟩ Tryz.underlying120 Tryz.underlying47 hj hsh liesBuilder];simp only[Result.andThen];rw[Oper.upon_value];go_wp2
 go_end0
 exact⟨rfl,rfl⟩
def Keeps (w w':World):Prop:=∀(k:Nat) (cs:Array Value) (T:TypeId) (fr:Nat×Nat),w.heap[k]?=some (Obj.cells cs T fr)->T≠50->T≠5->w'.heap[k]?=some (Obj.cells cs T fr)
theorem Keeps.trans {a b c:World} (h:Keeps a b) (k:Keeps b c):Keeps a c:=fun i cs T fr hi h1 h2=>k i cs T fr (h i cs T fr hi h1 h2) h1 h2
theorem Keeps.set {w:World} {b i:Nat} {cs:Array Value} {u:Value} (h:w.heap[b]?=some (.cells cs 50 (0,0))):Keeps w (w.setCell ⟨b,i,none⟩ u):=fun k ds T fr hk h1 _=>
 (Below.heap_setCell _ _ _ _ (fun e=>by
  have e:k=b:=e;subst e;rw[h]at hk;injection hk with hk;injection hk with _ hT;exact h1 hT.symm)).trans hk
theorem Keeps.grown {w w':World} {B n:Nat} {v:Value} {xs:List Value} (hown:w.ownsRow B 5 1 v n xs) (hg:w.grownBy w' v.ownBlock):Keeps w w':=fun k ds T fr hk _ h2=>
 (hg.block k (by
  rcases Nat.lt_or_ge k w.heap.size with h'|h'
  ·exact h'
  ·simp[Array.getElem?_eq_none h']at hk) (fun e=>by
  rcases hown.2 with⟨hv,_⟩|⟨g,cap,cur,hv,_,hh,_⟩
  ·rw[hv]at e;cases e
  ·rw[hv]at e;have e:k=g:=by simpa[Value.ownBlock]using e
   subst e;rw[hh]at hk;injection hk with hk;injection hk with _ hT;exact h2 hT.symm)).trans hk
theorem Keeps.below {w w':World} (h:Below w.heap.size w w'):Keeps w w':=fun k _ _ _ hk _ _=>(h.block k (by
 rcases Nat.lt_or_ge k w.heap.size with h'|h'
 ·exact h'
 ·simp[Array.getElem?_eq_none h']at hk)).trans hk
theorem Im (B b:Nat) (l:List UInt8) (w:World) (h:IsB B b l w):
  Calls Tryz.prog 37 #[.pointer (some ⟨b,0,none⟩)] w fun e w'=>e=.returned (.tuple #[])/\(BAt B b (.pointer (some ⟨b,0,none⟩)) l w'/\Below B w w'/\Keeps w w'):=by
 rcases h with h|h
 ·refine(Kw b w h.cell0 h.shape h.frozen0).mono ?_;rintro e w' ⟨rfl,rfl⟩;obtain⟨_,v,hbk,_⟩:=id h;exact⟨rfl,h.used _,(Below.refl B w).setCell (p:=⟨b,0,none⟩) h.1 _,Keeps.set hbk⟩
 ·refine(L8 b w h.cell0).mono ?_;rintro e w' ⟨rfl,rfl⟩;exact⟨rfl,h,Below.refl B _,fun _ _ _ _ h _ _=>h⟩
theorem infoByte:(Tryz.prog.info? 5).map (fun i=>(i.zero,i.size,i.bytes))=some (some (.int .u8 0),1,1):=by kernel_rfl
set_option maxHeartbeats 2000000 in
set_option maxRecDepth 100000 in
theorem FY (B b:Nat) (l:List UInt8) (s:ByteArray) (w:World) (h:IsB B b l w) (hlen:l.length+s.size<=140737488355328) (hBw:B<=w.heap.size):
  Calls Tryz.prog 19 #[.pointer (some ⟨b,0,none⟩),.string s] w fun e w'=>e=.returned (.tuple #[.int .i64 s.size,.nilIface])/\(IsB B b (l++s.data.toList) w'/\Below B w w'/\Keeps w w'):=by
 obtain⟨i0,hi,hz0,hz1,hz2⟩:=info_parts infoByte;go_enter Tryz.func19,Tryz.ntmps19
 go_wp2_with (go_at_call 37;refine(Im B b l _ h).mono ?_)
 rintro e w1 ⟨rfl,h1,hb1,hk1⟩;have HK1:=qd hk1;clear hk1;obtain⟨hB,v,hbk,hown,hne⟩:=h1;have c0:w1.cell? ⟨b,0,none⟩=some (.pointer (some ⟨b,0,none⟩)):=by rw[Lib.cell_of_heap hbk];rfl
 have c1:w1.cell? ⟨b,1,none⟩=some v:=by rw[Lib.cell_of_heap hbk];rfl
 have hbl:(Lib.byteCells l).length=l.length:=by simp[Lib.byteCells]
 go_wp2_with (at_builtin;refine Lib.wpList_append_own_string _ rfl _ _ 48 9 rfl B 5 i0 Tryz.underlying48 Tryz.underlying9 hi hz0 hz1 hz2 _ _ _ rfl hown s rfl ?c3 ?c4 ?c5 ?_)
 case c3=>unfold maxLen;omega
 case c4=>omega
 case c5=>have:=hb1.size;omega
 intro v' w2 hown' hgrow _
 have hlt:b<w1.heap.size:=by
  rcases Nat.lt_or_ge b w1.heap.size with h'|h'
  ·exact h'
  ·simp[Array.getElem?_eq_none h']at hbk
 have hb2:w2.heap[b]?=some (.cells #[.pointer (some ⟨b,0,none⟩),v] 50 (0,0)):=by
  rw[hgrow.block b hlt (fun e=>hne e.symm)];exact hbk
 have d0:w2.cell? ⟨b,0,none⟩=some (.pointer (some ⟨b,0,none⟩)):=by rw[Lib.cell_of_heap hb2];rfl
 have d1:w2.cell? ⟨b,1,none⟩=some v:=by rw[Lib.cell_of_heap hb2];rfl
 have f1:w2.frozen? ⟨b,1,none⟩=false:=Lib.frozen_of_heap hb2 1
 obtain⟨ao,n',cap,rfl⟩:∃ao n' cap,v'=.slice ao n' cap:=by
  rcases hown'.2 with⟨hv,_⟩|⟨g,cap,cur,hv,_⟩
  ·exact⟨_,_,_,hv⟩
  ·exact⟨_,_,_,hv⟩
 have HE:=qd (show Lib.byteCells (l++s.data.toList)=Lib.byteCells l++Lib.strCells s by simp[Lib.byteCells,Lib.strCells]);clear hbl;go_wp2
 go_ret2;refine⟨rfl,.inr ?_,?_,?_⟩
 ·have h:=Lib.BuilderAt.put (T:=50) (e:=5) hB hb2 (bs':=Lib.byteCells l++Lib.strCells s) (by rw[List.length_append,Lib.strCells_length,show(Lib.byteCells l).length=l.length by simp[Lib.byteCells]];exact hown') (by decide);rw[<-HE.out]at h;exact h
 ·exact(hb1.grown hgrow (by have:=hb1.size;omega) (fun k hk=>(hown.lt k hk).1)).setCell (p:=⟨b,1,none⟩) hB _
 ·exact HK1.out.trans ((Keeps.grown hown hgrow).trans (Keeps.set hb2))
theorem BAt.below {B b:Nat} {p:Value} {l:List UInt8} {w w':World} (h:BAt B b p l w) (hb:Below w.heap.size w w'):BAt B b p l w':=by
 obtain⟨hB,v,hbk,hown,hne⟩:=h
 have hlt:b<w.heap.size:=by
  rcases Nat.lt_or_ge b w.heap.size with h'|h'
  ·exact h'
  ·simp[Array.getElem?_eq_none h']at hbk
 exact⟨hB,v,(hb.block _ hlt).trans hbk,World.ownsRow.kept (row:=none) hown ⟨hb.1,hb.2,hb.3,hb.size,fun k hk _=>hb.block k hk⟩ (by
  cases h:v.ownBlock with
  |none=>exact .inl rfl
  |some k=>exact .inr (by simp)),hne⟩
theorem IsB.below {B b:Nat} {l:List UInt8} {w w':World} (h:IsB B b l w) (hb:Below w.heap.size w w'):IsB B b l w':=h.imp (fun h=>BAt.below h hb) (fun h=>BAt.below h hb)
theorem IsB.new (w:World) {B:Nat} (hB:B<=w.heap.size):IsB B w.heap.size [] (w.alloc (.cells #[.pointer none,.slice none 0 0] 50)):=
 .inl ⟨hB,.slice none 0 0,heap_alloc_new w _,World.ownsRow_nil _ _ _ _,by simp[Value.ownBlock]⟩
theorem Pe (n:Nat) (h:n<16):JR n≠34/\JR n≠93/\JR n≠92:=by
 have:∀k:Fin 16,JR k.val≠34/\JR k.val≠93/\JR k.val≠92:=by decide
 exact this ⟨n,h⟩
def Jb (q:UInt8):Bool->List UInt8->List UInt8×List UInt8
 |_,[]=>([],[])
 |true,c::r=>(c::(Jb q false r).1,(Jb q false r).2)
 |false,c::r=>if c=q then([],r)else(c::(Jb q (c==92) r).1,(Jb q (c==92) r).2)
def Fo (q:UInt8) (x:List UInt8):Prop:=∀r,Jb q false (x++r)=(x++(Jb q false r).1,(Jb q false r).2)
theorem I3 (q:UInt8):Fo q []:=fun r=>rfl
theorem D6 {q:UInt8} {x y:List UInt8} (h:Fo q x) (k:Fo q y):Fo q (x++y):=fun r=>by
 rw[List.append_assoc,h,k];simp
theorem Fy {q c:UInt8} (h:c≠q) (h2:c≠92):Fo q [c]:=fun r=>by
 have:(c==(92:UInt8))=false:=by simpa using h2
 simp only[List.singleton_append,Jb,if_neg h,this]
theorem Kr {α:Type} {q:UInt8} {f:α->List UInt8}:∀l:List α,(∀x∈l,Fo q (f x))->Fo q (l.flatMap f)
 |[],_=>I3 q
 |x::l,h=>by
  rw[List.flatMap_cons];exact D6 (h x List.mem_cons_self) (Kr l fun y hy=>h y (List.mem_cons_of_mem _ hy))
theorem Ks {left:List UInt8} {q:UInt8} (hq:q=34\/q=93) (hm:q∈left) (b:UInt8):Fo q (A6 left b):=by
 have h92:(92:UInt8)≠q:=by rcases hq with rfl|rfl <;> decide
 have pair:∀d:UInt8,Fo q [92,d]:=fun d r=>by
  simp only[List.cons_append,List.nil_append,Jb,if_neg h92,beq_self_eq_true]
 unfold A6;split
 ·rename_i h
  exact Fy (fun e=>h.2.2 (e▸hm)) h.2.1
 split
 ·exact pair _
 split
 ·exact pair _
 split
 ·exact pair _
 split
 ·exact pair _
 ·have hb:=b.toNat_lt;have h1:=Pe (b.toNat/16) (by omega);have h2:=Pe (b.toNat%16) (by omega);refine D6 (x:=[92,120]) (pair _) (D6 (x:=[_]) (Fy ?_ h1.2.2) (Fy ?_ h2.2.2))
  ·rcases hq with rfl|rfl
   ·exact h1.1
   ·exact h1.2.1
  ·rcases hq with rfl|rfl
   ·exact h2.1
   ·exact h2.2.1
theorem Q6 (r:Nat×Nat):Fo 93 (Cm r):=by
 unfold Cm;refine D6 (D6 (Ks (.inr rfl) (by simp) _) ?_) ?_
 ·split
  ·exact Fy (by decide) (by decide)
  ·exact I3 _
 ·split
  ·exact Ks (.inr rfl) (by simp) _
  ·exact I3 _
def ED (r:Nat×Nat):List (UInt8×UInt8):=
 if r.1+1<r.2 then[(UInt8.ofNat r.1,UInt8.ofNat r.2)]else if r.1≠r.2 then[(UInt8.ofNat r.1,UInt8.ofNat r.1),(UInt8.ofNat r.2,UInt8.ofNat r.2)]else[(UInt8.ofNat r.1,UInt8.ofNat r.1)]
def Fp (l:List (Nat×Nat)) (b:Nat):Prop:=∃r∈l,r.1<=b/\b<=r.2
def RA (l:List (UInt8×UInt8)) (b:Nat):Prop:=∃r∈l,r.1.toNat<=b/\b<=r.2.toNat
theorem Tl (l:List (Nat×Nat)) (hl:∀r∈l,r.1<=r.2/\r.2<=255) (b:Nat):RA (l.flatMap ED) b↔Fp l b:=by
 unfold RA Fp;constructor
 ·rintro⟨x,hx,h⟩;obtain⟨r,hr,hx⟩:=List.mem_flatMap.1 hx;refine⟨r,hr,?_⟩;have hb:=hl r hr;have e1:(UInt8.ofNat r.1).toNat=r.1:=by simp;omega
  have e2:(UInt8.ofNat r.2).toNat=r.2:=by simp;omega
  unfold ED at hx;split at hx
  ·simp only[List.mem_singleton]at hx;subst hx;simp only[e1,e2]at h;exact h
  ·split at hx
   ·simp only[List.mem_cons,List.not_mem_nil,or_false]at hx;rcases hx with rfl|rfl
    ·simp only[e1]at h;omega
    ·simp only[e2]at h;omega
   ·simp only[List.mem_singleton]at hx;subst hx;simp only[e1]at h;omega
 ·rintro⟨r,hr,h⟩;have hb:=hl r hr;have e1:(UInt8.ofNat r.1).toNat=r.1:=by simp;omega
  have e2:(UInt8.ofNat r.2).toNat=r.2:=by simp;omega
  by_cases h1:r.1+1<r.2
  ·exact⟨_,List.mem_flatMap.2 ⟨r,hr,by unfold ED;rw[if_pos h1];exact List.mem_singleton.2 rfl⟩,by simp only[e1,e2];exact h⟩
  ·by_cases h2:r.1≠r.2
   ·by_cases h3:b=r.1
    ·exact⟨(UInt8.ofNat r.1,UInt8.ofNat r.1),List.mem_flatMap.2 ⟨r,hr,by unfold ED;rw[if_neg h1,if_pos h2];simp⟩,by simp only[e1];omega⟩
    ·exact⟨(UInt8.ofNat r.2,UInt8.ofNat r.2),List.mem_flatMap.2 ⟨r,hr,by unfold ED;rw[if_neg h1,if_pos h2];simp⟩,by simp only[e2];omega⟩
   ·exact⟨(UInt8.ofNat r.1,UInt8.ofNat r.1),List.mem_flatMap.2 ⟨r,hr,by unfold ED;rw[if_neg h1,if_neg h2];simp⟩,by simp only[e1];omega⟩
theorem Tm {l:List (Nat×Nat)} (hl:∀r∈l,r.1<=r.2) (z b:Nat):(∀r∈BO l z,r.1<=r.2)/\(Fp (BO l z) b↔Fp l b\/b=z):=by
 unfold BO;rcases List.eq_nil_or_concat l with rfl|⟨ini,r,rfl⟩
 ·simp[Fp];omega
 ·rw[List.concat_eq_append]at hl ⊢;rw[List.getLast?_concat];obtain⟨x,y⟩:=r;have hxy:x<=y:=hl (x,y) (by simp);simp only;split
  ·rename_i h
   constructor
   ·intro r hr;rw[List.dropLast_concat]at hr;rcases List.mem_append.1 hr with hr|hr
    ·exact hl r (List.mem_append_left _ hr)
    ·simp only[List.mem_singleton]at hr;subst hr;simp only;omega
   ·rw[List.dropLast_concat];simp only[Fp,List.mem_append,List.mem_singleton,or_and_right,exists_or,exists_eq_left];constructor
    ·rintro(h1|h1)
     ·exact .inl (.inl h1)
     ·by_cases e:b=z
      ·exact .inr e
      ·exact .inl (.inr ⟨h1.1,by omega⟩)
    ·rintro((h1|h1)|rfl)
     ·exact .inl h1
     ·exact .inr ⟨h1.1,by omega⟩
     ·exact .inr ⟨by omega,Nat.le_refl _⟩
  ·constructor
   ·intro r hr;rcases List.mem_append.1 hr with hr|hr
    ·exact hl r hr
    ·simp only[List.mem_singleton]at hr;subst hr;exact Nat.le_refl _
   ·simp only[Fp,List.mem_append,List.mem_singleton,or_and_right,exists_or,exists_eq_left];constructor
    ·rintro(h1|h1)
     ·exact .inl h1
     ·exact .inr (by omega)
    ·rintro(h1|rfl)
     ·exact .inl h1
     ·exact .inr ⟨Nat.le_refl _,Nat.le_refl _⟩
theorem NH:∀(m:List Nat) (l:List (Nat×Nat)),(∀r∈l,r.1<=r.2)->(∀r∈m.foldl BO l,r.1<=r.2)/\ ∀b,Fp (m.foldl BO l) b↔Fp l b\/b∈m
 |[],l,h=>⟨h,fun b=>by simp⟩
 |z::m,l,h=>by
  have h1:=fun b=>Tm h z b
  obtain⟨h2,h3⟩:=NH m (BO l z) (h1 0).1;refine⟨h2,fun b=> ?_⟩;rw[List.foldl_cons,h3,(h1 b).2,List.mem_cons,or_assoc]
theorem Va (f:Nat->Bool) (b:Nat):Fp (Co f) b↔b<256/\f b=true:=by
 unfold Co;rw[(NH _ [] (by simp)).2 b];simp[Fp]
theorem Q7 {l:List (Nat×Nat)} {b:Nat} (hb:b<=255) (h:∀r∈l,r.2<=255):∀r∈BO l b,r.2<=255:=by
 intro r hr;unfold BO at hr;split at hr
 ·split at hr
  ·rcases List.mem_append.1 hr with hr|hr
   ·exact h r ((List.dropLast_sublist l).subset hr)
   ·simp only[List.mem_singleton]at hr;subst hr;exact hb
  ·rcases List.mem_append.1 hr with hr|hr
   ·exact h r hr
   ·simp only[List.mem_singleton]at hr;subst hr;exact hb
 ·simp only[List.mem_singleton]at hr;subst hr;exact hb
theorem Kt:∀(m:List Nat) (l:List (Nat×Nat)),(∀b∈m,b<=255)->(∀r∈l,r.2<=255)-> ∀r∈m.foldl BO l,r.2<=255
 |[],l,_,h=>h
 |b::m,l,hm,h=>Kt m (BO l b) (fun z hz=>hm z (List.mem_cons_of_mem _ hz)) (Q7 (hm b List.mem_cons_self) h)
theorem Pf (f:Nat->Bool):∀r∈Co f,r.1<=r.2/\r.2<=255:=fun r hr=>
 ⟨(NH _ [] (by simp)).1 r hr,Kt _ [] (fun b hb=>by
   have:=List.mem_range.1 (List.mem_filter.1 hb).1;omega) (by simp) r hr⟩
def Yc (c:UInt8):Bool:=Dt c.toNat
theorem WJ (n:Nat):∀c∈Lib.itoa (n:Int),Yc c=true:=by
 rw[Jo];have:=Nb n;unfold Eb at this;rw[List.all_eq_true]at this;exact this
theorem WK (n:Nat):Lib.itoa (n:Int)≠[]:=by rw[Jo];exact V1 n
section
variable {F:Fence} {n:Nat} {P:Program}
def Xp {α:Type} (F:Fence) (n:Nat) (P:Program) (g:Nat) (lb:Array Value) (encs:α->Array Value) (r:Nat) (At:List α×α->World->Prop) (Bk S:List α->World->Prop) (w0:World):Prop:=
 ∀(l:Nat) (J Jx:List α->World->Prop) (W:World),Below w0.heap.size w0 W ->
  (∀s A B,J s A->A.grownBy B (some r)->J s B) ->
  (∀pre x W1,J pre W1->At (pre,x) W1->YieldAt F (n-1) P l (encs x) W1 fun e W'=>
   (e=.returned (.bool true)/\J (pre++[x]) W'/\Bk (pre++[x]) W')\/(e=.returned (.bool false)/\Jx (pre++[x]) W')) ->
  J [] W ->
  CallsIn F n P g (#[.func (.yield l) #[] #[]]++lb) W fun e W'=>(∃v,e=.returned v)/\((∃xs,S xs W'/\J xs W')\/(∃pre,Jx pre W'))
def X3 {α:Type} (B:Nat) (Bk I:List α->World->Prop) (Ix:Code->List α->World->Prop) (xs:List α) (W:World):Exit->Act->World->Prop
 |.normal,_,W'=>KeepsFrom B W W'/\Bk xs W'/\I xs W'
 |.ret,_,W'=>KeepsFrom B W W'/\Ix .ret xs W'
 |.exit id,_,W'=>KeepsFrom B W W'/\Ix (.exit id) xs W'
 |.goto t,_,W'=>KeepsFrom B W W'/\Ix (.goto t) xs W'
 |.panic _,_,_=>False
 |.outgrown,_,_=>False
theorem Fz {α:Type} {g:Operand} {ps:Array Tmp} {assign body:Code} {Q:Exit->Act->World->Prop} {a:Act} {w:World}
  (hro:F.round=none) (h1:1<=n) {gf:Nat} {lb:Array Value} (hg:a.eval g=.func (.func gf) #[] lb) (hFg:F.fn gf) (eg:∀args w,(callFunc gf args).run P w=.ok (.enter gf args) w)
  {encs:α->Array Value} {r:Nat} (hr:r<w.heap.size) {At:List α×α->World->Prop} {Bk S:List α->World->Prop} (hseq:Xp F (n-1) P gf lb encs r At Bk S w)
  (hAt:OwnFrom w.heap.size At) (hBk:OwnFrom w.heap.size Bk) (hS:OwnFrom w.heap.size S) (hps:∀x,(encs x).size=ps.size)
  (I:List α->World->Prop) (Ix:Code->List α->World->Prop) (hI:OwnFrom w.heap.size I) (hIr:∀s A B,I s A->A.grownBy B (some r)->I s B) (hIx:∀c,OwnFrom w.heap.size (Ix c)) (h0:I [] w) (a₁:α->Act)
  (hassign:∀(l:Nat) (x:α) (W:World) (K:Act->World->Prop),K (a₁ x) W ->
   assign.wpIn (F.inRound l) (n-1-1) P (Exit.then K (fun _ _ _=>False)) {tmps:=(ps.zip (encs x)).foldl (fun t (p,v)=>t.setIfInBounds p v) a.tmps,defers:=[]} W)
  (hbody:∀(l:Nat) (pre:List α) (x:α) (W:World),I pre W->At (pre,x) W->body.wpIn (F.inRound l) (n-1-1) P (X3 w.heap.size Bk I Ix (pre++[x]) W) (a₁ x) W)
  (hdone:∀(D:Nat) (xs:List α) (W:World),w.heap.size<=D->S xs W->I xs W->W.heap[D]?=some (.deferred (some []))->Q .normal {a with defers:={target:=.collected D,args:= #[]}::a.defers} W)
  (hstop:∀(D:Nat) (c:Code) (pre:List α) (W:World),w.heap.size<=D->Ix c pre W->W.heap[D]?=some (.deferred (some []))->c.wpIn F n P Q {a with defers:={target:=.collected D,args:= #[]}::a.defers} W):
  (Code.rangeFunc g ps assign body).wpIn F n P Q a w:=by
 refine wpIn_rangeFunc ?_;intro fn hfn;rw[hro];obtain⟨rec,hrec⟩:∃rec:LoopState->Option Code->Loop,rec=fun st pe=>{state:=st,pending:=pe,fn,tmps:=a.tmps,params:=ps,assign,body,defers:=w.heap.size}:=⟨_,rfl⟩
 obtain⟨W1,hW1⟩:∃W1,(w.alloc (.deferred (some []))).alloc (.loop (rec .ready none))=W1:=⟨_,rfl⟩
 have hL1:W1.heap[w.heap.size+1]?=some (.loop (rec .ready none)):=by
  rw[<-hW1];have:=World.alloc_heap_new (w.alloc (.deferred (some []))) (.loop (rec .ready none));rwa [World.size_alloc]at this
 have hK1:W1.heap[w.heap.size]?=some (.deferred (some [])):=by
  rw[<-hW1];exact(Below.heap_alloc _ _ _ (by simp)).trans (World.alloc_heap_new w _)
 have hI1:I [] W1:=by rw[<-hW1];exact hI.alloc _ (hI.alloc _ h0)
 have hb1:Below w.heap.size w W1:=by rw[<-hW1];exact((Below.refl _ w).alloc (Nat.le_refl _) _).alloc (by simp) _
 have hlt:∀{W:World} {st:LoopState} {pe:Option Code},W.heap[w.heap.size+1]?=some (.loop (rec st pe))->w.heap.size+1<W.heap.size:=fun hl=>(Array.getElem?_eq_some_iff.1 hl).1
 refine⟨w.heap.size+1,[{target:=.collected w.heap.size,args:= #[]}],W1,{target:=.fn (.func gf) lb,args:= #[.func (.yield (w.heap.size+1)) #[] #[]]},W1,gf,
  #[.func (.yield (w.heap.size+1)) #[] #[]]++lb,W1,?_,?_,?_,?_,fun _=>h1,?_⟩
 ·rw[<-hW1,hrec];exact run_enterLoop_outer _ _ _ _ _
 ·simp only[resolve,hg];simp[go_sem]
 ·intro f' hf';simp[Target.leads]at hf';subst hf';exact hFg
 ·simp[invoke,go_sem,eg]
 ·refine(hseq (w.heap.size+1)
   (fun pre W=>I pre W/\W.heap[w.heap.size+1]?=some (.loop (rec .ready none))/\W.heap[w.heap.size]?=some (.deferred (some [])))
   (fun pre W=>∃c,Ix c pre W/\W.heap[w.heap.size+1]?=some (.loop (rec .done (some c)))/\W.heap[w.heap.size]?=some (.deferred (some [])))
   W1 hb1
   (fun s A B hs hg'=>⟨hIr s A B hs.1 hg',(hg'.block _ (hlt hs.2.1) (fun e=>by cases e;omega)).trans hs.2.1,(hg'.block _ (by have:=hlt hs.2.1;omega) (fun e=>by cases e;omega)).trans hs.2.2⟩)
   ?_ ⟨hI1,hL1,hK1⟩).mono ?_
  ·rintro pre x W ⟨hi,hl,hk⟩ hat;have hlt1:=hlt hl;have hy:=run_yield (P:=P) (args:=encs x) hl (by rw[hrec];exact hps x);rw[hrec]at hy;refine⟨fn,_,assign,body,hy,roundIn_of_wpIn hfn (hassign _ x W _ ⟨_,run_beginRound hl (by rw[hrec]),?_⟩)⟩;have hl2:(W.putObj (w.heap.size+1) (.loop {rec .ready none with state:=.busy})).heap[w.heap.size+1]?=some (.loop {rec .ready none with state:=.busy}):=World.putObj_heap_same hlt1;have hk2:(W.putObj (w.heap.size+1) (.loop {rec .ready none with state:=.busy})).heap[w.heap.size]?=some (.deferred (some [])):=(World.putObj_heap_other (by omega)).trans hk;refine wpIn_mono (hbody _ pre x _ (hI.putObj _ hi (by omega) hl rfl) (hAt.putObj _ hat (by omega) hl rfl)) ?_
   have fin:∀(jump:Option Code) (W3:World),KeepsFrom w.heap.size (W.putObj (w.heap.size+1) (.loop {rec .ready none with state:=.busy})) W3 ->
     (Instr.endRound (w.heap.size+1) jump).run P W3=.ok (.bool jump.isNone) (W3.putObj (w.heap.size+1) (.loop (rec (if jump.isNone then .ready else .done) jump))) /\
     W3.heap[w.heap.size+1]?=some (.loop {rec .ready none with state:=.busy}) /\
     (W3.putObj (w.heap.size+1) (.loop (rec (if jump.isNone then .ready else .done) jump))).heap[w.heap.size+1]?=some (.loop (rec (if jump.isNone then .ready else .done) jump)) /\
     (W3.putObj (w.heap.size+1) (.loop (rec (if jump.isNone then .ready else .done) jump))).heap[w.heap.size]?=some (.deferred (some [])):=fun jump W3 hk3=>by
    have hl3:=hk3.same _ _ (by omega) hl2 rfl;have:=run_endRound (P:=P) jump hl3;rw[hrec]at this ⊢;exact⟨this,by rw[hrec]at hl3;exact hl3,World.putObj_heap_same (Array.getElem?_eq_some_iff.1 hl3).1,(World.putObj_heap_other (by omega)).trans (hk3.same _ _ (Nat.le_refl _) hk2 rfl)⟩
   rintro e a3 W3 hp;cases e with
   |normal=>
    obtain⟨hk3,hbk3,hi3⟩:=hp;obtain⟨hr,hl3,hl4,hk4⟩:=fin none W3 hk3;exact⟨_,_,hr,.inl ⟨rfl,⟨hI.putObj _ hi3 (by omega) hl3 rfl,hl4,hk4⟩,hBk.putObj _ hbk3 (by omega) hl3 rfl⟩⟩
   |ret=>
    obtain⟨hk3,hi3⟩:=hp;obtain⟨hr,hl3,hl4,hk4⟩:=fin (some .ret) W3 hk3;exact⟨_,_,hr,.inr ⟨rfl,.ret,(hIx _).putObj _ hi3 (by omega) hl3 rfl,hl4,hk4⟩⟩
   |exit id=>
    obtain⟨hk3,hi3⟩:=hp;obtain⟨hr,hl3,hl4,hk4⟩:=fin (some (.exit id)) W3 hk3;exact⟨_,_,hr,.inr ⟨rfl,.exit id,(hIx _).putObj _ hi3 (by omega) hl3 rfl,hl4,hk4⟩⟩
   |goto t=>
    obtain⟨hk3,hi3⟩:=hp;obtain⟨hr,hl3,hl4,hk4⟩:=fin (some (.goto t)) W3 hk3;exact⟨_,_,hr,.inr ⟨rfl,.goto t,(hIx _).putObj _ hi3 (by omega) hl3 rfl,hl4,hk4⟩⟩
   |panic ch=>exact hp.elim
   |outgrown=>exact hp.elim
  ·rintro e W2 ⟨⟨v,rfl⟩,(⟨xs,hS2,hi,hl,hk⟩|⟨pre,c,hi,hl,hk⟩)⟩
   ·exact⟨none,_,by have:=run_endLoop (P:=P) hl (by rw[hrec];simp);rw[hrec]at this;exact this,hdone _ xs _ (Nat.le_refl _) (hS.putObj _ hS2 (by omega) hl rfl) (hI.putObj _ hi (by omega) hl rfl) ((World.putObj_heap_other (by omega)).trans hk)⟩
   ·exact⟨some c,_,by have:=run_endLoop (P:=P) hl (by rw[hrec];simp);rw[hrec]at this;exact this,hstop _ c pre _ (Nat.le_refl _) ((hIx c).putObj _ hi (by omega) hl rfl) ((World.putObj_heap_other (by omega)).trans hk)⟩
end
end Go.Proofs.YtdnochjajoiooaaGreatDoor
