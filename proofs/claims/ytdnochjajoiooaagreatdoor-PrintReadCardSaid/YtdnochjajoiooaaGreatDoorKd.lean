/- Parts of the proof. -/
import Derived.Test.YtdnochjajoiooaaGreatDoorCu
import Derived.Test.YtdnochjajoiooaaGreatDoorQm
import Derived.Test.YtdnochjajoiooaaGreatDoorDa
import Derived.Laws.StructEq
import Derived.ChangeKeysEq
import Derived.RegionTactic
import Derived.RegionIn
import Derived.Deep.RegionHeld3
import Derived.Test.YtdnochjajoiooaaGreatDoorPn
import Derived.Test.YtdnochjajoiooaaGreatDoorLs
namespace Go.Proofs.YtdnochjajoiooaaGreatDoor
open Go.RowKit
set_option linter.unusedSimpArgs false
set_option linter.unusedVariables false
def CntTab (w:World):Prop:=w.var? Tryz.prog "bonsai/tree.counts" = some #[.int .i64 0,.int .i64 0,.int .i64 0,.int .i64 0,.int .i64 0,.int .i64 0,.int .i64 0,.int .i64 0,.int .i64 2,.int .i64 (-1),.int .i64 2,.int .i64 (-1),.int .i64 1,.int .i64 1,.int .i64 1,.int .i64 1,.int .i64 1,.int .i64 1,.int .i64 1,.int .i64 1]
theorem CntTab.cells {w:World} (h:CntTab w) (i:Nat):w.cell? ⟨2,i,none⟩=(#[.int .i64 0,.int .i64 0,.int .i64 0,.int .i64 0,.int .i64 0,.int .i64 0,.int .i64 0,.int .i64 0,.int .i64 2,.int .i64 (-1),.int .i64 2,.int .i64 (-1),.int .i64 1,.int .i64 1,.int .i64 1,.int .i64 1,.int .i64 1,.int .i64 1,.int .i64 1,.int .i64 1]:Array Value)[i]? :=
 World.var?_cell (by kernel_rfl) h i
section
variable {P:Program} {ops:Array Oper} {Q:Exit->Act->World->Prop} {md:Region.Mode}
theorem Ko {p q:Nat->Bool}:∀(l:List Nat),(∀j,q j=true->p j=true)-> ∀i,i∈l->p i=true->q i=false->l.countP q<l.countP p
 |[],_,i,hi,_,_=>by cases hi
 |x::l,hpq,i,hi,hp,hq=>by
  have hle:l.countP q<=l.countP p:=List.countP_mono_left (fun j _ h=>hpq j h);simp only[List.countP_cons];rcases List.mem_cons.1 hi with rfl|hi
  ·rw[hp,hq];simp;omega
  ·have ih:=Ko l hpq i hi hp hq;cases hqx:q x
   ·cases p x <;> simp <;> omega
   ·rw[hpq x hqx];simp;omega
theorem FV {listed:Array Bool} {i:Nat} (h:i∈Region.ready md ops listed):i<ops.size/\listed.getD i true=false/\((ops[i]?).map (·.after.all fun e=> !Region.binds md e||listed.getD e.on false)).getD false=true:=by
 simp only[Region.ready,List.mem_filter,List.mem_range,Bool.and_eq_true,Bool.not_eq_true']at h;exact⟨h.1,h.2.1,h.2.2⟩
theorem Bz {listed:Array Bool} {i:Nat} {o:Oper} (h:i∈Region.ready md ops listed) (ho:ops[i]?=some o):(o.after.all fun e=> !Region.binds md e||listed.getD e.on false)=true:=by
 have:=(FV h).2.2;rw[ho]at this;exact this
theorem Td {Inv:Array Bool->Act->World->Prop}
  (hstep:∀listed a w,Inv listed a w-> ∀i,i∈Region.ready md ops listed->wpOp P ops Q i (fun a' w'=>Inv (listed.setIfInBounds i true) a' w') a w)
  (hend:∀listed a w,Inv listed a w->Region.ready md ops listed=[]->Q .normal a w):
  ∀(fuel:Nat) (listed:Array Bool) (a:Act) (w:World),Inv listed a w->(List.range ops.size).countP (fun i=> !listed.getD i true)<=fuel->wpAny P md ops Q fuel listed a w:=by
 intro fuel;induction fuel with
 |zero=>
  intro listed a w h hc
  have hr:Region.ready md ops listed=[]:=by
   apply List.eq_nil_iff_forall_not_mem.2;intro i hi;have hm:=FV hi;have h0:(List.range ops.size).countP (fun i=> !listed.getD i true)=0:=by omega
   have:=List.countP_eq_zero.1 h0 i (List.mem_range.2 hm.1);rw[hm.2.1]at this;simp at this
  exact⟨hr,hend _ _ _ h hr⟩
 |succ fuel ih=>
  intro listed a w h hc;refine⟨hend _ _ _ h,fun i hi=>wpOp_mono (fun a' w' h'=>ih _ _ _ h' ?_) (hstep _ _ _ h i hi)⟩;have hm:=FV hi
  have hlt:i<listed.size:=by
   apply Decidable.byContradiction;intro hn;have:=hm.2.1;simp[Array.getD,hn]at this
  have:=Ko (p:=fun j=> !listed.getD j true) (q:=fun j=> !(listed.setIfInBounds i true).getD j true) (List.range ops.size) (fun j hj=>by
   by_cases hji:j=i
   ·subst hji;rw[hm.2.1];rfl
   ·simp only[Bool.not_eq_true']at hj ⊢;simp only[Array.getD_eq_getD_getElem?,Array.getElem?_setIfInBounds]at hj ⊢;rw[if_neg (fun e=>hji e.symm)]at hj;exact hj) i (List.mem_range.2 hm.1) (by rw[hm.2.1];rfl) (by
   simp[Array.getD_eq_getD_getElem?,hlt])
  omega
theorem Mi {id:Nat} {a:Act} {w:World} (Inv:Array Bool->Act->World->Prop) (hm:P.follows .mixedOrders=true)
  (h0:Inv (Array.replicate ops.size false) a w.drew)
  (hstep:∀listed a w,Inv listed a w-> ∀i,i∈Region.ready .any ops listed->wpOp P ops Q i (fun a' w'=>Inv (listed.setIfInBounds i true) a' w') a w)
  (hend:∀listed a w,Inv listed a w->Region.ready .any ops listed=[]->Q .normal a w):(Code.region id ops true).wp P Q a w:=
 wp_region_any hm (Td hstep hend _ _ _ _ h0 (by
  refine Nat.le_trans List.countP_le_length ?_;simp))
theorem UT {listed:Array Bool} {i k:Nat} (h:(listed.setIfInBounds i true).getD k false=true):k=i\/listed.getD k false=true:=by
 by_cases hk:k=i
 ·exact .inl hk
 ·refine .inr ?_;simp only[Array.getD_eq_getD_getElem?,Array.getElem?_setIfInBounds]at h ⊢;rwa [if_neg (fun e=>hk e.symm)]at h
theorem Q1 {listed:Array Bool} (hs:listed.size=ops.size) (hb:(ops.toList.zipIdx.all fun x=>x.1.after.all fun e=>decide (e.on<x.2))=true) (h:Region.ready md ops listed=[]):∀i,i<ops.size->listed.getD i false=true:=by
 intro i;induction i using Nat.strongRecOn with
 |_ i ih=>
  intro hi;apply Decidable.byContradiction;intro hn
  have hmem:i∈Region.ready md ops listed:=by
   simp only[Region.ready,List.mem_filter,List.mem_range,Bool.and_eq_true,Bool.not_eq_true'];refine⟨hi,?_,?_⟩
   ·simp only[Array.getD_eq_getD_getElem?]at hn ⊢;have:i<listed.size:=by omega
    rw[Array.getElem?_eq_getElem this]at hn ⊢;simpa using hn
   ·rw[Array.getElem?_eq_getElem hi];simp only[Option.map_some,Option.getD_some,Array.all_eq_true'];intro e he
    have hx:=List.all_eq_true.1 hb (ops[i],i) (by
     rw[List.mem_zipIdx_iff_getElem?];simp[hi])
    have:=Array.all_eq_true'.1 hx e he;simp only[decide_eq_true_eq]at this;rw[ih e.on this (by omega)];simp
  rw[h]at hmem;cases hmem
end
theorem Aa {listed:Array Bool} {i k:Nat} (hk:k≠i) (h:(listed.setIfInBounds i true).getD k false=true):listed.getD k false=true:=
 (UT h).elim (fun e=>absurd e hk) id
theorem Ac {listed:Array Bool} {i k:Nat} (h:listed.getD k false=true):(listed.setIfInBounds i true).getD k false=true:=by
 simp only[Array.getD_eq_getD_getElem?,Array.getElem?_setIfInBounds]at h ⊢;by_cases hk:i=k
 ·subst hk;by_cases hi:i<listed.size
  ·simp[hi]
  ·simp[hi]at h
 ·rwa [if_neg hk]
theorem FW {listed:Array Bool} {i:Nat} (h:listed.getD i true=false) (k:listed.getD i false=true):False:=by
 simp only[Array.getD_eq_getD_getElem?]at h k;cases hx:listed[i]? with
 |none=>rw[hx]at k;simp at k
 |some b=>rw[hx]at h k;simp at h k;rw[h]at k;cases k
theorem Te (a:Act) (d:Nat) (h:d<a.tmps.size):a.put (some d) (a.tmps.getD d undef)=a:=by
 obtain⟨tmps,defers⟩:=a;simp only at h;simp only[Act.put,Act.mk.injEq,and_true];apply Array.ext_getElem?;intro i;rw[Array.getElem?_setIfInBounds];split
 ·rename_i e;subst e
  simp[h,Array.getD]
 ·rfl
theorem MT (a:Act):∀(ds:List Nat),ds.all (fun d=>decide (d<a.tmps.size))=true->ds.foldl (fun b d=>b.put (some d) (a.tmps.getD d undef)) a=a
 |[],_=>rfl
 |d::ds,h=>by
  simp only[List.all_cons,Bool.and_eq_true,decide_eq_true_eq]at h;rw[List.foldl_cons,Te a d h.1];exact MT a ds h.2
theorem BT {P:Program} {ops:Array Oper} {Q:Exit->Act->World->Prop} {i:Nat} {o:Oper} {K:Act->World->Prop} {a:Act} {w:World} (ho:ops[i]?=some o)
  (h:∀K':Act->World->Prop,Shut (∀a w,K a w->K' a w)->if Region.wanted o (yielded ops a.tmps)=true then Oper.wp P o a w K' Q else K' (a.put o.dst undef) w):wpOp P ops Q i K a w:=
 wpOp_step ho h
theorem L5 {P:Program} {ops:Array Oper} {Q:Exit->Act->World->Prop} {id:Nat} {a:Act} {w:World} (Inv:Act->Array Bool->Act->World->Prop) (hm:P.follows .mixedOrders=true)
  (h0:Inv a (Array.replicate ops.size false) a w.drew)
  (hstep:∀listed a' w',Inv a listed a' w'-> ∀i,i∈Region.ready .any ops listed->wpOp P ops Q i (fun a'' w''=>Inv a (listed.setIfInBounds i true) a'' w'') a' w')
  (hend:∀listed a' w',Inv a listed a' w'->Region.ready .any ops listed=[]->Q .normal a' w'):(Code.region id ops true).wp P Q a w:=
 Mi (Inv a) hm h0 hstep hend
theorem Gp:∀(b:Bool) (l:List UInt8),B3 false (l.drop (B3 b l))=0
 |b,[]=>by cases b <;> simp[B3]
 |true,c::r=>by
  simp only[B3];rw[show 1+B3 (c != 10) r=B3 (c != 10) r+1 by omega,List.drop_succ_cons];exact Gp _ r
 |false,c::r=>by
  by_cases h:c=35
  ·simp only[B3,if_pos h];rw[show 1+B3 true r=B3 true r+1 by omega,List.drop_succ_cons];exact Gp _ r
  ·by_cases hp:GT c=true
   ·simp only[B3,if_neg h,if_pos hp];rw[show 1+B3 false r=B3 false r+1 by omega,List.drop_succ_cons];exact Gp _ r
   ·simp only[B3,if_neg h,if_neg hp,List.drop_zero]
theorem Gq:∀(b:Bool) (l:List UInt8) (m:Nat),B3 b (l.take m)=min (B3 b l) m
 |b,[],m=>by cases b <;> simp[B3]
 |b,c::r,0=>by cases b <;> simp[B3]
 |true,c::r,m+1=>by
  simp only[List.take_succ_cons,B3];rw[Gq _ r m];omega
 |false,c::r,m+1=>by
  simp only[List.take_succ_cons,B3];split
  ·rw[Gq _ r m];omega
  split
  ·rw[Gq _ r m];omega
  ·omega
theorem Q2 (s:List UInt8) (k:Nat):B3 false (s.drop (A9 s k))=0:=by
 unfold A9;have:=Gp false (s.drop k);rwa [List.drop_drop]at this
theorem MU {s:List UInt8} {p k:Nat} (hk:k<=p) (h:A9 s k<=p):A9 (s.take p) k=A9 s k:=by
 unfold A9 at h ⊢;rw[List.drop_take,Gq];omega
theorem Tf {t:List UInt8} {x:Wd} (h:Bf t=some x):B3 false t=0:=by
 cases t with
 |nil=>rfl
 |cons c r=>
  by_cases h35:c=35
  ·subst h35;exfalso
   have:Bf (35::r)=none:=by
    unfold Bf;simp only[List.getElem?_cons_zero];rw[if_neg (by decide),if_neg (by decide),if_neg (by decide),if_neg (by decide),if_neg (by decide),if_neg (by decide),show DX 35=none by decide];rfl
   rw[this]at h;cases h
  ·by_cases hp:GT c=true
   ·exfalso;have hc:c=32\/c=9\/c=13\/c=10:=by unfold GT at hp;simpa[or_assoc]using hp
    have:Bf (c::r)=none:=by
     unfold Bf;simp only[List.getElem?_cons_zero];rcases hc with rfl|rfl|rfl|rfl <;> (rw[if_neg (by decide),if_neg (by decide),if_neg (by decide),if_neg (by decide),if_neg (by decide),if_neg (by decide)];decide)
    rw[this]at h;cases h
   ·simp[B3,h35,hp]
theorem Pb {c:UInt8} {k:Nat} (h:DX c=some k):k≠1/\k≠11:=by
 unfold DX at h;split at h
 ·cases h;decide
 split at h
 ·cases h;decide
 split at h
 ·cases h;decide
 split at h
 ·cases h;decide
 split at h
 ·cases h;decide
 split at h
 ·cases h;decide
 split at h
 ·cases h;decide
 split at h
 ·cases h;decide
 split at h
 ·cases h;decide
 split at h
 ·cases h;decide
 ·cases h
theorem Tg {t:List UInt8} {x:Wd} (h:Bf t=some x) (hk:x.kind=11):x.til=1/\t[1]? ≠ some 45:=by
 unfold Bf at h;split at h
 ·cases h
 split at h
 ·split at h
  ·cases h;cases hk
  ·cases h
 split at h
 ·cases hq:Ci (t.drop 1)with
  |none=>rw[hq]at h;cases h
  |some y=>rw[hq]at h;cases h;cases hk
 split at h
 ·split at h
  ·cases h;cases hk
  ·cases h
 split at h
 ·split at h
  ·cases h;cases hk
  ·cases h
 split at h
 ·cases h;cases hk
 split at h
 ·split at h
  ·cases h;cases hk
  ·rename_i h1;cases h;exact⟨rfl,h1⟩
 ·rename_i c _ _ _ _ _ _ h60
  cases hq:DX c with
  |none=>rw[hq]at h;cases h
  |some k=>
   rw[hq]at h;cases h;exfalso;exact(Pb hq).2 hk
theorem GS (p:UInt8->Bool):∀(r:List UInt8) (c:UInt8),r[(r.takeWhile p).length]?=some c->p c=false
 |[],c,h=>by simp at h
 |b::r,c,h=>by
  by_cases hb:p b=true
  ·rw[List.takeWhile_cons,if_pos hb]at h;exact GS p r c (by simpa using h)
  ·rw[List.takeWhile_cons,if_neg hb]at h;simp at h;subst h;simpa using hb
theorem Th {t:List UInt8} {x:Wd} (h:Bf t=some x) (hk:x.kind=1) (c:UInt8) (hc:t[x.til]?=some c):Ce c=false:=by
 unfold Bf at h;split at h
 ·cases h
 rename_i d hd
 split at h
 ·rename_i hle
  split at h
  ·cases h
   obtain⟨r,rfl⟩:∃r,t=d::r:=by
    cases t with
    |nil=>simp at hd
    |cons b r=>simp at hd;exact⟨r,by rw[hd]⟩
   simp only[B0,hle,if_true,List.length_cons]at hc;exact GS Ce r c (by simpa using hc)
  ·cases h
 split at h
 ·cases hq:Ci (t.drop 1)with
  |none=>rw[hq]at h;cases h
  |some y=>rw[hq]at h;cases h;cases hk
 split at h
 ·split at h
  ·cases h;cases hk
  ·cases h
 split at h
 ·split at h
  ·cases h;cases hk
  ·cases h
 split at h
 ·cases h;cases hk
 split at h
 ·split at h
  ·cases h;cases hk
  ·cases h;cases hk
 ·cases hq:DX d with
  |none=>rw[hq]at h;cases h
  |some k=>
   rw[hq]at h;cases h;exfalso;exact(Pb hq).1 hk
theorem Ti {t:List UInt8} {x:Wd} {m:Nat} (h:Bf t=some x) (hm:x.til<=m):Bf (t.take m)=some x:=by
 refine RS h ((Ag.take m t).mono hm) ⟨fun hk c hc=> ?_,fun hk hc=> ?_⟩
 ·rcases Nat.lt_or_ge x.til m with h1|h1
  ·rw[List.getElem?_take_of_lt h1]at hc;exact Th h hk c hc
  ·rw[List.getElem?_eq_none (by rw[List.length_take];omega)]at hc;cases hc
 ·have:=Tg h hk;rcases Nat.lt_or_ge 1 m with h1|h1
  ·rw[List.getElem?_take_of_lt h1]at hc;exact this.2 hc
  ·rw[List.getElem?_eq_none (by rw[List.length_take];omega)]at hc;cases hc
theorem Tj {s:List UInt8} {a m:Nat} {x:Wd} (h:B9 s a=some x) (hm:x.til<=m):B9 (s.take m) a=some x:=by
 unfold B9 at h ⊢;cases hq:Bf (s.drop a)with
 |none=>rw[hq]at h;cases h
 |some y=>
  rw[hq]at h;cases h;simp only at hm;rw[List.drop_take,Ti hq (by omega)];rfl
theorem Pc (s:List UInt8) (p:Nat):∀f k,s.length<=k+f->(DY s f (A9 s k)).2=some p->A9 s k<=p/\p<s.length/\(RW (s.take p) (A9 (s.take p) k)).2=none/\B9 s p=none/\ ∃j,p=A9 s j
 |0,k,_,h=>by simp[DY]at h
 |f+1,k,hf,h=>by
  simp only[DY]at h;split at h
  ·cases h
  rename_i hlt
  cases hw:B9 s (A9 s k)with
  |none=>
   rw[hw]at h;simp only[Option.some.injEq]at h;subst h;have hk:=Dr s k;refine⟨Nat.le_refl _,by omega,?_,hw,k,rfl⟩;rw[MU hk (Nat.le_refl _),QD (by rw[List.length_take];omega)]
  |some x=>
   rw[hw]at h;simp only at h;have h1:=CL hw;have h2:=Dr s k;have h3:=Dr s x.til;have ih:=Pc s p f x.til (by omega) h;refine⟨by omega,ih.2.1,?_,ih.2.2.2⟩;rw[MU (by omega) (by omega),NK (by rw[List.length_take];omega) (Tj hw (by omega))];exact ih.2.2.1
theorem Pd {t:List UInt8} (h0:0<t.length) (hh:Bf t=none) (hk:B3 false t=0) (hs:¬65536<t.length):AD t=([],0,4):=by
 have h1:A9 t 0=0:=by unfold A9;rw[List.drop_zero,hk]
 rw[EO hs,h1,RM h0 (by unfold B9;rw[List.drop_zero,hh];rfl)]
def Cw (x:Wd):Prop:=
 (x.kind=1->Cb x.text=true)/\(x.kind=15->x.text.length<=255)/\(x.kind=14->0<=x.low/\x.low<=99/\(x.high = -1\/(x.low<=x.high/\x.high<=99)))/\1<=x.kind/\x.kind<=16 /\
 (x.kind≠1->x.kind≠15->x.text=[])/\(x.kind≠16->x.s0=0/\x.s1=0/\x.s2=0/\x.s3=0)/\(x.kind≠14->x.low=0/\x.high=0)
theorem Rz {l:List UInt8} (h:(CM l 99).2=0):0<=(CM l 99).1/\(CM l 99).1<=99:=by
 unfold CM at h ⊢;split at h
 ·rename_i h1
  rw[if_pos h1];split at h
  ·cases h
  ·rename_i h2
   rw[if_neg h2];simp only;omega
 ·cases h
theorem Tk {l:List UInt8} {x:Nat×Int×Int} (h:Ci l=some x):0<=x.2.1/\x.2.1<=99/\(x.2.2 = -1\/(x.2.1<=x.2.2/\x.2.2<=99)):=by
 unfold Ci at h;simp only at h;split at h
 ·cases h
 split at h
 ·cases h
 rename_i h1
 have n1:=Rz (l:=(Bq 44 (Bq 125 l).1).1) (by simpa using h1);split at h
 ·cases h;exact⟨n1.1,n1.2,.inr ⟨Int.le_refl _,n1.2⟩⟩
 split at h
 ·cases h;exact⟨n1.1,n1.2,.inl rfl⟩
 split at h
 ·cases h
 ·rename_i h2
  cases h;have n2:=Rz (l:=(Bq 44 (Bq 125 l).1).2.1) (by by_cases h0:(CM (Bq 44 (Bq 125 l).1).2.1 99).2=0;exact h0;exact absurd (.inl h0) h2);exact⟨n1.1,n1.2,.inr ⟨by by_cases h0:(CM (Bq 44 (Bq 125 l).1).2.1 99).1<(CM (Bq 44 (Bq 125 l).1).1 99).1;exact absurd (.inr h0) h2;simp only;omega,n2.2⟩⟩
theorem UU {c:UInt8} {k:Nat} (h:DX c=some k):3<=k/\k<=13:=by
 unfold DX at h;split at h
 ·cases h;decide
 split at h
 ·cases h;decide
 split at h
 ·cases h;decide
 split at h
 ·cases h;decide
 split at h
 ·cases h;decide
 split at h
 ·cases h;decide
 split at h
 ·cases h;decide
 split at h
 ·cases h;decide
 split at h
 ·cases h;decide
 split at h
 ·cases h;decide
 ·cases h
theorem Q3 {t:List UInt8} (h:(BN t).2.2=0):(BN t).1.length<=255:=by
 unfold BN at h ⊢;split at h
 ·cases h
 ·rename_i c hc
  split at h
  ·cases h
  ·rename_i h34
   rw[if_neg h34];simp only at h ⊢;split at h
   ·rename_i hn;exact absurd h hn
   rename_i hn
   rw[if_neg hn];split at h
   ·cases h
   ·rename_i hm
    rw[if_neg hm];simp only;omega
theorem UV {t:List UInt8} {x:Wd} (h:Bf t=some x):Cw x:=by
 have hk:=Jh h;unfold Bf at h;split at h
 ·cases h
 rename_i c hc
 split at h
 ·rename_i hle
  split at h
  ·rename_i h32
   cases h;refine⟨fun _=> ?_,fun e=>by simp at e,fun e=>by simp at e,by simp only;omega,by simp only;omega,fun e=>absurd rfl e,fun _=>⟨rfl,rfl,rfl,rfl⟩,fun _=>⟨rfl,rfl⟩⟩;unfold Cb;refine decide_eq_true ⟨fun e=> ?_,h32,LI t⟩;simp only at hk e;rw[e]at hk;simp at hk
  ·cases h
 split at h
 ·cases hq:Ci (t.drop 1)with
  |none=>rw[hq]at h;cases h
  |some y=>
   rw[hq]at h;cases h;exact⟨fun e=>by simp at e,fun e=>by simp at e,fun _=>Tk hq,by simp only;omega,by simp only;omega,fun _ _=>rfl,fun _=>⟨rfl,rfl,rfl,rfl⟩,fun e=>absurd rfl e⟩
 split at h
 ·split at h
  ·rename_i he
   cases h;exact⟨fun e=>by simp at e,fun _=>Q3 he,fun e=>by simp at e,by simp only;omega,by simp only;omega,fun _ e=>absurd rfl e,fun _=>⟨rfl,rfl,rfl,rfl⟩,fun _=>⟨rfl,rfl⟩⟩
  ·cases h
 split at h
 ·split at h
  ·cases h;exact⟨fun e=>by simp at e,fun e=>by simp at e,fun e=>by simp at e,by simp only;omega,by simp only;omega,fun _ _=>rfl,fun e=>absurd rfl e,fun _=>⟨rfl,rfl⟩⟩
  ·cases h
 split at h
 ·cases h;exact⟨fun e=>by simp at e,fun e=>by simp at e,fun e=>by simp at e,by simp only;omega,by simp only;omega,fun _ _=>rfl,fun e=>absurd rfl e,fun _=>⟨rfl,rfl⟩⟩
 split at h
 ·split at h
  ·cases h;exact⟨fun e=>by simp at e,fun e=>by simp at e,fun e=>by simp at e,by simp only;omega,by simp only;omega,fun _ _=>rfl,fun _=>⟨rfl,rfl,rfl,rfl⟩,fun _=>⟨rfl,rfl⟩⟩
  ·cases h;exact⟨fun e=>by simp at e,fun e=>by simp at e,fun e=>by simp at e,by simp only;omega,by simp only;omega,fun _ _=>rfl,fun _=>⟨rfl,rfl,rfl,rfl⟩,fun _=>⟨rfl,rfl⟩⟩
 ·cases hq:DX c with
  |none=>rw[hq]at h;cases h
  |some k=>
   rw[hq]at h;cases h;have:=UU hq;refine⟨fun e=> ?_,fun e=> ?_,fun e=> ?_,by simp only;omega,by simp only;omega,fun _ _=>rfl,fun _=>⟨rfl,rfl,rfl,rfl⟩,fun _=>⟨rfl,rfl⟩⟩ <;> (simp only at e;omega)
theorem UW {s:List UInt8} {a:Nat} {x:Wd} (h:B9 s a=some x):Cw x:=by
 unfold B9 at h;cases hq:Bf (s.drop a)with
 |none=>rw[hq]at h;cases h
 |some y=>
  rw[hq]at h;cases h;have:=UV hq;exact⟨this.1,this.2.1,this.2.2.1,this.2.2.2.1,this.2.2.2.2.1,this.2.2.2.2.2.1,this.2.2.2.2.2.2.1,this.2.2.2.2.2.2.2⟩
theorem UX {s:List UInt8} {ls:List Wd} {p e:Nat} (hs:¬65536<s.length) (h:AD s=(ls,p,e)) (he:e≠0):ls=[]/\e=4/\p<s.length/\(AD (s.take p)).2.2=0/\AD (s.drop p)=([],0,4):=by
 rw[EO hs]at h;cases hp:(RW s (A9 s 0)).2 with
 |none=>
  rw[hp]at h;injection h with h1 h2
  injection h2 with h2 h3
  exact absurd h3.symm he
 |some q=>
  rw[hp]at h;injection h with h1 h2
  injection h2 with h2 h3
  subst h2
  have hr:(DY s (s.length+1) (A9 s 0)).2=some q:=by
   have e:=hp;unfold RW at e;rw[E6 s (s.length+1) (s.length+1-A9 s 0) (A9 s 0) (by omega) (by omega)];exact e
  obtain⟨a1,a2,a3,a4,j,a5⟩:=Pc s q (s.length+1) 0 (by omega) hr;refine⟨h1.symm,h3.symm,a2,?_,?_⟩
  ·rw[EO (by rw[List.length_take];omega),a3]
  ·refine Pd (by rw[List.length_drop];omega) ?_ (by rw[a5];exact Q2 s j) (by rw[List.length_drop];omega);unfold B9 at a4;cases hq:Bf (s.drop q)with
   |none=>rfl
   |some y=>rw[hq]at a4;cases a4
end Go.Proofs.YtdnochjajoiooaaGreatDoor
