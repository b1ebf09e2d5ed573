/- What the end of a choice does with the reader's rows. A scope through which the run jumps back to one label. The arena of expr.Make in memory; the contracts of add and keep. -/
import Derived.Test.YtpfokabdpmjobaaGreatDoorJv
import Derived.Test.YtpfokabdpmjobaaGreatDoorLa
import Derived.WalkKit
import Derived.ScopeJumps
import Derived.Test.YtpfokabdpmjobaaGreatDoorDw
import Derived.Test.YtpfokabdpmjobaaGreatDoorAd
namespace Go.Proofs.YtpfokabdpmjobaaGreatDoor
open Go.RowKit
set_option linter.unusedSimpArgs false
set_option linter.unusedVariables false
def Dch:Ow→Prop
 |.nodes=>True
 |.kids=>True
 |.list=>True
 |.ways _=>True
 |.parts _=>True
 |.heads _=>True
 |_=>False
theorem RFact.refit {w:World} {B H:Nat} {f f':Nat→Ow} {R:Rd} {o x:Ow} (h:RFact w B f H R o) (hf:∀k,f k≠x→f' k=f k) (ho:o≠x):RFact w B f' H R o:=by
 have key:∀{k:Nat},f k=o→f' k=o:=fun e=>(hf _ (by rw[e];exact ho)).trans e
 have keyO:∀{e:TypeId} {size n c:Nat} {V:Option Addr} {xs:List Value},OwnF w B f o e size V n c xs→OwnF w B f' o e size V n c xs:=fun h=>⟨h.1,fun k hk=>key (h.2 k hk)⟩
 cases o with
 |out=>exact fun p hp=>⟨(h p hp).1,key (h p hp).2⟩
 |tmp=>trivial
 |box=>exact⟨h.1,h.2.1,key h.2.2⟩
 |words=>exact keyO h
 |nodes=>exact keyO h
 |kids=>exact fun l hl=>⟨(h l hl).1,keyO (h l hl).2⟩
 |list=>exact keyO h
 |ways j=>exact fun hj=>keyO (h hj)
 |parts j=>exact fun hj=>keyO (h hj)
 |heads j=>exact fun hj=>keyO (h hj)
 |defs=>exact keyO h
 |body j=>exact fun hj=>⟨(h hj).1,(h hj).2.mono fun k _ hk=>⟨key hk.1,hk.2⟩⟩
 |names=>exact keyO h
 |calls=>exact keyO h
def retagF (f:Nat→Ow) (a b:Ow):Nat→Ow:=fun k=>if f k=a then b else f k
theorem RdM.retag {D:Ow→Prop} {w:World} {B H:Nat} {f:Nat→Ow} {R:Rd} (h:RdM D w B f H R) (a b:Ow):RdM (fun o=>D o∨o=a) w B (retagF f a b) H R:=fun o ho=>
 (h o (fun hd=>ho (.inl hd))).refit (x:=a) (fun k hk=>by unfold retagF;rw[if_neg hk]) (fun e=>ho (.inr e))
theorem OwnF.retag {w:World} {B:Nat} {f:Nat→Ow} {a:Ow} {e:TypeId} {size n c:Nat} {V:Option Addr} {xs:List Value} (h:OwnF w B f a e size V n c xs) (b:Ow):OwnF w B (retagF f a b) b e size V n c xs:=
 ⟨h.1,fun k hk=>by unfold retagF;rw[if_pos (h.2 k hk)]⟩
theorem RdM.back {D:Ow→Prop} {w:World} {B H:Nat} {f:Nat→Ow} {R:Rd} {a:Ow} (h:RdM (fun o=>D o∨o=a) w B f H R) (ha:RFact w B f H R a):RdM D w B f H R:=fun o ho=>by
 by_cases e:o=a
 ·subst e;exact ha
 ·exact h o (fun hd=>hd.elim ho e)
theorem RdM.pop {D:Ow→Prop} {w:World} {B H:Nat} {f:Nat→Ow} {R:Rd} {os1:List Ol} {top:Ol} (h:RdM (fun o=>D o∨o=.ways os1.length) w B f H R) (hD:¬D .box∧ ¬D .list) (hos:R.os=os1++[top]):
  RdM D (w.setCell ⟨H,4,none⟩ (.slice R.lA os1.length R.lc)) B f H {R with os:=os1}∧Below B w (w.setCell ⟨H,4,none⟩ (.slice R.lA os1.length R.lc)):=by
 have hD1:¬(fun o=>D o∨o=.ways os1.length) .box:=fun h=>h.elim hD.1 (fun e=>by cases e)
 have hD2:¬(fun o=>D o∨o=.ways os1.length) .list:=fun h=>h.elim hD.2 (fun e=>by cases e)
 obtain⟨hbx,hBH,hfH⟩:=h .box hD1
 have hl:=h .list hD2
 have k:KeepF (fun o=>o=.box) f f w (w.setCell ⟨H,4,none⟩ (.slice R.lA os1.length R.lc)):=KeepF.set hfH
 have hlen:os1.length≤R.os.length:=by rw[hos];simp
 have hcut:OwnF w B f .list 117 5 R.lA os1.length R.lc (olL.all os1):=by
  refine⟨?_,hl.2⟩
  have h1:=own_cut hl.1 hlen
  have e:(olL.all R.os).take (os1.length*5)=olL.all os1:=by
   rw[hos,olL.all_append]
   have e2:os1.length*5=(olL.all os1).length:=(olL.all_length os1).symm
   rw[e2,List.take_left']
   rfl
  rw[e]at h1;exact h1
 have key:∀j (hj:j<os1.length),R.os[j]'(by omega)=os1[j]:=fun j hj=>by simp[hos,List.getElem_append_left hj]
 refine⟨fun o ho=> ?_,(Below.refl B w).setCell (p:=⟨H,4,none⟩) hBH _⟩
 by_cases hb:o=.box
 ·subst hb
  refine⟨?_,hBH,hfH⟩
  have:=box_cells (i:=4) hbx (.slice R.lA os1.length R.lc)
  simpa[Rd.cells]using this
 ·have go:∀o',o'=o→(¬(D o'∨o'=.ways os1.length))→RFact (w.setCell ⟨H,4,none⟩ (.slice R.lA os1.length R.lc)) B f H R o':=fun o' e hn=>(h o' hn).keep k (by rw[e];exact hb)
  cases o with
  |box=>exact absurd rfl hb
  |list=>exact hcut.keep k (by simp)
  |ways j=>
   intro hj
   have hj':j<os1.length:=hj
   have h1:=go (.ways j) rfl (fun hx=>hx.elim ho (fun e=>by cases e;omega)) (by show j<R.os.length;omega)
   rw[key j hj']at h1;exact h1
  |parts j=>
   intro hj
   have hj':j<os1.length:=hj
   have h1:=go (.parts j) rfl (fun hx=>hx.elim ho (fun e=>by cases e)) (by show j<R.os.length;omega)
   rw[key j hj']at h1;exact h1
  |heads j=>
   intro hj
   have hj':j<os1.length:=hj
   have h1:=go (.heads j) rfl (fun hx=>hx.elim ho (fun e=>by cases e)) (by show j<R.os.length;omega)
   rw[key j hj']at h1;exact h1
  |out=>exact go .out rfl (fun hx=>hx.elim ho (fun e=>by cases e))
  |tmp=>trivial
  |words=>exact go .words rfl (fun hx=>hx.elim ho (fun e=>by cases e))
  |nodes=>exact go .nodes rfl (fun hx=>hx.elim ho (fun e=>by cases e))
  |kids=>exact go .kids rfl (fun hx=>hx.elim ho (fun e=>by cases e))
  |defs=>exact go .defs rfl (fun hx=>hx.elim ho (fun e=>by cases e))
  |body j=>exact go (.body j) rfl (fun hx=>hx.elim ho (fun e=>by cases e))
  |names=>exact go .names rfl (fun hx=>hx.elim ho (fun e=>by cases e))
  |calls=>exact go .calls rfl (fun hx=>hx.elim ho (fun e=>by cases e))
theorem RdM.arena {D:Ow→Prop} {w:World} {B H:Nat} {f:Nat→Ow} {R:Rd} (h:RdM D w B f H R) (hD:¬D .nodes∧ ¬D .kids):ndL.row w (fun _=>True) R.nA R.ls:=
 ⟨own_rowIn (h .nodes hD.1).1 (fun _ _=>trivial),fun l hl=>⟨(h .kids hD.2 l hl).1,⟨own_rowIn (h .kids hD.2 l hl).2.1 (fun _ _=>trivial),fun _ _=>trivial⟩⟩⟩
theorem RdM.made {D:Ow→Prop} {w w2:World} {B H:Nat} {f:Nat→Ow} {R:Rd} {v:Lt} (h:RdM D w B f H R) (hb:Below w.heap.size w w2) (ht:TreeOwn w2 (w.heap.size ≤ ·) v) (hB:B≤w.heap.size) (o:Ow):
  ∃f2,RdM D w2 B f2 H R∧TreeOwn w2 (fun k=>f2 k=o∧B≤k) v:=by
 refine⟨fun k=>if k<w.heap.size then f k else o,fun x hx=>(h x hx).keep (X:=fun _=>False) ⟨hb.size,fun k hk _=>hb.block k hk,fun k hk=>if_pos hk⟩ id,ht.mono fun k _ hk=>⟨if_neg (by omega),by omega⟩⟩
theorem RdM.dropParts {D:Ow→Prop} {w:World} {B H g:Nat} {f:Nat→Ow} {R:Rd} {os0:List Ol} {top:Ol} (h:RdM (fun o=>D o∨o=.parts os0.length) w B f H R) (hD:¬D .list) (hos:R.os=os0++[top]) (hg:R.lA=some ⟨g,0,none⟩):
  RdM D (w.setCell ⟨g,os0.length*5+3,none⟩ (.slice none 0 0)) B f H {R with os:=os0++[{top with pA:=none,pc:=0,parts:=[]}]}∧Below B w (w.setCell ⟨g,os0.length*5+3,none⟩ (.slice none 0 0)):=by
 have hj:os0.length<R.os.length:=by rw[hos];simp
 have e:R.os[os0.length]=top:=by simp[hos]
 have hD1:¬(fun o=>D o∨o=.parts os0.length) .list:=fun h=>h.elim hD (fun e=>by cases e)
 have h1:=RdM.setOpen (o':={top with pA:=none,pc:=0,parts:=[]}) (v:=.slice none 0 0) h hD1 hj (c:=3) (by decide) hg (by rw[e];rfl)
  (fun hx=>by have h2:=h (.ways os0.length) hx hj;rw[e]at h2;exact h2) (fun hx=>absurd (.inr rfl) hx) (fun hx=>by have h2:=h (.heads os0.length) hx hj;rw[e]at h2;exact h2)
 have e2:R.os.set os0.length {top with pA:=none,pc:=0,parts:=[]}=os0++[{top with pA:=none,pc:=0,parts:=[]}]:=by rw[hos];simp
 refine⟨?_,h1.2.2⟩
 have h2:=h1.1
 rw[e2]at h2
 refine h2.back (fun hj2=> ?_)
 have e3:(os0++[{top with pA:=none,pc:=0,parts:=[]}])[os0.length]'hj2={top with pA:=none,pc:=0,parts:=[]}:=by simp
 show OwnF _ _ _ _ _ _ ((os0++[{top with pA:=none,pc:=0,parts:=[]}])[os0.length]'hj2).pA _ _ _
 rw[e3];exact OwnF.nil _ _ _ _ _ _
theorem EndI.fins {W:List Wd} {s0 s:PS} {lsB:List Ln} {os0:List Ol} {top:Ol} {b:Op} {rest:List Op} {z:Int} (h:EndI W s0 s lsB os0 top b rest z) (hf:top.fin≠0):top.fin=10∨(top.fin=12∧mayL top.name=true):=by
 have hg:=h.good.1
 rw[h.st]at hg
 have hb0:b.fin≠0:=by rw[←h.fin];exact hf
 cases rest with
 |nil=>exact absurd hg hb0
 |cons up rest'=>
  rcases hg.1 with e|⟨e,e'⟩
  ·left;rw[h.fin];exact e
  ·right;rw[h.fin,h.name];exact⟨e,e'⟩
theorem capN_wf {t:List UInt8} (h:mayL t=true) (z:Int):({capN t with kids:=[z]}:Nd).wf:=by
 simp only[mayL,decide_eq_true_eq]at h
 have h0:U64 0:=by unfold U64;omega
 exact⟨by simp[capN],by simp[capN,ByteArray.size];omega,by simp,h0,h0,h0,h0⟩
theorem fine_den {l:List Nd} {z:Int} {t:TT} (hf:Fine l [z]) (hr:RepZ l z t):den l z.toNat=t:=Rep.den hf.ahead hr.2
end Go.Proofs.YtpfokabdpmjobaaGreatDoor
namespace Go.Proofs.YtpfokabdpmjobaaGreatDoor
open Go.RowKit
set_option linter.unusedSimpArgs false
set_option linter.unusedVariables false
theorem least {p:Nat→Prop}:∀n,p n→ ∃m,p m∧ ∀k,p k→m≤k:=by
 intro n
 induction n using Nat.strongRecOn with
 |_ n ih=>
  intro h
  by_cases hn:∃k,k<n∧p k
  ·obtain⟨k,hk,hp⟩:=hn
   exact ih k hk hp
  ·exact⟨n,h,fun k hk=>Nat.le_of_not_lt fun hlt=>hn ⟨k,hlt,hk⟩⟩
section
variable {P:Program} {a:Act} {w:World} {Q:Exit→Act→World→Prop}
theorem scope_rounds {c x:Code} (l:Nat) (J:Nat→Act→World→Prop) (hf:findLabel c l=some (.seq .skip x))
  (pass:∀n a w,J n a w→x.wp P (Exit.jump l (fun a' w'=>∃m,m<n∧J m a' w') Q) a w)
  (first:(∀n a w,J n a w→x.wp P (Exit.jump l (fun a' w'=>∃m,J m a' w') Q) a w)→c.wp P (Exit.jump l (fun a' w'=>∃m,J m a' w') Q) a w):(Code.scope c).wp P Q a w:=by
 classical
 have hmin:∀a w,(∃n,J n a w)→ ∃m,J m a w∧ ∀k,J k a w→m≤k:=fun a w ⟨n,h⟩=>least n h
 let μ:Act→World→Nat:=fun a w=>if h:∃n,J n a w then Classical.choose (hmin a w h)else 0
 have hμ:∀a w,(∃n,J n a w)→J (μ a w) a w∧ ∀k,J k a w→μ a w≤k:=fun a w h=>by
  have hs:=Classical.choose_spec (hmin a w h)
  have e:μ a w=Classical.choose (hmin a w h):=dif_pos h
  rw[e];exact hs
 have weak:∀n a w,J n a w→x.wp P (Exit.jump l (fun a' w'=>∃m,J m a' w') Q) a w:=fun n a w h=>
  Code.wp_mono (fun e a w hq=>by
   cases e with
   |goto l'=>exact⟨hq.1,hq.2.imp fun m hm=>hm.2⟩
   |_=>exact hq) (pass n a w h)
 refine wp_scope_jumps l (fun a w=>∃n,J n a w) μ hf (first weak) fun a w h=> ?_
 refine wp_seq (wp_skip ?_)
 refine Code.wp_mono (fun e a' w' hq=> ?_) (pass _ a w (hμ a w h).1)
 cases e with
 |goto l'=>
  obtain⟨e,m,hm,hj⟩:=hq
  exact⟨e,⟨m,hj⟩,Nat.lt_of_le_of_lt ((hμ a' w' ⟨m,hj⟩).2 m hj) hm⟩
 |_=>exact hq
end
end Go.Proofs.YtpfokabdpmjobaaGreatDoor
namespace Go.Proofs.YtpfokabdpmjobaaGreatDoor
open Go.RowKit
set_option linter.unusedSimpArgs false
set_option linter.unusedVariables false
def ArenaS (w:World) (b:Nat) (S:Nat→Prop) (ls:List Ln):Prop:=∃V c,w.heap[b]?=some (.cells #[.slice V ls.length c] 137 (0,0))∧w.ownsRow (b+1) 54 9 (.slice V ls.length c) ls.length (ndL.all ls)∧ ∀l∈ls,NdOwn w S l
theorem ArenaS.mono {w:World} {b:Nat} {S T:Nat→Prop} {ls:List Ln} (h:ArenaS w b S ls) (hS:∀x,S x→T x):ArenaS w b T ls:=by
 obtain⟨V,c,h1,h2,h3⟩:=h
 exact⟨V,c,h1,h2,fun l hl=>(h3 l hl).mono fun x _=>hS x⟩
def ArenaAt (w:World) (b:Nat) (ls:List Ln):Prop:=∃V c,w.heap[b]?=some (.cells #[.slice V ls.length c] 137 (0,0))∧w.ownsRow (b+1) 54 9 (.slice V ls.length c) ls.length (ndL.all ls)∧ ∀l∈ls,NdOwn w (b < ·) l
def nodeBlk (w:World) (x:Nat):Prop:=∃cs m,w.heap[x]?=some (.cells cs 54 m)
def KeptA (b:Nat) (w w':World):Prop:=Below b w w'∧ ∀x,x<w.heap.size→x≠b→ ¬nodeBlk w x→w'.heap[x]?=w.heap[x]?
theorem KeptA.refl (b:Nat) (w:World):KeptA b w w:=⟨⟨rfl,rfl,rfl,Nat.le_refl _,fun _ _=>rfl⟩,fun _ _ _ _=>rfl⟩
theorem KeptA.trans {b:Nat} {w1 w2 w3:World} (h:KeptA b w1 w2) (k:KeptA b w2 w3):KeptA b w1 w3:=⟨h.1.trans k.1,fun x hx hb hn=>by
 have h1:=h.2 x hx hb hn
 have h2:=h.1.size
 refine(k.2 x (by omega) hb fun⟨cs,m,e⟩=>hn ⟨cs,m,by rw[←h1];exact e⟩).trans h1⟩
theorem Below.keptA {b:Nat} {w w':World} (h:Below w.heap.size w w') (hb:b≤w.heap.size):KeptA b w w':=⟨h.mono hb,fun x hx _ _=>h.block x hx⟩
theorem node_ne_int:(54:TypeId)≠3:=by decide
theorem KeptA.int {b:Nat} {w w':World} {S:Nat→Prop} {n c:Nat} {V:Option Addr} {xs:List Value} (h:KeptA b w w') (ho:OwnS w S 3 1 V n c xs) (hV:blkOf V≠some b):OwnS w' S 3 1 V n c xs:=by
 refine⟨own_agree ho.1 fun x hx=>h.2 x (own_blk ho.1 x hx).2 (fun e=>hV (e▸hx)) fun⟨cs,m,e⟩=> ?_,ho.2⟩
 rcases ho.1.2 with⟨hv,_⟩|⟨g,cap,cur,hv,_,hh,_⟩
 ·cases hv;cases hx
 ·cases hv
  cases hx
  rw[hh]at e
  simp only[Option.some.injEq,Obj.cells.injEq]at e
  exact node_ne_int e.2.1.symm
theorem KeptA.nd {b:Nat} {w w':World} {S:Nat→Prop} {l:Ln} (h:KeptA b w w') (hS:∀x,S x→b<x) (hl:NdOwn w S l):NdOwn w' S l:=
 ⟨hl.1,h.int hl.2 fun e=>absurd (hS b (hl.2.2 b e)) (Nat.lt_irrefl b)⟩
theorem ArenaS.at {w:World} {b:Nat} {S:Nat→Prop} {ls:List Ln} (h:ArenaS w b S ls) (hS:∀x,S x→b<x):ArenaAt w b ls:=h.mono hS
def StepPost (b:Nat) (S:Nat→Prop) (al:List Nd) (r:Int) (w:World) (e:Ending) (w':World):Prop:=∃ls:List Ln,e=.returned (.int .i64 r)∧ls.map Ln.nd=al∧ArenaS w' b S ls∧KeptA b w w'
theorem own_nodeBlk {w:World} {B n c:Nat} {V:Option Addr} {xs:List Value} (h:w.ownsRow B 54 9 (.slice V n c) n xs):∀x,blkOf V=some x→nodeBlk w x:=fun x hx=>by
 rcases h.2 with⟨hv,_⟩|⟨g,cap,cur,hv,_,hh,_⟩
 ·cases hv;cases hx
 ·cases hv;cases hx;exact⟨_,_,hh⟩
theorem keptA_of {w W w2:World} {o:Obj} {b n vc:Nat} {V:Option Addr} {u:Value} {xs:List Value} (h1:Below w.heap.size w W) (h2:(W.alloc o).drew.grownBy w2 (blkOf V)∨(W.drew.alloc o).grownBy w2 (blkOf V))
  (ho:w.ownsRow (b+1) 54 9 (.slice V n vc) n xs) (hlt:b<w.heap.size):KeptA b w (w2.setCell ⟨b,0,none⟩ u):=by
 have hW:=h1.size
 refine⟨?_,fun x hx hne hv=> ?_⟩
 ·have hVB:∀k,some k=blkOf V→b≤k:=fun k hk=>by have:=(own_blk ho k hk.symm).1;omega
  have h5:Below b w w2:=by
   rcases h2 with h2|h2
   ·exact(((h1.mono (by omega)).trans ((bx1 W o).mono (by omega))).drew).grown h2 (by simp;omega) (fun k hk=>hVB k hk.symm)
   ·exact((((h1.mono (by omega)).drew).trans ((bx1 W.drew o).mono (by show b≤W.heap.size;omega)))).grown h2 (by simp;omega) (fun k hk=>hVB k hk.symm)
  exact h5.setCell (p:=⟨b,0,none⟩) (Nat.le_refl _) _
 ·have hxV:blkOf V≠some x:=fun e=>hv (own_nodeBlk ho x e)
  refine(Below.heap_setCell _ _ _ _ hne).trans (Eq.trans ?_ (h1.block x hx))
  rcases h2 with h2|h2
  ·exact(h2.block x (by simp;omega) (fun e=>hxV e.symm)).trans (Below.heap_alloc W _ x (by omega))
  ·exact(h2.block x (by simp;omega) (fun e=>hxV e.symm)).trans (Below.heap_alloc W.drew _ x (by show x<W.heap.size;omega))
set_option maxRecDepth 100000 in
set_option maxHeartbeats 3200000 in
theorem add_any (b:Nat) (S:Nat→Prop) (hS:∀x,S x→b<x) (ls:List Ln) (x:Ln) (w:World) (hA:ArenaS w b S ls) (hx:NdOwn w S x) (hn:ls.length≤4294967296):
  Calls Tryz.prog 137 #[.pointer (some ⟨b,0,none⟩),x.val] w (StepPost b S (ls.map Ln.nd++[x.nd]) (ls.length:Int) w):=by
 obtain⟨j0,hj,hy0,hy1,hy2⟩:=info_parts infoNode
 have hzc:(Value.agg #[.int .u8 0,.int .u64 0,.int .u64 0,.int .u64 0,.int .u64 0,.string ByteArray.empty,.int .i64 0,.int .i64 0,.slice none 0 0]).cells.size=9:=rfl
 obtain⟨V,vc,hw,ho,hk⟩:=hA
 have HK:=Lib.hid hk;have HX:=Lib.hid hx;clear hk hx
 generalize hnn:ls.length=n at *
 have HNN:=Lib.hid hnn;clear hnn
 have p1:w.cell? ⟨b,0,none⟩=some (.slice V n vc):=by simp[World.cell?,hw]
 have p2:w.frozen? ⟨b,0,none⟩=false:=by simp[World.frozen?,hw]
 have hlt:=heap_lt' hw
 have HW:=Lib.hid hw;have HO:=Lib.hid ho;clear hw ho
 go_enter Tryz.func137,Tryz.ntmps137
 go_upto_region 1 with(fail)
 have hWB:Below w.heap.size w (w.alloc (.cells #[.int .u8 x.nd.kind,.int .u64 x.nd.s0,.int .u64 x.nd.s1,.int .u64 x.nd.s2,.int .u64 x.nd.s3,.string x.nd.text,.int .i64 x.nd.mn,.int .i64 x.nd.mx,.slice x.A x.nd.kids.length x.c] 54)):=bx1 w _
 have hWN:=bx_new w (.cells #[.int .u8 x.nd.kind,.int .u64 x.nd.s0,.int .u64 x.nd.s1,.int .u64 x.nd.s2,.int .u64 x.nd.s3,.string x.nd.text,.int .i64 x.nd.mn,.int .i64 x.nd.mx,.slice x.A x.nd.kids.length x.c] 54)
 generalize (w.alloc (.cells #[.int .u8 x.nd.kind,.int .u64 x.nd.s0,.int .u64 x.nd.s1,.int .u64 x.nd.s2,.int .u64 x.nd.s3,.string x.nd.text,.int .i64 x.nd.mn,.int .i64 x.nd.mx,.slice x.A x.nd.kids.length x.c] 54))=W at *
 clear p1 p2
 have hkw:=bx_kept hWB HW.out
 have p1:W.cell? ⟨b,0,none⟩=some (.slice V n vc):=by simp[World.cell?,hkw]
 have p2:W.frozen? ⟨b,0,none⟩=false:=by simp[World.frozen?,hkw]
 clear hkw
 obtain⟨q0,q1,q2,q3,q4,q5,q6,q7,q8,_⟩:=blk9 hWN
 have HWB:=Lib.hid hWB;have HWN:=Lib.hid hWN;clear hWB hWN
 have HOW:=Lib.hid (show(W.drew.alloc (.cells #[.int .u8 x.nd.kind,.int .u64 x.nd.s0,.int .u64 x.nd.s1,.int .u64 x.nd.s2,.int .u64 x.nd.s3,.string x.nd.text,.int .i64 x.nd.mn,.int .i64 x.nd.mx,.slice x.A x.nd.kids.length x.c] 54)).ownsRow (b+1) 54 9 (.slice V n vc) n (ndL.all ls)from World.ownsRow.alloc (own_agree HO.out (fun x hx=>HWB.out.block x (own_blk HO.out x hx).2)) _)
 have HWS:=Lib.hid HWB.out.size
 have HF:=Lib.hid (show n+1≤maxLen∧(n+1)*96≤140737488355328∧b+1≤(W.drew.alloc (.cells #[.int .u8 x.nd.kind,.int .u64 x.nd.s0,.int .u64 x.nd.s1,.int .u64 x.nd.s2,.int .u64 x.nd.s3,.string x.nd.text,.int .i64 x.nd.mn,.int .i64 x.nd.mx,.slice x.A x.nd.kids.length x.c] 54)).heap.size from⟨by unfold maxLen;omega,by omega,by have:=HWB.out.size;simp;omega⟩)
 have HKB:=Lib.hid (show(W.drew.alloc (.cells #[.int .u8 x.nd.kind,.int .u64 x.nd.s0,.int .u64 x.nd.s1,.int .u64 x.nd.s2,.int .u64 x.nd.s3,.string x.nd.text,.int .i64 x.nd.mn,.int .i64 x.nd.mx,.slice x.A x.nd.kids.length x.c] 54)).heap[b]?=some (.cells #[.slice V n vc] 137 (0,0))from bx_old (w:=W.drew) (by have h:=bx_kept HWB.out HW.out;exact h))
 have HVB:=Lib.hid (show ∀x,blkOf V=some x→b+1≤x from fun x hx=>(own_blk HO.out x hx).1)
 have HVB2:=Lib.hid (show blkOf V≠some b from fun e=>by have:=HVB.out b e;omega)
 have hBwW:b<W.heap.size:=by have:=HWS.out;omega
 go_region_law ((refine step_append_at (by rfl) (.tmp 9) (.tmp 11) 38 (by rfl) (b+1) 54 j0 (.agg #[.int .u8 0,.int .u64 0,.int .u64 0,.int .u64 0,.int .u64 0,.string ByteArray.empty,.int .i64 0,.int .i64 0,.slice none 0 0]) 9 96 Tryz.underlying38 hj hy0 hy1 hy2 hzc (by decide) V vc n (ndL.all ls) (by rfl) HOW.out (some ⟨W.heap.size,0,none⟩) 1 1 [.int .u8 x.nd.kind,.int .u64 x.nd.s0,.int .u64 x.nd.s1,.int .u64 x.nd.s2,.int .u64 x.nd.s3,.string x.nd.text,.int .i64 x.nd.mn,.int .i64 x.nd.mx,.slice x.A x.nd.kids.length x.c] (by rfl) rfl (row_blk (bx_new W.drew _)) (fun u hu=>by simp only[List.mem_cons,List.not_mem_nil,or_false]at hu;rcases hu with rfl|rfl|rfl|rfl|rfl|rfl|rfl|rfl|rfl <;> rfl) HF.out.1 HF.out.2.1 HF.out.2.2 ?_;intro V' vc' w2 HO2 HG2 HA2;have HK2:=Lib.hid ((HG2.out.block b (heap_lt' HKB.out) (fun e=>HVB2.out e.symm)).trans HKB.out);have t1:w2.cell? ⟨b,0,none⟩=some (.slice V n vc):=(by simp[World.cell?,HK2.out]);have t2:w2.frozen? ⟨b,0,none⟩=false:=(by simp[World.frozen?,HK2.out])))
 all_goals
  clear t1 t2 p1 p2 q0 q1 q2 q3 q4 q5 q6 q7 q8
  have HKA:=Lib.hid (show KeptA b w (w2.setCell ⟨b,0,none⟩ (.slice V' (n+1) vc'))from keptA_of HWB.out (by first|exact Or.inl HG2.out|exact Or.inr HG2.out) HO.out hlt)
  have HAA:=Lib.hid (show ArenaS (w2.setCell ⟨b,0,none⟩ (.slice V' (n+1) vc')) b S (ls++[x])from by
   have ho2:=HO2.out
   rw[show ndL.all ls++[Value.int .u8 x.nd.kind,.int .u64 x.nd.s0,.int .u64 x.nd.s1,.int .u64 x.nd.s2,.int .u64 x.nd.s3,.string x.nd.text,.int .i64 x.nd.mn,.int .i64 x.nd.mx,.slice x.A x.nd.kids.length x.c]=ndL.all (ls++[x])by rw[ndL.all_append,ndL.all_one];rfl]at ho2
   refine⟨V',vc',?_,?_,fun l hl=> ?_⟩
   ·rw[List.length_append,HNN.out];exact set_blk1 HK2.out
   ·rw[List.length_append,HNN.out]
    exact own_agree ho2 fun x hx=>Below.heap_setCell _ _ _ _ (by have:=(own_blk ho2 x hx).1;show x≠b;omega)
   ·refine HKA.out.nd hS ?_
    rcases List.mem_append.1 hl with hl|hl
    ·exact HK.out l hl
    ·rw[List.mem_singleton.1 hl];exact HX.out)
  generalize (w2.setCell ⟨b,0,none⟩ (.slice V' (n+1) vc'))=w3 at *
  obtain⟨V3,vc3,hk3,_⟩:=HAA.out
  have t1:w3.cell? ⟨b,0,none⟩=some (.slice V3 (n+1) vc3):=(by simp[World.cell?,hk3,HNN.out])
  clear hk3
  go_wp2_with fail
  go_ret
  exact⟨ls++[x],ret_int (by omega),by simp,HAA.out,HKA.out⟩
end Go.Proofs.YtpfokabdpmjobaaGreatDoor
/- The contracts of keep,join,seq,choice. -/
namespace Go.Proofs.YtpfokabdpmjobaaGreatDoor
open Go.RowKit
set_option linter.unusedSimpArgs false
set_option linter.unusedVariables false
theorem ArenaS.below {w w':World} {b:Nat} {S:Nat→Prop} {ls:List Ln} (h:ArenaS w b S ls) (hb:Below w.heap.size w w'):ArenaS w' b S ls:=by
 obtain⟨V,c,h1,h2,h3⟩:=h
 exact⟨V,c,bx_kept hb h1,own_belowA h2 hb,fun l hl=>(h3 l hl).agree (below_all hb)⟩
theorem arena_row {w:World} {b n c:Nat} {V:Option Addr} {ls:List Ln} (h:w.ownsRow (b+1) 54 9 (.slice V n c) n (ndL.all ls)) (hk:∀l∈ls,NdOwn w (b < ·) l):ndL.row w (b < ·) V ls:=
 ⟨own_rowIn h fun ad e=>by have:=(own_block h ad e).1;show b<ad.block;omega,fun l hl=>(hk l hl).inn⟩
theorem ArenaAt.below {w w':World} {b:Nat} {ls:List Ln} (h:ArenaAt w b ls) (hb:Below w.heap.size w w'):ArenaAt w' b ls:=ArenaS.below (S:=(b < ·)) h hb
set_option maxRecDepth 100000 in
set_option maxHeartbeats 3200000 in
theorem keep_any (b:Nat) (S:Nat→Prop) (hS:∀x,S x→b<x) (ls:List Ln) (x:Ln) (K:Value) (w:World) (hA:ArenaS w b S ls) (hx:NdOwn w S x) (hn:ls.length≤4294967296):
  Calls Tryz.prog 112 #[.pointer (some ⟨b,0,none⟩),ndV x.nd K,x.kv] w (StepPost b S (ls.map Ln.nd++[x.nd]) (ls.length:Int) w):=by
 have hlt:b<w.heap.size:=by obtain⟨V,c,h,_⟩:=hA;exact heap_lt' h
 have HA:=Lib.hid hA;have HX:=Lib.hid hx;clear hA hx
 have HAD:=Lib.hid (fun w' (h:ArenaS w' b S ls) (hx:NdOwn w' S x)=>add_any b S hS ls x w' h hx hn)
 unfold StepPost at HAD ⊢
 go_enter Tryz.func112,Tryz.ntmps112
 go_upto_region 2 with(fail)
 go_wp2_with (first
  |(go_at_call 137;(with_reducible refine(HAD.out _ (HA.out.below (bx1 w _)) (HX.out.agree (below_all (bx1 w _)))).mono ?_);rintro e w3 ⟨ls',rfl,h1,h2,h3⟩;have H1:=Lib.hid h1;have H2:=Lib.hid h2;have H3:=Lib.hid h3;clear h1 h2 h3)
  |fail)
 go_ret
 exact⟨ls',rfl,H1.out,H2.out,(Below.keptA (bx1 w _) (by omega)).trans H3.out⟩
def GatherPost (pb:Nat) (ps:List Int) (w:World) (e:Ending) (w':World):Prop:=∃U uc,e=.returned (.tuple #[])∧w'.heap[pb]?=some (.cells #[.slice U ps.length uc] 52 (0,0))∧w'.ownsRow (pb+1) 3 1 (.slice U ps.length uc) ps.length (intL.all ps)∧Below pb w w'
set_option maxRecDepth 100000 in
set_option maxHeartbeats 3200000 in
theorem gather_any (b pb ab nb:Nat) (ls:List Ln) (n:Nd) (K:Value) (k:Nat) (ps:List Int) (uc:Nat) (U:Option Addr) (w:World) (hA:ArenaAt w b ls)
  (hn:w.heap[nb]?=some (.cells #[.int .u8 n.kind,.int .u64 n.s0,.int .u64 n.s1,.int .u64 n.s2,.int .u64 n.s3,.string n.text,.int .i64 n.mn,.int .i64 n.mx,K] 54 (0,0)))
  (ha:w.heap[ab]?=some (.cells #[.pointer (some ⟨b,0,none⟩)] 141 (0,0))) (hp:w.heap[pb]?=some (.cells #[.slice U ps.length uc] 52 (0,0)))
  (hU:w.ownsRow (pb+1) 3 1 (.slice U ps.length uc) ps.length (intL.all ps)) (hml:ps.length≤4294967296) (hk:k<ls.length):
  Calls Tryz.prog 165 #[.int .i64 (k:Int),.pointer (some ⟨nb,0,none⟩),.pointer (some ⟨ab,0,none⟩),.pointer (some ⟨pb,0,none⟩)] w (GatherPost pb (ps++partJ (ls.map Ln.nd) n [(k:Int)]) w):=by
 obtain⟨i0,hi,hz0,hz1,hz2⟩:=info_parts infoInt
 obtain⟨V,vc,hw,ho,hkk⟩:=hA
 have hrow:=arena_row ho hkk
 clear hkk
 obtain⟨y0,_⟩:=blk9 hn
 have x0:w.cell? ⟨ab,0,none⟩=some (.pointer (some ⟨b,0,none⟩)):=by simp[World.cell?,ha]
 have x1:w.cell? ⟨b,0,none⟩=some (.slice V ls.length vc):=by simp[World.cell?,hw]
 have x2:w.cell? ⟨pb,0,none⟩=some (.slice U ps.length uc):=by simp[World.cell?,hp]
 have x3:w.frozen? ⟨pb,0,none⟩=false:=by simp[World.frozen?,hp]
 obtain⟨g,o,hA,_,hgl,z0,_⟩:=ndRow hrow k hk
 subst hA
 have hlk:(ndAt (ls.map Ln.nd) k).kind=ls[k].nd.kind:=by simp[ndAt,hk]
 have hps:partJ (ls.map Ln.nd) n [(k:Int)]=if n.kind≠4∨ls[k].nd.kind≠0 then[(k:Int)]else[]:=by
  unfold partJ
  rw[List.filter_cons,Int.toNat_natCast,hlk]
  simp
 have hpl:=heap_lt' hp
 rw[hps]
 clear hps hrow ho
 have HP:=Lib.hid hp;have HU:=Lib.hid hU;clear hp hU hn ha hw
 have i1:(k:Int)<(ls.length:Int):=by omega
 have i2:(0:Int)≤(k:Int):=by omega
 have HO2:=Lib.hid (show(w.alloc (.cells #[.int .i64 (k:Int)] 3)).ownsRow (pb+1) 3 1 (.slice U ps.length uc) ps.length (intL.all ps)from World.ownsRow.alloc HU.out _)
 have F2:=Lib.hid (show ps.length+1≤maxLen∧(ps.length+1)*8≤140737488355328∧pb+1≤(w.alloc (.cells #[.int .i64 (k:Int)] 3)).heap.size from⟨by unfold maxLen;omega,by omega,by simp;omega⟩)
 generalize hnk:n.kind=nk at *
 generalize ls[k].nd.kind=lk at *
 have HVBB:=Lib.hid (show ∀x,blkOf U=some x→pb+1≤x from fun x hx=>(own_blk HU.out x hx).1)
 have HVB:=Lib.hid (show blkOf U≠some pb from fun e=>by have:=HVBB.out pb e;omega)
 by_cases h4:nk=4
 ·subst h4
  by_cases h0:lk=0
  ·subst h0
   rw[if_neg (by simp),List.append_nil]
   go_enter Tryz.func165,Tryz.ntmps165
   go_wp2_with fail
   exact bodyPost_end (v:=.tuple #[]) (by simp[results,Tryz.results165,go_sem]) rfl (by
    unfold GatherPost
    exact⟨U,uc,rfl,HP.out,HU.out,Below.refl _ _⟩)
  ·have h0':(lk != 0)=true:=by simpa using h0
   rw[if_pos (.inr h0)]
   go_enter Tryz.func165,Tryz.ntmps165
   go_wp2_with (at_builtin;refine wpList_append_at _ rfl (.tmp 19) (.tmp 21) 52 rfl (pb+1) 3 i0 (.int .i64 0) 1 8 Tryz.underlying52 hi hz0 hz1 hz2 rfl (by decide) U uc ps.length (intL.all ps) rfl HO2.out (some ⟨w.heap.size,0,none⟩) 1 1 (intL.all [(k:Int)]) rfl (by simp[intL,Lay.all]) (row_blk (bx_new w _)) (intL.all_one' _) F2.out.1 F2.out.2.1 F2.out.2.2 ?_;intro V'' vc'' w3 HO3 HG3 HA3;have HK3:=Lib.hid ((HG3.out.block pb (by simp;omega) (fun e=>HVB.out e.symm)).trans (bx_old HP.out));have t1:w3.cell? ⟨pb,0,none⟩=some (.slice U ps.length uc):=(by simp[World.cell?,HK3.out]);have t2:w3.frozen? ⟨pb,0,none⟩=false:=(by simp[World.frozen?,HK3.out]))
   have hB3:Below pb w w3:=((bx1 w _).mono (Nat.le_of_lt hpl)).grown HG3.out (by simp;omega) (fun x hx=>by have:=HVBB.out x hx;omega)
   exact bodyPost_end (v:=.tuple #[]) (by simp[results,Tryz.results165,go_sem]) rfl (by
    unfold GatherPost
    rw[List.length_append]
    exact⟨V'',vc'',rfl,set_blk1 HK3.out,by rw[intL.all_append];exact own_agree HO3.out fun x hx=>Below.heap_setCell _ _ _ _ (by have:=(own_blk HO3.out x hx).1;show x≠pb;omega),hB3.setCell (p:=⟨pb,0,none⟩) (Nat.le_refl _) _⟩)
 ·have h4':(nk != 4)=true:=by simpa using h4
  rw[if_pos (.inl h4)]
  ·skip
   go_enter Tryz.func165,Tryz.ntmps165
   go_wp2_with (at_builtin;refine wpList_append_at _ rfl (.tmp 19) (.tmp 21) 52 rfl (pb+1) 3 i0 (.int .i64 0) 1 8 Tryz.underlying52 hi hz0 hz1 hz2 rfl (by decide) U uc ps.length (intL.all ps) rfl HO2.out (some ⟨w.heap.size,0,none⟩) 1 1 (intL.all [(k:Int)]) rfl (by simp[intL,Lay.all]) (row_blk (bx_new w _)) (intL.all_one' _) F2.out.1 F2.out.2.1 F2.out.2.2 ?_;intro V'' vc'' w3 HO3 HG3 HA3;have HK3:=Lib.hid ((HG3.out.block pb (by simp;omega) (fun e=>HVB.out e.symm)).trans (bx_old HP.out));have t1:w3.cell? ⟨pb,0,none⟩=some (.slice U ps.length uc):=(by simp[World.cell?,HK3.out]);have t2:w3.frozen? ⟨pb,0,none⟩=false:=(by simp[World.frozen?,HK3.out]))
   have hB3:Below pb w w3:=((bx1 w _).mono (Nat.le_of_lt hpl)).grown HG3.out (by simp;omega) (fun x hx=>by have:=HVBB.out x hx;omega)
   exact bodyPost_end (v:=.tuple #[]) (by simp[results,Tryz.results165,go_sem]) rfl (by
    unfold GatherPost
    rw[List.length_append]
    exact⟨V'',vc'',rfl,set_blk1 HK3.out,by rw[intL.all_append];exact own_agree HO3.out fun x hx=>Below.heap_setCell _ _ _ _ (by have:=(own_blk HO3.out x hx).1;show x≠pb;omega),hB3.setCell (p:=⟨pb,0,none⟩) (Nat.le_refl _) _⟩)
end Go.Proofs.YtpfokabdpmjobaaGreatDoor
