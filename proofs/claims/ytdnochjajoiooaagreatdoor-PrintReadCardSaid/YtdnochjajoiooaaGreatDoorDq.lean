/- Parts of the proof. -/
import Derived.Test.YtdnochjajoiooaaGreatDoorDn
import Derived.WalkSpells
import Derived.Deep.RegionHeld3
import Derived.Deep.Cut
import Derived.BigQuiet
import Derived.Test.YtdnochjajoiooaaGreatDoorDk
import Derived.Test.YtdnochjajoiooaaGreatDoorDa
import Derived.Test.YtdnochjajoiooaaGreatDoorLs
namespace Go.Proofs.YtdnochjajoiooaaGreatDoor
open Go.RowKit
set_option linter.unusedSimpArgs false
set_option linter.unusedVariables false
theorem Below.drewN'' {B:Nat} {a w:World} (h:Below B a w) (n:Nat):Below B a (w.drewN n):=by
 induction n generalizing w with
 |zero=>exact h
 |succ n ih=>exact(ih h).drew
theorem Xl {w:World} {S:Nat->Prop} {A:Option Addr} {l:List Int} (h:Az.row w S A l) (hl:0<l.length):∃b o,A=some ⟨b,o,none⟩/\ ∀j,j<l.length->w.cell? ⟨b,o+j,none⟩=some (.int .i64 (l.getD j 0)):=by
 obtain⟨b,o,rfl,_⟩:=E9 h 0 hl;refine⟨b,o,rfl,fun j hj=> ?_⟩;obtain⟨b',o',e,_,_,hc⟩:=E9 h j hj;cases e;rw[hc];simp[List.getD,hj]
set_option maxRecDepth 100000 in
theorem GE (w:World) (A:Option Addr) (n c:Nat) (r:Int):(Instr.field 24 (.agg #[.slice A n c,.int .i64 r]) 0).run Tryz.prog w=.ok (.slice A n c) w:=by
 kernel_rfl
theorem TreePost.out {t:Tr} {w w':World} {e:Ending} (h:TreePost t w e w'):∃(A:Option Addr) (c:Nat) (ls:List Ln) (r:Int),e=.returned (.agg #[.slice A ls.length c,.int .i64 r])/\Lt.tr ⟨A,c,ls,r⟩=t/\TreeOwn w' (w.heap.size <= ·) ⟨A,c,ls,r⟩/\Below w.heap.size w w':=by
 obtain⟨⟨A,c,ls,r⟩,h1,h2,h3,h4⟩:=h;exact⟨A,c,ls,r,h1,h2,h3,h4⟩
theorem Mc {a b:Tr} (h:AA a=false):Dy a b=false:=by simp[Dy,h]
theorem Lf {a b:Tr} (h:AA b=false):Dy a b=false:=by simp[Dy,h]
theorem S0 {a b:Tr} (h:AA a=true) (k:AA b=true):Dy a b=decide (BH a.nodes a.root.toNat=BH b.nodes b.root.toNat):=by simp[Dy,h,k]
theorem Ro {w:World} {B g n c:Nat} {ls:List Ln} (h:w.ownsRow B 42 9 (.slice (some ⟨g,0,none⟩) n c) n (ndL.all ls)) (k:Nat) (hk:k<ls.length):
  w.cell? ⟨g,k*9,none⟩=some (.int .u8 ls[k].nd.kind)/\w.cell? ⟨g,k*9+1,none⟩=some (.int .u64 ls[k].nd.s0)/\w.cell? ⟨g,k*9+2,none⟩=some (.int .u64 ls[k].nd.s1)/\w.cell? ⟨g,k*9+3,none⟩=some (.int .u64 ls[k].nd.s2)/\w.cell? ⟨g,k*9+4,none⟩=some (.int .u64 ls[k].nd.s3) /\
   w.cell? ⟨g,k*9+5,none⟩=some (.string ls[k].nd.text)/\w.cell? ⟨g,k*9+6,none⟩=some (.int .i64 ls[k].nd.mn)/\w.cell? ⟨g,k*9+7,none⟩=some (.int .i64 ls[k].nd.mx)/\w.cell? ⟨g,k*9+8,none⟩=some (.slice ls[k].A ls[k].nd.kids.length ls[k].c):=by
 have hn:n*9=ls.length*9:=by have h1:=h.1;rw[ndL.all_length]at h1;exact h1.symm
 have hc:∀j u,j<9->(ndL.cells ls[k])[j]?=some u->w.cell? ⟨g,k*9+j,none⟩=some u:=fun j u hj hu=>(World.ownsRow.cellAt h (k*9+j) (by omega)).trans ((ndL.all_at ls k j hk hj).trans hu)
 exact⟨hc 0 _ (by decide) rfl,hc 1 _ (by decide) rfl,hc 2 _ (by decide) rfl,hc 3 _ (by decide) rfl,hc 4 _ (by decide) rfl,hc 5 _ (by decide) rfl,hc 6 _ (by decide) rfl,hc 7 _ (by decide) rfl,hc 8 _ (by decide) rfl⟩
structure GramOwn (w:World) (S:Nat->Prop) (A:Option Addr) (c:Nat) (ds:List Ld):Prop where
 len:ds.length<=281474976710656
 row:OwnS w S 208 3 A ds.length c (dfL.all ds)
 kids:∃Q:Nat->Nat->Prop,(∀i (h:i<ds.length),ds[i].name.size<=281474976710656/\TreeOwn w (Q i) ds[i].t)/\(∀i x,Q i x->S x)/\ ∀i j x,i≠j->Q i x-> ¬Q j x
theorem GramOwn.inn {w:World} {S:Nat->Prop} {A:Option Addr} {c:Nat} {ds:List Ld} (h:GramOwn w S A c ds):dfL.row w S A ds:=by
 obtain⟨Q,h1,h2,_⟩:=h.kids;refine⟨h.row.row,fun d hd=> ?_⟩;obtain⟨i,hi,rfl⟩:=List.mem_iff_getElem.1 hd;exact⟨(h1 i hi).1,((h1 i hi).2.mono (fun x _ hx=>h2 i x hx)).inn⟩
theorem GramOwn.agree {w w':World} {S:Nat->Prop} {A:Option Addr} {c:Nat} {ds:List Ld} (h:GramOwn w S A c ds) (hg:Agree S w w'):GramOwn w' S A c ds:=by
 obtain⟨Q,h1,h2,h3⟩:=h.kids;exact⟨h.len,h.row.agree hg,Q,fun i hi=>⟨(h1 i hi).1,(h1 i hi).2.agree (hg.mono (fun x _ hx=>h2 i x hx))⟩,h2,h3⟩
theorem GramOwn.mono {w:World} {S T:Nat->Prop} {A:Option Addr} {c:Nat} {ds:List Ld} (h:GramOwn w S A c ds) (hS:∀k,S k->T k):GramOwn w T A c ds:=by
 obtain⟨Q,h1,h2,h3⟩:=h.kids;exact⟨h.len,h.row.mono (fun k _=>hS k),Q,h1,fun i x hx=>hS x (h2 i x hx),h3⟩
theorem Lg {w:World} {b:Nat} {x:Value} {T:TypeId} (h:w.heap[b]?=some (.cells #[x] T (0,0))):w.cell? ⟨b,0,none⟩=some x/\w.frozen? ⟨b,0,none⟩=false:=by
 simp[World.cell?,World.frozen?,h]
theorem Fb {w:World} {b:Nat} {x u:Value} {T:TypeId} (h:w.heap[b]?=some (.cells #[x] T (0,0))):(w.setCell ⟨b,0,none⟩ u).heap[b]?=some (.cells #[u] T (0,0)):=by
 have:=heap_setCell_same w b 0 _ T u h;simpa using this
theorem CI {w w':World} {base:Nat} {e:TypeId} {size n c:Nat} {V:Option Addr} {xs:List Value} (h:w.ownsRow base e size (.slice V n c) n xs) (hb:Below w.heap.size w w'):w'.ownsRow base e size (.slice V n c) n xs:=
 Au h (fun x hx=>hb.block x (Aq h x hx).2)
theorem S1 {w:World} {b:Nat} {x y u:Value} {T:TypeId} (h:w.heap[b]?=some (.cells #[x,y] T (0,0))):(w.setCell ⟨b,1,none⟩ u).heap[b]?=some (.cells #[x,u] T (0,0)):=by
 have:=heap_setCell_same w b 1 _ T u h;simpa using this
section
variable {P:Program} {w:World} {a:Addr} {m:Mode}
theorem Lh (f:Fn) (ts cs:Array Value):(store a (.func f ts cs) m).run P w=stored P w a (.func f ts cs) m:=run_store P w a _ m rfl
end
theorem Ny {w:World} {b size:Nat} {cs:List Value} {e:TypeId} (h:w.heap[b]?=some (.cells cs.toArray e (0,0))) (hl:cs.length=size):w.ownsRow b e size (.slice (some ⟨b,0,none⟩) 1 1) 1 cs:=by
 refine⟨by omega,.inr ⟨b,1,cs.toArray,rfl,Nat.le_refl _,h,Nat.le_refl _,by unfold maxLen;omega,by simp[hl],?_⟩⟩;rw[Nat.one_mul,<-hl];simp
theorem Un {w:World} {b:Nat} {n:Nd} (hn:n.wf) (hk:n.kids=[]) (h:w.heap[b]?=some (.cells #[.int .u8 n.kind,.int .u64 n.s0,.int .u64 n.s1,.int .u64 n.s2,.int .u64 n.s3,.string n.text,.int .i64 n.mn,.int .i64 n.mx,.slice none 0 0] 42 (0,0))) (r:Int):TreeOwn w (b <= ·) ⟨some ⟨b,0,none⟩,1,[⟨n,none,0⟩],r⟩:=by
 refine⟨by simp,GC (B:=b) (by
  have:=Ny (cs:=[.int .u8 n.kind,.int .u64 n.s0,.int .u64 n.s1,.int .u64 n.s2,.int .u64 n.s3,.string n.text,.int .i64 n.mn,.int .i64 n.mx,.slice none 0 0]) (size:=9) h rfl
  have e:ndL.all [⟨n,none,0⟩]=[.int .u8 n.kind,.int .u64 n.s0,.int .u64 n.s1,.int .u64 n.s2,.int .u64 n.s3,.string n.text,.int .i64 n.mn,.int .i64 n.mx,.slice none 0 0]:=by
   rw[ndL.all_one];show[_,_,_,_,_,_,_,_,Value.slice none n.kids.length 0]=_;rw[hk];rfl
  rw[e];exact this),fun l hl=> ?_⟩
 simp only[List.mem_singleton]at hl;subst hl;refine⟨hn,?_⟩;show OwnS w _ _ 1 none n.kids.length 0 (Az.all n.kids);rw[hk];exact OwnS.nil _ _ _ _
set_option maxRecDepth 100000 in
set_option maxHeartbeats 1600000 in
theorem IH (n:Nd) (w:World) (hn:n.wf) (hk:n.kids=[]):
  Calls Tryz.prog 33 #[.agg #[.int .u8 n.kind,.int .u64 n.s0,.int .u64 n.s1,.int .u64 n.s2,.int .u64 n.s3,.string n.text,.int .i64 n.mn,.int .i64 n.mx,.slice none 0 0]] w fun e w'=>∃b,e=.returned (.agg #[.slice (some ⟨b,0,none⟩) 1 1,.int .i64 0])/\TreeOwn w' (w.heap.size <= ·) ⟨some ⟨b,0,none⟩,1,[⟨n,none,0⟩],0⟩/\Below w.heap.size w w':=by
 go_enter Tryz.func33,Tryz.ntmps33
 go_upto_region 1 with(fail)
 have HW:=qd (bx2 w (.cells #[.int .u8 n.kind,.int .u64 n.s0,.int .u64 n.s1,.int .u64 n.s2,.int .u64 n.s3,.string n.text,.int .i64 n.mn,.int .i64 n.mx,.slice none 0 0] 42) (.cells #[.slice none 0 0,.int .i64 0] 24));have HX:=qd (A7 (p:=.cells #[.slice none 0 0,.int .i64 0] 24) (Ad w (.cells #[.int .u8 n.kind,.int .u64 n.s0,.int .u64 n.s1,.int .u64 n.s2,.int .u64 n.s3,.string n.text,.int .i64 n.mn,.int .i64 n.mx,.slice none 0 0] 42)));have HT:=qd (Ad (w.alloc (.cells #[.int .u8 n.kind,.int .u64 n.s0,.int .u64 n.s1,.int .u64 n.s2,.int .u64 n.s3,.string n.text,.int .i64 n.mn,.int .i64 n.mx,.slice none 0 0] 42)) (.cells #[.slice none 0 0,.int .i64 0] 24));have HZ:=qd (show((w.alloc (.cells #[.int .u8 n.kind,.int .u64 n.s0,.int .u64 n.s1,.int .u64 n.s2,.int .u64 n.s3,.string n.text,.int .i64 n.mn,.int .i64 n.mx,.slice none 0 0] 42)).alloc (.cells #[.slice none 0 0,.int .i64 0] 24)).heap.size=w.heap.size+2 from by simp);generalize ((w.alloc (.cells #[.int .u8 n.kind,.int .u64 n.s0,.int .u64 n.s1,.int .u64 n.s2,.int .u64 n.s3,.string n.text,.int .i64 n.mn,.int .i64 n.mx,.slice none 0 0] 42)).alloc (.cells #[.slice none 0 0,.int .i64 0] 24))=W at *;simp only[World.size_alloc]at HT;refine wp_region_list ?_;refine Bc rfl (Ep rfl rfl (Lc W w.heap.size _ _ _ _ _ _ _ _ _ _ HX.out)) ?_;refine Bc rfl (DG rfl rfl (Iv W _ _ _ _ _ _ _ _ _)) ?_;simp only[Act.put,List.setIfInBounds_toArray,List.set_cons_zero,List.set_cons_succ];have HN:=qd (Ad W (.cells #[.int .u8 n.kind,.int .u64 n.s0,.int .u64 n.s1,.int .u64 n.s2,.int .u64 n.s3,.string n.text,.int .i64 n.mn,.int .i64 n.mx,.slice none 0 0] 42));have HW2:=qd (bx1 W (.cells #[.int .u8 n.kind,.int .u64 n.s0,.int .u64 n.s1,.int .u64 n.s2,.int .u64 n.s3,.string n.text,.int .i64 n.mn,.int .i64 n.mx,.slice none 0 0] 42));generalize W.alloc (.cells #[.int .u8 n.kind,.int .u64 n.s0,.int .u64 n.s1,.int .u64 n.s2,.int .u64 n.s3,.string n.text,.int .i64 n.mn,.int .i64 n.mx,.slice none 0 0] 42)=W2 at *;have HT2:=qd (Ae HW2.out HT.out);obtain⟨t1,t2,t3,t4⟩:=Bd HT2.out;go_wp2_with fail
 refine bodyPost_ret (v:=.agg #[.slice (some ⟨W.heap.size,0,none⟩) 1 1,.int .i64 0]) (by simp[results,Tryz.results33,go_sem,t1,t2]) rfl ?_;have hz:=HZ.out;refine⟨W.heap.size,rfl,((Un hn hk HN.out 0).agree (fun x hx _=> ?_)).mono (fun x _ hx=>by have hx:W.heap.size<=x:=hx;show w.heap.size<=x;omega),((Below.step HW.out HW2.out).setCell (p:=⟨w.heap.size+1,0,none⟩) (by simp) _).setCell (p:=⟨w.heap.size+1,1,none⟩) (by simp) _⟩;have hx:W.heap.size<=x:=hx;exact(Below.heap_setCell _ _ _ _ (by show x≠w.heap.size+1;omega)).trans (Below.heap_setCell _ _ _ _ (by show x≠w.heap.size+1;omega))
def EA (s:ByteArray):Nd:=⟨2,0,0,0,0,s,0,0,[]⟩
set_option maxRecDepth 100000 in
set_option maxHeartbeats 1600000 in
theorem Uo (s:ByteArray) (w:World) (hs:s.size<=281474976710656):
  Calls Tryz.prog 13 #[.string s] w fun e w'=>∃b,e=.returned (.agg #[.slice (some ⟨b,0,none⟩) 1 1,.int .i64 0])/\TreeOwn w' (w.heap.size <= ·) ⟨some ⟨b,0,none⟩,1,[⟨EA s,none,0⟩],0⟩/\Below w.heap.size w w':=by
 have HWF:=qd (show(EA s).wf from⟨by simp[EA],hs,by simp[EA],by simp[EA,U64],by simp[EA,U64],by simp[EA,U64],by simp[EA,U64]⟩);go_enter Tryz.func13,Tryz.ntmps13
 go_wp2_with (go_at_call 33;refine(IH (EA s) _ HWF.out rfl).mono ?_;rintro e w1 ⟨b,rfl,ht,hb⟩;have HT:=qd ht;have HB:=qd hb;obtain⟨t1,t2,t3,t4⟩:=Bd (Ae hb (Ad w _));clear ht hb)
 refine bodyPost_ret (v:=.agg #[.slice (some ⟨b,0,none⟩) 1 1,.int .i64 0]) (by simp[results,Tryz.results13,go_sem,t1,t2]) rfl ?_;refine⟨b,rfl,(HT.out.agree (fun x hx _=> ?_)).mono (fun x _ hx=> ?_),((Below.step (bx1 w _) HB.out).setCell (p:=⟨w.heap.size,0,none⟩) (Nat.le_refl _) _).setCell (p:=⟨w.heap.size,1,none⟩) (Nat.le_refl _) _⟩
 ·have hx:(w.alloc _).heap.size<=x:=hx;rw[World.size_alloc]at hx;exact(Below.heap_setCell _ _ _ _ (by show x≠w.heap.size;omega)).trans (Below.heap_setCell _ _ _ _ (by show x≠w.heap.size;omega))
 ·have hx:(w.alloc _).heap.size<=x:=hx;rw[World.size_alloc]at hx;show w.heap.size<=x;omega
theorem Nz {B:Nat} {w w':World} (h:Below B w w') (n:Nat):Below B w (w'.drewN n):=⟨h.1,h.2,h.3,h.4,fun k hk=>h.5 k hk⟩
def Dz (by':Int) (n:Nd):Nd:={n with kids:=n.kids.map (· + by')}
theorem Up {b:Int} {n:Nd} (h:n.wf):(Dz b n).wf:=by
 obtain⟨h1,h2,h3,h4⟩:=h;exact⟨h1,h2,by simpa[Dz]using h3,h4⟩
def Kf:List Tr->List Nd->List Int->List Nd×List Int
 |[],ar,li=>(ar,li)
 |k::ks,ar,li=>Kf ks (ar++(BH k.nodes k.root.toNat).map (Dz ar.length)) (li++[((ar++(BH k.nodes k.root.toNat).map (Dz ar.length)).length:Int)-1])
def ofT (n:Nd) (ks:List Tr):Tr:=⟨(Kf ks [] []).1++[{n with kids:=(Kf ks [] []).2}],((Kf ks [] []).1.length:Int)⟩
def okT (n:Nd) (ks:List Tr):Bool:=Am n ks.length&&ks.all AA
theorem O2 {t:Tr} (h:Bv t) (i:Nat) (hi:i<t.nodes.length):∀n∈BH t.nodes i,n.kids.length<=t.nodes.length/\ ∀z∈n.kids,0<=z/\z<=(t.nodes.length:Int):=fun n hn=>by
 have hpl:=CW h i hi;obtain⟨p,hp,rfl⟩:=List.mem_map.1 hn;have hp2:p<t.nodes.length:=by have:=Cr (AE h) i p hp;omega
 constructor
 ·have h1:=C7 h (i:=p) (n:=t.nodes[p]) (List.getElem?_eq_getElem hp2);simp only[AB,List.length_map,An,List.getElem?_eq_getElem hp2,Option.getD_some];omega
 ·intro z hz;simp only[AB,List.mem_map]at hz;obtain⟨k,_,rfl⟩:=hz;have:=List.idxOf_le_length (l:=Ak t.nodes i) (a:=k.toNat);omega
def ttL:Lay Lt where
 size:=2
 cells t:=[.slice t.A t.ls.length t.c,.int .i64 t.root]
 len _:=rfl
 one _ u hu:=by
  simp only[List.mem_cons,List.not_mem_nil,or_false]at hu;rcases hu with rfl|rfl <;> rfl
 inn w S t:=t.inn w S
 agree h hg:=Lt.inn.agree h hg
 mono h hS:=Lt.inn.mono h hS
theorem Uq {w:World} {S:Nat->Prop} {A:Option Addr} {l:List Lt} (h:ttL.row w S A l) (i:Nat) (hi:i<l.length):
  ∃b o,A=some ⟨b,o,none⟩/\S b/\b<w.heap.size/\w.cell? ⟨b,o+i*2,none⟩=some (.slice l[i].A l[i].ls.length l[i].c)/\w.cell? ⟨b,o+i*2+1,none⟩=some (.int .i64 l[i].root):=by
 obtain⟨b,o,e,hS,hl,hc⟩:=h.at (by decide) i hi;have hc:∀j u,(ttL.cells l[i])[j]?=some u->w.cell? ⟨b,o+i*2+j,none⟩=some u:=fun j u hu=>by rw[Nat.add_assoc];exact hc j u hu
 exact⟨b,o,e,hS,hl,hc 0 _ rfl,hc 1 _ rfl⟩
end Go.Proofs.YtdnochjajoiooaaGreatDoor
/- The contracts of tree.Rule and tree.Empty. -/
namespace Go.Proofs.YtdnochjajoiooaaGreatDoor
open Go.RowKit
set_option linter.unusedSimpArgs false
set_option linter.unusedVariables false
def FL (n:Nd) (w:World) (e:Ending) (w':World):Prop:=∃b,e=.returned (.agg #[.slice (some ⟨b,0,none⟩) 1 1,.int .i64 0])/\TreeOwn w' (w.heap.size <= ·) ⟨some ⟨b,0,none⟩,1,[⟨n,none,0⟩],0⟩/\Below w.heap.size w w'
def C8 (s:ByteArray):Nd:=⟨3,0,0,0,0,s,0,0,[]⟩
def Dm:Nd:=⟨0,0,0,0,0,⟨#[]⟩,0,0,[]⟩
set_option maxRecDepth 100000 in
set_option maxHeartbeats 1600000 in
theorem Li (s:ByteArray) (w:World) (hs:s.size<=281474976710656):
  Calls Tryz.prog 11 #[.string s] w (FL (C8 s) w):=by
 unfold FL;have HWF:=qd (show(C8 s).wf from⟨by simp[C8],hs,by simp[C8],by simp[C8,U64],by simp[C8,U64],by simp[C8,U64],by simp[C8,U64]⟩);go_enter Tryz.func11,Tryz.ntmps11
 go_wp2_with (go_at_call 33;refine(IH (C8 s) _ HWF.out rfl).mono ?_;rintro e w1 ⟨b,rfl,ht,hb⟩;have HT:=qd ht;have HB:=qd hb;obtain⟨t1,t2,t3,t4⟩:=Bd (Ae hb (Ad w _));clear ht hb)
 refine bodyPost_ret (v:=.agg #[.slice (some ⟨b,0,none⟩) 1 1,.int .i64 0]) (by simp[results,Tryz.results11,go_sem,t1,t2]) rfl ?_;refine⟨b,rfl,(HT.out.agree (fun x hx _=> ?_)).mono (fun x _ hx=> ?_),((Below.step (bx1 w _) HB.out).setCell (p:=⟨w.heap.size,0,none⟩) (Nat.le_refl _) _).setCell (p:=⟨w.heap.size,1,none⟩) (Nat.le_refl _) _⟩
 ·have hx:(w.alloc _).heap.size<=x:=hx;rw[World.size_alloc]at hx;exact(Below.heap_setCell _ _ _ _ (by show x≠w.heap.size;omega)).trans (Below.heap_setCell _ _ _ _ (by show x≠w.heap.size;omega))
 ·have hx:(w.alloc _).heap.size<=x:=hx;rw[World.size_alloc]at hx;show w.heap.size<=x;omega
end Go.Proofs.YtdnochjajoiooaaGreatDoor
namespace Go.Proofs.YtdnochjajoiooaaGreatDoor
set_option linter.unusedSimpArgs false
set_option linter.unusedVariables false
def Gi (off:Nat) (n:Nd):Nd:={n with kids:=n.kids.map (· + (off:Int))}
def G2:Nat->List (List Nd)->List Nd
 |_,[]=>[]
 |off,t::ts=>t.map (Gi off)++G2 (off+t.length) ts
def CR:Nat->List (List Nd)->List Int
 |_,[]=>[]
 |off,t::ts=>(((off+t.length:Nat):Int)-1)::CR (off+t.length) ts
def DJ (n:Nd):Nd:={n with kids:=[]}
theorem DQ (l:List Nd) (i:Nat):(BH l i).length=(Ak l i).length:=by simp[BH]
theorem Wg {pre q suf:List Nat} {z:Nat} (h:z∉pre) (hz:z∈q):(pre++q++suf).idxOf z=pre.length+q.idxOf z:=by
 rw[List.append_assoc,List.idxOf_append,if_neg h,List.idxOf_append,if_pos hz];omega
theorem S2 {l:List Nd} (h:AR l) {k:Nat} (hn:(Ak l k).Nodup):(Ak l k).idxOf k+1=(Ak l k).length:=by
 rw[AW h]at hn ⊢
 have hk:k∉(Ab l k).flatMap (Ak l):=fun hk=>by
  rw[List.nodup_append]at hn;exact hn.2.2 k hk k (by simp) rfl
 rw[List.idxOf_append,if_neg hk];simp
theorem Ur {l:List Nd} (h:AR l) {k p z:Nat} (hp:p∈Ak l k) (hz:z∈Ab l p):z∈Ak l k:=by
 obtain⟨a,b,e⟩:=List.append_of_mem hp;have:=M2 h k a p b e z hz;rw[e];exact List.mem_append_left _ this
theorem B6 (l:List Nd) (p:Nat):Ab l p=(An l p).kids.map Int.toNat:=by
 unfold Ab An;cases l[p]? <;> simp
theorem Lj {l:List Nd} (h:AR l) (P:List Nat) (hP:P.Nodup):∀(ks pre suf:List Nat),P=pre++ks.flatMap (Ak l)++suf ->
  (ks.flatMap (Ak l)).map (fun p=>AB P (An l p))=G2 pre.length (ks.map (BH l))/\(ks.map fun k=>(P.idxOf k:Int))=CR pre.length (ks.map (BH l))
 |[],pre,suf,_=>⟨rfl,rfl⟩
 |k::ks,pre,suf,e=>by
  simp only[List.flatMap_cons]at e;have e1:P=pre++Ak l k++(ks.flatMap (Ak l)++suf):=by rw[e];simp
  have e2:P=(pre++Ak l k)++ks.flatMap (Ak l)++suf:=by rw[e];simp
  obtain⟨h1,h2⟩:=Lj h P hP ks (pre++Ak l k) suf e2
  have hnd:(pre++Ak l k).Nodup:=by
   rw[e1,List.nodup_append]at hP;exact hP.1
  have hnk:(Ak l k).Nodup:=(List.nodup_append.1 hnd).2.1;have hpre:∀z∈Ak l k,z∉pre:=fun z hz hz'=>(List.nodup_append.1 hnd).2.2 z hz' z hz rfl
  have hidx:∀z∈Ak l k,P.idxOf z=pre.length+(Ak l k).idxOf z:=fun z hz=>by
   rw[e1];exact Wg (hpre z hz) hz
  rw[List.length_append]at h1 h2;constructor
  ·simp only[List.flatMap_cons,List.map_append,List.map_cons,G2,DQ,h1];congr 1;rw[BH,List.map_map];refine List.map_congr_left fun p hp=> ?_
   simp only[Function.comp_apply,AB,Gi,List.map_map];congr 1;refine List.map_congr_left fun z hz=> ?_
   have hz':z.toNat∈Ab l p:=by rw[B6];exact List.mem_map_of_mem hz
   have:=hidx z.toNat (Ur h hp hz');simp only[Function.comp_apply,this];omega
  ·simp only[List.map_cons,CR,DQ,h2];congr 1;have hk:k∈Ak l k:=by rw[AW h];simp
   have h3:=hidx k hk;have h4:=S2 h hnk;omega
theorem O3 {l:List Nd} (h:AR l) {i:Nat} (hn:(Ak l i).Nodup):
  BH l i=G2 0 ((Ab l i).map (BH l))++[{An l i with kids:=CR 0 ((Ab l i).map (BH l))}]:=by
 have e:=AW h i;obtain⟨h1,h2⟩:=Lj h (Ak l i) hn (Ab l i) [] [i] (by simpa using e);simp only[List.length_nil]at h1 h2
 have h3:(An l i).kids.map (fun k=>((Ak l i).idxOf k.toNat:Int))=CR 0 ((Ab l i).map (BH l)):=by
  rw[<-h2,B6,List.map_map];rfl
 refine(congrArg (List.map fun p=>AB (Ak l i) (An l p)) e).trans ?_;rw[List.map_append,h1,<-h3];rfl
open Go.RowKit
section
variable {F:Fence} {n:Nat} {P:Program}
theorem N0 (W:World) (l:Nat) (o o':Obj) (h:l<W.heap.size):(W.alloc o).putObj l o'=(W.putObj l o').alloc o:=by
 simp only[World.putObj,World.alloc]
 have e:(W.heap.push o).setIfInBounds l o'=(W.heap.setIfInBounds l o').push o:=by
  apply Array.ext
  ·simp
  ·intro i h1 h2;rw[Array.getElem_setIfInBounds (by simpa using h1),Array.getElem_push,Array.getElem_push];simp only[Array.size_setIfInBounds];by_cases hi:i<W.heap.size
   ·simp[hi,Array.getElem_setIfInBounds]
   ·have:l≠i:=by omega
    simp[hi,this]
 rw[e]
theorem Iw {α:Type} {g:Operand} {ps:Array Tmp} {assign body:Code} {Q:Exit->Act->World->Prop} {a:Act} {w:World}
  (hro:F.round=none) (h1:1<=n) {gf:Nat} {lb:Array Value} (hg:a.eval g=.func (.func gf) #[] lb) (hFg:F.fn gf) (eg:∀args w,(callFunc gf args).run P w=.ok (.enter gf args) w)
  {encs:α->Array Value} {At:List α×α->Prop} {Kp:World->World->Prop} {S:List α->Prop} (hseq:Xq F (n-1) P gf lb encs At Kp S w)
  (hKt:∀{A B C:World},Kp A B->Kp B C->Kp A C) (hKl:∀(W:World) (l:Nat) (o o':Obj),KC o=true->W.heap[l]?=some o->Kp W (W.putObj l o')) (hps:∀x,(encs x).size=ps.size)
  (I:List α->World->Prop) (Ix:Code->List α->World->Prop) (hI:OwnFrom w.heap.size I) (hIx:∀c,OwnFrom w.heap.size (Ix c)) (h0:I [] w) (ob:α->Obj) (a₁:α->Nat->Act)
  (hassign:∀(l:Nat) (x:α) (W:World) (K:Act->World->Prop),K (a₁ x W.heap.size) (W.alloc (ob x)) ->
   assign.wpIn (F.inRound l) (n-1-1) P (Exit.then K (fun _ _ _=>False)) {tmps:=(ps.zip (encs x)).foldl (fun t (p,v)=>t.setIfInBounds p v) a.tmps,defers:=[]} W)
  (hbody:∀(l:Nat) (pre:List α) (x:α) (W0 W:World),I pre W0->Below W0.heap.size W0 W->At (pre,x)->body.wpIn (F.inRound l) (n-1-1) P (X7 w.heap.size Kp I Ix (pre++[x]) W0 W) (a₁ x W.heap.size) (W.alloc (ob x)))
  (hdone:∀(D:Nat) (xs:List α) (W:World),w.heap.size<=D->S xs->I xs W->W.heap[D]?=some (.deferred (some []))->Q .normal {a with defers:={target:=.collected D,args:= #[]}::a.defers} W)
  (hstop:∀(D:Nat) (c:Code) (pre:List α) (W:World),w.heap.size<=D->Ix c pre W->W.heap[D]?=some (.deferred (some []))->c.wpIn F n P Q {a with defers:={target:=.collected D,args:= #[]}::a.defers} W):
  (Code.rangeFunc g ps assign body).wpIn F n P Q a w:=by
 refine wpIn_rangeFunc ?_;intro fn hfn;rw[hro];obtain⟨rec,hrec⟩:∃rec:LoopState->Option Code->Loop,rec=fun st pe=>{state:=st,pending:=pe,fn,tmps:=a.tmps,params:=ps,assign,body,defers:=w.heap.size}:=⟨_,rfl⟩
 obtain⟨W1,hW1⟩:∃W1,(w.alloc (.deferred (some []))).alloc (.loop (rec .ready none))=W1:=⟨_,rfl⟩
 have hL1:W1.heap[w.heap.size+1]?=some (.loop (rec .ready none)):=by
  rw[<-hW1];have:=World.alloc_heap_new (w.alloc (.deferred (some []))) (.loop (rec .ready none));rwa [World.size_alloc]at this
 have hK1:W1.heap[w.heap.size]?=some (.deferred (some [])):=by
  rw[<-hW1];exact(Below.heap_alloc _ _ _ (by simp)).trans (World.alloc_heap_new w _)
 have hI1:I [] W1:=by rw[<-hW1];exact hI.alloc _ (hI.alloc _ h0)
 have hb1:Below w.heap.size w W1:=by rw[<-hW1];exact((Below.refl _ w).alloc (Nat.le_refl _) _).alloc (by simp) _
 have hlt:∀{W:World} {st:LoopState} {pe:Option Code},W.heap[w.heap.size+1]?=some (.loop (rec st pe))->w.heap.size+1<W.heap.size:=fun hl=>(Array.getElem?_eq_some_iff.1 hl).1
 refine⟨w.heap.size+1,[{target:=.collected w.heap.size,args:= #[]}],W1,{target:=.fn (.func gf) lb,args:= #[.func (.yield (w.heap.size+1)) #[] #[]]},W1,gf,
  #[.func (.yield (w.heap.size+1)) #[] #[]]++lb,W1,?_,?_,?_,?_,fun _=>h1,?_⟩
 ·rw[<-hW1,hrec];exact run_enterLoop_outer _ _ _ _ _
 ·simp only[resolve,hg];simp[go_sem]
 ·intro f' hf';simp[Target.leads]at hf';subst hf';exact hFg
 ·simp[invoke,go_sem,eg]
 ·refine(hseq (w.heap.size+1)
   (fun pre W=>I pre W/\W.heap[w.heap.size+1]?=some (.loop (rec .ready none))/\W.heap[w.heap.size]?=some (.deferred (some [])))
   (fun pre W=>∃c,Ix c pre W/\W.heap[w.heap.size+1]?=some (.loop (rec .done (some c)))/\W.heap[w.heap.size]?=some (.deferred (some [])))
   W1 hb1
   (fun s A B hs hb=>⟨hI s A B none hs.1 ⟨hb.os,hb.tape,hb.output,hb.size,fun k hk _=>hb.block k hk⟩ (fun r e=>by cases e),(hb.block _ (hlt hs.2.1)).trans hs.2.1,(hb.block _ (by have:=hlt hs.2.1;omega)).trans hs.2.2⟩)
   (fun s A B hs hb=>by
    obtain⟨c,hc,hl,hk⟩:=hs;exact⟨c,hIx c s A B none hc ⟨hb.os,hb.tape,hb.output,hb.size,fun k hk _=>hb.block k hk⟩ (fun r e=>by cases e),(hb.block _ (hlt hl)).trans hl,(hb.block _ (by have:=hlt hl;omega)).trans hk⟩)
   ?_ ⟨hI1,hL1,hK1⟩).mono ?_
  ·rintro pre x W0 W ⟨hi,hl0,hk0⟩ hb hat;have hl:W.heap[w.heap.size+1]?=some (.loop (rec .ready none)):=(hb.block _ (hlt hl0)).trans hl0;have hk:W.heap[w.heap.size]?=some (.deferred (some [])):=(hb.block _ (by have:=hlt hl0;omega)).trans hk0;have hlt0:=hlt hl0;have hlt1:=hlt hl;have hy:=run_yield (P:=P) (args:=encs x) hl (by rw[hrec];exact hps x);rw[hrec]at hy;refine⟨fn,_,assign,body,hy,roundIn_of_wpIn hfn (hassign _ x W _ ⟨_,run_beginRound (show(W.alloc (ob x)).heap[w.heap.size+1]?=_ from(Below.heap_alloc _ _ _ hlt1).trans hl) (by rw[hrec]),?_⟩)⟩;rw[N0 W _ _ _ hlt1];have hzz:(W.putObj (w.heap.size+1) (.loop {rec .ready none with state:=.busy})).heap.size=W.heap.size:=by simp[World.putObj]
   have hl2:(W.putObj (w.heap.size+1) (.loop {rec .ready none with state:=.busy})).heap[w.heap.size+1]?=some (.loop {rec .ready none with state:=.busy}):=World.putObj_heap_same hlt1;have hk2:(W.putObj (w.heap.size+1) (.loop {rec .ready none with state:=.busy})).heap[w.heap.size]?=some (.deferred (some [])):=(World.putObj_heap_other (by omega)).trans hk;rw[<-hzz];refine wpIn_mono (hbody _ pre x (W0.putObj (w.heap.size+1) (.loop {rec .ready none with state:=.busy})) _ (hI.putObj _ hi (by omega) hl0 rfl) (QE hb hlt0) hat) ?_;have hw2:Kp W (W.putObj (w.heap.size+1) (.loop {rec .ready none with state:=.busy})):=hKl _ _ _ _ rfl hl
   have fin:∀(jump:Option Code) (W3:World),KeepsFrom w.heap.size (W.putObj (w.heap.size+1) (.loop {rec .ready none with state:=.busy})) W3 ->
     (Instr.endRound (w.heap.size+1) jump).run P W3=.ok (.bool jump.isNone) (W3.putObj (w.heap.size+1) (.loop (rec (if jump.isNone then .ready else .done) jump))) /\
     W3.heap[w.heap.size+1]?=some (.loop {rec .ready none with state:=.busy}) /\
     (W3.putObj (w.heap.size+1) (.loop (rec (if jump.isNone then .ready else .done) jump))).heap[w.heap.size+1]?=some (.loop (rec (if jump.isNone then .ready else .done) jump)) /\
     (W3.putObj (w.heap.size+1) (.loop (rec (if jump.isNone then .ready else .done) jump))).heap[w.heap.size]?=some (.deferred (some [])):=fun jump W3 hk3=>by
    have hl3:=hk3.same _ _ (by omega) hl2 rfl;have:=run_endRound (P:=P) jump hl3;rw[hrec]at this ⊢;exact⟨this,by rw[hrec]at hl3;exact hl3,World.putObj_heap_same (Array.getElem?_eq_some_iff.1 hl3).1,(World.putObj_heap_other (by omega)).trans (hk3.same _ _ (Nat.le_refl _) hk2 rfl)⟩
   rintro e a3 W3 hp;cases e with
   |normal=>
    obtain⟨hk3,hkp3,hnw3,hi3⟩:=hp;obtain⟨hr,hl3,hl4,hk4⟩:=fin none W3 hk3;refine⟨_,_,hr,.inl ⟨rfl,⟨hI.putObj _ hi3 (by omega) hl3 rfl,hl4,hk4⟩,hKt (hKt hw2 hkp3) (hKl _ _ _ _ rfl hl3),fun k hk1 hk2=> ?_⟩⟩;have e0:(W0.putObj (w.heap.size+1) (.loop {rec .ready none with state:=.busy})).heap.size=W0.heap.size:=by simp[World.putObj]
    have e1:(W.putObj (w.heap.size+1) (.loop {rec .ready none with state:=.busy})).heap.size=W.heap.size:=by simp[World.putObj]
    rw[World.putObj_heap_other (show k≠w.heap.size+1 by omega),hnw3 k (by rw[e0];exact hk1) (by rw[e1];exact hk2),World.putObj_heap_other (show k≠w.heap.size+1 by omega)]
   |ret=>
    obtain⟨hk3,hi3⟩:=hp;obtain⟨hr,hl3,hl4,hk4⟩:=fin (some .ret) W3 hk3;exact⟨_,_,hr,.inr ⟨rfl,.ret,(hIx _).putObj _ hi3 (by omega) hl3 rfl,hl4,hk4⟩⟩
   |exit id=>
    obtain⟨hk3,hi3⟩:=hp;obtain⟨hr,hl3,hl4,hk4⟩:=fin (some (.exit id)) W3 hk3;exact⟨_,_,hr,.inr ⟨rfl,.exit id,(hIx _).putObj _ hi3 (by omega) hl3 rfl,hl4,hk4⟩⟩
   |goto t=>
    obtain⟨hk3,hi3⟩:=hp;obtain⟨hr,hl3,hl4,hk4⟩:=fin (some (.goto t)) W3 hk3;exact⟨_,_,hr,.inr ⟨rfl,.goto t,(hIx _).putObj _ hi3 (by omega) hl3 rfl,hl4,hk4⟩⟩
   |panic ch=>exact hp.elim
   |outgrown=>exact hp.elim
  ·rintro e W2 ⟨⟨v,rfl⟩,(⟨xs,hS2,hi,hl,hk⟩|⟨pre,c,hi,hl,hk⟩)⟩
   ·exact⟨none,_,by have:=run_endLoop (P:=P) hl (by rw[hrec];simp);rw[hrec]at this;exact this,hdone _ xs _ (Nat.le_refl _) hS2 (hI.putObj _ hi (by omega) hl rfl) ((World.putObj_heap_other (by omega)).trans hk)⟩
   ·exact⟨some c,_,by have:=run_endLoop (P:=P) hl (by rw[hrec];simp);rw[hrec]at this;exact this,hstop _ c pre _ (Nat.le_refl _) ((hIx c).putObj _ hi (by omega) hl rfl) ((World.putObj_heap_other (by omega)).trans hk)⟩
end
theorem PY (l m:List Int) (A B:Option Addr) (c d:Nat) (S T:Nat->Prop) (w:World) (hA:Az.row w S A l) (hB:Az.row w T B m) (hl:l.length<=281474976710656) (hm:m.length<=281474976710656):
  Calls Tryz.prog 55 #[.slice A l.length c,.slice B m.length d] w fun e w'=>e=.returned (.bool (decide (l=m)))/\ ∃q,w'=w.drewN q:=by
 by_cases hlm:l.length=m.length
 ·by_cases h0:0<l.length
  ·obtain⟨b1,o1,rfl,h1⟩:=Xl hA h0;obtain⟨b2,o2,rfl,h2⟩:=Xl hB (by omega);refine(Tryz.slices_Equal_int b1 o1 l.length c b2 o2 m.length d l m w (Nat.le_refl _) (Nat.le_refl _) (by omega) (by omega) h1 h2).mono fun e w' ⟨he,hw⟩=>⟨?_,hw⟩
   rw[he,List.take_length,List.take_length];congr 2;rw[Bool.eq_iff_iff];simp
  ·have e1:l=[]:=List.eq_nil_of_length_eq_zero (by omega);have e2:m=[]:=List.eq_nil_of_length_eq_zero (by omega);subst e1 e2;exact(Tryz.slices_Equal_int_empty A B c 0 d w (by omega)).mono fun e w' ⟨he,hw⟩=>⟨by rw[he];rfl,0,hw⟩
 ·exact(Tryz.slices_Equal_int_lens A B l.length c m.length d w hlm).mono fun e w' ⟨he,hw⟩=>⟨by rw[he,decide_eq_false (fun e=>hlm (by rw[e]))],0,hw⟩
set_option maxRecDepth 100000 in
set_option maxHeartbeats 1600000 in
theorem Lk (a b:Nd) (A B:Option Addr) (c d:Nat) (S T:Nat->Prop) (w:World) (hA:Az.row w S A a.kids) (hB:Az.row w T B b.kids) (hl:a.kids.length<=281474976710656) (hm:b.kids.length<=281474976710656):
  Calls Tryz.prog 32 #[ndV a (.slice A a.kids.length c),ndV b (.slice B b.kids.length d)] w fun e w'=>e=.returned (.bool (decide (a=b)))/\Below w.heap.size w w':=by
 obtain⟨ak,a0,a1,a2,a3,at',an,ax,al⟩:=a;obtain⟨bk,b0,b1,b2,b3,bt,bn,bx,bl⟩:=b;simp only at hA hB hl hm ⊢;have hE:=fun w=>Dg w a0 a1 a2 a3 b0 b1 b2 b3
 by_cases h1:ak=bk
 ·have e1:(ak==bk)=true:=by simp[h1]
  by_cases h2:a0=b0/\a1=b1/\a2=b2/\a3=b3
  ·rw[decide_eq_true h2]at hE;by_cases h3:at'=bt
   ·have e3:(at'.toList==bt.toList)=true:=by simp[h3]
    by_cases h4:an=bn
    ·have e4:(an==bn)=true:=by simp[h4]
     by_cases h5:ax=bx
     ·have e5:(ax==bx)=true:=by simp[h5]
      have H:=qd (show decide ((⟨ak,a0,a1,a2,a3,at',an,ax,al⟩:Nd)=⟨bk,b0,b1,b2,b3,bt,bn,bx,bl⟩)=decide (al=bl)by
       obtain⟨h21,h22,h23,h24⟩:=h2;subst h1 h21 h22 h23 h24 h3 h4 h5;simp)
      clear h1 h2 h3 h4 h5;go_enter Tryz.func32,Tryz.ntmps32
      go_wp2_with (go_at_call 55;refine(PY al bl A B c d S T _ (hA.below (bx2 w _ _)) (hB.below (bx2 w _ _)) hl hm).mono ?_;rintro e w' ⟨rfl,q,rfl⟩)
      go_ret;exact⟨Aj H.out.symm,Below.drewN'' (bx2 w _ _) _⟩
     ·have e5:(ax==bx)=false:=by simpa using h5
      have H:=qd (show decide ((⟨ak,a0,a1,a2,a3,at',an,ax,al⟩:Nd)=⟨bk,b0,b1,b2,b3,bt,bn,bx,bl⟩)=false from decide_eq_false (fun e=>h5 (congrArg Nd.mx e)));clear h1 h2 h3 h4 h5;go_enter Tryz.func32,Tryz.ntmps32
      go_wp2_with fail
      go_ret;exact⟨Aj H.out.symm,bx2 w _ _⟩
    ·have e4:(an==bn)=false:=by simpa using h4
     have H:=qd (show decide ((⟨ak,a0,a1,a2,a3,at',an,ax,al⟩:Nd)=⟨bk,b0,b1,b2,b3,bt,bn,bx,bl⟩)=false from decide_eq_false (fun e=>h4 (congrArg Nd.mn e)));clear h1 h2 h3 h4;go_enter Tryz.func32,Tryz.ntmps32
     go_wp2_with fail
     go_ret;exact⟨Aj H.out.symm,bx2 w _ _⟩
   ·have e3:(at'.toList==bt.toList)=false:=by
     rw[beq_eq_false_iff_ne];intro e;rw[Lib.toList_data,Lib.toList_data]at e;exact h3 (WZ e)
    have H:=qd (show decide ((⟨ak,a0,a1,a2,a3,at',an,ax,al⟩:Nd)=⟨bk,b0,b1,b2,b3,bt,bn,bx,bl⟩)=false from decide_eq_false (fun e=>h3 (congrArg Nd.text e)));clear h1 h2 h3;go_enter Tryz.func32,Tryz.ntmps32
    go_wp2_with fail
    go_ret;exact⟨Aj H.out.symm,bx2 w _ _⟩
  ·rw[decide_eq_false h2]at hE;have H:=qd (show decide ((⟨ak,a0,a1,a2,a3,at',an,ax,al⟩:Nd)=⟨bk,b0,b1,b2,b3,bt,bn,bx,bl⟩)=false from decide_eq_false (fun e=>h2 ⟨congrArg Nd.s0 e,congrArg Nd.s1 e,congrArg Nd.s2 e,congrArg Nd.s3 e⟩));clear h1 h2;go_enter Tryz.func32,Tryz.ntmps32
   go_wp2_with fail
   go_ret;exact⟨Aj H.out.symm,bx2 w _ _⟩
 ·have e1:(ak==bk)=false:=by simpa using h1
  have H:=qd (show decide ((⟨ak,a0,a1,a2,a3,at',an,ax,al⟩:Nd)=⟨bk,b0,b1,b2,b3,bt,bn,bx,bl⟩)=false from decide_eq_false (fun e=>h1 (congrArg Nd.kind e)));clear h1;go_enter Tryz.func32,Tryz.ntmps32
  go_wp2_with fail
  go_ret;exact⟨Aj H.out.symm,bx2 w _ _⟩
set_option maxRecDepth 100000 in
set_option maxHeartbeats 1600000 in
theorem O4 (ls ms:List Ln) (A B:Option Addr) (c d:Nat) (S T:Nat->Prop) (w:World) (hA:ndL.row w S A ls) (hB:ndL.row w T B ms) (hl:ls.length<=281474976710656) (hm:ms.length<=281474976710656):
  Calls Tryz.prog 30 #[.slice A ls.length c,.slice B ms.length d,.func (.func 32) #[] #[]] w fun e w'=>e=.returned (.bool (decide (ls.map Ln.nd=ms.map Ln.nd)))/\Below w.heap.size w w':=by
 have HTA:=qd hA;have HTB:=qd hB;clear hA hB;by_cases hlm:ls.length=ms.length
 ·have e1:((ls.length:Int) != (ms.length:Int))=false:=by simp[hlm]
  have HLM:=qd hlm;clear hlm;go_enter Tryz.func30,Tryz.ntmps30
  go_wp2_with fail
  clear e1;go_loopw [17] (fun i wr=>∃k:Nat,k<=ls.length/\i=.int .i64 k/\Hid ((ls.map Ln.nd).take k=(ms.map Ln.nd).take k)/\Hid (Below w.heap.size w wr)) (fun i _=>ls.length-(intOf i).toNat)
  case atStart=>exact⟨0,by omega,rfl,qd (by simp),qd (Below.refl _ _)⟩
  case round=>
   obtain⟨k,hk,rfl,HE,HB⟩:=hrel;by_cases hlt:k<ls.length
   ·have hlt2:k<ms.length:=by have:=HLM.out;omega
    have HA':=qd (HTA.out.agree (AF HB.out));have HB':=qd (HTB.out.agree (AF HB.out));have HWA:=qd (Mb HA'.out k hlt);have HWB:=qd (Mb HB'.out k hlt2);have HKA:=qd (EX HA'.out k hlt);have HKB:=qd (EX HB'.out k hlt2);obtain⟨b,o,rfl,_,_,x0,x1,x2,x3,x4,x5,x6,x7,x8⟩:=D3 HA'.out k hlt;obtain⟨b',o',rfl,_,hbl,y0,y1,y2,y3,y4,y5,y6,y7,y8⟩:=D3 HB'.out k hlt2;have i1:(k:Int)<(ls.length:Int):=by omega
    have i2:(k:Int)<(ms.length:Int):=by omega
    have HNX:=qd (show(ls.map Ln.nd).take (k+1)=(ls.map Ln.nd).take k++[ls[k].nd]by rw[List.take_succ_eq_append_getElem (by simpa using hlt)];simp);have HNY:=qd (show(ms.map Ln.nd).take (k+1)=(ms.map Ln.nd).take k++[ms[k].nd]by rw[List.take_succ_eq_append_getElem (by simpa using hlt2)];simp)
    have HNE:=qd (show ls[k].nd≠ms[k].nd->decide (ls.map Ln.nd=ms.map Ln.nd)=false from fun h=>decide_eq_false (fun e=>h (by
     have h1:(ls.map Ln.nd)[k]?=(ms.map Ln.nd)[k]? :=by rw[e]
     simpa[hlt,hlt2]using h1)))
    cases hs:decide (ls[k].nd=ms[k].nd)
    ·have HX:=qd (HNE.out (of_decide_eq_false hs));go_wp2_with (go_at_call 32;refine(Lk ls[k].nd ms[k].nd ls[k].A ms[k].A ls[k].c ms[k].c S T _ (HKA.out.below (bx2 _ _ _)) (HKB.out.below (bx2 _ _ _)) HWA.out.2.2.1 HWB.out.2.2.1).mono ?_;rintro e w' ⟨rfl,hb⟩)
     go_ret;exact⟨Aj HX.out.symm,(HB.out.trans ((bx2 wr _ _).mono HB.out.size)).trans (hb.mono (by have:=HB.out.size;simp;omega))⟩
    ·have HX:=qd (show(ls.map Ln.nd).take (k+1)=(ms.map Ln.nd).take (k+1)by rw[HNX.out,HNY.out,HE.out,of_decide_eq_true hs]);go_wp2_with (go_at_call 32;refine(Lk ls[k].nd ms[k].nd ls[k].A ms[k].A ls[k].c ms[k].c S T _ (HKA.out.below (bx2 _ _ _)) (HKB.out.below (bx2 _ _ _)) HWA.out.2.2.1 HWB.out.2.2.1).mono ?_;rintro e w' ⟨rfl,hb⟩)
     exact⟨⟨k+1,by omega,by go_num,HX,qd ((HB.out.trans ((bx2 wr _ _).mono HB.out.size)).trans (hb.mono (by have:=HB.out.size;simp;omega)))⟩,by simp[intOf];omega⟩
   ·have HX:=qd (show decide (ls.map Ln.nd=ms.map Ln.nd)=true from decide_eq_true (by
     have h:=HE.out;rwa [List.take_of_length_le (by simp;omega),List.take_of_length_le (by have:=HLM.out;simp;omega)]at h))
    go_wp2_with fail
    go_ret;exact⟨Aj HX.out.symm,HB.out⟩
 ·have e1:((ls.length:Int) != (ms.length:Int))=true:=by simp;omega
  have HX:=qd (show decide (ls.map Ln.nd=ms.map Ln.nd)=false from decide_eq_false (fun e=>hlm (by have:=congrArg List.length e;simpa using this)));clear hlm;go_enter Tryz.func30,Tryz.ntmps30
  go_wp2_with fail
  go_ret;exact⟨Aj HX.out.symm,Below.refl _ _⟩
attribute [local go_sem] GE
set_option maxRecDepth 100000 in
set_option maxHeartbeats 3200000 in
theorem S3 (A B:Option Addr) (c d:Nat) (ls ms:List Ln) (ra rb:Int) (S T:Nat->Prop) (w:World) (hA:ndL.row w S A ls) (hB:ndL.row w T B ms) (hl:ls.length<=4294967296) (hm:ms.length<=4294967296) (ht:CntTab w):
  Calls Tryz.prog 10 #[.agg #[.slice A ls.length c,.int .i64 ra],.agg #[.slice B ms.length d,.int .i64 rb]] w fun e w'=>e=.returned (.bool (Dy ⟨ls.map Ln.nd,ra⟩ ⟨ms.map Ln.nd,rb⟩))/\Below w.heap.size w w':=by
 have HTA:=qd hA;have HTB:=qd hB;clear hA hB;have HC:=qd ht;clear ht;by_cases hlm:ls.length=ms.length
 ·have e1:((ls.length:Int) != (ms.length:Int))=false:=by simp[hlm]
  have HLM:=qd hlm;clear hlm;cases hra:AA ⟨ls.map Ln.nd,ra⟩
  ·have HX:=qd (Mc (b:=⟨ms.map Ln.nd,rb⟩) hra);go_enter Tryz.func10,Tryz.ntmps10
   go_wp2_with (go_at_call 17;refine(Dl A c ls ra S _ (HTA.out.below (bx2 w _ _)) (by omega) (HC.out.below (bx2 w _ _))).mono ?_;rintro e w1 ⟨rfl,hb1⟩)
   go_ret;exact⟨Aj HX.out.symm,Below.step (bx2 w _ _) hb1⟩
  ·cases hrb:AA ⟨ms.map Ln.nd,rb⟩
   ·have HX:=qd (Lf (a:=⟨ls.map Ln.nd,ra⟩) hrb);go_enter Tryz.func10,Tryz.ntmps10
    go_wp2_with fail
    refine(Dl A c ls ra S _ (HTA.out.below (bx2 w _ _)) (by omega) (HC.out.below (bx2 w _ _))).mono ?_;rintro e w1 ⟨rfl,hb1⟩;have HB1:=qd hb1;obtain⟨k1,k2⟩:=Px hb1;obtain⟨q1,q2,_,_⟩:=Bd k1;obtain⟨q3,q4,_,_⟩:=Bd k2;have HBB:=qd (Below.step (bx2 w _ _) hb1);clear hb1 k1 k2;go_wp2_with fail
    refine(Dl B d ms rb T _ (HTB.out.below HBB.out) (by omega) (HC.out.below HBB.out)).mono ?_;rintro e w2 ⟨rfl,hb2⟩;go_wp2_with fail
    go_ret;exact⟨Aj HX.out.symm,Below.step HBB.out hb2⟩
   ·have HX:=qd (S0 hra hrb);have HPA:=qd ((AM _).1 hra);have HPB:=qd ((AM _).1 hrb);have hr1:=HPA.out.1;have hr2:=HPB.out.1;simp only[List.length_map]at hr1 hr2;obtain⟨na,rfl⟩:=Int.eq_ofNat_of_zero_le hr1.1;obtain⟨nb,rfl⟩:=Int.eq_ofNat_of_zero_le hr2.1;have hna:na<ls.length:=by omega
    have hnb:nb<ms.length:=by omega
    clear hr1 hr2;go_enter Tryz.func10,Tryz.ntmps10
    go_wp2_with fail
    refine(Dl A c ls na S _ (HTA.out.below (bx2 w _ _)) (by omega) (HC.out.below (bx2 w _ _))).mono ?_;rintro e w1 ⟨rfl,hb1⟩;obtain⟨k1,k2⟩:=Px hb1;obtain⟨q1,q2,_,_⟩:=Bd k1;obtain⟨q3,q4,_,_⟩:=Bd k2;have HBB:=qd (Below.step (bx2 w _ _) hb1);have HK1:=qd k1;have HK2:=qd k2;clear hb1 k1 k2;go_wp2_with fail
    clear q1 q2 q3 q4;refine(Dl B d ms nb T _ (HTB.out.below HBB.out) (by omega) (HC.out.below HBB.out)).mono ?_;rintro e w2 ⟨rfl,hb2⟩;have HB2:=qd (Below.step HBB.out hb2);have HK3:=qd (Ae hb2 HK1.out);have HK4:=qd (Ae hb2 HK2.out);clear hb2 HK1 HK2 HBB;go_wp2_with fail
    have HSZ:=qd (show w.heap.size+1<w2.heap.size from Av HK4.out)
    have HSB:=qd (show ∀w',Below w2.heap.size w2 w'->(w'.cell? ⟨w.heap.size,0,none⟩=some (.slice A ls.length c)/\w'.cell? ⟨w.heap.size,1,none⟩=some (.int .i64 (na:Int)))/\w'.cell? ⟨w.heap.size+1,0,none⟩=some (.slice B ms.length d)/\w'.cell? ⟨w.heap.size+1,1,none⟩=some (.int .i64 (nb:Int))from fun w' hb=>by
     obtain⟨p1,p2,_,_⟩:=Bd (Ae hb HK3.out);obtain⟨p3,p4,_,_⟩:=Bd (Ae hb HK4.out);exact⟨⟨p1,p2⟩,p3,p4⟩)
    go_region_held3 (fun w'=>(w'.cell? ⟨w.heap.size,0,none⟩=some (.slice A ls.length c)/\w'.cell? ⟨w.heap.size,1,none⟩=some (.int .i64 (na:Int)))/\w'.cell? ⟨w.heap.size+1,0,none⟩=some (.slice B ms.length d)/\w'.cell? ⟨w.heap.size+1,1,none⟩=some (.int .i64 (nb:Int)))
     (first|exact HSB.out _ (Below.refl _ _).drew|exact HSB.out _ HB3.out|exact HSB.out _ HB4.out|exact HSB.out _ HB5.out)
     (first
      |((go_at_call 31;(with_reducible refine(M4 A c ls na na S _ (HTA.out.below (Below.drew HB2.out)) hl HPA.out hna).mono ?_));intro e w3 h3;obtain⟨A1,c1,l1,r1,rfl,hva,hoa,hba⟩:=TreePost.out h3;clear h3;have HVA:=qd (And.intro hva hoa);have HB3:=qd (show Below w2.heap.size w2 w3 from(Below.refl _ w2).drew.trans hba);clear hva hoa hba)
      |((go_at_call 31;(with_reducible refine(M4 B d ms nb nb T _ (HTB.out.below (Below.step HB2.out HB3.out)) hm HPB.out hnb).mono ?_));intro e w4 h4;obtain⟨A2,c2,l2,r2,rfl,hvb,hob,hbb⟩:=TreePost.out h4;clear h4;have HVB:=qd (And.intro hvb hob);have HVA':=qd (HVA.out.2.below hbb);have HB4:=qd (show Below w2.heap.size w2 w4 from Below.step HB3.out hbb);clear hvb hob hbb)
      |((go_at_call 30;(have c67:=O4 l1 l2 A1 A2 c1 c2 _ _ _ HVA'.out.inn.2 HVB.out.2.inn.2 HVA'.out.len HVB.out.2.len);go_loud (refine c67.mono ?_));rintro e w5 ⟨rfl,hb5⟩;have HB5:=qd (show Below w2.heap.size w2 w5 from Below.step HB4.out hb5);clear hb5))
    go_wp2_with fail
    go_ret;refine⟨Aj ?_,Below.step HB2.out HB5.out⟩;rw[HX.out];have e1:=congrArg Tr.nodes HVA.out.1;have e2:=congrArg Tr.nodes HVB.out.1;simp only[Lt.tr,EV]at e1 e2;rw[e1,e2];rfl
 ·have e1:((ls.length:Int) != (ms.length:Int))=true:=by simp;omega
  have HX:=qd (show Dy ⟨ls.map Ln.nd,ra⟩ ⟨ms.map Ln.nd,rb⟩=false by
   cases h:Dy ⟨ls.map Ln.nd,ra⟩ ⟨ms.map Ln.nd,rb⟩
   ·rfl
   ·have:=Nu h;simp at this;exact absurd this hlm)
  clear hlm;go_enter Tryz.func10,Tryz.ntmps10
  go_wp2_with fail
  go_ret;exact⟨Aj HX.out.symm,bx2 w _ _⟩
