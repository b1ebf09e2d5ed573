/- Blocks and rows of trees and grammars in memory. Facts of trees and rules in memory that more than one layer needs; the contracts of tree.leaf and tree.Text. -/
import Derived.Test.YtpfokabdpmjobaaGreatDoorDn
import Derived.WalkSpells
import Derived.Deep.RegionHeld3
import Derived.Deep.Cut
import Derived.BigQuiet
namespace Go.Proofs.YtpfokabdpmjobaaGreatDoor
open Go.RowKit
set_option linter.unusedSimpArgs false
set_option linter.unusedVariables false
theorem Below.drewN'' {B:Nat} {a w:World} (h:Below B a w) (n:Nat):Below B a (w.drewN n):=by
 induction n generalizing w with
 |zero=>exact h
 |succ n ih=>exact(ih h).drew
theorem intAt {w:World} {S:Nat→Prop} {A:Option Addr} {l:List Int} (h:intL.row w S A l) (hl:0<l.length):∃b o,A=some ⟨b,o,none⟩∧ ∀j,j<l.length→w.cell? ⟨b,o+j,none⟩=some (.int .i64 (l.getD j 0)):=by
 obtain⟨b,o,rfl,_⟩:=intRow h 0 hl
 refine⟨b,o,rfl,fun j hj=> ?_⟩
 obtain⟨b',o',e,_,_,hc⟩:=intRow h j hj
 cases e
 rw[hc];simp[List.getD,hj]
set_option maxRecDepth 100000 in
theorem field_nodes (w:World) (A:Option Addr) (n c:Nat) (r:Int):(Instr.field 40 (.agg #[.slice A n c,.int .i64 r]) 0).run Tryz.prog w=.ok (.slice A n c) w:=by
 kernel_rfl
theorem TreePost.out {t:Tr} {w w':World} {e:Ending} (h:TreePost t w e w'):∃(A:Option Addr) (c:Nat) (ls:List Ln) (r:Int),e=.returned (.agg #[.slice A ls.length c,.int .i64 r])∧Lt.tr ⟨A,c,ls,r⟩=t∧TreeOwn w' (w.heap.size ≤ ·) ⟨A,c,ls,r⟩∧Below w.heap.size w w':=by
 obtain⟨⟨A,c,ls,r⟩,h1,h2,h3,h4⟩:=h
 exact⟨A,c,ls,r,h1,h2,h3,h4⟩
theorem sameT_no_left {a b:Tr} (h:rightT a=false):sameT a b=false:=by simp[sameT,h]
theorem sameT_no_right {a b:Tr} (h:rightT b=false):sameT a b=false:=by simp[sameT,h]
theorem sameT_yes {a b:Tr} (h:rightT a=true) (k:rightT b=true):sameT a b=decide (takenL a.nodes a.root.toNat=takenL b.nodes b.root.toNat):=by simp[sameT,h,k]
theorem own_at9 {w:World} {B g n c:Nat} {ls:List Ln} (h:w.ownsRow B 54 9 (.slice (some ⟨g,0,none⟩) n c) n (ndL.all ls)) (k:Nat) (hk:k<ls.length):
  w.cell? ⟨g,k*9,none⟩=some (.int .u8 ls[k].nd.kind)∧w.cell? ⟨g,k*9+1,none⟩=some (.int .u64 ls[k].nd.s0)∧w.cell? ⟨g,k*9+2,none⟩=some (.int .u64 ls[k].nd.s1)∧w.cell? ⟨g,k*9+3,none⟩=some (.int .u64 ls[k].nd.s2)∧w.cell? ⟨g,k*9+4,none⟩=some (.int .u64 ls[k].nd.s3) ∧
   w.cell? ⟨g,k*9+5,none⟩=some (.string ls[k].nd.text)∧w.cell? ⟨g,k*9+6,none⟩=some (.int .i64 ls[k].nd.mn)∧w.cell? ⟨g,k*9+7,none⟩=some (.int .i64 ls[k].nd.mx)∧w.cell? ⟨g,k*9+8,none⟩=some (.slice ls[k].A ls[k].nd.kids.length ls[k].c):=by
 have hn:n*9=ls.length*9:=by have h1:=h.1;rw[ndL.all_length]at h1;exact h1.symm
 have hc:∀j u,j<9→(ndL.cells ls[k])[j]?=some u→w.cell? ⟨g,k*9+j,none⟩=some u:=fun j u hj hu=>(World.ownsRow.cellAt h (k*9+j) (by omega)).trans ((ndL.all_at ls k j hk hj).trans hu)
 exact⟨hc 0 _ (by decide) rfl,hc 1 _ (by decide) rfl,hc 2 _ (by decide) rfl,hc 3 _ (by decide) rfl,hc 4 _ (by decide) rfl,hc 5 _ (by decide) rfl,hc 6 _ (by decide) rfl,hc 7 _ (by decide) rfl,hc 8 _ (by decide) rfl⟩
theorem all_set8 (l:List Ln) (k:Nat) (hk:k<l.length) (A:Option Addr) (c:Nat):(ndL.all l).set (k*9+8) (.slice A l[k].nd.kids.length c)=ndL.all (l.set k ⟨l[k].nd,A,c⟩):=by
 have hlen:∀m:List Ln,(ndL.all m).length=m.length*9:=fun m=>ndL.all_length m
 apply List.ext_getElem?
 intro i
 by_cases hi:i<l.length*9
 ·have hq:i/9<l.length:=by omega
  have h1:=ndL.all_at (l.set k ⟨l[k].nd,A,c⟩) (i/9) (i%9) (by simpa using hq) (show i%9<9 by omega)
  have h2:=ndL.all_at l (i/9) (i%9) hq (show i%9<9 by omega)
  rw[show i/9*ndL.size+i%9=i by show i/9*9+i%9=i;omega]at h1 h2
  rw[h1,List.getElem?_set]
  by_cases e:k*9+8=i
  ·have e1:i/9=k:=by omega
   have e2:i%9=8:=by omega
   rw[if_pos e,if_pos (by rw[hlen];omega)]
   simp only[e1,e2,List.getElem_set_self]
   rfl
  ·rw[if_neg e,h2]
   by_cases e1:i/9=k
   ·simp only[e1,List.getElem_set_self]
    have h8:i%9<8:=by omega
    have:i%9=0∨i%9=1∨i%9=2∨i%9=3∨i%9=4∨i%9=5∨i%9=6∨i%9=7:=by omega
    rcases this with h|h|h|h|h|h|h|h <;> rw[h] <;> rfl
   ·rw[List.getElem_set_ne (fun h=>e1 h.symm)]
 ·rw[List.getElem?_eq_none (by rw[List.length_set,hlen];omega),List.getElem?_eq_none (by rw[hlen,List.length_set];omega)]
structure GramOwn (w:World) (S:Nat→Prop) (A:Option Addr) (c:Nat) (ds:List Ld):Prop where
 len:ds.length≤281474976710656
 row:OwnS w S 45 3 A ds.length c (dfL.all ds)
 kids:∃Q:Nat→Nat→Prop,(∀i (h:i<ds.length),ds[i].name.size≤281474976710656∧TreeOwn w (Q i) ds[i].t)∧(∀i x,Q i x→S x)∧ ∀i j x,i≠j→Q i x→ ¬Q j x
theorem GramOwn.inn {w:World} {S:Nat→Prop} {A:Option Addr} {c:Nat} {ds:List Ld} (h:GramOwn w S A c ds):dfL.row w S A ds:=by
 obtain⟨Q,h1,h2,_⟩:=h.kids
 refine⟨h.row.row,fun d hd=> ?_⟩
 obtain⟨i,hi,rfl⟩:=List.mem_iff_getElem.1 hd
 exact⟨(h1 i hi).1,((h1 i hi).2.mono (fun x _ hx=>h2 i x hx)).inn⟩
theorem GramOwn.agree {w w':World} {S:Nat→Prop} {A:Option Addr} {c:Nat} {ds:List Ld} (h:GramOwn w S A c ds) (hg:Agree S w w'):GramOwn w' S A c ds:=by
 obtain⟨Q,h1,h2,h3⟩:=h.kids
 exact⟨h.len,h.row.agree hg,Q,fun i hi=>⟨(h1 i hi).1,(h1 i hi).2.agree (hg.mono (fun x _ hx=>h2 i x hx))⟩,h2,h3⟩
theorem GramOwn.mono {w:World} {S T:Nat→Prop} {A:Option Addr} {c:Nat} {ds:List Ld} (h:GramOwn w S A c ds) (hS:∀k,S k→T k):GramOwn w T A c ds:=by
 obtain⟨Q,h1,h2,h3⟩:=h.kids
 exact⟨h.len,h.row.mono (fun k _=>hS k),Q,h1,fun i x hx=>hS x (h2 i x hx),h3⟩
theorem blk1 {w:World} {b:Nat} {x:Value} {T:TypeId} (h:w.heap[b]?=some (.cells #[x] T (0,0))):w.cell? ⟨b,0,none⟩=some x∧w.frozen? ⟨b,0,none⟩=false:=by
 simp[World.cell?,World.frozen?,h]
theorem set_blk1 {w:World} {b:Nat} {x u:Value} {T:TypeId} (h:w.heap[b]?=some (.cells #[x] T (0,0))):(w.setCell ⟨b,0,none⟩ u).heap[b]?=some (.cells #[u] T (0,0)):=by
 have:=heap_setCell_same w b 0 _ T u h
 simpa using this
end Go.Proofs.YtpfokabdpmjobaaGreatDoor
namespace Go.Proofs.YtpfokabdpmjobaaGreatDoor
open Go.RowKit
set_option linter.unusedSimpArgs false
set_option linter.unusedVariables false
theorem own_belowA {w w':World} {base:Nat} {e:TypeId} {size n c:Nat} {V:Option Addr} {xs:List Value} (h:w.ownsRow base e size (.slice V n c) n xs) (hb:Below w.heap.size w w'):w'.ownsRow base e size (.slice V n c) n xs:=
 own_agree h (fun x hx=>hb.block x (own_blk h x hx).2)
section
variable {P:Program} {w:World} {a:Addr} {m:Mode}
theorem run_store_func (f:Fn) (ts cs:Array Value):(store a (.func f ts cs) m).run P w=stored P w a (.func f ts cs) m:=run_store P w a _ m rfl
end
theorem own_new {w:World} {b size:Nat} {cs:List Value} {e:TypeId} (h:w.heap[b]?=some (.cells cs.toArray e (0,0))) (hl:cs.length=size):w.ownsRow b e size (.slice (some ⟨b,0,none⟩) 1 1) 1 cs:=by
 refine⟨by omega,.inr ⟨b,1,cs.toArray,rfl,Nat.le_refl _,h,Nat.le_refl _,by unfold maxLen;omega,by simp[hl],?_⟩⟩
 rw[Nat.one_mul,←hl];simp
theorem tree_one {w:World} {b:Nat} {n:Nd} (hn:n.wf) (hk:n.kids=[]) (h:w.heap[b]?=some (.cells #[.int .u8 n.kind,.int .u64 n.s0,.int .u64 n.s1,.int .u64 n.s2,.int .u64 n.s3,.string n.text,.int .i64 n.mn,.int .i64 n.mx,.slice none 0 0] 54 (0,0))) (r:Int):TreeOwn w (b ≤ ·) ⟨some ⟨b,0,none⟩,1,[⟨n,none,0⟩],r⟩:=by
 refine⟨by simp,own_ownS (B:=b) (by
  have:=own_new (cs:=[.int .u8 n.kind,.int .u64 n.s0,.int .u64 n.s1,.int .u64 n.s2,.int .u64 n.s3,.string n.text,.int .i64 n.mn,.int .i64 n.mx,.slice none 0 0]) (size:=9) h rfl
  have e:ndL.all [⟨n,none,0⟩]=[.int .u8 n.kind,.int .u64 n.s0,.int .u64 n.s1,.int .u64 n.s2,.int .u64 n.s3,.string n.text,.int .i64 n.mn,.int .i64 n.mx,.slice none 0 0]:=by
   rw[ndL.all_one];show[_,_,_,_,_,_,_,_,Value.slice none n.kids.length 0]=_;rw[hk];rfl
  rw[e];exact this),fun l hl=> ?_⟩
 simp only[List.mem_singleton]at hl
 subst hl
 refine⟨hn,?_⟩
 show OwnS w _ _ 1 none n.kids.length 0 (intL.all n.kids)
 rw[hk]
 exact OwnS.nil _ _ _ _
set_option maxRecDepth 100000 in
set_option maxHeartbeats 1600000 in
theorem leaf_any (n:Nd) (w:World) (hn:n.wf) (hk:n.kids=[]):
  Calls Tryz.prog 57 #[.agg #[.int .u8 n.kind,.int .u64 n.s0,.int .u64 n.s1,.int .u64 n.s2,.int .u64 n.s3,.string n.text,.int .i64 n.mn,.int .i64 n.mx,.slice none 0 0]] w fun e w'=>∃b,e=.returned (.agg #[.slice (some ⟨b,0,none⟩) 1 1,.int .i64 0])∧TreeOwn w' (w.heap.size ≤ ·) ⟨some ⟨b,0,none⟩,1,[⟨n,none,0⟩],0⟩∧Below w.heap.size w w':=by
 go_enter Tryz.func57,Tryz.ntmps57
 go_upto_region 1 with(fail)
 have HW:=Lib.hid (bx2 w (.cells #[.int .u8 n.kind,.int .u64 n.s0,.int .u64 n.s1,.int .u64 n.s2,.int .u64 n.s3,.string n.text,.int .i64 n.mn,.int .i64 n.mx,.slice none 0 0] 54) (.cells #[.slice none 0 0,.int .i64 0] 40))
 have HX:=Lib.hid (bx_old (p:=.cells #[.slice none 0 0,.int .i64 0] 40) (bx_new w (.cells #[.int .u8 n.kind,.int .u64 n.s0,.int .u64 n.s1,.int .u64 n.s2,.int .u64 n.s3,.string n.text,.int .i64 n.mn,.int .i64 n.mx,.slice none 0 0] 54)))
 have HT:=Lib.hid (bx_new (w.alloc (.cells #[.int .u8 n.kind,.int .u64 n.s0,.int .u64 n.s1,.int .u64 n.s2,.int .u64 n.s3,.string n.text,.int .i64 n.mn,.int .i64 n.mx,.slice none 0 0] 54)) (.cells #[.slice none 0 0,.int .i64 0] 40))
 have HZ:=Lib.hid (show((w.alloc (.cells #[.int .u8 n.kind,.int .u64 n.s0,.int .u64 n.s1,.int .u64 n.s2,.int .u64 n.s3,.string n.text,.int .i64 n.mn,.int .i64 n.mx,.slice none 0 0] 54)).alloc (.cells #[.slice none 0 0,.int .i64 0] 40)).heap.size=w.heap.size+2 from by simp)
 generalize ((w.alloc (.cells #[.int .u8 n.kind,.int .u64 n.s0,.int .u64 n.s1,.int .u64 n.s2,.int .u64 n.s3,.string n.text,.int .i64 n.mn,.int .i64 n.mx,.slice none 0 0] 54)).alloc (.cells #[.slice none 0 0,.int .i64 0] 40))=W at *
 simp only[World.size_alloc]at HT
 refine wp_region_list ?_
 refine wpList_val rfl (exec_load rfl rfl (load9 W w.heap.size _ _ _ _ _ _ _ _ _ _ HX.out)) ?_
 refine wpList_val rfl (exec_build rfl rfl (build9 W _ _ _ _ _ _ _ _ _)) ?_
 simp only[Act.put,List.setIfInBounds_toArray,List.set_cons_zero,List.set_cons_succ]
 have HN:=Lib.hid (bx_new W (.cells #[.int .u8 n.kind,.int .u64 n.s0,.int .u64 n.s1,.int .u64 n.s2,.int .u64 n.s3,.string n.text,.int .i64 n.mn,.int .i64 n.mx,.slice none 0 0] 54))
 have HW2:=Lib.hid (bx1 W (.cells #[.int .u8 n.kind,.int .u64 n.s0,.int .u64 n.s1,.int .u64 n.s2,.int .u64 n.s3,.string n.text,.int .i64 n.mn,.int .i64 n.mx,.slice none 0 0] 54))
 generalize W.alloc (.cells #[.int .u8 n.kind,.int .u64 n.s0,.int .u64 n.s1,.int .u64 n.s2,.int .u64 n.s3,.string n.text,.int .i64 n.mn,.int .i64 n.mx,.slice none 0 0] 54)=W2 at *
 have HT2:=Lib.hid (bx_kept HW2.out HT.out)
 obtain⟨t1,t2,t3,t4⟩:=blk2 HT2.out
 go_wp2_with fail
 refine bodyPost_ret (v:=.agg #[.slice (some ⟨W.heap.size,0,none⟩) 1 1,.int .i64 0]) (by simp[results,Tryz.results57,go_sem,t1,t2]) rfl ?_
 have hz:=HZ.out
 refine⟨W.heap.size,rfl,((tree_one hn hk HN.out 0).agree (fun x hx _=> ?_)).mono (fun x _ hx=>by have hx:W.heap.size≤x:=hx;show w.heap.size≤x;omega),((Below.step HW.out HW2.out).setCell (p:=⟨w.heap.size+1,0,none⟩) (by simp) _).setCell (p:=⟨w.heap.size+1,1,none⟩) (by simp) _⟩
 have hx:W.heap.size≤x:=hx
 exact(Below.heap_setCell _ _ _ _ (by show x≠w.heap.size+1;omega)).trans (Below.heap_setCell _ _ _ _ (by show x≠w.heap.size+1;omega))
def textLf (s:ByteArray):Nd:=⟨2,0,0,0,0,s,0,0,[]⟩
set_option maxRecDepth 100000 in
set_option maxHeartbeats 1600000 in
theorem text_any (s:ByteArray) (w:World) (hs:s.size≤281474976710656):
  Calls Tryz.prog 34 #[.string s] w fun e w'=>∃b,e=.returned (.agg #[.slice (some ⟨b,0,none⟩) 1 1,.int .i64 0])∧TreeOwn w' (w.heap.size ≤ ·) ⟨some ⟨b,0,none⟩,1,[⟨textLf s,none,0⟩],0⟩∧Below w.heap.size w w':=by
 have HWF:=Lib.hid (show(textLf s).wf from⟨by simp[textLf],hs,by simp[textLf],by simp[textLf,U64],by simp[textLf,U64],by simp[textLf,U64],by simp[textLf,U64]⟩)
 go_enter Tryz.func34,Tryz.ntmps34
 go_wp2_with (go_at_call 57;refine(leaf_any (textLf s) _ HWF.out rfl).mono ?_;rintro e w1 ⟨b,rfl,ht,hb⟩;have HT:=Lib.hid ht;have HB:=Lib.hid hb;obtain⟨t1,t2,t3,t4⟩:=blk2 (bx_kept hb (bx_new w _));clear ht hb)
 refine bodyPost_ret (v:=.agg #[.slice (some ⟨b,0,none⟩) 1 1,.int .i64 0]) (by simp[results,Tryz.results34,go_sem,t1,t2]) rfl ?_
 refine⟨b,rfl,(HT.out.agree (fun x hx _=> ?_)).mono (fun x _ hx=> ?_),((Below.step (bx1 w _) HB.out).setCell (p:=⟨w.heap.size,0,none⟩) (Nat.le_refl _) _).setCell (p:=⟨w.heap.size,1,none⟩) (Nat.le_refl _) _⟩
 ·have hx:(w.alloc _).heap.size≤x:=hx
  rw[World.size_alloc]at hx
  exact(Below.heap_setCell _ _ _ _ (by show x≠w.heap.size;omega)).trans (Below.heap_setCell _ _ _ _ (by show x≠w.heap.size;omega))
 ·have hx:(w.alloc _).heap.size≤x:=hx
  rw[World.size_alloc]at hx
  show w.heap.size≤x;omega
end Go.Proofs.YtpfokabdpmjobaaGreatDoor
