/- Copies of elements of several cells; plain: a tree of a node and its kids; rows of trees. -/
import Derived.Test.YtdnochjajoiooaaDoorDw
namespace Go.Proofs.YtdnochjajoiooaaDoor
open Go.RowKit
set_option linter.unusedSimpArgs false
set_option linter.unusedVariables false
def moveN (by':Int) (n:Nd):Nd:={n with kids:=n.kids.map (· + by')}
theorem moveN_wf {b:Int} {n:Nd} (h:n.wf):(moveN b n).wf:=by
 obtain⟨h1,h2,h3,h4⟩:=h
 exact⟨h1,h2,by simpa[moveN]using h3,h4⟩
def putTs:List Tr→List Nd→List Int→List Nd×List Int
 |[],ar,li=>(ar,li)
 |k::ks,ar,li=>putTs ks (ar++(takenL k.nodes k.root.toNat).map (moveN ar.length)) (li++[((ar++(takenL k.nodes k.root.toNat).map (moveN ar.length)).length:Int)-1])
def ofT (n:Nd) (ks:List Tr):Tr:=⟨(putTs ks [] []).1++[{n with kids:=(putTs ks [] []).2}],((putTs ks [] []).1.length:Int)⟩
def okT (n:Nd) (ks:List Tr):Bool:=fitN n ks.length&&ks.all rightT
theorem takenL_kids {t:Tr} (h:rightP t) (i:Nat) (hi:i<t.nodes.length):∀n∈takenL t.nodes i,n.kids.length≤t.nodes.length∧ ∀z∈n.kids,0≤z∧z≤(t.nodes.length:Int):=fun n hn=>by
 have hpl:=post_length h i hi
 obtain⟨p,hp,rfl⟩:=List.mem_map.1 hn
 have hp2:p<t.nodes.length:=by have:=postN_le (rightP_ahead h) i p hp;omega
 constructor
 ·have h1:=right_kids_len h (i:=p) (n:=t.nodes[p]) (List.getElem?_eq_getElem hp2)
  simp only[placed,List.length_map,ndAt,List.getElem?_eq_getElem hp2,Option.getD_some]
  omega
 ·intro z hz
  simp only[placed,List.mem_map]at hz
  obtain⟨k,_,rfl⟩:=hz
  have:=List.idxOf_le_length (l:=postN t.nodes i) (a:=k.toNat)
  omega
def ttL:Lay Lt where
 size:=2
 cells t:=[.slice t.A t.ls.length t.c,.int .i64 t.root]
 len _:=rfl
 one _ u hu:=by
  simp only[List.mem_cons,List.not_mem_nil,or_false]at hu
  rcases hu with rfl|rfl <;> rfl
 inn w S t:=t.inn w S
 agree h hg:=Lt.inn.agree h hg
 mono h hS:=Lt.inn.mono h hS
theorem ttRow {w:World} {S:Nat→Prop} {A:Option Addr} {l:List Lt} (h:ttL.row w S A l) (i:Nat) (hi:i<l.length):
  ∃b o,A=some ⟨b,o,none⟩∧S b∧b<w.heap.size∧w.cell? ⟨b,o+i*2,none⟩=some (.slice l[i].A l[i].ls.length l[i].c)∧w.cell? ⟨b,o+i*2+1,none⟩=some (.int .i64 l[i].root):=by
 obtain⟨b,o,e,hS,hl,hc⟩:=h.at (by decide) i hi
 have hc:∀j u,(ttL.cells l[i])[j]?=some u→w.cell? ⟨b,o+i*2+j,none⟩=some u:=fun j u hu=>by rw[Nat.add_assoc];exact hc j u hu
 exact⟨b,o,e,hS,hl,hc 0 _ rfl,hc 1 _ rfl⟩
end Go.Proofs.YtdnochjajoiooaaDoor
/- The contracts of tree.Rule and tree.Empty. -/
namespace Go.Proofs.YtdnochjajoiooaaDoor
open Go.RowKit
set_option linter.unusedSimpArgs false
set_option linter.unusedVariables false
def LeafPost (n:Nd) (w:World) (e:Ending) (w':World):Prop:=∃b,e=.returned (.agg #[.slice (some ⟨b,0,none⟩) 1 1,.int .i64 0])∧TreeOwn w' (w.heap.size ≤ ·) ⟨some ⟨b,0,none⟩,1,[⟨n,none,0⟩],0⟩∧Below w.heap.size w w'
def ruleLf (s:ByteArray):Nd:=⟨3,0,0,0,0,s,0,0,[]⟩
def emptyLf:Nd:=⟨0,0,0,0,0,⟨#[]⟩,0,0,[]⟩
set_option maxRecDepth 100000 in
set_option maxHeartbeats 1600000 in
theorem rule_any (s:ByteArray) (w:World) (hs:s.size≤281474976710656):
  Calls Tryd.prog 6 #[.string s] w (LeafPost (ruleLf s) w):=by
 unfold LeafPost
 have HWF:=Lib.hid (show(ruleLf s).wf from⟨by simp[ruleLf],hs,by simp[ruleLf],by simp[ruleLf,U64],by simp[ruleLf,U64],by simp[ruleLf,U64],by simp[ruleLf,U64]⟩)
 go_enter Tryd.func6,Tryd.ntmps6
 go_wp2_with (go_at_call 30;refine(leaf_any (ruleLf s) _ HWF.out rfl).mono ?_;rintro e w1 ⟨b,rfl,ht,hb⟩;have HT:=Lib.hid ht;have HB:=Lib.hid hb;obtain⟨t1,t2,t3,t4⟩:=blk2 (bx_kept hb (bx_new w _));clear ht hb)
 refine bodyPost_ret (v:=.agg #[.slice (some ⟨b,0,none⟩) 1 1,.int .i64 0]) (by simp[results,Tryd.results6,go_sem,t1,t2]) rfl ?_
 refine⟨b,rfl,(HT.out.agree (fun x hx _=> ?_)).mono (fun x _ hx=> ?_),((Below.step (bx1 w _) HB.out).setCell (p:=⟨w.heap.size,0,none⟩) (Nat.le_refl _) _).setCell (p:=⟨w.heap.size,1,none⟩) (Nat.le_refl _) _⟩
 ·have hx:(w.alloc _).heap.size≤x:=hx
  rw[World.size_alloc]at hx
  exact(Below.heap_setCell _ _ _ _ (by show x≠w.heap.size;omega)).trans (Below.heap_setCell _ _ _ _ (by show x≠w.heap.size;omega))
 ·have hx:(w.alloc _).heap.size≤x:=hx
  rw[World.size_alloc]at hx
  show w.heap.size≤x;omega
end Go.Proofs.YtdnochjajoiooaaDoor
