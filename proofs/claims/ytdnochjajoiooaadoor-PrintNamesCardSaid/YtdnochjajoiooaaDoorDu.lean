/- Blocks and rows of trees and grammars in memory. -/
import Derived.Test.YtdnochjajoiooaaDoorDn
import Derived.WalkSpells
import Derived.Deep.RegionHeld3
import Derived.Deep.Cut
namespace Go.Proofs.YtdnochjajoiooaaDoor
open Go.RowKit
set_option linter.unusedSimpArgs false
set_option linter.unusedVariables false
set_option maxRecDepth 100000 in
theorem field_nodes (w:World) (A:Option Addr) (n c:Nat) (r:Int):(Instr.field 25 (.agg #[.slice A n c,.int .i64 r]) 0).run Tryd.prog w=.ok (.slice A n c) w:=by
 kernel_rfl
theorem TreePost.out {t:Tr} {w w':World} {e:Ending} (h:TreePost t w e w'):∃(A:Option Addr) (c:Nat) (ls:List Ln) (r:Int),e=.returned (.agg #[.slice A ls.length c,.int .i64 r])∧Lt.tr ⟨A,c,ls,r⟩=t∧TreeOwn w' (w.heap.size ≤ ·) ⟨A,c,ls,r⟩∧Below w.heap.size w w':=by
 obtain⟨⟨A,c,ls,r⟩,h1,h2,h3,h4⟩:=h
 exact⟨A,c,ls,r,h1,h2,h3,h4⟩
structure GramOwn (w:World) (S:Nat→Prop) (A:Option Addr) (c:Nat) (ds:List Ld):Prop where
 len:ds.length≤281474976710656
 row:OwnS w S 43 3 A ds.length c (dfL.all ds)
 kids:∃Q:Nat→Nat→Prop,(∀i (h:i<ds.length),ds[i].name.size≤281474976710656∧TreeOwn w (Q i) ds[i].t)∧(∀i x,Q i x→S x)∧ ∀i j x,i≠j→Q i x→ ¬Q j x
theorem GramOwn.inn {w:World} {S:Nat→Prop} {A:Option Addr} {c:Nat} {ds:List Ld} (h:GramOwn w S A c ds):dfL.row w S A ds:=by
 obtain⟨Q,h1,h2,_⟩:=h.kids
 refine⟨h.row.row,fun d hd=> ?_⟩
 obtain⟨i,hi,rfl⟩:=List.mem_iff_getElem.1 hd
 exact⟨(h1 i hi).1,((h1 i hi).2.mono (fun x _ hx=>h2 i x hx)).inn⟩
theorem GramOwn.agree {w w':World} {S:Nat→Prop} {A:Option Addr} {c:Nat} {ds:List Ld} (h:GramOwn w S A c ds) (hg:Agree S w w'):GramOwn w' S A c ds:=by
 obtain⟨Q,h1,h2,h3⟩:=h.kids
 exact⟨h.len,h.row.agree hg,Q,fun i hi=>⟨(h1 i hi).1,(h1 i hi).2.agree (hg.mono (fun x _ hx=>h2 i x hx))⟩,h2,h3⟩
theorem GramOwn.mono {w:World} {S T:Nat→Prop} {A:Option Addr} {c:Nat} {ds:List Ld} (h:GramOwn w S A c ds) (hS:∀k,S k→T k):GramOwn w T A c ds:=by
 obtain⟨Q,h1,h2,h3⟩:=h.kids
 exact⟨h.len,h.row.mono (fun k _=>hS k),Q,h1,fun i x hx=>hS x (h2 i x hx),h3⟩
theorem blk3' {w:World} {b:Nat} {x y z:Value} {T:TypeId} (h:w.heap[b]?=some (.cells #[x,y,z] T (0,0))):w.cell? ⟨b,0,none⟩=some x∧w.cell? ⟨b,1,none⟩=some y∧w.cell? ⟨b,2,none⟩=some z:=by
 simp[World.cell?,h]
end Go.Proofs.YtdnochjajoiooaaDoor
