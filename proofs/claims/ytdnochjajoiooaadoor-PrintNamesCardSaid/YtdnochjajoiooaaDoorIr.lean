/- The contract of gram.With. -/
import Derived.Test.YtdnochjajoiooaaDoorDs
import Derived.Test.YtdnochjajoiooaaDoorDw
namespace Go.Proofs.YtdnochjajoiooaaDoor
open Go.RowKit
set_option linter.unusedSimpArgs false
set_option linter.unusedVariables false
theorem TreePost.out' {t:Tr} {w:World} {e:Ending} {w':World} (h:TreePost t w e w'):∃A c l r,e=.returned (.agg #[.slice A l.length c,.int .i64 r])∧Lt.tr ⟨A,c,l,r⟩=t∧TreeOwn w' (w.heap.size ≤ ·) ⟨A,c,l,r⟩∧Below w.heap.size w w':=by
 obtain⟨⟨A,c,l,r⟩,h1,h2,h3,h4⟩:=h
 exact⟨A,c,l,r,h1,h2,h3,h4⟩
theorem OwnS.ne {w:World} {S:Nat→Prop} {e e':TypeId} {size n c g:Nat} {V:Option Addr} {xs:List Value} {cs:Array Value} {fz:Nat×Nat} (h:OwnS w S e size V n c xs) (hg:w.heap[g]?=some (.cells cs e' fz)) (hne:e≠e'):OwnS w (fun x=>S x∧x≠g) e size V n c xs:=
 ⟨h.1,fun k hk=>⟨h.2 k hk,fun ek=>by
  rcases h.1.2 with⟨hv,_⟩|⟨g',cap,cur,hv,_,hh,_⟩
  ·cases hv;cases hk
  ·cases hv
   cases hk
   subst ek
   rw[hg]at hh
   injection hh with hh
   injection hh with _ h2
   exact hne h2.symm⟩⟩
theorem TreeOwn.ne {w:World} {S:Nat→Prop} {t:Lt} {g:Nat} {cs:Array Value} {fz:Nat×Nat} (h:TreeOwn w S t) (hg:w.heap[g]?=some (.cells cs 43 fz)):TreeOwn w (fun x=>S x∧x≠g) t:=
 ⟨h.len,h.row.ne hg (by decide),fun l hl=>⟨(h.kids l hl).1,(h.kids l hl).2.ne hg (by decide)⟩⟩
end Go.Proofs.YtdnochjajoiooaaDoor
