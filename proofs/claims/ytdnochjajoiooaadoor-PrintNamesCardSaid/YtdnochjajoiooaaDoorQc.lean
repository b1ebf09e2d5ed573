/- Plain laws of texts: signs, literals, classes, numbers are read as they were written. -/
import Derived.Test.YtdnochjajoiooaaDoorQb
namespace Go.Proofs.YtdnochjajoiooaaDoor
set_option linter.unusedSimpArgs false
set_option linter.unusedVariables false
theorem hex_byte (n:Nat) (h:n<16):hexB n≠34∧hexB n≠93∧hexB n≠92:=by
 have:∀k:Fin 16,hexB k.val≠34∧hexB k.val≠93∧hexB k.val≠92:=by decide
 exact this ⟨n,h⟩
def scanQ (q:UInt8):Bool→List UInt8→List UInt8×List UInt8
 |_,[]=>([],[])
 |true,c::r=>(c::(scanQ q false r).1,(scanQ q false r).2)
 |false,c::r=>if c=q then([],r)else(c::(scanQ q (c==92) r).1,(scanQ q (c==92) r).2)
def Passed (q:UInt8) (x:List UInt8):Prop:=∀r,scanQ q false (x++r)=(x++(scanQ q false r).1,(scanQ q false r).2)
theorem passed_nil (q:UInt8):Passed q []:=fun r=>rfl
theorem passed_append {q:UInt8} {x y:List UInt8} (h:Passed q x) (k:Passed q y):Passed q (x++y):=fun r=>by
 rw[List.append_assoc,h,k];simp
theorem passed_byte {q c:UInt8} (h:c≠q) (h2:c≠92):Passed q [c]:=fun r=>by
 have:(c==(92:UInt8))=false:=by simpa using h2
 simp only[List.singleton_append,scanQ,if_neg h,this]
theorem passed_flat {α:Type} {q:UInt8} {f:α→List UInt8}:∀l:List α,(∀x∈l,Passed q (f x))→Passed q (l.flatMap f)
 |[],_=>passed_nil q
 |x::l,h=>by
  rw[List.flatMap_cons]
  exact passed_append (h x List.mem_cons_self) (passed_flat l fun y hy=>h y (List.mem_cons_of_mem _ hy))
theorem passed_sign {left:List UInt8} {q:UInt8} (hq:q=34∨q=93) (hm:q∈left) (b:UInt8):Passed q (signB left b):=by
 have h92:(92:UInt8)≠q:=by rcases hq with rfl|rfl <;> decide
 have pair:∀d:UInt8,Passed q [92,d]:=fun d r=>by
  simp only[List.cons_append,List.nil_append,scanQ,if_neg h92,beq_self_eq_true]
 unfold signB
 split
 ·rename_i h
  exact passed_byte (fun e=>h.2.2 (e▸hm)) h.2.1
 split
 ·exact pair _
 split
 ·exact pair _
 split
 ·exact pair _
 split
 ·exact pair _
 ·have hb:=b.toNat_lt
  have h1:=hex_byte (b.toNat/16) (by omega)
  have h2:=hex_byte (b.toNat%16) (by omega)
  refine passed_append (x:=[92,120]) (pair _) (passed_append (x:=[_]) (passed_byte ?_ h1.2.2) (passed_byte ?_ h2.2.2))
  ·rcases hq with rfl|rfl
   ·exact h1.1
   ·exact h1.2.1
  ·rcases hq with rfl|rfl
   ·exact h2.1
   ·exact h2.2.1
theorem passed_run (r:Nat×Nat):Passed 93 (runB r):=by
 unfold runB
 refine passed_append (passed_append (passed_sign (.inr rfl) (by simp) _) ?_) ?_
 ·split
  ·exact passed_byte (by decide) (by decide)
  ·exact passed_nil _
 ·split
  ·exact passed_sign (.inr rfl) (by simp) _
  ·exact passed_nil _
end Go.Proofs.YtdnochjajoiooaaDoor
