/- Maps keyed by bytes: what they hold, as a function of the byte. -/
import Derived.Test.YtdnochjajoiooaaGreatDoorQm
import Derived.Maps.OwnSet
import Derived.Maps.OwnIn
namespace Go.Proofs.YtdnochjajoiooaaGreatDoor
open Go.RowKit Go.Maps
set_option linter.unusedSimpArgs false
set_option linter.unusedVariables false
abbrev u8V (c:UInt8):Value:=.int .u8 (c.toNat:Int)
def UZ:Value->Option (DataW Value×List MemPlace):=fun v=>some (.held v,[])
def GU (c:UInt8):Lit:=.int .u8 (c.toNat:Int)
theorem L7 {c d:UInt8} (h:c≠d):GU c≠GU d:=fun e=>h (by
 unfold GU at e;injection e with _ e
 exact UInt8.toNat_inj.1 (by omega))
theorem R8:Keyed Tryz.prog 5:=int_keyed Tryz.underlying5
theorem R9 (c:UInt8):keyOf Tryz.prog 5 (.int .u8 (c.toNat:Int))=some (GU c):=keyOf_int_mk Tryz.underlying5 (WalkArith.wf_u8 (by have:=c.toNat_lt;omega))
def BMap (w:World) (b n:Nat) (f:UInt8->Option Value):Prop:=
 ∃D,w.ownsMap Tryz.prog 5 UZ b n D/\ ∀c,(f c=none/\has D (GU c)=false)\/ ∃v,f c=some v/\has D (GU c)=true/\ ∀z,D.atKey (GU c) z=.held v
theorem BMap.made (w:World):BMap (w.alloc (.map #[] 0)) w.heap.size 0 (fun _=>none):=⟨_,World.ownsMap_made w _ _ _,fun c=>.inl ⟨rfl,rfl⟩⟩
theorem BMap.lt {w:World} {b n:Nat} {f:UInt8->Option Value} (h:BMap w b n f):b<w.heap.size:=h.elim fun _ h=>h.1.lt
theorem BMap.mono {w:World} {b n m:Nat} {f:UInt8->Option Value} (h:BMap w b n f) (hm:n<=m):BMap w b m f:=h.elim fun D h=>⟨D,h.1.mono hm,h.2⟩
theorem BMap.kept {w w':World} {b n:Nat} {f:UInt8->Option Value} {row:Option Nat} (h:BMap w b n f) (hg:w.grownBy w' row) (hne:some b≠row):BMap w' b n f:=h.elim fun D h=>⟨D,h.1.kept hg hne,h.2⟩
theorem BMap.below {w w':World} {b n:Nat} {f:UInt8->Option Value} (h:BMap w b n f) (hb:Below w.heap.size w w'):BMap w' b n f:=
 h.kept (row:=none) ⟨hb.os,hb.tape,hb.output,hb.size,fun k hk _=>hb.block k hk⟩ (by simp)
theorem BMap.look {w:World} {b n:Nat} {f:UInt8->Option Value} (h:BMap w b n f) {t e:TypeId} (ht:Tryz.prog.underlying t=some (.map 5 e)) {z:Value} (hz:(zeroValue e).run Tryz.prog w=.ok z w) (c:UInt8):
  (Instr.lookup t (.map (some b)) (.int .u8 (c.toNat:Int)) true).run Tryz.prog w=.ok (.tuple #[(f c).getD z,.bool (f c).isSome]) w:=by
 obtain⟨D,hown,hf⟩:=h;obtain⟨v,ps,hrun,hv⟩:=hown.look_ok (R:=UZ) R8 ht hz (zd:=.held z) (zp:=[]) rfl (R9 c);rw[hrun];have hv:DataW.held v=D.atKey (GU c) (.held z):=congrArg Prod.fst (Option.some.inj (show some (DataW.held v,([]:List MemPlace))=some (D.atKey (GU c) (.held z),ps)from hv));rcases hf c with⟨h1,h2⟩|⟨u,h1,h2,h3⟩
 ·rw[atKey_of_not_has h2]at hv;have hv:=DataW.held.inj hv;rw[h1,h2,hv];rfl
 ·rw[h3]at hv;have hv:=DataW.held.inj hv;rw[h1,h2,hv];rfl
theorem BMap.store {w:World} {b n:Nat} {f:UInt8->Option Value} (h:BMap w b n f) {t e:TypeId} (ht:Tryz.prog.underlying t=some (.map 5 e)) (hn:n<maxLen) (c:UInt8) (v:Value):
  ∃w',(Instr.mapUpdate t (.map (some b)) (.int .u8 (c.toNat:Int)) v).run Tryz.prog w=.ok () w'/\BMap w' b (n+1) (fun d=>if d=c then some v else f d)/\w.grownBy w' (some b):=by
 obtain⟨D,hown,hf⟩:=h;obtain⟨w',hrun,r1,r2⟩:=hown.store (R:=UZ) R8 ht hn (R9 c) (d:=.held v) (ps:=[]) (val:=v) rfl;refine⟨w',hrun,⟨_,r1,fun d=> ?_⟩,r2.grown⟩;have hk:WideAt.IsKeyLit (GU c):=by simp[GU,WideAt.IsKeyLit]
 by_cases hd:d=c
 ·subst hd;right
  exact⟨v,by simp,has_put_same hown.isMap hk _,fun z=>atKey_put_same hown.isMap hk _ z⟩
 ·rcases hf d with⟨h1,h2⟩|⟨u,h1,h2,h3⟩
  ·exact .inl ⟨by simp[hd,h1],by rw[has_put_other (L7 hd)];exact h2⟩
  ·exact .inr ⟨u,by simp[hd,h1],by rw[has_put_other (L7 hd)];exact h2,fun z=>by rw[atKey_put_other (L7 hd)];exact h3 z⟩
theorem BMap.ext {w:World} {b n:Nat} {f g:UInt8->Option Value} (h:BMap w b n f) (e:∀c,f c=g c):BMap w b n g:=(funext e)▸h
section
variable {w:World} {ops:Array Oper} {rest:List Oper} {o:Oper} {a:Act} {Q:Exit->Act->World->Prop}
theorem Dp (hg:o.guard=none) (m x:Operand) (t:TypeId) (hop:o.op=Op.lookup t m x true) (e:TypeId) (ht:Tryz.prog.underlying t=some (.map 5 e)) {z:Value} (hz:(zeroValue e).run Tryz.prog w=.ok z w)
  (b n:Nat) (f:UInt8->Option Value) (hm:a.eval m=.map (some b)) (h:BMap w b n f) (c:UInt8) (k:Int) (hc:(c.toNat:Int)=k) (hx:a.eval x=.int .u8 k)
  (hK:wpList Tryz.prog ops Q rest (a.put o.dst (.tuple #[(f c).getD z,.bool (f c).isSome])) w):wpList Tryz.prog ops Q (o::rest) a w:=by
 subst hc;refine wpList_plain hg fun K' hK'=> ?_
 unfold Oper.wp;simp[execOp,hop,hm,hx,h.look ht hz c,Result.andThen];exact hK' _ _ hK
theorem A5 {F:Fence} {nF:Nat} (hg:o.guard=none) (m x:Operand) (t:TypeId) (hop:o.op=Op.lookup t m x true) (e:TypeId) (ht:Tryz.prog.underlying t=some (.map 5 e)) {z:Value} (hz:(zeroValue e).run Tryz.prog w=.ok z w)
  (b n:Nat) (f:UInt8->Option Value) (hm:a.eval m=.map (some b)) (h:BMap w b n f) (c:UInt8) (k:Int) (hc:(c.toNat:Int)=k) (hx:a.eval x=.int .u8 k)
  (hK:wpListIn F nF Tryz.prog ops Q rest (a.put o.dst (.tuple #[(f c).getD z,.bool (f c).isSome])) w):wpListIn F nF Tryz.prog ops Q (o::rest) a w:=by
 subst hc;refine wpListIn_plain hg fun K' hK'=> ?_
 unfold Oper.wpIn;refine⟨by simp[Oper.about,hop],?_⟩;rw[Oper.semAt_plain F _ _ (by rw[hop];intro c hc';cases hc')];simp[execOp,hop,hm,hx,h.look ht hz c,Result.andThen];exact hK' _ _ hK
theorem Ea (hg:o.guard=none) (m x v:Operand) (t:TypeId) (hop:o.op=Op.mapUpdate t m x v) (e:TypeId) (ht:Tryz.prog.underlying t=some (.map 5 e))
  (b n:Nat) (f:UInt8->Option Value) (hm:a.eval m=.map (some b)) (h:BMap w b n f) (hn:n<maxLen) (c:UInt8) (k:Int) (hc:(c.toNat:Int)=k) (hx:a.eval x=.int .u8 k) (val:Value) (hv:a.eval v=val)
  (hK:∀w',Hid (BMap w' b (n+1) (fun d=>if d=c then some val else f d))->Hid (w.grownBy w' (some b))->wpList Tryz.prog ops Q rest (a.put o.dst undef) w'):wpList Tryz.prog ops Q (o::rest) a w:=by
 subst hc;refine wpList_plain hg fun K' hK'=> ?_
 obtain⟨w',hrun,r1,r2⟩:=h.store ht hn c val;unfold Oper.wp;simp[execOp,hop,hm,hx,hv,hrun,Result.andThen];exact hK' _ _ (hK w' (qd r1) (qd r2))
theorem Bj (hg:o.guard=none) (m x v:Operand) (t:TypeId) (hop:o.op=Op.insert t m x v) (e:TypeId) (ht:Tryz.prog.underlying t=some (.map 5 e))
  (b n:Nat) (f:UInt8->Option Value) (hm:a.eval m=.map (some b)) (h:BMap w b n f) (hn:n<maxLen) (c:UInt8) (k:Int) (hc:(c.toNat:Int)=k) (hx:a.eval x=.int .u8 k) (val:Value) (hv:a.eval v=val)
  (hK:∀w',Hid (BMap w' b (n+1) (fun d=>if d=c then some val else f d))->Hid (w.grownBy w' (some b))->wpList Tryz.prog ops Q rest (a.put o.dst undef) w'):wpList Tryz.prog ops Q (o::rest) a w:=by
 subst hc;refine wpList_plain hg fun K' hK'=> ?_
 obtain⟨w',hrun,r1,r2⟩:=h.store ht hn c val;unfold Oper.wp;simp[execOp,hop,hm,hx,hv,hrun,Result.andThen];exact hK' _ _ (hK w' (qd r1) (qd r2))
end
end Go.Proofs.YtdnochjajoiooaaGreatDoor
