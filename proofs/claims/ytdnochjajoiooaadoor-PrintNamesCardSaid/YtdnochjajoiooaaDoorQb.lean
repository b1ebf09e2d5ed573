/- Plain laws of bytes, signs, literals, classes and sets of four words; no program in sight. -/
import Derived.Test.YtdnochjajoiooaaDoorPn
import Derived.Lib.TrailingZeros
import Derived.Lib.IndexBytes
namespace Go.Proofs.YtdnochjajoiooaaDoor
set_option linter.unusedSimpArgs false
set_option linter.unusedVariables false
def hexB (n:Nat):UInt8:=if n<10 then UInt8.ofNat (48+n)else UInt8.ofNat (87+n)
def signB (left:List UInt8) (b:UInt8):List UInt8:=
 if (32≤b.toNat∧b.toNat≤126)∧b≠92∧b∉left then[b]
 else if b=10 then[92,110]else if b=13 then[92,114]else if b=9 then[92,116]
 else if b=92∨b∈left then[92,b]
 else[92,120,hexB (b.toNat/16),hexB (b.toNat%16)]
theorem signB_len (left:List UInt8) (b:UInt8):1≤(signB left b).length∧(signB left b).length≤4:=by
 unfold signB
 split
 ·simp
 split
 ·simp
 split
 ·simp
 split
 ·simp
 split <;> simp
def litB (s:List UInt8):List UInt8:=[34]++s.flatMap (signB [34])++[34]
theorem flat_len {α:Type} (f:α→List UInt8) (m:Nat):∀l:List α,(∀x∈l,(f x).length≤m)→(l.flatMap f).length≤l.length*m
 |[],_=>by simp
 |x::l,h=>by
  have h1:=flat_len f m l fun y hy=>h y (List.mem_cons_of_mem _ hy)
  have h2:=h x List.mem_cons_self
  simp only[List.flatMap_cons,List.length_append,List.length_cons,Nat.succ_mul]
  omega
theorem litB_len (s:List UInt8):(litB s).length≤s.length*4+2:=by
 have:=flat_len (signB [34]) 4 s fun x _=>(signB_len [34] x).2
 simp only[litB,List.length_append,List.length_singleton]
 omega
def hasW (ws:List Nat) (b:Nat):Bool:=(ws.getD (b/64) 0).testBit (b%64)
def addRun (l:List (Nat×Nat)) (b:Nat):List (Nat×Nat):=
 match l.getLast? with
 |some (x,y)=>if y+1=b then l.dropLast++[(x,b)]else l++[(b,b)]
 |none=>[(b,b)]
def runsF (f:Nat→Bool):List (Nat×Nat):=((List.range 256).filter f).foldl addRun []
def runB (r:Nat×Nat):List UInt8:=
 signB [93,45,94] (UInt8.ofNat r.1)++(if r.1+1<r.2 then[45]else[])++(if r.1≠r.2 then signB [93,45,94] (UInt8.ofNat r.2)else[])
def classF (f:Nat→Bool):List UInt8:=if (List.range 256).all f then[46]else[91]++(runsF f).flatMap runB++[93]
theorem addRun_len (l:List (Nat×Nat)) (b:Nat):(addRun l b).length≤l.length+1:=by
 unfold addRun
 split
 ·split
  ·simp
  ·simp
 ·simp
theorem foldRun_len:∀(m:List Nat) (l:List (Nat×Nat)),(m.foldl addRun l).length≤l.length+m.length
 |[],l=>by simp
 |b::m,l=>by
  have:=foldRun_len m (addRun l b)
  have:=addRun_len l b
  simp only[List.foldl_cons,List.length_cons]
  omega
theorem runsF_len (f:Nat→Bool):(runsF f).length≤256:=by
 have h:=foldRun_len ((List.range 256).filter f) []
 have h2:=List.length_filter_le f (List.range 256)
 simp only[List.length_range,List.length_nil]at h h2
 unfold runsF
 omega
theorem runB_len (r:Nat×Nat):(runB r).length≤9:=by
 have h1:=signB_len [93,45,94] (UInt8.ofNat r.1)
 have h2:=signB_len [93,45,94] (UInt8.ofNat r.2)
 simp only[runB,List.length_append]
 split <;> split <;> simp only[List.length_singleton,List.length_nil] <;> omega
theorem classF_len (f:Nat→Bool):(classF f).length≤2306:=by
 unfold classF
 split
 ·simp
 ·have h:=flat_len runB 9 (runsF f) fun x _=>runB_len x
  have:=runsF_len f
  simp only[List.length_append,List.length_singleton]
  omega
def plainP (b:UInt8) (left:List UInt8):Prop:=(32≤b.toNat∧b.toNat≤126)∧b≠92∧b∉left
instance (b:UInt8) (left:List UInt8):Decidable (plainP b left):=by unfold plainP;infer_instance
end Go.Proofs.YtdnochjajoiooaaDoor
/- Plain laws of a word's bits,lowest first;no program in sight. -/
namespace Go.Proofs.YtdnochjajoiooaaDoor
set_option linter.unusedSimpArgs false
set_option linter.unusedVariables false
def bitsL (x:Nat):List Nat:=(List.range 64).filter x.testBit
theorem bits_zero:bitsL 0=[]:=by simp[bitsL]
theorem low_parts {x:Nat} (h0:x≠0) (h:x<18446744073709551616):∃m,x=2^Lib.ctz 64 x*(2*m+1)∧Lib.ctz 64 x<64:=by
 unfold Lib.ctz
 rw[if_neg h0]
 exact Lib.ctzFrom_spec 64 x (by omega) (by omega)
theorem odd_bit (m j:Nat):(2*m+1).testBit j=if j=0 then true else m.testBit (j-1):=by
 cases j with
 |zero=>simp[Nat.testBit_zero]
 |succ j=>
  simp only[Nat.testBit_succ,Nat.add_sub_cancel]
  rw[show(2*m+1)/2=m by omega];simp
theorem even_bit (m j:Nat):(2*m).testBit j=if j=0 then false else m.testBit (j-1):=by
 cases j with
 |zero=>simp[Nat.testBit_zero]
 |succ j=>simp[Nat.testBit_succ]
theorem and_pred (k m:Nat):(2^k*(2*m+1)) &&& (2^k*(2*m+1)-1)=2^k*(2*m):=by
 have hp:0<2^k:=Nat.two_pow_pos k
 have e:2^k*(2*m+1)-1=2^k*(2*m)+(2^k-1):=by rw[Nat.mul_add];omega
 rw[e]
 apply Nat.eq_of_testBit_eq
 intro j
 rw[Nat.testBit_and,Nat.testBit_two_pow_mul_add _ (by omega),Nat.testBit_two_pow_mul,Nat.testBit_two_pow_mul]
 by_cases hj:j<k
 ·have h1:decide (j≥k)=false:=by simp;omega
  simp[h1]
 ·have h1:decide (j≥k)=true:=by simp;omega
  rw[if_neg hj,h1,odd_bit,even_bit]
  by_cases h2:j-k=0
  ·simp[h2]
  ·simp[h2]
theorem bits_step {x:Nat} (h0:x≠0) (h:x<18446744073709551616):bitsL x=Lib.ctz 64 x::bitsL (x &&& (x-1)):=by
 obtain⟨m,hm,hk⟩:=low_parts h0 h
 generalize Lib.ctz 64 x=k at hm hk ⊢
 subst hm
 rw[and_pred]
 unfold bitsL
 have er:List.range 64=List.range k++k::List.range' (k+1) (63-k):=by
  rw[List.range_eq_range',List.range_eq_range']
  have h1:List.range' 0 64=List.range' 0 k++List.range' k (64-k):=by
   have:=List.range'_append (s:=0) (m:=k) (n:=64-k) (step:=1)
   rw[show k+(64-k)=64 by omega]at this
   simpa using this.symm
  rw[h1,show 64-k=(63-k)+1 by omega,List.range'_succ]
 rw[er]
 have hb:∀j,(2^k*(2*m+1)).testBit j=(decide (j=k)||(2^k*(2*m)).testBit j):=fun j=>by
  rw[Nat.testBit_two_pow_mul,Nat.testBit_two_pow_mul,odd_bit,even_bit]
  by_cases h1:j=k
  ·subst h1;simp
  ·by_cases h2:j≥k
   ·have:j-k≠0:=by omega
    simp[h1,h2,this]
   ·simp[h1,h2]
 have hlow:∀j,j≤k→(2^k*(2*m)).testBit j=false:=fun j hj=>by
  rw[Nat.testBit_two_pow_mul,even_bit]
  by_cases h1:j=k
  ·subst h1;simp
  ·have:¬j≥k:=by omega
   simp[this]
 rw[List.filter_append,List.filter_append,List.filter_cons,List.filter_cons]
 have e1:(List.range k).filter (2^k*(2*m+1)).testBit=[]:=List.filter_eq_nil_iff.2 fun j hj=>by
  rw[hb,hlow j (by have:=List.mem_range.1 hj;omega)]
  have:=List.mem_range.1 hj
  simp;omega
 have e2:(List.range k).filter (2^k*(2*m)).testBit=[]:=List.filter_eq_nil_iff.2 fun j hj=>by
  rw[hlow j (by have:=List.mem_range.1 hj;omega)];simp
 have e3:(List.range' (k+1) (63-k)).filter (2^k*(2*m+1)).testBit=(List.range' (k+1) (63-k)).filter (2^k*(2*m)).testBit:=List.filter_congr fun j hj=>by
  rw[hb]
  have:=List.mem_range'_1.1 hj
  have h1:decide (j=k)=false:=by simp;omega
  rw[h1];rfl
 rw[e1,e2,e3,hb k,hlow k (Nat.le_refl _)]
 simp
theorem filter_block (f:Nat→Bool) (a n:Nat):(List.range (a+n)).filter f=(List.range a).filter f++((List.range n).filter fun j=>f (a+j)).map (a + ·):=by
 rw[List.range_add,List.filter_append,List.filter_map];rfl
theorem has_block (w0 w1 w2 w3 i j:Nat) (hi:i<4) (hj:j<64):hasW [w0,w1,w2,w3] (i*64+j)=([w0,w1,w2,w3].getD i 0).testBit j:=by
 unfold hasW
 rw[show(i*64+j)/64=i by omega,show(i*64+j)%64=j by omega]
theorem set_bits (w0 w1 w2 w3:Nat):(List.range 256).filter (hasW [w0,w1,w2,w3])=bitsL w0++(bitsL w1).map (64 + ·)++(bitsL w2).map (128 + ·)++(bitsL w3).map (192 + ·):=by
 rw[show 256=192+64 from rfl,filter_block,show 192=128+64 from rfl,filter_block,show 128=64+64 from rfl,filter_block]
 have h:∀i,i<4→((List.range 64).filter fun j=>hasW [w0,w1,w2,w3] (i*64+j))=bitsL ([w0,w1,w2,w3].getD i 0):=fun i hi=>List.filter_congr fun j hj=>by
  rw[has_block _ _ _ _ i j hi (List.mem_range.1 hj)]
 have h0:=h 0 (by decide);have h1:=h 1 (by decide);have h2:=h 2 (by decide);have h3:=h 3 (by decide)
 simp only[Nat.zero_mul,Nat.zero_add]at h0
 rw[show(List.range 64).filter (hasW [w0,w1,w2,w3])=bitsL w0 from h0]
 rw[show((List.range 64).filter fun j=>hasW [w0,w1,w2,w3] (64+j))=bitsL w1 from h1]
 rw[show((List.range 64).filter fun j=>hasW [w0,w1,w2,w3] (64+64+j))=bitsL w2 from h2]
 rw[show((List.range 64).filter fun j=>hasW [w0,w1,w2,w3] (64+64+64+j))=bitsL w3 from h3]
end Go.Proofs.YtdnochjajoiooaaDoor
