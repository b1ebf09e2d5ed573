/- Plain laws of layer 2 (names and numbers): lists of bytes, no program in sight. -/
import Derived.Lib.Hide
import Derived.Lib.Strings
import Derived.Lib.IndexBytes
import Derived.Lib.ItoaNum
import Derived.Lib.ItoaLen
import Derived.Lib.Bytealg
import Derived.WalkKit
namespace Go.Proofs.YtdnochjajoiooaaGreatDoor
open Go.RowKit
theorem qd {p:Prop} (h:p):Hid p:=h
def AO (b:Int):Bool:=decide (97<=b/\b<=122\/65<=b/\b<=90\/b=95)
def Dt (b:Int):Bool:=decide (48<=b/\b<=57)
def Ce (c:UInt8):Bool:=AO c.toNat||Dt c.toNat
def B0:List UInt8->List UInt8
 |[]=>[]
 |c::r=>if AO c.toNat then c::r.takeWhile Ce else[]
def Cb (l:List UInt8):Bool:=decide (l≠[]/\l.length<=32/\B0 l=l)
theorem Aj {a b:Bool} (h:a=b):Ending.returned (.bool a)=.returned (.bool b):=by rw[h]
theorem RU {k:IntKind} {a b:Int} (h:a=b):Ending.returned (.int k a)=.returned (.int k b):=by rw[h]
theorem WZ {a b:ByteArray} (h:a.data.toList=b.data.toList):a=b:=by rw[<-Lib.mk_data a,<-Lib.mk_data b,h]
theorem Ar (s:ByteArray):s.data.toList.length=s.size:=(Lib.size_eq s).symm
theorem Du (s:ByteArray) (h:0<s.size):s.data.toList=s[0]::s.data.toList.drop 1:=by
 have h1:=Lib.data_getElem? s 0 h;cases e:s.data.toList with
 |nil=>rw[e]at h1;simp at h1
 |cons a r=>rw[e]at h1;simp at h1;rw[h1];rfl
theorem Bb (s:ByteArray) (h:0<s.size):s.toList.isEmpty=false/\ ¬s.toList=[]:=by
 rw[Lib.toList_data,Du s h];simp
theorem AH (s:ByteArray) (h:¬0<s.size):s.toList.isEmpty=true/\s.toList=[]/\s.data.toList=[]:=by
 have:s.data.toList=[]:=List.eq_nil_of_length_eq_zero (by rw[Ar];omega);rw[Lib.toList_data,this];simp
theorem NM (s:ByteArray) (k:Nat) (h:k<s.size):s.data.toList.drop k=s[k]::s.data.toList.drop (k+1):=by
 rw[List.drop_eq_getElem_cons (by rw[Ar];exact h)];congr 1
theorem Hy (s:ByteArray) (k:Nat) (h:k<s.size):s.data.toList.take (k+1)=s.data.toList.take k++[s[k]]:=by
 rw[List.take_succ_eq_append_getElem (by rw[Ar];exact h)];rfl
theorem LH (s:ByteArray) (k:Nat) (h:s.size<=k):s.data.toList.take k=s.data.toList:=List.take_of_length_le (by rw[Ar];exact h)
theorem Jl (s:ByteArray) (h:0<s.size) (hl:AO s[0].toNat=true):B0 s.data.toList=s[0]::(s.data.toList.drop 1).takeWhile Ce:=by
 rw[Du s h];simp[B0,hl]
theorem Hc (s:ByteArray) (h:0<s.size) (hl:AO s[0].toNat=false):B0 s.data.toList=[]:=by
 rw[Du s h];simp[B0,hl]
theorem Et (s:ByteArray) (k:Nat) (h:k<s.size) (hp:Ce s[k]=true):
  s.data.toList.take k++(s.data.toList.drop k).takeWhile Ce=s.data.toList.take (k+1)++(s.data.toList.drop (k+1)).takeWhile Ce:=by
 rw[NM s k h,List.takeWhile_cons_of_pos hp,Hy s k h,List.append_assoc];rfl
theorem Jm (s:ByteArray) (k:Nat) (h:k<s.size) (hp:Ce s[k]=false):(s.data.toList.drop k).takeWhile Ce=[]:=by
 rw[NM s k h,List.takeWhile_cons_of_neg (by simp[hp])]
theorem Io (s:ByteArray) (k:Nat) (h:s.size<=k):(s.data.toList.drop k).takeWhile Ce=[]:=by
 rw[List.drop_eq_nil_of_le (by rw[Ar];exact h)];rfl
theorem Jn (l:List UInt8):B0 l <+: l:=by
 cases l with
 |nil=>exact List.prefix_rfl
 |cons c r=>
  by_cases h:AO c.toNat
  ·simp only[B0,h,if_true];exact(List.prefix_cons_inj c).2 (List.takeWhile_prefix _)
  ·simp only[B0,h];exact List.nil_prefix
theorem Ps (l:List UInt8):(B0 l).length<=l.length:=(Jn l).length_le
theorem NN (l:List UInt8):B0 l=l↔(B0 l).length=l.length:=
 ⟨fun h=>by rw[h],fun h=>(Jn l).eq_of_length h⟩
theorem LI (l:List UInt8):B0 (B0 l)=B0 l:=by
 cases l with
 |nil=>rfl
 |cons c r=>
  by_cases h:AO c.toNat
  ·simp only[B0,h,if_true];congr 1
   have:∀(r:List UInt8),(r.takeWhile Ce).takeWhile Ce=r.takeWhile Ce:=by
    intro r;induction r with
    |nil=>rfl
    |cons a r ih=>by_cases ha:Ce a <;> simp[ha,ih]
   exact this r
  ·simp only[B0,h];simp
def EF (l:List UInt8):Nat:=l.foldl (fun a c=>10*a+(c.toNat-48)) 0
def Eb (l:List UInt8):Bool:=l.all fun c=>Dt c.toNat
def Eu (l:List UInt8):Bool:=decide (l≠[]/\Eb l=true/\ ¬(l.head?=some 48/\1<l.length))
def CM (l:List UInt8) (most:Int):Int×Int:=
 if Eu l then(if most<EF l then(0,40)else(EF l,0))else(0,4)
theorem Hd (l:List UInt8) (c:UInt8):EF (l++[c])=10*EF l+(c.toNat-48):=by simp[EF]
theorem He (l:List UInt8) (c:UInt8):Eb (l++[c])=(Eb l&&Dt c.toNat):=by simp[Eb]
theorem E8 (b:Int):Dt b=true↔48<=b/\b<=57:=by simp[Dt]
theorem JP (l:List UInt8) (most:Int) (h:Eu l=false):CM l most=(0,4):=by simp[CM,h]
theorem Pt (s:ByteArray) (k:Nat) (h:k<s.size) (hd:Dt s[k].toNat=false):Eu s.data.toList=false:=by
 have:Eb s.data.toList=false:=by
  rw[<-List.take_append_drop k s.data.toList,NM s k h];simp[Eb,hd]
 simp[Eu,this]
theorem NO (s:ByteArray) (h:1<s.size) (hd:s[0].toNat=48):Eu s.data.toList=false:=by
 have e:=Du s (by omega);have h2:s.data.toList.head?=some 48:=by rw[e];simp;exact UInt8.toNat_inj.1 hd
 have h3:1<s.data.toList.length:=by rw[Ar];exact h
 simp[Eu,h2];rw[Array.length_toList]at h3;intro _ _;exact h3
theorem LJ (s:ByteArray) (h:0<s.size) (hz:¬(s[0].toNat=48/\1<s.size)) (hd:Eb s.data.toList=true):Eu s.data.toList=true:=by
 have e:=Du s h;have h3:=Ar s;simp only[Eu,decide_eq_true_eq];refine⟨by rw[e];simp,hd,?_⟩;rintro⟨h1,h2⟩;rw[e]at h1;simp at h1;exact hz ⟨by rw[h1];rfl,by omega⟩
end Go.Proofs.YtdnochjajoiooaaGreatDoor
/- append onto a row of the call's own,whatever slice the source is (nil,empty or not);slices of texts. -/
namespace Go.Proofs.YtdnochjajoiooaaGreatDoor
open Go.RowKit
def RowAt (w:World) (A:Option Addr) (xs:List Value):Prop:=∀j u,xs[j]?=some u-> ∃ad,A=some ad/\w.cell? (ad.add j)=some u
section
variable {P:Program} (w:World)
end
theorem AP {w:World} {a:Addr} {v:Value} (h:w.cell? a=some v):a.block<w.heap.size:=by
 unfold World.cell? at h;by_cases hl:a.block<w.heap.size
 ·exact hl
 ·rw[Array.getElem?_eq_none (by omega)]at h;cases h
theorem JQ (a:Addr) (n:Nat):(a.add n).block=a.block:=by unfold Addr.add;split <;> rfl
theorem RowAt.below {w w':World} {A:Option Addr} {xs:List Value} (h:RowAt w A xs) (hb:Below w.heap.size w w'):RowAt w' A xs:=fun j u hu=>by
 obtain⟨ad,e,hc⟩:=h j u hu;exact⟨ad,e,(hb.cell (AP hc)).trans hc⟩
theorem RowAt.own {w:World} {base:Nat} {e:TypeId} {size n c:Nat} {A:Option Addr} {xs:List Value} (h:w.ownsRow base e size (.slice A n c) n xs):RowAt w A xs:=fun j u hu=>by
 cases A with
 |some ad=>exact⟨ad,rfl,by
   have:=h.cells (g:=ad.block) rfl j u hu;rcases h.2 with⟨hv,_⟩|⟨g,cap,cur,hv,_⟩
   ·cases hv
   ·injection hv with hv;injection hv with hv;subst hv;exact this⟩
 |none=>
  rcases h.2 with⟨_,hn⟩|⟨g,cap,cur,hv,_⟩
  ·have h1:=h.1;subst hn;have:xs=[]:=List.eq_nil_of_length_eq_zero (by simpa using h1);subst this;simp at hu
  ·cases hv
theorem Mk {w:World} {base n:Nat} {e:TypeId} {size:Nat} {v:Value} {xs:List Value} (h:w.ownsRow base e size v n xs):∃A c,v=.slice A n c:=by
 rcases h.2 with⟨rfl,rfl⟩|⟨g,cap,cur,rfl,_⟩
 ·exact⟨_,_,rfl⟩
 ·exact⟨_,_,rfl⟩
end Go.Proofs.YtdnochjajoiooaaGreatDoor
/- Plain laws:a number's text,there and back. -/
namespace Go.Proofs.YtdnochjajoiooaaGreatDoor
open Go.RowKit
theorem Ml (m:Nat):EF (Lib.decDigits m)=m:=by
 induction m using Nat.strongRecOn with
 |_ m ih=>
  by_cases h:m<10
  ·rw[Lib.decDigits_one h];have:(UInt8.ofNat (48+m)).toNat=48+m:=by simp;omega
   simp[EF];omega
  ·have e:Lib.decDigits m=Lib.decDigits (m/10)++[UInt8.ofNat (48+m%10)]:=by conv=>{lhs;rw[Lib.decDigits,dif_neg h]}
   have:(UInt8.ofNat (48+m%10)).toNat=48+m%10:=by simp;omega
   rw[e,Hd,ih (m/10) (by omega),this];omega
theorem Jo (i:Nat):Lib.itoa (i:Int)=Lib.decDigits i:=by simp[Lib.itoa]
theorem QG (m:Nat) (h:m<10):Lib.decDigits m=[UInt8.ofNat (48+m)]:=Lib.decDigits_one h
theorem RV (k:Nat) (h:9<k):Lib.decDigits k=Lib.decDigits (k/10)++[UInt8.ofNat (48+k%10)]:=by
 conv=>{lhs;rw[Lib.decDigits,dif_neg (by omega)]}
theorem QH (d:Nat) (h:d<10):(UInt8.ofNat (48+d)).toNat=48+d:=by simp;omega
theorem V1 (m:Nat):Lib.decDigits m≠[]:=fun h=>by
 have:=Lib.decDigits_length m;rw[h]at this;have:=Lib.nDigits_pos m;simp at *;omega
theorem Nb (m:Nat):Eb (Lib.decDigits m)=true:=by
 induction m using Nat.strongRecOn with
 |_ m ih=>
  by_cases h:m<10
  ·rw[QG m h];simp only[Eb,List.all_cons,List.all_nil,Bool.and_true,QH m h];exact(E8 _).2 (by omega)
  ·rw[RV m (by omega),He,ih (m/10) (by omega),QH (m%10) (by omega),(E8 _).2 (by omega)];rfl
theorem Xa (m:Nat) (h:0<m):(Lib.decDigits m).head?≠some 48:=by
 induction m using Nat.strongRecOn with
 |_ m ih=>
  by_cases h9:m<10
  ·rw[QG m h9];simp only[List.head?_cons,ne_eq,Option.some.injEq];intro e;have:=congrArg UInt8.toNat e;rw[QH m h9]at this;rw[show(48:UInt8).toNat=48 from rfl]at this;omega
  ·rw[RV m (by omega),List.head?_append];have:=ih (m/10) (by omega) (by omega);cases hh:(Lib.decDigits (m/10)).head? with
   |none=>exact absurd (List.head?_eq_none_iff.1 hh) (V1 _)
   |some c=>rw[hh]at this;simpa using this
theorem QI (m:Nat):Eu (Lib.decDigits m)=true:=by
 simp only[Eu,decide_eq_true_eq];refine⟨V1 m,Nb m,?_⟩;rintro⟨h1,h2⟩;by_cases h:0<m
 ·exact Xa m h h1
 ·obtain rfl:m=0:=by omega
  rw[QG 0 (by omega)]at h2;simp at h2
theorem TD (n:Nat) (most:Int):CM (Lib.itoa (n:Int)) most=if most<(n:Int)then(0,40)else((n:Int),0):=by
 rw[Jo];simp only[CM,QI,if_true,Ml]
theorem Pu (l:List UInt8) (most:Int):((CM l most).2=0\/((CM l most).1=0/\((CM l most).2=4\/(CM l most).2=40))):=by
 unfold CM;split
 ·split
  ·right;exact⟨rfl,.inr rfl⟩
  ·left;rfl
 ·right;exact⟨rfl,.inl rfl⟩
end Go.Proofs.YtdnochjajoiooaaGreatDoor
