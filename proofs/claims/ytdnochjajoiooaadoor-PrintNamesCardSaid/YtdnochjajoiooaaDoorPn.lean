/- Plain laws of layer 2 (names and numbers): lists of bytes, no program in sight. -/
import Derived.Lib.Hide
import Derived.Lib.Strings
import Derived.Lib.IndexBytes
import Derived.Lib.ItoaNum
import Derived.Lib.ItoaLen
import Derived.Lib.Bytealg
import Derived.WalkKit
namespace Go.Proofs.YtdnochjajoiooaaDoor
open Go.RowKit
def isLetter (b:Int):Bool:=decide (97≤b∧b≤122∨65≤b∧b≤90∨b=95)
def isDigit (b:Int):Bool:=decide (48≤b∧b≤57)
def alnum (c:UInt8):Bool:=isLetter c.toNat||isDigit c.toNat
def takeL:List UInt8→List UInt8
 |[]=>[]
 |c::r=>if isLetter c.toNat then c::r.takeWhile alnum else[]
def mayL (l:List UInt8):Bool:=decide (l≠[]∧l.length≤32∧takeL l=l)
theorem ret_bool {a b:Bool} (h:a=b):Ending.returned (.bool a)=.returned (.bool b):=by rw[h]
theorem sz_data (s:ByteArray):s.data.toList.length=s.size:=(Lib.size_eq s).symm
theorem bytes_pos (s:ByteArray) (h:0<s.size):s.data.toList=s[0]::s.data.toList.drop 1:=by
 have h1:=Lib.data_getElem? s 0 h
 cases e:s.data.toList with
 |nil=>rw[e]at h1;simp at h1
 |cons a r=>rw[e]at h1;simp at h1;rw[h1];rfl
theorem bytes_ne (s:ByteArray) (h:0<s.size):s.toList.isEmpty=false∧ ¬s.toList=[]:=by
 rw[Lib.toList_data,bytes_pos s h];simp
theorem bytes_none (s:ByteArray) (h:¬0<s.size):s.toList.isEmpty=true∧s.toList=[]∧s.data.toList=[]:=by
 have:s.data.toList=[]:=List.eq_nil_of_length_eq_zero (by rw[sz_data];omega)
 rw[Lib.toList_data,this];simp
theorem drop_at (s:ByteArray) (k:Nat) (h:k<s.size):s.data.toList.drop k=s[k]::s.data.toList.drop (k+1):=by
 rw[List.drop_eq_getElem_cons (by rw[sz_data];exact h)];congr 1
theorem take_at (s:ByteArray) (k:Nat) (h:k<s.size):s.data.toList.take (k+1)=s.data.toList.take k++[s[k]]:=by
 rw[List.take_succ_eq_append_getElem (by rw[sz_data];exact h)];rfl
theorem takeL_letter (s:ByteArray) (h:0<s.size) (hl:isLetter s[0].toNat=true):takeL s.data.toList=s[0]::(s.data.toList.drop 1).takeWhile alnum:=by
 rw[bytes_pos s h];simp[takeL,hl]
theorem takeL_noletter (s:ByteArray) (h:0<s.size) (hl:isLetter s[0].toNat=false):takeL s.data.toList=[]:=by
 rw[bytes_pos s h];simp[takeL,hl]
theorem takeWhile_yes (s:ByteArray) (k:Nat) (h:k<s.size) (hp:alnum s[k]=true):
  s.data.toList.take k++(s.data.toList.drop k).takeWhile alnum=s.data.toList.take (k+1)++(s.data.toList.drop (k+1)).takeWhile alnum:=by
 rw[drop_at s k h,List.takeWhile_cons_of_pos hp,take_at s k h,List.append_assoc];rfl
theorem takeWhile_no (s:ByteArray) (k:Nat) (h:k<s.size) (hp:alnum s[k]=false):(s.data.toList.drop k).takeWhile alnum=[]:=by
 rw[drop_at s k h,List.takeWhile_cons_of_neg (by simp[hp])]
theorem takeWhile_end (s:ByteArray) (k:Nat) (h:s.size≤k):(s.data.toList.drop k).takeWhile alnum=[]:=by
 rw[List.drop_eq_nil_of_le (by rw[sz_data];exact h)];rfl
theorem takeL_prefix (l:List UInt8):takeL l <+: l:=by
 cases l with
 |nil=>exact List.prefix_rfl
 |cons c r=>
  by_cases h:isLetter c.toNat
  ·simp only[takeL,h,if_true];exact(List.prefix_cons_inj c).2 (List.takeWhile_prefix _)
  ·simp only[takeL,h];exact List.nil_prefix
theorem takeL_eq_iff (l:List UInt8):takeL l=l↔(takeL l).length=l.length:=
 ⟨fun h=>by rw[h],fun h=>(takeL_prefix l).eq_of_length h⟩
end Go.Proofs.YtdnochjajoiooaaDoor
/- append onto a row of the call's own,whatever slice the source is (nil,empty or not);slices of texts. -/
namespace Go.Proofs.YtdnochjajoiooaaDoor
open Go.RowKit
def RowAt (w:World) (A:Option Addr) (xs:List Value):Prop:=∀j u,xs[j]?=some u→ ∃ad,A=some ad∧w.cell? (ad.add j)=some u
section
variable {P:Program} (w:World)
end
theorem cellLt {w:World} {a:Addr} {v:Value} (h:w.cell? a=some v):a.block<w.heap.size:=by
 unfold World.cell? at h
 by_cases hl:a.block<w.heap.size
 ·exact hl
 ·rw[Array.getElem?_eq_none (by omega)]at h;cases h
theorem add_block (a:Addr) (n:Nat):(a.add n).block=a.block:=by unfold Addr.add;split <;> rfl
theorem RowAt.below {w w':World} {A:Option Addr} {xs:List Value} (h:RowAt w A xs) (hb:Below w.heap.size w w'):RowAt w' A xs:=fun j u hu=>by
 obtain⟨ad,e,hc⟩:=h j u hu
 exact⟨ad,e,(hb.cell (cellLt hc)).trans hc⟩
theorem RowAt.own {w:World} {base:Nat} {e:TypeId} {size n c:Nat} {A:Option Addr} {xs:List Value} (h:w.ownsRow base e size (.slice A n c) n xs):RowAt w A xs:=fun j u hu=>by
 cases A with
 |some ad=>exact⟨ad,rfl,by
   have:=h.cells (g:=ad.block) rfl j u hu
   rcases h.2 with⟨hv,_⟩|⟨g,cap,cur,hv,_⟩
   ·cases hv
   ·injection hv with hv;injection hv with hv;subst hv;exact this⟩
 |none=>
  rcases h.2 with⟨_,hn⟩|⟨g,cap,cur,hv,_⟩
  ·have h1:=h.1;subst hn;have:xs=[]:=List.eq_nil_of_length_eq_zero (by simpa using h1)
   subst this;simp at hu
  ·cases hv
theorem ownsRow_slice {w:World} {base n:Nat} {e:TypeId} {size:Nat} {v:Value} {xs:List Value} (h:w.ownsRow base e size v n xs):∃A c,v=.slice A n c:=by
 rcases h.2 with⟨rfl,rfl⟩|⟨g,cap,cur,rfl,_⟩
 ·exact⟨_,_,rfl⟩
 ·exact⟨_,_,rfl⟩
end Go.Proofs.YtdnochjajoiooaaDoor
/- Plain laws:a number's text,there and back. -/
namespace Go.Proofs.YtdnochjajoiooaaDoor
open Go.RowKit
theorem itoa_nat (i:Nat):Lib.itoa (i:Int)=Lib.decDigits i:=by simp[Lib.itoa]
end Go.Proofs.YtdnochjajoiooaaDoor
