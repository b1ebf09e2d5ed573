/- Plain laws of layer 2 (names and numbers): lists of bytes, no program in sight. Plain laws of bytes, signs, literals, classes and sets of four words; no program in sight. Plain laws of reading signs, literals and classes (layer 3) and words (layer 6): lists of bytes, no program in sight. -/
import Derived.Lib.Hide
import Derived.Lib.Strings
import Derived.Lib.IndexBytes
import Derived.Lib.ItoaNum
import Derived.Lib.ItoaLen
import Derived.Lib.Bytealg
import Derived.WalkKit
import Derived.Lib.TrailingZeros
namespace Go.Proofs.YtpfokabdpmjobaaGreatDoor
open Go.RowKit
def isLetter (b:Int):Bool:=decide (97≤b∧b≤122∨65≤b∧b≤90∨b=95)
def isDigit (b:Int):Bool:=decide (48≤b∧b≤57)
def alnum (c:UInt8):Bool:=isLetter c.toNat||isDigit c.toNat
def takeL:List UInt8→List UInt8
 |[]=>[]
 |c::r=>if isLetter c.toNat then c::r.takeWhile alnum else[]
def mayL (l:List UInt8):Bool:=decide (l≠[]∧l.length≤32∧takeL l=l)
theorem ret_bool {a b:Bool} (h:a=b):Ending.returned (.bool a)=.returned (.bool b):=by rw[h]
theorem ret_int {k:IntKind} {a b:Int} (h:a=b):Ending.returned (.int k a)=.returned (.int k b):=by rw[h]
theorem str_ext {a b:ByteArray} (h:a.data.toList=b.data.toList):a=b:=by rw[←Lib.mk_data a,←Lib.mk_data b,h]
theorem sz_data (s:ByteArray):s.data.toList.length=s.size:=(Lib.size_eq s).symm
theorem bytes_pos (s:ByteArray) (h:0<s.size):s.data.toList=s[0]::s.data.toList.drop 1:=by
 have h1:=Lib.data_getElem? s 0 h
 cases e:s.data.toList with
 |nil=>rw[e]at h1;simp at h1
 |cons a r=>rw[e]at h1;simp at h1;rw[h1];rfl
theorem bytes_ne (s:ByteArray) (h:0<s.size):s.toList.isEmpty=false∧ ¬s.toList=[]:=by
 rw[Lib.toList_data,bytes_pos s h];simp
theorem bytes_none (s:ByteArray) (h:¬0<s.size):s.toList.isEmpty=true∧s.toList=[]∧s.data.toList=[]:=by
 have:s.data.toList=[]:=List.eq_nil_of_length_eq_zero (by rw[sz_data];omega)
 rw[Lib.toList_data,this];simp
theorem drop_at (s:ByteArray) (k:Nat) (h:k<s.size):s.data.toList.drop k=s[k]::s.data.toList.drop (k+1):=by
 rw[List.drop_eq_getElem_cons (by rw[sz_data];exact h)];congr 1
theorem take_at (s:ByteArray) (k:Nat) (h:k<s.size):s.data.toList.take (k+1)=s.data.toList.take k++[s[k]]:=by
 rw[List.take_succ_eq_append_getElem (by rw[sz_data];exact h)];rfl
theorem take_all (s:ByteArray) (k:Nat) (h:s.size≤k):s.data.toList.take k=s.data.toList:=List.take_of_length_le (by rw[sz_data];exact h)
theorem takeL_letter (s:ByteArray) (h:0<s.size) (hl:isLetter s[0].toNat=true):takeL s.data.toList=s[0]::(s.data.toList.drop 1).takeWhile alnum:=by
 rw[bytes_pos s h];simp[takeL,hl]
theorem takeL_noletter (s:ByteArray) (h:0<s.size) (hl:isLetter s[0].toNat=false):takeL s.data.toList=[]:=by
 rw[bytes_pos s h];simp[takeL,hl]
theorem takeWhile_yes (s:ByteArray) (k:Nat) (h:k<s.size) (hp:alnum s[k]=true):
  s.data.toList.take k++(s.data.toList.drop k).takeWhile alnum=s.data.toList.take (k+1)++(s.data.toList.drop (k+1)).takeWhile alnum:=by
 rw[drop_at s k h,List.takeWhile_cons_of_pos hp,take_at s k h,List.append_assoc];rfl
theorem takeWhile_no (s:ByteArray) (k:Nat) (h:k<s.size) (hp:alnum s[k]=false):(s.data.toList.drop k).takeWhile alnum=[]:=by
 rw[drop_at s k h,List.takeWhile_cons_of_neg (by simp[hp])]
theorem takeWhile_end (s:ByteArray) (k:Nat) (h:s.size≤k):(s.data.toList.drop k).takeWhile alnum=[]:=by
 rw[List.drop_eq_nil_of_le (by rw[sz_data];exact h)];rfl
theorem takeL_prefix (l:List UInt8):takeL l <+: l:=by
 cases l with
 |nil=>exact List.prefix_rfl
 |cons c r=>
  by_cases h:isLetter c.toNat
  ·simp only[takeL,h,if_true];exact(List.prefix_cons_inj c).2 (List.takeWhile_prefix _)
  ·simp only[takeL,h];exact List.nil_prefix
theorem takeL_le (l:List UInt8):(takeL l).length≤l.length:=(takeL_prefix l).length_le
theorem takeL_eq_iff (l:List UInt8):takeL l=l↔(takeL l).length=l.length:=
 ⟨fun h=>by rw[h],fun h=>(takeL_prefix l).eq_of_length h⟩
theorem takeL_idem (l:List UInt8):takeL (takeL l)=takeL l:=by
 cases l with
 |nil=>rfl
 |cons c r=>
  by_cases h:isLetter c.toNat
  ·simp only[takeL,h,if_true]
   congr 1
   have:∀(r:List UInt8),(r.takeWhile alnum).takeWhile alnum=r.takeWhile alnum:=by
    intro r
    induction r with
    |nil=>rfl
    |cons a r ih=>by_cases ha:alnum a <;> simp[ha,ih]
   exact this r
  ·simp only[takeL,h];simp
def decVal (l:List UInt8):Nat:=l.foldl (fun a c=>10*a+(c.toNat-48)) 0
def allDig (l:List UInt8):Bool:=l.all fun c=>isDigit c.toNat
def numText (l:List UInt8):Bool:=decide (l≠[]∧allDig l=true∧ ¬(l.head?=some 48∧1<l.length))
def numL (l:List UInt8) (most:Int):Int×Int:=
 if numText l then(if most<decVal l then(0,40)else(decVal l,0))else(0,4)
theorem decVal_snoc (l:List UInt8) (c:UInt8):decVal (l++[c])=10*decVal l+(c.toNat-48):=by simp[decVal]
theorem allDig_snoc (l:List UInt8) (c:UInt8):allDig (l++[c])=(allDig l&&isDigit c.toNat):=by simp[allDig]
theorem isDigit_iff (b:Int):isDigit b=true↔48≤b∧b≤57:=by simp[isDigit]
theorem numL_form (l:List UInt8) (most:Int) (h:numText l=false):numL l most=(0,4):=by simp[numL,h]
theorem numText_bad (s:ByteArray) (k:Nat) (h:k<s.size) (hd:isDigit s[k].toNat=false):numText s.data.toList=false:=by
 have:allDig s.data.toList=false:=by
  rw[←List.take_append_drop k s.data.toList,drop_at s k h];simp[allDig,hd]
 simp[numText,this]
theorem numText_zero (s:ByteArray) (h:1<s.size) (hd:s[0].toNat=48):numText s.data.toList=false:=by
 have e:=bytes_pos s (by omega)
 have h2:s.data.toList.head?=some 48:=by rw[e];simp;exact UInt8.toNat_inj.1 hd
 have h3:1<s.data.toList.length:=by rw[sz_data];exact h
 simp[numText,h2];rw[Array.length_toList]at h3;intro _ _;exact h3
theorem numText_ok (s:ByteArray) (h:0<s.size) (hz:¬(s[0].toNat=48∧1<s.size)) (hd:allDig s.data.toList=true):numText s.data.toList=true:=by
 have e:=bytes_pos s h
 have h3:=sz_data s
 simp only[numText,decide_eq_true_eq]
 refine⟨by rw[e];simp,hd,?_⟩
 rintro⟨h1,h2⟩
 rw[e]at h1;simp at h1
 exact hz ⟨by rw[h1];rfl,by omega⟩
end Go.Proofs.YtpfokabdpmjobaaGreatDoor
/- append onto a row of the call's own,whatever slice the source is (nil,empty or not);slices of texts. -/
namespace Go.Proofs.YtpfokabdpmjobaaGreatDoor
open Go.RowKit
def RowAt (w:World) (A:Option Addr) (xs:List Value):Prop:=∀j u,xs[j]?=some u→ ∃ad,A=some ad∧w.cell? (ad.add j)=some u
section
variable {P:Program} (w:World)
end
theorem cellLt {w:World} {a:Addr} {v:Value} (h:w.cell? a=some v):a.block<w.heap.size:=by
 unfold World.cell? at h
 by_cases hl:a.block<w.heap.size
 ·exact hl
 ·rw[Array.getElem?_eq_none (by omega)]at h;cases h
theorem add_block (a:Addr) (n:Nat):(a.add n).block=a.block:=by unfold Addr.add;split <;> rfl
theorem RowAt.below {w w':World} {A:Option Addr} {xs:List Value} (h:RowAt w A xs) (hb:Below w.heap.size w w'):RowAt w' A xs:=fun j u hu=>by
 obtain⟨ad,e,hc⟩:=h j u hu
 exact⟨ad,e,(hb.cell (cellLt hc)).trans hc⟩
theorem RowAt.own {w:World} {base:Nat} {e:TypeId} {size n c:Nat} {A:Option Addr} {xs:List Value} (h:w.ownsRow base e size (.slice A n c) n xs):RowAt w A xs:=fun j u hu=>by
 cases A with
 |some ad=>exact⟨ad,rfl,by
   have:=h.cells (g:=ad.block) rfl j u hu
   rcases h.2 with⟨hv,_⟩|⟨g,cap,cur,hv,_⟩
   ·cases hv
   ·injection hv with hv;injection hv with hv;subst hv;exact this⟩
 |none=>
  rcases h.2 with⟨_,hn⟩|⟨g,cap,cur,hv,_⟩
  ·have h1:=h.1;subst hn;have:xs=[]:=List.eq_nil_of_length_eq_zero (by simpa using h1)
   subst this;simp at hu
  ·cases hv
theorem ownsRow_slice {w:World} {base n:Nat} {e:TypeId} {size:Nat} {v:Value} {xs:List Value} (h:w.ownsRow base e size v n xs):∃A c,v=.slice A n c:=by
 rcases h.2 with⟨rfl,rfl⟩|⟨g,cap,cur,rfl,_⟩
 ·exact⟨_,_,rfl⟩
 ·exact⟨_,_,rfl⟩
end Go.Proofs.YtpfokabdpmjobaaGreatDoor
/- Plain laws:a number's text,there and back. -/
namespace Go.Proofs.YtpfokabdpmjobaaGreatDoor
open Go.RowKit
theorem num_code (l:List UInt8) (most:Int):((numL l most).2=0∨((numL l most).1=0∧((numL l most).2=4∨(numL l most).2=40))):=by
 unfold numL;split
 ·split
  ·right;exact⟨rfl,.inr rfl⟩
  ·left;rfl
 ·right;exact⟨rfl,.inl rfl⟩
end Go.Proofs.YtpfokabdpmjobaaGreatDoor
namespace Go.Proofs.YtpfokabdpmjobaaGreatDoor
set_option linter.unusedSimpArgs false
set_option linter.unusedVariables false
def plainP (b:UInt8) (left:List UInt8):Prop:=(32≤b.toNat∧b.toNat≤126)∧b≠92∧b∉left
instance (b:UInt8) (left:List UInt8):Decidable (plainP b left):=by unfold plainP;infer_instance
def cut1 (c:UInt8):List UInt8→List UInt8×List UInt8×Bool
 |[]=>([],[],false)
 |b::l=>if b=c then([],l,true)else(b::(cut1 c l).1,(cut1 c l).2.1,(cut1 c l).2.2)
theorem cut1_index (c:UInt8):∀(l:List UInt8),(Lib.indexByte l c<0∧cut1 c l=(l,[],false))∨ ∃k:Nat,Lib.indexByte l c=k∧k<l.length∧cut1 c l=(l.take k,l.drop (k+1),true)
 |[]=>.inl ⟨by simp[Lib.indexByte],rfl⟩
 |b::l=>by
  by_cases h:b=c
  ·subst h;exact .inr ⟨0,by simp[Lib.indexByte],by simp,by simp[cut1]⟩
  ·have h1:(b==c)=false:=by simpa using h
   rcases cut1_index c l with⟨h2,h3⟩|⟨k,h2,h3,h4⟩
   ·refine .inl ⟨?_,by simp[cut1,h,h3]⟩
    have:Lib.indexByte l c = -1∨0≤Lib.indexByte l c:=by
     have:=Lib.indexByte_ge l c
     omega
    simp only[Lib.indexByte,h1]
    rcases this with e|e
    ·simp[e]
    ·omega
   ·refine .inr ⟨k+1,?_,by simp only[List.length_cons];omega,by simp[cut1,h,h4]⟩
    simp only[Lib.indexByte,h1,h2]
    have:((k:Int) == -1)=false:=by simp only[beq_eq_false_iff_ne];omega
    simp[this]
theorem cut1_len (c:UInt8) (l:List UInt8):(cut1 c l).1.length≤l.length∧(cut1 c l).2.1.length≤l.length:=by
 rcases cut1_index c l with⟨_,h⟩|⟨k,_,_,h⟩ <;> rw[h] <;> simp <;> omega
end Go.Proofs.YtpfokabdpmjobaaGreatDoor
/- Plain laws of a word's bits,lowest first;no program in sight. -/
namespace Go.Proofs.YtpfokabdpmjobaaGreatDoor
set_option linter.unusedSimpArgs false
set_option linter.unusedVariables false
end Go.Proofs.YtpfokabdpmjobaaGreatDoor
namespace Go.Proofs.YtpfokabdpmjobaaGreatDoor
set_option linter.unusedSimpArgs false
set_option linter.unusedVariables false
inductive SR where
 |ok (b:UInt8) (n:Nat)
 |no (p:Nat) (e:Nat)
deriving DecidableEq
def hexV (b:UInt8):Option Nat:=
 if 48≤b.toNat∧b.toNat≤57 then some (b.toNat-48)
 else if 97≤b.toNat∧b.toNat≤102 then some (b.toNat-87)
 else if 65≤b.toNat∧b.toNat≤70 then some (b.toNat-55)else none
theorem hexV_lt {b:UInt8} {x:Nat} (h:hexV b=some x):x<16:=by
 unfold hexV at h
 split at h
 ·cases h;omega
 split at h
 ·cases h;omega
 split at h
 ·cases h;omega
 ·cases h
def hexR (t:List UInt8) (a:Nat):SR:=
 match t[a]? with
 |none=>.no t.length 8
 |some c=>match hexV c with
  |none=>.no a 4
  |some x=>match t[a+1]? with
   |none=>.no t.length 8
   |some d=>match hexV d with
    |none=>.no (a+1) 4
    |some y=>.ok (UInt8.ofNat (16*x+y)) (a+2)
def meantB (left:List UInt8) (c:UInt8):Option UInt8:=
 if c∈left then some c else if c=110 then some 10 else if c=114 then some 13 else if c=116 then some 9 else if c=92 then some 92 else none
def signR (left:List UInt8) (t:List UInt8) (a:Nat):SR:=
 match t[a]? with
 |none=>.no t.length 8
 |some b=>
  if b=92 then
   (match t[a+1]? with
    |none=>.no t.length 8
    |some c=>match meantB left c with
     |some v=>.ok v (a+2)
     |none=>if c=120 then hexR t (a+2)else .no (a+1) 4)
  else if plainP b left then .ok b (a+1)else .no a 4
theorem hexR_ok {t:List UInt8} {a n:Nat} {b:UInt8} (h:hexR t a=.ok b n):n=a+2∧n≤t.length:=by
 unfold hexR at h
 split at h
 ·cases h
 split at h
 ·cases h
 split at h
 ·cases h
 rename_i d hd
 split at h
 ·cases h
 ·cases h
  have:=(List.getElem?_eq_some_iff.1 hd).1
  exact⟨rfl,by omega⟩
theorem hexR_no {t:List UInt8} {a p e:Nat} (h:hexR t a=.no p e):(e=8∧p=t.length)∨(e=4∧a≤p∧p<t.length):=by
 unfold hexR at h
 split at h
 ·cases h;exact .inl ⟨rfl,rfl⟩
 rename_i c hc
 have hc:=(List.getElem?_eq_some_iff.1 hc).1
 split at h
 ·cases h;exact .inr ⟨rfl,by omega,hc⟩
 split at h
 ·cases h;exact .inl ⟨rfl,rfl⟩
 rename_i d hd
 have hd:=(List.getElem?_eq_some_iff.1 hd).1
 split at h
 ·cases h;exact .inr ⟨rfl,by omega,hd⟩
 ·cases h
theorem signR_ok {left t:List UInt8} {a n:Nat} {b:UInt8} (h:signR left t a=.ok b n):a<n∧n≤t.length:=by
 unfold signR at h
 split at h
 ·cases h
 rename_i c hc
 have hc:=(List.getElem?_eq_some_iff.1 hc).1
 split at h
 ·split at h
  ·cases h
  rename_i d hd
  have hd:=(List.getElem?_eq_some_iff.1 hd).1
  split at h
  ·cases h;exact⟨by omega,by omega⟩
  split at h
  ·have:=hexR_ok h;omega
  ·cases h
 ·split at h
  ·cases h;exact⟨by omega,by omega⟩
  ·cases h
theorem signR_no {left t:List UInt8} {a p e:Nat} (h:signR left t a=.no p e):(e=8∧p=t.length)∨(e=4∧a≤p∧p<t.length):=by
 unfold signR at h
 split at h
 ·cases h;exact .inl ⟨rfl,rfl⟩
 rename_i c hc
 have hc:=(List.getElem?_eq_some_iff.1 hc).1
 split at h
 ·split at h
  ·cases h;exact .inl ⟨rfl,rfl⟩
  rename_i d hd
  have hd:=(List.getElem?_eq_some_iff.1 hd).1
  split at h
  ·cases h
  split at h
  ·rcases hexR_no h with h|⟨h1,h2,h3⟩
   ·exact .inl h
   ·exact .inr ⟨h1,by omega,h3⟩
  ·cases h;exact .inr ⟨rfl,by omega,hd⟩
 ·split at h
  ·cases h
  ·cases h;exact .inr ⟨rfl,by omega,hc⟩
def runR (left:List UInt8) (en:UInt8) (t:List UInt8):Nat→Nat→List UInt8×Nat×Nat
 |0,a=>([],a,0)
 |f+1,a=>
  if t[a]?=some en then([],a,0)
  else match signR left t a with
   |.no p e=>([],p,e)
   |.ok b n=>(b::(runR left en t f n).1,(runR left en t f n).2)
def unlitR (t:List UInt8):List UInt8×Nat×Nat:=
 match t[0]? with
 |none=>([],0,8)
 |some c=>
  if c≠34 then([],0,4)
  else
   let r:=runR [34] 34 t t.length 1
   if r.2.2≠0 then([],r.2.1,r.2.2)else if 255<r.1.length then([],0,40)else(r.1,r.2.1+1,0)
abbrev clsL:List UInt8:=[93,45,94]
def highR (t:List UInt8) (a:UInt8) (n:Nat):SR:=if t[n]?=some 45 then signR clsL t (n+1)else .ok a n
def rangesR (t:List UInt8):Nat→Nat→List (UInt8×UInt8)×Nat×Nat
 |0,a=>([],a,0)
 |f+1,a=>
  if t[a]?=some 93 then([],a,0)
  else match signR clsL t a with
   |.no p e=>([],p,e)
   |.ok b n=>match highR t b n with
    |.no p e=>([],p,e)
    |.ok c m=>if c.toNat<b.toNat then([],a,4)else((b,c)::(rangesR t f m).1,(rangesR t f m).2)
def inRanges (l:List (UInt8×UInt8)) (k:Nat):Bool:=l.any fun r=>decide (r.1.toNat≤k∧k≤r.2.toNat)
def wordB (f:Nat→Bool) (i:Nat):Nat→Nat
 |0=>0
 |n+1=>wordB f i n+if f (i*64+n)then 2^n else 0
def wordF (f:Nat→Bool) (i:Nat):Nat:=wordB f i 64
def unclsR (t:List UInt8):(Nat→Bool)×Nat×Nat:=
 match t[0]? with
 |none=>(fun _=>false,0,8)
 |some c=>
  if c≠91 then(fun _=>false,0,4)
  else
   let but:=decide (t[1]?=some 94)
   let r:=rangesR t t.length (if but then 2 else 1)
   if r.2.2≠0 then(fun _=>false,r.2.1,r.2.2)else(fun k=>xor but (inRanges r.1 k),r.2.1+1,0)
structure Wd where
 kind:Nat
 frm:Nat
 til:Nat
 text:List UInt8
 s0:Nat
 s1:Nat
 s2:Nat
 s3:Nat
 low:Int
 high:Int
deriving DecidableEq
def partB (c:UInt8):Bool:=c=32||c=9||c=13||c=10
def skipM:Bool→List UInt8→Nat
 |_,[]=>0
 |true,c::r=>1+skipM (c != 10) r
 |false,c::r=>if c=35 then 1+skipM true r else if partB c then 1+skipM false r else 0
theorem skipM_le:∀(b:Bool) (l:List UInt8),skipM b l≤l.length
 |_,[]=>by simp[skipM]
 |true,c::r=>by have:=skipM_le (c != 10) r;simp only[skipM,List.length_cons];omega
 |false,c::r=>by
  have h1:=skipM_le true r;have h2:=skipM_le false r
  simp only[skipM,List.length_cons]
  split
  ·omega
  split <;> omega
def signK (c:UInt8):Option Nat:=
 if c=47 then some 3 else if c=38 then some 4 else if c=33 then some 5 else if c=63 then some 6 else if c=42 then some 7 else if c=43 then some 8
 else if c=40 then some 9 else if c=41 then some 10 else if c=62 then some 12 else if c=58 then some 13 else none
def countL (l:List UInt8):Option (Nat×Int×Int):=
 let c:=cut1 125 l
 if c.2.2=false then none
 else
  let d:=cut1 44 c.1
  let lo:=numL d.1 99
  if lo.2≠0 then none
  else if d.2.2=false then some (c.1.length,lo.1,lo.1)
  else if d.2.1=[]then some (c.1.length,lo.1, -1)
  else
   let hi:=numL d.2.1 99
   if hi.2≠0∨hi.1<lo.1 then none else some (c.1.length,lo.1,hi.1)
def fullN:Nat:=18446744073709551615
def headW (t:List UInt8):Option Wd:=
 match t[0]? with
 |none=>none
 |some c=>
  if isLetter c.toNat then
   (if (takeL t).length≤32 then some ⟨1,0,(takeL t).length,takeL t,0,0,0,0,0,0⟩else none)
  else if c=123 then(countL (t.drop 1)).map fun x=>⟨14,0,x.1+2,[],0,0,0,0,x.2.1,x.2.2⟩
  else if c=34 then(if (unlitR t).2.2=0 then some ⟨15,0,(unlitR t).2.1,(unlitR t).1,0,0,0,0,0,0⟩else none)
  else if c=91 then(if (unclsR t).2.2=0 then some ⟨16,0,(unclsR t).2.1,[],wordF (unclsR t).1 0,wordF (unclsR t).1 1,wordF (unclsR t).1 2,wordF (unclsR t).1 3,0,0⟩else none)
  else if c=46 then some ⟨16,0,1,[],fullN,fullN,fullN,fullN,0,0⟩
  else if c=60 then(if t[1]?=some 45 then some ⟨2,0,2,[],0,0,0,0,0,0⟩else some ⟨11,0,1,[],0,0,0,0,0,0⟩)
  else(signK c).map fun k=>⟨k,0,1,[],0,0,0,0,0,0⟩
def wordL (s:List UInt8) (a:Nat):Option Wd:=(headW (s.drop a)).map fun w=>{w with frm:=a,til:=a+w.til}
def nextL (s:List UInt8) (a:Nat):Nat:=a+skipM false (s.drop a)
def rawL (s:List UInt8):Nat→Nat→List Wd×Option Nat
 |0,_=>([],none)
 |f+1,a=>
  if s.length≤a then([],none)
  else match wordL s a with
   |none=>([],some a)
   |some w=>(w::(rawL s f (nextL s w.til)).1,(rawL s f (nextL s w.til)).2)
def wordsL (s:List UInt8):List Wd×Nat×Nat:=
 if 65536<s.length then([],65536,40)
 else match (rawL s (s.length+1) (nextL s 0)).2 with
  |some p=>([],p,4)
  |none=>((rawL s (s.length+1) (nextL s 0)).1,0,0)
end Go.Proofs.YtpfokabdpmjobaaGreatDoor
/- Plain laws of these:enough fuel;what lies behind does not matter. -/
namespace Go.Proofs.YtpfokabdpmjobaaGreatDoor
set_option linter.unusedSimpArgs false
set_option linter.unusedVariables false
theorem runR_stable (left:List UInt8) (en:UInt8) (t:List UInt8):∀(f g a:Nat),a≤t.length→t.length<a+f→t.length<a+g→runR left en t f a=runR left en t g a
 |0,_,a,ha,hf,_=>by omega
 |_,0,a,ha,_,hg=>by omega
 |f+1,g+1,a,ha,hf,hg=>by
  simp only[runR]
  split
  ·rfl
  cases e:signR left t a with
  |no p e=>rfl
  |ok b n=>
   have h:=signR_ok e
   simp only
   rw[runR_stable left en t f g n h.2 (by omega) (by omega)]
def RN (left:List UInt8) (en:UInt8) (t:List UInt8) (a:Nat):List UInt8×Nat×Nat:=runR left en t (t.length+1-a) a
theorem RN_end {left:List UInt8} {en:UInt8} {t:List UInt8} {a:Nat} (h:t[a]?=some en):RN left en t a=([],a,0):=by
 have hl:=(List.getElem?_eq_some_iff.1 h).1
 unfold RN
 obtain⟨k,hk⟩:∃k,t.length+1-a=k+1:=⟨t.length-a,by omega⟩
 rw[hk,runR,if_pos h]
theorem RN_no {left:List UInt8} {en:UInt8} {t:List UInt8} {a p e:Nat} (ha:a≤t.length) (h:t[a]? ≠ some en) (hs:signR left t a=.no p e):RN left en t a=([],p,e):=by
 unfold RN
 obtain⟨k,hk⟩:∃k,t.length+1-a=k+1:=⟨t.length-a,by omega⟩
 rw[hk,runR,if_neg h,hs]
theorem RN_ok {left:List UInt8} {en:UInt8} {t:List UInt8} {a n:Nat} {b:UInt8} (h:t[a]? ≠ some en) (hs:signR left t a=.ok b n):RN left en t a=(b::(RN left en t n).1,(RN left en t n).2):=by
 have hl:=signR_ok hs
 unfold RN
 obtain⟨k,hk⟩:∃k,t.length+1-a=k+1:=⟨t.length-a,by omega⟩
 rw[hk,runR,if_neg h,hs]
 simp only
 rw[runR_stable left en t k (t.length+1-n) n hl.2 (by omega) (by omega)]
theorem RN_len (left:List UInt8) (en:UInt8) (t:List UInt8):∀(f a:Nat),a≤t.length→t.length<a+f→(runR left en t f a).1.length+a≤t.length∧((runR left en t f a).2.2=0→t[(runR left en t f a).2.1]?=some en∧a+(runR left en t f a).1.length≤(runR left en t f a).2.1)
 |0,a,ha,hf=>by omega
 |f+1,a,ha,hf=>by
  simp only[runR]
  split
  ·rename_i h
   exact⟨by simpa using ha,fun _=>⟨h,by simp⟩⟩
  cases e:signR left t a with
  |no p e=>
   have:=signR_no (by assumption)
   exact⟨by simpa using ha,fun h=>by simp only at h;omega⟩
  |ok b n=>
   have h:=signR_ok e
   have ih:=RN_len left en t f n h.2 (by omega)
   simp only[List.length_cons]
   refine⟨by omega,fun h0=> ?_⟩
   have:=ih.2 h0
   exact⟨this.1,by omega⟩
theorem highR_ok {t:List UInt8} {a b:UInt8} {n m:Nat} (hn:n≤t.length) (h:highR t a n=.ok b m):n≤m∧m≤t.length:=by
 unfold highR at h
 split at h
 ·have:=signR_ok h;omega
 ·cases h;exact⟨by omega,hn⟩
theorem highR_no {t:List UInt8} {a:UInt8} {n p e:Nat} (h:highR t a n=.no p e):(e=8∧p=t.length)∨(e=4∧n≤p∧p<t.length):=by
 unfold highR at h
 split at h
 ·rcases signR_no h with h|h
  ·exact .inl h
  ·exact .inr ⟨h.1,by omega,h.2.2⟩
 ·cases h
theorem rangesR_stable (t:List UInt8):∀(f g a:Nat),a≤t.length→t.length<a+f→t.length<a+g→rangesR t f a=rangesR t g a
 |0,_,a,ha,hf,_=>by omega
 |_,0,a,ha,_,hg=>by omega
 |f+1,g+1,a,ha,hf,hg=>by
  simp only[rangesR]
  split
  ·rfl
  cases e:signR clsL t a with
  |no p e=>rfl
  |ok b n=>
   have h:=signR_ok e
   simp only
   cases e2:highR t b n with
   |no p e=>rfl
   |ok c m=>
    have h2:=highR_ok h.2 e2
    simp only
    rw[rangesR_stable t f g m h2.2 (by omega) (by omega)]
def GN (t:List UInt8) (a:Nat):List (UInt8×UInt8)×Nat×Nat:=rangesR t (t.length+1-a) a
theorem GN_end {t:List UInt8} {a:Nat} (h:t[a]?=some 93):GN t a=([],a,0):=by
 have hl:=(List.getElem?_eq_some_iff.1 h).1
 unfold GN
 obtain⟨k,hk⟩:∃k,t.length+1-a=k+1:=⟨t.length-a,by omega⟩
 rw[hk,rangesR,if_pos h]
theorem GN_no {t:List UInt8} {a p e:Nat} (ha:a≤t.length) (h:t[a]? ≠ some 93) (hs:signR clsL t a=.no p e):GN t a=([],p,e):=by
 unfold GN
 obtain⟨k,hk⟩:∃k,t.length+1-a=k+1:=⟨t.length-a,by omega⟩
 rw[hk,rangesR,if_neg h,hs]
theorem GN_high {t:List UInt8} {a n p e:Nat} {b:UInt8} (ha:a≤t.length) (h:t[a]? ≠ some 93) (hs:signR clsL t a=.ok b n) (hh:highR t b n=.no p e):GN t a=([],p,e):=by
 unfold GN
 obtain⟨k,hk⟩:∃k,t.length+1-a=k+1:=⟨t.length-a,by omega⟩
 rw[hk,rangesR,if_neg h,hs]
 simp only[hh]
theorem GN_less {t:List UInt8} {a n m:Nat} {b c:UInt8} (ha:a≤t.length) (h:t[a]? ≠ some 93) (hs:signR clsL t a=.ok b n) (hh:highR t b n=.ok c m) (hl:c.toNat<b.toNat):GN t a=([],a,4):=by
 unfold GN
 obtain⟨k,hk⟩:∃k,t.length+1-a=k+1:=⟨t.length-a,by omega⟩
 rw[hk,rangesR,if_neg h,hs]
 simp only[hh,if_pos hl]
theorem GN_ok {t:List UInt8} {a n m:Nat} {b c:UInt8} (h:t[a]? ≠ some 93) (hs:signR clsL t a=.ok b n) (hh:highR t b n=.ok c m) (hl:¬c.toNat<b.toNat):GN t a=((b,c)::(GN t m).1,(GN t m).2):=by
 have h1:=signR_ok hs
 have h2:=highR_ok h1.2 hh
 unfold GN
 obtain⟨k,hk⟩:∃k,t.length+1-a=k+1:=⟨t.length-a,by omega⟩
 rw[hk,rangesR,if_neg h,hs]
 simp only[hh,if_neg hl]
 rw[rangesR_stable t k (t.length+1-m) m h2.2 (by omega) (by omega)]
theorem GN_place (t:List UInt8):∀f a,a≤t.length→(rangesR t f a).2.1≤t.length
 |0,a,ha=>ha
 |f+1,a,ha=>by
  simp only[rangesR]
  split
  ·exact ha
  cases e:signR clsL t a with
  |no p k=>rcases signR_no e with h|h <;> simp only <;> omega
  |ok b n=>
   have h1:=signR_ok e
   simp only
   cases e2:highR t b n with
   |no p k=>rcases highR_no e2 with h|h <;> simp only <;> omega
   |ok c m=>
    have h2:=highR_ok h1.2 e2
    simp only
    split
    ·exact ha
    ·exact GN_place t f m h2.2
end Go.Proofs.YtpfokabdpmjobaaGreatDoor
