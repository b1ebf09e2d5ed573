/- The contracts of package name and of its reference, over this seat's translation. The contract of quote.plain. strings.Cut at a separator of one byte: its contract, and the plain law. -/
import Derived.Test.YtdnochjajoiooaaGreatDoorRows
import Derived.Test.YtdnochjajoiooaaGreatDoorPn
import Derived.Test.YtdnochjajoiooaaGreatDoorShelf
import Derived.WalkKit
import Derived.WalkSpells
import Derived.WalkLawsBesides
import Derived.Lib.LaidTab
import Derived.BigQuiet
import Derived.Deep.QuietTactic
import Derived.Test.YtdnochjajoiooaaGreatDoorQb
import Derived.Test.YtdnochjajoiooaaGreatDoorQm
import Derived.Below
import Derived.Lib.IndexBytes
import Derived.RegionTactic
namespace Go.Proofs.YtdnochjajoiooaaGreatDoor
open Go.RowKit
def Tab (w:World):Prop:=Lib.TabIs Tryz.prog w "internal/strconv.uint64pow10" .u64 Lib.pow10Tab
set_option maxHeartbeats 400000 in
theorem Eh (b:Int) (w:World):
  Calls Tryz.prog 85 #[.int .u8 b] w fun e w'=>e=.returned (.bool (AO b))/\w=w':=by
 go_enter Tryz.func85,Tryz.ntmps85
 go_wp2
 all_goals (go_ret;exact⟨Aj (by unfold AO;rw[Bool.eq_iff_iff];simp;omega),rfl⟩)
set_option maxHeartbeats 400000 in
theorem FH (b:Int) (w:World):
  Calls Tryz.prog 86 #[.int .u8 b] w fun e w'=>e=.returned (.bool (Dt b))/\w=w':=by
 go_enter Tryz.func86,Tryz.ntmps86
 go_wp2
 all_goals (go_ret;exact⟨Aj (by unfold Dt;rw[Bool.eq_iff_iff];simp;omega),rfl⟩)
set_option maxHeartbeats 400000 in
theorem Mx (s:ByteArray) (w:World) (hs:s.size<=281474976710656):
  Calls Tryz.prog 87 #[.string s] w fun e w'=>e=.returned (.string s)/\Below w.heap.size w w':=by
 go_enter Tryz.func87,Tryz.ntmps87
 go_wp2_with (first|(go_at_call 101;refine(Tryz.stringslite_Clone _ _ hs).mono ?_;rintro e w' ⟨rfl,hb⟩))
 go_ret;exact⟨rfl,hb⟩
set_option maxHeartbeats 400000 in
theorem Oj (s:ByteArray) (w:World) (hs:s.size<=281474976710656):
  Calls Tryz.prog 72 #[.string s] w fun e w'=>∃t:ByteArray,e=.returned (.string t)/\t.data.toList=B0 s.data.toList/\Below w.heap.size w w':=by
 by_cases h0:0<s.size
 ·have⟨e1,e2⟩:=Bb s h0;cases hl:AO s[0].toNat
  ·have HT:=qd (Hc s h0 hl);go_enter Tryz.func72,Tryz.ntmps72
   go_wp2_with (first|(go_at_call 85;refine(Eh _ _).mono ?_;rintro e w' ⟨rfl,rfl⟩))
   go_ret;exact⟨_,rfl,HT.out.symm,Below.refl _ _⟩
  ·have HT:=qd (Jl s h0 hl);go_enter Tryz.func72,Tryz.ntmps72
   go_wp2_with (first|(go_at_call 85;refine(Eh _ _).mono ?_;rintro e w' ⟨rfl,rfl⟩))
   go_loop [3] (fun n=>∃k:Nat,1<=k/\k<=s.size/\n=.int .i64 k/\B0 s.data.toList=s.data.toList.take k++(s.data.toList.drop k).takeWhile Ce) (fun n=>s.size-(intOf n).toNat)
   case atStart=>exact⟨1,by omega,by omega,rfl,by rw[HT.out];conv=>{rhs;arg 1;rw[Du s h0]};simp⟩
   case round=>
    obtain⟨k,hk1,hk,rfl,hT⟩:=hrel;have HK:=qd hT;clear hT;by_cases hlt:k<s.size
    ·go_wp2_with (first|(go_at_call 85;refine(Eh _ _).mono ?_;rintro e w' ⟨rfl,rfl⟩)|(go_at_call 86;refine(FH _ _).mono ?_;rintro e w' ⟨rfl,rfl⟩))
     ·refine⟨⟨k+1,by omega,by omega,by go_num,?_⟩,by simp[intOf];omega⟩;rw[HK.out,Et s k hlt (by simp[Ce, *])]
     ·refine⟨⟨k+1,by omega,by omega,by go_num,?_⟩,by simp[intOf];omega⟩;rw[HK.out,Et s k hlt (by simp[Ce, *])]
     ·refine(Mx _ _ (by simp;omega)).mono ?_;rintro e w' ⟨rfl,hb⟩;have HF:=qd (Jm s k hlt (by simp[Ce, *]));go_wp2_with fail
      go_ret;exact⟨_,rfl,by rw[HK.out,HF.out,Lib.extract_data];simp,hb⟩
    ·have HF:=qd (Io s k (by omega));go_wp2_with (first|(go_at_call 85;refine(Eh _ _).mono ?_;rintro e w' ⟨rfl,rfl⟩)|(go_at_call 86;refine(FH _ _).mono ?_;rintro e w' ⟨rfl,rfl⟩))
     refine(Mx _ _ (by simp;omega)).mono ?_;rintro e w' ⟨rfl,hb⟩;go_wp2_with fail
     go_ret;exact⟨_,rfl,by rw[HK.out,HF.out,Lib.extract_data];simp,hb⟩
 ·have⟨e1,e2,e3⟩:=AH s h0;go_enter Tryz.func72,Tryz.ntmps72
  go_wp2_with fail
  go_ret;exact⟨_,rfl,by rw[e3];rfl,Below.refl _ _⟩
theorem Uh (s t:ByteArray) (ht:t.data.toList=B0 s.data.toList) (h1:0<s.size) (h2:s.size<=32):((t.size:Int)==(s.size:Int))=Cb s.data.toList:=by
 have hn:s.data.toList≠[]:=by rw[Du s h1];simp
 have e1:=Ar s;have e2:=Ar t;rw[Bool.eq_iff_iff];simp only[Cb,decide_eq_true_eq,beq_iff_eq,<-ht];have e3:=(NN s.data.toList);rw[<-ht]at e3;rw[e3];exact⟨fun h=>⟨hn,by omega,by omega⟩,fun h=>by omega⟩
set_option maxHeartbeats 400000 in
theorem IB (s:ByteArray) (w:World) (hs:s.size<=281474976710656):
  Calls Tryz.prog 59 #[.string s] w fun e w'=>e=.returned (.bool (Cb s.data.toList))/\Below w.heap.size w w':=by
 by_cases h0:0<s.size
 ·have⟨e1,e2⟩:=Bb s h0;by_cases h1:s.size<=32
  ·go_enter Tryz.func59,Tryz.ntmps59
   go_wp2_with fail
   refine(Oj _ _ hs).mono ?_;rintro e w' ⟨t,rfl,ht,hb⟩;have HM:=qd (Uh s t ht h0 h1);clear ht;go_wp2_with fail
   go_ret;exact⟨Aj HM.out,hb⟩
  ·have HM:=qd (show Cb s.data.toList=false by have:=Ar s;simp only[Cb,decide_eq_false_iff_not];rintro⟨_,h,_⟩;omega);go_enter Tryz.func59,Tryz.ntmps59
   go_wp2_with fail
   go_ret;exact⟨Aj HM.out.symm,Below.refl _ _⟩
 ·have⟨e1,e2,e3⟩:=AH s h0;have HM:=qd (show Cb s.data.toList=false by rw[e3];rfl);go_enter Tryz.func59,Tryz.ntmps59
  go_wp2_with fail
  go_ret;exact⟨Aj HM.out.symm,Below.refl _ _⟩
theorem PK (w:World) (q:Nat) (os:Array Obj):Below w.heap.size w (Sort.grow (w.drewN q) os):=by
 refine⟨rfl,rfl,rfl,?_,?_⟩
 ·simp[Sort.grow]
 ·intro k hk;simp only[Sort.grow];rw[Array.getElem?_append_left (by simpa using hk)];rfl
set_option linter.unusedSimpArgs false
set_option linter.unusedVariables false
theorem KU:∀(l:List UInt8) (b:UInt8),(Lib.indexByte l b<0↔b∉l)
 |[],b=>by simp[Lib.indexByte]
 |x::l,b=>by
  have ih:=KU l b;have h:=Lib.indexByte_ge l b;unfold Lib.indexByte;by_cases hx:x=b
  ·subst hx;simp
  ·have hx':¬b=x:=fun e=>hx e.symm
   rw[if_neg (by simpa using hx)];simp only[List.mem_cons,not_or,hx',not_false_eq_true,true_and,<-ih];by_cases h1:Lib.indexByte l b = -1
   ·rw[if_pos (by simpa using h1),h1]
   ·rw[if_neg (by simpa using h1)];omega
theorem We (b:UInt8):((b.toNat:Int).toNat).toUInt8=b:=by simp
theorem XR (b:UInt8):((b.toNat:Int)==92)=decide (b=92):=by
 rw[Bool.eq_iff_iff,beq_iff_eq,decide_eq_true_eq,<-UInt8.toNat_inj];show _↔b.toNat=92;omega
set_option maxHeartbeats 1000000 in
theorem Hj (b:UInt8) (left:ByteArray) (w:World):
  Calls Tryz.prog 74 #[.int .u8 (b.toNat:Int),.string left] w fun e w'=>e=.returned (.bool (decide (Eo b left.data.toList)))/\w'=w:=by
 go_enter Tryz.func74,Tryz.ntmps74
 by_cases h1:(32:Int)<=(b.toNat:Int)
 ·by_cases h2:(b.toNat:Int)<=126
  ·have h3:=XR b;by_cases h4:b=92
   ·rw[decide_eq_true h4]at h3;have h6:(b.toNat:Int)=92:=by simpa using h3
    have hp:¬Eo b left.data.toList:=fun h=>h.2.1 h4
    go_wp2
    go_ret;exact⟨by first|rfl|(rw[decide_eq_false hp];rfl)|simp[hp],rfl⟩
   ·rw[decide_eq_false h4]at h3;have h6:¬(b.toNat:Int)=92:=by simpa using h3
    have h9:((b.toNat:Int) != 92)=true:=by simpa using h6
    have h5:=KU left.data.toList b;by_cases h7:b∈left.data.toList
    ·have hp:¬Eo b left.data.toList:=fun h=>h.2.2 h7
     have h8:¬Lib.indexByte left.data.toList b<0:=fun h=>h5.1 h h7
     go_wp2_with (go_at_call 75;refine(Tryz.strings_IndexByte left (b.toNat:Int) _).mono ?_;rintro e w' ⟨rfl,rfl⟩;rw[We])
     go_ret;exact⟨by first|rfl|(rw[decide_eq_false hp];rfl)|simp[hp],rfl⟩
    ·have hp:Eo b left.data.toList:=⟨⟨by omega,by omega⟩,h4,h7⟩;have h8:=h5.2 h7;go_wp2_with (go_at_call 75;refine(Tryz.strings_IndexByte left (b.toNat:Int) _).mono ?_;rintro e w' ⟨rfl,rfl⟩;rw[We])
     go_ret;exact⟨by first|rfl|(rw[decide_eq_true hp];rfl)|simp[hp],rfl⟩
  ·have hp:¬Eo b left.data.toList:=fun h=>by have:=h.1.2;omega
   go_wp2
   go_ret;exact⟨by first|rfl|(rw[decide_eq_false hp];rfl)|simp[hp],rfl⟩
 ·have hp:¬Eo b left.data.toList:=fun h=>by have:=h.1.1;omega
  go_wp2
  go_ret;exact⟨by first|rfl|(rw[decide_eq_false hp];rfl)|simp[hp],rfl⟩
def K6 (s:ByteArray) (c:UInt8) (w:World) (e:Ending) (w':World):Prop:=∃a b:ByteArray,e=.returned (.tuple #[.string a,.string b,.bool (Bq c s.data.toList).2.2])/\a.data.toList=(Bq c s.data.toList).1/\b.data.toList=(Bq c s.data.toList).2.1/\Below w.heap.size w w'
set_option maxRecDepth 100000 in
set_option maxHeartbeats 800000 in
theorem Su (s:ByteArray) (c:UInt8) (w:World) (hs:s.size<=281474976710656):
  Calls Tryz.prog 118 #[.string s,.string ⟨#[c]⟩] w (K6 s c w):=by
 have hsd:=Ar s;rcases Gu c s.data.toList with⟨h1,h2⟩|⟨k,h1,h2,h3⟩
 ·have HC:=qd h2;have HI:=qd h1;clear h1 h2 hsd;go_enter Tryz.func118,Tryz.ntmps118
  go_wp2_with (go_at_call 128;refine(Tryz.stringslite_Index_one s c _).mono ?_;rintro e w' ⟨rfl,rfl⟩;have hi:=HI.out;generalize Lib.indexByte s.data.toList c=z at hi ⊢)
  refine bodyPost_ret (v:=.tuple #[.string s,.string ⟨#[]⟩,.bool false]) (by simp[results,Tryz.results118,go_sem]) rfl ?_;unfold K6;rw[HC.out];exact⟨s,⟨#[]⟩,rfl,rfl,rfl,Below.refl _ _⟩
 ·have HC:=qd h3;have HI:=qd h1;have hk:k<s.size:=by omega
  clear h1 h2 h3 hsd;go_enter Tryz.func118,Tryz.ntmps118
  have hk0:(0:Int)<=(k:Int):=by omega
  have hk1:(k:Int)<=(s.size:Int):=by omega
  have hk2:(k:Int)+1<=(s.size:Int):=by omega
  have e1:ByteArray.size ⟨#[c]⟩=1:=rfl;go_wp2_with (go_at_call 128;refine(Tryz.stringslite_Index_one s c _).mono ?_;rintro e w' ⟨rfl,rfl⟩;rw[HI.out])
  have hw:IntKind.i64.wrap ((k:Int)+1)=(k:Int)+1:=IntWalk.i64_in _ (by omega);have ht1:((k:Int)+1).toNat=k+1:=by omega
  have h10:(0:Int)<=(k:Int)+1:=by omega
  go_region
  all_goals
   clear hw ht1;go_wp2_with fail
   go_ret3;unfold K6;rw[HC.out];exact⟨_,_,rfl,by simp,by rw[Lib.extract_to_end],(Below.refl _ _).drew⟩
theorem Dj (s:ByteArray) (c:UInt8) (w:World) (hs:s.size<=281474976710656):
  Calls Tryz.prog 107 #[.string s,.string ⟨#[c]⟩] w (K6 s c w):=by
 go_enter Tryz.func107,Tryz.ntmps107
 go_wp2_with fail
 refine(Su s c w hs).mono ?_;rintro e w' ⟨a,b,rfl,ha,hb,hB⟩;have H:=qd (And.intro ha hb);clear ha hb;obtain⟨f,hf⟩:∃f,f=(Bq c s.data.toList).2.2:=⟨_,rfl⟩;rw[<-hf];have HF:=qd hf;clear hf;go_wp2_with fail
 go_ret3;exact⟨a,b,by rw[<-HF.out];rfl,H.out.1,H.out.2,hB⟩
end Go.Proofs.YtdnochjajoiooaaGreatDoor
