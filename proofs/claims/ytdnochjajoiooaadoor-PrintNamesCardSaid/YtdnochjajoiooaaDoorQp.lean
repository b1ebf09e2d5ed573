/- The contract of quote.plain. -/
import Derived.Test.YtdnochjajoiooaaDoorQb
import Derived.Test.YtdnochjajoiooaaDoorQm
import Derived.Test.YtdnochjajoiooaaDoorShelf
namespace Go.Proofs.YtdnochjajoiooaaDoor
open Go.RowKit
set_option linter.unusedSimpArgs false
set_option linter.unusedVariables false
theorem index_lt:∀(l:List UInt8) (b:UInt8),(Lib.indexByte l b<0↔b∉l)
 |[],b=>by simp[Lib.indexByte]
 |x::l,b=>by
  have ih:=index_lt l b
  have h:=Lib.indexByte_ge l b
  unfold Lib.indexByte
  by_cases hx:x=b
  ·subst hx;simp
  ·have hx':¬b=x:=fun e=>hx e.symm
   rw[if_neg (by simpa using hx)]
   simp only[List.mem_cons,not_or,hx',not_false_eq_true,true_and,←ih]
   by_cases h1:Lib.indexByte l b = -1
   ·rw[if_pos (by simpa using h1),h1]
   ·rw[if_neg (by simpa using h1)];omega
theorem toU8 (b:UInt8):((b.toNat:Int).toNat).toUInt8=b:=by simp
theorem eq92 (b:UInt8):((b.toNat:Int)==92)=decide (b=92):=by
 rw[Bool.eq_iff_iff,beq_iff_eq,decide_eq_true_eq,←UInt8.toNat_inj]
 show _↔b.toNat=92
 omega
set_option maxHeartbeats 1000000 in
theorem plain_any (b:UInt8) (left:ByteArray) (w:World):
  Calls Tryd.prog 84 #[.int .u8 (b.toNat:Int),.string left] w fun e w'=>e=.returned (.bool (decide (plainP b left.data.toList)))∧w'=w:=by
 go_enter Tryd.func84,Tryd.ntmps84
 by_cases h1:(32:Int)≤(b.toNat:Int)
 ·by_cases h2:(b.toNat:Int)≤126
  ·have h3:=eq92 b
   by_cases h4:b=92
   ·rw[decide_eq_true h4]at h3
    have h6:(b.toNat:Int)=92:=by simpa using h3
    have hp:¬plainP b left.data.toList:=fun h=>h.2.1 h4
    go_wp2
    go_ret
    exact⟨by first|rfl|(rw[decide_eq_false hp];rfl)|simp[hp],rfl⟩
   ·rw[decide_eq_false h4]at h3
    have h6:¬(b.toNat:Int)=92:=by simpa using h3
    have h9:((b.toNat:Int) != 92)=true:=by simpa using h6
    have h5:=index_lt left.data.toList b
    by_cases h7:b∈left.data.toList
    ·have hp:¬plainP b left.data.toList:=fun h=>h.2.2 h7
     have h8:¬Lib.indexByte left.data.toList b<0:=fun h=>h5.1 h h7
     go_wp2_with (go_at_call 85;refine(Tryd.strings_IndexByte left (b.toNat:Int) _).mono ?_;rintro e w' ⟨rfl,rfl⟩;rw[toU8])
     go_ret
     exact⟨by first|rfl|(rw[decide_eq_false hp];rfl)|simp[hp],rfl⟩
    ·have hp:plainP b left.data.toList:=⟨⟨by omega,by omega⟩,h4,h7⟩
     have h8:=h5.2 h7
     go_wp2_with (go_at_call 85;refine(Tryd.strings_IndexByte left (b.toNat:Int) _).mono ?_;rintro e w' ⟨rfl,rfl⟩;rw[toU8])
     go_ret
     exact⟨by first|rfl|(rw[decide_eq_true hp];rfl)|simp[hp],rfl⟩
  ·have hp:¬plainP b left.data.toList:=fun h=>by have:=h.1.2;omega
   go_wp2
   go_ret
   exact⟨by first|rfl|(rw[decide_eq_false hp];rfl)|simp[hp],rfl⟩
 ·have hp:¬plainP b left.data.toList:=fun h=>by have:=h.1.1;omega
  go_wp2
  go_ret
  exact⟨by first|rfl|(rw[decide_eq_false hp];rfl)|simp[hp],rfl⟩
end Go.Proofs.YtdnochjajoiooaaDoor
