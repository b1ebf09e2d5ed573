/- The contracts of bonsairef02's Letter, digit, Take. -/
import Derived.Test.YtdnochjajoiooaaDoorNa
namespace Go.Proofs.YtdnochjajoiooaaDoor
open Go.RowKit
set_option maxHeartbeats 400000 in
theorem rletter_any (b:Int) (w:World):
  Calls Tryd.prog 90 #[.int .u8 b] w fun e w'=>e=.returned (.bool (isLetter b))∧w=w':=by
 go_enter Tryd.func90,Tryd.ntmps90
 go_wp2
 all_goals (go_ret;exact⟨ret_bool (by unfold isLetter;rw[Bool.eq_iff_iff];simp;omega),rfl⟩)
set_option maxHeartbeats 400000 in
theorem rdigit_any (b:Int) (w:World):
  Calls Tryd.prog 91 #[.int .u8 b] w fun e w'=>e=.returned (.bool (isDigit b))∧w=w':=by
 go_enter Tryd.func91,Tryd.ntmps91
 go_wp2
 all_goals (go_ret;exact⟨ret_bool (by unfold isDigit;rw[Bool.eq_iff_iff];simp;omega),rfl⟩)
set_option maxHeartbeats 400000 in
theorem rtake_any (s:ByteArray) (w:World) (hs:s.size≤281474976710656):
  Calls Tryd.prog 83 #[.string s] w fun e w'=>∃t:ByteArray,e=.returned (.string t)∧t.data.toList=takeL s.data.toList∧w=w':=by
 by_cases h0:0<s.size
 ·have⟨e1,e2⟩:=bytes_ne s h0
  cases hl:isLetter s[0].toNat
  ·have HT:=Lib.hid (takeL_noletter s h0 hl)
   go_enter Tryd.func83,Tryd.ntmps83
   go_wp2_with (first|(go_at_call 90;refine(rletter_any _ _).mono ?_;rintro e w' ⟨rfl,rfl⟩))
   go_ret
   exact⟨_,rfl,HT.out.symm,rfl⟩
  ·have HT:=Lib.hid (takeL_letter s h0 hl)
   go_enter Tryd.func83,Tryd.ntmps83
   go_wp2_with (first|(go_at_call 90;refine(rletter_any _ _).mono ?_;rintro e w' ⟨rfl,rfl⟩))
   go_loop [3] (fun n=>∃k:Nat,k≤s.size∧n=.int .i64 k∧takeL s.data.toList=s.data.toList.take k++(s.data.toList.drop k).takeWhile alnum) (fun n=>s.size-(intOf n).toNat)
   case atStart=>exact⟨0,by omega,rfl,by rw[HT.out,List.drop_zero];conv=>{rhs;arg 2;rw[bytes_pos s h0]};simp[alnum,hl]⟩
   case round=>
    obtain⟨k,hk,rfl,hT⟩:=hrel
    have HK:=Lib.hid hT;clear hT
    by_cases hlt:k<s.size
    ·go_wp2_with (first|(go_at_call 90;refine(rletter_any _ _).mono ?_;rintro e w' ⟨rfl,rfl⟩)|(go_at_call 91;refine(rdigit_any _ _).mono ?_;rintro e w' ⟨rfl,rfl⟩))
     ·refine⟨⟨k+1,by omega,by go_num,?_⟩,by simp[intOf];omega⟩
      rw[HK.out,takeWhile_yes s k hlt (by simp[alnum, *])]
     ·refine⟨⟨k+1,by omega,by go_num,?_⟩,by simp[intOf];omega⟩
      rw[HK.out,takeWhile_yes s k hlt (by simp[alnum, *])]
     ·have HF:=Lib.hid (takeWhile_no s k hlt (by simp[alnum, *]))
      go_ret
      exact⟨_,rfl,by rw[HK.out,HF.out,Lib.extract_data];simp,rfl⟩
    ·have HF:=Lib.hid (takeWhile_end s k (by omega))
     go_wp2_with (first|(go_at_call 90;refine(rletter_any _ _).mono ?_;rintro e w' ⟨rfl,rfl⟩)|(go_at_call 91;refine(rdigit_any _ _).mono ?_;rintro e w' ⟨rfl,rfl⟩))
     go_ret
     exact⟨_,rfl,by rw[HK.out,HF.out,Lib.extract_data];simp,rfl⟩
 ·have⟨e1,e2,e3⟩:=bytes_none s h0
  go_enter Tryd.func83,Tryd.ntmps83
  go_wp2_with fail
  go_ret
  exact⟨_,rfl,by rw[e3];rfl,rfl⟩
end Go.Proofs.YtdnochjajoiooaaDoor
