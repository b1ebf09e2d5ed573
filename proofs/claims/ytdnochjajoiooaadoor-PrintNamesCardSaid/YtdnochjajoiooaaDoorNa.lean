/- The contracts of package name and of its reference, over this seat's translation. -/
import Derived.Test.YtdnochjajoiooaaDoorRows
import Derived.Test.YtdnochjajoiooaaDoorPn
import Derived.Test.YtdnochjajoiooaaDoorShelf
import Derived.WalkKit
import Derived.WalkSpells
import Derived.WalkLawsBesides
import Derived.Lib.LaidTab
import Derived.BigQuiet
import Derived.Deep.QuietTactic
namespace Go.Proofs.YtdnochjajoiooaaDoor
open Go.RowKit
def Tab (w:World):Prop:=Lib.TabIs Tryd.prog w "internal/strconv.uint64pow10" .u64 Lib.pow10Tab
set_option maxHeartbeats 400000 in
theorem letter_any (b:Int) (w:World):
  Calls Tryd.prog 77 #[.int .u8 b] w fun e w'=>e=.returned (.bool (isLetter b))∧w=w':=by
 go_enter Tryd.func77,Tryd.ntmps77
 go_wp2
 all_goals (go_ret;exact⟨ret_bool (by unfold isLetter;rw[Bool.eq_iff_iff];simp;omega),rfl⟩)
set_option maxHeartbeats 400000 in
theorem digit_any (b:Int) (w:World):
  Calls Tryd.prog 78 #[.int .u8 b] w fun e w'=>e=.returned (.bool (isDigit b))∧w=w':=by
 go_enter Tryd.func78,Tryd.ntmps78
 go_wp2
 all_goals (go_ret;exact⟨ret_bool (by unfold isDigit;rw[Bool.eq_iff_iff];simp;omega),rfl⟩)
set_option maxHeartbeats 400000 in
theorem clone_any (s:ByteArray) (w:World) (hs:s.size≤281474976710656):
  Calls Tryd.prog 79 #[.string s] w fun e w'=>e=.returned (.string s)∧Below w.heap.size w w':=by
 go_enter Tryd.func79,Tryd.ntmps79
 go_wp2_with (first|(go_at_call 89;refine(Tryd.stringslite_Clone _ _ hs).mono ?_;rintro e w' ⟨rfl,hb⟩))
 go_ret
 exact⟨rfl,hb⟩
set_option maxHeartbeats 400000 in
theorem take_any (s:ByteArray) (w:World) (hs:s.size≤281474976710656):
  Calls Tryd.prog 62 #[.string s] w fun e w'=>∃t:ByteArray,e=.returned (.string t)∧t.data.toList=takeL s.data.toList∧Below w.heap.size w w':=by
 by_cases h0:0<s.size
 ·have⟨e1,e2⟩:=bytes_ne s h0
  cases hl:isLetter s[0].toNat
  ·have HT:=Lib.hid (takeL_noletter s h0 hl)
   go_enter Tryd.func62,Tryd.ntmps62
   go_wp2_with (first|(go_at_call 77;refine(letter_any _ _).mono ?_;rintro e w' ⟨rfl,rfl⟩))
   go_ret
   exact⟨_,rfl,HT.out.symm,Below.refl _ _⟩
  ·have HT:=Lib.hid (takeL_letter s h0 hl)
   go_enter Tryd.func62,Tryd.ntmps62
   go_wp2_with (first|(go_at_call 77;refine(letter_any _ _).mono ?_;rintro e w' ⟨rfl,rfl⟩))
   go_loop [3] (fun n=>∃k:Nat,1≤k∧k≤s.size∧n=.int .i64 k∧takeL s.data.toList=s.data.toList.take k++(s.data.toList.drop k).takeWhile alnum) (fun n=>s.size-(intOf n).toNat)
   case atStart=>exact⟨1,by omega,by omega,rfl,by rw[HT.out];conv=>{rhs;arg 1;rw[bytes_pos s h0]};simp⟩
   case round=>
    obtain⟨k,hk1,hk,rfl,hT⟩:=hrel
    have HK:=Lib.hid hT;clear hT
    by_cases hlt:k<s.size
    ·go_wp2_with (first|(go_at_call 77;refine(letter_any _ _).mono ?_;rintro e w' ⟨rfl,rfl⟩)|(go_at_call 78;refine(digit_any _ _).mono ?_;rintro e w' ⟨rfl,rfl⟩))
     ·refine⟨⟨k+1,by omega,by omega,by go_num,?_⟩,by simp[intOf];omega⟩
      rw[HK.out,takeWhile_yes s k hlt (by simp[alnum, *])]
     ·refine⟨⟨k+1,by omega,by omega,by go_num,?_⟩,by simp[intOf];omega⟩
      rw[HK.out,takeWhile_yes s k hlt (by simp[alnum, *])]
     ·refine(clone_any _ _ (by simp;omega)).mono ?_
      rintro e w' ⟨rfl,hb⟩
      have HF:=Lib.hid (takeWhile_no s k hlt (by simp[alnum, *]))
      go_wp2_with fail
      go_ret
      exact⟨_,rfl,by rw[HK.out,HF.out,Lib.extract_data];simp,hb⟩
    ·have HF:=Lib.hid (takeWhile_end s k (by omega))
     go_wp2_with (first|(go_at_call 77;refine(letter_any _ _).mono ?_;rintro e w' ⟨rfl,rfl⟩)|(go_at_call 78;refine(digit_any _ _).mono ?_;rintro e w' ⟨rfl,rfl⟩))
     refine(clone_any _ _ (by simp;omega)).mono ?_
     rintro e w' ⟨rfl,hb⟩
     go_wp2_with fail
     go_ret
     exact⟨_,rfl,by rw[HK.out,HF.out,Lib.extract_data];simp,hb⟩
 ·have⟨e1,e2,e3⟩:=bytes_none s h0
  go_enter Tryd.func62,Tryd.ntmps62
  go_wp2_with fail
  go_ret
  exact⟨_,rfl,by rw[e3];rfl,Below.refl _ _⟩
theorem mayL_len (s t:ByteArray) (ht:t.data.toList=takeL s.data.toList) (h1:0<s.size) (h2:s.size≤32):((t.size:Int)==(s.size:Int))=mayL s.data.toList:=by
 have hn:s.data.toList≠[]:=by rw[bytes_pos s h1];simp
 have e1:=sz_data s;have e2:=sz_data t
 rw[Bool.eq_iff_iff]
 simp only[mayL,decide_eq_true_eq,beq_iff_eq,←ht]
 have e3:=(takeL_eq_iff s.data.toList);rw[←ht]at e3;rw[e3]
 exact⟨fun h=>⟨hn,by omega,by omega⟩,fun h=>by omega⟩
set_option maxHeartbeats 400000 in
theorem may_any (s:ByteArray) (w:World) (hs:s.size≤281474976710656):
  Calls Tryd.prog 41 #[.string s] w fun e w'=>e=.returned (.bool (mayL s.data.toList))∧Below w.heap.size w w':=by
 by_cases h0:0<s.size
 ·have⟨e1,e2⟩:=bytes_ne s h0
  by_cases h1:s.size≤32
  ·go_enter Tryd.func41,Tryd.ntmps41
   go_wp2_with fail
   refine(take_any _ _ hs).mono ?_
   rintro e w' ⟨t,rfl,ht,hb⟩
   have HM:=Lib.hid (mayL_len s t ht h0 h1);clear ht
   go_wp2_with fail
   go_ret
   exact⟨ret_bool HM.out,hb⟩
  ·have HM:=Lib.hid (show mayL s.data.toList=false by have:=sz_data s;simp only[mayL,decide_eq_false_iff_not];rintro⟨_,h,_⟩;omega)
   go_enter Tryd.func41,Tryd.ntmps41
   go_wp2_with fail
   go_ret
   exact⟨ret_bool HM.out.symm,Below.refl _ _⟩
 ·have⟨e1,e2,e3⟩:=bytes_none s h0
  have HM:=Lib.hid (show mayL s.data.toList=false by rw[e3];rfl)
  go_enter Tryd.func41,Tryd.ntmps41
  go_wp2_with fail
  go_ret
  exact⟨ret_bool HM.out.symm,Below.refl _ _⟩
theorem below_grow (w:World) (q:Nat) (os:Array Obj):Below w.heap.size w (Sort.grow (w.drewN q) os):=by
 refine⟨rfl,rfl,rfl,?_,?_⟩
 ·simp[Sort.grow]
 ·intro k hk;simp only[Sort.grow];rw[Array.getElem?_append_left (by simpa using hk)];rfl
end Go.Proofs.YtdnochjajoiooaaDoor
