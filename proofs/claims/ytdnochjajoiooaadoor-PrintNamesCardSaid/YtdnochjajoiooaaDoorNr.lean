/- The contracts of package bonsairef02 that the trees need. -/
import Derived.Test.YtdnochjajoiooaaDoorNt
namespace Go.Proofs.YtdnochjajoiooaaDoor
open Go.RowKit
theorem mayL_eq (s t:ByteArray) (ht:t.data.toList=takeL s.data.toList) (h1:0<s.size) (h2:s.size≤32):(t.toList==s.toList)=mayL s.data.toList:=by
 have hn:s.data.toList≠[]:=by rw[bytes_pos s h1];simp
 have e1:=sz_data s;have e2:=sz_data t
 rw[Bool.eq_iff_iff]
 simp only[mayL,decide_eq_true_eq,beq_iff_eq,Lib.toList_data,ht]
 exact⟨fun h=>⟨hn,by omega,h⟩,fun h=>h.2.2⟩
set_option maxHeartbeats 400000 in
theorem rmay_any (s:ByteArray) (w:World) (hs:s.size≤281474976710656):
  Calls Tryd.prog 70 #[.string s] w fun e w'=>e=.returned (.bool (mayL s.data.toList))∧w=w':=by
 by_cases h0:0<s.size
 ·have⟨e1,e2⟩:=bytes_ne s h0
  by_cases h1:s.size≤32
  ·go_enter Tryd.func70,Tryd.ntmps70
   go_wp2_with fail
   refine(rtake_any _ _ hs).mono ?_
   rintro e w' ⟨t,rfl,ht,rfl⟩
   have HM:=Lib.hid (mayL_eq s t ht h0 h1);clear ht
   go_wp2_with fail
   go_ret
   exact⟨ret_bool HM.out,rfl⟩
  ·have HM:=Lib.hid (show mayL s.data.toList=false by have:=sz_data s;simp only[mayL,decide_eq_false_iff_not];rintro⟨_,h,_⟩;omega)
   go_enter Tryd.func70,Tryd.ntmps70
   go_wp2_with fail
   go_ret
   exact⟨ret_bool HM.out.symm,rfl⟩
 ·have⟨e1,e2,e3⟩:=bytes_none s h0
  have HM:=Lib.hid (show mayL s.data.toList=false by rw[e3];rfl)
  go_enter Tryd.func70,Tryd.ntmps70
  go_wp2_with fail
  go_ret
  exact⟨ret_bool HM.out.symm,rfl⟩
end Go.Proofs.YtdnochjajoiooaaDoor
