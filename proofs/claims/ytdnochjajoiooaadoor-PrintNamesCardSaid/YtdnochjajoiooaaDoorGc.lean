/- The contracts of strings.Builder's WriteByte, and of quote.plain, put, Literal. -/
import Derived.Test.YtdnochjajoiooaaDoorBu
import Derived.Test.YtdnochjajoiooaaDoorQm
import Derived.Test.YtdnochjajoiooaaDoorQb
import Derived.Test.YtdnochjajoiooaaDoorQp
namespace Go.Proofs.YtdnochjajoiooaaDoor
open Go.RowKit
set_option linter.unusedSimpArgs false
set_option linter.unusedVariables false
theorem rowB_blk {w:World} {b:Nat} {cs:List Value} {T:TypeId} (h:w.heap[b]?=some (.cells cs.toArray T (0,0))):RowAt w (some ⟨b,0,none⟩) cs:=fun j u hu=>by
 refine⟨_,rfl,?_⟩
 rw[Addr.add_lit]
 simp[World.cell?,h,hu]
set_option maxHeartbeats 2000000 in
set_option maxRecDepth 100000 in
theorem wbyte_any (B b:Nat) (l:List UInt8) (c:UInt8) (w:World) (h:IsB B b l w) (hlen:l.length+1≤140737488355328) (hBw:B≤w.heap.size):
  Calls Tryd.prog 33 #[.pointer (some ⟨b,0,none⟩),.int .u8 (c.toNat:Int)] w fun e w'=>e=.returned .nilIface∧(IsB B b (l++[c]) w'∧Below B w w'∧Keeps w w'):=by
 obtain⟨i0,hi,hz0,hz1,hz2⟩:=info_parts infoByte
 go_enter Tryd.func33,Tryd.ntmps33
 go_wp2_with (go_at_call 58;refine(copyCheck_any B b l _ h).mono ?_)
 rintro e w1 ⟨rfl,h1,hb1,hk1⟩
 have HK1:=Lib.hid hk1;clear hk1
 obtain⟨hB,v,hbk,hown,hne⟩:=h1
 have hbl:(Lib.byteCells l).length=l.length:=by simp[Lib.byteCells]
 obtain⟨V,vc,rfl⟩:∃V vc,v=.slice V l.length vc:=by
  rcases hown.2 with⟨hv,h0⟩|⟨g,cap,cur,hv,_⟩
  ·exact⟨none,0,by rw[hv];congr 1;omega⟩
  ·exact⟨_,_,by rw[hv];congr 1⟩
 have c0:w1.cell? ⟨b,0,none⟩=some (.pointer (some ⟨b,0,none⟩)):=by rw[Lib.cell_of_heap hbk];rfl
 have c1:w1.cell? ⟨b,1,none⟩=some (.slice V l.length vc):=by rw[Lib.cell_of_heap hbk];rfl
 have HOW:=Lib.hid (show w1.ownsRow B 5 1 (.slice V l.length vc) l.length (Lib.byteCells l)by rw[hbl]at hown;exact hown)
 have hlt:b<w1.heap.size:=(Array.getElem?_eq_some_iff.1 hbk).1
 have HF:=Lib.hid (show l.length+1≤maxLen∧(l.length+1)*1≤140737488355328∧B≤w1.heap.size from⟨by unfold maxLen;omega,by omega,by have:=hb1.size;omega⟩)
 have HBK:=Lib.hid hbk;have HNE:=Lib.hid hne;have HB1:=Lib.hid hb1
 clear hbk hne hown h hb1
 go_wp2_with (at_builtin;refine wpList_append_at _ rfl (.tmp 11) (.tmp 13) 67 rfl B 5 i0 (.int .u8 0) 1 1 Tryd.underlying67 hi hz0 hz1 hz2 rfl (by decide) V vc l.length (Lib.byteCells l) rfl (World.ownsRow.alloc HOW.out _) (some ⟨w1.heap.size,0,none⟩) 1 1 [.int .u8 (c.toNat:Int)] rfl rfl (rowB_blk (bx_new _ _)) (fun u hu=>by simp only[List.mem_singleton]at hu;subst hu;rfl) HF.out.1 HF.out.2.1 (by have:=HF.out.2.2;simp;omega) ?_;intro V2 vc2 w2 HO2 HG2 HA2;have hb2:w2.heap[b]?=some (.cells #[.pointer (some ⟨b,0,none⟩),.slice V l.length vc] 69 (0,0)):=((HG2.out.block b (by simp;omega) (fun e=>HNE.out (by rw[blk_own];exact e.symm))).trans ((Below.heap_alloc w1 _ b hlt).trans HBK.out));have d0:w2.cell? ⟨b,0,none⟩=some (.pointer (some ⟨b,0,none⟩)):=(by rw[Lib.cell_of_heap hb2];rfl);have d1:w2.cell? ⟨b,1,none⟩=some (.slice V l.length vc):=(by rw[Lib.cell_of_heap hb2];rfl);have f1:w2.frozen? ⟨b,1,none⟩=false:=Lib.frozen_of_heap hb2 1)
 go_ret
 have hE:Lib.byteCells (l++[c])=Lib.byteCells l++[.int .u8 (c.toNat:Int)]:=by simp[Lib.byteCells]
 refine⟨rfl,.inr ?_,?_,?_⟩
 ·have h:=Lib.BuilderAt.put (T:=69) (e:=5) hB hb2 (v':=.slice V2 (l.length+1) vc2) (bs':=Lib.byteCells l++[.int .u8 (c.toNat:Int)]) (by rw[List.length_append,hbl];exact HO2.out) (by decide)
  rw[hE];exact h
 ·have hg:Below B w1 w2:=((Below.refl B w1).alloc HF.out.2.2 _).grown HG2.out (by have:=HF.out.2.2;simp;omega) (fun k hk=>(own_blk HOW.out k hk).1)
  exact(HB1.out.trans hg).setCell (p:=⟨b,1,none⟩) hB _
 ·have hk2:Keeps w1 w2:=(Keeps.below (bx1 w1 _)).trans (Keeps.grown (World.ownsRow.alloc HOW.out _) (by rw[blk_own];exact HG2.out))
  exact HK1.out.trans (hk2.trans (Keeps.set hb2))
end Go.Proofs.YtdnochjajoiooaaDoor
/- The contracts of quote.put,Literal. -/
namespace Go.Proofs.YtdnochjajoiooaaDoor
open Go.RowKit
set_option linter.unusedSimpArgs false
set_option linter.unusedVariables false
theorem plain_at (b:UInt8) (n:Int) (hn:(b.toNat:Int)=n) (left:ByteArray) (w:World):
  Calls Tryd.prog 84 #[.int .u8 n,.string left] w fun e w'=>e=.returned (.bool (decide (plainP b left.data.toList)))∧w'=w:=by
 subst hn;exact plain_any b left w
theorem wbyte_at (B b:Nat) (l:List UInt8) (c:UInt8) (n:Int) (hn:(c.toNat:Int)=n) (w:World) (h:IsB B b l w) (hlen:l.length+1≤140737488355328) (hBw:B≤w.heap.size):
  Calls Tryd.prog 33 #[.pointer (some ⟨b,0,none⟩),.int .u8 n] w fun e w'=>e=.returned .nilIface∧(IsB B b (l++[c]) w'∧Below B w w'∧Keeps w w'):=by
 subst hn;exact wbyte_any B b l c w h hlen hBw
theorem hexAt:∀(k:Nat) (h:k<16),(⟨#[48,49,50,51,52,53,54,55,56,57,97,98,99,100,101,102]⟩:ByteArray)[k]'h=hexB k:=by decide
def PutPost (B b:Nat) (l:List UInt8) (w:World) (e:Ending) (w':World):Prop:=e=.returned (.tuple #[])∧IsB B b l w'∧Below B w w'∧Keeps w w'
theorem eqNum (b:UInt8) (k:Nat) (c:UInt8) (hc:c.toNat=k):(b=c→((b.toNat:Int)==(k:Int))=true∧(b.toNat:Int)=(k:Int))∧(b≠c→((b.toNat:Int)==(k:Int))=false∧ ¬(b.toNat:Int)=(k:Int)):=by
 constructor
 ·rintro rfl;rw[hc];simp
 ·intro h
  have:¬(b.toNat:Int)=(k:Int):=fun e=>h (UInt8.toNat_inj.1 (by rw[hc];omega))
  exact⟨by simpa using this,this⟩
theorem wlit_any (B b:Nat) (l xs:List UInt8) (s:ByteArray) (hs:s.data.toList=xs) (w:World) (h:IsB B b l w) (hlen:l.length+xs.length≤140737488355328) (hBw:B≤w.heap.size):
  Calls Tryd.prog 34 #[.pointer (some ⟨b,0,none⟩),.string s] w fun e w'=>e=.returned (.tuple #[.int .i64 s.size,.nilIface])∧(IsB B b (l++xs) w'∧Below B w w'∧Keeps w w'):=by
 subst hs
 exact write_any B b l s w h (by have:s.data.toList.length=s.size:=rfl;omega) hBw
set_option maxRecDepth 100000 in
set_option maxHeartbeats 1600000 in
theorem put_any (B b:Nat) (l:List UInt8) (c:UInt8) (left:ByteArray) (w:World) (h:IsB B b l w) (hlen:l.length+4≤140737488355328) (hBw:B≤w.heap.size):
  Calls Tryd.prog 73 #[.pointer (some ⟨b,0,none⟩),.int .u8 (c.toNat:Int),.string left] w (PutPost B b (l++signB left.data.toList c) w):=by
 have HL:=Lib.hid hlen;have HBW:=Lib.hid hBw;have HI:=Lib.hid h
 clear hlen hBw h
 unfold PutPost
 go_enter Tryd.func73,Tryd.ntmps73
 have hq:signB left.data.toList c=if plainP c left.data.toList then[c]else if c=10 then[92,110]else if c=13 then[92,114]else if c=9 then[92,116]else if c=92∨c∈left.data.toList then[92,c]else[92,120,hexB (c.toNat/16),hexB (c.toNat%16)]:=rfl
 by_cases hp:plainP c left.data.toList
 ·rw[if_pos hp]at hq
  rw[hq]
  have h0:=decide_eq_true hp
  go_wp2_with (first
   |(go_at_call 84;refine(plain_any c left _).mono ?_;rintro e w' ⟨rfl,rfl⟩;rw[h0])
   |(go_at_call 33;refine(wbyte_any B b l c _ HI.out (by have:=HL.out;omega) HBW.out).mono ?_;rintro e w1 ⟨rfl,h1,h2,h3⟩;have HI1:=Lib.hid h1;have HB1:=Lib.hid h2;have HK1:=Lib.hid h3;clear h1 h2 h3))
  refine bodyPost_end (v:=.tuple #[]) (by simp[results,Tryd.results73]) rfl ?_
  exact⟨rfl,HI1.out,HB1.out,HK1.out⟩
 ·rw[if_neg hp]at hq
  have h0:=decide_eq_false hp
  have e10:=eqNum c 10 10 rfl;have e13:=eqNum c 13 13 rfl;have e9:=eqNum c 9 9 rfl;have e92:=eqNum c 92 92 rfl
  have HP:=Lib.hid h0
  by_cases h10:c=10
  ·rw[if_pos h10]at hq
   rw[hq]
   obtain⟨a10,b10⟩:((c.toNat:Int)==10)=true∧(c.toNat:Int)=10:=e10.1 h10
   clear e10 e13 e9 e92 h0 h10 hq hp
   as_aux_lemma=>
    go_wp2_with (first|(go_at_call 84;(with_reducible refine(plain_at c _ (by first|rfl|exact b10) left _).mono ?_);rintro e w' ⟨rfl,rfl⟩;rw[HP.out])|(go_at_call 34;refine(wlit_any B b l [92,110] _ rfl _ HI.out (by have:=HL.out;(try simp only[List.length_append,List.length_cons,List.length_nil]);omega) HBW.out).mono ?_;rintro e w1 ⟨rfl,h1,h2,h3⟩;have HI1:=Lib.hid h1;have HB1:=Lib.hid h2;have HK1:=Lib.hid h3;clear h1 h2 h3))
    refine bodyPost_end (v:=.tuple #[]) (by simp[results,Tryd.results73]) rfl ?_
    exact⟨rfl,HI1.out,HB1.out,HK1.out⟩
  ·skip
   by_cases h13:c=13
   ·rw[if_neg h10,if_pos h13]at hq
    rw[hq]
    obtain⟨a10,b10⟩:((c.toNat:Int)==10)=false∧ ¬(c.toNat:Int)=10:=e10.2 h10
    obtain⟨a13,b13⟩:((c.toNat:Int)==13)=true∧(c.toNat:Int)=13:=e13.1 h13
    clear e10 e13 e9 e92 h0 h10 h13 hq hp
    as_aux_lemma=>
     go_wp2_with (first|(go_at_call 84;(with_reducible refine(plain_at c _ (by first|rfl|exact b13) left _).mono ?_);rintro e w' ⟨rfl,rfl⟩;rw[HP.out])|(go_at_call 34;refine(wlit_any B b l [92,114] _ rfl _ HI.out (by have:=HL.out;(try simp only[List.length_append,List.length_cons,List.length_nil]);omega) HBW.out).mono ?_;rintro e w1 ⟨rfl,h1,h2,h3⟩;have HI1:=Lib.hid h1;have HB1:=Lib.hid h2;have HK1:=Lib.hid h3;clear h1 h2 h3))
     refine bodyPost_end (v:=.tuple #[]) (by simp[results,Tryd.results73]) rfl ?_
     exact⟨rfl,HI1.out,HB1.out,HK1.out⟩
   ·skip
    by_cases h9:c=9
    ·rw[if_neg h10,if_neg h13,if_pos h9]at hq
     rw[hq]
     obtain⟨a10,b10⟩:((c.toNat:Int)==10)=false∧ ¬(c.toNat:Int)=10:=e10.2 h10
     obtain⟨a13,b13⟩:((c.toNat:Int)==13)=false∧ ¬(c.toNat:Int)=13:=e13.2 h13
     obtain⟨a9,b9⟩:((c.toNat:Int)==9)=true∧(c.toNat:Int)=9:=e9.1 h9
     clear e10 e13 e9 e92 h0 h10 h13 h9 hq hp
     as_aux_lemma=>
      go_wp2_with (first|(go_at_call 84;(with_reducible refine(plain_at c _ (by first|rfl|exact b9) left _).mono ?_);rintro e w' ⟨rfl,rfl⟩;rw[HP.out])|(go_at_call 34;refine(wlit_any B b l [92,116] _ rfl _ HI.out (by have:=HL.out;(try simp only[List.length_append,List.length_cons,List.length_nil]);omega) HBW.out).mono ?_;rintro e w1 ⟨rfl,h1,h2,h3⟩;have HI1:=Lib.hid h1;have HB1:=Lib.hid h2;have HK1:=Lib.hid h3;clear h1 h2 h3))
      refine bodyPost_end (v:=.tuple #[]) (by simp[results,Tryd.results73]) rfl ?_
      exact⟨rfl,HI1.out,HB1.out,HK1.out⟩
    ·rw[if_neg h10,if_neg h13,if_neg h9]at hq
     have hix:=index_lt left.data.toList c
     obtain⟨a10,b10⟩:((c.toNat:Int)==10)=false∧ ¬(c.toNat:Int)=10:=e10.2 h10
     obtain⟨a13,b13⟩:((c.toNat:Int)==13)=false∧ ¬(c.toNat:Int)=13:=e13.2 h13
     obtain⟨a9,b9⟩:((c.toNat:Int)==9)=false∧ ¬(c.toNat:Int)=9:=e9.2 h9
     clear e10 e13 e9 h10 h13 h9 h0
     have fin:∀{a b' c':World} {l':List UInt8},True:=trivial
     by_cases h92:c=92
     ·rw[if_pos (.inl h92)]at hq
      rw[hq]
      obtain⟨a92,b92⟩:((c.toNat:Int)==92)=true∧(c.toNat:Int)=92:=e92.1 h92
      have h92':=Lib.hid h92
      clear e92 h92 hq hp hix
      as_aux_lemma=>
       go_wp2_with (first|(go_at_call 84;(with_reducible refine(plain_at c _ (by first|rfl|exact b92) left _).mono ?_);rintro e w' ⟨rfl,rfl⟩;rw[HP.out])|(go_at_call 33;(with_reducible refine(wbyte_at B b l 92 _ (by first|rfl|exact b92|decide|(simp;done)) _ HI.out (by have:=HL.out;(try simp only[List.length_append,List.length_cons,List.length_nil]);omega) HBW.out).mono ?_);rintro e w1 ⟨rfl,h1,h2,h3⟩;have HI1:=Lib.hid h1;have HB1:=Lib.hid h2;have HK1:=Lib.hid h3;clear h1 h2 h3)|(go_at_call 33;(with_reducible refine(wbyte_at B b (l++[92]) c _ (by first|rfl|exact b92|decide|(simp;done)) _ HI1.out (by have:=HL.out;(try simp only[List.length_append,List.length_cons,List.length_nil]);omega) (Nat.le_trans HBW.out HB1.out.size)).mono ?_);rintro e w2 ⟨rfl,h1,h2,h3⟩;have HI2:=Lib.hid h1;have HB2:=Lib.hid h2;have HK2:=Lib.hid h3;clear h1 h2 h3))
       refine bodyPost_end (v:=.tuple #[]) (by simp[results,Tryd.results73]) rfl ?_
       exact⟨rfl,by have:=HI2.out;rw[List.append_assoc]at this;exact this,HB1.out.trans HB2.out,HK1.out.trans HK2.out⟩
     ·obtain⟨a92,b92⟩:((c.toNat:Int)==92)=false∧ ¬(c.toNat:Int)=92:=e92.2 h92
      by_cases hin:c∈left.data.toList
      ·rw[if_pos (.inr hin)]at hq
       rw[hq]
       have hx:0≤Lib.indexByte left.data.toList c:=Int.not_lt.1 fun h=>hix.1 h hin
       clear e92 h92 hq hp hix hin
       as_aux_lemma=>
        go_wp2_with (first|(go_at_call 84;(with_reducible refine(plain_at c _ (by first|rfl|exact rfl) left _).mono ?_);rintro e w' ⟨rfl,rfl⟩;rw[HP.out])|(go_at_call 85;refine(Tryd.strings_IndexByte left (c.toNat:Int) _).mono ?_;rintro e w' ⟨rfl,rfl⟩;rw[toU8])|(go_at_call 33;(with_reducible refine(wbyte_at B b l 92 _ (by first|rfl|exact rfl|decide|(simp;done)) _ HI.out (by have:=HL.out;(try simp only[List.length_append,List.length_cons,List.length_nil]);omega) HBW.out).mono ?_);rintro e w1 ⟨rfl,h1,h2,h3⟩;have HI1:=Lib.hid h1;have HB1:=Lib.hid h2;have HK1:=Lib.hid h3;clear h1 h2 h3)|(go_at_call 33;(with_reducible refine(wbyte_at B b (l++[92]) c _ (by first|rfl|exact rfl|decide|(simp;done)) _ HI1.out (by have:=HL.out;(try simp only[List.length_append,List.length_cons,List.length_nil]);omega) (Nat.le_trans HBW.out HB1.out.size)).mono ?_);rintro e w2 ⟨rfl,h1,h2,h3⟩;have HI2:=Lib.hid h1;have HB2:=Lib.hid h2;have HK2:=Lib.hid h3;clear h1 h2 h3))
        refine bodyPost_end (v:=.tuple #[]) (by simp[results,Tryd.results73]) rfl ?_
        exact⟨rfl,by have:=HI2.out;rw[List.append_assoc]at this;exact this,HB1.out.trans HB2.out,HK1.out.trans HK2.out⟩
      ·rw[if_neg (by rintro(h|h);exact h92 h;exact hin h)]at hq
       rw[hq]
       have hx:Lib.indexByte left.data.toList c<0:=hix.2 hin
       have hx':¬0≤Lib.indexByte left.data.toList c:=by omega
       have i2:0≤(c.toNat:Int)%16∧(c.toNat:Int)%16<16:=by omega
       have i1:0≤(c.toNat:Int)/16∧(c.toNat:Int)/16<16:=by have:=c.toNat_lt;omega
       clear e92 h92 hq hp hix hin
       go_wp2_with (first|(go_at_call 84;(with_reducible refine(plain_at c _ (by first|rfl|exact rfl) left _).mono ?_);rintro e w' ⟨rfl,rfl⟩;rw[HP.out])|(go_at_call 85;refine(Tryd.strings_IndexByte left (c.toNat:Int) _).mono ?_;rintro e w' ⟨rfl,rfl⟩;rw[toU8])|(go_at_call 34;refine(wlit_any B b l [92,120] _ rfl _ HI.out (by have:=HL.out;(try simp only[List.length_append,List.length_cons,List.length_nil]);omega) HBW.out).mono ?_;rintro e w1 ⟨rfl,h1,h2,h3⟩;have HI1:=Lib.hid h1;have HB1:=Lib.hid h2;have HK1:=Lib.hid h3;clear h1 h2 h3)|(go_at_call 33;(with_reducible refine(wbyte_any B b (l++[92,120]) _ _ HI1.out (by have:=HL.out;(try simp only[List.length_append,List.length_cons,List.length_nil]);omega) (Nat.le_trans HBW.out HB1.out.size)).mono ?_);rintro e w2 ⟨rfl,h1,h2,h3⟩;have HI2:=Lib.hid h1;have HB2:=Lib.hid h2;have HK2:=Lib.hid h3;clear h1 h2 h3)|(go_at_call 33;(with_reducible refine(wbyte_any B b _ _ _ HI2.out (by have:=HL.out;(try simp only[List.length_append,List.length_cons,List.length_nil]);omega) (Nat.le_trans HBW.out (Nat.le_trans HB1.out.size HB2.out.size))).mono ?_);rintro e w3 ⟨rfl,h1,h2,h3⟩;have HI3:=Lib.hid h1;have HB3:=Lib.hid h2;have HK3:=Lib.hid h3;clear h1 h2 h3))
       refine bodyPost_end (v:=.tuple #[]) (by simp[results,Tryd.results73]) rfl ?_
       refine⟨rfl,?_,(HB1.out.trans HB2.out).trans HB3.out,HK1.out.trans (HK2.out.trans HK3.out)⟩
       have h3:=HI3.out
       rw[hexAt _ (by omega),hexAt _ (by omega),List.append_assoc,List.append_assoc]at h3
       exact h3
end Go.Proofs.YtdnochjajoiooaaDoor
/- The contract of quote.Literal. -/
namespace Go.Proofs.YtdnochjajoiooaaDoor
open Go.RowKit
set_option linter.unusedSimpArgs false
set_option linter.unusedVariables false
def TextPost (l:List UInt8) (w:World) (e:Ending) (w':World):Prop:=e=.returned (.string ⟨l.toArray⟩)∧Below w.heap.size w w'
set_option maxRecDepth 100000 in
set_option maxHeartbeats 1600000 in
theorem lit_any (s:ByteArray) (w:World) (hs:s.size≤1000000):
  Calls Tryd.prog 59 #[.string s] w (TextPost (litB s.data.toList) w):=by
 unfold TextPost
 go_enter Tryd.func59,Tryd.ntmps59
 have HI0:=Lib.hid (IsB.new w (Nat.le_refl w.heap.size))
 have HB0:=Lib.hid (bx1 w (.cells #[.pointer none,.slice none 0 0] 69))
 go_wp2_with (go_at_call 33;(refine(wbyte_at w.heap.size w.heap.size [] 34 _ (by rfl) _ HI0.out (by decide) HB0.out.size).mono ?_);rintro e w1 ⟨rfl,h1,h2,h3⟩;have HI1:=Lib.hid h1;have HB1:=Lib.hid (HB0.out.trans h2);clear h1 h2 h3)
 go_loopw [4] (fun i wr=>∃k:Nat,k≤s.size∧i=.int .i64 k∧Hid (IsB w.heap.size w.heap.size ([34]++(s.data.toList.take k).flatMap (signB [34])) wr)∧Hid (Below w.heap.size w wr)) (fun i _=>s.size-(intOf i).toNat)
 case atStart=>exact⟨0,Nat.zero_le _,rfl,Lib.hid (by simpa using HI1.out),HB1⟩
 case round=>
  obtain⟨k,hk,rfl,HI,HB⟩:=hrel
  by_cases hlt:k<s.size
  ·have i1:(k:Int)<(s.size:Int):=by omega
   have i2:(0:Int)≤(k:Int):=by omega
   have HLN:=Lib.hid (show([34]++(s.data.toList.take k).flatMap (signB [34])).length+4≤140737488355328 from by
    have h1:=flat_len (signB [34]) 4 (s.data.toList.take k) fun x _=>(signB_len [34] x).2
    have h2:(s.data.toList.take k).length≤k:=by simp;omega
    simp only[List.length_append,List.length_singleton];omega)
   have HTK:=Lib.hid (show s.data.toList.take (k+1)=s.data.toList.take k++[s[k]]from by
    rw[List.take_succ_eq_append_getElem (by simpa using hlt)];rfl)
   go_wp2_with fail
   refine(put_any w.heap.size w.heap.size _ s[k] ⟨#[34]⟩ wr HI.out HLN.out HB.out.size).mono ?_
   rintro e w2 ⟨rfl,h1,h2,h3⟩
   have HI2:=Lib.hid h1;have HB2:=Lib.hid (HB.out.trans h2)
   clear h1 h2 h3
   go_wp2_with fail
   exact⟨⟨k+1,by omega,by go_num,Lib.hid (by rw[HTK.out,List.flatMap_append,←List.append_assoc];simpa using HI2.out),HB2⟩,by simp only[intOf];omega⟩
  ·obtain rfl:k=s.size:=by omega
   have HIE:=Lib.hid (show IsB w.heap.size w.heap.size ([34]++s.data.toList.flatMap (signB [34])) wr from by
    have h:=HI.out
    rwa [List.take_of_length_le (show s.data.toList.length≤s.size from Nat.le_refl _)]at h)
   have HLN:=Lib.hid (show([34]++s.data.toList.flatMap (signB [34])).length+1≤140737488355328 from by
    have h1:=flat_len (signB [34]) 4 s.data.toList fun x _=>(signB_len [34] x).2
    have h2:s.data.toList.length=s.size:=rfl
    simp only[List.length_append,List.length_singleton];omega)
   go_wp2_with (first
    |(go_at_call 33;(refine(wbyte_at w.heap.size w.heap.size _ 34 _ (by rfl) _ HIE.out HLN.out HB.out.size).mono ?_);rintro e w2 ⟨rfl,h1,h2,h3⟩;have HI2:=Lib.hid h1;have HB2:=Lib.hid (HB.out.trans h2);clear h1 h2 h3)
    |(go_at_call 38;refine(Tryd.Builder_String_any w.heap.size w.heap.size _ _ HI2.out HB2.out.size).mono ?_;rintro e w3 ⟨rfl,hb3⟩;have HB3:=Lib.hid (HB2.out.trans hb3);clear hb3))
   go_ret
   exact⟨rfl,HB3.out⟩
end Go.Proofs.YtdnochjajoiooaaDoor
