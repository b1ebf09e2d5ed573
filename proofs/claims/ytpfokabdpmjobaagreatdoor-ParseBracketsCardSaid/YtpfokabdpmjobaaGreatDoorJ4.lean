/- Plain: the law of ParseRows. A grammar that was told, as it lies there. The contracts of parse.Names and parse.Expr. -/
import Derived.Test.YtpfokabdpmjobaaGreatDoorJk
import Derived.Test.YtpfokabdpmjobaaGreatDoorJ3
import Derived.Test.YtpfokabdpmjobaaGreatDoorJ2
import Derived.Test.YtpfokabdpmjobaaGreatDoorJi
namespace Go.Proofs.YtpfokabdpmjobaaGreatDoor
set_option linter.unusedSimpArgs false
set_option linter.unusedVariables false
structure GoodG (s:List UInt8) (W:List Wd) (l:List (Nat×TT)) (cs:List Nat):Prop where
 reads:ReadsP s W l cs
 twice:NoTwice (namesW W l)
 calls:∀c∈cs,textW W c∈namesW W l
 small:l.length≤64
 may:∀p∈l,mayT (bodyT p.2)=true
 gram:gramP s=(l.map (defW W),0,0)
theorem good_of {s:List UInt8} (hs:¬65536<s.length) (h:(gramP s).2.2=0):∃W l cs,GoodG s W l cs:=by
 rcases read_cases hs with⟨W,l,cs,hr⟩|⟨p,hr,_⟩|⟨l,cs,p,hr,_⟩
 ·have hg:=hr.gram
  cases ht:twiceW (namesW W l)with
  |some i=>
   have hj:judgeW W s.length l cs=((wdW W ((l.map Prod.fst).getD i 0)).frm,6):=by unfold judgeW;rw[ht]
   rw[hg,hj]at h;simp at h
  |none=>
   cases hk:lackW W (namesW W l) cs with
   |some c=>
    have hj:judgeW W s.length l cs=((wdW W c).frm,41):=by unfold judgeW;rw[ht,hk]
    rw[hg,hj]at h;simp at h
   |none=>
    cases hl:largeW l with
    |true=>
     have hj:judgeW W s.length l cs=(s.length,40):=by unfold judgeW;rw[ht,hk];simp[hl]
     rw[hg,hj]at h;simp at h
    |false=>
     have hj:judgeW W s.length l cs=(0,0):=by unfold judgeW;rw[ht,hk];simp[hl]
     rw[hj]at hg
     simp at hg
     unfold largeW at hl
     simp only[Bool.or_eq_false_iff,List.any_eq_false,decide_eq_false_iff_not]at hl
     exact⟨W,l,cs,hr,twice_none ht,lack_none hk,by omega,fun p hp=>by have:=hl.2 p hp;simpa using this,by rw[hg]⟩
 ·rw[gram_err hr (by decide)]at h;simp at h
 ·rw[gram_err hr (by decide)]at h;simp at h
end Go.Proofs.YtpfokabdpmjobaaGreatDoor
namespace Go.Proofs.YtpfokabdpmjobaaGreatDoor
open Go.RowKit
set_option linter.unusedSimpArgs false
set_option linter.unusedVariables false
structure GrAt (w:World) (g:List Df) (A:Option Addr) (ds:List Ld):Prop where
 row:dfL.row w (fun _=>True) A ds
 df:ds.map Ld.df=g
 len:∀d∈ds,d.t.ls.length≤300000
theorem GrAt.below {w w':World} {g:List Df} {A:Option Addr} {ds:List Ld} (h:GrAt w g A ds) (hb:Below w.heap.size w w'):GrAt w' g A ds:=⟨h.row.below hb,h.df,h.len⟩
theorem pg_at (s:ByteArray) (w:World) (hs:s.size≤281474976710656) (ht:CntTab w):Calls Tryz.prog 10 #[.string s] w fun e w'=>∃A c ds,e=.returned (.tuple #[.agg #[.slice A ds.length c],.int .i64 ((gramP s.data.toList).2.1:Int),.int .i64 ((gramP s.data.toList).2.2:Int)])∧GrAt w' (gramP s.data.toList).1 A ds∧Below w.heap.size w w':=
 (pgrammar_any s w hs ht).mono fun e w' hp=>by
  obtain⟨A,c,ds,h1,h2,h3,h4,h5,h6⟩:=hp
  exact⟨A,c,ds,h1,⟨⟨h4.row.mono (fun _ _ _=>trivial),fun d hd=>⟨(h5 d hd).1,(h5 d hd).2.inn.mono (fun _ _ _=>trivial)⟩⟩,h2,h3⟩,h6⟩
theorem gram_len {s:List UInt8} (hs:¬65536<s.length):(gramP s).1.length≤64:=by
 by_cases h:(gramP s).2.2=0
 ·obtain⟨W,l,cs,hg⟩:=good_of hs h
  rw[hg.gram];simpa using hg.small
 ·unfold gramP at h ⊢
  split
  ·simp
  ·rename_i h1
   rw[if_neg h1]at h
   split
   ·simp
   ·rename_i h2
    rw[if_neg h2]at h
    exact absurd rfl h
theorem GrAt.at {w:World} {g:List Df} {A:Option Addr} {ds:List Ld} (h:GrAt w g A ds) {i:Nat} (hi:i<ds.length):∃hg:i<g.length,ds[i].name=g[i].name∧ds[i].t.tr=g[i].body:=by
 have h1:=h.df
 subst h1
 refine⟨by simpa using hi,?_⟩
 simp[Ld.df]
end Go.Proofs.YtpfokabdpmjobaaGreatDoor
namespace Go.Proofs.YtpfokabdpmjobaaGreatDoor
open Go.RowKit
set_option linter.unusedSimpArgs false
set_option linter.unusedVariables false
theorem infoStrJ:(Tryz.prog.info? 9).map (fun i=>(i.zero,i.size,i.bytes))=some (some (.string ByteArray.empty),1,16):=by kernel_rfl
abbrev strsJ (l:List (List UInt8)):List Value:=l.map fun t=>Value.string ⟨t.toArray⟩
def PNPost (s:List UInt8) (w:World) (e:Ending) (w':World):Prop:=
 ∃(V:Option Addr) (c:Nat),e=.returned (.slice V (namesP s).length c)∧w'.ownsRow w.heap.size 9 1 (.slice V (namesP s).length c) (namesP s).length (strsJ (namesP s))∧Below w.heap.size w w'
set_option maxRecDepth 100000 in
set_option maxHeartbeats 3200000 in
theorem pnames_any (s:ByteArray) (w:World) (hs:s.size≤281474976710656) (ht:CntTab w):Calls Tryz.prog 16 #[.string s] w (PNPost s.data.toList w):=by
 have HRD:=Lib.hid (read_any s w hs ht)
 unfold ReadPost2 at HRD
 generalize hl:s.data.toList=l at *
 clear hl ht
 obtain⟨at',hat⟩:∃a,(readW l).2.1=a:=⟨_,rfl⟩
 obtain⟨er,her⟩:∃a,(readW l).2.2=a:=⟨_,rfl⟩
 rw[hat,her]at HRD
 obtain⟨j0,hj,hy0,hy1,hy2⟩:=info_parts infoStrJ
 have hzs:(Value.string ByteArray.empty).cells.size=1:=rfl
 have HER:=Lib.hid her;clear hat her
 by_cases he:er=0
 ·subst he
  have HNP:=Lib.hid (show namesP l=(readW l).1.1.map (fun p=>textW (begunW l).1 p.1)from by unfold namesP;rw[if_neg (by rw[HER.out];simp)];rfl)
  go_enter Tryz.func16,Tryz.ntmps16
  go_upto_region 5 with(first
   |(go_at_call 38;(with_reducible refine HRD.out.mono ?_);rintro e w1 ⟨R,f,H,rfl,k1,k2,k3⟩;have HR:=Lib.hid k1;have HDN:=Lib.hid (k2 rfl);have HB1:=Lib.hid k3;clear k1 k2 k3)
   |fail)
  have HLE:=Lib.hid (show(namesP l).length≤65536∧(namesP l).length=R.ms.length from by
   have h1:(namesP l).length=(readW l).1.1.length:=by rw[HNP.out,List.length_map]
   have h2:=HDN.out.num.1
   rw[HDN.out.W]at h2
   have h3:=(begun_all l).2
   exact⟨by omega,by rw[h1,HDN.out.ms,List.length_map]⟩)
  obtain⟨nn,hnn⟩:∃n,(namesP l).length=n:=⟨_,rfl⟩
  rw[hnn]at HLE
  have HNN:=Lib.hid hnn;clear hnn
  have HTX:=Lib.hid (show ∀k (hk:k<R.ms.length),∃x,R.ms[k]?=some x∧x.text.length≤32∧(namesP l)[k]?=some x.text from fun k hk=>by
   have hk2:k<(readW l).1.1.length:=by have:=hk;rw[HDN.out.ms,List.length_map]at this;exact this
   have hkd:=(read_kinds l).1 _ (List.getElem_mem hk2)
   refine⟨wdW (begunW l).1 (readW l).1.1[k].1,?_,(text_short hkd).1,?_⟩
   ·rw[HDN.out.ms,HDN.out.W];simp[hk2]
   ·rw[HNP.out];simp[hk2];rfl)
  have HMO:=Lib.hid (show ∀w',Below w1.heap.size w1 w'→w'.ownsRow w.heap.size 32 10 (.slice R.mA nn R.mc) nn (wdL R.ms)from fun w' hb=>by have h1:=((HR.out.below hb) .names (fun h=>h)).1;rw[←HLE.out.2]at h1;exact h1)
  obtain⟨_,_,_,_,_,_,p6,_,pf⟩:=blk8 (HR.out.box (fun h=>h))
  rw[show({R with}:Rd).ms.length=nn from HLE.out.2.symm]at p6
  generalize hmA:R.mA=mA at *
  go_upto_region 6 with(fail)
  clear p6 pf
  have hn0:=HLE.out.1
  go_loopw [6,22] (fun v6 v22 wr=>∃(k:Nat) (V:Option Addr) (vc:Nat),k≤nn∧v22=.int .i64 k∧v6=.slice V k vc∧Hid (wr.ownsRow w1.heap.size 9 1 (.slice V k vc) k (strsJ ((namesP l).take k)))∧Hid (Below w1.heap.size w1 wr)) (fun _ v22 _=>nn-(intOf v22).toNat)
  case atStart=>exact⟨0,none,0,by omega,rfl,rfl,Lib.hid (World.ownsRow_nil _ _ _ _),Lib.hid (Below.refl _ _)⟩
  case round=>
   obtain⟨k,V,vc,hk,rfl,rfl,HO,HB⟩:=hrel
   by_cases hlt:k<nn
   ·have hmk:k<R.ms.length:=by rw[←HLE.out.2];exact hlt
    obtain⟨x,hx,hx1,hx2⟩:=HTX.out k hmk
    obtain⟨g,hg,hgl,hcc⟩:=word_there (HMO.out wr HB.out) HLE.out.2.symm k hmk
    clear hcc
    subst hg
    obtain⟨xk,xf,xt,xtx,x0,x1,x2,x3,xlo,xhi⟩:=x
    obtain⟨c0,c1,c2,c3,c4,c5,c6,c7,c8,c9⟩:=word_ten (HMO.out wr HB.out) k (k*10) rfl _ hx
    simp only at c0 c1 c2 c3 c4 c5 c6 c7 c8 c9 hx1 hx2
    have HX2:=Lib.hid hx2;clear hx2 hx
    have i1:(k:Int)<(nn:Int):=by omega
    have HCL:=Lib.hid (show ∀wx,Calls Tryz.prog 52 #[.string ⟨xtx.toArray⟩] wx fun e w'=>e=.returned (.string ⟨xtx.toArray⟩)∧Below wx.heap.size wx w' from fun wx=>clone_any ⟨xtx.toArray⟩ wx (by simp[ByteArray.size];omega))
    have HBA:=Lib.hid (show Below w1.heap.size w1 (wr.alloc (.cells #[.int .u8 (xk:Int),.int .i64 (xf:Int),.int .i64 (xt:Int),.string ⟨xtx.toArray⟩,.int .u64 (x0:Int),.int .u64 (x1:Int),.int .u64 (x2:Int),.int .u64 (x3:Int),.int .i64 xlo,.int .i64 xhi] 32))from HB.out.alloc HB.out.size _)
    have HAR:=Lib.hid (show ∀w3,Below (wr.alloc (.cells #[.int .u8 (xk:Int),.int .i64 (xf:Int),.int .i64 (xt:Int),.string ⟨xtx.toArray⟩,.int .u64 (x0:Int),.int .u64 (x1:Int),.int .u64 (x2:Int),.int .u64 (x3:Int),.int .i64 xlo,.int .i64 xhi] 32)).heap.size (wr.alloc (.cells #[.int .u8 (xk:Int),.int .i64 (xf:Int),.int .i64 (xt:Int),.string ⟨xtx.toArray⟩,.int .u64 (x0:Int),.int .u64 (x1:Int),.int .u64 (x2:Int),.int .u64 (x3:Int),.int .i64 xlo,.int .i64 xhi] 32)) w3→(w3.alloc (.cells #[.string ⟨xtx.toArray⟩] 9)).ownsRow w1.heap.size 9 1 (.slice V k vc) k (strsJ ((namesP l).take k))∧w1.heap.size≤(w3.alloc (.cells #[.string ⟨xtx.toArray⟩] 9)).heap.size∧Below w1.heap.size w1 (w3.alloc (.cells #[.string ⟨xtx.toArray⟩] 9))from fun w3 hb=>by
     have h1:=World.ownsRow.alloc HO.out (.cells #[.int .u8 (xk:Int),.int .i64 (xf:Int),.int .i64 (xt:Int),.string ⟨xtx.toArray⟩,.int .u64 (x0:Int),.int .u64 (x1:Int),.int .u64 (x2:Int),.int .u64 (x3:Int),.int .i64 xlo,.int .i64 xhi] 32)
     have h2:=own_agree h1 (fun k hk=>hb.block k (own_blk h1 k hk).2)
     have hs:=HBA.out.size
     have h3:Below w1.heap.size w1 w3:=HBA.out.trans (hb.mono hs)
     exact⟨World.ownsRow.alloc h2 _,by have:=hb.size;simp only[World.size_alloc]at hs this ⊢;omega,h3.alloc h3.size _⟩)
    go_wp2_with (first
     |(go_at_call 52;(with_reducible refine(HCL.out _).mono ?_);rintro e w3 ⟨rfl,hb⟩;have HA3:=Lib.hid (HAR.out w3 hb);clear hb)
     |(at_builtin;refine wpList_append_at _ rfl (.tmp 26) (.tmp 30) 27 rfl w1.heap.size 9 j0 (.string ByteArray.empty) 1 16 Tryz.underlying27 hj hy0 hy1 hy2 hzs (by decide) V vc k (strsJ ((namesP l).take k)) rfl HA3.out.1 (some ⟨w3.heap.size,0,none⟩) 1 1 [.string ⟨xtx.toArray⟩] rfl rfl (row_blk (bx_new _ _)) (by simp[Value.oneCell']) (by unfold maxLen;omega) (by omega) HA3.out.2.1 ?_;intro V4 vc4 w4 HO4 HG4 HA4)
     |fail)
    refine⟨⟨k+1,V4,vc4,by omega,by go_num,rfl,Lib.hid ?_,Lib.hid (HA3.out.2.2.grown HG4.out HA3.out.2.1 (fun b hb=>(own_blk HA3.out.1 b hb).1))⟩,by simp only[intOf];omega⟩
    have e:strsJ ((namesP l).take (k+1))=strsJ ((namesP l).take k)++[.string ⟨xtx.toArray⟩]:=by
     rw[List.take_add_one,HX2.out];simp[strsJ]
    rw[e]
    exact HO4.out
   ·obtain rfl:k=nn:=by omega
    have i1:¬(k:Int)<(k:Int):=by omega
    go_wp2_with fail
    go_ret
    unfold PNPost
    rw[HNN.out]
    have ho:=HO.out
    rw[List.take_of_length_le (by rw[HNN.out];exact Nat.le_refl _)]at ho
    exact⟨V,vc,rfl,own_mono ho HB1.out.size,HB1.out.trans (HB.out.mono HB1.out.size)⟩
 ·have i1:((er:Int)==0)=false:=by simp;omega
  have HNP:=Lib.hid (show namesP l=[]from by unfold namesP;rw[if_pos (by rw[HER.out];exact he)])
  go_enter Tryz.func16,Tryz.ntmps16
  go_wp2_with (first
   |(go_at_call 38;(with_reducible refine HRD.out.mono ?_);rintro e w1 ⟨R,f,H,rfl,k1,k2,k3⟩;have HB1:=Lib.hid k3;clear k1 k2 k3)
   |fail)
  go_ret
  unfold PNPost
  rw[HNP.out]
  exact⟨none,0,rfl,World.ownsRow_nil _ _ _ _,HB1.out⟩
end Go.Proofs.YtpfokabdpmjobaaGreatDoor
