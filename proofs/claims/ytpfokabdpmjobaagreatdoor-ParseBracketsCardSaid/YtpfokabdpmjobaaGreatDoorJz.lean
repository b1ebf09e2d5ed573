/- The contracts of the parser's begun and read. -/
import Derived.Test.YtpfokabdpmjobaaGreatDoorJy
namespace Go.Proofs.YtpfokabdpmjobaaGreatDoor
open Go.RowKit
set_option linter.unusedSimpArgs false
set_option linter.unusedVariables false
def smallW (x:Wd):Prop:=x.s0<18446744073709551616∧x.s1<18446744073709551616∧x.s2<18446744073709551616∧x.s3<18446744073709551616
theorem head_small {t:List UInt8} {x:Wd} (h:headW t=some x):smallW x:=by
 have z:(0:Nat)<18446744073709551616:=by decide
 have y:fullN<18446744073709551616:=by decide
 unfold headW at h
 split at h
 ·cases h
 split at h
 ·split at h
  ·cases h;exact⟨z,z,z,z⟩
  ·cases h
 split at h
 ·cases hc:countL (t.drop 1)with
  |none=>rw[hc]at h;cases h
  |some q=>rw[hc]at h;cases h;exact⟨z,z,z,z⟩
 split at h
 ·split at h
  ·cases h;exact⟨z,z,z,z⟩
  ·cases h
 split at h
 ·split at h
  ·cases h;exact⟨wordF_lt _ _,wordF_lt _ _,wordF_lt _ _,wordF_lt _ _⟩
  ·cases h
 split at h
 ·cases h;exact⟨y,y,y,y⟩
 split at h
 ·split at h
  ·cases h;exact⟨z,z,z,z⟩
  ·cases h;exact⟨z,z,z,z⟩
 ·cases hk:signK ‹UInt8› with
  |none=>rw[hk]at h;cases h
  |some k=>rw[hk]at h;cases h;exact⟨z,z,z,z⟩
theorem word_small {s:List UInt8} {a:Nat} {x:Wd} (h:wordL s a=some x):smallW x:=by
 unfold wordL at h
 cases hh:headW (s.drop a)with
 |none=>rw[hh]at h;cases h
 |some y=>rw[hh]at h;cases h;have h1:=head_small hh;exact⟨h1.1,h1.2.1,h1.2.2.1,h1.2.2.2⟩
theorem words_small {s:List UInt8}:∀x∈(wordsL s).1,smallW x:=by
 intro x hx
 unfold wordsL at hx
 split at hx
 ·cases hx
 split at hx
 ·cases hx
 ·exact raw_small s _ _ x hx
 where raw_small (s:List UInt8):∀(f a:Nat),∀x∈(rawL s f a).1,smallW x
  |0,a,x,hx=>by simp[rawL]at hx
  |f+1,a,x,hx=>by
   rw[rawL]at hx
   split at hx
   ·cases hx
   ·cases hw:wordL s a with
    |none=>rw[hw]at hx;cases hx
    |some w=>
     rw[hw]at hx
     rcases List.mem_cons.1 hx with rfl|hx
     ·exact word_small hw
     ·exact raw_small s f _ x hx
theorem begun_three (s:List UInt8):((wordsL s).2.2=0∧begunW s=((wordsL s).1,s.length,0))∨((wordsL s).2.2=4∧(wordsL s).2.1<s.length∧s.length≤65536∧begunW s=((wordsL (s.take (wordsL s).2.1)).1,(wordsL s).2.1,4))∨((wordsL s).2.2=40∧begunW s=([],65536,40)∧wordsL s=([],65536,40)):=by
 by_cases hb:65536<s.length
 ·have h:=wordsL_big hb
  refine .inr (.inr ⟨by rw[h],?_,h⟩)
  unfold begunW;rw[h];simp
 ·obtain⟨ls,p,er,hw⟩:∃ls p er,wordsL s=(ls,p,er):=⟨(wordsL s).1,(wordsL s).2.1,(wordsL s).2.2,rfl⟩
  by_cases he:er=0
  ·subst he
   refine .inl ⟨by rw[hw],?_⟩
   unfold begunW;rw[hw];simp
  ·obtain⟨rfl,rfl,hp,h2,_⟩:=wrong_of hb hw he
   refine .inr (.inl ⟨by rw[hw],by rw[hw];exact hp,by omega,?_⟩)
   unfold begunW;rw[hw];simp
theorem raw_le (s:List UInt8):∀(f a:Nat),(rawL s f a).1.length≤s.length-a
 |0,a=>by simp[rawL]
 |f+1,a=>by
  rw[rawL]
  split
  ·simp
  ·rename_i hla
   cases hw:wordL s a with
   |none=>simp
   |some w=>
    have h1:=word_til hw
    have h2:=raw_le s f (nextL s w.til)
    have h3:w.til≤nextL s w.til:=by unfold nextL;omega
    simp only[List.length_cons]
    omega
theorem words_le (s:List UInt8):(wordsL s).1.length≤65536:=by
 by_cases hb:65536<s.length
 ·rw[wordsL_big hb];simp
 ·unfold wordsL
  rw[if_neg hb]
  split
  ·simp
  ·have:=raw_le s (s.length+1) (nextL s 0)
   show(rawL s (s.length+1) (nextL s 0)).1.length≤65536
   omega
theorem begun_all (s:List UInt8):(∀x∈(begunW s).1,mayS x∧smallW x)∧(begunW s).1.length≤65536:=by
 rcases begun_three s with⟨_,h⟩|⟨_,_,hl,h⟩|⟨_,h,_⟩
 ·rw[h];exact⟨fun x hx=>⟨words_may x hx,words_small x hx⟩,words_le s⟩
 ·rw[h];exact⟨fun x hx=>⟨words_may x hx,words_small x hx⟩,words_le _⟩
 ·rw[h];exact⟨fun x hx=>(by cases hx),by simp⟩
theorem RdM.begin0 {w1:World} {B c:Nat} {A:Option Addr} {W:List Wd} (fin:Nat) (h:w1.ownsRow B 32 10 (.slice A W.length c) W.length (wdL W)) (hB:B≤w1.heap.size):
  RdM (fun _=>False) (w1.alloc (.cells #[.slice A W.length c,.int .i64 (fin:Int),.int .i64 0,.slice none 0 0,.slice none 0 0,.slice none 0 0,.slice none 0 0,.slice none 0 0] 82)) B (fun k=>if k=w1.heap.size then .box else .words) w1.heap.size
   ⟨A,c,W,fin,0,none,0,[],none,0,[],none,0,[],none,0,[],none,0,[],[]⟩:=fun o _=>by
 cases o with
 |out=>exact fun p hp=>by cases hp
 |tmp=>trivial
 |box=>exact⟨bx_new w1 _,hB,if_pos rfl⟩
 |words=>
  refine⟨World.ownsRow.alloc h _,fun k hk=> ?_⟩
  have:=(own_blk h k hk).2
  show(if k=w1.heap.size then Ow.box else .words)=.words
  rw[if_neg (by omega)]
 |nodes=>exact OwnF.nil _ _ _ _ _ _
 |kids=>exact fun l hl=>by cases hl
 |list=>exact OwnF.nil _ _ _ _ _ _
 |ways j=>exact fun hj=>by cases hj
 |parts j=>exact fun hj=>by cases hj
 |heads j=>exact fun hj=>by cases hj
 |defs=>exact OwnF.nil _ _ _ _ _ _
 |body j=>exact fun hj=>by cases hj
 |names=>exact OwnF.nil _ _ _ _ _ _
 |calls=>exact OwnF.nil _ _ _ _ _ _
structure RdNew (s:List UInt8) (R:Rd):Prop where
 W:R.W=(begunW s).1
 fin:R.fin=(begunW s).2.1
 i:R.i=0
 ds:R.ds=[]
 ms:R.ms=[]
 cs:R.cs=[]
 keep:R.keep=[]
def BegunPost (s:List UInt8) (w:World) (e:Ending) (w':World):Prop:=
 ∃(R:Rd) (f:Nat→Ow) (H:Nat),e=.returned (.tuple #[.pointer (some ⟨H,0,none⟩),.int .i64 ((begunW s).2.2:Int)])∧RdM (fun _=>False) w' w.heap.size f H R∧RdNew s R∧Below w.heap.size w w'
theorem begun_done {s:List UInt8} {w w1:World} {A:Option Addr} {c n:Nat} {W:List Wd} {fin er:Nat} (h:begunW s=(W,fin,er)) (hn:W.length=n) (ho:w1.ownsRow w.heap.size 32 10 (.slice A n c) n (wdL W)) (hb:Below w.heap.size w w1):
  BegunPost s w (.returned (.tuple #[.pointer (some ⟨w1.heap.size,0,none⟩),.int .i64 (er:Int)])) (w1.alloc (.cells #[.slice A n c,.int .i64 (fin:Int),.int .i64 0,.slice none 0 0,.slice none 0 0,.slice none 0 0,.slice none 0 0,.slice none 0 0] 82)):=by
 subst hn
 refine⟨_,_,_,?_,RdM.begin0 fin ho hb.size,⟨?_,?_,rfl,rfl,rfl,rfl,rfl⟩,hb.alloc hb.size _⟩
 ·rw[h]
 ·rw[h]
 ·rw[h]
set_option maxRecDepth 100000 in
set_option maxHeartbeats 3200000 in
theorem begun_any (s:ByteArray) (w:World) (hs:s.size≤281474976710656):Calls Tryz.prog 40 #[.string s] w (BegunPost s.data.toList w):=by
 have hlen:s.data.toList.length=s.size:=Array.length_toList
 have HWA:=Lib.hid (words_any s w hs)
 unfold WordsPost at HWA
 rcases begun_three s.data.toList with⟨h1,h2⟩|⟨h1,h3,h4,h2⟩|⟨h1,h2,h3⟩
 ·have HW:=Lib.hid (show Calls Tryz.prog 9 #[.string s] w fun e w'=>∃A c p,e=.returned (.tuple #[.slice A (wordsL s.data.toList).1.length c,.int .i64 p,.int .i64 0])∧w'.ownsRow w.heap.size 32 10 (.slice A (wordsL s.data.toList).1.length c) (wordsL s.data.toList).1.length (wdL (wordsL s.data.toList).1)∧Below w.heap.size w w' from HWA.out.mono fun e w' ⟨A,c,k1,k2,k3⟩=>⟨A,c,((wordsL s.data.toList).2.1:Int),k1.trans (by rw[h1];rfl),k2,k3⟩)
  have H2:=Lib.hid h2;have HL:=Lib.hid hlen
  clear h1 h2 HWA hlen
  generalize hn:(wordsL s.data.toList).1=W at *
  obtain⟨n,hnn⟩:∃n,W.length=n:=⟨_,rfl⟩
  have HN:=Lib.hid hnn
  rw[hnn]at HW
  clear hn hnn
  go_enter Tryz.func40,Tryz.ntmps40
  go_wp2_with (first
   |(go_at_call 9;(with_reducible refine HW.out.mono ?_);rintro e w1 ⟨A,c,p,rfl,k1,k2⟩;have HO:=Lib.hid k1;have HB:=Lib.hid k2;clear k1 k2)
   |fail)
  refine bodyPost_ret (v:=.tuple #[.pointer (some ⟨w1.heap.size,0,none⟩),.int .i64 0]) (by simp[results,Tryz.results40,go_sem]) rfl ?_
  have hx:=begun_done H2.out HN.out HO.out HB.out
  rw[HL.out]at hx
  exact hx
 ·have HW:=Lib.hid (show Calls Tryz.prog 9 #[.string s] w fun e w'=>∃A c,e=.returned (.tuple #[.slice A (wordsL s.data.toList).1.length c,.int .i64 ((wordsL s.data.toList).2.1:Int),.int .i64 4])∧Below w.heap.size w w' from HWA.out.mono fun e w' ⟨A,c,k1,k2,k3⟩=>⟨A,c,k1.trans (by rw[h1];rfl),k3⟩)
  have HWS:=Lib.hid (fun(u:ByteArray) (wx:World) (hu:u.size≤281474976710656)=>words_any u wx hu)
  unfold WordsPost at HWS
  have H2:=Lib.hid h2;have HL:=Lib.hid hlen
  clear h1 h2 HWA
  generalize hp:(wordsL s.data.toList).2.1=p at *
  generalize (wordsL s.data.toList).1.length=n at *
  have i1:(p:Int)≤(s.size:Int):=by omega
  have i2:(0:Int)≤(p:Int):=by omega
  have i3:p≤s.size:=by omega
  have hxt:(s.extract 0 p).data.toList=s.data.toList.take p:=by simp[ByteArray.data_extract]
  have HXT:=Lib.hid hxt
  have HXS:=Lib.hid (show(s.extract 0 p).size≤281474976710656 from by have h1:=congrArg List.length hxt;rw[List.length_take]at h1;have h2:(s.extract 0 p).data.toList.length=(s.extract 0 p).size:=Array.length_toList;omega)
  clear hp h3 h4 hlen hxt
  go_enter Tryz.func40,Tryz.ntmps40
  go_wp2_with (first
   |(go_at_call 9;(with_reducible refine HW.out.mono ?_);rintro e w1 ⟨A,c,rfl,k2⟩;have HB:=Lib.hid k2;clear k2)
   |(go_at_call 9;(with_reducible refine(HWS.out (s.extract 0 p) w1 HXS.out).mono ?_);rintro e w2 ⟨A2,c2,rfl,k1,k2⟩;have HO:=Lib.hid k1;have HB2:=Lib.hid k2;clear k1 k2)
   |fail)
  refine bodyPost_ret (v:=.tuple #[.pointer (some ⟨w2.heap.size,0,none⟩),.int .i64 4]) (by simp[results,Tryz.results40,go_sem]) rfl ?_
  have ho:=HO.out
  have hb2:=HB2.out
  rw[HXT.out]at ho
  exact begun_done H2.out rfl (own_mono ho HB.out.size) (HB.out.trans (hb2.mono HB.out.size))
 ·have HW:=Lib.hid (show Calls Tryz.prog 9 #[.string s] w fun e w'=>∃A c,e=.returned (.tuple #[.slice A 0 c,.int .i64 65536,.int .i64 40])∧w'.ownsRow w.heap.size 32 10 (.slice A 0 c) 0 (wdL [])∧Below w.heap.size w w' from HWA.out.mono fun e w' hh=>by
   rw[h3]at hh
   exact hh)
  have H2:=Lib.hid h2
  clear h1 h2 h3 HWA hlen
  go_enter Tryz.func40,Tryz.ntmps40
  go_wp2_with (first
   |(go_at_call 9;(with_reducible refine HW.out.mono ?_);rintro e w1 ⟨A,c,rfl,k1,k2⟩;have HO:=Lib.hid k1;have HB:=Lib.hid k2;clear k1 k2)
   |fail)
  refine bodyPost_ret (v:=.tuple #[.pointer (some ⟨w1.heap.size,0,none⟩),.int .i64 40]) (by simp[results,Tryz.results40,go_sem]) rfl ?_
  exact begun_done H2.out rfl HO.out HB.out
structure RdDone (s:List UInt8) (R:Rd):Prop where
 W:R.W=(begunW s).1
 fin:R.fin=(begunW s).2.1
 ds:R.ds.map Ld.df=(readW s).1.1.map (defW R.W)
 len:∀d∈R.ds,d.t.ls.length≤300000
 num:(readW s).1.1.length≤R.W.length∧(readW s).1.2.length≤R.W.length
 ms:R.ms=(readW s).1.1.map fun p=>wdW R.W p.1
 cs:R.cs=(readW s).1.2.map (wdW R.W)
def ReadPost2 (s:List UInt8) (w:World) (e:Ending) (w':World):Prop:=
 ∃(R:Rd) (f:Nat→Ow) (H:Nat),e=.returned (.tuple #[.pointer (some ⟨H,0,none⟩),.int .i64 ((readW s).2.1:Int),.int .i64 ((readW s).2.2:Int)])∧RdM Dch w' w.heap.size f H R∧((readW s).2.2=0→RdDone s R)∧Below w.heap.size w w'
set_option maxRecDepth 100000 in
set_option maxHeartbeats 3200000 in
theorem read_any (s:ByteArray) (w:World) (hs:s.size≤281474976710656) (ht:CntTab w):Calls Tryz.prog 38 #[.string s] w (ReadPost2 s.data.toList w):=by
 have HBG:=Lib.hid (begun_any s w hs)
 unfold BegunPost at HBG
 have HCT:=Lib.hid ht
 obtain⟨l,hl⟩:∃l,s.data.toList=l:=⟨_,rfl⟩
 rw[hl]at HBG ⊢
 have HAL:=Lib.hid (begun_all l)
 obtain⟨er,her⟩:∃er,(begunW l).2.2=er:=⟨_,rfl⟩
 have h3:er=0∨er=4∨er=40:=by
  rw[←her]
  rcases begun_three l with⟨_,h⟩|⟨_,_,_,h⟩|⟨_,h,_⟩ <;> rw[h] <;> simp
 rw[her]at HBG
 have HER:=Lib.hid her
 clear hl her ht hs
 by_cases h40:er=40
 ·subst h40
  clear h3
  go_enter Tryz.func38,Tryz.ntmps38
  go_upto_region 3 with(first
   |(go_at_call 40;(with_reducible refine HBG.out.mono ?_);rintro e w1 ⟨R,f,H,rfl,k1,k2,k3⟩;have HR:=Lib.hid k1;have HN:=Lib.hid k2;have HB:=Lib.hid k3;clear k1 k2 k3)
   |fail)
  obtain⟨_,p1,_,_,_,_,_,_,pf⟩:=blk8 (HR.out.box (fun h=>h))
  go_quiet (fail)
  go_wp2_with fail
  have hr:readW l=(([],[]),(begunW l).2.1,40):=by unfold readW;rw[if_pos HER.out]
  refine bodyPost_ret (v:=.tuple #[.pointer (some ⟨H,0,none⟩),.int .i64 (R.fin:Int),.int .i64 40]) (by simp[results,Tryz.results38,go_sem]) rfl ⟨R,f,H,?_,(HR.out.mono (fun _ h=>h.elim)).below (Below.drewN'' (Below.refl _ w1) nq),fun h=>(by rw[hr]at h;cases h),Below.drewN'' HB.out nq⟩
  rw[hr,HN.out.fin];rfl
 ·have i1:((er:Int)==40)=false:=by simp;omega
  have HRU:=Lib.hid (show ∀(R:Rd) (f:Nat→Ow) (H:Nat) (w1:World),RdM (fun _=>False) w1 w.heap.size f H R→RdNew l R→Below w.heap.size w w1→Calls Tryz.prog 68 #[.pointer (some ⟨H,0,none⟩)] w1 (RulesPost w.heap.size H R w1)from fun R f H w1 h1 h2 h3=>
   rrules_any w1 w.heap.size f H R (h1.mono (fun _ h=>h.elim)) h2.i h2.ds h2.ms h2.cs (by rw[h2.W];exact fun x hx=>(HAL.out.1 x hx).1) (by rw[h2.W];exact HAL.out.2) (by rw[h2.W];exact fun x hx=>(HAL.out.1 x hx).2) (fun w' hb=>HCT.out.below (h3.trans hb)) h3.size)
  unfold RulesPost at HRU
  rcases hru:rulesP (begunW l).1 with k|⟨lr,cs⟩
  ·have hr:readW l=(([],[]),placeW (begunW l).1 (begunW l).2.1 k,4):=by unfold readW;rw[if_neg (by rw[HER.out];exact h40),hru]
   have HRR:=Lib.hid hr;have HRL:=Lib.hid hru
   clear hr hru h40
   go_enter Tryz.func38,Tryz.ntmps38
   go_upto_region 5 with(first
    |(go_at_call 40;(with_reducible refine HBG.out.mono ?_);rintro e w1 ⟨R,f,H,rfl,k1,k2,k3⟩;have HR:=Lib.hid k1;have HN:=Lib.hid k2;have HB:=Lib.hid k3;clear k1 k2 k3)
    |(go_at_call 68;(with_reducible refine(HRU.out R f H w1 HR.out HN.out HB.out).mono ?_);rintro e w2 ⟨_,h1⟩;obtain⟨R2,f2,rfl,h2,h3',h4⟩:=h1 k (by rw[HN.out.W];exact HRL.out);have HR2:=Lib.hid h2;have HE2:=Lib.hid h3';have HB2:=Lib.hid (HB.out.trans h4);clear h1 h2 h3' h4)
    |fail)
   have HPL:=Lib.hid (place_any Dch w2 w.heap.size f2 H R2 HR2.out ⟨fun h=>h,fun h=>h⟩)
   go_wp2_with (first
    |(go_at_call 42;(with_reducible refine HPL.out.mono ?_);rintro e w3 ⟨rfl,hb⟩;have HB3:=Lib.hid hb;clear hb)
    |fail)
   refine bodyPost_ret (v:=.tuple #[.pointer (some ⟨H,0,none⟩),.int .i64 (placeW R2.W R2.fin R2.i:Nat),.int .i64 4]) (by simp[results,Tryz.results38,go_sem]) rfl ⟨R2,f2,H,?_,HR2.out.below HB3.out,fun h=>(by rw[HRR.out]at h;cases h),HB2.out.trans (HB3.out.mono HB2.out.size)⟩
   rw[HRR.out,HE2.out.1,HE2.out.2.1,HE2.out.2.2.2,HN.out.W,HN.out.fin];rfl
  ·have hr:readW l=((lr,cs),(begunW l).2.1,(begunW l).2.2):=by unfold readW;rw[if_neg (by rw[HER.out];exact h40),hru]
   have HRR:=Lib.hid hr;have HRL:=Lib.hid hru
   clear hr hru h40
   go_enter Tryz.func38,Tryz.ntmps38
   go_upto_region 6 with(first
    |(go_at_call 40;(with_reducible refine HBG.out.mono ?_);rintro e w1 ⟨R,f,H,rfl,k1,k2,k3⟩;have HR:=Lib.hid k1;have HN:=Lib.hid k2;have HB:=Lib.hid k3;clear k1 k2 k3)
    |(go_at_call 68;(with_reducible refine(HRU.out R f H w1 HR.out HN.out HB.out).mono ?_);rintro e w2 ⟨h1,_⟩;obtain⟨R2,f2,rfl,h2,h3',h4⟩:=h1 lr cs (by rw[HN.out.W];exact HRL.out);have HR2:=Lib.hid h2;have HE2:=Lib.hid h3';have HB2:=Lib.hid (HB.out.trans h4);clear h1 h2 h3' h4)
    |fail)
   obtain⟨_,p1,_,_,_,_,_,_,pf⟩:=blk8 (HR2.out.box (fun h=>h))
   go_quiet (fail)
   go_wp2_with fail
   refine bodyPost_ret (v:=.tuple #[.pointer (some ⟨H,0,none⟩),.int .i64 (R2.fin:Int),.int .i64 (er:Int)]) (by simp[results,Tryz.results38,go_sem]) rfl ⟨R2,f2,H,?_,HR2.out.below (Below.drewN'' (Below.refl _ w2) nq),fun h=>⟨HE2.out.W.trans HN.out.W,HE2.out.fin.trans HN.out.fin,by rw[HRR.out];exact HE2.out.ds,HE2.out.len,by rw[HRR.out];exact HE2.out.num,by rw[HRR.out];exact HE2.out.ms,by rw[HRR.out];exact HE2.out.cs⟩,Below.drewN'' HB2.out nq⟩
   rw[HRR.out,HE2.out.fin,HN.out.fin,HER.out]
end Go.Proofs.YtpfokabdpmjobaaGreatDoor
