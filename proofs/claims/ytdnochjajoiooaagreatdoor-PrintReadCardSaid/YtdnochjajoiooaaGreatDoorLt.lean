/- The contract of the iterator that tells a text's words. -/
import Derived.Test.YtdnochjajoiooaaGreatDoorLs
import Derived.Test.YtdnochjajoiooaaGreatDoorNb
import Derived.Test.YtdnochjajoiooaaGreatDoorLn
import Derived.Test.YtdnochjajoiooaaGreatDoorLo
import Derived.Shelf.Abstract
import Derived.Shelf.RegionOpen
import Derived.OwnWalkIn
import Derived.TacticsInMore
import Derived.LoopNIn
import Derived.LoopIn
namespace Go.Proofs.YtdnochjajoiooaaGreatDoor
open Go.RowKit Go.Shelf
set_option linter.unusedSimpArgs false
set_option linter.unusedVariables false
attribute [local go_sem] Oper.semAt_some
structure El where
 wd:Wd
 er:Nat
def nxW (s:List UInt8) (pre:List El):Nat:=match pre.getLast? with|none=>A9 s 0|some x=>A9 s x.wd.til
theorem Cj (s:List UInt8) (pre:List El) (x:El):nxW s (pre++[x])=A9 s x.wd.til:=by simp[nxW]
def Ao (a:Nat):Wd:=⟨0,a,0,[],0,0,0,0,0,0⟩
def AtW (s:List UInt8) (p:List El×El):Prop:=nxW s p.1<s.length/\((p.2.er=0/\B9 s (nxW s p.1)=some p.2.wd)\/(p.2.er=4/\p.2.wd=Ao (nxW s p.1)/\B9 s (nxW s p.1)=none))
def EnW (s:List UInt8) (xs:List El):Prop:=s.length<=nxW s xs\/ ∃pre x,xs=pre++[x]/\AtW s (pre,x)/\x.er=4
def KpW (W W':World):Prop:=(∀(k:Nat) (es:Array MapEntry) (c:Nat),W.heap[k]?=some (Obj.map es c)->W'.heap[k]?=some (Obj.map es c))/\(∀(k:Nat) (cs:Array Value) (T:TypeId) (fr:Nat×Nat),(T=5\/T=9)->W.heap[k]?=some (Obj.cells cs T fr)->W'.heap[k]?=some (Obj.cells cs T fr))
theorem KpW.trans {A B C:World} (h:KpW A B) (k:KpW B C):KpW A C:=⟨fun i es c hi=>k.1 i es c (h.1 i es c hi),fun i cs T fr hT hi=>k.2 i cs T fr hT (h.2 i cs T fr hT hi)⟩
theorem KpW.putObj (W:World) (l:Nat) (o o':Obj) (ho:KC o=true) (hl:W.heap[l]?=some o):KpW W (W.putObj l o'):=
 ⟨fun k es c hk=>(World.putObj_heap_other (fun e=>by subst e;rw[hl]at hk;cases hk;simp[KC]at ho)).trans hk,fun k cs T fr _ hk=>(World.putObj_heap_other (fun e=>by subst e;rw[hl]at hk;cases hk;simp[KC]at ho)).trans hk⟩
theorem KpW.below {W W':World} (h:Below W.heap.size W W'):KpW W W':=
 ⟨fun k es c hk=>(h.block k (Array.getElem?_eq_some_iff.1 hk).1).trans hk,fun k cs T fr _ hk=>(h.block k (Array.getElem?_eq_some_iff.1 hk).1).trans hk⟩
theorem BMap.kp {w w':World} {b n:Nat} {f:UInt8->Option Value} (h:BMap w b n f) (hk:KpW w w'):BMap w' b n f:=by
 obtain⟨D,⟨es,c,hb,r⟩,hf⟩:=h;exact⟨D,⟨es,c,hk.1 _ _ _ hb,r⟩,hf⟩
theorem Reads.kp {w w':World} {base m:Nat} {Bs:Nat->Nat} (h:Reads w base m Bs) (hk:KpW w w'):Reads w' base m Bs:=
 ⟨h.map.kp hk,fun j hj=>⟨(h.box j hj).1,hk.2 _ _ _ _ (.inl rfl) (h.box j hj).2⟩⟩
theorem Reads.below {w w':World} {base m:Nat} {Bs:Nat->Nat} (h:Reads w base m Bs) (hb:Below w.heap.size w w'):Reads w' base m Bs:=h.kp (KpW.below hb)
inductive How (Bs:Nat->Nat) (c:UInt8):Prop where
 |knamed (h:AO c.toNat=true) (e:EE Bs 256 c=some (fnV 98))
 |kcount (h:c=123) (e:EE Bs 256 c=some (fnV 92))
 |kliteral (h:c=34) (e:EE Bs 256 c=some (fnV 93))
 |kclass (h:c=91) (e:EE Bs 256 c=some (fnV 94))
 |kdot (h:c=46) (e:EE Bs 256 c=some (fnV 95))
 |kless (h:c=60) (e:EE Bs 256 c=some (fnV 97))
 |ksign (j:Nat) (hj:j<11) (h:DX c=some (3+j)) (e:EE Bs 256 c=some (sgV (Bs j)))
 |knone (h:∀s:List UInt8,∀a,s[a]?=some c->B9 s a=Option.none) (e:EE Bs 256 c=Option.none)
theorem Vt:∀j (h:j<11),sgn[j]'h≠60->DX (sgn[j]'h)=some (3+j)/\AO (sgn[j]'h).toNat=false:=by decide
theorem WT {c:UInt8} (h:c∉sgn):DX c=none:=by
 unfold DX;simp only[sgn,List.mem_cons,List.not_mem_nil,or_false,not_or]at h;obtain⟨h1,h2,h3,h4,h5,h6,h7,h8,h9,h10,h11⟩:=h;rw[if_neg h1,if_neg h2,if_neg h3,if_neg h4,if_neg h5,if_neg h6,if_neg h7,if_neg h8,if_neg h10,if_neg h11]
theorem how (Bs:Nat->Nat) (c:UInt8):How Bs c:=by
 have hc:=c.toNat_lt;by_cases hl:AO c.toNat=true
 ·exact .knamed hl (by unfold EE;rw[if_pos ⟨by omega,hl⟩])
 have h0:EE Bs 256 c=g0 Bs c:=by unfold EE;rw[if_neg (fun h=>hl h.2)]
 by_cases h60:c=60
 ·exact .kless h60 (by rw[h0];unfold g0;rw[if_pos h60])
 have h1:EE Bs 256 c=LG Bs 11 c:=by rw[h0];unfold g0;rw[if_neg h60]
 have ht:sgn.take 11=sgn:=rfl;by_cases hs:c∈sgn
 ·have h2:EE Bs 256 c=some (sgV (Bs (sgn.idxOf c))):=by rw[h1];unfold LG;rw[ht,if_pos hs]
  have h3:sgn.idxOf c<11:=List.idxOf_lt_length_of_mem hs;have h4:sgn[sgn.idxOf c]'h3=c:=List.getElem_idxOf h3;exact .ksign (sgn.idxOf c) h3 (by have:=(Vt (sgn.idxOf c) h3 (by rw[h4];exact h60)).1;rwa [h4]at this) h2
 have h2:EE Bs 256 c=RT c:=by rw[h1];unfold LG;rw[ht,if_neg hs]
 unfold RT at h2;by_cases h46:c=46
 ·exact .kdot h46 (by rw[h2,if_pos h46])
 by_cases h91:c=91
 ·exact .kclass h91 (by rw[h2,if_neg h46,if_pos h91])
 by_cases h34:c=34
 ·exact .kliteral h34 (by rw[h2,if_neg h46,if_neg h91,if_pos h34])
 by_cases h123:c=123
 ·exact .kcount h123 (by rw[h2,if_neg h46,if_neg h91,if_neg h34,if_pos h123])
 refine .knone (fun s a ha=>De ?_) (by rw[h2,if_neg h46,if_neg h91,if_neg h34,if_neg h123]);unfold Bf;rw[Cy,ha];simp only;rw[if_neg hl,if_neg h123,if_neg h34,if_neg h91,if_neg h46,if_neg h60,WT hs];rfl
set_option maxHeartbeats 1000000 in
theorem Vu (F:Fence) (n:Nat) (hf:F.fn 65) (hro:F.round=none) (s:ByteArray) (w:World):
  CallsIn F n Tryz.prog 65 #[.string s] w fun e w'=>e=.returned (.func (.func 78) #[] #[.pointer (some ⟨w.heap.size,0,none⟩)])/\w'=w.alloc (.cells #[.string s] 9):=by
 refine callsIn_of_wp Tryz.func65 rfl hf ?_ hro;simp only[Tryz.ntmps65,List.size_toArray,List.length_cons,List.length_nil,Nat.reduceAdd,Nat.reduceSub,Array.replicate_succ,Array.replicate_zero,List.push_toArray,List.append_toArray,List.nil_append,List.cons_append];gi_wp2
 go_ret;exact⟨rfl,rfl⟩
theorem Bl:∀w,(zeroValue 151).run Tryz.prog w=.ok .nilFunc w:=fun w=>by kernel_rfl
theorem ReadPost.yes {s:List UInt8} {a:Nat} {w w':World} {e:Ending} {x:Wd} (h:ReadPost s a w e w') (hx:B9 s a=some x):e=.returned (.tuple #[wdV x,.bool true])/\Below w.heap.size w w':=by
 obtain⟨y,ok,rfl,h1,h2,h3⟩:=h;cases ok
 ·have:=h2 rfl;rw[hx]at this;cases this
 ·have:=h1 rfl;rw[hx]at this;cases this;exact⟨rfl,h3⟩
theorem ReadPost.no {s:List UInt8} {a:Nat} {w w':World} {e:Ending} (h:ReadPost s a w e w') (hx:B9 s a=none):(∃x,e=.returned (.tuple #[wdV x,.bool false]))/\Below w.heap.size w w':=by
 obtain⟨y,ok,rfl,h1,h2,h3⟩:=h;cases ok
 ·exact⟨⟨y,rfl⟩,h3⟩
 ·have:=h1 rfl;rw[hx]at this;cases this
set_option maxRecDepth 100000 in
set_option maxHeartbeats 3200000 in
theorem T4 (n:Nat) (hn:1<=n) (Bt:Nat) (s:ByteArray) (w0:World) (hs:s.size<=65536) (h0:w0.heap[Bt]?=some (.cells #[.string s] 9 (0,0))):
  Xq Fence.wide n Tryz.prog 78 #[.pointer (some ⟨Bt,0,none⟩)] (fun x:El=> #[wdV x.wd,.int .i64 (x.er:Int)]) (AtW s.data.toList) KpW (EnW s.data.toList) w0:=by
 intro l J Jx W hW hJ hJx hY hj0;have HT0:=qd (Ae hW h0);clear h0;have hsz:=Ar s;refine callsIn_of_wp Tryz.func78 rfl trivial ?_ rfl;simp only[Tryz.ntmps78,List.size_toArray,List.length_cons,List.length_nil,Nat.reduceAdd,Nat.reduceSub,Array.replicate_succ,Array.replicate_zero,List.push_toArray,List.append_toArray,List.nil_append,List.cons_append];have hfn:∀k,Fence.wide.fn k:=fun _=>trivial
 gi_wp2_with (first
  |(gi_at_call 79;refine(callsIn_wide.2 (NL _)).mono ?_;rintro e w1 ⟨m,Bs,rfl,h1,h2,h3⟩;have HR1:=qd h1;have HT1:=qd (Ae h2 HT0.out);have hj1:=hJ _ _ _ hj0 h2;have t1:w1.cell? ⟨Bt,0,none⟩=some (.string s):=(by simp[World.cell?,HT1.out]);clear h1 h2 h3)
  |(gi_at_call 80;refine(callsIn_wide.2 (E7 s 0 _ (by omega) (by omega))).mono ?_;rintro e w' ⟨rfl,rfl⟩)
  |fail)
 gi_loopw [4] (fun i wr=>∃pre:List El,i=.int .i64 (nxW s.data.toList pre:Int)/\Hid (Reads wr W.heap.size m Bs)/\Hid (wr.heap[Bt]?=some (.cells #[.string s] 9 (0,0)))/\Hid (nxW s.data.toList pre<=s.size)/\J pre wr) (fun i _=>s.size+1-(intOf i).toNat)
 case atStart=>exact⟨[],rfl,HR1,HT1,qd (by have:=F5 s.data.toList 0;show A9 s.data.toList 0<=s.size;omega),hj1⟩
 case round=>
  clear hj0 hj1 HR1 HT1 t1 HT0;obtain⟨pre,rfl,HR,HT,HN,hj⟩:=hrel;have t0:wr.cell? ⟨Bt,0,none⟩=some (.string s):=by simp[World.cell?,HT.out]
  obtain⟨a,ha⟩:∃a,nxW s.data.toList pre=a:=⟨_,rfl⟩;rw[ha]at HN;have HA:=qd ha;by_cases hlt:a<s.size
  ·have i1:(a:Int)<(s.size:Int):=by omega
   have i2:(0:Int)<=(a:Int):=by omega
   have hA:=Lib.data_getElem? s a hlt;rw[ha];have HX:=qd hA;clear hA ha;rcases how Bs s[a]with⟨h,e⟩|⟨h,e⟩|⟨h,e⟩|⟨h,e⟩|⟨h,e⟩|⟨h,e⟩|⟨j,hj1,h,e⟩|⟨h,e⟩
   ·have HE:=qd e;have HRD:=qd (T7 s a wr hlt (by omega) ⟨_,HX.out,h⟩);clear e h;cases hwd:B9 s.data.toList a with
    |none=>
     have HWD:=qd hwd;clear hwd
     gi_wp2_with (first
      |(gi_at_lookup;refine A5 rfl _ _ _ rfl 151 Tryz.underlying147 (Bl _) _ _ _ rfl HR.out.map s[a] _ rfl rfl ?_;rw[HE.out])
      |(gi_at_call 98;refine(callsIn_wide.2 HRD.out).mono ?_;intro e w2 hp;obtain⟨⟨x,rfl⟩,hb⟩:=hp.no HWD.out;have HB2:=qd hb;have HB3:=qd (hb.alloc hb.size (.cells #[.int .u8 (x.kind:Int),.int .i64 (x.frm:Int),.int .i64 (x.til:Int),.string ⟨x.text.toArray⟩,.int .u64 (x.s0:Int),.int .u64 (x.s1:Int),.int .u64 (x.s2:Int),.int .u64 (x.s3:Int),.int .i64 x.low,.int .i64 x.high] 106));obtain⟨fn,tmps,assign,body,hy0,hR⟩:=hY pre ⟨Ao a,4⟩ wr _ hj HB3.out ⟨by show nxW s.data.toList pre<s.data.toList.length;rw[HA.out];omega,.inr ⟨rfl,by rw[HA.out],by rw[HA.out];exact HWD.out⟩⟩;have hy:(Instr.yield l #[.agg #[.int .u8 0,.int .i64 (a:Int),.int .i64 0,.string ⟨#[]⟩,.int .u64 0,.int .u64 0,.int .u64 0,.int .u64 0,.int .i64 0,.int .i64 0],.int .i64 4]).run Tryz.prog (w2.alloc (.cells #[.int .u8 (x.kind:Int),.int .i64 (x.frm:Int),.int .i64 (x.til:Int),.string ⟨x.text.toArray⟩,.int .u64 (x.s0:Int),.int .u64 (x.s1:Int),.int .u64 (x.s2:Int),.int .u64 (x.s3:Int),.int .i64 x.low,.int .i64 x.high] 106))=.ok (.round l fn tmps assign body) (w2.alloc (.cells #[.int .u8 (x.kind:Int),.int .i64 (x.frm:Int),.int .i64 (x.til:Int),.string ⟨x.text.toArray⟩,.int .u64 (x.s0:Int),.int .u64 (x.s1:Int),.int .u64 (x.s2:Int),.int .u64 (x.s3:Int),.int .i64 x.low,.int .i64 x.high] 106)):=hy0;clear hp hb hy0)
      |fail)
     refine hR.mono ?_;rintro e W3 (⟨rfl,hJ3,hk3,hn3⟩|⟨rfl,hJx3⟩)
     ·gi_wp2
      refine bodyPost_ret (results_none rfl _ _ _) rfl ?_;exact⟨⟨_,rfl⟩,.inl ⟨_,.inr ⟨pre,⟨Ao a,4⟩,rfl,⟨by show nxW s.data.toList pre<s.data.toList.length;rw[HA.out];omega,.inr ⟨rfl,by rw[HA.out],by rw[HA.out];exact HWD.out⟩⟩,rfl⟩,hJ3⟩⟩
     ·gi_wp2
      refine bodyPost_ret (results_none rfl _ _ _) rfl ?_;exact⟨⟨_,rfl⟩,.inr ⟨_,hJx3⟩⟩
    |some x=>
     have HWD:=qd hwd;have hwt:=CL hwd;clear hwd;have HTIL:=qd (F5 s.data.toList x.til);have HGE:=qd (Dr s.data.toList x.til)
     gi_wp2_with (first
      |(gi_at_lookup;refine A5 rfl _ _ _ rfl 151 Tryz.underlying147 (Bl _) _ _ _ rfl HR.out.map s[a] _ rfl rfl ?_;rw[HE.out])
      |(gi_at_call 98;refine(callsIn_wide.2 HRD.out).mono ?_;intro e w2 hp;obtain⟨rfl,hb⟩:=hp.yes HWD.out;have HB2:=qd hb;have HB3:=qd (hb.alloc hb.size (.cells #[.int .u8 (x.kind:Int),.int .i64 (x.frm:Int),.int .i64 (x.til:Int),.string ⟨x.text.toArray⟩,.int .u64 (x.s0:Int),.int .u64 (x.s1:Int),.int .u64 (x.s2:Int),.int .u64 (x.s3:Int),.int .i64 x.low,.int .i64 x.high] 106));obtain⟨fn,tmps,assign,body,hy0,hR⟩:=hY pre ⟨x,0⟩ wr _ hj HB3.out ⟨by show nxW s.data.toList pre<s.data.toList.length;rw[HA.out];omega,.inl ⟨rfl,by rw[HA.out];exact HWD.out⟩⟩;have hy:(Instr.yield l #[.agg #[.int .u8 (x.kind:Int),.int .i64 (x.frm:Int),.int .i64 (x.til:Int),.string ⟨x.text.toArray⟩,.int .u64 (x.s0:Int),.int .u64 (x.s1:Int),.int .u64 (x.s2:Int),.int .u64 (x.s3:Int),.int .i64 x.low,.int .i64 x.high],.int .i64 0]).run Tryz.prog (w2.alloc (.cells #[.int .u8 (x.kind:Int),.int .i64 (x.frm:Int),.int .i64 (x.til:Int),.string ⟨x.text.toArray⟩,.int .u64 (x.s0:Int),.int .u64 (x.s1:Int),.int .u64 (x.s2:Int),.int .u64 (x.s3:Int),.int .i64 x.low,.int .i64 x.high] 106))=.ok (.round l fn tmps assign body) (w2.alloc (.cells #[.int .u8 (x.kind:Int),.int .i64 (x.frm:Int),.int .i64 (x.til:Int),.string ⟨x.text.toArray⟩,.int .u64 (x.s0:Int),.int .u64 (x.s1:Int),.int .u64 (x.s2:Int),.int .u64 (x.s3:Int),.int .i64 x.low,.int .i64 x.high] 106)):=hy0;clear hp hb hy0)
      |fail)
     refine hR.mono ?_;rintro e W3 (⟨rfl,hJ3,hk3,hn3⟩|⟨rfl,hJx3⟩)
     ·have hz:=HB2.out.size;have hbx:W3.heap[w2.heap.size]?=some (.cells #[.int .u8 (x.kind:Int),.int .i64 (x.frm:Int),.int .i64 (x.til:Int),.string ⟨x.text.toArray⟩,.int .u64 (x.s0:Int),.int .u64 (x.s1:Int),.int .u64 (x.s2:Int),.int .u64 (x.s3:Int),.int .i64 x.low,.int .i64 x.high] 106 (0,0)):=(hn3 w2.heap.size hz (by simp)).trans (Ad w2 _);have HT3:=qd (hk3.2 _ _ _ _ (.inr rfl) ((HB3.out.block _ (Array.getElem?_eq_some_iff.1 HT.out).1).trans HT.out));have HR3:=qd ((HR.out.below HB3.out).kp hk3);obtain⟨_,_,c2,_⟩:=BB hbx;have t3:W3.cell? ⟨Bt,0,none⟩=some (.string s):=by simp[World.cell?,HT3.out]
      gi_wp2_with (first
       |(gi_at_call 80;refine(callsIn_wide.2 (E7 s x.til _ (by omega) (by omega))).mono ?_;rintro e w' ⟨rfl,rfl⟩)
       |fail)
      have h1:=HTIL.out;have h2:=HGE.out;refine⟨⟨pre++[⟨x,0⟩],by rw[Cj],HR3,HT3,qd (by rw[Cj];show A9 s.data.toList x.til<=s.size;omega),hJ3⟩,?_⟩;simp only[intOf,Int.toNat_natCast];omega
     ·gi_wp2
      refine bodyPost_ret (results_none rfl _ _ _) rfl ?_;exact⟨⟨_,rfl⟩,.inr ⟨_,hJx3⟩⟩
   ·have HE:=qd e;have HRD:=qd (QB s a wr hlt (by omega) (by rw[HX.out,h]));clear e h;cases hwd:B9 s.data.toList a with
    |none=>
     have HWD:=qd hwd;clear hwd
     gi_wp2_with (first
      |(gi_at_lookup;refine A5 rfl _ _ _ rfl 151 Tryz.underlying147 (Bl _) _ _ _ rfl HR.out.map s[a] _ rfl rfl ?_;rw[HE.out])
      |(gi_at_call 92;refine(callsIn_wide.2 HRD.out).mono ?_;intro e w2 hp;obtain⟨⟨x,rfl⟩,hb⟩:=hp.no HWD.out;have HB2:=qd hb;have HB3:=qd (hb.alloc hb.size (.cells #[.int .u8 (x.kind:Int),.int .i64 (x.frm:Int),.int .i64 (x.til:Int),.string ⟨x.text.toArray⟩,.int .u64 (x.s0:Int),.int .u64 (x.s1:Int),.int .u64 (x.s2:Int),.int .u64 (x.s3:Int),.int .i64 x.low,.int .i64 x.high] 106));obtain⟨fn,tmps,assign,body,hy0,hR⟩:=hY pre ⟨Ao a,4⟩ wr _ hj HB3.out ⟨by show nxW s.data.toList pre<s.data.toList.length;rw[HA.out];omega,.inr ⟨rfl,by rw[HA.out],by rw[HA.out];exact HWD.out⟩⟩;have hy:(Instr.yield l #[.agg #[.int .u8 0,.int .i64 (a:Int),.int .i64 0,.string ⟨#[]⟩,.int .u64 0,.int .u64 0,.int .u64 0,.int .u64 0,.int .i64 0,.int .i64 0],.int .i64 4]).run Tryz.prog (w2.alloc (.cells #[.int .u8 (x.kind:Int),.int .i64 (x.frm:Int),.int .i64 (x.til:Int),.string ⟨x.text.toArray⟩,.int .u64 (x.s0:Int),.int .u64 (x.s1:Int),.int .u64 (x.s2:Int),.int .u64 (x.s3:Int),.int .i64 x.low,.int .i64 x.high] 106))=.ok (.round l fn tmps assign body) (w2.alloc (.cells #[.int .u8 (x.kind:Int),.int .i64 (x.frm:Int),.int .i64 (x.til:Int),.string ⟨x.text.toArray⟩,.int .u64 (x.s0:Int),.int .u64 (x.s1:Int),.int .u64 (x.s2:Int),.int .u64 (x.s3:Int),.int .i64 x.low,.int .i64 x.high] 106)):=hy0;clear hp hb hy0)
      |fail)
     refine hR.mono ?_;rintro e W3 (⟨rfl,hJ3,hk3,hn3⟩|⟨rfl,hJx3⟩)
     ·gi_wp2
      refine bodyPost_ret (results_none rfl _ _ _) rfl ?_;exact⟨⟨_,rfl⟩,.inl ⟨_,.inr ⟨pre,⟨Ao a,4⟩,rfl,⟨by show nxW s.data.toList pre<s.data.toList.length;rw[HA.out];omega,.inr ⟨rfl,by rw[HA.out],by rw[HA.out];exact HWD.out⟩⟩,rfl⟩,hJ3⟩⟩
     ·gi_wp2
      refine bodyPost_ret (results_none rfl _ _ _) rfl ?_;exact⟨⟨_,rfl⟩,.inr ⟨_,hJx3⟩⟩
    |some x=>
     have HWD:=qd hwd;have hwt:=CL hwd;clear hwd;have HTIL:=qd (F5 s.data.toList x.til);have HGE:=qd (Dr s.data.toList x.til)
     gi_wp2_with (first
      |(gi_at_lookup;refine A5 rfl _ _ _ rfl 151 Tryz.underlying147 (Bl _) _ _ _ rfl HR.out.map s[a] _ rfl rfl ?_;rw[HE.out])
      |(gi_at_call 92;refine(callsIn_wide.2 HRD.out).mono ?_;intro e w2 hp;obtain⟨rfl,hb⟩:=hp.yes HWD.out;have HB2:=qd hb;have HB3:=qd (hb.alloc hb.size (.cells #[.int .u8 (x.kind:Int),.int .i64 (x.frm:Int),.int .i64 (x.til:Int),.string ⟨x.text.toArray⟩,.int .u64 (x.s0:Int),.int .u64 (x.s1:Int),.int .u64 (x.s2:Int),.int .u64 (x.s3:Int),.int .i64 x.low,.int .i64 x.high] 106));obtain⟨fn,tmps,assign,body,hy0,hR⟩:=hY pre ⟨x,0⟩ wr _ hj HB3.out ⟨by show nxW s.data.toList pre<s.data.toList.length;rw[HA.out];omega,.inl ⟨rfl,by rw[HA.out];exact HWD.out⟩⟩;have hy:(Instr.yield l #[.agg #[.int .u8 (x.kind:Int),.int .i64 (x.frm:Int),.int .i64 (x.til:Int),.string ⟨x.text.toArray⟩,.int .u64 (x.s0:Int),.int .u64 (x.s1:Int),.int .u64 (x.s2:Int),.int .u64 (x.s3:Int),.int .i64 x.low,.int .i64 x.high],.int .i64 0]).run Tryz.prog (w2.alloc (.cells #[.int .u8 (x.kind:Int),.int .i64 (x.frm:Int),.int .i64 (x.til:Int),.string ⟨x.text.toArray⟩,.int .u64 (x.s0:Int),.int .u64 (x.s1:Int),.int .u64 (x.s2:Int),.int .u64 (x.s3:Int),.int .i64 x.low,.int .i64 x.high] 106))=.ok (.round l fn tmps assign body) (w2.alloc (.cells #[.int .u8 (x.kind:Int),.int .i64 (x.frm:Int),.int .i64 (x.til:Int),.string ⟨x.text.toArray⟩,.int .u64 (x.s0:Int),.int .u64 (x.s1:Int),.int .u64 (x.s2:Int),.int .u64 (x.s3:Int),.int .i64 x.low,.int .i64 x.high] 106)):=hy0;clear hp hb hy0)
      |fail)
     refine hR.mono ?_;rintro e W3 (⟨rfl,hJ3,hk3,hn3⟩|⟨rfl,hJx3⟩)
     ·have hz:=HB2.out.size;have hbx:W3.heap[w2.heap.size]?=some (.cells #[.int .u8 (x.kind:Int),.int .i64 (x.frm:Int),.int .i64 (x.til:Int),.string ⟨x.text.toArray⟩,.int .u64 (x.s0:Int),.int .u64 (x.s1:Int),.int .u64 (x.s2:Int),.int .u64 (x.s3:Int),.int .i64 x.low,.int .i64 x.high] 106 (0,0)):=(hn3 w2.heap.size hz (by simp)).trans (Ad w2 _);have HT3:=qd (hk3.2 _ _ _ _ (.inr rfl) ((HB3.out.block _ (Array.getElem?_eq_some_iff.1 HT.out).1).trans HT.out));have HR3:=qd ((HR.out.below HB3.out).kp hk3);obtain⟨_,_,c2,_⟩:=BB hbx;have t3:W3.cell? ⟨Bt,0,none⟩=some (.string s):=by simp[World.cell?,HT3.out]
      gi_wp2_with (first
       |(gi_at_call 80;refine(callsIn_wide.2 (E7 s x.til _ (by omega) (by omega))).mono ?_;rintro e w' ⟨rfl,rfl⟩)
       |fail)
      have h1:=HTIL.out;have h2:=HGE.out;refine⟨⟨pre++[⟨x,0⟩],by rw[Cj],HR3,HT3,qd (by rw[Cj];show A9 s.data.toList x.til<=s.size;omega),hJ3⟩,?_⟩;simp only[intOf,Int.toNat_natCast];omega
     ·gi_wp2
      refine bodyPost_ret (results_none rfl _ _ _) rfl ?_;exact⟨⟨_,rfl⟩,.inr ⟨_,hJx3⟩⟩
   ·have HE:=qd e;have HRD:=qd (Pm s a wr hlt (by omega) (by rw[HX.out,h]));clear e h;cases hwd:B9 s.data.toList a with
    |none=>
     have HWD:=qd hwd;clear hwd
     gi_wp2_with (first
      |(gi_at_lookup;refine A5 rfl _ _ _ rfl 151 Tryz.underlying147 (Bl _) _ _ _ rfl HR.out.map s[a] _ rfl rfl ?_;rw[HE.out])
      |(gi_at_call 93;refine(callsIn_wide.2 HRD.out).mono ?_;intro e w2 hp;obtain⟨⟨x,rfl⟩,hb⟩:=hp.no HWD.out;have HB2:=qd hb;have HB3:=qd (hb.alloc hb.size (.cells #[.int .u8 (x.kind:Int),.int .i64 (x.frm:Int),.int .i64 (x.til:Int),.string ⟨x.text.toArray⟩,.int .u64 (x.s0:Int),.int .u64 (x.s1:Int),.int .u64 (x.s2:Int),.int .u64 (x.s3:Int),.int .i64 x.low,.int .i64 x.high] 106));obtain⟨fn,tmps,assign,body,hy0,hR⟩:=hY pre ⟨Ao a,4⟩ wr _ hj HB3.out ⟨by show nxW s.data.toList pre<s.data.toList.length;rw[HA.out];omega,.inr ⟨rfl,by rw[HA.out],by rw[HA.out];exact HWD.out⟩⟩;have hy:(Instr.yield l #[.agg #[.int .u8 0,.int .i64 (a:Int),.int .i64 0,.string ⟨#[]⟩,.int .u64 0,.int .u64 0,.int .u64 0,.int .u64 0,.int .i64 0,.int .i64 0],.int .i64 4]).run Tryz.prog (w2.alloc (.cells #[.int .u8 (x.kind:Int),.int .i64 (x.frm:Int),.int .i64 (x.til:Int),.string ⟨x.text.toArray⟩,.int .u64 (x.s0:Int),.int .u64 (x.s1:Int),.int .u64 (x.s2:Int),.int .u64 (x.s3:Int),.int .i64 x.low,.int .i64 x.high] 106))=.ok (.round l fn tmps assign body) (w2.alloc (.cells #[.int .u8 (x.kind:Int),.int .i64 (x.frm:Int),.int .i64 (x.til:Int),.string ⟨x.text.toArray⟩,.int .u64 (x.s0:Int),.int .u64 (x.s1:Int),.int .u64 (x.s2:Int),.int .u64 (x.s3:Int),.int .i64 x.low,.int .i64 x.high] 106)):=hy0;clear hp hb hy0)
      |fail)
     refine hR.mono ?_;rintro e W3 (⟨rfl,hJ3,hk3,hn3⟩|⟨rfl,hJx3⟩)
     ·gi_wp2
      refine bodyPost_ret (results_none rfl _ _ _) rfl ?_;exact⟨⟨_,rfl⟩,.inl ⟨_,.inr ⟨pre,⟨Ao a,4⟩,rfl,⟨by show nxW s.data.toList pre<s.data.toList.length;rw[HA.out];omega,.inr ⟨rfl,by rw[HA.out],by rw[HA.out];exact HWD.out⟩⟩,rfl⟩,hJ3⟩⟩
     ·gi_wp2
      refine bodyPost_ret (results_none rfl _ _ _) rfl ?_;exact⟨⟨_,rfl⟩,.inr ⟨_,hJx3⟩⟩
    |some x=>
     have HWD:=qd hwd;have hwt:=CL hwd;clear hwd;have HTIL:=qd (F5 s.data.toList x.til);have HGE:=qd (Dr s.data.toList x.til)
     gi_wp2_with (first
      |(gi_at_lookup;refine A5 rfl _ _ _ rfl 151 Tryz.underlying147 (Bl _) _ _ _ rfl HR.out.map s[a] _ rfl rfl ?_;rw[HE.out])
      |(gi_at_call 93;refine(callsIn_wide.2 HRD.out).mono ?_;intro e w2 hp;obtain⟨rfl,hb⟩:=hp.yes HWD.out;have HB2:=qd hb;have HB3:=qd (hb.alloc hb.size (.cells #[.int .u8 (x.kind:Int),.int .i64 (x.frm:Int),.int .i64 (x.til:Int),.string ⟨x.text.toArray⟩,.int .u64 (x.s0:Int),.int .u64 (x.s1:Int),.int .u64 (x.s2:Int),.int .u64 (x.s3:Int),.int .i64 x.low,.int .i64 x.high] 106));obtain⟨fn,tmps,assign,body,hy0,hR⟩:=hY pre ⟨x,0⟩ wr _ hj HB3.out ⟨by show nxW s.data.toList pre<s.data.toList.length;rw[HA.out];omega,.inl ⟨rfl,by rw[HA.out];exact HWD.out⟩⟩;have hy:(Instr.yield l #[.agg #[.int .u8 (x.kind:Int),.int .i64 (x.frm:Int),.int .i64 (x.til:Int),.string ⟨x.text.toArray⟩,.int .u64 (x.s0:Int),.int .u64 (x.s1:Int),.int .u64 (x.s2:Int),.int .u64 (x.s3:Int),.int .i64 x.low,.int .i64 x.high],.int .i64 0]).run Tryz.prog (w2.alloc (.cells #[.int .u8 (x.kind:Int),.int .i64 (x.frm:Int),.int .i64 (x.til:Int),.string ⟨x.text.toArray⟩,.int .u64 (x.s0:Int),.int .u64 (x.s1:Int),.int .u64 (x.s2:Int),.int .u64 (x.s3:Int),.int .i64 x.low,.int .i64 x.high] 106))=.ok (.round l fn tmps assign body) (w2.alloc (.cells #[.int .u8 (x.kind:Int),.int .i64 (x.frm:Int),.int .i64 (x.til:Int),.string ⟨x.text.toArray⟩,.int .u64 (x.s0:Int),.int .u64 (x.s1:Int),.int .u64 (x.s2:Int),.int .u64 (x.s3:Int),.int .i64 x.low,.int .i64 x.high] 106)):=hy0;clear hp hb hy0)
      |fail)
     refine hR.mono ?_;rintro e W3 (⟨rfl,hJ3,hk3,hn3⟩|⟨rfl,hJx3⟩)
     ·have hz:=HB2.out.size;have hbx:W3.heap[w2.heap.size]?=some (.cells #[.int .u8 (x.kind:Int),.int .i64 (x.frm:Int),.int .i64 (x.til:Int),.string ⟨x.text.toArray⟩,.int .u64 (x.s0:Int),.int .u64 (x.s1:Int),.int .u64 (x.s2:Int),.int .u64 (x.s3:Int),.int .i64 x.low,.int .i64 x.high] 106 (0,0)):=(hn3 w2.heap.size hz (by simp)).trans (Ad w2 _);have HT3:=qd (hk3.2 _ _ _ _ (.inr rfl) ((HB3.out.block _ (Array.getElem?_eq_some_iff.1 HT.out).1).trans HT.out));have HR3:=qd ((HR.out.below HB3.out).kp hk3);obtain⟨_,_,c2,_⟩:=BB hbx;have t3:W3.cell? ⟨Bt,0,none⟩=some (.string s):=by simp[World.cell?,HT3.out]
      gi_wp2_with (first
       |(gi_at_call 80;refine(callsIn_wide.2 (E7 s x.til _ (by omega) (by omega))).mono ?_;rintro e w' ⟨rfl,rfl⟩)
       |fail)
      have h1:=HTIL.out;have h2:=HGE.out;refine⟨⟨pre++[⟨x,0⟩],by rw[Cj],HR3,HT3,qd (by rw[Cj];show A9 s.data.toList x.til<=s.size;omega),hJ3⟩,?_⟩;simp only[intOf,Int.toNat_natCast];omega
     ·gi_wp2
      refine bodyPost_ret (results_none rfl _ _ _) rfl ?_;exact⟨⟨_,rfl⟩,.inr ⟨_,hJx3⟩⟩
   ·have HE:=qd e;have HRD:=qd (T1 s a wr hlt (by omega) (by rw[HX.out,h]));clear e h;cases hwd:B9 s.data.toList a with
    |none=>
     have HWD:=qd hwd;clear hwd
     gi_wp2_with (first
      |(gi_at_lookup;refine A5 rfl _ _ _ rfl 151 Tryz.underlying147 (Bl _) _ _ _ rfl HR.out.map s[a] _ rfl rfl ?_;rw[HE.out])
      |(gi_at_call 94;refine(callsIn_wide.2 HRD.out).mono ?_;intro e w2 hp;obtain⟨⟨x,rfl⟩,hb⟩:=hp.no HWD.out;have HB2:=qd hb;have HB3:=qd (hb.alloc hb.size (.cells #[.int .u8 (x.kind:Int),.int .i64 (x.frm:Int),.int .i64 (x.til:Int),.string ⟨x.text.toArray⟩,.int .u64 (x.s0:Int),.int .u64 (x.s1:Int),.int .u64 (x.s2:Int),.int .u64 (x.s3:Int),.int .i64 x.low,.int .i64 x.high] 106));obtain⟨fn,tmps,assign,body,hy0,hR⟩:=hY pre ⟨Ao a,4⟩ wr _ hj HB3.out ⟨by show nxW s.data.toList pre<s.data.toList.length;rw[HA.out];omega,.inr ⟨rfl,by rw[HA.out],by rw[HA.out];exact HWD.out⟩⟩;have hy:(Instr.yield l #[.agg #[.int .u8 0,.int .i64 (a:Int),.int .i64 0,.string ⟨#[]⟩,.int .u64 0,.int .u64 0,.int .u64 0,.int .u64 0,.int .i64 0,.int .i64 0],.int .i64 4]).run Tryz.prog (w2.alloc (.cells #[.int .u8 (x.kind:Int),.int .i64 (x.frm:Int),.int .i64 (x.til:Int),.string ⟨x.text.toArray⟩,.int .u64 (x.s0:Int),.int .u64 (x.s1:Int),.int .u64 (x.s2:Int),.int .u64 (x.s3:Int),.int .i64 x.low,.int .i64 x.high] 106))=.ok (.round l fn tmps assign body) (w2.alloc (.cells #[.int .u8 (x.kind:Int),.int .i64 (x.frm:Int),.int .i64 (x.til:Int),.string ⟨x.text.toArray⟩,.int .u64 (x.s0:Int),.int .u64 (x.s1:Int),.int .u64 (x.s2:Int),.int .u64 (x.s3:Int),.int .i64 x.low,.int .i64 x.high] 106)):=hy0;clear hp hb hy0)
      |fail)
     refine hR.mono ?_;rintro e W3 (⟨rfl,hJ3,hk3,hn3⟩|⟨rfl,hJx3⟩)
     ·gi_wp2
      refine bodyPost_ret (results_none rfl _ _ _) rfl ?_;exact⟨⟨_,rfl⟩,.inl ⟨_,.inr ⟨pre,⟨Ao a,4⟩,rfl,⟨by show nxW s.data.toList pre<s.data.toList.length;rw[HA.out];omega,.inr ⟨rfl,by rw[HA.out],by rw[HA.out];exact HWD.out⟩⟩,rfl⟩,hJ3⟩⟩
     ·gi_wp2
      refine bodyPost_ret (results_none rfl _ _ _) rfl ?_;exact⟨⟨_,rfl⟩,.inr ⟨_,hJx3⟩⟩
    |some x=>
     have HWD:=qd hwd;have hwt:=CL hwd;clear hwd;have HTIL:=qd (F5 s.data.toList x.til);have HGE:=qd (Dr s.data.toList x.til)
     gi_wp2_with (first
      |(gi_at_lookup;refine A5 rfl _ _ _ rfl 151 Tryz.underlying147 (Bl _) _ _ _ rfl HR.out.map s[a] _ rfl rfl ?_;rw[HE.out])
      |(gi_at_call 94;refine(callsIn_wide.2 HRD.out).mono ?_;intro e w2 hp;obtain⟨rfl,hb⟩:=hp.yes HWD.out;have HB2:=qd hb;have HB3:=qd (hb.alloc hb.size (.cells #[.int .u8 (x.kind:Int),.int .i64 (x.frm:Int),.int .i64 (x.til:Int),.string ⟨x.text.toArray⟩,.int .u64 (x.s0:Int),.int .u64 (x.s1:Int),.int .u64 (x.s2:Int),.int .u64 (x.s3:Int),.int .i64 x.low,.int .i64 x.high] 106));obtain⟨fn,tmps,assign,body,hy0,hR⟩:=hY pre ⟨x,0⟩ wr _ hj HB3.out ⟨by show nxW s.data.toList pre<s.data.toList.length;rw[HA.out];omega,.inl ⟨rfl,by rw[HA.out];exact HWD.out⟩⟩;have hy:(Instr.yield l #[.agg #[.int .u8 (x.kind:Int),.int .i64 (x.frm:Int),.int .i64 (x.til:Int),.string ⟨x.text.toArray⟩,.int .u64 (x.s0:Int),.int .u64 (x.s1:Int),.int .u64 (x.s2:Int),.int .u64 (x.s3:Int),.int .i64 x.low,.int .i64 x.high],.int .i64 0]).run Tryz.prog (w2.alloc (.cells #[.int .u8 (x.kind:Int),.int .i64 (x.frm:Int),.int .i64 (x.til:Int),.string ⟨x.text.toArray⟩,.int .u64 (x.s0:Int),.int .u64 (x.s1:Int),.int .u64 (x.s2:Int),.int .u64 (x.s3:Int),.int .i64 x.low,.int .i64 x.high] 106))=.ok (.round l fn tmps assign body) (w2.alloc (.cells #[.int .u8 (x.kind:Int),.int .i64 (x.frm:Int),.int .i64 (x.til:Int),.string ⟨x.text.toArray⟩,.int .u64 (x.s0:Int),.int .u64 (x.s1:Int),.int .u64 (x.s2:Int),.int .u64 (x.s3:Int),.int .i64 x.low,.int .i64 x.high] 106)):=hy0;clear hp hb hy0)
      |fail)
     refine hR.mono ?_;rintro e W3 (⟨rfl,hJ3,hk3,hn3⟩|⟨rfl,hJx3⟩)
     ·have hz:=HB2.out.size;have hbx:W3.heap[w2.heap.size]?=some (.cells #[.int .u8 (x.kind:Int),.int .i64 (x.frm:Int),.int .i64 (x.til:Int),.string ⟨x.text.toArray⟩,.int .u64 (x.s0:Int),.int .u64 (x.s1:Int),.int .u64 (x.s2:Int),.int .u64 (x.s3:Int),.int .i64 x.low,.int .i64 x.high] 106 (0,0)):=(hn3 w2.heap.size hz (by simp)).trans (Ad w2 _);have HT3:=qd (hk3.2 _ _ _ _ (.inr rfl) ((HB3.out.block _ (Array.getElem?_eq_some_iff.1 HT.out).1).trans HT.out));have HR3:=qd ((HR.out.below HB3.out).kp hk3);obtain⟨_,_,c2,_⟩:=BB hbx;have t3:W3.cell? ⟨Bt,0,none⟩=some (.string s):=by simp[World.cell?,HT3.out]
      gi_wp2_with (first
       |(gi_at_call 80;refine(callsIn_wide.2 (E7 s x.til _ (by omega) (by omega))).mono ?_;rintro e w' ⟨rfl,rfl⟩)
       |fail)
      have h1:=HTIL.out;have h2:=HGE.out;refine⟨⟨pre++[⟨x,0⟩],by rw[Cj],HR3,HT3,qd (by rw[Cj];show A9 s.data.toList x.til<=s.size;omega),hJ3⟩,?_⟩;simp only[intOf,Int.toNat_natCast];omega
     ·gi_wp2
      refine bodyPost_ret (results_none rfl _ _ _) rfl ?_;exact⟨⟨_,rfl⟩,.inr ⟨_,hJx3⟩⟩
   ·have HE:=qd e;have HRD:=qd (WX s a wr hlt (by omega) (by rw[HX.out,h]));clear e h;cases hwd:B9 s.data.toList a with
    |none=>
     have HWD:=qd hwd;clear hwd
     gi_wp2_with (first
      |(gi_at_lookup;refine A5 rfl _ _ _ rfl 151 Tryz.underlying147 (Bl _) _ _ _ rfl HR.out.map s[a] _ rfl rfl ?_;rw[HE.out])
      |(gi_at_call 95;refine(callsIn_wide.2 HRD.out).mono ?_;intro e w2 hp;obtain⟨⟨x,rfl⟩,hb⟩:=hp.no HWD.out;have HB2:=qd hb;have HB3:=qd (hb.alloc hb.size (.cells #[.int .u8 (x.kind:Int),.int .i64 (x.frm:Int),.int .i64 (x.til:Int),.string ⟨x.text.toArray⟩,.int .u64 (x.s0:Int),.int .u64 (x.s1:Int),.int .u64 (x.s2:Int),.int .u64 (x.s3:Int),.int .i64 x.low,.int .i64 x.high] 106));obtain⟨fn,tmps,assign,body,hy0,hR⟩:=hY pre ⟨Ao a,4⟩ wr _ hj HB3.out ⟨by show nxW s.data.toList pre<s.data.toList.length;rw[HA.out];omega,.inr ⟨rfl,by rw[HA.out],by rw[HA.out];exact HWD.out⟩⟩;have hy:(Instr.yield l #[.agg #[.int .u8 0,.int .i64 (a:Int),.int .i64 0,.string ⟨#[]⟩,.int .u64 0,.int .u64 0,.int .u64 0,.int .u64 0,.int .i64 0,.int .i64 0],.int .i64 4]).run Tryz.prog (w2.alloc (.cells #[.int .u8 (x.kind:Int),.int .i64 (x.frm:Int),.int .i64 (x.til:Int),.string ⟨x.text.toArray⟩,.int .u64 (x.s0:Int),.int .u64 (x.s1:Int),.int .u64 (x.s2:Int),.int .u64 (x.s3:Int),.int .i64 x.low,.int .i64 x.high] 106))=.ok (.round l fn tmps assign body) (w2.alloc (.cells #[.int .u8 (x.kind:Int),.int .i64 (x.frm:Int),.int .i64 (x.til:Int),.string ⟨x.text.toArray⟩,.int .u64 (x.s0:Int),.int .u64 (x.s1:Int),.int .u64 (x.s2:Int),.int .u64 (x.s3:Int),.int .i64 x.low,.int .i64 x.high] 106)):=hy0;clear hp hb hy0)
      |fail)
     refine hR.mono ?_;rintro e W3 (⟨rfl,hJ3,hk3,hn3⟩|⟨rfl,hJx3⟩)
     ·gi_wp2
      refine bodyPost_ret (results_none rfl _ _ _) rfl ?_;exact⟨⟨_,rfl⟩,.inl ⟨_,.inr ⟨pre,⟨Ao a,4⟩,rfl,⟨by show nxW s.data.toList pre<s.data.toList.length;rw[HA.out];omega,.inr ⟨rfl,by rw[HA.out],by rw[HA.out];exact HWD.out⟩⟩,rfl⟩,hJ3⟩⟩
     ·gi_wp2
      refine bodyPost_ret (results_none rfl _ _ _) rfl ?_;exact⟨⟨_,rfl⟩,.inr ⟨_,hJx3⟩⟩
    |some x=>
     have HWD:=qd hwd;have hwt:=CL hwd;clear hwd;have HTIL:=qd (F5 s.data.toList x.til);have HGE:=qd (Dr s.data.toList x.til)
     gi_wp2_with (first
      |(gi_at_lookup;refine A5 rfl _ _ _ rfl 151 Tryz.underlying147 (Bl _) _ _ _ rfl HR.out.map s[a] _ rfl rfl ?_;rw[HE.out])
      |(gi_at_call 95;refine(callsIn_wide.2 HRD.out).mono ?_;intro e w2 hp;obtain⟨rfl,hb⟩:=hp.yes HWD.out;have HB2:=qd hb;have HB3:=qd (hb.alloc hb.size (.cells #[.int .u8 (x.kind:Int),.int .i64 (x.frm:Int),.int .i64 (x.til:Int),.string ⟨x.text.toArray⟩,.int .u64 (x.s0:Int),.int .u64 (x.s1:Int),.int .u64 (x.s2:Int),.int .u64 (x.s3:Int),.int .i64 x.low,.int .i64 x.high] 106));obtain⟨fn,tmps,assign,body,hy0,hR⟩:=hY pre ⟨x,0⟩ wr _ hj HB3.out ⟨by show nxW s.data.toList pre<s.data.toList.length;rw[HA.out];omega,.inl ⟨rfl,by rw[HA.out];exact HWD.out⟩⟩;have hy:(Instr.yield l #[.agg #[.int .u8 (x.kind:Int),.int .i64 (x.frm:Int),.int .i64 (x.til:Int),.string ⟨x.text.toArray⟩,.int .u64 (x.s0:Int),.int .u64 (x.s1:Int),.int .u64 (x.s2:Int),.int .u64 (x.s3:Int),.int .i64 x.low,.int .i64 x.high],.int .i64 0]).run Tryz.prog (w2.alloc (.cells #[.int .u8 (x.kind:Int),.int .i64 (x.frm:Int),.int .i64 (x.til:Int),.string ⟨x.text.toArray⟩,.int .u64 (x.s0:Int),.int .u64 (x.s1:Int),.int .u64 (x.s2:Int),.int .u64 (x.s3:Int),.int .i64 x.low,.int .i64 x.high] 106))=.ok (.round l fn tmps assign body) (w2.alloc (.cells #[.int .u8 (x.kind:Int),.int .i64 (x.frm:Int),.int .i64 (x.til:Int),.string ⟨x.text.toArray⟩,.int .u64 (x.s0:Int),.int .u64 (x.s1:Int),.int .u64 (x.s2:Int),.int .u64 (x.s3:Int),.int .i64 x.low,.int .i64 x.high] 106)):=hy0;clear hp hb hy0)
      |fail)
     refine hR.mono ?_;rintro e W3 (⟨rfl,hJ3,hk3,hn3⟩|⟨rfl,hJx3⟩)
     ·have hz:=HB2.out.size;have hbx:W3.heap[w2.heap.size]?=some (.cells #[.int .u8 (x.kind:Int),.int .i64 (x.frm:Int),.int .i64 (x.til:Int),.string ⟨x.text.toArray⟩,.int .u64 (x.s0:Int),.int .u64 (x.s1:Int),.int .u64 (x.s2:Int),.int .u64 (x.s3:Int),.int .i64 x.low,.int .i64 x.high] 106 (0,0)):=(hn3 w2.heap.size hz (by simp)).trans (Ad w2 _);have HT3:=qd (hk3.2 _ _ _ _ (.inr rfl) ((HB3.out.block _ (Array.getElem?_eq_some_iff.1 HT.out).1).trans HT.out));have HR3:=qd ((HR.out.below HB3.out).kp hk3);obtain⟨_,_,c2,_⟩:=BB hbx;have t3:W3.cell? ⟨Bt,0,none⟩=some (.string s):=by simp[World.cell?,HT3.out]
      gi_wp2_with (first
       |(gi_at_call 80;refine(callsIn_wide.2 (E7 s x.til _ (by omega) (by omega))).mono ?_;rintro e w' ⟨rfl,rfl⟩)
       |fail)
      have h1:=HTIL.out;have h2:=HGE.out;refine⟨⟨pre++[⟨x,0⟩],by rw[Cj],HR3,HT3,qd (by rw[Cj];show A9 s.data.toList x.til<=s.size;omega),hJ3⟩,?_⟩;simp only[intOf,Int.toNat_natCast];omega
     ·gi_wp2
      refine bodyPost_ret (results_none rfl _ _ _) rfl ?_;exact⟨⟨_,rfl⟩,.inr ⟨_,hJx3⟩⟩
   ·have HE:=qd e;have HRD:=qd (Vy s a wr hlt (by omega) (by rw[HX.out,h]));clear e h;cases hwd:B9 s.data.toList a with
    |none=>
     have HWD:=qd hwd;clear hwd
     gi_wp2_with (first
      |(gi_at_lookup;refine A5 rfl _ _ _ rfl 151 Tryz.underlying147 (Bl _) _ _ _ rfl HR.out.map s[a] _ rfl rfl ?_;rw[HE.out])
      |(gi_at_call 97;refine(callsIn_wide.2 HRD.out).mono ?_;intro e w2 hp;obtain⟨⟨x,rfl⟩,hb⟩:=hp.no HWD.out;have HB2:=qd hb;have HB3:=qd (hb.alloc hb.size (.cells #[.int .u8 (x.kind:Int),.int .i64 (x.frm:Int),.int .i64 (x.til:Int),.string ⟨x.text.toArray⟩,.int .u64 (x.s0:Int),.int .u64 (x.s1:Int),.int .u64 (x.s2:Int),.int .u64 (x.s3:Int),.int .i64 x.low,.int .i64 x.high] 106));obtain⟨fn,tmps,assign,body,hy0,hR⟩:=hY pre ⟨Ao a,4⟩ wr _ hj HB3.out ⟨by show nxW s.data.toList pre<s.data.toList.length;rw[HA.out];omega,.inr ⟨rfl,by rw[HA.out],by rw[HA.out];exact HWD.out⟩⟩;have hy:(Instr.yield l #[.agg #[.int .u8 0,.int .i64 (a:Int),.int .i64 0,.string ⟨#[]⟩,.int .u64 0,.int .u64 0,.int .u64 0,.int .u64 0,.int .i64 0,.int .i64 0],.int .i64 4]).run Tryz.prog (w2.alloc (.cells #[.int .u8 (x.kind:Int),.int .i64 (x.frm:Int),.int .i64 (x.til:Int),.string ⟨x.text.toArray⟩,.int .u64 (x.s0:Int),.int .u64 (x.s1:Int),.int .u64 (x.s2:Int),.int .u64 (x.s3:Int),.int .i64 x.low,.int .i64 x.high] 106))=.ok (.round l fn tmps assign body) (w2.alloc (.cells #[.int .u8 (x.kind:Int),.int .i64 (x.frm:Int),.int .i64 (x.til:Int),.string ⟨x.text.toArray⟩,.int .u64 (x.s0:Int),.int .u64 (x.s1:Int),.int .u64 (x.s2:Int),.int .u64 (x.s3:Int),.int .i64 x.low,.int .i64 x.high] 106)):=hy0;clear hp hb hy0)
      |fail)
     refine hR.mono ?_;rintro e W3 (⟨rfl,hJ3,hk3,hn3⟩|⟨rfl,hJx3⟩)
     ·gi_wp2
      refine bodyPost_ret (results_none rfl _ _ _) rfl ?_;exact⟨⟨_,rfl⟩,.inl ⟨_,.inr ⟨pre,⟨Ao a,4⟩,rfl,⟨by show nxW s.data.toList pre<s.data.toList.length;rw[HA.out];omega,.inr ⟨rfl,by rw[HA.out],by rw[HA.out];exact HWD.out⟩⟩,rfl⟩,hJ3⟩⟩
     ·gi_wp2
      refine bodyPost_ret (results_none rfl _ _ _) rfl ?_;exact⟨⟨_,rfl⟩,.inr ⟨_,hJx3⟩⟩
    |some x=>
     have HWD:=qd hwd;have hwt:=CL hwd;clear hwd;have HTIL:=qd (F5 s.data.toList x.til);have HGE:=qd (Dr s.data.toList x.til)
     gi_wp2_with (first
      |(gi_at_lookup;refine A5 rfl _ _ _ rfl 151 Tryz.underlying147 (Bl _) _ _ _ rfl HR.out.map s[a] _ rfl rfl ?_;rw[HE.out])
      |(gi_at_call 97;refine(callsIn_wide.2 HRD.out).mono ?_;intro e w2 hp;obtain⟨rfl,hb⟩:=hp.yes HWD.out;have HB2:=qd hb;have HB3:=qd (hb.alloc hb.size (.cells #[.int .u8 (x.kind:Int),.int .i64 (x.frm:Int),.int .i64 (x.til:Int),.string ⟨x.text.toArray⟩,.int .u64 (x.s0:Int),.int .u64 (x.s1:Int),.int .u64 (x.s2:Int),.int .u64 (x.s3:Int),.int .i64 x.low,.int .i64 x.high] 106));obtain⟨fn,tmps,assign,body,hy0,hR⟩:=hY pre ⟨x,0⟩ wr _ hj HB3.out ⟨by show nxW s.data.toList pre<s.data.toList.length;rw[HA.out];omega,.inl ⟨rfl,by rw[HA.out];exact HWD.out⟩⟩;have hy:(Instr.yield l #[.agg #[.int .u8 (x.kind:Int),.int .i64 (x.frm:Int),.int .i64 (x.til:Int),.string ⟨x.text.toArray⟩,.int .u64 (x.s0:Int),.int .u64 (x.s1:Int),.int .u64 (x.s2:Int),.int .u64 (x.s3:Int),.int .i64 x.low,.int .i64 x.high],.int .i64 0]).run Tryz.prog (w2.alloc (.cells #[.int .u8 (x.kind:Int),.int .i64 (x.frm:Int),.int .i64 (x.til:Int),.string ⟨x.text.toArray⟩,.int .u64 (x.s0:Int),.int .u64 (x.s1:Int),.int .u64 (x.s2:Int),.int .u64 (x.s3:Int),.int .i64 x.low,.int .i64 x.high] 106))=.ok (.round l fn tmps assign body) (w2.alloc (.cells #[.int .u8 (x.kind:Int),.int .i64 (x.frm:Int),.int .i64 (x.til:Int),.string ⟨x.text.toArray⟩,.int .u64 (x.s0:Int),.int .u64 (x.s1:Int),.int .u64 (x.s2:Int),.int .u64 (x.s3:Int),.int .i64 x.low,.int .i64 x.high] 106)):=hy0;clear hp hb hy0)
      |fail)
     refine hR.mono ?_;rintro e W3 (⟨rfl,hJ3,hk3,hn3⟩|⟨rfl,hJx3⟩)
     ·have hz:=HB2.out.size;have hbx:W3.heap[w2.heap.size]?=some (.cells #[.int .u8 (x.kind:Int),.int .i64 (x.frm:Int),.int .i64 (x.til:Int),.string ⟨x.text.toArray⟩,.int .u64 (x.s0:Int),.int .u64 (x.s1:Int),.int .u64 (x.s2:Int),.int .u64 (x.s3:Int),.int .i64 x.low,.int .i64 x.high] 106 (0,0)):=(hn3 w2.heap.size hz (by simp)).trans (Ad w2 _);have HT3:=qd (hk3.2 _ _ _ _ (.inr rfl) ((HB3.out.block _ (Array.getElem?_eq_some_iff.1 HT.out).1).trans HT.out));have HR3:=qd ((HR.out.below HB3.out).kp hk3);obtain⟨_,_,c2,_⟩:=BB hbx;have t3:W3.cell? ⟨Bt,0,none⟩=some (.string s):=by simp[World.cell?,HT3.out]
      gi_wp2_with (first
       |(gi_at_call 80;refine(callsIn_wide.2 (E7 s x.til _ (by omega) (by omega))).mono ?_;rintro e w' ⟨rfl,rfl⟩)
       |fail)
      have h1:=HTIL.out;have h2:=HGE.out;refine⟨⟨pre++[⟨x,0⟩],by rw[Cj],HR3,HT3,qd (by rw[Cj];show A9 s.data.toList x.til<=s.size;omega),hJ3⟩,?_⟩;simp only[intOf,Int.toNat_natCast];omega
     ·gi_wp2
      refine bodyPost_ret (results_none rfl _ _ _) rfl ?_;exact⟨⟨_,rfl⟩,.inr ⟨_,hJx3⟩⟩
   ·have HE:=qd e;have HRD:=qd (T5 s a (3+j) (Bs j) wr (by simp[World.cell?,(HR.out.box j hj1).2]) hlt (by omega) ⟨_,HX.out,h⟩);clear e h;cases hwd:B9 s.data.toList a with
    |none=>
     have HWD:=qd hwd;clear hwd
     gi_wp2_with (first
      |(gi_at_lookup;refine A5 rfl _ _ _ rfl 151 Tryz.underlying147 (Bl _) _ _ _ rfl HR.out.map s[a] _ rfl rfl ?_;rw[HE.out])
      |(gi_at_call 111;refine(callsIn_wide.2 HRD.out).mono ?_;intro e w2 hp;obtain⟨⟨x,rfl⟩,hb⟩:=hp.no HWD.out;have HB2:=qd hb;have HB3:=qd (hb.alloc hb.size (.cells #[.int .u8 (x.kind:Int),.int .i64 (x.frm:Int),.int .i64 (x.til:Int),.string ⟨x.text.toArray⟩,.int .u64 (x.s0:Int),.int .u64 (x.s1:Int),.int .u64 (x.s2:Int),.int .u64 (x.s3:Int),.int .i64 x.low,.int .i64 x.high] 106));obtain⟨fn,tmps,assign,body,hy0,hR⟩:=hY pre ⟨Ao a,4⟩ wr _ hj HB3.out ⟨by show nxW s.data.toList pre<s.data.toList.length;rw[HA.out];omega,.inr ⟨rfl,by rw[HA.out],by rw[HA.out];exact HWD.out⟩⟩;have hy:(Instr.yield l #[.agg #[.int .u8 0,.int .i64 (a:Int),.int .i64 0,.string ⟨#[]⟩,.int .u64 0,.int .u64 0,.int .u64 0,.int .u64 0,.int .i64 0,.int .i64 0],.int .i64 4]).run Tryz.prog (w2.alloc (.cells #[.int .u8 (x.kind:Int),.int .i64 (x.frm:Int),.int .i64 (x.til:Int),.string ⟨x.text.toArray⟩,.int .u64 (x.s0:Int),.int .u64 (x.s1:Int),.int .u64 (x.s2:Int),.int .u64 (x.s3:Int),.int .i64 x.low,.int .i64 x.high] 106))=.ok (.round l fn tmps assign body) (w2.alloc (.cells #[.int .u8 (x.kind:Int),.int .i64 (x.frm:Int),.int .i64 (x.til:Int),.string ⟨x.text.toArray⟩,.int .u64 (x.s0:Int),.int .u64 (x.s1:Int),.int .u64 (x.s2:Int),.int .u64 (x.s3:Int),.int .i64 x.low,.int .i64 x.high] 106)):=hy0;clear hp hb hy0)
      |fail)
     refine hR.mono ?_;rintro e W3 (⟨rfl,hJ3,hk3,hn3⟩|⟨rfl,hJx3⟩)
     ·gi_wp2
      refine bodyPost_ret (results_none rfl _ _ _) rfl ?_;exact⟨⟨_,rfl⟩,.inl ⟨_,.inr ⟨pre,⟨Ao a,4⟩,rfl,⟨by show nxW s.data.toList pre<s.data.toList.length;rw[HA.out];omega,.inr ⟨rfl,by rw[HA.out],by rw[HA.out];exact HWD.out⟩⟩,rfl⟩,hJ3⟩⟩
     ·gi_wp2
      refine bodyPost_ret (results_none rfl _ _ _) rfl ?_;exact⟨⟨_,rfl⟩,.inr ⟨_,hJx3⟩⟩
    |some x=>
     have HWD:=qd hwd;have hwt:=CL hwd;clear hwd;have HTIL:=qd (F5 s.data.toList x.til);have HGE:=qd (Dr s.data.toList x.til)
     gi_wp2_with (first
      |(gi_at_lookup;refine A5 rfl _ _ _ rfl 151 Tryz.underlying147 (Bl _) _ _ _ rfl HR.out.map s[a] _ rfl rfl ?_;rw[HE.out])
      |(gi_at_call 111;refine(callsIn_wide.2 HRD.out).mono ?_;intro e w2 hp;obtain⟨rfl,hb⟩:=hp.yes HWD.out;have HB2:=qd hb;have HB3:=qd (hb.alloc hb.size (.cells #[.int .u8 (x.kind:Int),.int .i64 (x.frm:Int),.int .i64 (x.til:Int),.string ⟨x.text.toArray⟩,.int .u64 (x.s0:Int),.int .u64 (x.s1:Int),.int .u64 (x.s2:Int),.int .u64 (x.s3:Int),.int .i64 x.low,.int .i64 x.high] 106));obtain⟨fn,tmps,assign,body,hy0,hR⟩:=hY pre ⟨x,0⟩ wr _ hj HB3.out ⟨by show nxW s.data.toList pre<s.data.toList.length;rw[HA.out];omega,.inl ⟨rfl,by rw[HA.out];exact HWD.out⟩⟩;have hy:(Instr.yield l #[.agg #[.int .u8 (x.kind:Int),.int .i64 (x.frm:Int),.int .i64 (x.til:Int),.string ⟨x.text.toArray⟩,.int .u64 (x.s0:Int),.int .u64 (x.s1:Int),.int .u64 (x.s2:Int),.int .u64 (x.s3:Int),.int .i64 x.low,.int .i64 x.high],.int .i64 0]).run Tryz.prog (w2.alloc (.cells #[.int .u8 (x.kind:Int),.int .i64 (x.frm:Int),.int .i64 (x.til:Int),.string ⟨x.text.toArray⟩,.int .u64 (x.s0:Int),.int .u64 (x.s1:Int),.int .u64 (x.s2:Int),.int .u64 (x.s3:Int),.int .i64 x.low,.int .i64 x.high] 106))=.ok (.round l fn tmps assign body) (w2.alloc (.cells #[.int .u8 (x.kind:Int),.int .i64 (x.frm:Int),.int .i64 (x.til:Int),.string ⟨x.text.toArray⟩,.int .u64 (x.s0:Int),.int .u64 (x.s1:Int),.int .u64 (x.s2:Int),.int .u64 (x.s3:Int),.int .i64 x.low,.int .i64 x.high] 106)):=hy0;clear hp hb hy0)
      |fail)
     refine hR.mono ?_;rintro e W3 (⟨rfl,hJ3,hk3,hn3⟩|⟨rfl,hJx3⟩)
     ·have hz:=HB2.out.size;have hbx:W3.heap[w2.heap.size]?=some (.cells #[.int .u8 (x.kind:Int),.int .i64 (x.frm:Int),.int .i64 (x.til:Int),.string ⟨x.text.toArray⟩,.int .u64 (x.s0:Int),.int .u64 (x.s1:Int),.int .u64 (x.s2:Int),.int .u64 (x.s3:Int),.int .i64 x.low,.int .i64 x.high] 106 (0,0)):=(hn3 w2.heap.size hz (by simp)).trans (Ad w2 _);have HT3:=qd (hk3.2 _ _ _ _ (.inr rfl) ((HB3.out.block _ (Array.getElem?_eq_some_iff.1 HT.out).1).trans HT.out));have HR3:=qd ((HR.out.below HB3.out).kp hk3);obtain⟨_,_,c2,_⟩:=BB hbx;have t3:W3.cell? ⟨Bt,0,none⟩=some (.string s):=by simp[World.cell?,HT3.out]
      gi_wp2_with (first
       |(gi_at_call 80;refine(callsIn_wide.2 (E7 s x.til _ (by omega) (by omega))).mono ?_;rintro e w' ⟨rfl,rfl⟩)
       |fail)
      have h1:=HTIL.out;have h2:=HGE.out;refine⟨⟨pre++[⟨x,0⟩],by rw[Cj],HR3,HT3,qd (by rw[Cj];show A9 s.data.toList x.til<=s.size;omega),hJ3⟩,?_⟩;simp only[intOf,Int.toNat_natCast];omega
     ·gi_wp2
      refine bodyPost_ret (results_none rfl _ _ _) rfl ?_;exact⟨⟨_,rfl⟩,.inr ⟨_,hJx3⟩⟩
   ·have HE:=qd e;have HWD:=qd (h s.data.toList a HX.out);clear e h;obtain⟨fn,tmps,assign,body,hy0,hR⟩:=hY pre ⟨Ao a,4⟩ wr wr hj (Below.refl _ _) ⟨by show nxW s.data.toList pre<s.data.toList.length;rw[HA.out];omega,.inr ⟨rfl,by rw[HA.out],by rw[HA.out];exact HWD.out⟩⟩;have hy:(Instr.yield l #[.agg #[.int .u8 0,.int .i64 (a:Int),.int .i64 0,.string ⟨#[]⟩,.int .u64 0,.int .u64 0,.int .u64 0,.int .u64 0,.int .i64 0,.int .i64 0],.int .i64 4]).run Tryz.prog wr=.ok (.round l fn tmps assign body) wr:=hy0;clear hy0
    gi_wp2_with (first
     |(gi_at_lookup;refine A5 rfl _ _ _ rfl 151 Tryz.underlying147 (Bl _) _ _ _ rfl HR.out.map s[a] _ rfl rfl ?_;rw[HE.out])
     |fail)
    refine hR.mono ?_;rintro e W3 (⟨rfl,hJ3,hk3,hn3⟩|⟨rfl,hJx3⟩)
    ·gi_wp2
     refine bodyPost_ret (results_none rfl _ _ _) rfl ?_;exact⟨⟨_,rfl⟩,.inl ⟨_,.inr ⟨pre,⟨Ao a,4⟩,rfl,⟨by show nxW s.data.toList pre<s.data.toList.length;rw[HA.out];omega,.inr ⟨rfl,by rw[HA.out],by rw[HA.out];exact HWD.out⟩⟩,rfl⟩,hJ3⟩⟩
    ·gi_wp2
     refine bodyPost_ret (results_none rfl _ _ _) rfl ?_;exact⟨⟨_,rfl⟩,.inr ⟨_,hJx3⟩⟩
  ·have i1:¬(a:Int)<(s.size:Int):=by omega
   rw[ha];clear ha;gi_wp2
   go_end0
   exact⟨⟨_,rfl⟩,.inl ⟨pre,.inl (by rw[HA.out];omega),hj⟩⟩
end Go.Proofs.YtdnochjajoiooaaGreatDoor
