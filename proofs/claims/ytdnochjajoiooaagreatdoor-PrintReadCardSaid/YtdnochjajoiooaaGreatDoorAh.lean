/- The contract of the arena's join, and of seq and choice. -/
import Derived.Test.YtdnochjajoiooaaGreatDoorAf
import Derived.RangeFuncNested
import Derived.RangeFuncBound
import Derived.RangeFuncCalls
import Derived.RangeFuncLeaves
import Derived.Shelf.Abstract
import Derived.Shelf.RegionOpen
import Derived.WalkKit
import Derived.OwnWalkIn
import Derived.TacticsInMore
import Derived.LoopNIn
import Derived.LoopIn
import Derived.Maps.AppendAt
namespace Go.Proofs.YtdnochjajoiooaaGreatDoor
open Go.RowKit
set_option linter.unusedSimpArgs false
set_option linter.unusedVariables false
theorem Ns (al:List Nd) (n:Nd) (a c:List Int):Cn al n (a++c)=Cn al n a++Cn al n c:=List.filter_append ..
def VY (W0:World) (H:Nat) (al:List Nd) (n:Nd) (kids:List Int) (i:Value) (wr:World):Prop:=
 ∃(k:Nat) (U:Option Addr) (uc:Nat),k<=kids.length/\i=.int .i64 (k:Int)/\Hid (wr.heap[H+3]?=some (.cells #[.slice U (Cn al n (kids.take k)).length uc] 40 (0,0))) /\
  Hid (wr.ownsRow (H+3+1) 3 1 (.slice U (Cn al n (kids.take k)).length uc) (Cn al n (kids.take k)).length (Az.all (Cn al n (kids.take k))))/\Hid (Below (H+3) W0 wr)
set_option maxRecDepth 100000 in
set_option maxHeartbeats 3200000 in
theorem Oc (b:Nat) (S':Nat->Prop) (hS:∀x,S' x->b<x) (ls:List Ln) (n:Nd) (K:Value) (kids:List Int) (KA:Option Addr) (kc:Nat) (S:Nat->Prop) (none':Nd) (w:World) (hS2:∀x,w.heap.size<=x->S' x) (hA:ArenaS w b S' ls) (hnw:n.wf) (hkids:Az.row w S KA kids)
  (hkl:kids.length<=4294967296) (hk:∀k∈kids,0<=k/\k<(ls.length:Int)) (hno:none'.wf) (hnk:none'.kids=[]) (hn:ls.length<=4294967296):
  Calls Tryz.prog 68 #[.pointer (some ⟨b,0,none⟩),ndV n K,.slice KA kids.length kc,ndV none' (.slice none 0 0)] w
   (BM b S' (Gg (ls.map Ln.nd) n none' (Cn (ls.map Ln.nd) n kids)).1 (Gg (ls.map Ln.nd) n none' (Cn (ls.map Ln.nd) n kids)).2 w):=by
 have hb0:b<w.heap.size:=by obtain⟨V,c,h,_⟩:=hA;exact Av h
 have HA:=qd hA;have HKI:=qd hkids;have HKK:=qd hk;have HNW:=qd hnw;have HNO:=qd hno;clear hA hkids hk hnw hno;have HN:=qd hnk;clear hnk;go_enter Tryz.func68,Tryz.ntmps68
 go_upto_region 3 with(fail)
 have h0:((((w.alloc (.cells #[.pointer (some ⟨b,0,none⟩)] 80)).alloc (.cells #[.int .u8 n.kind,.int .u64 n.s0,.int .u64 n.s1,.int .u64 n.s2,.int .u64 n.s3,.string n.text,.int .i64 n.mn,.int .i64 n.mx,K] 42)).alloc (.cells #[.int .u8 none'.kind,.int .u64 none'.s0,.int .u64 none'.s1,.int .u64 none'.s2,.int .u64 none'.s3,.string none'.text,.int .i64 none'.mn,.int .i64 none'.mx,.slice none 0 0] 42)).alloc (.cells #[.slice none 0 0] 40)).heap[w.heap.size]?=some (.cells #[.pointer (some ⟨b,0,none⟩)] 80 (0,0)):=A7 (A7 (A7 (Ad w _)));have h1:((((w.alloc (.cells #[.pointer (some ⟨b,0,none⟩)] 80)).alloc (.cells #[.int .u8 n.kind,.int .u64 n.s0,.int .u64 n.s1,.int .u64 n.s2,.int .u64 n.s3,.string n.text,.int .i64 n.mn,.int .i64 n.mx,K] 42)).alloc (.cells #[.int .u8 none'.kind,.int .u64 none'.s0,.int .u64 none'.s1,.int .u64 none'.s2,.int .u64 none'.s3,.string none'.text,.int .i64 none'.mn,.int .i64 none'.mx,.slice none 0 0] 42)).alloc (.cells #[.slice none 0 0] 40)).heap[w.heap.size+1]?=some (.cells #[.int .u8 n.kind,.int .u64 n.s0,.int .u64 n.s1,.int .u64 n.s2,.int .u64 n.s3,.string n.text,.int .i64 n.mn,.int .i64 n.mx,K] 42 (0,0)):=A7 (A7 (by have h:=Ad (w.alloc (.cells #[.pointer (some ⟨b,0,none⟩)] 80)) (.cells #[.int .u8 n.kind,.int .u64 n.s0,.int .u64 n.s1,.int .u64 n.s2,.int .u64 n.s3,.string n.text,.int .i64 n.mn,.int .i64 n.mx,K] 42);simpa using h));have h2:((((w.alloc (.cells #[.pointer (some ⟨b,0,none⟩)] 80)).alloc (.cells #[.int .u8 n.kind,.int .u64 n.s0,.int .u64 n.s1,.int .u64 n.s2,.int .u64 n.s3,.string n.text,.int .i64 n.mn,.int .i64 n.mx,K] 42)).alloc (.cells #[.int .u8 none'.kind,.int .u64 none'.s0,.int .u64 none'.s1,.int .u64 none'.s2,.int .u64 none'.s3,.string none'.text,.int .i64 none'.mn,.int .i64 none'.mx,.slice none 0 0] 42)).alloc (.cells #[.slice none 0 0] 40)).heap[w.heap.size+1+1]?=some (.cells #[.int .u8 none'.kind,.int .u64 none'.s0,.int .u64 none'.s1,.int .u64 none'.s2,.int .u64 none'.s3,.string none'.text,.int .i64 none'.mn,.int .i64 none'.mx,.slice none 0 0] 42 (0,0)):=A7 (by have h:=Ad ((w.alloc (.cells #[.pointer (some ⟨b,0,none⟩)] 80)).alloc (.cells #[.int .u8 n.kind,.int .u64 n.s0,.int .u64 n.s1,.int .u64 n.s2,.int .u64 n.s3,.string n.text,.int .i64 n.mn,.int .i64 n.mx,K] 42)) (.cells #[.int .u8 none'.kind,.int .u64 none'.s0,.int .u64 none'.s1,.int .u64 none'.s2,.int .u64 none'.s3,.string none'.text,.int .i64 none'.mn,.int .i64 none'.mx,.slice none 0 0] 42);simpa using h);have h3:((((w.alloc (.cells #[.pointer (some ⟨b,0,none⟩)] 80)).alloc (.cells #[.int .u8 n.kind,.int .u64 n.s0,.int .u64 n.s1,.int .u64 n.s2,.int .u64 n.s3,.string n.text,.int .i64 n.mn,.int .i64 n.mx,K] 42)).alloc (.cells #[.int .u8 none'.kind,.int .u64 none'.s0,.int .u64 none'.s1,.int .u64 none'.s2,.int .u64 none'.s3,.string none'.text,.int .i64 none'.mn,.int .i64 none'.mx,.slice none 0 0] 42)).alloc (.cells #[.slice none 0 0] 40)).heap[w.heap.size+1+1+1]?=some (.cells #[.slice none 0 0] 40 (0,0)):=by have h:=Ad (((w.alloc (.cells #[.pointer (some ⟨b,0,none⟩)] 80)).alloc (.cells #[.int .u8 n.kind,.int .u64 n.s0,.int .u64 n.s1,.int .u64 n.s2,.int .u64 n.s3,.string n.text,.int .i64 n.mn,.int .i64 n.mx,K] 42)).alloc (.cells #[.int .u8 none'.kind,.int .u64 none'.s0,.int .u64 none'.s1,.int .u64 none'.s2,.int .u64 none'.s3,.string none'.text,.int .i64 none'.mn,.int .i64 none'.mx,.slice none 0 0] 42)) (.cells #[.slice none 0 0] 40);simpa using h
 have hs:((((w.alloc (.cells #[.pointer (some ⟨b,0,none⟩)] 80)).alloc (.cells #[.int .u8 n.kind,.int .u64 n.s0,.int .u64 n.s1,.int .u64 n.s2,.int .u64 n.s3,.string n.text,.int .i64 n.mn,.int .i64 n.mx,K] 42)).alloc (.cells #[.int .u8 none'.kind,.int .u64 none'.s0,.int .u64 none'.s1,.int .u64 none'.s2,.int .u64 none'.s3,.string none'.text,.int .i64 none'.mn,.int .i64 none'.mx,.slice none 0 0] 42)).alloc (.cells #[.slice none 0 0] 40)).heap.size=w.heap.size+1+1+1+1:=by simp
 have hb:Below w.heap.size w ((((w.alloc (.cells #[.pointer (some ⟨b,0,none⟩)] 80)).alloc (.cells #[.int .u8 n.kind,.int .u64 n.s0,.int .u64 n.s1,.int .u64 n.s2,.int .u64 n.s3,.string n.text,.int .i64 n.mn,.int .i64 n.mx,K] 42)).alloc (.cells #[.int .u8 none'.kind,.int .u64 none'.s0,.int .u64 none'.s1,.int .u64 none'.s2,.int .u64 none'.s3,.string none'.text,.int .i64 none'.mn,.int .i64 none'.mx,.slice none 0 0] 42)).alloc (.cells #[.slice none 0 0] 40)):=Below.step (Below.step (Below.step (bx1 w _) (bx1 _ _)) (bx1 _ _)) (bx1 _ _);generalize ((((w.alloc (.cells #[.pointer (some ⟨b,0,none⟩)] 80)).alloc (.cells #[.int .u8 n.kind,.int .u64 n.s0,.int .u64 n.s1,.int .u64 n.s2,.int .u64 n.s3,.string n.text,.int .i64 n.mn,.int .i64 n.mx,K] 42)).alloc (.cells #[.int .u8 none'.kind,.int .u64 none'.s0,.int .u64 none'.s1,.int .u64 none'.s2,.int .u64 none'.s3,.string none'.text,.int .i64 none'.mn,.int .i64 none'.mx,.slice none 0 0] 42)).alloc (.cells #[.slice none 0 0] 40))=W0 at *;have H0:=qd h0;have H1:=qd h1;have H2:=qd h2;have H3:=qd h3;have HS:=qd hs;have HB:=qd hb;clear h0 h1 h2 h3 hs hb;generalize hH:w.heap.size=H at *;have HH:=qd hH;clear hH;have HPA:∀j,Hid (∀l,l∈Cn (ls.map Ln.nd) n (kids.take j)->l∈kids):=fun j=>qd fun l hl=>List.mem_of_mem_take (List.mem_filter.1 hl).1
 have HPL:∀j,(Cn (ls.map Ln.nd) n (kids.take j)).length<=4294967296:=fun j=>by
  have h1:(Cn (ls.map Ln.nd) n (kids.take j)).length<=(kids.take j).length:=List.length_filter_le ..;rw[List.length_take]at h1;omega
 have HGA:=qd (fun(k:Nat) (ps:List Int) uc U w' hA ha hp hn hU h1 h2=>PE b (H+1+1+1) H (H+1) ls n K k ps uc U w' hA hn ha hp hU h1 h2);unfold ES at HGA;go_wp2_with fail
 go_loopw [16] (fun i wr=>VY W0 H (ls.map Ln.nd) n kids i wr) (fun i _=>kids.length-(intOf i).toNat)
 case atStart=>exact⟨0,none,0,Nat.zero_le _,rfl,H3,qd (World.ownsRow_nil _ _ _ _),qd (Below.refl _ _)⟩
 case round=>
  obtain⟨k,U,uc,hk,rfl,HP,HU,HBr⟩:=hrel;have HBw:=qd (show Below w.heap.size w wr from HH.out.symm▸HB.out.trans (Below.mono HBr.out (by omega)));have HAr:=qd (HA.out.below HBw.out);have HArt:=qd (HAr.out.at hS);have HKr:=qd (HKI.out.agree (AF HBw.out));have HNr:=qd ((HBr.out.block (H+1) (by omega)).trans H1.out);have HOr:=qd ((HBr.out.block H (by omega)).trans H0.out);have HXr:=qd ((HBr.out.block (H+1+1) (by omega)).trans H2.out);by_cases hlt:k<kids.length
  ·obtain⟨gb,go,rfl,_,_,z0⟩:=E9 HKr.out k hlt;have hz:=HKK.out kids[k] (List.getElem_mem hlt);obtain⟨z,hze⟩:=Int.eq_ofNat_of_zero_le hz.1
   have HPN:=qd (show Cn (ls.map Ln.nd) n (kids.take (k+1))=Cn (ls.map Ln.nd) n (kids.take k)++Cn (ls.map Ln.nd) n [(z:Int)]by
    rw[List.take_succ_eq_append_getElem hlt,Ns,hze])
   have hpl:=HPL k;rw[hze]at z0 hz;have hzl:z<ls.length:=by omega
   have i1:(k:Int)<(kids.length:Int):=by omega
   have HGC:=qd (HGA.out z _ uc U wr HArt.out HOr.out HP.out HNr.out HU.out hpl hzl);rw[<-HPN.out]at HGC;clear hz hze hpl HPN
   go_wp2_with (first
    |(go_at_call 82;(with_reducible refine(HGC.out).mono ?_);rintro e w3 ⟨U',uc',rfl,h1,h2,h3⟩;have HP3:=qd h1;have HU3:=qd h2;have HB3:=qd h3;clear h1 h2 h3)
    |fail)
   exact⟨⟨k+1,U',uc',by omega,by go_num,HP3,HU3,qd (HBr.out.trans HB3.out)⟩,by simp only[intOf];omega⟩
  ·obtain rfl:k=kids.length:=by omega
   rw[List.take_length]at HP HU;have HPA':=HPA kids.length;rw[List.take_length]at HPA';have i1:¬(kids.length:Int)<(kids.length:Int):=by omega
   have y2:wr.cell? ⟨H+1+1+1,0,none⟩=some (.slice U (Cn (ls.map Ln.nd) n kids).length uc):=by
    have h:=HP.out;simp only[World.cell?,h];rfl
   obtain⟨o0,o1,o2,o3,o4,o5,o6,o7,o8,_⟩:=BP HXr.out;obtain⟨n0,n1,n2,n3,n4,n5,n6,n7,n8,_⟩:=BP HNr.out;have a0:wr.cell? ⟨H,0,none⟩=some (.pointer (some ⟨b,0,none⟩)):=by have h:=HOr.out;simp only[World.cell?,h];rfl
   have HBK:=qd (show KeptA b w wr from Below.keptA HBw.out (by have:=HH.out;omega));have hplen:=HPL kids.length;rw[List.take_length]at hplen;generalize hps:Cn (ls.map Ln.nd) n kids=ps at *;clear hps;rcases ps with _|⟨x,_|⟨y,r⟩⟩
   ·have HAD:=qd (Rm b S' hS ls ⟨none',none,0⟩ wr HAr.out ⟨HNO.out,by show OwnS wr _ _ _ none none'.kids.length 0 (Az.all none'.kids);rw[HN.out];exact OwnS.nil _ _ _ _⟩ hn);unfold BM at HAD;simp only[Ln.val,Ln.kv,HN.out,List.length_nil]at HAD;simp only[List.length_nil]at y2
    go_wp2_with (first
     |(go_at_call 67;(with_reducible refine(HAD.out).mono ?_);rintro e w3 ⟨ls',rfl,h1,h2,h3⟩;have HQ1:=qd h1;have HQ2:=qd h2;have HQ3:=qd h3;clear h1 h2 h3)
     |fail)
    go_ret;unfold BM;exact⟨ls',by simp[Gg],HQ1.out,HQ2.out,HBK.out.trans HQ3.out⟩
   ·obtain⟨g,rfl,_,_⟩:=BS HU.out (by simp);have y3:=AX HU.out 0 (by simp) (u:=.int .i64 x) (by simp[Az,Lay.all]);simp only[List.length_cons,List.length_nil,Nat.zero_add]at y2;clear HGA;go_wp2_with fail
    go_ret;unfold BM;exact⟨ls,rfl,rfl,HAr.out,HBK.out⟩
   ·have HKE:=qd (Oa b S' hS ls ⟨{n with kids:=x::y::r},U,uc⟩ K wr HAr.out ⟨⟨HNW.out.1,HNW.out.2.1,by show(x::y::r).length<=_;omega,HNW.out.2.2.2⟩,Cl HU.out (Nat.zero_le _),fun q hq=>by have:=(Aq HU.out q hq).1;have:=HH.out;exact hS2 q (by omega)⟩ hn);unfold BM at HKE;have hl2:2<=(x::y::r).length:=by simp
    have ha2:Gg (ls.map Ln.nd) n none' (x::y::r)=(ls.map Ln.nd++[{n with kids:=x::y::r}],((ls.map Ln.nd).length:Int)):=rfl;have HA2:=qd ha2;clear ha2;generalize x::y::r=ps at *;have e0:((ps.length:Int)==0)=false:=by rw[beq_eq_false_iff_ne];omega
    have e1:((ps.length:Int)==1)=false:=by rw[beq_eq_false_iff_ne];omega
    go_wp2_with (first
     |(go_at_call 49;(with_reducible refine(HKE.out).mono ?_);rintro e w3 ⟨ls',rfl,h1,h2,h3⟩;have HQ1:=qd h1;have HQ2:=qd h2;have HQ3:=qd h3;clear h1 h2 h3)
     |fail)
    go_ret;unfold BM;rw[HA2.out];exact⟨ls',by simp,HQ1.out,HQ2.out,HBK.out.trans HQ3.out⟩
set_option maxRecDepth 100000 in
set_option maxHeartbeats 1600000 in
theorem VZ (b:Nat) (S':Nat->Prop) (hS:∀x,S' x->b<x) (ls:List Ln) (n:Nd) (K:Value) (kids:List Int) (KA:Option Addr) (kc:Nat) (S:Nat->Prop) (w:World) (hS2:∀x,w.heap.size<=x->S' x) (hA:ArenaS w b S' ls) (hnw:n.wf) (hkids:Az.row w S KA kids)
  (hkl:kids.length<=4294967296) (hk:∀k∈kids,0<=k/\k<(ls.length:Int)) (hn:ls.length<=4294967296):
  Calls Tryz.prog 50 #[.pointer (some ⟨b,0,none⟩),ndV n K,.slice KA kids.length kc] w
   (BM b S' (Gg (ls.map Ln.nd) n Bi (Cn (ls.map Ln.nd) n kids)).1 (Gg (ls.map Ln.nd) n Bi (Cn (ls.map Ln.nd) n kids)).2 w):=by
 have hb0:b<w.heap.size:=by obtain⟨V,c,h,_⟩:=hA;exact Av h
 have HJ:=qd (fun w' (hz:w.heap.size<=w'.heap.size) hA hkids=>Oc b S' hS ls n K kids KA kc S Bi w' (fun x hx=>hS2 x (Nat.le_trans hz hx)) hA hnw hkids hkl hk (by unfold Nd.wf U64;decide) rfl hn);have HA:=qd hA;have HKI:=qd hkids;clear hA hkids hk;unfold BM at HJ;go_enter Tryz.func50,Tryz.ntmps50
 go_wp2_with (first
  |(go_at_call 68;(refine(HJ.out _ (by simp) (HA.out.below (bx1 w _)) (HKI.out.agree (AF (bx1 w _)))).mono ?_);rintro e w3 ⟨ls',rfl,h1,h2,h3⟩;have HQ1:=qd h1;have HQ2:=qd h2;have HQ3:=qd h3;clear h1 h2 h3)
  |fail)
 go_ret;unfold BM;exact⟨ls',rfl,HQ1.out,HQ2.out,(Below.keptA (bx1 w _) (by omega)).trans HQ3.out⟩
set_option maxRecDepth 100000 in
set_option maxHeartbeats 1600000 in
theorem PF (b:Nat) (S':Nat->Prop) (hS:∀x,S' x->b<x) (ls:List Ln) (n:Nd) (K:Value) (kids:List Int) (KA:Option Addr) (kc:Nat) (S:Nat->Prop) (w:World) (hS2:∀x,w.heap.size<=x->S' x) (hA:ArenaS w b S' ls) (hnw:n.wf) (hkids:Az.row w S KA kids)
  (hkl:kids.length<=4294967296) (hk:∀k∈kids,0<=k/\k<(ls.length:Int)) (hn:ls.length<=4294967296):
  Calls Tryz.prog 51 #[.pointer (some ⟨b,0,none⟩),ndV n K,.slice KA kids.length kc] w
   (BM b S' (Gg (ls.map Ln.nd) n KJ (Cn (ls.map Ln.nd) n kids)).1 (Gg (ls.map Ln.nd) n KJ (Cn (ls.map Ln.nd) n kids)).2 w):=by
 have hb0:b<w.heap.size:=by obtain⟨V,c,h,_⟩:=hA;exact Av h
 have HJ:=qd (fun w' (hz:w.heap.size<=w'.heap.size) hA hkids=>Oc b S' hS ls n K kids KA kc S KJ w' (fun x hx=>hS2 x (Nat.le_trans hz hx)) hA hnw hkids hkl hk (by unfold Nd.wf U64;decide) rfl hn);have HA:=qd hA;have HKI:=qd hkids;clear hA hkids hk;unfold BM at HJ;go_enter Tryz.func51,Tryz.ntmps51
 go_wp2_with (first
  |(go_at_call 68;(refine(HJ.out _ (by simp) (HA.out.below (bx1 w _)) (HKI.out.agree (AF (bx1 w _)))).mono ?_);rintro e w3 ⟨ls',rfl,h1,h2,h3⟩;have HQ1:=qd h1;have HQ2:=qd h2;have HQ3:=qd h3;clear h1 h2 h3)
  |fail)
 go_ret;unfold BM;exact⟨ls',rfl,HQ1.out,HQ2.out,(Below.keptA (bx1 w _) (by omega)).trans HQ3.out⟩
end Go.Proofs.YtdnochjajoiooaaGreatDoor
/- The contract of slices.Backward at Mg,and of the iterator that it hands back;the marks that ranges over functions leave. -/
namespace Go.Proofs.YtdnochjajoiooaaGreatDoor
open Go.RowKit Go.Shelf
set_option linter.unusedSimpArgs false
set_option linter.unusedVariables false
attribute [local go_sem] Oper.semAt_some
theorem Od (F:Fence) (n:Nat) (hf:F.fn 69) (hro:F.round=none) (A:Option Addr) (m c:Nat) (w:World):
  CallsIn F n Tryz.prog 69 #[.slice A m c] w fun e w'=>e=.returned (.func (.func 83) #[] #[.pointer (some ⟨w.heap.size,0,none⟩)])/\w'=w.alloc (.cells #[.slice A m c] 40):=by
 refine callsIn_of_wp Tryz.func69 rfl hf ?_ hro;simp only[Tryz.ntmps69,List.size_toArray,List.length_cons,List.length_nil,Nat.reduceAdd,Nat.reduceSub,Array.replicate_succ,Array.replicate_zero,List.push_toArray,List.append_toArray,List.nil_append,List.cons_append];gi_wp2
 exact bodyPost_ret (v:=.func (.func 83) #[] #[.pointer (some ⟨w.heap.size,0,none⟩)]) (by simp[results,Tryz.results69,go_sem]) rfl ⟨rfl,rfl⟩
def BackK (n₀ Bn:Nat) (W W':World):Prop:=Below n₀ W W'/\(Bn<W.heap.size->W'.heap[Bn]?=W.heap[Bn]?)
theorem BackK.refl (n₀ Bn:Nat) (W:World):BackK n₀ Bn W W:=⟨Below.refl _ _,fun _=>rfl⟩
theorem BackK.trans {n₀ Bn:Nat} {A B C:World} (h:BackK n₀ Bn A B) (k:BackK n₀ Bn B C):BackK n₀ Bn A C:=⟨h.1.trans k.1,fun hl=>(k.2 (by have:=h.1.size;omega)).trans (h.2 hl)⟩
theorem Sq {n₀ Bn:Nat} {w:World} (h1:n₀<=w.heap.size) (h2:Bn<w.heap.size) (W:World) (l:Nat) (o o':Obj) (hl:w.heap.size<=l) (hW:W.heap[l]?=some o):BackK n₀ Bn W (W.putObj l o'):=
 ⟨⟨rfl,rfl,rfl,by simp,fun k hk=>World.putObj_heap_other (by omega)⟩,fun _=>World.putObj_heap_other (by omega)⟩
set_option maxRecDepth 100000 in
set_option maxHeartbeats 1600000 in
theorem Uc (n:Nat) (hn:1<=n) (l Bn n₀ c:Nat) (A:Option Addr) (ks:List Int) (J Jx:List (Int×Int)->World->Prop)
  (hY:∀pre (x:Int×Int) W,J pre W->pre.length<ks.length->YieldAt Fence.wide (n-1) Tryz.prog l #[.int .i64 x.1,.int .i64 x.2] W fun e W'=>
   (e=.returned (.bool true)/\J (pre++[x]) W'/\BackK n₀ Bn W W')\/(e=.returned (.bool false)/\Jx (pre++[x]) W'))
  (W:World) (hc:W.heap[Bn]?=some (.cells #[.slice A ks.length c] 40 (0,0))) (hrow:Az.row W (· < n₀) A ks) (hl:ks.length<=281474976710656) (hj0:J [] W):
  CallsIn Fence.wide n Tryz.prog 83 #[.func (.yield l) #[] #[],.pointer (some ⟨Bn,0,none⟩)] W fun e W'=>(∃v,e=.returned v) /\
   ((∃xs:List (Int×Int),xs.map Prod.snd=ks.reverse/\J xs W')\/(∃pre:List (Int×Int),True/\Jx pre W')):=by
 refine callsIn_of_wp Tryz.func83 rfl trivial ?_ rfl;simp only[Tryz.ntmps83,List.size_toArray,List.length_cons,List.length_nil,Nat.reduceAdd,Nat.reduceSub,Array.replicate_succ,Array.replicate_zero,List.push_toArray,List.append_toArray,List.nil_append,List.cons_append];have hfn:∀k,Fence.wide.fn k:=fun _=>trivial
 have HC:=qd hc;have HR:=qd hrow;have c0:W.cell? ⟨Bn,0,none⟩=some (.slice A ks.length c):=by simp[World.cell?,hc]
 clear hc hrow;have e0:IntKind.i64.wrap ((ks.length:Int)-1)=(ks.length:Int)-1:=IntWalk.i64_in _ (by omega);gi_wp2
 gi_loopw [3] (fun i wr=>∃(pre:List (Int×Int)) (k:Nat),k<=ks.length/\i=.int .i64 ((k:Int)-1)/\Hid (pre.map Prod.snd=(ks.drop k).reverse)/\J pre wr/\Hid (BackK n₀ Bn W wr)) (fun i _=>(intOf i+1).toNat)
 case atStart=>exact⟨[],ks.length,Nat.le_refl _,rfl,qd (by simp),hj0,qd (BackK.refl _ _ _)⟩
 case round=>
  clear hj0 c0 e0;obtain⟨pre,k,hk,rfl,HP,hj,HBr⟩:=hrel;have c0:wr.cell? ⟨Bn,0,none⟩=some (.slice A ks.length c):=by have h:=(HBr.out.2 (Av HC.out)).trans HC.out;simp[World.cell?,h]
  rcases k with _|k
  ·have i1:¬(0:Int)<=((0:Nat):Int)-1:=by omega
   have HPE:=HP.out;rw[List.drop_zero]at HPE;gi_wp2
   go_end0
   exact⟨⟨_,rfl⟩,.inl ⟨pre,HPE,hj⟩⟩
  ·have hlt:k<ks.length:=by omega
   have ek:((k+1:Nat):Int)-1=(k:Int):=by omega
   rw[ek];clear ek;have i1:(0:Int)<=(k:Int):=by omega
   have i2:(k:Int)<(ks.length:Int):=by omega
   obtain⟨gb,go,rfl,_,_,z0⟩:=E9 (HR.out.agree (S:=(· < n₀)) (Oq HBr.out.1)) k hlt
   have HPN:=qd (show(pre++[((k:Int),ks[k])]).map Prod.snd=(ks.drop k).reverse from by
    rw[List.map_append,HP.out,List.drop_eq_getElem_cons hlt,List.reverse_cons];rfl)
   have hln:pre.length<ks.length:=by
    have h:=congrArg List.length HP.out;simp only[List.length_map,List.length_reverse,List.length_drop]at h;omega
   have hYb:=hY pre ((k:Int),ks[k]) wr hj hln;simp only at hYb;obtain⟨fn,tmps,assign,body,hy,hR⟩:=hYb;have e1:IntKind.i64.wrap ((k:Int)-1)=(k:Int)-1:=IntWalk.i64_in _ (by omega);generalize ks[k]=z at *;gi_wp2
   refine hR.mono ?_;rintro e W3 (⟨rfl,hJ3,hk3⟩|⟨rfl,hJx3⟩)
   ·gi_wp2
    exact⟨⟨pre++[((k:Int),z)],k,by omega,rfl,HPN,hJ3,qd (HBr.out.trans hk3)⟩,by simp only[intOf];omega⟩
   ·gi_wp2
    refine bodyPost_ret (v:=.tuple #[]) (by simp[results,Tryz.results83]) rfl ?_;exact⟨⟨_,rfl⟩,.inr ⟨_,trivial,hJx3⟩⟩
theorem PG (n:Nat) (hn:1<=n) (Bn n₀ c:Nat) (A:Option Addr) (ks:List Int) (w:World) (hn₀:n₀<=w.heap.size) (hc:w.heap[Bn]?=some (.cells #[.slice A ks.length c] 40 (0,0)))
  (hrow:Az.row w (· < n₀) A ks) (hl:ks.length<=281474976710656):
  SeqStopsK Fence.wide n Tryz.prog 83 #[.pointer (some ⟨Bn,0,none⟩)] (fun x:Int×Int=> #[Value.int .i64 x.1,.int .i64 x.2]) (BackK n₀ Bn)
   (fun xs:List (Int×Int)=>xs.map Prod.snd=ks.reverse) (fun _=>True) ks.length w:=fun l J Jx W hW hJ _ hY hj0=>
 Uc n hn l Bn n₀ c A ks J Jx hY W (Ae hW hc) (hrow.below hW) hl hj0
def Nt (Ds:List Nat):List Deferred:=Ds.map fun D=>{target:=.collected D,args:= #[]}
end Go.Proofs.YtdnochjajoiooaaGreatDoor
