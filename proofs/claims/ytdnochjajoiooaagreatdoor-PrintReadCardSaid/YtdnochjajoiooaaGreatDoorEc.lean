/- The words of a text, LF, and another text; plain. The contract of the reader's rules. The contracts of the parser's begun and read. The contract of the reader's judge. The contract of parse.Grammar. The contracts of parse.Names and parse.Expr. A tree that is right is the same as itself. Arguments that are grammars or trees, opened. -/
import Derived.Test.YtdnochjajoiooaaGreatDoorJi
import Derived.Test.YtdnochjajoiooaaGreatDoorJw
import Derived.Test.YtdnochjajoiooaaGreatDoorHm
import Derived.StringKeys
import Derived.Maps.OwnOps
import Derived.Maps.OwnSet
import Derived.Maps.Views
import Derived.Test.YtdnochjajoiooaaGreatDoorDa
import Derived.Test.YtdnochjajoiooaaGreatDoorDq
import Derived.Deep.Slices
import Derived.ProofKit
import Derived.OpenShut
import Derived.ShutString
import Derived.SizedLaws
import Derived.Lib.SmallJoins
namespace Go.Proofs.YtdnochjajoiooaaGreatDoor
set_option linter.unusedSimpArgs false
set_option linter.unusedVariables false
section
variable (p t:List UInt8)
end
open Go.RowKit
theorem RdM.drop {D:Ow->Prop} {w:World} {B H:Nat} {f:Nat->Ow} {R:Rd} (h:RdM D w B f H R):RdM D w B f H {R with keep:=R.keep.tail}:=fun o ho=>by
 cases o with
 |out=>exact fun q hq=>h .out ho q (List.mem_of_mem_tail hq)
 |_=>exact h _ ho
theorem RdM.kept {D:Ow->Prop} {w:World} {B H:Nat} {f:Nat->Ow} {R:Rd} (h:RdM D w B f H R) (hD:¬D .out) {p:Nat×Obj} (hp:p∈R.keep):w.heap[p.1]?=some p.2:=(h .out hD p hp).1
def Ll (x:Wd):Prop:=x.s0<18446744073709551616/\x.s1<18446744073709551616/\x.s2<18446744073709551616/\x.s3<18446744073709551616
theorem PZ {t:List UInt8} {x:Wd} (h:Bf t=some x):Ll x:=by
 have z:(0:Nat)<18446744073709551616:=by decide
 have y:FX<18446744073709551616:=by decide
 unfold Bf at h;split at h
 ·cases h
 split at h
 ·split at h
  ·cases h;exact⟨z,z,z,z⟩
  ·cases h
 split at h
 ·cases hc:Ci (t.drop 1)with
  |none=>rw[hc]at h;cases h
  |some q=>rw[hc]at h;cases h;exact⟨z,z,z,z⟩
 split at h
 ·split at h
  ·cases h;exact⟨z,z,z,z⟩
  ·cases h
 split at h
 ·split at h
  ·cases h;exact⟨E4 _ _,E4 _ _,E4 _ _,E4 _ _⟩
  ·cases h
 split at h
 ·cases h;exact⟨y,y,y,y⟩
 split at h
 ·split at h
  ·cases h;exact⟨z,z,z,z⟩
  ·cases h;exact⟨z,z,z,z⟩
 ·cases hk:DX ‹UInt8› with
  |none=>rw[hk]at h;cases h
  |some k=>rw[hk]at h;cases h;exact⟨z,z,z,z⟩
theorem Qa {s:List UInt8} {a:Nat} {x:Wd} (h:B9 s a=some x):Ll x:=by
 unfold B9 at h;cases hh:Bf (s.drop a)with
 |none=>rw[hh]at h;cases h
 |some y=>rw[hh]at h;cases h;have h1:=PZ hh;exact⟨h1.1,h1.2.1,h1.2.2.1,h1.2.2.2⟩
theorem Kg {s:List UInt8}:∀x∈(AD s).1,Ll x:=by
 intro x hx;unfold AD at hx;split at hx
 ·cases hx
 split at hx
 ·cases hx
 ·exact raw_small s _ _ x hx
 where raw_small (s:List UInt8):∀(f a:Nat),∀x∈(DY s f a).1,Ll x
  |0,a,x,hx=>by simp[DY]at hx
  |f+1,a,x,hx=>by
   rw[DY]at hx;split at hx
   ·cases hx
   ·cases hw:B9 s a with
    |none=>rw[hw]at hx;cases hx
    |some w=>
     rw[hw]at hx;rcases List.mem_cons.1 hx with rfl|hx
     ·exact Qa hw
     ·exact raw_small s f _ x hx
theorem GF (s:List UInt8):((AD s).2.2=0/\A4 s=((AD s).1,s.length,0))\/((AD s).2.2=4/\(AD s).2.1<s.length/\s.length<=65536/\A4 s=((AD (s.take (AD s).2.1)).1,(AD s).2.1,4))\/((AD s).2.2=40/\A4 s=([],65536,40)/\AD s=([],65536,40)):=by
 by_cases hb:65536<s.length
 ·have h:=I4 hb;refine .inr (.inr ⟨by rw[h],?_,h⟩);unfold A4;rw[h];simp
 ·obtain⟨ls,p,er,hw⟩:∃ls p er,AD s=(ls,p,er):=⟨(AD s).1,(AD s).2.1,(AD s).2.2,rfl⟩;by_cases he:er=0
  ·subst he;refine .inl ⟨by rw[hw],?_⟩;unfold A4;rw[hw];simp
  ·obtain⟨rfl,rfl,hp,h2,_⟩:=UX hb hw he;refine .inr (.inl ⟨by rw[hw],by rw[hw];exact hp,by omega,?_⟩);unfold A4;rw[hw];simp
theorem Us (s:List UInt8):∀(f a:Nat),(DY s f a).1.length<=s.length-a
 |0,a=>by simp[DY]
 |f+1,a=>by
  rw[DY];split
  ·simp
  ·rename_i hla
   cases hw:B9 s a with
   |none=>simp
   |some w=>
    have h1:=CL hw;have h2:=Us s f (A9 s w.til);have h3:w.til<=A9 s w.til:=by unfold A9;omega
    simp only[List.length_cons];omega
theorem O5 (s:List UInt8):(AD s).1.length<=65536:=by
 by_cases hb:65536<s.length
 ·rw[I4 hb];simp
 ·unfold AD;rw[if_neg hb];split
  ·simp
  ·have:=Us s (s.length+1) (A9 s 0);show(DY s (s.length+1) (A9 s 0)).1.length<=65536;omega
theorem S4 (s:List UInt8):(∀x∈(A4 s).1,Cw x/\Ll x)/\(A4 s).1.length<=65536:=by
 rcases GF s with⟨_,h⟩|⟨_,_,hl,h⟩|⟨_,h,_⟩
 ·rw[h];exact⟨fun x hx=>⟨MK x hx,Kg x hx⟩,O5 s⟩
 ·rw[h];exact⟨fun x hx=>⟨MK x hx,Kg x hx⟩,O5 _⟩
 ·rw[h];exact⟨fun x hx=>(by cases hx),by simp⟩
theorem RdM.begin0 {w1:World} {B c:Nat} {A:Option Addr} {W:List Wd} (fin:Nat) (h:w1.ownsRow B 106 10 (.slice A W.length c) W.length (wdL W)) (hB:B<=w1.heap.size):
  RdM (fun _=>False) (w1.alloc (.cells #[.slice A W.length c,.int .i64 (fin:Int),.int .i64 0,.slice none 0 0,.slice none 0 0,.slice none 0 0,.slice none 0 0,.slice none 0 0] 72)) B (fun k=>if k=w1.heap.size then .box else .words) w1.heap.size
   ⟨A,c,W,fin,0,none,0,[],none,0,[],none,0,[],none,0,[],none,0,[],[]⟩:=fun o _=>by
 cases o with
 |out=>exact fun p hp=>by cases hp
 |tmp=>trivial
 |box=>exact⟨Ad w1 _,hB,if_pos rfl⟩
 |words=>
  refine⟨World.ownsRow.alloc h _,fun k hk=> ?_⟩;have:=(Aq h k hk).2;show(if k=w1.heap.size then Ow.box else .words)=.words;rw[if_neg (by omega)]
 |nodes=>exact OwnF.nil _ _ _ _ _ _
 |kids=>exact fun l hl=>by cases hl
 |list=>exact OwnF.nil _ _ _ _ _ _
 |ways j=>exact fun hj=>by cases hj
 |parts j=>exact fun hj=>by cases hj
 |heads j=>exact fun hj=>by cases hj
 |defs=>exact OwnF.nil _ _ _ _ _ _
 |body j=>exact fun hj=>by cases hj
 |names=>exact OwnF.nil _ _ _ _ _ _
 |calls=>exact OwnF.nil _ _ _ _ _ _
structure RdNew (s:List UInt8) (R:Rd):Prop where
 W:R.W=(A4 s).1
 fin:R.fin=(A4 s).2.1
 i:R.i=0
 ds:R.ds=[]
 ms:R.ms=[]
 cs:R.cs=[]
 keep:R.keep=[]
def JA (s:List UInt8) (w:World) (e:Ending) (w':World):Prop:=
 ∃(R:Rd) (f:Nat->Ow) (H:Nat),e=.returned (.tuple #[.pointer (some ⟨H,0,none⟩),.int .i64 ((A4 s).2.2:Int)])/\RdM (fun _=>False) w' w.heap.size f H R/\RdNew s R/\Below w.heap.size w w'
theorem Iy {s:List UInt8} {w w1:World} {A:Option Addr} {c n:Nat} {W:List Wd} {fin er:Nat} (h:A4 s=(W,fin,er)) (hn:W.length=n) (ho:w1.ownsRow w.heap.size 106 10 (.slice A n c) n (wdL W)) (hb:Below w.heap.size w w1):
  JA s w (.returned (.tuple #[.pointer (some ⟨w1.heap.size,0,none⟩),.int .i64 (er:Int)])) (w1.alloc (.cells #[.slice A n c,.int .i64 (fin:Int),.int .i64 0,.slice none 0 0,.slice none 0 0,.slice none 0 0,.slice none 0 0,.slice none 0 0] 72)):=by
 subst hn;refine⟨_,_,_,?_,RdM.begin0 fin ho hb.size,⟨?_,?_,rfl,rfl,rfl,rfl,rfl⟩,hb.alloc hb.size _⟩
 ·rw[h]
 ·rw[h]
 ·rw[h]
set_option maxRecDepth 100000 in
set_option maxHeartbeats 3200000 in
theorem S5 (s:ByteArray) (w:World) (hs:s.size<=281474976710656):Calls Tryz.prog 24 #[.string s] w (JA s.data.toList w):=by
 have hlen:s.data.toList.length=s.size:=Array.length_toList;have HWA:=qd (Na s w hs);unfold Ga at HWA;rcases GF s.data.toList with⟨h1,h2⟩|⟨h1,h3,h4,h2⟩|⟨h1,h2,h3⟩
 ·have HW:=qd (show Calls Tryz.prog 40 #[.string s] w fun e w'=>∃A c p,e=.returned (.tuple #[.slice A (AD s.data.toList).1.length c,.int .i64 p,.int .i64 0])/\w'.ownsRow w.heap.size 106 10 (.slice A (AD s.data.toList).1.length c) (AD s.data.toList).1.length (wdL (AD s.data.toList).1)/\Below w.heap.size w w' from HWA.out.mono fun e w' ⟨A,c,k1,k2,k3⟩=>⟨A,c,((AD s.data.toList).2.1:Int),k1.trans (by rw[h1];rfl),k2,k3⟩);have H2:=qd h2;have HL:=qd hlen;clear h1 h2 HWA hlen;generalize hn:(AD s.data.toList).1=W at *;obtain⟨n,hnn⟩:∃n,W.length=n:=⟨_,rfl⟩;have HN:=qd hnn;rw[hnn]at HW;clear hn hnn;go_enter Tryz.func24,Tryz.ntmps24
  go_wp2_with (first
   |(go_at_call 40;(with_reducible refine HW.out.mono ?_);rintro e w1 ⟨A,c,p,rfl,k1,k2⟩;have HO:=qd k1;have HB:=qd k2;clear k1 k2)
   |fail)
  refine bodyPost_ret (v:=.tuple #[.pointer (some ⟨w1.heap.size,0,none⟩),.int .i64 0]) (by simp[results,Tryz.results24,go_sem]) rfl ?_;have hx:=Iy H2.out HN.out HO.out HB.out;rw[HL.out]at hx;exact hx
 ·have HW:=qd (show Calls Tryz.prog 40 #[.string s] w fun e w'=>∃A c,e=.returned (.tuple #[.slice A (AD s.data.toList).1.length c,.int .i64 ((AD s.data.toList).2.1:Int),.int .i64 4])/\Below w.heap.size w w' from HWA.out.mono fun e w' ⟨A,c,k1,k2,k3⟩=>⟨A,c,k1.trans (by rw[h1];rfl),k3⟩);have HWS:=qd (fun(u:ByteArray) (wx:World) (hu:u.size<=281474976710656)=>Na u wx hu);unfold Ga at HWS;have H2:=qd h2;have HL:=qd hlen;clear h1 h2 HWA;generalize hp:(AD s.data.toList).2.1=p at *;generalize (AD s.data.toList).1.length=n at *;have i1:(p:Int)<=(s.size:Int):=by omega
  have i2:(0:Int)<=(p:Int):=by omega
  have i3:p<=s.size:=by omega
  have hxt:(s.extract 0 p).data.toList=s.data.toList.take p:=by simp[ByteArray.data_extract]
  have HXT:=qd hxt;have HXS:=qd (show(s.extract 0 p).size<=281474976710656 from by have h1:=congrArg List.length hxt;rw[List.length_take]at h1;have h2:(s.extract 0 p).data.toList.length=(s.extract 0 p).size:=Array.length_toList;omega);clear hp h3 h4 hlen hxt;go_enter Tryz.func24,Tryz.ntmps24
  go_wp2_with (first
   |(go_at_call 40;(with_reducible refine HW.out.mono ?_);rintro e w1 ⟨A,c,rfl,k2⟩;have HB:=qd k2;clear k2)
   |(go_at_call 40;(with_reducible refine(HWS.out (s.extract 0 p) w1 HXS.out).mono ?_);rintro e w2 ⟨A2,c2,rfl,k1,k2⟩;have HO:=qd k1;have HB2:=qd k2;clear k1 k2)
   |fail)
  refine bodyPost_ret (v:=.tuple #[.pointer (some ⟨w2.heap.size,0,none⟩),.int .i64 4]) (by simp[results,Tryz.results24,go_sem]) rfl ?_;have ho:=HO.out;have hb2:=HB2.out;rw[HXT.out]at ho;exact Iy H2.out rfl (Cl ho HB.out.size) (HB.out.trans (hb2.mono HB.out.size))
 ·have HW:=qd (show Calls Tryz.prog 40 #[.string s] w fun e w'=>∃A c,e=.returned (.tuple #[.slice A 0 c,.int .i64 65536,.int .i64 40])/\w'.ownsRow w.heap.size 106 10 (.slice A 0 c) 0 (wdL [])/\Below w.heap.size w w' from HWA.out.mono fun e w' hh=>by
   rw[h3]at hh;exact hh)
  have H2:=qd h2;clear h1 h2 h3 HWA hlen;go_enter Tryz.func24,Tryz.ntmps24
  go_wp2_with (first
   |(go_at_call 40;(with_reducible refine HW.out.mono ?_);rintro e w1 ⟨A,c,rfl,k1,k2⟩;have HO:=qd k1;have HB:=qd k2;clear k1 k2)
   |fail)
  refine bodyPost_ret (v:=.tuple #[.pointer (some ⟨w1.heap.size,0,none⟩),.int .i64 40]) (by simp[results,Tryz.results24,go_sem]) rfl ?_;exact Iy H2.out rfl HO.out HB.out
open Go.RowKit Go.Shelf
theorem O6 {a:Tr} (h:AA a=true):Dy a a=true:=by
 simp only[Dy,Bool.and_eq_true,decide_eq_true_eq];exact⟨⟨h,h⟩,trivial⟩
end Go.Proofs.YtdnochjajoiooaaGreatDoor
namespace Go.Proofs.YtdnochjajoiooaaGreatDoor
open Go.RowKit Go.Joins Go.ChangeShapes Go.WideShapes Go.Deep
set_option linter.unusedSimpArgs false
set_option linter.unusedVariables false
set_option maxRecDepth 100000
theorem O7 {α:Type} {n:Nat} {P:Nat->α->Prop} (h:∀i,i<n-> ∃a,P i a):∃l:List α,l.length=n/\ ∀(i:Nat) (hi:i<l.length),P i l[i]:=by
 refine⟨List.ofFn fun i:Fin n=>Classical.choose (h i.1 i.2),by simp,fun i hi=> ?_⟩;rw[List.getElem_ofFn];exact Classical.choose_spec (h i (by simpa using hi))
theorem GG {H:Type} {P:Program} {e:TypeId}:∀{ds:List (DataW H)} {d:DataW H},d∈ds-> ∀n∈d.weights P e,n∈DataW.weightsAll P e ds
 |c::r,d,hd,n,hn=>by
  simp only[DataW.weightsAll,List.mem_append];rcases List.mem_cons.1 hd with rfl|hd
  ·exact .inl hn
  ·exact .inr (GG hd n hn)
section
variable {H:Type} {enc:TypeId×Value->H} {W:World}
def Ut {α:Type} (enc:TypeId×Value->H) (W:World) (L:Lay α) (e:TypeId):Prop:=
 ∀n cs (y:DataW H×List MemPlace),DataW.trod enc Tryz.prog W 0 (fun _=>true) true n e cs=some y->(∀k∈y.1.weights Tryz.prog e,k<=reachBytes)-> ∃x,cs=L.cells x/\L.inn W (· < W.heap.size) x
theorem O8 {α:Type} {L:Lay α} {t e:TypeId} (ht:Tryz.prog.underlying t=some (.slice e)) (hc:Tryz.prog.cellsOf e=L.size) (hb:1<=Tryz.prog.bytesOf e) (h0:0<L.size) (hel:Ut enc W L e)
  {fuel:Nat} {cs:List Value} {y:DataW H×List MemPlace} (h:DataW.trod enc Tryz.prog W 0 (fun _=>true) true fuel t cs=some y) (hw:∀k∈y.1.weights Tryz.prog t,k<=reachBytes):
  ∃A c l,cs=[.slice A l.length c]/\L.row W (· < W.heap.size) A l/\l.length<=reachBytes/\l.length<=c/\c<=maxLen:=by
 rcases open_slice ht h with⟨e2,_⟩|⟨a,len,cap,m,n',D,Pl,e2,_,hlc,hcm,hm,hx,hi⟩
 ·exact⟨none,0,[],e2,Lay.row.nil _ _ _,by simp,by simp,by simp⟩
 ·subst hx
  have hwl:len*Tryz.prog.bytesOf e<=reachBytes:=by
   have:=hw ((((List.range len).map D).length+((List.range (m-len)).map fun j=>D (len+j)).length)*Tryz.prog.bytesOf e) (by rw[DataW.weights,ht];exact List.mem_cons_self);simp only[List.length_map,List.length_range]at this;exact Nat.le_trans (Nat.mul_le_mul_right _ (by omega)) this
  have hlr:len<=reachBytes:=Nat.le_trans (Nat.le_mul_of_pos_right len hb) hwl
  obtain⟨l,hll,hl⟩:=O7 (n:=len) (P:=fun i (x:α)=>(∀j,j<L.size->W.cell? ((a.add (i*L.size)).add j)=(L.cells x)[j]?)/\L.inn W (· < W.heap.size) x) (fun i hil=>by
   obtain⟨cs',hc',ht'⟩:=hi i (by simp only[if_true]at hm;omega);rw[hc]at hc';obtain⟨_,hcl,hat⟩:=World.cells?_some hc'
   obtain⟨x,rfl,hx⟩:=hel n' cs' (D i,Pl i) ht' (fun k hk=>hw k (by
    have hmem:D i∈(List.range len).map D:=List.mem_map.2 ⟨i,List.mem_range.2 hil,rfl⟩;rw[DataW.weights,ht];exact List.mem_cons_of_mem _ (List.mem_append.2 (.inl (GG hmem k hk)))))
   exact⟨x,hat,hx⟩)
  subst hll;refine⟨some a,cap,l,e2,⟨RowIn.mono (RowAt.rowIn (fun j u hu=>⟨a,rfl,?_⟩)) (fun _ _ h=>h),fun x hx=> ?_⟩,hlr,hlc,hcm⟩
  ·have hj:j<l.length*L.size:=by have:=(List.getElem?_eq_some_iff.1 hu).1;rwa [L.all_length]at this
   have hk:j/L.size<l.length:=Nat.div_lt_of_lt_mul (by rw[Nat.mul_comm];exact hj);have hr:j%L.size<L.size:=Nat.mod_lt _ h0;have e1:=L.all_at l (j/L.size) (j%L.size) hk hr;have e3:=(hl (j/L.size) hk).1 (j%L.size) hr;have e4:j/L.size*L.size+j%L.size=j:=by rw[Nat.mul_comm];exact Nat.div_add_mod j L.size
   rw[add_add,e4]at e3;rw[e4]at e1;rw[e3,<-e1,hu]
  ·obtain⟨i,hi2,rfl⟩:=List.mem_iff_getElem.1 hx;exact(hl i hi2).2
theorem S6:Ut enc W Az 3:=fun n cs y h _=>by
 obtain⟨z,rfl,_,_⟩:=DataW.trod_int Tryz.underlying3 h;exact⟨z,rfl,trivial⟩
set_option maxRecDepth 100000 in
theorem Qb:Ut enc W ndL 42:=fun n cs y h hw=>by
 have hrb:=reachBytes_lt;obtain⟨xs,m,_,rfl,hcl,hlen,hg⟩:=DataW.trod_struct Tryz.underlying42 h;rw[show Tryz.prog.cellsOf 42=9 by kernel_rfl]at hcl;have k1:Tryz.prog.cellsOf 5=1:=by kernel_rfl
 have k2:Tryz.prog.cellsOf 39=4:=by kernel_rfl
 have k3:Tryz.prog.cellsOf 9=1:=by kernel_rfl
 have k4:Tryz.prog.cellsOf 3=1:=by kernel_rfl
 have k5:Tryz.prog.cellsOf 40=1:=by kernel_rfl
 have k6:Tryz.prog.cellsOf 37=1:=by kernel_rfl
 match cs,hcl,xs,hlen with
 |[c0,c1,c2,c3,c4,c5,c6,c7,c8],_,[y0,y1,y2,y3,y4,y5],_=>
  have g0:DataW.trod enc Tryz.prog W 0 (fun _=>true) true m 5 [c0]=some y0:=by simpa[k1]using hg 0 _ rfl
  have g1:DataW.trod enc Tryz.prog W 0 (fun _=>true) true m 39 [c1,c2,c3,c4]=some y1:=by simpa[k2]using hg 1 _ rfl
  have g2:DataW.trod enc Tryz.prog W 0 (fun _=>true) true m 9 [c5]=some y2:=by simpa[k3]using hg 2 _ rfl
  have g3:DataW.trod enc Tryz.prog W 0 (fun _=>true) true m 3 [c6]=some y3:=by simpa[k4]using hg 3 _ rfl
  have g4:DataW.trod enc Tryz.prog W 0 (fun _=>true) true m 3 [c7]=some y4:=by simpa[k4]using hg 4 _ rfl
  have g5:DataW.trod enc Tryz.prog W 0 (fun _=>true) true m 40 [c8]=some y5:=by simpa[k5]using hg 5 _ rfl
  obtain⟨kd,q0,_,b0⟩:=DataW.trod_int Tryz.underlying5 g0;obtain⟨tx,q2,e2,_⟩:=DataW.trod_string Tryz.underlying9 g2;obtain⟨mn,q3,_,_⟩:=DataW.trod_int Tryz.underlying3 g3;obtain⟨mx,q4,_,_⟩:=DataW.trod_int Tryz.underlying3 g4;obtain⟨zs,m',_,_,_,hzl,hz⟩:=DataW.trod_array Tryz.underlying39 g1;simp only[k6]at hz;have hz0:=hz 0 (by decide);have hz1:=hz 1 (by decide);have hz2:=hz 2 (by decide);have hz3:=hz 3 (by decide);match zs,hzl with
  |[z0,z1,z2,z3],_=>
   have f0:DataW.trod enc Tryz.prog W 0 (fun _=>true) true m' 37 [c1]=some z0:=by simpa using hz0
   have f1:DataW.trod enc Tryz.prog W 0 (fun _=>true) true m' 37 [c2]=some z1:=by simpa using hz1
   have f2:DataW.trod enc Tryz.prog W 0 (fun _=>true) true m' 37 [c3]=some z2:=by simpa using hz2
   have f3:DataW.trod enc Tryz.prog W 0 (fun _=>true) true m' 37 [c4]=some z3:=by simpa using hz3
   obtain⟨s0,p0,_,u0⟩:=DataW.trod_int Tryz.underlying37 f0;obtain⟨s1,p1,_,u1⟩:=DataW.trod_int Tryz.underlying37 f1;obtain⟨s2,p2,_,u2⟩:=DataW.trod_int Tryz.underlying37 f2;obtain⟨s3,p3,_,u3⟩:=DataW.trod_int Tryz.underlying37 f3
   obtain⟨K,kc,kl,q5,hk,hkl,_,_⟩:=O8 (L:=Az) Tryz.underlying40 (by kernel_rfl) (of_decide_eq_true (by kernel_rfl)) (by decide) S6 g5 (fun k hk=>hw k (by
    rw[DataW.weights,Tryz.underlying42];exact DataW.weights_mem_each (j:=5) rfl rfl k hk))
   have hts:tx.size<=reachBytes:=by
    have:=hw tx.data.toList.length (by
     rw[DataW.weights,Tryz.underlying42];exact DataW.weights_mem_each (j:=2) rfl rfl _ (by show _∈y2.1.weights _ _;rw[e2];exact List.mem_cons_self))
    rwa [Ar]at this
   simp only[List.cons.injEq,and_true]at q0 q2 q3 q4 q5 p0 p1 p2 p3;subst q0 q2 q3 q4 q5 p0 p1 p2 p3;have h1:=bounds_u64 u0;have h2:=bounds_u64 u1;have h3:=bounds_u64 u2;have h4:=bounds_u64 u3;exact⟨⟨⟨kd,s0,s1,s2,s3,tx,mn,mx,kl⟩,K,kc⟩,rfl,⟨bounds_u8 b0,by show tx.size<=_;omega,by show kl.length<=_;omega,⟨h1.1,by show s0<_;omega⟩,⟨h2.1,by show s1<_;omega⟩,⟨h3.1,by show s2<_;omega⟩,⟨h4.1,by show s3<_;omega⟩⟩,hk⟩
theorem Kv {n:Nat} {c0 c1:Value} {y:DataW H×List MemPlace} (h:DataW.trod enc Tryz.prog W 0 (fun _=>true) true n 24 [c0,c1]=some y) (hw:∀k∈y.1.weights Tryz.prog 24,k<=reachBytes):
  ∃t:Lt,c0=.slice t.A t.ls.length t.c/\c1=.int .i64 t.root/\t.inn W (· < W.heap.size):=by
 have hrb:=reachBytes_lt;obtain⟨xs,m,_,rfl,_,hlen,hg⟩:=DataW.trod_struct Tryz.underlying24 h;have k1:Tryz.prog.cellsOf 22=1:=by kernel_rfl
 have k2:Tryz.prog.cellsOf 3=1:=by kernel_rfl
 match xs,hlen with
 |[y0,y1],_=>
  have g0:DataW.trod enc Tryz.prog W 0 (fun _=>true) true m 22 [c0]=some y0:=by simpa[k1]using hg 0 _ rfl
  have g1:DataW.trod enc Tryz.prog W 0 (fun _=>true) true m 3 [c1]=some y1:=by simpa[k2]using hg 1 _ rfl
  obtain⟨r,q1,_,_⟩:=DataW.trod_int Tryz.underlying3 g1
  obtain⟨A,c,l,q0,hl,hll,_,_⟩:=O8 (L:=ndL) Tryz.underlying22 (by kernel_rfl) (of_decide_eq_true (by kernel_rfl)) (by decide) Qb g0 (fun k hk=>hw k (by
   rw[DataW.weights,Tryz.underlying24];exact DataW.weights_mem_each (j:=0) rfl rfl k hk))
  simp only[List.cons.injEq,and_true]at q0 q1;subst q0 q1;exact⟨⟨A,c,l,r⟩,rfl,rfl,by show l.length<=_;omega,hl⟩
theorem S7 {base:Nat} {v:Value} {d:DataW H} {p:List MemPlace} (hok:Value.okWide Tryz.prog W .any base 24 v) (h:DataW.Trod enc Tryz.prog W 0 (fun _=>true) true 24 v d p) (hw:∀n∈d.weights Tryz.prog 24,n<=reachBytes):
  ∃t:Lt,v=t.val/\t.inn W (· < W.heap.size):=by
 obtain⟨cs,rfl,hsz⟩:=okWide_struct Tryz.underlying24 hok;rw[show Tryz.prog.cellsOf 24=2 by kernel_rfl]at hsz
 obtain⟨c0,c1,rfl⟩:∃c0 c1,cs = #[c0,c1]:=by
  obtain⟨l⟩:=cs;match l,hsz with
  |[c0,c1],_=>exact⟨c0,c1,rfl⟩
 obtain⟨fuel,hf⟩:=h;obtain⟨t,rfl,rfl,ht⟩:=Kv (y:=(d,p)) (by simpa[Value.cells]using hf) hw;exact⟨t,rfl,ht⟩
end
end Go.Proofs.YtdnochjajoiooaaGreatDoor
