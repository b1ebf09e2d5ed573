/- The contract of the reader's choice. -/
import Derived.Test.YtdnochjajoiooaaGreatDoorJx
import Derived.Test.YtdnochjajoiooaaGreatDoorSz
import Derived.Test.YtdnochjajoiooaaGreatDoorAk
namespace Go.Proofs.YtdnochjajoiooaaGreatDoor
open Go.RowKit
set_option linter.unusedSimpArgs false
set_option linter.unusedVariables false
abbrev DW:Obj:=.cells #[.slice none 0 0,.int .i64 0] 24 (0,0)
abbrev chR (R0:Rd) (b i:Nat) (nA:Option Addr) (nc:Nat) (ls:List Ln) (lA:Option Addr) (lc:Nat) (os:List Ol) (cA:Option Addr) (cc:Nat) (C:List Nat):Rd:=
 {R0 with i:=i,nA:=nA,nc:=nc,ls:=ls,lA:=lA,lc:=lc,os:=os,cA:=cA,cc:=cc,cs:=C.map (wdW R0.W),keep:=(b,DW)::R0.keep}
def ChJ (D:Ow->Prop) (B H:Nat) (R0:Rd) (s0:PS) (w:World) (n:Nat) (a':Act) (w':World):Prop:=
 ∃(s:PS) (nA:Option Addr) (nc:Nat) (ls:List Ln) (lA:Option Addr) (lc:Nat) (os:List Ol) (cA:Option Addr) (cc:Nat) (f:Nat->Ow),Hid (ChI R0.W s0 s ls os)/\Hid (RdM D w' B f H (chR R0 w.heap.size s.i nA nc ls lA lc os cA cc s.calls))/\Hid (Below B w w')/\Hid (s.calls.length<=s.i)/\Hid (n=R0.W.length+1-s.i) /\
  ∃u:Nat->Value,a'={tmps:= #[.pointer (some ⟨H,0,none⟩),u 1,.pointer (some ⟨w.heap.size,0,none⟩),.bool false,u 4,u 5,u 6,u 7,u 8,u 9,u 10,u 11,u 12,u 13,u 14,u 15,u 16,u 17,u 18,u 19,u 20,u 21,u 22,u 23,u 24,u 25,u 26,u 27,u 28,u 29,u 30,u 31,u 32,u 33,u 34,u 35,u 36,u 37,u 38,u 39,u 40,u 41,u 42,u 43,u 44,u 45,u 46,u 47,u 48,u 49,u 50,u 51,u 52,u 53,u 54,u 55,u 56,u 57,u 58,u 59,u 60,u 61,u 62,u 63,u 64,u 65,u 66,u 67,u 68,u 69,u 70,u 71,u 72,u 73,u 74,u 75,u 76,u 77,u 78,u 79,u 80,u 81,u 82,u 83,u 84,u 85,u 86,u 87,u 88,u 89,u 90,u 91,u 92,u 93,u 94,u 95,u 96,u 97,u 98,u 99,u 100,u 101,u 102,u 103,u 104,u 105,u 106,u 107,u 108,u 109,u 110,u 111,u 112,u 113,u 114,u 115,u 116,u 117,u 118,u 119,u 120,u 121,u 122,u 123,u 124,u 125,u 126,u 127,u 128,u 129,u 130,u 131,u 132,u 133,u 134,u 135,u 136,u 137,u 138,u 139,u 140,u 141,u 142,u 143,u 144,u 145,u 146,u 147,u 148,u 149,u 150,u 151,u 152,u 153,u 154,u 155,u 156],defers:=[]}
theorem E3 (q0 q1 q2 q3:Value) (a4 a5 a6 a7 a8 a9 a10 a11 a12 a13 a14 a15 a16 a17 a18 a19 a20 a21 a22 a23 a24 a25 a26 a27 a28 a29 a30 a31 a32 a33 a34 a35 a36 a37 a38 a39 a40 a41 a42 a43 a44 a45 a46 a47 a48 a49 a50 a51 a52 a53 a54 a55 a56 a57 a58 a59 a60 a61 a62 a63 a64 a65 a66 a67 a68 a69 a70 a71 a72 a73 a74 a75 a76 a77 a78 a79 a80 a81 a82 a83 a84 a85 a86 a87 a88 a89 a90 a91 a92 a93 a94 a95 a96 a97 a98 a99 a100 a101 a102 a103 a104 a105 a106 a107 a108 a109 a110 a111 a112 a113 a114 a115 a116 a117 a118 a119 a120 a121 a122 a123 a124 a125 a126 a127 a128 a129 a130 a131 a132 a133 a134 a135 a136 a137 a138 a139 a140 a141 a142 a143 a144 a145 a146 a147 a148 a149 a150 a151 a152 a153 a154 a155 a156:Value):∃u:Nat->Value,({tmps:= #[q0,q1,q2,q3,a4,a5,a6,a7,a8,a9,a10,a11,a12,a13,a14,a15,a16,a17,a18,a19,a20,a21,a22,a23,a24,a25,a26,a27,a28,a29,a30,a31,a32,a33,a34,a35,a36,a37,a38,a39,a40,a41,a42,a43,a44,a45,a46,a47,a48,a49,a50,a51,a52,a53,a54,a55,a56,a57,a58,a59,a60,a61,a62,a63,a64,a65,a66,a67,a68,a69,a70,a71,a72,a73,a74,a75,a76,a77,a78,a79,a80,a81,a82,a83,a84,a85,a86,a87,a88,a89,a90,a91,a92,a93,a94,a95,a96,a97,a98,a99,a100,a101,a102,a103,a104,a105,a106,a107,a108,a109,a110,a111,a112,a113,a114,a115,a116,a117,a118,a119,a120,a121,a122,a123,a124,a125,a126,a127,a128,a129,a130,a131,a132,a133,a134,a135,a136,a137,a138,a139,a140,a141,a142,a143,a144,a145,a146,a147,a148,a149,a150,a151,a152,a153,a154,a155,a156],defers:=[]}:Act)={tmps:= #[q0,u 1,q2,q3,u 4,u 5,u 6,u 7,u 8,u 9,u 10,u 11,u 12,u 13,u 14,u 15,u 16,u 17,u 18,u 19,u 20,u 21,u 22,u 23,u 24,u 25,u 26,u 27,u 28,u 29,u 30,u 31,u 32,u 33,u 34,u 35,u 36,u 37,u 38,u 39,u 40,u 41,u 42,u 43,u 44,u 45,u 46,u 47,u 48,u 49,u 50,u 51,u 52,u 53,u 54,u 55,u 56,u 57,u 58,u 59,u 60,u 61,u 62,u 63,u 64,u 65,u 66,u 67,u 68,u 69,u 70,u 71,u 72,u 73,u 74,u 75,u 76,u 77,u 78,u 79,u 80,u 81,u 82,u 83,u 84,u 85,u 86,u 87,u 88,u 89,u 90,u 91,u 92,u 93,u 94,u 95,u 96,u 97,u 98,u 99,u 100,u 101,u 102,u 103,u 104,u 105,u 106,u 107,u 108,u 109,u 110,u 111,u 112,u 113,u 114,u 115,u 116,u 117,u 118,u 119,u 120,u 121,u 122,u 123,u 124,u 125,u 126,u 127,u 128,u 129,u 130,u 131,u 132,u 133,u 134,u 135,u 136,u 137,u 138,u 139,u 140,u 141,u 142,u 143,u 144,u 145,u 146,u 147,u 148,u 149,u 150,u 151,u 152,u 153,u 154,u 155,u 156],defers:=[]}:=
 ⟨fun i=> #[q0,q1,q2,q3,a4,a5,a6,a7,a8,a9,a10,a11,a12,a13,a14,a15,a16,a17,a18,a19,a20,a21,a22,a23,a24,a25,a26,a27,a28,a29,a30,a31,a32,a33,a34,a35,a36,a37,a38,a39,a40,a41,a42,a43,a44,a45,a46,a47,a48,a49,a50,a51,a52,a53,a54,a55,a56,a57,a58,a59,a60,a61,a62,a63,a64,a65,a66,a67,a68,a69,a70,a71,a72,a73,a74,a75,a76,a77,a78,a79,a80,a81,a82,a83,a84,a85,a86,a87,a88,a89,a90,a91,a92,a93,a94,a95,a96,a97,a98,a99,a100,a101,a102,a103,a104,a105,a106,a107,a108,a109,a110,a111,a112,a113,a114,a115,a116,a117,a118,a119,a120,a121,a122,a123,a124,a125,a126,a127,a128,a129,a130,a131,a132,a133,a134,a135,a136,a137,a138,a139,a140,a141,a142,a143,a144,a145,a146,a147,a148,a149,a150,a151,a152,a153,a154,a155,a156].getD i undef,rfl⟩
theorem RdM.own {D:Ow->Prop} {w:World} {B H b:Nat} {f:Nat->Ow} {R:Rd} {o:Obj} (h:RdM D w B f H R) (hf:f b=.tmp) (ho:w.heap[b]?=some o):RdM D w B (BD f b .out) H {R with keep:=(b,o)::R.keep}:=fun x hx=>by
 have hk:∀k,f k≠.tmp->BD f b .out k=f k:=fun k hk=>by unfold BD;rw[if_neg (fun e=>hk (by rw[e];exact hf))]
 cases x with
 |tmp=>trivial
 |out=>
  intro p hp;rcases List.mem_cons.1 hp with rfl|hp
  ·exact⟨ho,by unfold BD;rw[if_pos rfl]⟩
  ·exact(h .out hx).refit hk (by simp) p hp
 |_=>exact(h _ hx).refit hk (by simp)
theorem RdM.start {D:Ow->Prop} {w:World} {B H:Nat} {f:Nat->Ow} {R:Rd} (h:RdM Dch w B f H R) (hB:B<=w.heap.size):
  RdM D (((w.setCell ⟨H,3,none⟩ (.slice none 0 0)).setCell ⟨H,4,none⟩ (.slice (some ⟨w.heap.size,0,none⟩) 1 1)).alloc (.cells #[.int .u8 0,.string ⟨#[]⟩,.slice none 0 0,.slice none 0 0,.slice none 0 0] 99)) B (BD f w.heap.size .list) H {R with nA:=none,nc:=0,ls:=[],lA:=some ⟨w.heap.size,0,none⟩,lc:=1,os:=[C5 0 []]} /\
  Below B w (((w.setCell ⟨H,3,none⟩ (.slice none 0 0)).setCell ⟨H,4,none⟩ (.slice (some ⟨w.heap.size,0,none⟩) 1 1)).alloc (.cells #[.int .u8 0,.string ⟨#[]⟩,.slice none 0 0,.slice none 0 0,.slice none 0 0] 99)):=by
 obtain⟨hbx,hBH,hfH⟩:=h .box (fun h=>h);have hlt:H<w.heap.size:=(Array.getElem?_eq_some_iff.1 hbx).1;have k1:KeepF (fun o=>o=.box) f f w (w.setCell ⟨H,3,none⟩ (.slice none 0 0)):=KeepF.set hfH;have k2:KeepF (fun o=>o=.box) f f (w.setCell ⟨H,3,none⟩ (.slice none 0 0)) ((w.setCell ⟨H,3,none⟩ (.slice none 0 0)).setCell ⟨H,4,none⟩ (.slice (some ⟨w.heap.size,0,none⟩) 1 1)):=KeepF.set hfH;have hB2:Below B w ((w.setCell ⟨H,3,none⟩ (.slice none 0 0)).setCell ⟨H,4,none⟩ (.slice (some ⟨w.heap.size,0,none⟩) 1 1)):=((Below.refl B w).setCell (p:=⟨H,3,none⟩) hBH _).setCell (p:=⟨H,4,none⟩) hBH _;have hbx2:=As (i:=4) (As (i:=3) hbx (.slice none 0 0)) (.slice (some ⟨w.heap.size,0,none⟩) 1 1);have hsz:((w.setCell ⟨H,3,none⟩ (.slice none 0 0)).setCell ⟨H,4,none⟩ (.slice (some ⟨w.heap.size,0,none⟩) 1 1)).heap.size=w.heap.size:=by simp
 generalize hw2:((w.setCell ⟨H,3,none⟩ (.slice none 0 0)).setCell ⟨H,4,none⟩ (.slice (some ⟨w.heap.size,0,none⟩) 1 1))=w2 at *
 have k3:KeepF (fun o=>o=.box) f (BD f w.heap.size .list) w2 (w2.alloc (.cells #[.int .u8 0,.string ⟨#[]⟩,.slice none 0 0,.slice none 0 0,.slice none 0 0] 99)):=by
  rw[<-hsz];exact(KeepF.below (bx1 w2 _)).upd .list (Nat.le_refl _)
 have K:=k1.trans (k2.trans k3);have hrow:=World.ownsRow_lit (base:=B) w2 #[.int .u8 0,.string ⟨#[]⟩,.slice none 0 0,.slice none 0 0,.slice none 0 0] 1 (e:=99) (size:=5) (by omega) (by unfold maxLen;omega) rfl;rw[hsz]at hrow
 have key:∀j (hj:j<[C5 0 []].length),([C5 0 []]:List Ol)[j]=C5 0 []:=fun j hj=>by
  have:j=0:=by simp at hj;exact hj
  subst this;rfl
 refine⟨fun o _=> ?_,hB2.alloc (by omega) _⟩;cases o with
 |box=>
  refine⟨?_,hBH,by unfold BD;rw[if_neg (by omega)];exact hfH⟩;have:=A7 (p:=(.cells #[.int .u8 0,.string ⟨#[]⟩,.slice none 0 0,.slice none 0 0,.slice none 0 0] 99)) hbx2;simpa[Rd.cells]using this
 |nodes=>exact OwnF.nil _ _ _ _ _ _
 |kids=>exact fun l hl=>by cases hl
 |list=>exact⟨hrow,fun k hk=>by cases hk;unfold BD;rw[if_pos rfl]⟩
 |ways j=>intro hj;show OwnF _ _ _ _ _ _ (([C5 0 []]:List Ol)[j]'hj).wA _ _ _;rw[key j hj];exact OwnF.nil _ _ _ _ _ _
 |parts j=>intro hj;show OwnF _ _ _ _ _ _ (([C5 0 []]:List Ol)[j]'hj).pA _ _ _;rw[key j hj];exact OwnF.nil _ _ _ _ _ _
 |heads j=>intro hj;show OwnF _ _ _ _ _ _ (([C5 0 []]:List Ol)[j]'hj).hA _ _ _;rw[key j hj];exact OwnF.nil _ _ _ _ _ _
 |out=>exact(h .out (fun h=>h)).keep K (by simp)
 |tmp=>trivial
 |words=>exact(h .words (fun h=>h)).keep K (by simp)
 |defs=>exact(h .defs (fun h=>h)).keep K (by simp)
 |body j=>exact(h (.body j) (fun h=>h)).keep K (by simp)
 |names=>exact(h .names (fun h=>h)).keep K (by simp)
 |calls=>exact(h .calls (fun h=>h)).keep K (by simp)
theorem Tb (W:List Wd) (i:Nat) (C0:List Nat) (hi:i<=W.length):ChI W ⟨i,[DS],C0⟩ ⟨i,[DS],C0⟩ [] [C5 0 []]:=by
 refine⟨rfl,hi,?_,?_,⟨rfl,fun o ho=> ?_⟩,by simp[FU],by simp⟩
 ·exact⟨⟨rfl,rfl,rfl,RepL.nil _,RepL.nil _,fun k hk=>by cases hk⟩,trivial⟩
 ·simpa[BC,C6,Ol.ob,A8]using Fine.nil
 ·obtain rfl:=List.mem_singleton.1 ho;exact⟨fun t ht=>(by cases ht),fun t ht=>(by cases ht),fun k hk=>(by cases hk)⟩
theorem WE {x:Wd} (hm:Cw x) (hs:x.s0<18446744073709551616/\x.s1<18446744073709551616/\x.s2<18446744073709551616/\x.s3<18446744073709551616):({B7 x with kids:=[]}:Nd).wf:=by
 have h0:U64 0:=by unfold U64;omega
 have hz:∀n:Nat,n<18446744073709551616->U64 (n:Int):=fun n hn=>by unfold U64;omega
 unfold B7;split
 ·rename_i h1
  have h2:=hm.1 h1;simp only[Cb,Bool.and_eq_true,decide_eq_true_eq]at h2;exact⟨by simp[Ii],by simp[Ii,ByteArray.size];omega,by simp,h0,h0,h0,h0⟩
 ·split
  ·rename_i h1
   split
   ·exact⟨by simp[Bi],by simp[Bi,ByteArray.size],by simp,h0,h0,h0,h0⟩
   ·have h2:=hm.2.1 h1;exact⟨by simp[Ij],by simp[Ij,ByteArray.size];omega,by simp,h0,h0,h0,h0⟩
  ·exact⟨by simp[Mf],by simp[Mf,ByteArray.size],by simp,hz _ hs.1,hz _ hs.2.1,hz _ hs.2.2.1,hz _ hs.2.2.2⟩
theorem RdM.letgo {D:Ow->Prop} {w w':World} {B H b:Nat} {f:Nat->Ow} {R:Rd} {o:Obj} {ks:List (Nat×Obj)} (h:RdM D w B f H {R with keep:=(b,o)::ks}) (hne:∀p∈ks,p.1≠b) (hD:¬D .out) (hs:w.heap.size<=w'.heap.size) (hb:∀k,k≠b->w'.heap[k]?=w.heap[k]?):RdM D w' B f H {R with keep:=ks}:=by
 have hfb:=(h .out hD (b,o) (by simp)).2;have K:KeepF (fun x=>x=.out) f f w w':=⟨hs,fun k _ hn=>hb k (fun e=>hn (by rw[e];exact hfb)),fun _ _=>rfl⟩;refine h.step K (fun x hx hX=> ?_) (fun x hx hX hr=> ?_)
 ·subst hX;intro p hp;have h1:=h .out hD p (by simp[hp]);exact⟨(hb _ (hne p hp)).trans h1.1,h1.2⟩
 ·cases x with
  |out=>exact absurd rfl hX
  |_=>exact hr
theorem Ry:(Tryz.prog.info? 5).map (fun i=>(i.zero,i.size,i.bytes))=some (some (.int .u8 0),1,1):=by kernel_rfl
theorem Qz {W:List Wd} {i:Nat} (h:(BF W i).1=true):i<(BF W i).2.1:=by
 unfold BF at h ⊢;repeat' split at h
 all_goals first
  |(cases h;done)
  |(simp_all;done)
  |(simp_all;omega)
def Dc (B H:Nat) (R0:Rd) (s0:PS) (w:World) (e:Ending) (w':World):Prop:=
 (∀j t C,goP R0.W s0=(.done j t,C)-> ∃(v:Lt) (nA:Option Addr) (nc:Nat) (ls:List Ln) (lA:Option Addr) (lc:Nat) (os:List Ol) (cA:Option Addr) (cc:Nat) (f':Nat->Ow),e=.returned (.tuple #[v.val,.bool true])/\v.tr=DC (Bo t)/\v.ls.length<=300000/\TreeOwn w' (fun k=>f' k=.body R0.ds.length/\B<=k) v /\
  RdM Dch w' B f' H {chR R0 w.heap.size j nA nc ls lA lc os cA cc C with keep:=R0.keep}/\Below B w w') /\
 (∀j C,goP R0.W s0=(.fail j,C)-> ∃(nA:Option Addr) (nc:Nat) (ls:List Ln) (lA:Option Addr) (lc:Nat) (os:List Ol) (cA:Option Addr) (cc:Nat) (f':Nat->Ow),e=.returned (.tuple #[.agg #[.slice none 0 0,.int .i64 0],.bool false]) /\
  RdM Dch w' B f' H {chR R0 w.heap.size j nA nc ls lA lc os cA cc C with keep:=R0.keep}/\Below B w w')
attribute [local go_sem] Ez E0
set_option maxRecDepth 100000 in
set_option maxHeartbeats 6400000 in
theorem Kn (D:Ow->Prop) (w:World) (B:Nat) (f:Nat->Ow) (H:Nat) (R0:Rd) (C0:List Nat) (h:RdM Dch w B f H R0) (hD:∀o,D o->False) (hW:∀x∈R0.W,Cw x) (hcs:R0.cs=C0.map (wdW R0.W)) (hcl:C0.length<=R0.i) (hi:R0.i<=R0.W.length) (hwl:R0.W.length<=65536) (hsm:∀x∈R0.W,x.s0<18446744073709551616/\x.s1<18446744073709551616/\x.s2<18446744073709551616/\x.s3<18446744073709551616)
  (hct:∀w',Below B w w'->CntTab w') (hB:B<=w.heap.size):
  Calls Tryz.prog 25 #[.pointer (some ⟨H,0,none⟩)] w (Dc B H R0 ⟨R0.i,[DS],C0⟩ w):=by
 have HDN:=qd hD;have HW:=qd hW;have HCT:=qd hct;have HCS:=qd hcs;have HSM:=qd hsm;have HFR:=qd h.fresh;have HF0:=qd (show ∀k,w.heap.size<=k->Fk f w.heap.size k=.tmp from fun k hk=>by unfold Fk;rw[if_neg (by omega)]);generalize Fk f w.heap.size=f0 at *;have HBX:=qd (HFR.out.box (fun h=>h));have hltH:H<w.heap.size:=Av HBX.out;have HKN:=qd (show ∀p∈R0.keep,p.1≠w.heap.size from fun p hp=>Nat.ne_of_lt (Av (h .out (fun h=>h) p hp).1))
 have HRET:=qd (show ∀wz f' j nA nc ls lA lc os cA cc C,RdM Dch wz B f' H (chR R0 w.heap.size j nA nc ls lA lc os cA cc C)->Below B w wz->goP R0.W ⟨R0.i,[DS],C0⟩=(.fail j,C)->Dc B H R0 ⟨R0.i,[DS],C0⟩ w (.returned (.tuple #[.agg #[.slice none 0 0,.int .i64 0],.bool false])) ((wz.setCell ⟨w.heap.size,0,none⟩ (.slice none 0 0)).setCell ⟨w.heap.size,1,none⟩ (.int .i64 0))from fun wz f' j nA nc ls lA lc os cA cc C hr hb hg=>by
  refine⟨fun j' t C' e=>(by rw[hg]at e;cases e),fun j' C' e=> ?_⟩;rw[hg]at e;cases e;refine⟨nA,nc,ls,lA,lc,os,cA,cc,f',rfl,hr.letgo (R:={chR R0 w.heap.size j nA nc ls lA lc os cA cc C with keep:=R0.keep}) HKN.out (fun h=>h) (by simp) (fun k hk=> ?_),(hb.setCell (p:=⟨w.heap.size,0,none⟩) hB _).setCell (p:=⟨w.heap.size,1,none⟩) hB _⟩;exact(Below.heap_setCell _ ⟨w.heap.size,1,none⟩ _ k hk).trans (Below.heap_setCell _ ⟨w.heap.size,0,none⟩ _ k hk))
 clear h hD hW hct hcs hsm;have HZ:=qd (Ad w (.cells #[.slice none 0 0,.int .i64 0] 24));have HB0:=qd (bx1 w (.cells #[.slice none 0 0,.int .i64 0] 24));go_enter Tryz.func25,Tryz.ntmps25
 go_upto_region 1 with(fail)
 have HR1:=qd (HFR.out.below HB0.out);generalize (w.alloc (.cells #[.slice none 0 0,.int .i64 0] 24))=W0 at *;refine Jv 0 (ChJ D B H R0 ⟨R0.i,[DS],C0⟩ w) rfl ?pass ?first
 case first=>
  intro HF;obtain⟨p0,p1,p2,p3,p4,p5,p6,p7,pf⟩:=EC (HR1.out.box (fun h=>h));have hltW:H<W0.heap.size:=Av (HR1.out.box (fun h=>h));go_wp2_with fail
  have HS:=qd ((HR1.out.own (b:=w.heap.size) (HF0.out _ (Nat.le_refl _)) HZ.out).start (D:=D) (by have:=HB0.out.size;omega));generalize (((W0.setCell ⟨H,3,none⟩ (.slice none 0 0)).setCell ⟨H,4,none⟩ (.slice (some ⟨W0.heap.size,0,none⟩) 1 1)).alloc (.cells #[.int .u8 0,.string ⟨#[]⟩,.slice none 0 0,.slice none 0 0,.slice none 0 0] 99))=W1 at *;clear p0 p1 p2 p3 p4 p5 p6 p7 pf;have HX:=qd (show RdM D W1 B (BD (BD f0 w.heap.size .out) W0.heap.size .list) H (chR R0 w.heap.size R0.i none 0 [] (some ⟨W0.heap.size,0,none⟩) 1 [C5 0 []] R0.cA R0.cc C0)from by have:=HS.out.1;rw[show chR R0 w.heap.size R0.i none 0 [] (some ⟨W0.heap.size,0,none⟩) 1 [C5 0 []] R0.cA R0.cc C0={{R0 with keep:=(w.heap.size,DW)::R0.keep}with nA:=none,nc:=0,ls:=[],lA:=some ⟨W0.heap.size,0,none⟩,lc:=1,os:=[C5 0 []]}from by unfold chR;rw[<-HCS.out]];exact this);go_step3
  rename_i Kx hKx
  exact hKx _ _ (HF _ _ _ ⟨⟨R0.i,[DS],C0⟩,none,0,[],some ⟨W0.heap.size,0,none⟩,1,[C5 0 []],R0.cA,R0.cc,_,qd (Tb R0.W R0.i C0 hi),HX,qd ((HB0.out.mono hB).trans HS.out.2),qd hcl,qd rfl,E3 _ _ _ _ _ _ _ _ _ _ _ _ _ _ _ _ _ _ _ _ _ _ _ _ _ _ _ _ _ _ _ _ _ _ _ _ _ _ _ _ _ _ _ _ _ _ _ _ _ _ _ _ _ _ _ _ _ _ _ _ _ _ _ _ _ _ _ _ _ _ _ _ _ _ _ _ _ _ _ _ _ _ _ _ _ _ _ _ _ _ _ _ _ _ _ _ _ _ _ _ _ _ _ _ _ _ _ _ _ _ _ _ _ _ _ _ _ _ _ _ _ _ _ _ _ _ _ _ _ _ _ _ _ _ _ _ _ _ _ _ _ _ _ _ _ _ _ _ _ _ _ _ _ _ _ _ _⟩)
 case pass=>
  rintro n a' wr ⟨s,nA,nc,ls,lA,lc,os,cA,cc,f1,HI,HR,HB,HC,HN,u,rfl⟩;clear HR1 HB0 HZ;generalize hbb:w.heap.size=b at *;have HBW:=qd (show B<=wr.heap.size from by have:=HB.out.size;omega);have HLE:=qd (show s.i<=65536/\s.calls.length<=1000000/\ls.length+FU os<=200000/\os.length<=65537 from by have h1:=HI.out.le;have h2:=HC.out;have h3:=HI.out.num;have h4:=HI.out.len;omega);have HD3:=qd (show ¬D .box/\ ¬D .nodes/\ ¬D .kids from⟨fun h=>HDN.out _ h,fun h=>HDN.out _ h,fun h=>HDN.out _ h⟩);have HLF:=qd (Ta D wr B f1 H _ HR.out HDN.out HLE.out.1 (by show(s.calls.map (wdW R0.W)).length<=1000000;rw[List.length_map];exact HLE.out.2.1) HBW.out);by_cases hlf:AU R0.W s.i=true
  ·obtain⟨nd,hnd⟩:∃nd,B7 (wdW R0.W s.i)=nd:=⟨_,rfl⟩;have hnk:nd.kids=[]:=by rw[<-hnd];exact JI _
   have hnd':=hnd;have hlf':=hlf
   have HL:=qd (show Calls Tryz.prog 41 #[.pointer (some ⟨H,0,none⟩)] wr (fun e w'=>e=.returned (.tuple #[SZ nd,.bool true])/\ ∃f' cA' cc',RdM D w' B f' H (chR R0 b (s.i+1) nA nc ls lA lc os cA' cc' (if kdW R0.W s.i=1 then s.calls++[s.i]else s.calls))/\Below B wr w')from HLF.out.mono fun e w' hp=>by
    obtain⟨h1,f',cA',cc',h2,h3⟩:=hp.1 hlf;refine⟨by rw[h1,<-hnd],f',cA',cc',?_,h3⟩;have e1:(if kdW R0.W s.i=1 then s.calls++[s.i]else s.calls).map (wdW R0.W)=if kdW R0.W s.i=1 then s.calls.map (wdW R0.W)++[wdW R0.W s.i]else s.calls.map (wdW R0.W):=by split <;> simp
    unfold chR;rw[e1];exact h2)
   have HLN:=qd (And.intro hlf hnd);clear hlf hnd HLF;have HNW:=qd (show({nd with kids:=[]}:Nd).wf from by rw[<-hnd'];exact WE (by rw[Lx (Hs hlf')];exact HW.out _ (List.getElem_mem _)) (by rw[Lx (Hs hlf')];exact HSM.out _ (List.getElem_mem _)));clear hnd' hlf'
   go_upto_region 3 with(first
    |(go_at_call 41;(with_reducible refine HL.out.mono ?_);rintro e w1 ⟨rfl,f2,cA',cc',h1,h2⟩;have HR1:=qd h1;have HB1:=qd (HB.out.trans h2);clear h1 h2)
    |fail)
   have HBN:=qd (bx1 w1 (.cells #[.int .u8 nd.kind,.int .u64 nd.s0,.int .u64 nd.s1,.int .u64 nd.s2,.int .u64 nd.s3,.string nd.text,.int .i64 nd.mn,.int .i64 nd.mx,.slice none 0 0] 42));have HXN:=qd (Ad w1 (.cells #[.int .u8 nd.kind,.int .u64 nd.s0,.int .u64 nd.s1,.int .u64 nd.s2,.int .u64 nd.s3,.string nd.text,.int .i64 nd.mn,.int .i64 nd.mx,.slice none 0 0] 42));have HR2:=qd (HR1.out.below HBN.out);have HB2:=qd (HB1.out.trans (HBN.out.mono (show B<=w1.heap.size by have:=HB1.out.size;omega)));generalize (w1.alloc (.cells #[.int .u8 nd.kind,.int .u64 nd.s0,.int .u64 nd.s1,.int .u64 nd.s2,.int .u64 nd.s3,.string nd.text,.int .i64 nd.mn,.int .i64 nd.mx,.slice none 0 0] 42))=w2 at *;obtain⟨n0,n1,n2,n3,n4,n5,n6,n7,n8,_⟩:=BP HXN.out
   have HA:=qd (show Calls Tryz.prog 43 #[.pointer (some ⟨H,0,none⟩),.agg #[.int .u8 nd.kind,.int .u64 nd.s0,.int .u64 nd.s1,.int .u64 nd.s2,.int .u64 nd.s3,.string nd.text,.int .i64 nd.mn,.int .i64 nd.mx,.slice none 0 0],.slice none 0 0] w2 (D9 D B f2 H (chR R0 b (s.i+1) nA nc ls lA lc os cA' cc' (if kdW R0.W s.i=1 then s.calls++[s.i]else s.calls)) ⟨{nd with kids:=[]},none,0⟩ w2)from
    FT D w2 B f2 H _ nd (.slice none 0 0) none 0 [] HR2.out HD3.out (OwnF.nil _ _ _ _ _ _) HNW.out (by show ls.length<=4294967296;have:=HLE.out.2.2.1;omega) (by have:=HB2.out.size;omega))
   obtain⟨os0,top,bt,rest,hos,hst,hO,hS⟩:=HI.out.top;have HTP:=qd (And.intro hos (And.intro hst (And.intro hO hS)));clear hos hst hO hS
   have HPR:=qd (show ∀(w3:World) (nA3:Option Addr) (nc3:Nat) (f3:Nat->Ow),RdM D w3 B f3 H (chR R0 b (s.i+1) nA3 nc3 (ls++[⟨{nd with kids:=[]},none,0⟩]) lA lc os cA' cc' (if kdW R0.W s.i=1 then s.calls++[s.i]else s.calls))->B<=w3.heap.size->Calls Tryz.prog 42 #[.pointer (some ⟨H,0,none⟩),.int .i64 (ls.length:Int)] w3 (GP D B H (chR R0 b (s.i+1) nA3 nc3 (ls++[⟨{nd with kids:=[]},none,0⟩]) lA lc os cA' cc' (if kdW R0.W s.i=1 then s.calls++[s.i]else s.calls)) os0 top (.mk nd []) (BC (C6 os)) w3)from fun w3 nA3 nc3 f3 h3 hb3=>by
    have hx:(⟨{nd with kids:=[]},none,0⟩:Ln).nd=B7 (wdW R0.W s.i):=by rw[HLN.out.2];show({nd with kids:=[]}:Nd)=nd;rw[<-hnk]
    have hF:=HI.out.leafF HW.out HLN.out.1 hx;rw[HLN.out.2]at hF;have hop:=HI.out.fine.opens_le;have hle:=HLE.out.2.2.1;have hol:=HLE.out.2.2.2;have hlt:=Hs HLN.out.1;have htop:=HTP.out.1;have hls:(A8 ls).length=ls.length:=by simp[A8]
    rw[hls]at hop;rw[htop]at hop hle hol;rw[Cv]at hop;rw[CP]at hle;simp only[List.length_append,List.length_singleton]at hop hol;exact GQ D w3 B f3 H _ os0 top (ls.length:Int) (.mk nd []) (BC (C6 os)) h3 HDN.out htop hF.1 hF.2 HW.out (fun k hk=>HTP.out.2.2.1.hd k hk) (by show s.i+1<=R0.W.length;omega) hwl (by show(ls++[_]).length+top.heads.length<=1000000;simp only[List.length_append,List.length_singleton];omega) (by omega) (by omega) hb3)
   go_wp2_with (first
    |(go_at_call 43;(with_reducible refine HA.out.mono ?_);rintro e w3 ⟨nA3,nc3,f3,rfl,h1,_,h2⟩;have HR3:=qd h1;have HB3:=qd (HB2.out.trans h2);clear h1 h2)
    |(go_at_call 42;(with_reducible refine(HPR.out w3 nA3 nc3 f3 HR3.out (by have:=HB3.out.size;omega)).mono ?_);rintro e w4 ⟨nA4,nc4,ls4,f4,top',z4,rfl,h1,h2,h3,h4,h5,h6,h7⟩;have HR4:=qd h1;have HP4:=qd (And.intro h2 (And.intro h3 (And.intro h4 (And.intro h5 h6))));have HB4:=qd (HB3.out.trans h7);clear h1 h2 h3 h4 h5 h6 h7)
    |fail)
   obtain⟨st',hci⟩:=ChI.leafN (top:=top) (top':=top') (os0:=os0) (ls:=ls) (lsD:=ls4) (x:=⟨{nd with kids:=[]},none,0⟩) (z':=z4) (show ChI R0.W ⟨R0.i,[DS],C0⟩ s ls (os0++[top])from by rw[<-HTP.out.1];exact HI.out) HW.out HLN.out.1 (by rw[HLN.out.2];show({nd with kids:=[]}:Nd)=nd;rw[<-hnk]) HP4.out.2.1 (by rw[HLN.out.2];exact HP4.out.2.2.1) (by rw[<-HTP.out.1];exact HP4.out.2.2.2.1) HP4.out.1 (by rw[HLN.out.2];exact HP4.out.2.2.2.2);rw[HLN.out.2]at hci;have hge:=(Hq R0.W (R0.W.length-(s.i+1)) (s.i+1) (.mk nd [])).1;have HCI:=qd hci;clear hci;subst hbb;go_step3
   exact⟨rfl,R0.W.length+1-(B4 R0.W (R0.W.length-(s.i+1)) (s.i+1) (.mk nd [])).2,by have:=HN.out;have:=HI.out.le;omega,⟨_,nA4,nc4,ls4,lA,lc,os0++[top'],cA',cc',f4,HCI,HR4,HB4,qd (by have:=HC.out;show(if kdW R0.W s.i=1 then s.calls++[s.i]else s.calls).length<=_;split <;> simp <;> omega),qd rfl,E3 _ _ _ _ _ _ _ _ _ _ _ _ _ _ _ _ _ _ _ _ _ _ _ _ _ _ _ _ _ _ _ _ _ _ _ _ _ _ _ _ _ _ _ _ _ _ _ _ _ _ _ _ _ _ _ _ _ _ _ _ _ _ _ _ _ _ _ _ _ _ _ _ _ _ _ _ _ _ _ _ _ _ _ _ _ _ _ _ _ _ _ _ _ _ _ _ _ _ _ _ _ _ _ _ _ _ _ _ _ _ _ _ _ _ _ _ _ _ _ _ _ _ _ _ _ _ _ _ _ _ _ _ _ _ _ _ _ _ _ _ _ _ _ _ _ _ _ _ _ _ _ _ _ _ _ _ _⟩⟩
  ·have hlf':AU R0.W s.i=false:=by simpa using hlf
   clear hlf
   have HL:=qd (show Calls Tryz.prog 41 #[.pointer (some ⟨H,0,none⟩)] wr (fun e w'=>e=.returned (.tuple #[.agg #[.int .u8 0,.int .u64 0,.int .u64 0,.int .u64 0,.int .u64 0,.string ⟨#[]⟩,.int .i64 0,.int .i64 0,.slice none 0 0],.bool false])/\ ∃f',RdM D w' B f' H (chR R0 b s.i nA nc ls lA lc os cA cc s.calls)/\Below B wr w')from HLF.out.mono fun e w' hp=>by
    obtain⟨h1,f',h2,h3⟩:=hp.2 hlf';exact⟨h1,f',h2,h3⟩)
   have HLN:=qd hlf';clear hlf' HLF
   go_upto_region 5 with(first
    |(go_at_call 41;(with_reducible refine HL.out.mono ?_);rintro e w1 ⟨rfl,f2,h1,h2⟩;have HR1:=qd h1;have HB1:=qd (HB.out.trans h2);clear h1 h2)
    |fail)
   have HBN:=qd (bx1 w1 (.cells #[.int .u8 0,.int .u64 0,.int .u64 0,.int .u64 0,.int .u64 0,.string ⟨#[]⟩,.int .i64 0,.int .i64 0,.slice none 0 0] 42));have HR2:=qd (HR1.out.below HBN.out);have HB2:=qd (HB1.out.trans (HBN.out.mono (show B<=w1.heap.size by have:=HB1.out.size;omega)));generalize (w1.alloc (.cells #[.int .u8 0,.int .u64 0,.int .u64 0,.int .u64 0,.int .u64 0,.string ⟨#[]⟩,.int .i64 0,.int .i64 0,.slice none 0 0] 42))=w2 at *;clear HL HR1 HB1 HBN HR HB;obtain⟨os0,top,bt,rest,hos,hst,hO,hS⟩:=HI.out.top;subst hos;have HTP:=qd (And.intro hst (And.intro hO hS));clear hst hO hS;have hjl:os0.length<(os0++[top]).length:=by simp
   obtain⟨g,hgA,hgl,⟨o0,o1,o2,o3,o4⟩,of⟩:=HR2.out.openAt (fun h=>HDN.out _ h) (j:=os0.length) hjl;obtain rfl:lA=some ⟨g,0,none⟩:=hgA;have etop:(os0++[top])[os0.length]'hjl=top:=by simp
   simp only[chR,etop]at o0 o1 o2 o3 o4;obtain⟨_,_,p2,_,p4,_,_,_,pf⟩:=EC (HR2.out.box (fun h=>HDN.out _ h));have eol:(os0++[top]).length=os0.length+1:=by simp
   simp only[chR,eol]at p2 p4;have e1:IntKind.i64.wrap ((os0.length:Int)+1-1)=(os0.length:Int):=by rw[IntWalk.i64_in _ (by have:=HLE.out.2.2.2;simp at this;omega)];omega
   have e2:IntKind.i64.wrap (os0.length:Int)=(os0.length:Int):=IntWalk.i64_in _ (by have:=HLE.out.2.2.2;simp at this;omega);have i1:(os0.length:Int)<(os0.length:Int)+1:=by omega
   have i2:(0:Int)<=(os0.length:Int):=by omega
   have i3:os0.length<os0.length+1:=by omega
   clear etop eol;go_quiet (fail)
   go_upto_region 6 with(fail)
   have HR3:=qd (HR2.out.below (Below.drewN'' (Below.refl _ w2) nq));have HB3:=qd (Below.drewN'' HB2.out nq);clear o0 o1 o2 o3 o4 of p2 p4 pf HR2 HB2;generalize (w2.drewN nq)=w3 at *;have HWD:=qd (show Calls Tryz.prog 44 #[.pointer (some ⟨H,0,none⟩),.int .i64 0] w3 fun e w''=>e=.returned (wdV (wdW R0.W s.i))/\Below w3.heap.size w3 w'' from FS D w3 B f2 H (chR R0 b s.i nA nc ls (some ⟨g,0,none⟩) lc (os0++[top]) cA cc s.calls) 0 HR3.out ⟨fun h=>HDN.out _ h,fun h=>HDN.out _ h⟩ (by have:=HLE.out.1;show s.i<=100000;omega) (by omega));have hkd:=Km R0.W s.i;have hjl:os0.length<(os0++[top]).length:=by simp
   have HO:=qd (show ∀wx f' i' nA' nc' ls' C',RdM D wx B f' H (chR R0 b i' nA' nc' ls' (some ⟨g,0,none⟩) lc (os0++[top]) cA cc C')->(wx.cell? ⟨g,os0.length*5,none⟩=some (.int .u8 (top.fin:Int))/\wx.cell? ⟨g,os0.length*5+1,none⟩=some (.string ⟨top.name.toArray⟩)/\wx.cell? ⟨g,os0.length*5+2,none⟩=some (.slice top.wA top.ways.length top.wc)/\wx.cell? ⟨g,os0.length*5+3,none⟩=some (.slice top.pA top.parts.length top.pc)/\wx.cell? ⟨g,os0.length*5+4,none⟩=some (.slice top.hA top.heads.length top.hc))/\ ∀i,wx.frozen? ⟨g,i,none⟩=false from fun wx f' i' nA' nc' ls' C' hr=>by
    obtain⟨g',hg',_,hc,hf⟩:=hr.openAt (fun h=>HDN.out _ h) (j:=os0.length) hjl;have e:(os0++[top])[os0.length]'hjl=top:=by simp
    simp only[chR,e]at hg' hc;cases hg';exact⟨hc,hf⟩)
   by_cases h45:kdW R0.W s.i=4\/kdW R0.W s.i=5
   ·have j45:((wdW R0.W s.i).kind:Int)=4\/((wdW R0.W s.i).kind:Int)=5:=by omega
    have HK45:=qd h45;clear hkd h45;rcases j45 with j45|j45
    ·skip
     go_upto_region 10 with(first
      |(go_at_call 44;(with_reducible refine HWD.out.mono ?_);rintro e w4 ⟨rfl,hb⟩;have HR4:=qd (HR3.out.below hb);have HB4:=qd (HB3.out.trans (hb.mono (show B<=w3.heap.size by have:=HB3.out.size;omega)));clear hb)
      |fail)
     have HH:=qd (show ∀wx,Calls Tryz.prog 45 #[.int .u8 4] wx (fun e w'=>e=.returned (.int .u8 7)/\w'=wx)from fun wx=>MR wx 4 (by decide));obtain⟨⟨o0,o1,o2,o3,o4⟩,of⟩:=HO.out _ _ _ _ _ _ _ HR4.out;obtain⟨i0,hi0,hz0,hz1,hz2⟩:=info_parts Ry;have hzi:(Value.int .u8 0).cells.size=1:=rfl;have HHO:=qd (show OwnF w4 B f2 (.heads os0.length) 5 1 top.hA top.heads.length top.hc (top.heads.map fun k:Nat=>Value.int .u8 (k:Int))from by have h1:=HR4.out (.heads os0.length) (fun h=>HDN.out _ h) hjl;simpa using h1);have HPO:=qd (show(w4.drew.alloc (.cells #[.int .u8 7] 5)).ownsRow B 5 1 (.slice top.hA top.heads.length top.hc) top.heads.length (top.heads.map fun k:Nat=>Value.int .u8 (k:Int))from World.ownsRow.alloc (show w4.drew.ownsRow B 5 1 (.slice top.hA top.heads.length top.hc) top.heads.length (top.heads.map fun k:Nat=>Value.int .u8 (k:Int))from HHO.out.1) _);have hhl:top.heads.length<=200000:=by have h1:=HLE.out.2.2.1;rw[CP]at h1;omega
     have hglt:g<w4.heap.size:=(Aq (HR4.out .list (fun h=>HDN.out _ h)).1 g rfl).2;have HFP:=qd (show top.heads.length+1<=maxLen/\(top.heads.length+1)*1<=140737488355328/\B<=(w4.drew.alloc (.cells #[.int .u8 7] 5)).heap.size from⟨by unfold maxLen;omega,by omega,by have:=HB4.out.size;simp;omega⟩)
     have HNE:=qd (show ¬some g=Ai top.hA from fun e=>by
      have h1:=HHO.out.2 g e.symm;have h2:=(HR4.out .list (fun h=>HDN.out _ h)).2 g rfl;rw[h1]at h2;cases h2)
     have HCG:=qd (show(w4.drew.alloc (.cells #[.int .u8 7] 5)).cell? ⟨g,os0.length*5+4,none⟩=some (.slice top.hA top.heads.length top.hc)/\(w4.drew.alloc (.cells #[.int .u8 7] 5)).frozen? ⟨g,os0.length*5+4,none⟩=false/\g<(w4.drew.alloc (.cells #[.int .u8 7] 5)).heap.size from by
      have h0:=Below.heap_alloc w4.drew (.cells #[.int .u8 7] 5) g hglt;refine⟨?_,?_,by simp;omega⟩
      ·unfold World.cell? at o4 ⊢;simp only[h0];exact o4
      ·have h1:=of (os0.length*5+4);unfold World.frozen? at h1 ⊢;simp only[h0];exact h1)
     have HPN:=qd (show top.heads.length=top.heads.length from rfl);clear o0 o1 o2 o3;have of4:=of (os0.length*5+4)
     go_region_law (first
      |(go_simp;go_at_call 45;refine(HH.out _).mono ?_;rintro e w5 ⟨rfl,rfl⟩)
      |(refine Bm (by rfl) (.tmp 50) (.tmp 53) 48 (by rfl) B 5 i0 (.int .u8 0) 1 1 Tryz.underlying48 hi0 hz0 hz1 hz2 hzi (by decide) top.hA top.hc top.heads.length (top.heads.map fun k:Nat=>Value.int .u8 (k:Int)) (by rfl) HPO.out (some ⟨w4.heap.size,0,none⟩) 1 1 [.int .u8 7] (by rfl) rfl (Be (Ad w4.drew _)) (by simp[Value.oneCell']) HFP.out.1 HFP.out.2.1 HFP.out.2.2 ?_;intro V4 vc4 w5 HO4 HG4 HA4;have t12:=Gn HG4.out HNE.out HCG.out.2.2 (os0.length*5+4);have t1:=t12.1.trans HCG.out.1;have t2:=t12.2.trans HCG.out.2.1;clear t12))
     all_goals
      clear t1 t2;have HPU:=qd (RdM.pushHeads (W1:=w4.drew.alloc (.cells #[.int .u8 7] 5)) (z:=7) HR4.out ⟨fun h=>HDN.out _ h,fun h=>HDN.out _ h⟩ (j:=os0.length) hjl (o:=top) (by simp) rfl (((Below.refl w4.heap.size w4).drew).alloc (Nat.le_refl _) _) rfl rfl (by rw[List.map_append];exact HO4.out) HG4.out HA4.out (by have:=HB4.out.size;omega));generalize (w5.setCell ⟨g,os0.length*5+4,none⟩ (.slice V4 (top.heads.length+1) vc4))=w6 at *;obtain⟨_,_,p2,_,_,_,_,_,pf⟩:=EC (HPU.out.1.box (fun h=>HDN.out _ h));have e5:IntKind.i64.wrap ((s.i:Int)+1)=(s.i:Int)+1:=IntWalk.i64_in _ (by have:=HLE.out.1;omega);clear o4 of4 of;go_wp2_with fail
      have HS7:=qd (HPU.out.1.setI (fun h=>HDN.out _ h) (s.i+1));have hkk:kdW R0.W s.i=4:=by rw[<-Km];omega
      have hCI:=HI.out.head (b:=bt) (rest:=rest) (top':={top with hA:=V4,hc:=vc4,heads:=top.heads++[7]}) HW.out HTP.out.1 HLN.out HK45.out (by rw[hkk];rfl);have HCI:=qd hCI;have HBF:=qd ((HB4.out.trans HPU.out.2.2).trans HS7.out.2.2);have hset:(os0++[top]).set os0.length {top with hA:=V4,hc:=vc4,heads:=top.heads++[7]}=os0++[{top with hA:=V4,hc:=vc4,heads:=top.heads++[7]}]:=by simp
      have HRF:=qd (show RdM D (w6.setCell ⟨H,2,none⟩ (.int .i64 ((s.i+1:Nat):Int))) B _ H (chR R0 b (s.i+1) nA nc ls (some ⟨g,0,none⟩) lc (os0++[{top with hA:=V4,hc:=vc4,heads:=top.heads++[7]}]) cA cc s.calls)from by have h:=HS7.out.1;simp only[chR]at h ⊢;rw[hset]at h;exact h);subst hbb;go_step3
      exact⟨rfl,R0.W.length+1-(s.i+1),by have:=HN.out;have:=HI.out.le;omega,⟨_,nA,nc,ls,_,lc,_,cA,cc,_,HCI,HRF,HBF,qd (by have:=HC.out;show s.calls.length<=s.i+1;omega),qd rfl,E3 _ _ _ _ _ _ _ _ _ _ _ _ _ _ _ _ _ _ _ _ _ _ _ _ _ _ _ _ _ _ _ _ _ _ _ _ _ _ _ _ _ _ _ _ _ _ _ _ _ _ _ _ _ _ _ _ _ _ _ _ _ _ _ _ _ _ _ _ _ _ _ _ _ _ _ _ _ _ _ _ _ _ _ _ _ _ _ _ _ _ _ _ _ _ _ _ _ _ _ _ _ _ _ _ _ _ _ _ _ _ _ _ _ _ _ _ _ _ _ _ _ _ _ _ _ _ _ _ _ _ _ _ _ _ _ _ _ _ _ _ _ _ _ _ _ _ _ _ _ _ _ _ _ _ _ _ _⟩⟩
    ·skip
     go_upto_region 10 with(first
      |(go_at_call 44;(with_reducible refine HWD.out.mono ?_);rintro e w4 ⟨rfl,hb⟩;have HR4:=qd (HR3.out.below hb);have HB4:=qd (HB3.out.trans (hb.mono (show B<=w3.heap.size by have:=HB3.out.size;omega)));clear hb)
      |fail)
     have HH:=qd (show ∀wx,Calls Tryz.prog 45 #[.int .u8 5] wx (fun e w'=>e=.returned (.int .u8 8)/\w'=wx)from fun wx=>MR wx 5 (by decide));obtain⟨⟨o0,o1,o2,o3,o4⟩,of⟩:=HO.out _ _ _ _ _ _ _ HR4.out;obtain⟨i0,hi0,hz0,hz1,hz2⟩:=info_parts Ry;have hzi:(Value.int .u8 0).cells.size=1:=rfl;have HHO:=qd (show OwnF w4 B f2 (.heads os0.length) 5 1 top.hA top.heads.length top.hc (top.heads.map fun k:Nat=>Value.int .u8 (k:Int))from by have h1:=HR4.out (.heads os0.length) (fun h=>HDN.out _ h) hjl;simpa using h1);have HPO:=qd (show(w4.drew.alloc (.cells #[.int .u8 8] 5)).ownsRow B 5 1 (.slice top.hA top.heads.length top.hc) top.heads.length (top.heads.map fun k:Nat=>Value.int .u8 (k:Int))from World.ownsRow.alloc (show w4.drew.ownsRow B 5 1 (.slice top.hA top.heads.length top.hc) top.heads.length (top.heads.map fun k:Nat=>Value.int .u8 (k:Int))from HHO.out.1) _);have hhl:top.heads.length<=200000:=by have h1:=HLE.out.2.2.1;rw[CP]at h1;omega
     have hglt:g<w4.heap.size:=(Aq (HR4.out .list (fun h=>HDN.out _ h)).1 g rfl).2;have HFP:=qd (show top.heads.length+1<=maxLen/\(top.heads.length+1)*1<=140737488355328/\B<=(w4.drew.alloc (.cells #[.int .u8 8] 5)).heap.size from⟨by unfold maxLen;omega,by omega,by have:=HB4.out.size;simp;omega⟩)
     have HNE:=qd (show ¬some g=Ai top.hA from fun e=>by
      have h1:=HHO.out.2 g e.symm;have h2:=(HR4.out .list (fun h=>HDN.out _ h)).2 g rfl;rw[h1]at h2;cases h2)
     have HCG:=qd (show(w4.drew.alloc (.cells #[.int .u8 8] 5)).cell? ⟨g,os0.length*5+4,none⟩=some (.slice top.hA top.heads.length top.hc)/\(w4.drew.alloc (.cells #[.int .u8 8] 5)).frozen? ⟨g,os0.length*5+4,none⟩=false/\g<(w4.drew.alloc (.cells #[.int .u8 8] 5)).heap.size from by
      have h0:=Below.heap_alloc w4.drew (.cells #[.int .u8 8] 5) g hglt;refine⟨?_,?_,by simp;omega⟩
      ·unfold World.cell? at o4 ⊢;simp only[h0];exact o4
      ·have h1:=of (os0.length*5+4);unfold World.frozen? at h1 ⊢;simp only[h0];exact h1)
     have HPN:=qd (show top.heads.length=top.heads.length from rfl);clear o0 o1 o2 o3;have of4:=of (os0.length*5+4)
     go_region_law (first
      |(go_simp;go_at_call 45;refine(HH.out _).mono ?_;rintro e w5 ⟨rfl,rfl⟩)
      |(refine Bm (by rfl) (.tmp 50) (.tmp 53) 48 (by rfl) B 5 i0 (.int .u8 0) 1 1 Tryz.underlying48 hi0 hz0 hz1 hz2 hzi (by decide) top.hA top.hc top.heads.length (top.heads.map fun k:Nat=>Value.int .u8 (k:Int)) (by rfl) HPO.out (some ⟨w4.heap.size,0,none⟩) 1 1 [.int .u8 8] (by rfl) rfl (Be (Ad w4.drew _)) (by simp[Value.oneCell']) HFP.out.1 HFP.out.2.1 HFP.out.2.2 ?_;intro V4 vc4 w5 HO4 HG4 HA4;have t12:=Gn HG4.out HNE.out HCG.out.2.2 (os0.length*5+4);have t1:=t12.1.trans HCG.out.1;have t2:=t12.2.trans HCG.out.2.1;clear t12))
     all_goals
      clear t1 t2;have HPU:=qd (RdM.pushHeads (W1:=w4.drew.alloc (.cells #[.int .u8 8] 5)) (z:=8) HR4.out ⟨fun h=>HDN.out _ h,fun h=>HDN.out _ h⟩ (j:=os0.length) hjl (o:=top) (by simp) rfl (((Below.refl w4.heap.size w4).drew).alloc (Nat.le_refl _) _) rfl rfl (by rw[List.map_append];exact HO4.out) HG4.out HA4.out (by have:=HB4.out.size;omega));generalize (w5.setCell ⟨g,os0.length*5+4,none⟩ (.slice V4 (top.heads.length+1) vc4))=w6 at *;obtain⟨_,_,p2,_,_,_,_,_,pf⟩:=EC (HPU.out.1.box (fun h=>HDN.out _ h));have e5:IntKind.i64.wrap ((s.i:Int)+1)=(s.i:Int)+1:=IntWalk.i64_in _ (by have:=HLE.out.1;omega);clear o4 of4 of;go_wp2_with fail
      have HS7:=qd (HPU.out.1.setI (fun h=>HDN.out _ h) (s.i+1));have hkk:kdW R0.W s.i=5:=by rw[<-Km];omega
      have hCI:=HI.out.head (b:=bt) (rest:=rest) (top':={top with hA:=V4,hc:=vc4,heads:=top.heads++[8]}) HW.out HTP.out.1 HLN.out HK45.out (by rw[hkk];rfl);have HCI:=qd hCI;have HBF:=qd ((HB4.out.trans HPU.out.2.2).trans HS7.out.2.2);have hset:(os0++[top]).set os0.length {top with hA:=V4,hc:=vc4,heads:=top.heads++[8]}=os0++[{top with hA:=V4,hc:=vc4,heads:=top.heads++[8]}]:=by simp
      have HRF:=qd (show RdM D (w6.setCell ⟨H,2,none⟩ (.int .i64 ((s.i+1:Nat):Int))) B _ H (chR R0 b (s.i+1) nA nc ls (some ⟨g,0,none⟩) lc (os0++[{top with hA:=V4,hc:=vc4,heads:=top.heads++[8]}]) cA cc s.calls)from by have h:=HS7.out.1;simp only[chR]at h ⊢;rw[hset]at h;exact h);subst hbb;go_step3
      exact⟨rfl,R0.W.length+1-(s.i+1),by have:=HN.out;have:=HI.out.le;omega,⟨_,nA,nc,ls,_,lc,_,cA,cc,_,HCI,HRF,HBF,qd (by have:=HC.out;show s.calls.length<=s.i+1;omega),qd rfl,E3 _ _ _ _ _ _ _ _ _ _ _ _ _ _ _ _ _ _ _ _ _ _ _ _ _ _ _ _ _ _ _ _ _ _ _ _ _ _ _ _ _ _ _ _ _ _ _ _ _ _ _ _ _ _ _ _ _ _ _ _ _ _ _ _ _ _ _ _ _ _ _ _ _ _ _ _ _ _ _ _ _ _ _ _ _ _ _ _ _ _ _ _ _ _ _ _ _ _ _ _ _ _ _ _ _ _ _ _ _ _ _ _ _ _ _ _ _ _ _ _ _ _ _ _ _ _ _ _ _ _ _ _ _ _ _ _ _ _ _ _ _ _ _ _ _ _ _ _ _ _ _ _ _ _ _ _ _⟩⟩
   by_cases h911:kdW R0.W s.i=9\/kdW R0.W s.i=11
   ·have HBG:=qd (show ∀wx f3,RdM D wx B f3 H (chR R0 b s.i nA nc ls (some ⟨g,0,none⟩) lc (os0++[top]) cA cc s.calls)->B<=wx.heap.size->Calls Tryz.prog 46 #[.pointer (some ⟨H,0,none⟩)] wx (MS D B H (chR R0 b s.i nA nc ls (some ⟨g,0,none⟩) lc (os0++[top]) cA cc s.calls) wx)from fun wx f3 h1 h2=>Qy D wx B f3 H _ h1 HDN.out h911 HI.out.le hwl (by have:=HLE.out.2.2.2;show(os0++[top]).length<=1000000;omega) h2);have HK9:=qd h911;have j4:((wdW R0.W s.i).kind:Int)≠4:=by omega
    have j5:((wdW R0.W s.i).kind:Int)≠5:=by omega
    by_cases hok:(BF R0.W s.i).1=true
    ·have HOK:=qd hok;clear hok;have j9:((wdW R0.W s.i).kind:Int)=9\/((wdW R0.W s.i).kind:Int)=11:=by omega
     clear hkd h911;rcases j9 with j9|j9
     all_goals
      go_wp2_with (first
       |(go_at_call 44;(with_reducible refine HWD.out.mono ?_);rintro e w4 ⟨rfl,hb⟩;have HR4:=qd (HR3.out.below hb);have HB4:=qd (HB3.out.trans (hb.mono (show B<=w3.heap.size by have:=HB3.out.size;omega)));clear hb)
       |(go_at_call 46;(with_reducible refine(HBG.out w4 f2 HR4.out (by have:=HB4.out.size;omega)).mono ?_);rintro e w5 ⟨h1,h2,h3,_⟩;obtain⟨f5,lA5,lc5,h4⟩:=h3 HOK.out;have HR5:=qd h4;have HB5:=qd (HB4.out.trans h2);rw[show(BF (chR R0 b s.i nA nc ls (some ⟨g,0,none⟩) lc (os0++[top]) cA cc s.calls).W (chR R0 b s.i nA nc ls (some ⟨g,0,none⟩) lc (os0++[top]) cA cc s.calls).i).1=true from HOK.out]at h1;subst h1;clear h2 h3 h4)
       |fail)
      obtain⟨st',hci⟩:=HI.out.open_ok HW.out HLN.out HK9.out HOK.out;have HCI:=qd hci;have hlt:=(Qz HOK.out);subst hbb;go_step3
      exact⟨rfl,R0.W.length+1-(BF R0.W s.i).2.1,by have:=HN.out;have:=HI.out.le;omega,⟨_,nA,nc,ls,lA5,lc5,_,cA,cc,f5,HCI,HR5,HB5,qd (by have:=HC.out;show s.calls.length<=(BF R0.W s.i).2.1;omega),qd rfl,E3 _ _ _ _ _ _ _ _ _ _ _ _ _ _ _ _ _ _ _ _ _ _ _ _ _ _ _ _ _ _ _ _ _ _ _ _ _ _ _ _ _ _ _ _ _ _ _ _ _ _ _ _ _ _ _ _ _ _ _ _ _ _ _ _ _ _ _ _ _ _ _ _ _ _ _ _ _ _ _ _ _ _ _ _ _ _ _ _ _ _ _ _ _ _ _ _ _ _ _ _ _ _ _ _ _ _ _ _ _ _ _ _ _ _ _ _ _ _ _ _ _ _ _ _ _ _ _ _ _ _ _ _ _ _ _ _ _ _ _ _ _ _ _ _ _ _ _ _ _ _ _ _ _ _ _ _ _⟩⟩
    ·have HOK:=qd (show(BF R0.W s.i).1=false from by simpa using hok);clear hok;have j9:((wdW R0.W s.i).kind:Int)=9\/((wdW R0.W s.i).kind:Int)=11:=by omega
     clear hkd h911;rcases j9 with j9|j9
     all_goals
      go_upto_region 15 with(first
       |(go_at_call 44;(with_reducible refine HWD.out.mono ?_);rintro e w4 ⟨rfl,hb⟩;have HR4:=qd (HR3.out.below hb);have HB4:=qd (HB3.out.trans (hb.mono (show B<=w3.heap.size by have:=HB3.out.size;omega)));clear hb)
       |(go_at_call 46;(with_reducible refine(HBG.out w4 f2 HR4.out (by have:=HB4.out.size;omega)).mono ?_);rintro e w5 ⟨h1,h2,_,h3⟩;obtain⟨f5,h4⟩:=h3 HOK.out;have HR5:=qd h4;have HB5:=qd (HB4.out.trans h2);rw[show(BF (chR R0 b s.i nA nc ls (some ⟨g,0,none⟩) lc (os0++[top]) cA cc s.calls).W (chR R0 b s.i nA nc ls (some ⟨g,0,none⟩) lc (os0++[top]) cA cc s.calls).i).1=false from HOK.out]at h1;subst h1;clear h2 h3 h4)
       |fail)
      have HGO:=qd (HI.out.open_no HLN.out HK9.out HOK.out);obtain⟨q0,q1,_,qf⟩:=Bd (HR5.out .out (fun h=>HDN.out _ h) (b,DW) (by simp)).1;subst hbb;go_wp2_with fail
      have hz:((w5.setCell ⟨w.heap.size,0,none⟩ (.slice none 0 0)).setCell ⟨w.heap.size,1,none⟩ (.int .i64 0)).heap[w.heap.size]?=some (.cells #[.slice none 0 0,.int .i64 0] 24 (0,0)):=by simpa using As (i:=1) (As (i:=0) (HR5.out .out (fun h=>HDN.out _ h) (w.heap.size,DW) (by simp)).1 (.slice none 0 0)) (.int .i64 0)
      have HXR:=qd (HRET.out _ _ _ _ _ _ _ _ _ _ _ _ (HR5.out.mono (fun o ho=>(HDN.out o ho).elim)) HB5.out HGO.out);clear q0 q1 qf;generalize ((w5.setCell ⟨w.heap.size,0,none⟩ (.slice none 0 0)).setCell ⟨w.heap.size,1,none⟩ (.int .i64 0))=wz at *;obtain⟨q0,q1,_,_⟩:=Bd hz;simp only[Exit.jump];exact bodyPost_ret (v:=.tuple #[.agg #[.slice none 0 0,.int .i64 0],.bool false]) (by simp[results,Tryz.results25,go_sem,q0,q1]) rfl HXR.out
   have j4:((wdW R0.W s.i).kind:Int)≠4:=by omega
   have j5:((wdW R0.W s.i).kind:Int)≠5:=by omega
   have j9:((wdW R0.W s.i).kind:Int)≠9:=by omega
   have j11:((wdW R0.W s.i).kind:Int)≠11:=by omega
   have HPL:=qd (show Plain R0.W s.i from⟨HLN.out,by omega,by omega,by omega,by omega⟩);clear hkd h45 h911
   go_upto_region 16 with(first
    |(go_at_call 44;(with_reducible refine HWD.out.mono ?_);rintro e w4 ⟨rfl,hb⟩;have HR4:=qd (HR3.out.below hb);have HB4:=qd (HB3.out.trans (hb.mono (show B<=w3.heap.size by have:=HB3.out.size;omega)));clear hb)
    |fail)
   obtain⟨⟨o0,o1,o2,o3,o4⟩,of⟩:=HO.out _ _ _ _ _ _ _ HR4.out;by_cases hh:top.heads=[]
   ·have HTH:=qd hh;have hl0:¬(0:Int)<(top.heads.length:Int):=by simp[hh]
    clear hh;go_upto_region 18 with(fail)
    obtain⟨z5,hz5⟩:∃z,(Cd (A8 ls) F9 top.parts).2=z:=⟨_,rfl⟩;have HZ5:=qd hz5;clear hz5
    have hop:top.ways.length+top.parts.length<=200000:=by
     have h1:=HI.out.fine.opens_le;rw[Cv]at h1;simp only[List.length_append,A8,List.length_map]at h1;have:=HLE.out.2.2.1;omega
    have hD1:∀o,(D o\/o=.parts os0.length)->o=.parts os0.length:=fun o h=>h.elim (fun h=>(HDN.out _ h).elim) id
    have HD1:=qd hD1;clear hD1;have HPK:=qd (show OwnF w4 B f2 (.parts os0.length) 3 1 top.pA top.parts.length top.pc (Az.all top.parts)from by have h1:=HR4.out (.parts os0.length) (fun h=>HDN.out _ h) hjl;simpa using h1)
    have HJ:=qd (show Calls Tryz.prog 47 #[.pointer (some ⟨H,0,none⟩),.int .u8 4,.slice top.pA top.parts.length top.pc] w4.drew (fun e w'=>e=.returned (.int .i64 z5)/\ ∃nA' nc' f' ls',RdM (fun o=>D o\/o=.parts os0.length) w' B f' H (chR R0 b s.i nA' nc' ls' (some ⟨g,0,none⟩) lc (os0++[top]) cA cc s.calls)/\A8 ls'=(Cd (A8 ls) F9 top.parts).1/\Below B w4 w')from by
     have hbd:Below w4.heap.size w4 w4.drew:=(Below.refl w4.heap.size w4).drew;have h0:=(HR4.out.retag (.parts os0.length) .kids).below hbd;have h1:=MN (fun o=>D o\/o=.parts os0.length) w4.drew B _ H _ 4 top.pA top.pc top.parts h0 ⟨fun h=>(by cases HD1.out _ h),fun h=>(by cases HD1.out _ h),fun h=>(by cases HD1.out _ h)⟩ ((HPK.out.retag .kids).below hbd) (by decide) (by omega) (by show ls.length<=_;have:=HLE.out.2.2.1;omega) (by have:=HB4.out.size;show B<=w4.heap.size;omega);refine h1.mono fun e w' hp=> ?_
     obtain⟨nA',nc',f',ls',k0,k1,k2,_,k4⟩:=hp;exact⟨by rw[k0,<-HZ5.out];rfl,nA',nc',f',ls',k1,k2,(hbd.mono (show B<=w4.heap.size by have:=HB4.out.size;omega)).trans k4⟩)
    have HO1:=qd (show ∀(Dx:Ow->Prop) wx f' i' nA' nc' ls' ox,¬Dx .list->RdM Dx wx B f' H (chR R0 b i' nA' nc' ls' (some ⟨g,0,none⟩) lc (os0++[ox]) cA cc s.calls)->(wx.cell? ⟨g,os0.length*5,none⟩=some (.int .u8 (ox.fin:Int))/\wx.cell? ⟨g,os0.length*5+1,none⟩=some (.string ⟨ox.name.toArray⟩)/\wx.cell? ⟨g,os0.length*5+2,none⟩=some (.slice ox.wA ox.ways.length ox.wc)/\wx.cell? ⟨g,os0.length*5+3,none⟩=some (.slice ox.pA ox.parts.length ox.pc)/\wx.cell? ⟨g,os0.length*5+4,none⟩=some (.slice ox.hA ox.heads.length ox.hc))/\(∀i,wx.frozen? ⟨g,i,none⟩=false)/\g<wx.heap.size from fun Dx wx f' i' nA' nc' ls' ox hdx hr=>by
     have hjx:os0.length<(os0++[ox]).length:=by simp
     obtain⟨g',hg',hgl',hc,hf⟩:=hr.openAt hdx (j:=os0.length) hjx;have e:(os0++[ox])[os0.length]'hjx=ox:=by simp
     simp only[chR,e]at hg' hc;cases hg';exact⟨hc,hf,hgl'⟩)
    obtain⟨i0,hi0,hz0,hz1,hz2⟩:=info_parts DA;have hzi:(Value.int .i64 0).cells.size=1:=rfl
    have HARM:=qd (show ∀w5 nA' nc' f' ls',RdM (fun o=>D o\/o=.parts os0.length) w5 B f' H (chR R0 b s.i nA' nc' ls' (some ⟨g,0,none⟩) lc (os0++[top]) cA cc s.calls)->Below B w4 w5 ->
      (w5.alloc (.cells #[.int .i64 z5] 3)).ownsRow B 3 1 (.slice top.wA top.ways.length top.wc) top.ways.length (Az.all top.ways)/\(top.ways.length+1<=maxLen/\(top.ways.length+1)*8<=140737488355328/\B<=(w5.alloc (.cells #[.int .i64 z5] 3)).heap.size)/\ ¬some g=Ai top.wA /\
      (w5.alloc (.cells #[.int .i64 z5] 3)).cell? ⟨g,os0.length*5+2,none⟩=some (.slice top.wA top.ways.length top.wc)/\(w5.alloc (.cells #[.int .i64 z5] 3)).frozen? ⟨g,os0.length*5+2,none⟩=false/\g<(w5.alloc (.cells #[.int .i64 z5] 3)).heap.size from fun w5 nA' nc' f' ls' hr hb5=>by
     obtain⟨⟨_,_,o2',_,_⟩,of',hg5⟩:=HO1.out _ _ _ _ _ _ _ _ (fun h=>(by cases HD1.out _ h)) hr;have hwo:OwnF w5 B f' (.ways os0.length) 3 1 top.wA top.ways.length top.wc (Az.all top.ways):=by have h1:=hr (.ways os0.length) (fun h=>(by cases HD1.out _ h)) hjl;simpa using h1
     have h0:=Below.heap_alloc w5 (.cells #[.int .i64 z5] 3) g hg5;refine⟨World.ownsRow.alloc hwo.1 _,⟨by unfold maxLen;omega,by omega,by have:=hb5.size;have:=HB4.out.size;simp;omega⟩,fun e=> ?_,?_,?_,by simp;omega⟩
     ·have h1:=hwo.2 g e.symm;have h2:=(hr .list (fun h=>(by cases HD1.out _ h))).2 g rfl;rw[h1]at h2;cases h2
     ·unfold World.cell? at o2' ⊢;simp only[h0];exact o2'
     ·have h1:=of' (os0.length*5+2);unfold World.frozen? at h1 ⊢;simp only[h0];exact h1)
    clear o0 o1 o4;have of2:=of (os0.length*5+2);have of3:=of (os0.length*5+3);go_cut []from 43 to 92 (fun wx=>∃(V4:Option Addr) (vc4:Nat) (nA5:Option Addr) (nc5:Nat) (f6:Nat->Ow) (ls5:List Ln),Hid (RdM (fun o=>D o\/o=.parts os0.length) wx B f6 H (chR R0 b s.i nA5 nc5 ls5 (some ⟨g,0,none⟩) lc (os0++[{top with wA:=V4,wc:=vc4,ways:=top.ways++[z5]}]) cA cc s.calls))/\Hid (A8 ls5=(Cd (A8 ls) F9 top.parts).1)/\Hid (Below B w wx))
    case first=>
     go_region_law (first
      |(go_simp;go_at_call 47;(with_reducible refine HJ.out.mono ?_);rintro e w5 ⟨rfl,nA5,nc5,f5,ls5,h1,h2,h3⟩;obtain⟨⟨_,_,r2,r3,_⟩,rf,rg⟩:=HO1.out _ _ _ _ _ _ _ _ (fun h=>(by cases HD1.out _ h)) h1;have rf2:=rf (os0.length*5+2);have rf3:=rf (os0.length*5+3);clear rf;have HAR:=qd (HARM.out _ _ _ _ _ h1 h3);have HR5:=qd h1;have HL5:=qd h2;have HB5:=qd h3;clear h1 h2 h3)
      |(refine Bm (by rfl) (.tmp 82) (.tmp 89) 40 (by rfl) B 3 i0 (.int .i64 0) 1 8 Tryz.underlying40 hi0 hz0 hz1 hz2 hzi (by decide) top.wA top.wc top.ways.length (Az.all top.ways) (by rfl) HAR.out.1 (some ⟨w5.heap.size,0,none⟩) 1 1 [.int .i64 z5] (by rfl) rfl (Be (Ad w5 _)) (by simp[Value.oneCell']) HAR.out.2.1.1 HAR.out.2.1.2.1 HAR.out.2.1.2.2 ?_;intro V4 vc4 w6 HO4 HG4 HA4;have t12:=Gn HG4.out HAR.out.2.2.1 HAR.out.2.2.2.2.2 (os0.length*5+2);have t1:=t12.1.trans HAR.out.2.2.2.1;have t2:=t12.2.trans HAR.out.2.2.2.2.1;clear t12))
     all_goals
      clear t1 t2;have HPU:=qd (RdM.pushWays (W1:=w5.alloc (.cells #[.int .i64 z5] 3)) (z:=z5) HR5.out ⟨fun h=>(by cases HD1.out _ h),fun h=>(by cases HD1.out _ h)⟩ (j:=os0.length) hjl (o:=top) (by simp) rfl (bx1 w5 _) rfl rfl (by rw[Az.all_append];exact HO4.out) HG4.out HA4.out (by have:=HB4.out.size;have:=HB5.out.size;omega));have hset:(os0++[top]).set os0.length {top with wA:=V4,wc:=vc4,ways:=top.ways++[z5]}=os0++[{top with wA:=V4,wc:=vc4,ways:=top.ways++[z5]}]:=by simp
      obtain⟨f6,hr6⟩:∃f6,RdM (fun o=>D o\/o=.parts os0.length) (w6.setCell ⟨g,os0.length*5+2,none⟩ (.slice V4 (top.ways.length+1) vc4)) B f6 H (chR R0 b s.i nA5 nc5 ls5 (some ⟨g,0,none⟩) lc (os0++[{top with wA:=V4,wc:=vc4,ways:=top.ways++[z5]}]) cA cc s.calls):=⟨_,by have h:=HPU.out.1;simp only[chR]at h ⊢;rw[hset]at h;exact h⟩;have HR6:=qd hr6;clear hr6 hset;have HB6:=qd ((HB4.out.trans HB5.out).trans HPU.out.2.2);clear HPU HO4 HG4 HA4 HAR HARM HJ;generalize (w6.setCell ⟨g,os0.length*5+2,none⟩ (.slice V4 (top.ways.length+1) vc4))=W6 at *
      (try go_wp2_with fail)
      go_meet;exact⟨V4,vc4,nA5,nc5,f6,ls5,HR6,HL5,HB6⟩
    case rest=>
     obtain⟨V4,vc4,nA5,nc5,f6,ls5,HR6,HL5,HB6⟩:=hcut;clear HARM HJ o2 o3 of2 of3;obtain⟨bw,restw,hway⟩:=HI.out.way HPL.out HTH.out HL5.out;rw[HZ5.out]at hway;have HWY:=qd hway;clear hway;obtain⟨⟨o0,o1,o2,o3,o4⟩,of,og⟩:=HO1.out (fun o=>D o\/o=.parts os0.length) _ _ _ _ _ _ _ (fun h=>(by cases HD1.out _ h)) HR6.out;have of3:=of (os0.length*5+3);clear of o0 o1 o2 o4;go_upto_region 20 with(fail)
     have HDP:=qd (HR6.out.dropParts (fun h=>HDN.out _ h) rfl rfl);obtain⟨top7,ht7⟩:∃t:Ol,t=⟨top.fin,top.name,V4,vc4,top.ways++[z5],none,0,[],top.hA,top.hc,top.heads⟩:=⟨_,rfl⟩;have HT7:=qd (show top7.ob={top.ob with ways:=top.ways++[z5],parts:=[]}/\top7.fin=top.fin/\top7.name=top.name/\top7.ways=top.ways++[z5]/\top7.heads=top.heads from by rw[ht7];exact⟨rfl,rfl,rfl,rfl,rfl⟩);have HR7:=qd (show RdM D (wc.setCell ⟨g,os0.length*5+3,none⟩ (.slice none 0 0)) B f6 H (chR R0 b s.i nA5 nc5 ls5 (some ⟨g,0,none⟩) lc (os0++[top7]) cA cc s.calls)from by rw[ht7];exact HDP.out.1);have HB7:=qd (HB6.out.trans HDP.out.2);clear ht7 HDP HR6 o3 of3;generalize (wc.setCell ⟨g,os0.length*5+3,none⟩ (.slice none 0 0))=W7 at *;have HAC:=qd (show Calls Tryz.prog 48 #[.pointer (some ⟨H,0,none⟩),.int .u8 3] W7 (Da D B f6 H (chR R0 b s.i nA5 nc5 ls5 (some ⟨g,0,none⟩) lc (os0++[top7]) cA cc s.calls) 3 W7)from En D W7 B f6 H _ 3 HR7.out ⟨fun h=>HDN.out _ h,fun h=>HDN.out _ h⟩ (by show s.i<=65536;exact HLE.out.1) (by have:=HB7.out.size;omega));unfold Da at HAC;by_cases hk3:kdW R0.W s.i=3
     ·have HK3:=qd hk3;clear hk3
      go_wp2_with (first
       |(go_at_call 48;(with_reducible refine HAC.out.mono ?_);rintro e w8 ⟨h1,_,_,h3⟩;obtain⟨rfl,h2⟩:=h1 HK3.out;have HR8:=qd h2;have HB8:=qd (HB7.out.trans h3);clear h1 h2 h3)
       |fail)
      have HCI:=qd (HWY.out.slash (top':=top7) HW.out HK3.out HT7.out.1);subst hbb;go_step3
      exact⟨rfl,R0.W.length+1-(s.i+1),by have:=HN.out;have:=HI.out.le;omega,⟨_,nA5,nc5,ls5,_,lc,_,cA,cc,_,HCI,HR8,HB8,qd (by have:=HC.out;show s.calls.length<=s.i+1;omega),qd rfl,E3 _ _ _ _ _ _ _ _ _ _ _ _ _ _ _ _ _ _ _ _ _ _ _ _ _ _ _ _ _ _ _ _ _ _ _ _ _ _ _ _ _ _ _ _ _ _ _ _ _ _ _ _ _ _ _ _ _ _ _ _ _ _ _ _ _ _ _ _ _ _ _ _ _ _ _ _ _ _ _ _ _ _ _ _ _ _ _ _ _ _ _ _ _ _ _ _ _ _ _ _ _ _ _ _ _ _ _ _ _ _ _ _ _ _ _ _ _ _ _ _ _ _ _ _ _ _ _ _ _ _ _ _ _ _ _ _ _ _ _ _ _ _ _ _ _ _ _ _ _ _ _ _ _ _ _ _ _⟩⟩
     ·have HK3:=qd hk3;clear hk3
      go_upto_region 21 with(first
       |(go_at_call 48;(with_reducible refine HAC.out.mono ?_);rintro e w8 ⟨_,h1,_,h3⟩;obtain⟨rfl,h2⟩:=h1 HK3.out;have HR8:=qd h2;have HB8:=qd (HB7.out.trans h3);clear h1 h2 h3)
       |fail)
      obtain⟨⟨o0,o1,o2,o3,o4⟩,of,og⟩:=HO1.out _ _ _ _ _ _ _ _ (fun h=>HDN.out _ h) HR8.out;clear o0 o1 o3 o4 of;obtain⟨z6,hz6⟩:∃z,(Cd (A8 ls5) CT (top.ways++[z5])).2=z:=⟨_,rfl⟩;have HZ6:=qd hz6;clear hz6;have HD2:=qd (show ∀o,(D o\/o=.ways os0.length)->o=.ways os0.length from fun o h=>h.elim (fun h=>(HDN.out _ h).elim) id)
      have HJ2:=qd (show Calls Tryz.prog 47 #[.pointer (some ⟨H,0,none⟩),.int .u8 5,.slice top7.wA top7.ways.length top7.wc] w8 (fun e w'=>e=.returned (.int .i64 z6)/\ ∃nA' nc' f' ls',RdM (fun o=>D o\/o=.ways os0.length) w' B f' H (chR R0 b s.i nA' nc' ls' (some ⟨g,0,none⟩) lc (os0++[top7]) cA cc s.calls)/\A8 ls'=(Cd (A8 ls5) CT (top.ways++[z5])).1/\Below B w8 w')from by
       have hjx:os0.length<(os0++[top7]).length:=by simp
       have hwk:OwnF w8 B f6 (.ways os0.length) 3 1 top7.wA top7.ways.length top7.wc (Az.all top7.ways):=by have h1:=HR8.out (.ways os0.length) (fun h=>HDN.out _ h) hjx;simpa using h1
       have h0:=HR8.out.retag (.ways os0.length) .kids;have h1:=MN (fun o=>D o\/o=.ways os0.length) w8 B _ H _ 5 top7.wA top7.wc top7.ways h0 ⟨fun h=>(by cases HD2.out _ h),fun h=>(by cases HD2.out _ h),fun h=>(by cases HD2.out _ h)⟩ (hwk.retag .kids) (by decide) (by rw[HT7.out.2.2.2.1];simp;omega) (by show ls5.length<=_;have h1:=HWY.out.len;have h2:=HLE.out.2.2.1;omega) (by have:=HB8.out.size;omega);refine h1.mono fun e w' hp=> ?_
       obtain⟨nA',nc',f',ls',k0,k1,k2,_,k4⟩:=hp;rw[HT7.out.2.2.2.1]at k0 k2;exact⟨by rw[k0,<-HZ6.out];rfl,nA',nc',f',ls',k1,k2,k4⟩)
      go_upto_region 22 with(first
       |(go_at_call 47;(with_reducible refine HJ2.out.mono ?_);rintro e w9 ⟨rfl,nA9,nc9,f9,ls9,h1,h2,h3⟩;have HR9:=qd h1;have HL9:=qd h2;have HB9:=qd (HB8.out.trans h3);clear h1 h2 h3)
       |fail)
      have hei:=HWY.out.ends HK3.out HL9.out;rw[HZ6.out]at hei;have HEI:=qd hei;clear hei o2;have HLL:=qd (show ls9.length<=300000 from by have h1:=HEI.out.num;have h2:=HLE.out.1;omega);obtain⟨⟨o0,o1,o2,o3,o4⟩,of,og⟩:=HO1.out (fun o=>D o\/o=.ways os0.length) _ _ _ _ _ _ _ (fun h=>(by cases HD2.out _ h)) HR9.out;clear o1 o2 o3 o4 of;by_cases hf0:top.fin=0
      ·rw[HT7.out.2.1,hf0]at o0;have HF0:=qd hf0;clear hf0;go_upto_region 23 with(fail)
       obtain⟨_,_,_,p3,_,_,_,_,pf⟩:=EC (HR9.out.box (fun h=>(by cases HD2.out _ h)));have HDO:=qd (HEI.out.done HF0.out);obtain⟨tt,htt⟩:∃t,C4 CT (CF bw).ways=t:=⟨_,rfl⟩;rw[htt]at HDO
       have HMK:=qd (show Calls Tryz.prog 8 #[.agg #[.slice nA9 ls9.length nc9,.int .i64 z6]] w9 (fun e w'=>∃vA vc vls vr,e=.returned (.tuple #[.agg #[.slice vA vls.length vc,.int .i64 vr],.bool true])/\(⟨vA,vc,vls,vr⟩:Lt).tr=DC (Bo tt)/\vls.length<=300000/\TreeOwn w' (w9.heap.size <= ·) ⟨vA,vc,vls,vr⟩/\Below w9.heap.size w9 w')from by
        refine(Oi nA9 nc9 ls9 z6 (fun _=>True) w9 (HR9.out.arena ⟨fun h=>(by cases HD2.out _ h),fun h=>(by cases HD2.out _ h)⟩) (by have:=HLL.out;omega) (HCT.out w9 HB9.out)).mono fun e w' hp=> ?_
        obtain⟨⟨vA,vc,vls,vr⟩,h1,h2,h3,h4⟩:=hp.1 (HDO.out.2.1.right);have hden:=US HDO.out.2.1 HEI.out.rep;have hsz:=Nat.le_trans (Sh _) (XP ((AM _).1 HDO.out.2.1.right));have hl2:=congrArg (fun t:Tr=>t.nodes.length) h2;refine⟨vA,vc,vls,vr,h1,?_,?_,h3,h4⟩
        ·rw[h2];rw[htt]at hden;show DC (Bo (den (A8 ls9) z6.toNat))=_;rw[hden]
        ·have e1:vls.length=G4 (Bo (den (A8 ls9) z6.toNat)):=by
          have e2:(List.map Ln.nd vls).length=(BJ (Bo (den (List.map Ln.nd ls9) z6.toNat))).length:=hl2;rw[List.length_map]at e2;exact e2
         have e3:(A8 ls9).length=ls9.length:=by simp[A8]
         have h5:G4 (Bo (den (A8 ls9) z6.toNat))<=(A8 ls9).length:=hsz;have:=HLL.out;omega)
       go_wp2_with (first
        |(go_at_call 8;(with_reducible refine HMK.out.mono ?_);rintro e w10 ⟨vA,vc,vls,vr,rfl,h1,h0,h2,h3⟩;have HV:=qd h1;have HVL:=qd h0;have HVO:=qd h2;have HB10:=qd h3;clear h0 h1 h2 h3;obtain⟨q0,q1,_,qf⟩:=Bd ((HR9.out.below HB10.out) .out (fun h=>(by cases HD2.out _ h)) (b,DW) (by simp)).1)
        |fail)
       have hz:((w10.setCell ⟨b,0,none⟩ (.slice vA vls.length vc)).setCell ⟨b,1,none⟩ (.int .i64 vr)).heap[b]?=some (.cells #[.slice vA vls.length vc,.int .i64 vr] 24 (0,0)):=by simpa using As (i:=1) (As (i:=0) ((HR9.out.below HB10.out) .out (fun h=>(by cases HD2.out _ h)) (b,DW) (by simp)).1 (.slice vA vls.length vc)) (.int .i64 vr)
       have HXR:=qd (show Dc B H R0 ⟨R0.i,[DS],C0⟩ w (.returned (.tuple #[.agg #[.slice vA vls.length vc,.int .i64 vr],.bool true])) ((w10.setCell ⟨b,0,none⟩ (.slice vA vls.length vc)).setCell ⟨b,1,none⟩ (.int .i64 vr))from by
        have hg:=HDO.out.1;obtain⟨f10,hr10,hv10⟩:=HR9.out.made HB10.out HVO.out (by have:=HB9.out.size;omega) (.body R0.ds.length);have hfb:=(hr10 .out (fun h=>(by cases HD2.out _ h)) (b,DW) (by simp)).2;have hkb:∀k,k≠b->((w10.setCell ⟨b,0,none⟩ (.slice vA vls.length vc)).setCell ⟨b,1,none⟩ (.int .i64 vr)).heap[k]?=w10.heap[k]? :=fun k hk=>(Below.heap_setCell _ ⟨b,1,none⟩ _ k hk).trans (Below.heap_setCell _ ⟨b,0,none⟩ _ k hk)
        refine⟨fun j t C e=> ?_,fun j C e=>by rw[hg]at e;cases e⟩;rw[hg]at e;cases e;have hlg:=hr10.letgo (R:={chR R0 b s.i nA9 nc9 ls9 (some ⟨g,0,none⟩) lc (os0++[top7]) cA cc s.calls with keep:=R0.keep}) HKN.out (fun h=>(by cases HD2.out _ h)) (by simp) hkb;rw[hbb];refine⟨⟨vA,vc,vls,vr⟩,nA9,nc9,ls9,some ⟨g,0,none⟩,lc,os0++[top7],cA,cc,f10,rfl,HV.out,HVL.out,hv10.keep (X:=fun o=>o=.out) ⟨by simp,fun k _ hn=>hkb k (fun e=>hn (by rw[e];exact hfb)),fun _ _=>rfl⟩ (by simp),hlg.mono (fun o ho=>by rw[HD2.out _ ho];trivial),?_⟩;exact((HB9.out.trans (HB10.out.mono (by have:=HB9.out.size;omega))).setCell (p:=⟨b,0,none⟩) (by omega) _).setCell (p:=⟨b,1,none⟩) (by omega) _)
       clear q0 q1 qf;generalize ((w10.setCell ⟨b,0,none⟩ (.slice vA vls.length vc)).setCell ⟨b,1,none⟩ (.int .i64 vr))=wz at *;obtain⟨q0,q1,_,_⟩:=Bd hz;simp only[Exit.jump];exact bodyPost_ret (v:=.tuple #[.agg #[.slice vA vls.length vc,.int .i64 vr],.bool true]) (by simp[results,Tryz.results25,go_sem,q0,q1]) rfl HXR.out
      ·have jf:((top7.fin:Int)==0)=false:=by rw[HT7.out.2.1];simp;omega
       have HF0:=qd hf0;clear hf0;go_upto_region 24 with(fail)
       have HAC2:=qd (En (fun o=>D o\/o=.ways os0.length) w9 B f9 H _ top7.fin HR9.out ⟨fun h=>(by cases HD2.out _ h),fun h=>(by cases HD2.out _ h)⟩ (by show s.i<=65536;exact HLE.out.1) (by have:=HB9.out.size;omega));unfold Da at HAC2;by_cases hkf:kdW R0.W s.i=top.fin
       ·have HKF:=qd hkf;clear hkf jf
        go_upto_region 26 with(first
         |(go_at_call 48;(with_reducible refine HAC2.out.mono ?_);rintro e w10 ⟨h1,_,_,h3⟩;obtain⟨rfl,h2⟩:=h1 (HKF.out.trans HT7.out.2.1.symm);have HR10:=qd h2;have HB10:=qd (HB9.out.trans h3);clear h1 h2 h3)
         |fail)
        clear o0;obtain⟨⟨o0,o1,o2,o3,o4⟩,of,og⟩:=HO1.out (fun o=>D o\/o=.ways os0.length) _ _ _ _ _ _ _ (fun h=>(by cases HD2.out _ h)) HR10.out;clear o2 o3 o4 of;rcases(show top.fin=10\/top.fin=12/\Cb top.name=true from HEI.out.fins HF0.out)with h12|h12
        ·rw[HT7.out.2.1,h12]at o0;have H12:=qd h12;clear h12 o1;go_upto_region 28 with(fail)
         obtain⟨os1,upo,up,rest',hos,hrest,hsh⟩:=HEI.out.shut HF0.out HKF.out (lsC:=ls9) (z':=z6) (.inl ⟨H12.out,rfl,rfl⟩);have HOS:=qd hos;have HSH:=qd hsh;clear hos hrest hsh;obtain⟨p0,_,_,_,p4,_,_,_,pf⟩:=EC (HR10.out.box (fun h=>(by cases HD2.out _ h)));have eol:(os0++[top7]).length=os0.length+1:=by simp
         simp only[chR,eol]at p4
         have hlc:os0.length+1<=lc:=by
          have h1:=(HR10.out .list (fun h=>(by cases HD2.out _ h))).1;have h2:=Gw h1;simp only[chR,eol]at h2;exact h2
         have hol:os0.length<=65537:=by have:=HLE.out.2.2.2;simp at this;omega
         have e1:IntKind.i64.wrap ((os0.length:Int)+1-1)=(os0.length:Int):=by rw[IntWalk.i64_in _ (by omega)];omega
         have i1:(os0.length:Int)<=(lc:Int):=by omega
         have i2:(0:Int)<=(os0.length:Int):=by omega
         have i3:os0.length<=lc:=by omega
         clear eol p0 hlc;have HPP:=qd (HR10.out.pop (D:=D) ⟨fun h=>HDN.out _ h,fun h=>HDN.out _ h⟩ rfl);go_region
         all_goals
          clear p4 pf e1 i1 i2 i3;have HR12:=qd (show RdM D (w10.setCell ⟨H,4,none⟩ (.slice (some ⟨g,0,none⟩) os0.length lc)).drew B f9 H (chR R0 b (s.i+1) nA9 nc9 ls9 (some ⟨g,0,none⟩) lc os0 cA cc s.calls)from HPP.out.1.below ((Below.refl _ _).drew));have HB12:=qd (HB10.out.trans HPP.out.2.drew);generalize (w10.setCell ⟨H,4,none⟩ (.slice (some ⟨g,0,none⟩) os0.length lc)).drew=w12 at *;clear HPP o0;obtain⟨tt,htt⟩:∃t,G3 bw (C4 CT (CF bw).ways)=t:=⟨_,rfl⟩;rw[htt]at HSH;clear htt
          have HPR:=qd (show Calls Tryz.prog 42 #[.pointer (some ⟨H,0,none⟩),.int .i64 z6] w12 (GP D B H (chR R0 b (s.i+1) nA9 nc9 ls9 (some ⟨g,0,none⟩) lc os0 cA cc s.calls) os1 upo tt (BC (C6 (os1++[upo]))) w12)from by
           have hle:=HI.out.fine.opens_le;have h1:=HLE.out.2.2.1;have h2:=HSH.out.num;have h3:=HLE.out.1;have h4:=HSH.out.fine.opens_le;have hl:(A8 ls9).length=(ls9).length:=by simp[A8]
           rw[hl,List.length_cons,Cv]at h4;rw[CP]at h2;have hx:((upo.ways++upo.parts)++BC (C6 os1)).length=upo.ways.length+upo.parts.length+(BC (C6 os1)).length:=by simp only[List.length_append]
           rw[hx]at h4;have h5:=HSH.out.len;exact GQ D w12 B f9 H _ os1 upo z6 tt (BC (C6 (os1++[upo]))) HR12.out HDN.out HOS.out HSH.out.rep HSH.out.fine HW.out (fun k hk=>HSH.out.simO.hd k hk) (FO (by rw[HKF.out];exact HF0.out)) hwl (by show(ls9).length+upo.heads.length<=1000000;omega) (by omega) (by omega) (by have:=HB12.out.size;omega))
          go_wp2_with (first
           |(go_at_call 42;(with_reducible refine HPR.out.mono ?_);rintro e w13 ⟨nA13,nc13,ls13,f13,upo',z13,rfl,h1,h2,h3,h4,h5,h6,h7⟩;have HR13:=qd h1;have HP13:=qd (And.intro h2 (And.intro h3 (And.intro h4 (And.intro h5 h6))));have HB13:=qd (HB12.out.trans h7);clear h1 h2 h3 h4 h5 h6 h7)
           |fail)
          have HCI:=qd (HSH.out.next (upo':=upo') HI.out HW.out HP13.out.2.1 HP13.out.2.2.1 HP13.out.2.2.2.1 HP13.out.1 HP13.out.2.2.2.2);have hge:=(Hq R0.W (R0.W.length-(s.i+1)) (s.i+1) tt).1;subst hbb;go_step3
          exact⟨rfl,R0.W.length+1-(B4 R0.W (R0.W.length-(s.i+1)) (s.i+1) tt).2,by have:=HN.out;have:=HI.out.le;omega,⟨_,nA13,nc13,ls13,_,lc,os1++[upo'],cA,cc,f13,HCI,HR13,HB13,qd (by have:=HC.out;show s.calls.length<=(B4 R0.W (R0.W.length-(s.i+1)) (s.i+1) tt).2;omega),qd rfl,E3 _ _ _ _ _ _ _ _ _ _ _ _ _ _ _ _ _ _ _ _ _ _ _ _ _ _ _ _ _ _ _ _ _ _ _ _ _ _ _ _ _ _ _ _ _ _ _ _ _ _ _ _ _ _ _ _ _ _ _ _ _ _ _ _ _ _ _ _ _ _ _ _ _ _ _ _ _ _ _ _ _ _ _ _ _ _ _ _ _ _ _ _ _ _ _ _ _ _ _ _ _ _ _ _ _ _ _ _ _ _ _ _ _ _ _ _ _ _ _ _ _ _ _ _ _ _ _ _ _ _ _ _ _ _ _ _ _ _ _ _ _ _ _ _ _ _ _ _ _ _ _ _ _ _ _ _ _⟩⟩
        ·rw[HT7.out.2.1,h12.1]at o0;rw[HT7.out.2.2.1]at o1;have H12:=qd h12;clear h12
         have HADD:=qd (show Calls Tryz.prog 43 #[.pointer (some ⟨H,0,none⟩),.agg #[.int .u8 9,.int .u64 0,.int .u64 0,.int .u64 0,.int .u64 0,.string ⟨top.name.toArray⟩,.int .i64 0,.int .i64 0,.slice none 0 0],.slice (some ⟨w10.heap.size,0,none⟩) 1 1] (w10.alloc (.cells #[.int .i64 z6] 3)) (D9 (fun o=>D o\/o=.ways os0.length) B (BD f9 w10.heap.size .kids) H (chR R0 b (s.i+1) nA9 nc9 ls9 (some ⟨g,0,none⟩) lc (os0++[top7]) cA cc s.calls) ⟨{Fh top.name with kids:=[z6]},some ⟨w10.heap.size,0,none⟩,1⟩ (w10.alloc (.cells #[.int .i64 z6] 3)))from
          FT (fun o=>D o\/o=.ways os0.length) _ B _ H _ (Fh top.name) (.slice none 0 0) (some ⟨w10.heap.size,0,none⟩) 1 [z6] (HR10.out.kid _) ⟨fun h=>(by cases HD2.out _ h),fun h=>(by cases HD2.out _ h),fun h=>(by cases HD2.out _ h)⟩ (NC w10 f9 z6 (by have:=HB10.out.size;omega)) (WF H12.out.2 z6) (show ls9.length<=4294967296 by have:=HLL.out;omega) (by have:=HB10.out.size;simp;omega))
         unfold D9 at HADD
         go_upto_region 28 with(first
          |(go_at_call 43;(with_reducible refine HADD.out.mono ?_);rintro e w11 ⟨nA11,nc11,f11,rfl,h1,_,h3⟩;have HR11:=qd h1;have HB11:=qd (HB10.out.trans (((bx1 w10 _).mono (show B<=w10.heap.size by have:=HB10.out.size;omega)).trans h3));clear h1 h3)
          |fail)
         obtain⟨os1,upo,up,rest',hos,hrest,hsh⟩:=HEI.out.shut HF0.out HKF.out (lsC:=(ls9++[(⟨{Fh top.name with kids:=[z6]},some ⟨w10.heap.size,0,none⟩,1⟩:Ln)])) (z':=(ls9.length:Int)) (.inr ⟨H12.out.1,by simp[A8,EI],rfl⟩);have HOS:=qd hos;have HSH:=qd hsh;clear hos hrest hsh;obtain⟨p0,_,_,_,p4,_,_,_,pf⟩:=EC (HR11.out.box (fun h=>(by cases HD2.out _ h)));have eol:(os0++[top7]).length=os0.length+1:=by simp
         simp only[chR,eol]at p4
         have hlc:os0.length+1<=lc:=by
          have h1:=(HR11.out .list (fun h=>(by cases HD2.out _ h))).1;have h2:=Gw h1;simp only[chR,eol]at h2;exact h2
         have hol:os0.length<=65537:=by have:=HLE.out.2.2.2;simp at this;omega
         have e1:IntKind.i64.wrap ((os0.length:Int)+1-1)=(os0.length:Int):=by rw[IntWalk.i64_in _ (by omega)];omega
         have i1:(os0.length:Int)<=(lc:Int):=by omega
         have i2:(0:Int)<=(os0.length:Int):=by omega
         have i3:os0.length<=lc:=by omega
         clear eol p0 hlc;have HPP:=qd (HR11.out.pop (D:=D) ⟨fun h=>HDN.out _ h,fun h=>HDN.out _ h⟩ rfl);go_region
         all_goals
          clear p4 pf e1 i1 i2 i3;have HR12:=qd (show RdM D (w11.setCell ⟨H,4,none⟩ (.slice (some ⟨g,0,none⟩) os0.length lc)).drew B f11 H (chR R0 b (s.i+1) nA11 nc11 (ls9++[(⟨{Fh top.name with kids:=[z6]},some ⟨w10.heap.size,0,none⟩,1⟩:Ln)]) (some ⟨g,0,none⟩) lc os0 cA cc s.calls)from HPP.out.1.below ((Below.refl _ _).drew));have HB12:=qd (HB11.out.trans HPP.out.2.drew);generalize (w11.setCell ⟨H,4,none⟩ (.slice (some ⟨g,0,none⟩) os0.length lc)).drew=w12 at *;clear HPP o0;obtain⟨tt,htt⟩:∃t,G3 bw (C4 CT (CF bw).ways)=t:=⟨_,rfl⟩;rw[htt]at HSH;clear htt
          have HPR:=qd (show Calls Tryz.prog 42 #[.pointer (some ⟨H,0,none⟩),.int .i64 (ls9.length:Int)] w12 (GP D B H (chR R0 b (s.i+1) nA11 nc11 (ls9++[(⟨{Fh top.name with kids:=[z6]},some ⟨w10.heap.size,0,none⟩,1⟩:Ln)]) (some ⟨g,0,none⟩) lc os0 cA cc s.calls) os1 upo tt (BC (C6 (os1++[upo]))) w12)from by
           have hle:=HI.out.fine.opens_le;have h1:=HLE.out.2.2.1;have h2:=HSH.out.num;have h3:=HLE.out.1;have h4:=HSH.out.fine.opens_le;have hl:(A8 (ls9++[(⟨{Fh top.name with kids:=[z6]},some ⟨w10.heap.size,0,none⟩,1⟩:Ln)])).length=((ls9++[(⟨{Fh top.name with kids:=[z6]},some ⟨w10.heap.size,0,none⟩,1⟩:Ln)])).length:=by simp[A8]
           rw[hl,List.length_cons,Cv]at h4;rw[CP]at h2;have hx:((upo.ways++upo.parts)++BC (C6 os1)).length=upo.ways.length+upo.parts.length+(BC (C6 os1)).length:=by simp only[List.length_append]
           rw[hx]at h4;have h5:=HSH.out.len;exact GQ D w12 B f11 H _ os1 upo (ls9.length:Int) tt (BC (C6 (os1++[upo]))) HR12.out HDN.out HOS.out HSH.out.rep HSH.out.fine HW.out (fun k hk=>HSH.out.simO.hd k hk) (FO (by rw[HKF.out];exact HF0.out)) hwl (by show((ls9++[(⟨{Fh top.name with kids:=[z6]},some ⟨w10.heap.size,0,none⟩,1⟩:Ln)])).length+upo.heads.length<=1000000;omega) (by omega) (by omega) (by have:=HB12.out.size;omega))
          go_wp2_with (first
           |(go_at_call 42;(with_reducible refine HPR.out.mono ?_);rintro e w13 ⟨nA13,nc13,ls13,f13,upo',z13,rfl,h1,h2,h3,h4,h5,h6,h7⟩;have HR13:=qd h1;have HP13:=qd (And.intro h2 (And.intro h3 (And.intro h4 (And.intro h5 h6))));have HB13:=qd (HB12.out.trans h7);clear h1 h2 h3 h4 h5 h6 h7)
           |fail)
          have HCI:=qd (HSH.out.next (upo':=upo') HI.out HW.out HP13.out.2.1 HP13.out.2.2.1 HP13.out.2.2.2.1 HP13.out.1 HP13.out.2.2.2.2);have hge:=(Hq R0.W (R0.W.length-(s.i+1)) (s.i+1) tt).1;subst hbb;go_step3
          exact⟨rfl,R0.W.length+1-(B4 R0.W (R0.W.length-(s.i+1)) (s.i+1) tt).2,by have:=HN.out;have:=HI.out.le;omega,⟨_,nA13,nc13,ls13,_,lc,os1++[upo'],cA,cc,f13,HCI,HR13,HB13,qd (by have:=HC.out;show s.calls.length<=(B4 R0.W (R0.W.length-(s.i+1)) (s.i+1) tt).2;omega),qd rfl,E3 _ _ _ _ _ _ _ _ _ _ _ _ _ _ _ _ _ _ _ _ _ _ _ _ _ _ _ _ _ _ _ _ _ _ _ _ _ _ _ _ _ _ _ _ _ _ _ _ _ _ _ _ _ _ _ _ _ _ _ _ _ _ _ _ _ _ _ _ _ _ _ _ _ _ _ _ _ _ _ _ _ _ _ _ _ _ _ _ _ _ _ _ _ _ _ _ _ _ _ _ _ _ _ _ _ _ _ _ _ _ _ _ _ _ _ _ _ _ _ _ _ _ _ _ _ _ _ _ _ _ _ _ _ _ _ _ _ _ _ _ _ _ _ _ _ _ _ _ _ _ _ _ _ _ _ _ _⟩⟩
       ·have HKF:=qd hkf;clear hkf;have HGO:=qd (HEI.out.fail HF0.out HKF.out)
        go_upto_region 25 with(first
         |(go_at_call 48;(with_reducible refine HAC2.out.mono ?_);rintro e w10 ⟨_,h1,_,h3⟩;obtain⟨rfl,h2⟩:=h1 (fun e=>HKF.out (e.trans HT7.out.2.1));have HR10:=qd h2;have HB10:=qd (HB9.out.trans h3);clear h1 h2 h3)
         |fail)
        obtain⟨q0,q1,_,qf⟩:=Bd (HR10.out .out (fun h=>(by cases HD2.out _ h)) (b,DW) (by simp)).1;go_wp2_with fail
        have hz:((w10.setCell ⟨b,0,none⟩ (.slice none 0 0)).setCell ⟨b,1,none⟩ (.int .i64 0)).heap[b]?=some (.cells #[.slice none 0 0,.int .i64 0] 24 (0,0)):=by simpa using As (i:=1) (As (i:=0) (HR10.out .out (fun h=>(by cases HD2.out _ h)) (b,DW) (by simp)).1 (.slice none 0 0)) (.int .i64 0)
        have HXR:=qd (show Dc B H R0 ⟨R0.i,[DS],C0⟩ w (.returned (.tuple #[.agg #[.slice none 0 0,.int .i64 0],.bool false])) ((w10.setCell ⟨b,0,none⟩ (.slice none 0 0)).setCell ⟨b,1,none⟩ (.int .i64 0))from by subst hbb;exact HRET.out _ _ _ _ _ _ _ _ _ _ _ _ (HR10.out.mono (fun o ho=>by rw[HD2.out _ ho];trivial)) HB10.out HGO.out);clear q0 q1 qf;generalize ((w10.setCell ⟨b,0,none⟩ (.slice none 0 0)).setCell ⟨b,1,none⟩ (.int .i64 0))=wz at *;obtain⟨q0,q1,_,_⟩:=Bd hz;simp only[Exit.jump];exact bodyPost_ret (v:=.tuple #[.agg #[.slice none 0 0,.int .i64 0],.bool false]) (by simp[results,Tryz.results25,go_sem,q0,q1]) rfl HXR.out
   ·have HGO:=qd (HI.out.heads_no HPL.out hh);have hlen:0<top.heads.length:=List.length_pos_iff.2 hh;have hlen':(0:Int)<(top.heads.length:Int):=by omega
    clear hh;obtain⟨q0,q1,_,qf⟩:=Bd (HR4.out .out (fun h=>HDN.out _ h) (b,DW) (by simp)).1;subst hbb;go_wp2_with fail
    have hz:((w4.setCell ⟨w.heap.size,0,none⟩ (.slice none 0 0)).setCell ⟨w.heap.size,1,none⟩ (.int .i64 0)).heap[w.heap.size]?=some (.cells #[.slice none 0 0,.int .i64 0] 24 (0,0)):=by simpa using As (i:=1) (As (i:=0) (HR4.out .out (fun h=>HDN.out _ h) (w.heap.size,DW) (by simp)).1 (.slice none 0 0)) (.int .i64 0)
    have HXR:=qd (HRET.out _ _ _ _ _ _ _ _ _ _ _ _ (HR4.out.mono (fun o ho=>(HDN.out o ho).elim)) HB4.out HGO.out);clear q0 q1 qf;generalize ((w4.setCell ⟨w.heap.size,0,none⟩ (.slice none 0 0)).setCell ⟨w.heap.size,1,none⟩ (.int .i64 0))=wz at *;obtain⟨q0,q1,_,_⟩:=Bd hz;simp only[Exit.jump];exact bodyPost_ret (v:=.tuple #[.agg #[.slice none 0 0,.int .i64 0],.bool false]) (by simp[results,Tryz.results25,go_sem,q0,q1]) rfl HXR.out
end Go.Proofs.YtdnochjajoiooaaGreatDoor
