/- Copies of elements of several cells; plain: a tree of a node and its kids; rows of trees. -/
import Derived.Test.YtpfokabdpmjobaaGreatDoorDw
namespace Go.Proofs.YtpfokabdpmjobaaGreatDoor
open Go.RowKit
set_option linter.unusedSimpArgs false
set_option linter.unusedVariables false
theorem run_copy_rowN {P:Program} (w:World) (dT sT ty elem:TypeId) (m g o dLen dCap:Nat) (a:Addr) (sLen sCap:Nat) (cur:Array Value) (t:TypeId) (cs:List Value)
  (hu:P.underlying dT=some (.slice elem)) (hs:(P.info? elem).map (·.size)=some m)
  (hg:w.heap[g]?=some (.cells cur t (0,0))) (hn:cs.length=Nat.min sLen dLen*m)
  (hsrc:∀j v,cs[j]?=some v→w.cell? (a.add j)=some v) (hfit:o+cs.length≤cur.size) (h1:∀v∈cs,v.oneCell'=true):
  (Builtin.copy_ #[dT,sT] ty #[.slice (some ⟨g,o,none⟩) dLen dCap,.slice (some a) sLen sCap]).run P w =
   .ok (goInt (Nat.min sLen dLen)) (w.setRow g (cur.toList.take o++cs++cur.toList.drop (o+cs.length)).toArray):=by
 have hl:=run_loadCells_list (P:=P) w a cs hsrc
 have hst:=run_storeCells_at P g o t cs 0 cur w hg (by simpa using hfit) h1
 cases hq:P.info? elem with
 |none=>simp[hq]at hs
 |some i=>
  have hi:i.size=m:=by simpa[hq]using hs
  rw[hn]at hl
  simp[Builtin.copy_,run_underlying hu,Builtin.lenOf,Builtin.firstCells,sizeOf,typeInfo,hq,hi,hl,hst]
theorem wpList_copy_rowN {P:Program} {w:World} {ops:Array Oper} {rest:List Oper} {o:Oper} {a:Act} {Q:Exit→Act→World→Prop} (hgd:o.guard=none) (d s:Operand) (dT sT:TypeId)
  (ho:o.op=.call {callee:=.builtin .copy,args:= #[d,s],argTypes:= #[dT,sT]}) (elem:TypeId) (m:Nat) (hu:P.underlying dT=some (.slice elem)) (hsz:(P.info? elem).map (·.size)=some m)
  (dp:Option Addr) (dLen dCap:Nat) (sp:Option Addr) (sLen sCap:Nat) (hd:a.eval d=.slice dp dLen dCap) (hs:a.eval s=.slice sp sLen sCap)
  (g:Nat) (hdp:dp=some ⟨g,0,none⟩) (cur:List Value) (t:TypeId) (hg:w.heap[g]?=some (.cells cur.toArray t (0,0))) (cs:List Value) (hn:cs.length=Nat.min sLen dLen*m)
  (ad:Addr) (hsp:sp=some ad) (hsrc:∀j v,cs[j]?=some v→w.cell? (ad.add j)=some v) (hfit:cs.length=cur.length) (h1:∀v∈cs,v.oneCell'=true) (B:Nat) (hBg:B≤g)
  (h:∀w',Hid (w'.heap[g]?=some (.cells cs.toArray t (0,0)))→Below B w w'→wpList P ops Q rest (a.put o.dst (goInt (Nat.min sLen dLen))) w'):
  wpList P ops Q (o::rest) a w:=by
 subst hdp hsp
 refine wpList_plain hgd fun K hK=> ?_
 have hrun:=run_copy_rowN (P:=P) w dT sT o.type elem m g 0 dLen dCap ad sLen sCap cur.toArray t cs hu hsz hg hn hsrc (by simp;omega) h1
 unfold Oper.wp
 simp[execOp,ho,resolve,invoke,builtin,hd,hs,hrun,Result.andThen]
 have e:cs++cur.drop cs.length=cs:=by rw[hfit,List.drop_length,List.append_nil]
 rw[e]
 exact hK _ _ (h _ (show _=_ by simpa using setRow_heap w g _ cs.toArray t _ hg) (below_setRow (Below.refl _ _) hBg _))
def moveN (by':Int) (n:Nd):Nd:={n with kids:=n.kids.map (· + by')}
theorem moveN_wf {b:Int} {n:Nd} (h:n.wf):(moveN b n).wf:=by
 obtain⟨h1,h2,h3,h4⟩:=h
 exact⟨h1,h2,by simpa[moveN]using h3,h4⟩
def movedK (b:Int) (kids:List Int) (j:Nat):List Value:=(kids.take j).map (fun z=>Value.int .i64 (z+b))++(kids.drop j).map (Value.int .i64)
theorem movedK_zero (b:Int) (kids:List Int):movedK b kids 0=intL.all kids:=by simp[movedK,intL_all]
theorem movedK_end (b:Int) (n:Nd):movedK b n.kids n.kids.length=intL.all (moveN b n).kids:=by
 simp[movedK,intL_all,moveN]
theorem movedK_at (b:Int) (kids:List Int) (j:Nat) (h:j<kids.length):(movedK b kids j)[j]?=some (.int .i64 kids[j]):=by
 unfold movedK
 rw[List.getElem?_append_right (by simp;omega)]
 simp[Nat.min_eq_left (Nat.le_of_lt h),h]
theorem movedK_set (b:Int) (kids:List Int) (j:Nat) (h:j<kids.length):(movedK b kids j).set j (.int .i64 (kids[j]+b))=movedK b kids (j+1):=by
 unfold movedK
 have hl:((kids.take j).map (fun z=>Value.int .i64 (z+b))).length=j:=by simp;omega
 rw[List.set_append_right _ _ (by omega),hl,Nat.sub_self,List.drop_eq_getElem_cons h,List.take_succ_eq_append_getElem h,List.map_append,List.map_cons,List.set_cons_zero,List.append_assoc]
 rfl
def NodesPost (l:List Nd) (w:World) (e:Ending) (w':World):Prop:=∃v:Lt,e=.returned (.slice v.A v.ls.length v.c)∧v.ls.map Ln.nd=l∧TreeOwn w' (w.heap.size ≤ ·) v∧Below w.heap.size w w'
theorem own_fullN {w:World} {B g n m:Nat} {e:TypeId} {xs:List Value} (h:w.ownsRow B e m (.slice (some ⟨g,0,none⟩) n n) n xs):w.heap[g]?=some (.cells xs.toArray e (0,0)):=by
 have hx:=h.1
 rcases h.2 with⟨hv,_⟩|⟨g',cap,cur,hv,_,hh,_,_,hs,ht⟩
 ·cases hv
 ·cases hv
  rw[List.take_of_length_le (by simp;omega)]at ht
  rw[←ht];simpa using hh
theorem own_of_fullN {w:World} {B g n m:Nat} {e:TypeId} {xs:List Value} (h:w.heap[g]?=some (.cells xs.toArray e (0,0))) (hn:xs.length=n*m) (hB:B≤g) (hm:n≤maxLen):w.ownsRow B e m (.slice (some ⟨g,0,none⟩) n n) n xs:=
 ⟨by omega,.inr ⟨g,n,_,rfl,hB,h,Nat.le_refl _,hm,by simp[hn],by simp[←hn]⟩⟩
theorem all_congr (l:List Ln) (k:Nat) (a b:Ln) (h:ndL.cells a=ndL.cells b):ndL.all (l.set k a)=ndL.all (l.set k b):=by
 unfold Lay.all
 rw[List.flatMap_def,List.flatMap_def,List.map_set,List.map_set,h]
theorem all_moved (l:List Ln) (k:Nat) (hk:k<l.length) (b:Int) (A:Option Addr) (c:Nat):(ndL.all l).set (k*9+8) (.slice A l[k].nd.kids.length c)=ndL.all (l.set k ⟨moveN b l[k].nd,A,c⟩):=by
 rw[all_set8 l k hk]
 exact all_congr l k _ _ (by simp[ndL,moveN])
theorem blk_at9 {w:World} {g:Nat} {ls:List Ln} {T:TypeId} (h:w.heap[g]?=some (.cells (ndL.all ls).toArray T (0,0))) (k:Nat) (hk:k<ls.length):
  w.cell? ⟨g,k*9,none⟩=some (.int .u8 ls[k].nd.kind)∧w.cell? ⟨g,k*9+1,none⟩=some (.int .u64 ls[k].nd.s0)∧w.cell? ⟨g,k*9+2,none⟩=some (.int .u64 ls[k].nd.s1)∧w.cell? ⟨g,k*9+3,none⟩=some (.int .u64 ls[k].nd.s2)∧w.cell? ⟨g,k*9+4,none⟩=some (.int .u64 ls[k].nd.s3) ∧
   w.cell? ⟨g,k*9+5,none⟩=some (.string ls[k].nd.text)∧w.cell? ⟨g,k*9+6,none⟩=some (.int .i64 ls[k].nd.mn)∧w.cell? ⟨g,k*9+7,none⟩=some (.int .i64 ls[k].nd.mx)∧w.cell? ⟨g,k*9+8,none⟩=some (.slice ls[k].A ls[k].nd.kids.length ls[k].c)∧w.frozen? ⟨g,k*9+8,none⟩=false:=by
 have hc:∀j u,j<9→(ndL.cells ls[k])[j]?=some u→w.cell? ⟨g,k*9+j,none⟩=some u:=fun j u hj hu=>(row_cellAt h ((ndL.all_at ls k j hk hj).trans hu)).1
 exact⟨hc 0 _ (by decide) rfl,hc 1 _ (by decide) rfl,hc 2 _ (by decide) rfl,hc 3 _ (by decide) rfl,hc 4 _ (by decide) rfl,hc 5 _ (by decide) rfl,hc 6 _ (by decide) rfl,hc 7 _ (by decide) rfl,hc 8 _ (by decide) rfl,by simp[World.frozen?,h]⟩
def putTs:List Tr→List Nd→List Int→List Nd×List Int
 |[],ar,li=>(ar,li)
 |k::ks,ar,li=>putTs ks (ar++(takenL k.nodes k.root.toNat).map (moveN ar.length)) (li++[((ar++(takenL k.nodes k.root.toNat).map (moveN ar.length)).length:Int)-1])
def ofT (n:Nd) (ks:List Tr):Tr:=⟨(putTs ks [] []).1++[{n with kids:=(putTs ks [] []).2}],((putTs ks [] []).1.length:Int)⟩
def okT (n:Nd) (ks:List Tr):Bool:=fitN n ks.length&&ks.all rightT
theorem takenL_kids {t:Tr} (h:rightP t) (i:Nat) (hi:i<t.nodes.length):∀n∈takenL t.nodes i,n.kids.length≤t.nodes.length∧ ∀z∈n.kids,0≤z∧z≤(t.nodes.length:Int):=fun n hn=>by
 have hpl:=post_length h i hi
 obtain⟨p,hp,rfl⟩:=List.mem_map.1 hn
 have hp2:p<t.nodes.length:=by have:=postN_le (rightP_ahead h) i p hp;omega
 constructor
 ·have h1:=right_kids_len h (i:=p) (n:=t.nodes[p]) (List.getElem?_eq_getElem hp2)
  simp only[placed,List.length_map,ndAt,List.getElem?_eq_getElem hp2,Option.getD_some]
  omega
 ·intro z hz
  simp only[placed,List.mem_map]at hz
  obtain⟨k,_,rfl⟩:=hz
  have:=List.idxOf_le_length (l:=postN t.nodes i) (a:=k.toNat)
  omega
def ttL:Lay Lt where
 size:=2
 cells t:=[.slice t.A t.ls.length t.c,.int .i64 t.root]
 len _:=rfl
 one _ u hu:=by
  simp only[List.mem_cons,List.not_mem_nil,or_false]at hu
  rcases hu with rfl|rfl <;> rfl
 inn w S t:=t.inn w S
 agree h hg:=Lt.inn.agree h hg
 mono h hS:=Lt.inn.mono h hS
theorem ttRow {w:World} {S:Nat→Prop} {A:Option Addr} {l:List Lt} (h:ttL.row w S A l) (i:Nat) (hi:i<l.length):
  ∃b o,A=some ⟨b,o,none⟩∧S b∧b<w.heap.size∧w.cell? ⟨b,o+i*2,none⟩=some (.slice l[i].A l[i].ls.length l[i].c)∧w.cell? ⟨b,o+i*2+1,none⟩=some (.int .i64 l[i].root):=by
 obtain⟨b,o,e,hS,hl,hc⟩:=h.at (by decide) i hi
 have hc:∀j u,(ttL.cells l[i])[j]?=some u→w.cell? ⟨b,o+i*2+j,none⟩=some u:=fun j u hu=>by rw[Nat.add_assoc];exact hc j u hu
 exact⟨b,o,e,hS,hl,hc 0 _ rfl,hc 1 _ rfl⟩
end Go.Proofs.YtpfokabdpmjobaaGreatDoor
/- The contracts of tree.Rule and tree.Empty. -/
namespace Go.Proofs.YtpfokabdpmjobaaGreatDoor
open Go.RowKit
set_option linter.unusedSimpArgs false
set_option linter.unusedVariables false
def LeafPost (n:Nd) (w:World) (e:Ending) (w':World):Prop:=∃b,e=.returned (.agg #[.slice (some ⟨b,0,none⟩) 1 1,.int .i64 0])∧TreeOwn w' (w.heap.size ≤ ·) ⟨some ⟨b,0,none⟩,1,[⟨n,none,0⟩],0⟩∧Below w.heap.size w w'
def ruleLf (s:ByteArray):Nd:=⟨3,0,0,0,0,s,0,0,[]⟩
set_option maxRecDepth 100000 in
set_option maxHeartbeats 1600000 in
theorem rule_any (s:ByteArray) (w:World) (hs:s.size≤281474976710656):
  Calls Tryz.prog 26 #[.string s] w (LeafPost (ruleLf s) w):=by
 unfold LeafPost
 have HWF:=Lib.hid (show(ruleLf s).wf from⟨by simp[ruleLf],hs,by simp[ruleLf],by simp[ruleLf,U64],by simp[ruleLf,U64],by simp[ruleLf,U64],by simp[ruleLf,U64]⟩)
 go_enter Tryz.func26,Tryz.ntmps26
 go_wp2_with (go_at_call 57;refine(leaf_any (ruleLf s) _ HWF.out rfl).mono ?_;rintro e w1 ⟨b,rfl,ht,hb⟩;have HT:=Lib.hid ht;have HB:=Lib.hid hb;obtain⟨t1,t2,t3,t4⟩:=blk2 (bx_kept hb (bx_new w _));clear ht hb)
 refine bodyPost_ret (v:=.agg #[.slice (some ⟨b,0,none⟩) 1 1,.int .i64 0]) (by simp[results,Tryz.results26,go_sem,t1,t2]) rfl ?_
 refine⟨b,rfl,(HT.out.agree (fun x hx _=> ?_)).mono (fun x _ hx=> ?_),((Below.step (bx1 w _) HB.out).setCell (p:=⟨w.heap.size,0,none⟩) (Nat.le_refl _) _).setCell (p:=⟨w.heap.size,1,none⟩) (Nat.le_refl _) _⟩
 ·have hx:(w.alloc _).heap.size≤x:=hx
  rw[World.size_alloc]at hx
  exact(Below.heap_setCell _ _ _ _ (by show x≠w.heap.size;omega)).trans (Below.heap_setCell _ _ _ _ (by show x≠w.heap.size;omega))
 ·have hx:(w.alloc _).heap.size≤x:=hx
  rw[World.size_alloc]at hx
  show w.heap.size≤x;omega
end Go.Proofs.YtpfokabdpmjobaaGreatDoor
