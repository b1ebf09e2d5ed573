/- Plain: what is told of each kind of tree within each kind. -/
import Derived.Test.YtdnochjajoiooaaDoorRe
namespace Go.Proofs.YtdnochjajoiooaaDoor
open Go.RowKit
set_option linter.unusedSimpArgs false
set_option linter.unusedVariables false
def set0T:Tr:=⟨[setLf 0 0 0 0],0⟩
def ttT:Tr:=⟨[textLf ⟨#[116]⟩],0⟩
def starN:Nd:=⟨6,0,0,0,0,⟨#[]⟩,0, -1,[]⟩
theorem star_wf:starN.wf:=⟨by simp[starN],by simp[starN];decide,by simp[starN],by simp[starN,U64],by simp[starN,U64],by simp[starN,U64],by simp[starN,U64]⟩
def starT:Tr:=ofT starN [xT]
def andT:Tr:=ofT (kindP 7) [xT]
def notT:Tr:=ofT (kindP 8) [xT]
def capT:Tr:=ofT capP [xT]
theorem okStar:okT starN [xT]=true:=by kernel_rfl
theorem okAnd:okT (kindP 7) [xT]=true:=by kernel_rfl
theorem okNotX:okT (kindP 8) [xT]=true:=by kernel_rfl
theorem okCapX:okT capP [xT]=true:=by kernel_rfl
def kindsT:List Tr:=[emT,set0T,ttT,xT,seqT,choT,starT,andT,notT,capT]
def Mk1 (w:World) (bx:Nat) (v:Value):Prop:=∃nb,v=.slice (some ⟨nb,0,none⟩) 1 1∧w.heap[nb]?=some (.cells #[.slice (some ⟨bx,0,none⟩) 1 1,.int .i64 0] 25 (0,0))
theorem Mk1.below {w w':World} {bx:Nat} {v:Value} (h:Mk1 w bx v) (hb:Below w.heap.size w w'):Mk1 w' bx v:=by
 obtain⟨nb,hv,hh⟩:=h
 exact⟨nb,hv,bx_kept hb hh⟩
def Row10 (w:World) (v:Value):Prop:=∃(nb:Nat) (ks:List Lt),v=.slice (some ⟨nb,0,none⟩) 10 10∧ks.length=10∧ks.map Lt.tr=kindsT∧(∀t∈ks,t.inn w (fun _=>True))∧w.heap[nb]?=some (.cells (ttL.all ks).toArray 25 (0,0))
theorem Row10.below {w w':World} {v:Value} (h:Row10 w v) (hb:Below w.heap.size w w'):Row10 w' v:=by
 obtain⟨nb,ks,h1,h2,h3,h4,h5⟩:=h
 exact⟨nb,ks,h1,h2,h3,fun t ht=>(h4 t ht).below hb,bx_kept hb h5⟩
def bareB:List (List UInt8):=[[34,34],[91,93],[34,116,34],[120],[120,32,121],[120,32,47,32,121],[120,42],[38,120],[33,120],[60,110,58,32,120,62]]
def parB (l:List UInt8):List UInt8:=[40]++l++[41]
def repN23:Nd:=⟨6,0,0,0,0,⟨#[]⟩,2,3,[]⟩
def capM:Nd:=⟨9,0,0,0,0,⟨#[109]⟩,0,0,[]⟩
theorem rep23_wf:repN23.wf:=⟨by simp[repN23],by simp[repN23];decide,by simp[repN23],by simp[repN23,U64],by simp[repN23,U64],by simp[repN23,U64],by simp[repN23,U64]⟩
theorem capM_wf:capM.wf:=⟨by simp[capM],by simp[capM];decide,by simp[capM],by simp[capM,U64],by simp[capM,U64],by simp[capM,U64],by simp[capM,U64]⟩
def kindAt (k:Nat):Tr:=kindsT.getD k emT
def bareAt (k:Nat):List UInt8:=bareB.getD k []
def listAt (k:Nat):List UInt8:=if k=4∨k=5 then parB (bareAt k)else bareAt k
def repAt (k:Nat):List UInt8:=if k=4∨k=5∨k=6∨k=7∨k=8 then parB (bareAt k)else bareAt k
def wayAt (k:Nat):List UInt8:=if k=5 then parB (bareAt k)else bareAt k
def okAt (n:Nd) (l:List Tr):Bool:=okT n l&&smallTx (ofT n l)
def chkAt (k:Nat):Bool:=
 decide (treeB (kindAt k)=bareAt k)&&smallTx (kindAt k)&&decide ((bareAt k).length≤10) &&
 okAt (kindP 4) [kindAt k,xT]&&okAt (kindP 5) [xT,kindAt k]&&okAt (kindP 7) [kindAt k]&&okAt (kindP 8) [kindAt k]&&okAt repN23 [kindAt k]&&okAt capM [kindAt k] &&
 decide (treeB (ofT (kindP 4) [kindAt k,xT])=listAt k++[32,120])&&decide (treeB (ofT (kindP 5) [xT,kindAt k])=[120,32,47,32]++wayAt k)&&decide (treeB (ofT (kindP 7) [kindAt k])=[38]++listAt k) &&
 decide (treeB (ofT (kindP 8) [kindAt k])=[33]++listAt k)&&decide (treeB (ofT repN23 [kindAt k])=repAt k++[123,50,44,51,125])&&decide (treeB (ofT capM [kindAt k])=[60,109,58,32]++bareAt k++[62])
theorem chk_all:(List.range 10).all chkAt=true:=by kernel_rfl
structure Pn (k:Nat):Prop where
 tx:treeB (kindAt k)=bareAt k
 sm:smallTx (kindAt k)=true
 len:(bareAt k).length≤10
 o4:okT (kindP 4) [kindAt k,xT]=true∧smallTx (ofT (kindP 4) [kindAt k,xT])=true
 o5:okT (kindP 5) [xT,kindAt k]=true∧smallTx (ofT (kindP 5) [xT,kindAt k])=true
 o7:okT (kindP 7) [kindAt k]=true∧smallTx (ofT (kindP 7) [kindAt k])=true
 o8:okT (kindP 8) [kindAt k]=true∧smallTx (ofT (kindP 8) [kindAt k])=true
 o6:okT repN23 [kindAt k]=true∧smallTx (ofT repN23 [kindAt k])=true
 o9:okT capM [kindAt k]=true∧smallTx (ofT capM [kindAt k])=true
 t4:treeB (ofT (kindP 4) [kindAt k,xT])=listAt k++[32,120]
 t5:treeB (ofT (kindP 5) [xT,kindAt k])=[120,32,47,32]++wayAt k
 t7:treeB (ofT (kindP 7) [kindAt k])=[38]++listAt k
 t8:treeB (ofT (kindP 8) [kindAt k])=[33]++listAt k
 t6:treeB (ofT repN23 [kindAt k])=repAt k++[123,50,44,51,125]
 t9:treeB (ofT capM [kindAt k])=[60,109,58,32]++bareAt k++[62]
theorem pn_at (k:Nat) (hk:k<10):Pn k:=by
 have h:=List.all_eq_true.1 chk_all k (List.mem_range.2 hk)
 simp only[chkAt,okAt,Bool.and_eq_true,decide_eq_true_eq]at h
 obtain⟨⟨⟨⟨⟨⟨⟨⟨⟨⟨⟨⟨⟨⟨a,b⟩,c⟩,d⟩,e⟩,f⟩,g⟩,i⟩,j⟩,l⟩,m⟩,n⟩,o⟩,p⟩,q⟩:=h
 exact⟨a,b,c,d,e,f,g,i,j,l,m,n,o,p,q⟩
theorem ptree_ba {w:World} {T:Tr} {t:Lt} (h:TX w T t) (hp:PTabs w) {s:ByteArray} (hl:(⟨(treeB T).toArray⟩:ByteArray)=s):Calls Tryd.prog 11 #[.agg #[.slice t.A t.ls.length t.c,.int .i64 t.root]] w fun e w'=>e=.returned (.string s)∧Below w.heap.size w w':=by
 subst hl
 exact ptree_tx h hp rfl
end Go.Proofs.YtdnochjajoiooaaDoor
