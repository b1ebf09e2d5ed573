/- The trees of each kind: the steps of the region that makes them. -/
import Derived.Test.YtdnochjajoiooaaDoorVp
import Derived.Deep.RegionHeld3
import Derived.Deep.DeepCutAuto
import Derived.Deep.Cut
import Derived.Deep.CutRange
namespace Go.Proofs.YtdnochjajoiooaaDoor
open Go.RowKit
set_option linter.unusedSimpArgs false
set_option linter.unusedVariables false
set_option maxRecDepth 100000 in
theorem build10 (a0 b0 a1 b1 a2 b2 a3 b3 a4 b4 a5 b5 a6 b6 a7 b7 a8 b8 a9 b9:Value) (w:World):(Instr.buildSlice 36 10 #[(0,.agg #[a0,b0]),(1,.agg #[a1,b1]),(2,.agg #[a2,b2]),(3,.agg #[a3,b3]),(4,.agg #[a4,b4]),(5,.agg #[a5,b5]),(6,.agg #[a6,b6]),(7,.agg #[a7,b7]),(8,.agg #[a8,b8]),(9,.agg #[a9,b9])]).run Tryd.prog w=.ok (.slice (some ⟨w.heap.size,0,none⟩) 10 10) (w.alloc (.cells #[a0,b0,a1,b1,a2,b2,a3,b3,a4,b4,a5,b5,a6,b6,a7,b7,a8,b8,a9,b9] 25)):=by
 kernel_rfl
theorem exec_build10 {P:Program} {o:Oper} {a:Act} {w w':World} {T:TypeId} {x0 x1 x2 x3 x4 x5 x6 x7 x8 x9:Operand} {u0 u1 u2 u3 u4 u5 u6 u7 u8 u9 v:Value} (ho:o.op=.buildSlice T 10 #[(0,x0),(1,x1),(2,x2),(3,x3),(4,x4),(5,x5),(6,x6),(7,x7),(8,x8),(9,x9)]) (h0:a.eval x0=u0) (h1:a.eval x1=u1) (h2:a.eval x2=u2) (h3:a.eval x3=u3) (h4:a.eval x4=u4) (h5:a.eval x5=u5) (h6:a.eval x6=u6) (h7:a.eval x7=u7) (h8:a.eval x8=u8) (h9:a.eval x9=u9) (h:(Instr.buildSlice T 10 #[(0,u0),(1,u1),(2,u2),(3,u3),(4,u4),(5,u5),(6,u6),(7,u7),(8,u8),(9,u9)]).run P w=.ok v w'):(execOp a.eval o).run P w=.ok (.value v) w':=by
 unfold execOp;simp only[ho,Sem.run_bind,List.map_toArray,List.map_cons,List.map_nil,h0,h1,h2,h3,h4,h5,h6,h7,h8,h9,h,Result.andThen_ok,Sem.run_pure]
theorem wp_val10 {P:Program} {o:Oper} {a:Act} {w w':World} {v:Value} {K:Act→World→Prop} {Q:Exit→Act→World→Prop} (hrun:(execOp a.eval o).run P w=.ok (.value v) w') (h:K (a.put o.dst v) w'):Oper.wp P o a w K Q:=by
 unfold Oper.wp;rw[hrun];exact h
def pnF (bx bY b1:Nat) (v20 v21 v22 v23 v24 v25 v26 v27 v28 v29 v30 v31 v32 v33 v34 v35 v36 v37 v38 v39 v40 v41 v42 v43 v44 v45 v46 v47 v48 v49 v50 v51 v3:Value):Act:=
 {tmps:= #[.bool false,.pointer (some ⟨b1,0,none⟩),.pointer (some ⟨b1+1,0,none⟩),v3,undef,undef,undef,undef,undef,undef,undef,undef,undef,undef,undef,undef,.bool true,.bool false,.agg #[.slice (some ⟨bx,0,none⟩) 1 1,.int .i64 0],.agg #[.slice (some ⟨bY,0,none⟩) 1 1,.int .i64 0],v20,v21,v22,v23,v24,v25,v26,v27,v28,v29,v30,v31,v32,v33,v34,v35,v36,v37,v38,v39,v40,v41,v42,v43,v44,v45,v46,v47,v48,v49,v50,v51,undef,undef,undef,undef,undef,undef,undef,undef,undef,undef,undef,undef,undef,undef,undef,undef,undef,undef,undef,undef,undef,undef,undef,undef,undef,undef,undef,undef,undef,undef,undef,undef,undef,undef,undef,undef,undef,undef,undef,undef,undef,undef,undef,undef,undef,undef,undef,undef,undef,undef,undef,undef,undef,undef,undef,undef,undef,undef,undef,undef,undef,undef,undef,undef,undef,undef,undef,undef,undef,undef,undef,undef,undef,undef,undef,undef,undef,undef,undef,undef,undef,undef,undef,undef,undef,undef,undef,undef,undef,undef,undef,undef,undef,undef,undef,undef,undef,undef,undef,undef,undef,undef,undef,undef,undef,undef,undef,undef,undef,undef,undef,undef,undef,undef,undef,undef,undef,undef,undef,undef,undef,undef,undef,undef,undef,undef,undef,undef,undef,undef,undef,undef,undef,undef,undef,undef,undef,undef,undef,undef,undef,undef,undef,undef,undef,undef,undef,undef,undef,undef,undef,undef,undef,undef,undef,undef,undef,undef,undef,undef,undef,undef,undef,undef,undef,undef,undef,undef,undef,undef,undef,undef,undef,undef,undef,undef,undef,undef,undef,undef,undef,undef,undef,undef,undef,undef,undef,undef,undef,undef,undef,undef,undef,undef,undef,undef,undef,undef,undef,undef,undef,undef,undef,undef,undef,undef,undef,undef,undef,undef],defers:=[]}
def PnInv (bx bY b1:Nat) (B:Nat) (V:World) (_:Act) (listed:Array Bool) (a:Act) (w':World):Prop:=
 listed.size=33∧Below B V w'∧B≤w'.heap.size∧ ∃v20 v21 v22 v23 v24 v25 v26 v27 v28 v29 v30 v31 v32 v33 v34 v35 v36 v37 v38 v39 v40 v41 v42 v43 v44 v45 v46 v47 v48 v49 v50 v51 v3:Value,
  a=pnF bx bY b1 v20 v21 v22 v23 v24 v25 v26 v27 v28 v29 v30 v31 v32 v33 v34 v35 v36 v37 v38 v39 v40 v41 v42 v43 v44 v45 v46 v47 v48 v49 v50 v51 v3 ∧
  (listed.getD 0 false=true→OwnT w' v20 emT) ∧
  (listed.getD 1 false=true→v21=.agg #[.int .u64 0,.int .u64 0,.int .u64 0,.int .u64 0]) ∧
  (listed.getD 2 false=true→OwnT w' v22 set0T) ∧
  (listed.getD 3 false=true→OwnT w' v23 ttT) ∧
  (listed.getD 4 false=true→v24=.agg #[.slice (some ⟨bx,0,none⟩) 1 1,.int .i64 0]) ∧
  (listed.getD 5 false=true→v25=ndV (kindP 4) (.slice none 0 0)) ∧
  (listed.getD 6 false=true→v26=.agg #[.slice (some ⟨bx,0,none⟩) 1 1,.int .i64 0]) ∧
  (listed.getD 7 false=true→v27=.agg #[.slice (some ⟨bY,0,none⟩) 1 1,.int .i64 0]) ∧
  (listed.getD 8 false=true→MkV w' bx bY v28) ∧
  (listed.getD 9 false=true→OwnT w' v29 seqT) ∧
  (listed.getD 10 false=true→v30=ndV (kindP 5) (.slice none 0 0)) ∧
  (listed.getD 11 false=true→v31=.agg #[.slice (some ⟨bx,0,none⟩) 1 1,.int .i64 0]) ∧
  (listed.getD 12 false=true→v32=.agg #[.slice (some ⟨bY,0,none⟩) 1 1,.int .i64 0]) ∧
  (listed.getD 13 false=true→MkV w' bx bY v33) ∧
  (listed.getD 14 false=true→OwnT w' v34 choT) ∧
  (listed.getD 15 false=true→v35=ndV starN (.slice none 0 0)) ∧
  (listed.getD 16 false=true→v36=.agg #[.slice (some ⟨bx,0,none⟩) 1 1,.int .i64 0]) ∧
  (listed.getD 17 false=true→Mk1 w' bx v37) ∧
  (listed.getD 18 false=true→OwnT w' v38 starT) ∧
  (listed.getD 19 false=true→v39=ndV (kindP 7) (.slice none 0 0)) ∧
  (listed.getD 20 false=true→v40=.agg #[.slice (some ⟨bx,0,none⟩) 1 1,.int .i64 0]) ∧
  (listed.getD 21 false=true→Mk1 w' bx v41) ∧
  (listed.getD 22 false=true→OwnT w' v42 andT) ∧
  (listed.getD 23 false=true→v43=ndV (kindP 8) (.slice none 0 0)) ∧
  (listed.getD 24 false=true→v44=.agg #[.slice (some ⟨bx,0,none⟩) 1 1,.int .i64 0]) ∧
  (listed.getD 25 false=true→Mk1 w' bx v45) ∧
  (listed.getD 26 false=true→OwnT w' v46 notT) ∧
  (listed.getD 27 false=true→v47=ndV capP (.slice none 0 0)) ∧
  (listed.getD 28 false=true→v48=.agg #[.slice (some ⟨bx,0,none⟩) 1 1,.int .i64 0]) ∧
  (listed.getD 29 false=true→Mk1 w' bx v49) ∧
  (listed.getD 30 false=true→OwnT w' v50 capT) ∧
  (listed.getD 31 false=true→Row10 w' v51) ∧
  (listed.getD 32 false=true→v3=v51) ∧
  (listed.getD 32 false=true→listed.getD 31 false=true)
def pnOps:Array Oper:= #[{dst:=some 20,op:=Go.Op.call {callee:=Go.Callee.value (Go.Operand.func 7),args:= #[],argTypes:= #[]},type:=25,pos:= "outright.go:35",after:= #[],guard:=none},{dst:=some 21,op:=Go.Op.build 31 #[],type:=31,pos:= "outright.go:35",after:= #[],guard:=none},{dst:=some 22,op:=Go.Op.call {callee:=Go.Callee.value (Go.Operand.func 8),args:= #[Go.Operand.tmp 21],argTypes:= #[31]},type:=25,pos:= "outright.go:35",after:= #[{on:=1,ground:=Go.Ground.data},{on:=0,ground:=Go.Ground.chain}],guard:=none},{dst:=some 23,op:=Go.Op.call {callee:=Go.Callee.value (Go.Operand.func 9),args:= #[Go.Operand.const (Go.Value.string {data:= #[116]})],argTypes:= #[9]},type:=25,pos:= "outright.go:35",after:= #[{on:=2,ground:=Go.Ground.chain}],guard:=none},{dst:=some 24,op:=Go.Op.load 25 (Go.Operand.tmp 1),type:=25,pos:= "outright.go:35",after:= #[],guard:=none},{dst:=some 25,op:=Go.Op.build 35 #[(0,Go.Operand.const (Go.Value.int Go.IntKind.u8 4))],type:=35,pos:= "outright.go:35",after:= #[],guard:=none},{dst:=some 26,op:=Go.Op.load 25 (Go.Operand.tmp 1),type:=25,pos:= "outright.go:35",after:= #[],guard:=none},{dst:=some 27,op:=Go.Op.load 25 (Go.Operand.tmp 2),type:=25,pos:= "outright.go:35",after:= #[],guard:=none},{dst:=some 28,op:=Go.Op.buildSlice 36 2 #[(0,Go.Operand.tmp 26),(1,Go.Operand.tmp 27)],type:=36,pos:= "outright.go:35",after:= #[{on:=6,ground:=Go.Ground.data},{on:=7,ground:=Go.Ground.data}],guard:=none},{dst:=some 29,op:=Go.Op.call {callee:=Go.Callee.value (Go.Operand.func 10),args:= #[Go.Operand.tmp 25,Go.Operand.tmp 28],argTypes:= #[35,36]},type:=25,pos:= "outright.go:35",after:= #[{on:=5,ground:=Go.Ground.data},{on:=8,ground:=Go.Ground.data},{on:=3,ground:=Go.Ground.chain}],guard:=none},{dst:=some 30,op:=Go.Op.build 35 #[(0,Go.Operand.const (Go.Value.int Go.IntKind.u8 5))],type:=35,pos:= "outright.go:35",after:= #[],guard:=none},{dst:=some 31,op:=Go.Op.load 25 (Go.Operand.tmp 1),type:=25,pos:= "outright.go:35",after:= #[],guard:=none},{dst:=some 32,op:=Go.Op.load 25 (Go.Operand.tmp 2),type:=25,pos:= "outright.go:35",after:= #[],guard:=none},{dst:=some 33,op:=Go.Op.buildSlice 36 2 #[(0,Go.Operand.tmp 31),(1,Go.Operand.tmp 32)],type:=36,pos:= "outright.go:35",after:= #[{on:=11,ground:=Go.Ground.data},{on:=12,ground:=Go.Ground.data}],guard:=none},{dst:=some 34,op:=Go.Op.call {callee:=Go.Callee.value (Go.Operand.func 10),args:= #[Go.Operand.tmp 30,Go.Operand.tmp 33],argTypes:= #[35,36]},type:=25,pos:= "outright.go:35",after:= #[{on:=10,ground:=Go.Ground.data},{on:=13,ground:=Go.Ground.data},{on:=9,ground:=Go.Ground.chain}],guard:=none},{dst:=some 35,op:=Go.Op.build 35 #[(0,Go.Operand.const (Go.Value.int Go.IntKind.u8 6)),(4,Go.Operand.const (Go.Value.int Go.IntKind.i64 (-1)))],type:=35,pos:= "outright.go:35",after:= #[],guard:=none},{dst:=some 36,op:=Go.Op.load 25 (Go.Operand.tmp 1),type:=25,pos:= "outright.go:35",after:= #[],guard:=none},{dst:=some 37,op:=Go.Op.buildSlice 36 1 #[(0,Go.Operand.tmp 36)],type:=36,pos:= "outright.go:35",after:= #[{on:=16,ground:=Go.Ground.data}],guard:=none},{dst:=some 38,op:=Go.Op.call {callee:=Go.Callee.value (Go.Operand.func 10),args:= #[Go.Operand.tmp 35,Go.Operand.tmp 37],argTypes:= #[35,36]},type:=25,pos:= "outright.go:35",after:= #[{on:=15,ground:=Go.Ground.data},{on:=17,ground:=Go.Ground.data},{on:=14,ground:=Go.Ground.chain}],guard:=none},{dst:=some 39,op:=Go.Op.build 35 #[(0,Go.Operand.const (Go.Value.int Go.IntKind.u8 7))],type:=35,pos:= "outright.go:35",after:= #[],guard:=none},{dst:=some 40,op:=Go.Op.load 25 (Go.Operand.tmp 1),type:=25,pos:= "outright.go:35",after:= #[],guard:=none},{dst:=some 41,op:=Go.Op.buildSlice 36 1 #[(0,Go.Operand.tmp 40)],type:=36,pos:= "outright.go:35",after:= #[{on:=20,ground:=Go.Ground.data}],guard:=none},{dst:=some 42,op:=Go.Op.call {callee:=Go.Callee.value (Go.Operand.func 10),args:= #[Go.Operand.tmp 39,Go.Operand.tmp 41],argTypes:= #[35,36]},type:=25,pos:= "outright.go:35",after:= #[{on:=19,ground:=Go.Ground.data},{on:=21,ground:=Go.Ground.data},{on:=18,ground:=Go.Ground.chain}],guard:=none},{dst:=some 43,op:=Go.Op.build 35 #[(0,Go.Operand.const (Go.Value.int Go.IntKind.u8 8))],type:=35,pos:= "outright.go:35",after:= #[],guard:=none},{dst:=some 44,op:=Go.Op.load 25 (Go.Operand.tmp 1),type:=25,pos:= "outright.go:35",after:= #[],guard:=none},{dst:=some 45,op:=Go.Op.buildSlice 36 1 #[(0,Go.Operand.tmp 44)],type:=36,pos:= "outright.go:35",after:= #[{on:=24,ground:=Go.Ground.data}],guard:=none},{dst:=some 46,op:=Go.Op.call {callee:=Go.Callee.value (Go.Operand.func 10),args:= #[Go.Operand.tmp 43,Go.Operand.tmp 45],argTypes:= #[35,36]},type:=25,pos:= "outright.go:35",after:= #[{on:=23,ground:=Go.Ground.data},{on:=25,ground:=Go.Ground.data},{on:=22,ground:=Go.Ground.chain}],guard:=none},{dst:=some 47,op:=Go.Op.build 35 #[(0,Go.Operand.const (Go.Value.int Go.IntKind.u8 9)),(2,Go.Operand.const (Go.Value.string {data:= #[110]}))],type:=35,pos:= "outright.go:35",after:= #[],guard:=none},{dst:=some 48,op:=Go.Op.load 25 (Go.Operand.tmp 1),type:=25,pos:= "outright.go:35",after:= #[],guard:=none},{dst:=some 49,op:=Go.Op.buildSlice 36 1 #[(0,Go.Operand.tmp 48)],type:=36,pos:= "outright.go:35",after:= #[{on:=28,ground:=Go.Ground.data}],guard:=none},{dst:=some 50,op:=Go.Op.call {callee:=Go.Callee.value (Go.Operand.func 10),args:= #[Go.Operand.tmp 47,Go.Operand.tmp 49],argTypes:= #[35,36]},type:=25,pos:= "outright.go:35",after:= #[{on:=27,ground:=Go.Ground.data},{on:=29,ground:=Go.Ground.data},{on:=26,ground:=Go.Ground.chain}],guard:=none},{dst:=some 51,op:=Go.Op.buildSlice 36 10 #[(0,Go.Operand.tmp 20),(1,Go.Operand.tmp 22),(2,Go.Operand.tmp 23),(3,Go.Operand.tmp 24),(4,Go.Operand.tmp 29),(5,Go.Operand.tmp 34),(6,Go.Operand.tmp 38),(7,Go.Operand.tmp 42),(8,Go.Operand.tmp 46),(9,Go.Operand.tmp 50)],type:=36,pos:= "outright.go:35",after:= #[{on:=0,ground:=Go.Ground.data},{on:=2,ground:=Go.Ground.data},{on:=3,ground:=Go.Ground.data},{on:=4,ground:=Go.Ground.data},{on:=9,ground:=Go.Ground.data},{on:=14,ground:=Go.Ground.data},{on:=18,ground:=Go.Ground.data},{on:=22,ground:=Go.Ground.data},{on:=26,ground:=Go.Ground.data},{on:=30,ground:=Go.Ground.data}],guard:=none},{dst:=some 3,op:=Go.Op.assign (Go.Operand.tmp 51),type:=36,pos:= "outright.go:35",after:= #[{on:=31,ground:=Go.Ground.data},{on:=30,ground:=Go.Ground.chain},{on:=0,ground:=Go.Ground.phase},{on:=1,ground:=Go.Ground.phase},{on:=2,ground:=Go.Ground.phase},{on:=3,ground:=Go.Ground.phase},{on:=4,ground:=Go.Ground.phase},{on:=5,ground:=Go.Ground.phase},{on:=6,ground:=Go.Ground.phase},{on:=7,ground:=Go.Ground.phase},{on:=8,ground:=Go.Ground.phase},{on:=9,ground:=Go.Ground.phase},{on:=10,ground:=Go.Ground.phase},{on:=11,ground:=Go.Ground.phase},{on:=12,ground:=Go.Ground.phase},{on:=13,ground:=Go.Ground.phase},{on:=14,ground:=Go.Ground.phase},{on:=15,ground:=Go.Ground.phase},{on:=16,ground:=Go.Ground.phase},{on:=17,ground:=Go.Ground.phase},{on:=18,ground:=Go.Ground.phase},{on:=19,ground:=Go.Ground.phase},{on:=20,ground:=Go.Ground.phase},{on:=21,ground:=Go.Ground.phase},{on:=22,ground:=Go.Ground.phase},{on:=23,ground:=Go.Ground.phase},{on:=24,ground:=Go.Ground.phase},{on:=25,ground:=Go.Ground.phase},{on:=26,ground:=Go.Ground.phase},{on:=27,ground:=Go.Ground.phase},{on:=28,ground:=Go.Ground.phase},{on:=29,ground:=Go.Ground.phase},{on:=30,ground:=Go.Ground.phase},{on:=31,ground:=Go.Ground.phase}],guard:=none}]
set_option maxRecDepth 100000 in
set_option maxHeartbeats 12800000 in
theorem pn_step (bx bY b1:Nat) (V:World) (HCX:Hid (∀w',Below V.heap.size V w'→w'.cell? ⟨b1,0,none⟩=some (.slice (some ⟨bx,0,none⟩) 1 1)∧w'.cell? ⟨b1,1,none⟩=some (.int .i64 0)∧w'.cell? ⟨b1+1,0,none⟩=some (.slice (some ⟨bY,0,none⟩) 1 1)∧w'.cell? ⟨b1+1,1,none⟩=some (.int .i64 0))) (HTX:Hid (TX V xT ⟨some ⟨bx,0,none⟩,1,[⟨ruleLf ⟨#[120]⟩,none,0⟩],0⟩∧TX V yT ⟨some ⟨bY,0,none⟩,1,[⟨ruleLf ⟨#[121]⟩,none,0⟩],0⟩)) (Q:Exit→Act→World→Prop) (A0:Act):
  ∀listed a' w',PnInv bx bY b1 V.heap.size V A0 listed a' w'→ ∀i,i∈Region.ready .any pnOps listed→wpOp Tryd.prog pnOps Q i (fun a'' w''=>PnInv bx bY b1 V.heap.size V A0 (listed.setIfInBounds i true) a'' w'') a' w':=by
 intro listed a' w' hI i hi
 obtain⟨hsz,hb,hB,v20,v21,v22,v23,v24,v25,v26,v27,v28,v29,v30,v31,v32,v33,v34,v35,v36,v37,v38,v39,v40,v41,v42,v43,v44,v45,v46,v47,v48,v49,v50,v51,v3,rfl,c0,c1,c2,c3,c4,c5,c6,c7,c8,c9,c10,c11,c12,c13,c14,c15,c16,c17,c18,c19,c20,c21,c22,c23,c24,c25,c26,c27,c28,c29,c30,c31,c32,c33⟩:=hI
 have hun:=(ready_mem hi).2.1
 have hlt:i<33:=(ready_mem hi).1
 have hcs:i=0∨i=1∨i=2∨i=3∨i=4∨i=5∨i=6∨i=7∨i=8∨i=9∨i=10∨i=11∨i=12∨i=13∨i=14∨i=15∨i=16∨i=17∨i=18∨i=19∨i=20∨i=21∨i=22∨i=23∨i=24∨i=25∨i=26∨i=27∨i=28∨i=29∨i=30∨i=31∨i=32:=by omega
 clear hlt
 rcases hcs with rfl|rfl|rfl|rfl|rfl|rfl|rfl|rfl|rfl|rfl|rfl|rfl|rfl|rfl|rfl|rfl|rfl|rfl|rfl|rfl|rfl|rfl|rfl|rfl|rfl|rfl|rfl|rfl|rfl|rfl|rfl|rfl|rfl
 ·have hp:=ready_after (o:={dst:=some 20,op:=Go.Op.call {callee:=Go.Callee.value (Go.Operand.func 7),args:= #[],argTypes:= #[]},type:=25,pos:= "outright.go:35",after:= #[],guard:=none}) hi rfl
  simp[Region.binds]at hp
  unfold pnF
  refine wpOp_shut (o:={dst:=some 20,op:=Go.Op.call {callee:=Go.Callee.value (Go.Operand.func 7),args:= #[],argTypes:= #[]},type:=25,pos:= "outright.go:35",after:= #[],guard:=none}) rfl (fun K hK=> ?_)
  go_simp
  refine(empty_any _).mono ?_
  rintro e w1 ⟨ba,rfl,hto,hbk⟩
  go_wp2_with fail
  exact hK.out _ _ ⟨by simp[hsz],(hb.trans (hbk.mono hB)),(Nat.le_trans hB hbk.size),_,_,_,_,_,_,_,_,_,_,_,_,_,_,_,_,_,_,_,_,_,_,_,_,_,_,_,_,_,_,_,_,_,rfl,
    fun _=>⟨_,rfl,hto.mono (fun _ _ _=>trivial),rfl⟩,
    fun h=>c1 (flag_of (by decide) h),
    fun h=>(c2 (flag_of (by decide) h)).below hbk,
    fun h=>(c3 (flag_of (by decide) h)).below hbk,
    fun h=>c4 (flag_of (by decide) h),
    fun h=>c5 (flag_of (by decide) h),
    fun h=>c6 (flag_of (by decide) h),
    fun h=>c7 (flag_of (by decide) h),
    fun h=>(c8 (flag_of (by decide) h)).below hbk,
    fun h=>(c9 (flag_of (by decide) h)).below hbk,
    fun h=>c10 (flag_of (by decide) h),
    fun h=>c11 (flag_of (by decide) h),
    fun h=>c12 (flag_of (by decide) h),
    fun h=>(c13 (flag_of (by decide) h)).below hbk,
    fun h=>(c14 (flag_of (by decide) h)).below hbk,
    fun h=>c15 (flag_of (by decide) h),
    fun h=>c16 (flag_of (by decide) h),
    fun h=>(c17 (flag_of (by decide) h)).below hbk,
    fun h=>(c18 (flag_of (by decide) h)).below hbk,
    fun h=>c19 (flag_of (by decide) h),
    fun h=>c20 (flag_of (by decide) h),
    fun h=>(c21 (flag_of (by decide) h)).below hbk,
    fun h=>(c22 (flag_of (by decide) h)).below hbk,
    fun h=>c23 (flag_of (by decide) h),
    fun h=>c24 (flag_of (by decide) h),
    fun h=>(c25 (flag_of (by decide) h)).below hbk,
    fun h=>(c26 (flag_of (by decide) h)).below hbk,
    fun h=>c27 (flag_of (by decide) h),
    fun h=>c28 (flag_of (by decide) h),
    fun h=>(c29 (flag_of (by decide) h)).below hbk,
    fun h=>(c30 (flag_of (by decide) h)).below hbk,
    fun h=>(c31 (flag_of (by decide) h)).below hbk,
    fun h=>c32 (flag_of (by decide) h),
    fun h=>flag_old (c33 (flag_of (by decide) h))⟩
 ·have hp:=ready_after (o:={dst:=some 21,op:=Go.Op.build 31 #[],type:=31,pos:= "outright.go:35",after:= #[],guard:=none}) hi rfl
  simp[Region.binds]at hp
  unfold pnF
  have hbk:Below w'.heap.size w' w':=Below.refl _ _
  refine wpOp_shut (o:={dst:=some 21,op:=Go.Op.build 31 #[],type:=31,pos:= "outright.go:35",after:= #[],guard:=none}) rfl (fun K hK=> ?_)
  go_simp
  exact hK.out _ _ ⟨by simp[hsz],(hb.trans (hbk.mono hB)),(Nat.le_trans hB hbk.size),_,_,_,_,_,_,_,_,_,_,_,_,_,_,_,_,_,_,_,_,_,_,_,_,_,_,_,_,_,_,_,_,_,rfl,
    fun h=>(c0 (flag_of (by decide) h)).below hbk,
    fun _=>rfl,
    fun h=>(c2 (flag_of (by decide) h)).below hbk,
    fun h=>(c3 (flag_of (by decide) h)).below hbk,
    fun h=>c4 (flag_of (by decide) h),
    fun h=>c5 (flag_of (by decide) h),
    fun h=>c6 (flag_of (by decide) h),
    fun h=>c7 (flag_of (by decide) h),
    fun h=>(c8 (flag_of (by decide) h)).below hbk,
    fun h=>(c9 (flag_of (by decide) h)).below hbk,
    fun h=>c10 (flag_of (by decide) h),
    fun h=>c11 (flag_of (by decide) h),
    fun h=>c12 (flag_of (by decide) h),
    fun h=>(c13 (flag_of (by decide) h)).below hbk,
    fun h=>(c14 (flag_of (by decide) h)).below hbk,
    fun h=>c15 (flag_of (by decide) h),
    fun h=>c16 (flag_of (by decide) h),
    fun h=>(c17 (flag_of (by decide) h)).below hbk,
    fun h=>(c18 (flag_of (by decide) h)).below hbk,
    fun h=>c19 (flag_of (by decide) h),
    fun h=>c20 (flag_of (by decide) h),
    fun h=>(c21 (flag_of (by decide) h)).below hbk,
    fun h=>(c22 (flag_of (by decide) h)).below hbk,
    fun h=>c23 (flag_of (by decide) h),
    fun h=>c24 (flag_of (by decide) h),
    fun h=>(c25 (flag_of (by decide) h)).below hbk,
    fun h=>(c26 (flag_of (by decide) h)).below hbk,
    fun h=>c27 (flag_of (by decide) h),
    fun h=>c28 (flag_of (by decide) h),
    fun h=>(c29 (flag_of (by decide) h)).below hbk,
    fun h=>(c30 (flag_of (by decide) h)).below hbk,
    fun h=>(c31 (flag_of (by decide) h)).below hbk,
    fun h=>c32 (flag_of (by decide) h),
    fun h=>flag_old (c33 (flag_of (by decide) h))⟩
 ·have hp:=ready_after (o:={dst:=some 22,op:=Go.Op.call {callee:=Go.Callee.value (Go.Operand.func 8),args:= #[Go.Operand.tmp 21],argTypes:= #[31]},type:=25,pos:= "outright.go:35",after:= #[{on:=1,ground:=Go.Ground.data},{on:=0,ground:=Go.Ground.chain}],guard:=none}) hi rfl
  simp[Region.binds]at hp
  unfold pnF
  obtain rfl:=c1 (show listed.getD 1 false=true by first|exact hp|exact hp.1|exact hp.2|exact hp.2.1|simp[hp])
  refine wpOp_shut (o:={dst:=some 22,op:=Go.Op.call {callee:=Go.Callee.value (Go.Operand.func 8),args:= #[Go.Operand.tmp 21],argTypes:= #[31]},type:=25,pos:= "outright.go:35",after:= #[{on:=1,ground:=Go.Ground.data},{on:=0,ground:=Go.Ground.chain}],guard:=none}) rfl (fun K hK=> ?_)
  go_simp
  refine(tset_any 0 0 0 0 _ (by simp[U64]) (by simp[U64]) (by simp[U64]) (by simp[U64])).mono ?_
  rintro e w1 ⟨ba,rfl,hto,hbk⟩
  go_wp2_with fail
  exact hK.out _ _ ⟨by simp[hsz],(hb.trans (hbk.mono hB)),(Nat.le_trans hB hbk.size),_,_,_,_,_,_,_,_,_,_,_,_,_,_,_,_,_,_,_,_,_,_,_,_,_,_,_,_,_,_,_,_,_,rfl,
    fun h=>(c0 (flag_of (by decide) h)).below hbk,
    fun _=>rfl,
    fun _=>⟨_,rfl,hto.mono (fun _ _ _=>trivial),rfl⟩,
    fun h=>(c3 (flag_of (by decide) h)).below hbk,
    fun h=>c4 (flag_of (by decide) h),
    fun h=>c5 (flag_of (by decide) h),
    fun h=>c6 (flag_of (by decide) h),
    fun h=>c7 (flag_of (by decide) h),
    fun h=>(c8 (flag_of (by decide) h)).below hbk,
    fun h=>(c9 (flag_of (by decide) h)).below hbk,
    fun h=>c10 (flag_of (by decide) h),
    fun h=>c11 (flag_of (by decide) h),
    fun h=>c12 (flag_of (by decide) h),
    fun h=>(c13 (flag_of (by decide) h)).below hbk,
    fun h=>(c14 (flag_of (by decide) h)).below hbk,
    fun h=>c15 (flag_of (by decide) h),
    fun h=>c16 (flag_of (by decide) h),
    fun h=>(c17 (flag_of (by decide) h)).below hbk,
    fun h=>(c18 (flag_of (by decide) h)).below hbk,
    fun h=>c19 (flag_of (by decide) h),
    fun h=>c20 (flag_of (by decide) h),
    fun h=>(c21 (flag_of (by decide) h)).below hbk,
    fun h=>(c22 (flag_of (by decide) h)).below hbk,
    fun h=>c23 (flag_of (by decide) h),
    fun h=>c24 (flag_of (by decide) h),
    fun h=>(c25 (flag_of (by decide) h)).below hbk,
    fun h=>(c26 (flag_of (by decide) h)).below hbk,
    fun h=>c27 (flag_of (by decide) h),
    fun h=>c28 (flag_of (by decide) h),
    fun h=>(c29 (flag_of (by decide) h)).below hbk,
    fun h=>(c30 (flag_of (by decide) h)).below hbk,
    fun h=>(c31 (flag_of (by decide) h)).below hbk,
    fun h=>c32 (flag_of (by decide) h),
    fun h=>flag_old (c33 (flag_of (by decide) h))⟩
 ·have hp:=ready_after (o:={dst:=some 23,op:=Go.Op.call {callee:=Go.Callee.value (Go.Operand.func 9),args:= #[Go.Operand.const (Go.Value.string {data:= #[116]})],argTypes:= #[9]},type:=25,pos:= "outright.go:35",after:= #[{on:=2,ground:=Go.Ground.chain}],guard:=none}) hi rfl
  simp[Region.binds]at hp
  unfold pnF
  refine wpOp_shut (o:={dst:=some 23,op:=Go.Op.call {callee:=Go.Callee.value (Go.Operand.func 9),args:= #[Go.Operand.const (Go.Value.string {data:= #[116]})],argTypes:= #[9]},type:=25,pos:= "outright.go:35",after:= #[{on:=2,ground:=Go.Ground.chain}],guard:=none}) rfl (fun K hK=> ?_)
  go_simp
  refine(text_any ⟨#[116]⟩ _ (by decide)).mono ?_
  rintro e w1 ⟨ba,rfl,hto,hbk⟩
  go_wp2_with fail
  exact hK.out _ _ ⟨by simp[hsz],(hb.trans (hbk.mono hB)),(Nat.le_trans hB hbk.size),_,_,_,_,_,_,_,_,_,_,_,_,_,_,_,_,_,_,_,_,_,_,_,_,_,_,_,_,_,_,_,_,_,rfl,
    fun h=>(c0 (flag_of (by decide) h)).below hbk,
    fun h=>c1 (flag_of (by decide) h),
    fun h=>(c2 (flag_of (by decide) h)).below hbk,
    fun _=>⟨_,rfl,hto.mono (fun _ _ _=>trivial),rfl⟩,
    fun h=>c4 (flag_of (by decide) h),
    fun h=>c5 (flag_of (by decide) h),
    fun h=>c6 (flag_of (by decide) h),
    fun h=>c7 (flag_of (by decide) h),
    fun h=>(c8 (flag_of (by decide) h)).below hbk,
    fun h=>(c9 (flag_of (by decide) h)).below hbk,
    fun h=>c10 (flag_of (by decide) h),
    fun h=>c11 (flag_of (by decide) h),
    fun h=>c12 (flag_of (by decide) h),
    fun h=>(c13 (flag_of (by decide) h)).below hbk,
    fun h=>(c14 (flag_of (by decide) h)).below hbk,
    fun h=>c15 (flag_of (by decide) h),
    fun h=>c16 (flag_of (by decide) h),
    fun h=>(c17 (flag_of (by decide) h)).below hbk,
    fun h=>(c18 (flag_of (by decide) h)).below hbk,
    fun h=>c19 (flag_of (by decide) h),
    fun h=>c20 (flag_of (by decide) h),
    fun h=>(c21 (flag_of (by decide) h)).below hbk,
    fun h=>(c22 (flag_of (by decide) h)).below hbk,
    fun h=>c23 (flag_of (by decide) h),
    fun h=>c24 (flag_of (by decide) h),
    fun h=>(c25 (flag_of (by decide) h)).below hbk,
    fun h=>(c26 (flag_of (by decide) h)).below hbk,
    fun h=>c27 (flag_of (by decide) h),
    fun h=>c28 (flag_of (by decide) h),
    fun h=>(c29 (flag_of (by decide) h)).below hbk,
    fun h=>(c30 (flag_of (by decide) h)).below hbk,
    fun h=>(c31 (flag_of (by decide) h)).below hbk,
    fun h=>c32 (flag_of (by decide) h),
    fun h=>flag_old (c33 (flag_of (by decide) h))⟩
 ·have hp:=ready_after (o:={dst:=some 24,op:=Go.Op.load 25 (Go.Operand.tmp 1),type:=25,pos:= "outright.go:35",after:= #[],guard:=none}) hi rfl
  simp[Region.binds]at hp
  unfold pnF
  have hbk:Below w'.heap.size w' w':=Below.refl _ _
  obtain⟨u1,u2,u3,u4⟩:=HCX.out w' hb
  refine wpOp_shut (o:={dst:=some 24,op:=Go.Op.load 25 (Go.Operand.tmp 1),type:=25,pos:= "outright.go:35",after:= #[],guard:=none}) rfl (fun K hK=> ?_)
  go_simp
  exact hK.out _ _ ⟨by simp[hsz],(hb.trans (hbk.mono hB)),(Nat.le_trans hB hbk.size),_,_,_,_,_,_,_,_,_,_,_,_,_,_,_,_,_,_,_,_,_,_,_,_,_,_,_,_,_,_,_,_,_,rfl,
    fun h=>(c0 (flag_of (by decide) h)).below hbk,
    fun h=>c1 (flag_of (by decide) h),
    fun h=>(c2 (flag_of (by decide) h)).below hbk,
    fun h=>(c3 (flag_of (by decide) h)).below hbk,
    fun _=>rfl,
    fun h=>c5 (flag_of (by decide) h),
    fun h=>c6 (flag_of (by decide) h),
    fun h=>c7 (flag_of (by decide) h),
    fun h=>(c8 (flag_of (by decide) h)).below hbk,
    fun h=>(c9 (flag_of (by decide) h)).below hbk,
    fun h=>c10 (flag_of (by decide) h),
    fun h=>c11 (flag_of (by decide) h),
    fun h=>c12 (flag_of (by decide) h),
    fun h=>(c13 (flag_of (by decide) h)).below hbk,
    fun h=>(c14 (flag_of (by decide) h)).below hbk,
    fun h=>c15 (flag_of (by decide) h),
    fun h=>c16 (flag_of (by decide) h),
    fun h=>(c17 (flag_of (by decide) h)).below hbk,
    fun h=>(c18 (flag_of (by decide) h)).below hbk,
    fun h=>c19 (flag_of (by decide) h),
    fun h=>c20 (flag_of (by decide) h),
    fun h=>(c21 (flag_of (by decide) h)).below hbk,
    fun h=>(c22 (flag_of (by decide) h)).below hbk,
    fun h=>c23 (flag_of (by decide) h),
    fun h=>c24 (flag_of (by decide) h),
    fun h=>(c25 (flag_of (by decide) h)).below hbk,
    fun h=>(c26 (flag_of (by decide) h)).below hbk,
    fun h=>c27 (flag_of (by decide) h),
    fun h=>c28 (flag_of (by decide) h),
    fun h=>(c29 (flag_of (by decide) h)).below hbk,
    fun h=>(c30 (flag_of (by decide) h)).below hbk,
    fun h=>(c31 (flag_of (by decide) h)).below hbk,
    fun h=>c32 (flag_of (by decide) h),
    fun h=>flag_old (c33 (flag_of (by decide) h))⟩
 ·have hp:=ready_after (o:={dst:=some 25,op:=Go.Op.build 35 #[(0,Go.Operand.const (Go.Value.int Go.IntKind.u8 4))],type:=35,pos:= "outright.go:35",after:= #[],guard:=none}) hi rfl
  simp[Region.binds]at hp
  unfold pnF
  have hbk:Below w'.heap.size w' w':=Below.refl _ _
  refine wpOp_shut (o:={dst:=some 25,op:=Go.Op.build 35 #[(0,Go.Operand.const (Go.Value.int Go.IntKind.u8 4))],type:=35,pos:= "outright.go:35",after:= #[],guard:=none}) rfl (fun K hK=> ?_)
  go_simp
  exact hK.out _ _ ⟨by simp[hsz],(hb.trans (hbk.mono hB)),(Nat.le_trans hB hbk.size),_,_,_,_,_,_,_,_,_,_,_,_,_,_,_,_,_,_,_,_,_,_,_,_,_,_,_,_,_,_,_,_,_,rfl,
    fun h=>(c0 (flag_of (by decide) h)).below hbk,
    fun h=>c1 (flag_of (by decide) h),
    fun h=>(c2 (flag_of (by decide) h)).below hbk,
    fun h=>(c3 (flag_of (by decide) h)).below hbk,
    fun h=>c4 (flag_of (by decide) h),
    fun _=>rfl,
    fun h=>c6 (flag_of (by decide) h),
    fun h=>c7 (flag_of (by decide) h),
    fun h=>(c8 (flag_of (by decide) h)).below hbk,
    fun h=>(c9 (flag_of (by decide) h)).below hbk,
    fun h=>c10 (flag_of (by decide) h),
    fun h=>c11 (flag_of (by decide) h),
    fun h=>c12 (flag_of (by decide) h),
    fun h=>(c13 (flag_of (by decide) h)).below hbk,
    fun h=>(c14 (flag_of (by decide) h)).below hbk,
    fun h=>c15 (flag_of (by decide) h),
    fun h=>c16 (flag_of (by decide) h),
    fun h=>(c17 (flag_of (by decide) h)).below hbk,
    fun h=>(c18 (flag_of (by decide) h)).below hbk,
    fun h=>c19 (flag_of (by decide) h),
    fun h=>c20 (flag_of (by decide) h),
    fun h=>(c21 (flag_of (by decide) h)).below hbk,
    fun h=>(c22 (flag_of (by decide) h)).below hbk,
    fun h=>c23 (flag_of (by decide) h),
    fun h=>c24 (flag_of (by decide) h),
    fun h=>(c25 (flag_of (by decide) h)).below hbk,
    fun h=>(c26 (flag_of (by decide) h)).below hbk,
    fun h=>c27 (flag_of (by decide) h),
    fun h=>c28 (flag_of (by decide) h),
    fun h=>(c29 (flag_of (by decide) h)).below hbk,
    fun h=>(c30 (flag_of (by decide) h)).below hbk,
    fun h=>(c31 (flag_of (by decide) h)).below hbk,
    fun h=>c32 (flag_of (by decide) h),
    fun h=>flag_old (c33 (flag_of (by decide) h))⟩
 ·have hp:=ready_after (o:={dst:=some 26,op:=Go.Op.load 25 (Go.Operand.tmp 1),type:=25,pos:= "outright.go:35",after:= #[],guard:=none}) hi rfl
  simp[Region.binds]at hp
  unfold pnF
  have hbk:Below w'.heap.size w' w':=Below.refl _ _
  obtain⟨u1,u2,u3,u4⟩:=HCX.out w' hb
  refine wpOp_shut (o:={dst:=some 26,op:=Go.Op.load 25 (Go.Operand.tmp 1),type:=25,pos:= "outright.go:35",after:= #[],guard:=none}) rfl (fun K hK=> ?_)
  go_simp
  exact hK.out _ _ ⟨by simp[hsz],(hb.trans (hbk.mono hB)),(Nat.le_trans hB hbk.size),_,_,_,_,_,_,_,_,_,_,_,_,_,_,_,_,_,_,_,_,_,_,_,_,_,_,_,_,_,_,_,_,_,rfl,
    fun h=>(c0 (flag_of (by decide) h)).below hbk,
    fun h=>c1 (flag_of (by decide) h),
    fun h=>(c2 (flag_of (by decide) h)).below hbk,
    fun h=>(c3 (flag_of (by decide) h)).below hbk,
    fun h=>c4 (flag_of (by decide) h),
    fun h=>c5 (flag_of (by decide) h),
    fun _=>rfl,
    fun h=>c7 (flag_of (by decide) h),
    fun h=>(c8 (flag_of (by decide) h)).below hbk,
    fun h=>(c9 (flag_of (by decide) h)).below hbk,
    fun h=>c10 (flag_of (by decide) h),
    fun h=>c11 (flag_of (by decide) h),
    fun h=>c12 (flag_of (by decide) h),
    fun h=>(c13 (flag_of (by decide) h)).below hbk,
    fun h=>(c14 (flag_of (by decide) h)).below hbk,
    fun h=>c15 (flag_of (by decide) h),
    fun h=>c16 (flag_of (by decide) h),
    fun h=>(c17 (flag_of (by decide) h)).below hbk,
    fun h=>(c18 (flag_of (by decide) h)).below hbk,
    fun h=>c19 (flag_of (by decide) h),
    fun h=>c20 (flag_of (by decide) h),
    fun h=>(c21 (flag_of (by decide) h)).below hbk,
    fun h=>(c22 (flag_of (by decide) h)).below hbk,
    fun h=>c23 (flag_of (by decide) h),
    fun h=>c24 (flag_of (by decide) h),
    fun h=>(c25 (flag_of (by decide) h)).below hbk,
    fun h=>(c26 (flag_of (by decide) h)).below hbk,
    fun h=>c27 (flag_of (by decide) h),
    fun h=>c28 (flag_of (by decide) h),
    fun h=>(c29 (flag_of (by decide) h)).below hbk,
    fun h=>(c30 (flag_of (by decide) h)).below hbk,
    fun h=>(c31 (flag_of (by decide) h)).below hbk,
    fun h=>c32 (flag_of (by decide) h),
    fun h=>flag_old (c33 (flag_of (by decide) h))⟩
 ·have hp:=ready_after (o:={dst:=some 27,op:=Go.Op.load 25 (Go.Operand.tmp 2),type:=25,pos:= "outright.go:35",after:= #[],guard:=none}) hi rfl
  simp[Region.binds]at hp
  unfold pnF
  have hbk:Below w'.heap.size w' w':=Below.refl _ _
  obtain⟨u1,u2,u3,u4⟩:=HCX.out w' hb
  refine wpOp_shut (o:={dst:=some 27,op:=Go.Op.load 25 (Go.Operand.tmp 2),type:=25,pos:= "outright.go:35",after:= #[],guard:=none}) rfl (fun K hK=> ?_)
  go_simp
  exact hK.out _ _ ⟨by simp[hsz],(hb.trans (hbk.mono hB)),(Nat.le_trans hB hbk.size),_,_,_,_,_,_,_,_,_,_,_,_,_,_,_,_,_,_,_,_,_,_,_,_,_,_,_,_,_,_,_,_,_,rfl,
    fun h=>(c0 (flag_of (by decide) h)).below hbk,
    fun h=>c1 (flag_of (by decide) h),
    fun h=>(c2 (flag_of (by decide) h)).below hbk,
    fun h=>(c3 (flag_of (by decide) h)).below hbk,
    fun h=>c4 (flag_of (by decide) h),
    fun h=>c5 (flag_of (by decide) h),
    fun h=>c6 (flag_of (by decide) h),
    fun _=>rfl,
    fun h=>(c8 (flag_of (by decide) h)).below hbk,
    fun h=>(c9 (flag_of (by decide) h)).below hbk,
    fun h=>c10 (flag_of (by decide) h),
    fun h=>c11 (flag_of (by decide) h),
    fun h=>c12 (flag_of (by decide) h),
    fun h=>(c13 (flag_of (by decide) h)).below hbk,
    fun h=>(c14 (flag_of (by decide) h)).below hbk,
    fun h=>c15 (flag_of (by decide) h),
    fun h=>c16 (flag_of (by decide) h),
    fun h=>(c17 (flag_of (by decide) h)).below hbk,
    fun h=>(c18 (flag_of (by decide) h)).below hbk,
    fun h=>c19 (flag_of (by decide) h),
    fun h=>c20 (flag_of (by decide) h),
    fun h=>(c21 (flag_of (by decide) h)).below hbk,
    fun h=>(c22 (flag_of (by decide) h)).below hbk,
    fun h=>c23 (flag_of (by decide) h),
    fun h=>c24 (flag_of (by decide) h),
    fun h=>(c25 (flag_of (by decide) h)).below hbk,
    fun h=>(c26 (flag_of (by decide) h)).below hbk,
    fun h=>c27 (flag_of (by decide) h),
    fun h=>c28 (flag_of (by decide) h),
    fun h=>(c29 (flag_of (by decide) h)).below hbk,
    fun h=>(c30 (flag_of (by decide) h)).below hbk,
    fun h=>(c31 (flag_of (by decide) h)).below hbk,
    fun h=>c32 (flag_of (by decide) h),
    fun h=>flag_old (c33 (flag_of (by decide) h))⟩
 ·have hp:=ready_after (o:={dst:=some 28,op:=Go.Op.buildSlice 36 2 #[(0,Go.Operand.tmp 26),(1,Go.Operand.tmp 27)],type:=36,pos:= "outright.go:35",after:= #[{on:=6,ground:=Go.Ground.data},{on:=7,ground:=Go.Ground.data}],guard:=none}) hi rfl
  simp[Region.binds]at hp
  unfold pnF
  obtain rfl:=c6 (show listed.getD 6 false=true by first|exact hp|exact hp.1|exact hp.2|exact hp.2.1|simp[hp])
  obtain rfl:=c7 (show listed.getD 7 false=true by first|exact hp|exact hp.1|exact hp.2|exact hp.2.1|simp[hp])
  refine wpOp_shut (o:={dst:=some 28,op:=Go.Op.buildSlice 36 2 #[(0,Go.Operand.tmp 26),(1,Go.Operand.tmp 27)],type:=36,pos:= "outright.go:35",after:= #[{on:=6,ground:=Go.Ground.data},{on:=7,ground:=Go.Ground.data}],guard:=none}) rfl (fun K hK=> ?_)
  go_simp
  have hbk:=bx1 w' (.cells #[.slice (some ⟨bx,0,none⟩) 1 1,.int .i64 0,.slice (some ⟨bY,0,none⟩) 1 1,.int .i64 0] 25)
  exact hK.out _ _ ⟨by simp[hsz],(hb.trans (hbk.mono hB)),(Nat.le_trans hB hbk.size),_,_,_,_,_,_,_,_,_,_,_,_,_,_,_,_,_,_,_,_,_,_,_,_,_,_,_,_,_,_,_,_,_,rfl,
    fun h=>(c0 (flag_of (by decide) h)).below hbk,
    fun h=>c1 (flag_of (by decide) h),
    fun h=>(c2 (flag_of (by decide) h)).below hbk,
    fun h=>(c3 (flag_of (by decide) h)).below hbk,
    fun h=>c4 (flag_of (by decide) h),
    fun h=>c5 (flag_of (by decide) h),
    fun _=>rfl,
    fun _=>rfl,
    fun _=>⟨_,rfl,bx_new w' _⟩,
    fun h=>(c9 (flag_of (by decide) h)).below hbk,
    fun h=>c10 (flag_of (by decide) h),
    fun h=>c11 (flag_of (by decide) h),
    fun h=>c12 (flag_of (by decide) h),
    fun h=>(c13 (flag_of (by decide) h)).below hbk,
    fun h=>(c14 (flag_of (by decide) h)).below hbk,
    fun h=>c15 (flag_of (by decide) h),
    fun h=>c16 (flag_of (by decide) h),
    fun h=>(c17 (flag_of (by decide) h)).below hbk,
    fun h=>(c18 (flag_of (by decide) h)).below hbk,
    fun h=>c19 (flag_of (by decide) h),
    fun h=>c20 (flag_of (by decide) h),
    fun h=>(c21 (flag_of (by decide) h)).below hbk,
    fun h=>(c22 (flag_of (by decide) h)).below hbk,
    fun h=>c23 (flag_of (by decide) h),
    fun h=>c24 (flag_of (by decide) h),
    fun h=>(c25 (flag_of (by decide) h)).below hbk,
    fun h=>(c26 (flag_of (by decide) h)).below hbk,
    fun h=>c27 (flag_of (by decide) h),
    fun h=>c28 (flag_of (by decide) h),
    fun h=>(c29 (flag_of (by decide) h)).below hbk,
    fun h=>(c30 (flag_of (by decide) h)).below hbk,
    fun h=>(c31 (flag_of (by decide) h)).below hbk,
    fun h=>c32 (flag_of (by decide) h),
    fun h=>flag_old (c33 (flag_of (by decide) h))⟩
 ·have hp:=ready_after (o:={dst:=some 29,op:=Go.Op.call {callee:=Go.Callee.value (Go.Operand.func 10),args:= #[Go.Operand.tmp 25,Go.Operand.tmp 28],argTypes:= #[35,36]},type:=25,pos:= "outright.go:35",after:= #[{on:=5,ground:=Go.Ground.data},{on:=8,ground:=Go.Ground.data},{on:=3,ground:=Go.Ground.chain}],guard:=none}) hi rfl
  simp[Region.binds]at hp
  unfold pnF
  obtain rfl:=c5 (show listed.getD 5 false=true by first|exact hp|exact hp.1|exact hp.2|exact hp.2.1|simp[hp])
  obtain⟨nb,rfl,hnb⟩:=id (c8 (show listed.getD 8 false=true by first|exact hp|exact hp.1|exact hp.2|exact hp.2.1|simp[hp]))
  refine wpOp_shut (o:={dst:=some 29,op:=Go.Op.call {callee:=Go.Callee.value (Go.Operand.func 10),args:= #[Go.Operand.tmp 25,Go.Operand.tmp 28],argTypes:= #[35,36]},type:=25,pos:= "outright.go:35",after:= #[{on:=5,ground:=Go.Ground.data},{on:=8,ground:=Go.Ground.data},{on:=3,ground:=Go.Ground.chain}],guard:=none}) rfl (fun K hK=> ?_)
  go_simp
  refine(of8_row (kindP 4) [⟨some ⟨bx,0,none⟩,1,[⟨ruleLf ⟨#[120]⟩,none,0⟩],0⟩,⟨some ⟨bY,0,none⟩,1,[⟨ruleLf ⟨#[121]⟩,none,0⟩],0⟩] [xT,yT] nb w' (kind_wf _ (by decide)) hnb rfl (fun t ht=>by simp only[List.mem_cons,List.not_mem_nil,or_false]at ht;rcases ht with rfl|rfl;exact⟨_,HTX.out.1.below hb⟩;exact⟨_,HTX.out.2.below hb⟩) (by simp) okSeq (by kernel_rfl) _ 2 2 rfl).mono ?_
  rintro e w1 ⟨v,rfl,htx,hto,hbk⟩
  go_wp2_with fail
  exact hK.out _ _ ⟨by simp[hsz],(hb.trans (hbk.mono hB)),(Nat.le_trans hB hbk.size),_,_,_,_,_,_,_,_,_,_,_,_,_,_,_,_,_,_,_,_,_,_,_,_,_,_,_,_,_,_,_,_,_,rfl,
    fun h=>(c0 (flag_of (by decide) h)).below hbk,
    fun h=>c1 (flag_of (by decide) h),
    fun h=>(c2 (flag_of (by decide) h)).below hbk,
    fun h=>(c3 (flag_of (by decide) h)).below hbk,
    fun h=>c4 (flag_of (by decide) h),
    fun _=>rfl,
    fun h=>c6 (flag_of (by decide) h),
    fun h=>c7 (flag_of (by decide) h),
    fun h=>(c8 (flag_of (by decide) h)).below hbk,
    fun _=>⟨v,rfl,hto,htx.tr⟩,
    fun h=>c10 (flag_of (by decide) h),
    fun h=>c11 (flag_of (by decide) h),
    fun h=>c12 (flag_of (by decide) h),
    fun h=>(c13 (flag_of (by decide) h)).below hbk,
    fun h=>(c14 (flag_of (by decide) h)).below hbk,
    fun h=>c15 (flag_of (by decide) h),
    fun h=>c16 (flag_of (by decide) h),
    fun h=>(c17 (flag_of (by decide) h)).below hbk,
    fun h=>(c18 (flag_of (by decide) h)).below hbk,
    fun h=>c19 (flag_of (by decide) h),
    fun h=>c20 (flag_of (by decide) h),
    fun h=>(c21 (flag_of (by decide) h)).below hbk,
    fun h=>(c22 (flag_of (by decide) h)).below hbk,
    fun h=>c23 (flag_of (by decide) h),
    fun h=>c24 (flag_of (by decide) h),
    fun h=>(c25 (flag_of (by decide) h)).below hbk,
    fun h=>(c26 (flag_of (by decide) h)).below hbk,
    fun h=>c27 (flag_of (by decide) h),
    fun h=>c28 (flag_of (by decide) h),
    fun h=>(c29 (flag_of (by decide) h)).below hbk,
    fun h=>(c30 (flag_of (by decide) h)).below hbk,
    fun h=>(c31 (flag_of (by decide) h)).below hbk,
    fun h=>c32 (flag_of (by decide) h),
    fun h=>flag_old (c33 (flag_of (by decide) h))⟩
 ·have hp:=ready_after (o:={dst:=some 30,op:=Go.Op.build 35 #[(0,Go.Operand.const (Go.Value.int Go.IntKind.u8 5))],type:=35,pos:= "outright.go:35",after:= #[],guard:=none}) hi rfl
  simp[Region.binds]at hp
  unfold pnF
  have hbk:Below w'.heap.size w' w':=Below.refl _ _
  refine wpOp_shut (o:={dst:=some 30,op:=Go.Op.build 35 #[(0,Go.Operand.const (Go.Value.int Go.IntKind.u8 5))],type:=35,pos:= "outright.go:35",after:= #[],guard:=none}) rfl (fun K hK=> ?_)
  go_simp
  exact hK.out _ _ ⟨by simp[hsz],(hb.trans (hbk.mono hB)),(Nat.le_trans hB hbk.size),_,_,_,_,_,_,_,_,_,_,_,_,_,_,_,_,_,_,_,_,_,_,_,_,_,_,_,_,_,_,_,_,_,rfl,
    fun h=>(c0 (flag_of (by decide) h)).below hbk,
    fun h=>c1 (flag_of (by decide) h),
    fun h=>(c2 (flag_of (by decide) h)).below hbk,
    fun h=>(c3 (flag_of (by decide) h)).below hbk,
    fun h=>c4 (flag_of (by decide) h),
    fun h=>c5 (flag_of (by decide) h),
    fun h=>c6 (flag_of (by decide) h),
    fun h=>c7 (flag_of (by decide) h),
    fun h=>(c8 (flag_of (by decide) h)).below hbk,
    fun h=>(c9 (flag_of (by decide) h)).below hbk,
    fun _=>rfl,
    fun h=>c11 (flag_of (by decide) h),
    fun h=>c12 (flag_of (by decide) h),
    fun h=>(c13 (flag_of (by decide) h)).below hbk,
    fun h=>(c14 (flag_of (by decide) h)).below hbk,
    fun h=>c15 (flag_of (by decide) h),
    fun h=>c16 (flag_of (by decide) h),
    fun h=>(c17 (flag_of (by decide) h)).below hbk,
    fun h=>(c18 (flag_of (by decide) h)).below hbk,
    fun h=>c19 (flag_of (by decide) h),
    fun h=>c20 (flag_of (by decide) h),
    fun h=>(c21 (flag_of (by decide) h)).below hbk,
    fun h=>(c22 (flag_of (by decide) h)).below hbk,
    fun h=>c23 (flag_of (by decide) h),
    fun h=>c24 (flag_of (by decide) h),
    fun h=>(c25 (flag_of (by decide) h)).below hbk,
    fun h=>(c26 (flag_of (by decide) h)).below hbk,
    fun h=>c27 (flag_of (by decide) h),
    fun h=>c28 (flag_of (by decide) h),
    fun h=>(c29 (flag_of (by decide) h)).below hbk,
    fun h=>(c30 (flag_of (by decide) h)).below hbk,
    fun h=>(c31 (flag_of (by decide) h)).below hbk,
    fun h=>c32 (flag_of (by decide) h),
    fun h=>flag_old (c33 (flag_of (by decide) h))⟩
 ·have hp:=ready_after (o:={dst:=some 31,op:=Go.Op.load 25 (Go.Operand.tmp 1),type:=25,pos:= "outright.go:35",after:= #[],guard:=none}) hi rfl
  simp[Region.binds]at hp
  unfold pnF
  have hbk:Below w'.heap.size w' w':=Below.refl _ _
  obtain⟨u1,u2,u3,u4⟩:=HCX.out w' hb
  refine wpOp_shut (o:={dst:=some 31,op:=Go.Op.load 25 (Go.Operand.tmp 1),type:=25,pos:= "outright.go:35",after:= #[],guard:=none}) rfl (fun K hK=> ?_)
  go_simp
  exact hK.out _ _ ⟨by simp[hsz],(hb.trans (hbk.mono hB)),(Nat.le_trans hB hbk.size),_,_,_,_,_,_,_,_,_,_,_,_,_,_,_,_,_,_,_,_,_,_,_,_,_,_,_,_,_,_,_,_,_,rfl,
    fun h=>(c0 (flag_of (by decide) h)).below hbk,
    fun h=>c1 (flag_of (by decide) h),
    fun h=>(c2 (flag_of (by decide) h)).below hbk,
    fun h=>(c3 (flag_of (by decide) h)).below hbk,
    fun h=>c4 (flag_of (by decide) h),
    fun h=>c5 (flag_of (by decide) h),
    fun h=>c6 (flag_of (by decide) h),
    fun h=>c7 (flag_of (by decide) h),
    fun h=>(c8 (flag_of (by decide) h)).below hbk,
    fun h=>(c9 (flag_of (by decide) h)).below hbk,
    fun h=>c10 (flag_of (by decide) h),
    fun _=>rfl,
    fun h=>c12 (flag_of (by decide) h),
    fun h=>(c13 (flag_of (by decide) h)).below hbk,
    fun h=>(c14 (flag_of (by decide) h)).below hbk,
    fun h=>c15 (flag_of (by decide) h),
    fun h=>c16 (flag_of (by decide) h),
    fun h=>(c17 (flag_of (by decide) h)).below hbk,
    fun h=>(c18 (flag_of (by decide) h)).below hbk,
    fun h=>c19 (flag_of (by decide) h),
    fun h=>c20 (flag_of (by decide) h),
    fun h=>(c21 (flag_of (by decide) h)).below hbk,
    fun h=>(c22 (flag_of (by decide) h)).below hbk,
    fun h=>c23 (flag_of (by decide) h),
    fun h=>c24 (flag_of (by decide) h),
    fun h=>(c25 (flag_of (by decide) h)).below hbk,
    fun h=>(c26 (flag_of (by decide) h)).below hbk,
    fun h=>c27 (flag_of (by decide) h),
    fun h=>c28 (flag_of (by decide) h),
    fun h=>(c29 (flag_of (by decide) h)).below hbk,
    fun h=>(c30 (flag_of (by decide) h)).below hbk,
    fun h=>(c31 (flag_of (by decide) h)).below hbk,
    fun h=>c32 (flag_of (by decide) h),
    fun h=>flag_old (c33 (flag_of (by decide) h))⟩
 ·have hp:=ready_after (o:={dst:=some 32,op:=Go.Op.load 25 (Go.Operand.tmp 2),type:=25,pos:= "outright.go:35",after:= #[],guard:=none}) hi rfl
  simp[Region.binds]at hp
  unfold pnF
  have hbk:Below w'.heap.size w' w':=Below.refl _ _
  obtain⟨u1,u2,u3,u4⟩:=HCX.out w' hb
  refine wpOp_shut (o:={dst:=some 32,op:=Go.Op.load 25 (Go.Operand.tmp 2),type:=25,pos:= "outright.go:35",after:= #[],guard:=none}) rfl (fun K hK=> ?_)
  go_simp
  exact hK.out _ _ ⟨by simp[hsz],(hb.trans (hbk.mono hB)),(Nat.le_trans hB hbk.size),_,_,_,_,_,_,_,_,_,_,_,_,_,_,_,_,_,_,_,_,_,_,_,_,_,_,_,_,_,_,_,_,_,rfl,
    fun h=>(c0 (flag_of (by decide) h)).below hbk,
    fun h=>c1 (flag_of (by decide) h),
    fun h=>(c2 (flag_of (by decide) h)).below hbk,
    fun h=>(c3 (flag_of (by decide) h)).below hbk,
    fun h=>c4 (flag_of (by decide) h),
    fun h=>c5 (flag_of (by decide) h),
    fun h=>c6 (flag_of (by decide) h),
    fun h=>c7 (flag_of (by decide) h),
    fun h=>(c8 (flag_of (by decide) h)).below hbk,
    fun h=>(c9 (flag_of (by decide) h)).below hbk,
    fun h=>c10 (flag_of (by decide) h),
    fun h=>c11 (flag_of (by decide) h),
    fun _=>rfl,
    fun h=>(c13 (flag_of (by decide) h)).below hbk,
    fun h=>(c14 (flag_of (by decide) h)).below hbk,
    fun h=>c15 (flag_of (by decide) h),
    fun h=>c16 (flag_of (by decide) h),
    fun h=>(c17 (flag_of (by decide) h)).below hbk,
    fun h=>(c18 (flag_of (by decide) h)).below hbk,
    fun h=>c19 (flag_of (by decide) h),
    fun h=>c20 (flag_of (by decide) h),
    fun h=>(c21 (flag_of (by decide) h)).below hbk,
    fun h=>(c22 (flag_of (by decide) h)).below hbk,
    fun h=>c23 (flag_of (by decide) h),
    fun h=>c24 (flag_of (by decide) h),
    fun h=>(c25 (flag_of (by decide) h)).below hbk,
    fun h=>(c26 (flag_of (by decide) h)).below hbk,
    fun h=>c27 (flag_of (by decide) h),
    fun h=>c28 (flag_of (by decide) h),
    fun h=>(c29 (flag_of (by decide) h)).below hbk,
    fun h=>(c30 (flag_of (by decide) h)).below hbk,
    fun h=>(c31 (flag_of (by decide) h)).below hbk,
    fun h=>c32 (flag_of (by decide) h),
    fun h=>flag_old (c33 (flag_of (by decide) h))⟩
 ·have hp:=ready_after (o:={dst:=some 33,op:=Go.Op.buildSlice 36 2 #[(0,Go.Operand.tmp 31),(1,Go.Operand.tmp 32)],type:=36,pos:= "outright.go:35",after:= #[{on:=11,ground:=Go.Ground.data},{on:=12,ground:=Go.Ground.data}],guard:=none}) hi rfl
  simp[Region.binds]at hp
  unfold pnF
  obtain rfl:=c11 (show listed.getD 11 false=true by first|exact hp|exact hp.1|exact hp.2|exact hp.2.1|simp[hp])
  obtain rfl:=c12 (show listed.getD 12 false=true by first|exact hp|exact hp.1|exact hp.2|exact hp.2.1|simp[hp])
  refine wpOp_shut (o:={dst:=some 33,op:=Go.Op.buildSlice 36 2 #[(0,Go.Operand.tmp 31),(1,Go.Operand.tmp 32)],type:=36,pos:= "outright.go:35",after:= #[{on:=11,ground:=Go.Ground.data},{on:=12,ground:=Go.Ground.data}],guard:=none}) rfl (fun K hK=> ?_)
  go_simp
  have hbk:=bx1 w' (.cells #[.slice (some ⟨bx,0,none⟩) 1 1,.int .i64 0,.slice (some ⟨bY,0,none⟩) 1 1,.int .i64 0] 25)
  exact hK.out _ _ ⟨by simp[hsz],(hb.trans (hbk.mono hB)),(Nat.le_trans hB hbk.size),_,_,_,_,_,_,_,_,_,_,_,_,_,_,_,_,_,_,_,_,_,_,_,_,_,_,_,_,_,_,_,_,_,rfl,
    fun h=>(c0 (flag_of (by decide) h)).below hbk,
    fun h=>c1 (flag_of (by decide) h),
    fun h=>(c2 (flag_of (by decide) h)).below hbk,
    fun h=>(c3 (flag_of (by decide) h)).below hbk,
    fun h=>c4 (flag_of (by decide) h),
    fun h=>c5 (flag_of (by decide) h),
    fun h=>c6 (flag_of (by decide) h),
    fun h=>c7 (flag_of (by decide) h),
    fun h=>(c8 (flag_of (by decide) h)).below hbk,
    fun h=>(c9 (flag_of (by decide) h)).below hbk,
    fun h=>c10 (flag_of (by decide) h),
    fun _=>rfl,
    fun _=>rfl,
    fun _=>⟨_,rfl,bx_new w' _⟩,
    fun h=>(c14 (flag_of (by decide) h)).below hbk,
    fun h=>c15 (flag_of (by decide) h),
    fun h=>c16 (flag_of (by decide) h),
    fun h=>(c17 (flag_of (by decide) h)).below hbk,
    fun h=>(c18 (flag_of (by decide) h)).below hbk,
    fun h=>c19 (flag_of (by decide) h),
    fun h=>c20 (flag_of (by decide) h),
    fun h=>(c21 (flag_of (by decide) h)).below hbk,
    fun h=>(c22 (flag_of (by decide) h)).below hbk,
    fun h=>c23 (flag_of (by decide) h),
    fun h=>c24 (flag_of (by decide) h),
    fun h=>(c25 (flag_of (by decide) h)).below hbk,
    fun h=>(c26 (flag_of (by decide) h)).below hbk,
    fun h=>c27 (flag_of (by decide) h),
    fun h=>c28 (flag_of (by decide) h),
    fun h=>(c29 (flag_of (by decide) h)).below hbk,
    fun h=>(c30 (flag_of (by decide) h)).below hbk,
    fun h=>(c31 (flag_of (by decide) h)).below hbk,
    fun h=>c32 (flag_of (by decide) h),
    fun h=>flag_old (c33 (flag_of (by decide) h))⟩
 ·have hp:=ready_after (o:={dst:=some 34,op:=Go.Op.call {callee:=Go.Callee.value (Go.Operand.func 10),args:= #[Go.Operand.tmp 30,Go.Operand.tmp 33],argTypes:= #[35,36]},type:=25,pos:= "outright.go:35",after:= #[{on:=10,ground:=Go.Ground.data},{on:=13,ground:=Go.Ground.data},{on:=9,ground:=Go.Ground.chain}],guard:=none}) hi rfl
  simp[Region.binds]at hp
  unfold pnF
  obtain rfl:=c10 (show listed.getD 10 false=true by first|exact hp|exact hp.1|exact hp.2|exact hp.2.1|simp[hp])
  obtain⟨nb,rfl,hnb⟩:=id (c13 (show listed.getD 13 false=true by first|exact hp|exact hp.1|exact hp.2|exact hp.2.1|simp[hp]))
  refine wpOp_shut (o:={dst:=some 34,op:=Go.Op.call {callee:=Go.Callee.value (Go.Operand.func 10),args:= #[Go.Operand.tmp 30,Go.Operand.tmp 33],argTypes:= #[35,36]},type:=25,pos:= "outright.go:35",after:= #[{on:=10,ground:=Go.Ground.data},{on:=13,ground:=Go.Ground.data},{on:=9,ground:=Go.Ground.chain}],guard:=none}) rfl (fun K hK=> ?_)
  go_simp
  refine(of8_row (kindP 5) [⟨some ⟨bx,0,none⟩,1,[⟨ruleLf ⟨#[120]⟩,none,0⟩],0⟩,⟨some ⟨bY,0,none⟩,1,[⟨ruleLf ⟨#[121]⟩,none,0⟩],0⟩] [xT,yT] nb w' (kind_wf _ (by decide)) hnb rfl (fun t ht=>by simp only[List.mem_cons,List.not_mem_nil,or_false]at ht;rcases ht with rfl|rfl;exact⟨_,HTX.out.1.below hb⟩;exact⟨_,HTX.out.2.below hb⟩) (by simp) okCho (by kernel_rfl) _ 2 2 rfl).mono ?_
  rintro e w1 ⟨v,rfl,htx,hto,hbk⟩
  go_wp2_with fail
  exact hK.out _ _ ⟨by simp[hsz],(hb.trans (hbk.mono hB)),(Nat.le_trans hB hbk.size),_,_,_,_,_,_,_,_,_,_,_,_,_,_,_,_,_,_,_,_,_,_,_,_,_,_,_,_,_,_,_,_,_,rfl,
    fun h=>(c0 (flag_of (by decide) h)).below hbk,
    fun h=>c1 (flag_of (by decide) h),
    fun h=>(c2 (flag_of (by decide) h)).below hbk,
    fun h=>(c3 (flag_of (by decide) h)).below hbk,
    fun h=>c4 (flag_of (by decide) h),
    fun h=>c5 (flag_of (by decide) h),
    fun h=>c6 (flag_of (by decide) h),
    fun h=>c7 (flag_of (by decide) h),
    fun h=>(c8 (flag_of (by decide) h)).below hbk,
    fun h=>(c9 (flag_of (by decide) h)).below hbk,
    fun _=>rfl,
    fun h=>c11 (flag_of (by decide) h),
    fun h=>c12 (flag_of (by decide) h),
    fun h=>(c13 (flag_of (by decide) h)).below hbk,
    fun _=>⟨v,rfl,hto,htx.tr⟩,
    fun h=>c15 (flag_of (by decide) h),
    fun h=>c16 (flag_of (by decide) h),
    fun h=>(c17 (flag_of (by decide) h)).below hbk,
    fun h=>(c18 (flag_of (by decide) h)).below hbk,
    fun h=>c19 (flag_of (by decide) h),
    fun h=>c20 (flag_of (by decide) h),
    fun h=>(c21 (flag_of (by decide) h)).below hbk,
    fun h=>(c22 (flag_of (by decide) h)).below hbk,
    fun h=>c23 (flag_of (by decide) h),
    fun h=>c24 (flag_of (by decide) h),
    fun h=>(c25 (flag_of (by decide) h)).below hbk,
    fun h=>(c26 (flag_of (by decide) h)).below hbk,
    fun h=>c27 (flag_of (by decide) h),
    fun h=>c28 (flag_of (by decide) h),
    fun h=>(c29 (flag_of (by decide) h)).below hbk,
    fun h=>(c30 (flag_of (by decide) h)).below hbk,
    fun h=>(c31 (flag_of (by decide) h)).below hbk,
    fun h=>c32 (flag_of (by decide) h),
    fun h=>flag_old (c33 (flag_of (by decide) h))⟩
 ·have hp:=ready_after (o:={dst:=some 35,op:=Go.Op.build 35 #[(0,Go.Operand.const (Go.Value.int Go.IntKind.u8 6)),(4,Go.Operand.const (Go.Value.int Go.IntKind.i64 (-1)))],type:=35,pos:= "outright.go:35",after:= #[],guard:=none}) hi rfl
  simp[Region.binds]at hp
  unfold pnF
  have hbk:Below w'.heap.size w' w':=Below.refl _ _
  refine wpOp_shut (o:={dst:=some 35,op:=Go.Op.build 35 #[(0,Go.Operand.const (Go.Value.int Go.IntKind.u8 6)),(4,Go.Operand.const (Go.Value.int Go.IntKind.i64 (-1)))],type:=35,pos:= "outright.go:35",after:= #[],guard:=none}) rfl (fun K hK=> ?_)
  go_simp
  exact hK.out _ _ ⟨by simp[hsz],(hb.trans (hbk.mono hB)),(Nat.le_trans hB hbk.size),_,_,_,_,_,_,_,_,_,_,_,_,_,_,_,_,_,_,_,_,_,_,_,_,_,_,_,_,_,_,_,_,_,rfl,
    fun h=>(c0 (flag_of (by decide) h)).below hbk,
    fun h=>c1 (flag_of (by decide) h),
    fun h=>(c2 (flag_of (by decide) h)).below hbk,
    fun h=>(c3 (flag_of (by decide) h)).below hbk,
    fun h=>c4 (flag_of (by decide) h),
    fun h=>c5 (flag_of (by decide) h),
    fun h=>c6 (flag_of (by decide) h),
    fun h=>c7 (flag_of (by decide) h),
    fun h=>(c8 (flag_of (by decide) h)).below hbk,
    fun h=>(c9 (flag_of (by decide) h)).below hbk,
    fun h=>c10 (flag_of (by decide) h),
    fun h=>c11 (flag_of (by decide) h),
    fun h=>c12 (flag_of (by decide) h),
    fun h=>(c13 (flag_of (by decide) h)).below hbk,
    fun h=>(c14 (flag_of (by decide) h)).below hbk,
    fun _=>rfl,
    fun h=>c16 (flag_of (by decide) h),
    fun h=>(c17 (flag_of (by decide) h)).below hbk,
    fun h=>(c18 (flag_of (by decide) h)).below hbk,
    fun h=>c19 (flag_of (by decide) h),
    fun h=>c20 (flag_of (by decide) h),
    fun h=>(c21 (flag_of (by decide) h)).below hbk,
    fun h=>(c22 (flag_of (by decide) h)).below hbk,
    fun h=>c23 (flag_of (by decide) h),
    fun h=>c24 (flag_of (by decide) h),
    fun h=>(c25 (flag_of (by decide) h)).below hbk,
    fun h=>(c26 (flag_of (by decide) h)).below hbk,
    fun h=>c27 (flag_of (by decide) h),
    fun h=>c28 (flag_of (by decide) h),
    fun h=>(c29 (flag_of (by decide) h)).below hbk,
    fun h=>(c30 (flag_of (by decide) h)).below hbk,
    fun h=>(c31 (flag_of (by decide) h)).below hbk,
    fun h=>c32 (flag_of (by decide) h),
    fun h=>flag_old (c33 (flag_of (by decide) h))⟩
 ·have hp:=ready_after (o:={dst:=some 36,op:=Go.Op.load 25 (Go.Operand.tmp 1),type:=25,pos:= "outright.go:35",after:= #[],guard:=none}) hi rfl
  simp[Region.binds]at hp
  unfold pnF
  have hbk:Below w'.heap.size w' w':=Below.refl _ _
  obtain⟨u1,u2,u3,u4⟩:=HCX.out w' hb
  refine wpOp_shut (o:={dst:=some 36,op:=Go.Op.load 25 (Go.Operand.tmp 1),type:=25,pos:= "outright.go:35",after:= #[],guard:=none}) rfl (fun K hK=> ?_)
  go_simp
  exact hK.out _ _ ⟨by simp[hsz],(hb.trans (hbk.mono hB)),(Nat.le_trans hB hbk.size),_,_,_,_,_,_,_,_,_,_,_,_,_,_,_,_,_,_,_,_,_,_,_,_,_,_,_,_,_,_,_,_,_,rfl,
    fun h=>(c0 (flag_of (by decide) h)).below hbk,
    fun h=>c1 (flag_of (by decide) h),
    fun h=>(c2 (flag_of (by decide) h)).below hbk,
    fun h=>(c3 (flag_of (by decide) h)).below hbk,
    fun h=>c4 (flag_of (by decide) h),
    fun h=>c5 (flag_of (by decide) h),
    fun h=>c6 (flag_of (by decide) h),
    fun h=>c7 (flag_of (by decide) h),
    fun h=>(c8 (flag_of (by decide) h)).below hbk,
    fun h=>(c9 (flag_of (by decide) h)).below hbk,
    fun h=>c10 (flag_of (by decide) h),
    fun h=>c11 (flag_of (by decide) h),
    fun h=>c12 (flag_of (by decide) h),
    fun h=>(c13 (flag_of (by decide) h)).below hbk,
    fun h=>(c14 (flag_of (by decide) h)).below hbk,
    fun h=>c15 (flag_of (by decide) h),
    fun _=>rfl,
    fun h=>(c17 (flag_of (by decide) h)).below hbk,
    fun h=>(c18 (flag_of (by decide) h)).below hbk,
    fun h=>c19 (flag_of (by decide) h),
    fun h=>c20 (flag_of (by decide) h),
    fun h=>(c21 (flag_of (by decide) h)).below hbk,
    fun h=>(c22 (flag_of (by decide) h)).below hbk,
    fun h=>c23 (flag_of (by decide) h),
    fun h=>c24 (flag_of (by decide) h),
    fun h=>(c25 (flag_of (by decide) h)).below hbk,
    fun h=>(c26 (flag_of (by decide) h)).below hbk,
    fun h=>c27 (flag_of (by decide) h),
    fun h=>c28 (flag_of (by decide) h),
    fun h=>(c29 (flag_of (by decide) h)).below hbk,
    fun h=>(c30 (flag_of (by decide) h)).below hbk,
    fun h=>(c31 (flag_of (by decide) h)).below hbk,
    fun h=>c32 (flag_of (by decide) h),
    fun h=>flag_old (c33 (flag_of (by decide) h))⟩
 ·have hp:=ready_after (o:={dst:=some 37,op:=Go.Op.buildSlice 36 1 #[(0,Go.Operand.tmp 36)],type:=36,pos:= "outright.go:35",after:= #[{on:=16,ground:=Go.Ground.data}],guard:=none}) hi rfl
  simp[Region.binds]at hp
  unfold pnF
  obtain rfl:=c16 (show listed.getD 16 false=true by first|exact hp|exact hp.1|exact hp.2|exact hp.2.1|simp[hp])
  refine wpOp_shut (o:={dst:=some 37,op:=Go.Op.buildSlice 36 1 #[(0,Go.Operand.tmp 36)],type:=36,pos:= "outright.go:35",after:= #[{on:=16,ground:=Go.Ground.data}],guard:=none}) rfl (fun K hK=> ?_)
  go_simp
  have hbk:=bx1 w' (.cells #[.slice (some ⟨bx,0,none⟩) 1 1,.int .i64 0] 25)
  exact hK.out _ _ ⟨by simp[hsz],(hb.trans (hbk.mono hB)),(Nat.le_trans hB hbk.size),_,_,_,_,_,_,_,_,_,_,_,_,_,_,_,_,_,_,_,_,_,_,_,_,_,_,_,_,_,_,_,_,_,rfl,
    fun h=>(c0 (flag_of (by decide) h)).below hbk,
    fun h=>c1 (flag_of (by decide) h),
    fun h=>(c2 (flag_of (by decide) h)).below hbk,
    fun h=>(c3 (flag_of (by decide) h)).below hbk,
    fun h=>c4 (flag_of (by decide) h),
    fun h=>c5 (flag_of (by decide) h),
    fun h=>c6 (flag_of (by decide) h),
    fun h=>c7 (flag_of (by decide) h),
    fun h=>(c8 (flag_of (by decide) h)).below hbk,
    fun h=>(c9 (flag_of (by decide) h)).below hbk,
    fun h=>c10 (flag_of (by decide) h),
    fun h=>c11 (flag_of (by decide) h),
    fun h=>c12 (flag_of (by decide) h),
    fun h=>(c13 (flag_of (by decide) h)).below hbk,
    fun h=>(c14 (flag_of (by decide) h)).below hbk,
    fun h=>c15 (flag_of (by decide) h),
    fun _=>rfl,
    fun _=>⟨_,rfl,bx_new w' _⟩,
    fun h=>(c18 (flag_of (by decide) h)).below hbk,
    fun h=>c19 (flag_of (by decide) h),
    fun h=>c20 (flag_of (by decide) h),
    fun h=>(c21 (flag_of (by decide) h)).below hbk,
    fun h=>(c22 (flag_of (by decide) h)).below hbk,
    fun h=>c23 (flag_of (by decide) h),
    fun h=>c24 (flag_of (by decide) h),
    fun h=>(c25 (flag_of (by decide) h)).below hbk,
    fun h=>(c26 (flag_of (by decide) h)).below hbk,
    fun h=>c27 (flag_of (by decide) h),
    fun h=>c28 (flag_of (by decide) h),
    fun h=>(c29 (flag_of (by decide) h)).below hbk,
    fun h=>(c30 (flag_of (by decide) h)).below hbk,
    fun h=>(c31 (flag_of (by decide) h)).below hbk,
    fun h=>c32 (flag_of (by decide) h),
    fun h=>flag_old (c33 (flag_of (by decide) h))⟩
 ·have hp:=ready_after (o:={dst:=some 38,op:=Go.Op.call {callee:=Go.Callee.value (Go.Operand.func 10),args:= #[Go.Operand.tmp 35,Go.Operand.tmp 37],argTypes:= #[35,36]},type:=25,pos:= "outright.go:35",after:= #[{on:=15,ground:=Go.Ground.data},{on:=17,ground:=Go.Ground.data},{on:=14,ground:=Go.Ground.chain}],guard:=none}) hi rfl
  simp[Region.binds]at hp
  unfold pnF
  obtain rfl:=c15 (show listed.getD 15 false=true by first|exact hp|exact hp.1|exact hp.2|exact hp.2.1|simp[hp])
  obtain⟨nb,rfl,hnb⟩:=id (c17 (show listed.getD 17 false=true by first|exact hp|exact hp.1|exact hp.2|exact hp.2.1|simp[hp]))
  refine wpOp_shut (o:={dst:=some 38,op:=Go.Op.call {callee:=Go.Callee.value (Go.Operand.func 10),args:= #[Go.Operand.tmp 35,Go.Operand.tmp 37],argTypes:= #[35,36]},type:=25,pos:= "outright.go:35",after:= #[{on:=15,ground:=Go.Ground.data},{on:=17,ground:=Go.Ground.data},{on:=14,ground:=Go.Ground.chain}],guard:=none}) rfl (fun K hK=> ?_)
  go_simp
  refine(of8_row starN [⟨some ⟨bx,0,none⟩,1,[⟨ruleLf ⟨#[120]⟩,none,0⟩],0⟩] [xT] nb w' (star_wf) hnb rfl (fun t ht=>by simp only[List.mem_cons,List.not_mem_nil,or_false]at ht;subst ht;exact⟨_,HTX.out.1.below hb⟩) (by simp) okStar (by kernel_rfl) _ 1 1 rfl).mono ?_
  rintro e w1 ⟨v,rfl,htx,hto,hbk⟩
  go_wp2_with fail
  exact hK.out _ _ ⟨by simp[hsz],(hb.trans (hbk.mono hB)),(Nat.le_trans hB hbk.size),_,_,_,_,_,_,_,_,_,_,_,_,_,_,_,_,_,_,_,_,_,_,_,_,_,_,_,_,_,_,_,_,_,rfl,
    fun h=>(c0 (flag_of (by decide) h)).below hbk,
    fun h=>c1 (flag_of (by decide) h),
    fun h=>(c2 (flag_of (by decide) h)).below hbk,
    fun h=>(c3 (flag_of (by decide) h)).below hbk,
    fun h=>c4 (flag_of (by decide) h),
    fun h=>c5 (flag_of (by decide) h),
    fun h=>c6 (flag_of (by decide) h),
    fun h=>c7 (flag_of (by decide) h),
    fun h=>(c8 (flag_of (by decide) h)).below hbk,
    fun h=>(c9 (flag_of (by decide) h)).below hbk,
    fun h=>c10 (flag_of (by decide) h),
    fun h=>c11 (flag_of (by decide) h),
    fun h=>c12 (flag_of (by decide) h),
    fun h=>(c13 (flag_of (by decide) h)).below hbk,
    fun h=>(c14 (flag_of (by decide) h)).below hbk,
    fun _=>rfl,
    fun h=>c16 (flag_of (by decide) h),
    fun h=>(c17 (flag_of (by decide) h)).below hbk,
    fun _=>⟨v,rfl,hto,htx.tr⟩,
    fun h=>c19 (flag_of (by decide) h),
    fun h=>c20 (flag_of (by decide) h),
    fun h=>(c21 (flag_of (by decide) h)).below hbk,
    fun h=>(c22 (flag_of (by decide) h)).below hbk,
    fun h=>c23 (flag_of (by decide) h),
    fun h=>c24 (flag_of (by decide) h),
    fun h=>(c25 (flag_of (by decide) h)).below hbk,
    fun h=>(c26 (flag_of (by decide) h)).below hbk,
    fun h=>c27 (flag_of (by decide) h),
    fun h=>c28 (flag_of (by decide) h),
    fun h=>(c29 (flag_of (by decide) h)).below hbk,
    fun h=>(c30 (flag_of (by decide) h)).below hbk,
    fun h=>(c31 (flag_of (by decide) h)).below hbk,
    fun h=>c32 (flag_of (by decide) h),
    fun h=>flag_old (c33 (flag_of (by decide) h))⟩
 ·have hp:=ready_after (o:={dst:=some 39,op:=Go.Op.build 35 #[(0,Go.Operand.const (Go.Value.int Go.IntKind.u8 7))],type:=35,pos:= "outright.go:35",after:= #[],guard:=none}) hi rfl
  simp[Region.binds]at hp
  unfold pnF
  have hbk:Below w'.heap.size w' w':=Below.refl _ _
  refine wpOp_shut (o:={dst:=some 39,op:=Go.Op.build 35 #[(0,Go.Operand.const (Go.Value.int Go.IntKind.u8 7))],type:=35,pos:= "outright.go:35",after:= #[],guard:=none}) rfl (fun K hK=> ?_)
  go_simp
  exact hK.out _ _ ⟨by simp[hsz],(hb.trans (hbk.mono hB)),(Nat.le_trans hB hbk.size),_,_,_,_,_,_,_,_,_,_,_,_,_,_,_,_,_,_,_,_,_,_,_,_,_,_,_,_,_,_,_,_,_,rfl,
    fun h=>(c0 (flag_of (by decide) h)).below hbk,
    fun h=>c1 (flag_of (by decide) h),
    fun h=>(c2 (flag_of (by decide) h)).below hbk,
    fun h=>(c3 (flag_of (by decide) h)).below hbk,
    fun h=>c4 (flag_of (by decide) h),
    fun h=>c5 (flag_of (by decide) h),
    fun h=>c6 (flag_of (by decide) h),
    fun h=>c7 (flag_of (by decide) h),
    fun h=>(c8 (flag_of (by decide) h)).below hbk,
    fun h=>(c9 (flag_of (by decide) h)).below hbk,
    fun h=>c10 (flag_of (by decide) h),
    fun h=>c11 (flag_of (by decide) h),
    fun h=>c12 (flag_of (by decide) h),
    fun h=>(c13 (flag_of (by decide) h)).below hbk,
    fun h=>(c14 (flag_of (by decide) h)).below hbk,
    fun h=>c15 (flag_of (by decide) h),
    fun h=>c16 (flag_of (by decide) h),
    fun h=>(c17 (flag_of (by decide) h)).below hbk,
    fun h=>(c18 (flag_of (by decide) h)).below hbk,
    fun _=>rfl,
    fun h=>c20 (flag_of (by decide) h),
    fun h=>(c21 (flag_of (by decide) h)).below hbk,
    fun h=>(c22 (flag_of (by decide) h)).below hbk,
    fun h=>c23 (flag_of (by decide) h),
    fun h=>c24 (flag_of (by decide) h),
    fun h=>(c25 (flag_of (by decide) h)).below hbk,
    fun h=>(c26 (flag_of (by decide) h)).below hbk,
    fun h=>c27 (flag_of (by decide) h),
    fun h=>c28 (flag_of (by decide) h),
    fun h=>(c29 (flag_of (by decide) h)).below hbk,
    fun h=>(c30 (flag_of (by decide) h)).below hbk,
    fun h=>(c31 (flag_of (by decide) h)).below hbk,
    fun h=>c32 (flag_of (by decide) h),
    fun h=>flag_old (c33 (flag_of (by decide) h))⟩
 ·have hp:=ready_after (o:={dst:=some 40,op:=Go.Op.load 25 (Go.Operand.tmp 1),type:=25,pos:= "outright.go:35",after:= #[],guard:=none}) hi rfl
  simp[Region.binds]at hp
  unfold pnF
  have hbk:Below w'.heap.size w' w':=Below.refl _ _
  obtain⟨u1,u2,u3,u4⟩:=HCX.out w' hb
  refine wpOp_shut (o:={dst:=some 40,op:=Go.Op.load 25 (Go.Operand.tmp 1),type:=25,pos:= "outright.go:35",after:= #[],guard:=none}) rfl (fun K hK=> ?_)
  go_simp
  exact hK.out _ _ ⟨by simp[hsz],(hb.trans (hbk.mono hB)),(Nat.le_trans hB hbk.size),_,_,_,_,_,_,_,_,_,_,_,_,_,_,_,_,_,_,_,_,_,_,_,_,_,_,_,_,_,_,_,_,_,rfl,
    fun h=>(c0 (flag_of (by decide) h)).below hbk,
    fun h=>c1 (flag_of (by decide) h),
    fun h=>(c2 (flag_of (by decide) h)).below hbk,
    fun h=>(c3 (flag_of (by decide) h)).below hbk,
    fun h=>c4 (flag_of (by decide) h),
    fun h=>c5 (flag_of (by decide) h),
    fun h=>c6 (flag_of (by decide) h),
    fun h=>c7 (flag_of (by decide) h),
    fun h=>(c8 (flag_of (by decide) h)).below hbk,
    fun h=>(c9 (flag_of (by decide) h)).below hbk,
    fun h=>c10 (flag_of (by decide) h),
    fun h=>c11 (flag_of (by decide) h),
    fun h=>c12 (flag_of (by decide) h),
    fun h=>(c13 (flag_of (by decide) h)).below hbk,
    fun h=>(c14 (flag_of (by decide) h)).below hbk,
    fun h=>c15 (flag_of (by decide) h),
    fun h=>c16 (flag_of (by decide) h),
    fun h=>(c17 (flag_of (by decide) h)).below hbk,
    fun h=>(c18 (flag_of (by decide) h)).below hbk,
    fun h=>c19 (flag_of (by decide) h),
    fun _=>rfl,
    fun h=>(c21 (flag_of (by decide) h)).below hbk,
    fun h=>(c22 (flag_of (by decide) h)).below hbk,
    fun h=>c23 (flag_of (by decide) h),
    fun h=>c24 (flag_of (by decide) h),
    fun h=>(c25 (flag_of (by decide) h)).below hbk,
    fun h=>(c26 (flag_of (by decide) h)).below hbk,
    fun h=>c27 (flag_of (by decide) h),
    fun h=>c28 (flag_of (by decide) h),
    fun h=>(c29 (flag_of (by decide) h)).below hbk,
    fun h=>(c30 (flag_of (by decide) h)).below hbk,
    fun h=>(c31 (flag_of (by decide) h)).below hbk,
    fun h=>c32 (flag_of (by decide) h),
    fun h=>flag_old (c33 (flag_of (by decide) h))⟩
 ·have hp:=ready_after (o:={dst:=some 41,op:=Go.Op.buildSlice 36 1 #[(0,Go.Operand.tmp 40)],type:=36,pos:= "outright.go:35",after:= #[{on:=20,ground:=Go.Ground.data}],guard:=none}) hi rfl
  simp[Region.binds]at hp
  unfold pnF
  obtain rfl:=c20 (show listed.getD 20 false=true by first|exact hp|exact hp.1|exact hp.2|exact hp.2.1|simp[hp])
  refine wpOp_shut (o:={dst:=some 41,op:=Go.Op.buildSlice 36 1 #[(0,Go.Operand.tmp 40)],type:=36,pos:= "outright.go:35",after:= #[{on:=20,ground:=Go.Ground.data}],guard:=none}) rfl (fun K hK=> ?_)
  go_simp
  have hbk:=bx1 w' (.cells #[.slice (some ⟨bx,0,none⟩) 1 1,.int .i64 0] 25)
  exact hK.out _ _ ⟨by simp[hsz],(hb.trans (hbk.mono hB)),(Nat.le_trans hB hbk.size),_,_,_,_,_,_,_,_,_,_,_,_,_,_,_,_,_,_,_,_,_,_,_,_,_,_,_,_,_,_,_,_,_,rfl,
    fun h=>(c0 (flag_of (by decide) h)).below hbk,
    fun h=>c1 (flag_of (by decide) h),
    fun h=>(c2 (flag_of (by decide) h)).below hbk,
    fun h=>(c3 (flag_of (by decide) h)).below hbk,
    fun h=>c4 (flag_of (by decide) h),
    fun h=>c5 (flag_of (by decide) h),
    fun h=>c6 (flag_of (by decide) h),
    fun h=>c7 (flag_of (by decide) h),
    fun h=>(c8 (flag_of (by decide) h)).below hbk,
    fun h=>(c9 (flag_of (by decide) h)).below hbk,
    fun h=>c10 (flag_of (by decide) h),
    fun h=>c11 (flag_of (by decide) h),
    fun h=>c12 (flag_of (by decide) h),
    fun h=>(c13 (flag_of (by decide) h)).below hbk,
    fun h=>(c14 (flag_of (by decide) h)).below hbk,
    fun h=>c15 (flag_of (by decide) h),
    fun h=>c16 (flag_of (by decide) h),
    fun h=>(c17 (flag_of (by decide) h)).below hbk,
    fun h=>(c18 (flag_of (by decide) h)).below hbk,
    fun h=>c19 (flag_of (by decide) h),
    fun _=>rfl,
    fun _=>⟨_,rfl,bx_new w' _⟩,
    fun h=>(c22 (flag_of (by decide) h)).below hbk,
    fun h=>c23 (flag_of (by decide) h),
    fun h=>c24 (flag_of (by decide) h),
    fun h=>(c25 (flag_of (by decide) h)).below hbk,
    fun h=>(c26 (flag_of (by decide) h)).below hbk,
    fun h=>c27 (flag_of (by decide) h),
    fun h=>c28 (flag_of (by decide) h),
    fun h=>(c29 (flag_of (by decide) h)).below hbk,
    fun h=>(c30 (flag_of (by decide) h)).below hbk,
    fun h=>(c31 (flag_of (by decide) h)).below hbk,
    fun h=>c32 (flag_of (by decide) h),
    fun h=>flag_old (c33 (flag_of (by decide) h))⟩
 ·have hp:=ready_after (o:={dst:=some 42,op:=Go.Op.call {callee:=Go.Callee.value (Go.Operand.func 10),args:= #[Go.Operand.tmp 39,Go.Operand.tmp 41],argTypes:= #[35,36]},type:=25,pos:= "outright.go:35",after:= #[{on:=19,ground:=Go.Ground.data},{on:=21,ground:=Go.Ground.data},{on:=18,ground:=Go.Ground.chain}],guard:=none}) hi rfl
  simp[Region.binds]at hp
  unfold pnF
  obtain rfl:=c19 (show listed.getD 19 false=true by first|exact hp|exact hp.1|exact hp.2|exact hp.2.1|simp[hp])
  obtain⟨nb,rfl,hnb⟩:=id (c21 (show listed.getD 21 false=true by first|exact hp|exact hp.1|exact hp.2|exact hp.2.1|simp[hp]))
  refine wpOp_shut (o:={dst:=some 42,op:=Go.Op.call {callee:=Go.Callee.value (Go.Operand.func 10),args:= #[Go.Operand.tmp 39,Go.Operand.tmp 41],argTypes:= #[35,36]},type:=25,pos:= "outright.go:35",after:= #[{on:=19,ground:=Go.Ground.data},{on:=21,ground:=Go.Ground.data},{on:=18,ground:=Go.Ground.chain}],guard:=none}) rfl (fun K hK=> ?_)
  go_simp
  refine(of8_row (kindP 7) [⟨some ⟨bx,0,none⟩,1,[⟨ruleLf ⟨#[120]⟩,none,0⟩],0⟩] [xT] nb w' (kind_wf _ (by decide)) hnb rfl (fun t ht=>by simp only[List.mem_cons,List.not_mem_nil,or_false]at ht;subst ht;exact⟨_,HTX.out.1.below hb⟩) (by simp) okAnd (by kernel_rfl) _ 1 1 rfl).mono ?_
  rintro e w1 ⟨v,rfl,htx,hto,hbk⟩
  go_wp2_with fail
  exact hK.out _ _ ⟨by simp[hsz],(hb.trans (hbk.mono hB)),(Nat.le_trans hB hbk.size),_,_,_,_,_,_,_,_,_,_,_,_,_,_,_,_,_,_,_,_,_,_,_,_,_,_,_,_,_,_,_,_,_,rfl,
    fun h=>(c0 (flag_of (by decide) h)).below hbk,
    fun h=>c1 (flag_of (by decide) h),
    fun h=>(c2 (flag_of (by decide) h)).below hbk,
    fun h=>(c3 (flag_of (by decide) h)).below hbk,
    fun h=>c4 (flag_of (by decide) h),
    fun h=>c5 (flag_of (by decide) h),
    fun h=>c6 (flag_of (by decide) h),
    fun h=>c7 (flag_of (by decide) h),
    fun h=>(c8 (flag_of (by decide) h)).below hbk,
    fun h=>(c9 (flag_of (by decide) h)).below hbk,
    fun h=>c10 (flag_of (by decide) h),
    fun h=>c11 (flag_of (by decide) h),
    fun h=>c12 (flag_of (by decide) h),
    fun h=>(c13 (flag_of (by decide) h)).below hbk,
    fun h=>(c14 (flag_of (by decide) h)).below hbk,
    fun h=>c15 (flag_of (by decide) h),
    fun h=>c16 (flag_of (by decide) h),
    fun h=>(c17 (flag_of (by decide) h)).below hbk,
    fun h=>(c18 (flag_of (by decide) h)).below hbk,
    fun _=>rfl,
    fun h=>c20 (flag_of (by decide) h),
    fun h=>(c21 (flag_of (by decide) h)).below hbk,
    fun _=>⟨v,rfl,hto,htx.tr⟩,
    fun h=>c23 (flag_of (by decide) h),
    fun h=>c24 (flag_of (by decide) h),
    fun h=>(c25 (flag_of (by decide) h)).below hbk,
    fun h=>(c26 (flag_of (by decide) h)).below hbk,
    fun h=>c27 (flag_of (by decide) h),
    fun h=>c28 (flag_of (by decide) h),
    fun h=>(c29 (flag_of (by decide) h)).below hbk,
    fun h=>(c30 (flag_of (by decide) h)).below hbk,
    fun h=>(c31 (flag_of (by decide) h)).below hbk,
    fun h=>c32 (flag_of (by decide) h),
    fun h=>flag_old (c33 (flag_of (by decide) h))⟩
 ·have hp:=ready_after (o:={dst:=some 43,op:=Go.Op.build 35 #[(0,Go.Operand.const (Go.Value.int Go.IntKind.u8 8))],type:=35,pos:= "outright.go:35",after:= #[],guard:=none}) hi rfl
  simp[Region.binds]at hp
  unfold pnF
  have hbk:Below w'.heap.size w' w':=Below.refl _ _
  refine wpOp_shut (o:={dst:=some 43,op:=Go.Op.build 35 #[(0,Go.Operand.const (Go.Value.int Go.IntKind.u8 8))],type:=35,pos:= "outright.go:35",after:= #[],guard:=none}) rfl (fun K hK=> ?_)
  go_simp
  exact hK.out _ _ ⟨by simp[hsz],(hb.trans (hbk.mono hB)),(Nat.le_trans hB hbk.size),_,_,_,_,_,_,_,_,_,_,_,_,_,_,_,_,_,_,_,_,_,_,_,_,_,_,_,_,_,_,_,_,_,rfl,
    fun h=>(c0 (flag_of (by decide) h)).below hbk,
    fun h=>c1 (flag_of (by decide) h),
    fun h=>(c2 (flag_of (by decide) h)).below hbk,
    fun h=>(c3 (flag_of (by decide) h)).below hbk,
    fun h=>c4 (flag_of (by decide) h),
    fun h=>c5 (flag_of (by decide) h),
    fun h=>c6 (flag_of (by decide) h),
    fun h=>c7 (flag_of (by decide) h),
    fun h=>(c8 (flag_of (by decide) h)).below hbk,
    fun h=>(c9 (flag_of (by decide) h)).below hbk,
    fun h=>c10 (flag_of (by decide) h),
    fun h=>c11 (flag_of (by decide) h),
    fun h=>c12 (flag_of (by decide) h),
    fun h=>(c13 (flag_of (by decide) h)).below hbk,
    fun h=>(c14 (flag_of (by decide) h)).below hbk,
    fun h=>c15 (flag_of (by decide) h),
    fun h=>c16 (flag_of (by decide) h),
    fun h=>(c17 (flag_of (by decide) h)).below hbk,
    fun h=>(c18 (flag_of (by decide) h)).below hbk,
    fun h=>c19 (flag_of (by decide) h),
    fun h=>c20 (flag_of (by decide) h),
    fun h=>(c21 (flag_of (by decide) h)).below hbk,
    fun h=>(c22 (flag_of (by decide) h)).below hbk,
    fun _=>rfl,
    fun h=>c24 (flag_of (by decide) h),
    fun h=>(c25 (flag_of (by decide) h)).below hbk,
    fun h=>(c26 (flag_of (by decide) h)).below hbk,
    fun h=>c27 (flag_of (by decide) h),
    fun h=>c28 (flag_of (by decide) h),
    fun h=>(c29 (flag_of (by decide) h)).below hbk,
    fun h=>(c30 (flag_of (by decide) h)).below hbk,
    fun h=>(c31 (flag_of (by decide) h)).below hbk,
    fun h=>c32 (flag_of (by decide) h),
    fun h=>flag_old (c33 (flag_of (by decide) h))⟩
 ·have hp:=ready_after (o:={dst:=some 44,op:=Go.Op.load 25 (Go.Operand.tmp 1),type:=25,pos:= "outright.go:35",after:= #[],guard:=none}) hi rfl
  simp[Region.binds]at hp
  unfold pnF
  have hbk:Below w'.heap.size w' w':=Below.refl _ _
  obtain⟨u1,u2,u3,u4⟩:=HCX.out w' hb
  refine wpOp_shut (o:={dst:=some 44,op:=Go.Op.load 25 (Go.Operand.tmp 1),type:=25,pos:= "outright.go:35",after:= #[],guard:=none}) rfl (fun K hK=> ?_)
  go_simp
  exact hK.out _ _ ⟨by simp[hsz],(hb.trans (hbk.mono hB)),(Nat.le_trans hB hbk.size),_,_,_,_,_,_,_,_,_,_,_,_,_,_,_,_,_,_,_,_,_,_,_,_,_,_,_,_,_,_,_,_,_,rfl,
    fun h=>(c0 (flag_of (by decide) h)).below hbk,
    fun h=>c1 (flag_of (by decide) h),
    fun h=>(c2 (flag_of (by decide) h)).below hbk,
    fun h=>(c3 (flag_of (by decide) h)).below hbk,
    fun h=>c4 (flag_of (by decide) h),
    fun h=>c5 (flag_of (by decide) h),
    fun h=>c6 (flag_of (by decide) h),
    fun h=>c7 (flag_of (by decide) h),
    fun h=>(c8 (flag_of (by decide) h)).below hbk,
    fun h=>(c9 (flag_of (by decide) h)).below hbk,
    fun h=>c10 (flag_of (by decide) h),
    fun h=>c11 (flag_of (by decide) h),
    fun h=>c12 (flag_of (by decide) h),
    fun h=>(c13 (flag_of (by decide) h)).below hbk,
    fun h=>(c14 (flag_of (by decide) h)).below hbk,
    fun h=>c15 (flag_of (by decide) h),
    fun h=>c16 (flag_of (by decide) h),
    fun h=>(c17 (flag_of (by decide) h)).below hbk,
    fun h=>(c18 (flag_of (by decide) h)).below hbk,
    fun h=>c19 (flag_of (by decide) h),
    fun h=>c20 (flag_of (by decide) h),
    fun h=>(c21 (flag_of (by decide) h)).below hbk,
    fun h=>(c22 (flag_of (by decide) h)).below hbk,
    fun h=>c23 (flag_of (by decide) h),
    fun _=>rfl,
    fun h=>(c25 (flag_of (by decide) h)).below hbk,
    fun h=>(c26 (flag_of (by decide) h)).below hbk,
    fun h=>c27 (flag_of (by decide) h),
    fun h=>c28 (flag_of (by decide) h),
    fun h=>(c29 (flag_of (by decide) h)).below hbk,
    fun h=>(c30 (flag_of (by decide) h)).below hbk,
    fun h=>(c31 (flag_of (by decide) h)).below hbk,
    fun h=>c32 (flag_of (by decide) h),
    fun h=>flag_old (c33 (flag_of (by decide) h))⟩
 ·have hp:=ready_after (o:={dst:=some 45,op:=Go.Op.buildSlice 36 1 #[(0,Go.Operand.tmp 44)],type:=36,pos:= "outright.go:35",after:= #[{on:=24,ground:=Go.Ground.data}],guard:=none}) hi rfl
  simp[Region.binds]at hp
  unfold pnF
  obtain rfl:=c24 (show listed.getD 24 false=true by first|exact hp|exact hp.1|exact hp.2|exact hp.2.1|simp[hp])
  refine wpOp_shut (o:={dst:=some 45,op:=Go.Op.buildSlice 36 1 #[(0,Go.Operand.tmp 44)],type:=36,pos:= "outright.go:35",after:= #[{on:=24,ground:=Go.Ground.data}],guard:=none}) rfl (fun K hK=> ?_)
  go_simp
  have hbk:=bx1 w' (.cells #[.slice (some ⟨bx,0,none⟩) 1 1,.int .i64 0] 25)
  exact hK.out _ _ ⟨by simp[hsz],(hb.trans (hbk.mono hB)),(Nat.le_trans hB hbk.size),_,_,_,_,_,_,_,_,_,_,_,_,_,_,_,_,_,_,_,_,_,_,_,_,_,_,_,_,_,_,_,_,_,rfl,
    fun h=>(c0 (flag_of (by decide) h)).below hbk,
    fun h=>c1 (flag_of (by decide) h),
    fun h=>(c2 (flag_of (by decide) h)).below hbk,
    fun h=>(c3 (flag_of (by decide) h)).below hbk,
    fun h=>c4 (flag_of (by decide) h),
    fun h=>c5 (flag_of (by decide) h),
    fun h=>c6 (flag_of (by decide) h),
    fun h=>c7 (flag_of (by decide) h),
    fun h=>(c8 (flag_of (by decide) h)).below hbk,
    fun h=>(c9 (flag_of (by decide) h)).below hbk,
    fun h=>c10 (flag_of (by decide) h),
    fun h=>c11 (flag_of (by decide) h),
    fun h=>c12 (flag_of (by decide) h),
    fun h=>(c13 (flag_of (by decide) h)).below hbk,
    fun h=>(c14 (flag_of (by decide) h)).below hbk,
    fun h=>c15 (flag_of (by decide) h),
    fun h=>c16 (flag_of (by decide) h),
    fun h=>(c17 (flag_of (by decide) h)).below hbk,
    fun h=>(c18 (flag_of (by decide) h)).below hbk,
    fun h=>c19 (flag_of (by decide) h),
    fun h=>c20 (flag_of (by decide) h),
    fun h=>(c21 (flag_of (by decide) h)).below hbk,
    fun h=>(c22 (flag_of (by decide) h)).below hbk,
    fun h=>c23 (flag_of (by decide) h),
    fun _=>rfl,
    fun _=>⟨_,rfl,bx_new w' _⟩,
    fun h=>(c26 (flag_of (by decide) h)).below hbk,
    fun h=>c27 (flag_of (by decide) h),
    fun h=>c28 (flag_of (by decide) h),
    fun h=>(c29 (flag_of (by decide) h)).below hbk,
    fun h=>(c30 (flag_of (by decide) h)).below hbk,
    fun h=>(c31 (flag_of (by decide) h)).below hbk,
    fun h=>c32 (flag_of (by decide) h),
    fun h=>flag_old (c33 (flag_of (by decide) h))⟩
 ·have hp:=ready_after (o:={dst:=some 46,op:=Go.Op.call {callee:=Go.Callee.value (Go.Operand.func 10),args:= #[Go.Operand.tmp 43,Go.Operand.tmp 45],argTypes:= #[35,36]},type:=25,pos:= "outright.go:35",after:= #[{on:=23,ground:=Go.Ground.data},{on:=25,ground:=Go.Ground.data},{on:=22,ground:=Go.Ground.chain}],guard:=none}) hi rfl
  simp[Region.binds]at hp
  unfold pnF
  obtain rfl:=c23 (show listed.getD 23 false=true by first|exact hp|exact hp.1|exact hp.2|exact hp.2.1|simp[hp])
  obtain⟨nb,rfl,hnb⟩:=id (c25 (show listed.getD 25 false=true by first|exact hp|exact hp.1|exact hp.2|exact hp.2.1|simp[hp]))
  refine wpOp_shut (o:={dst:=some 46,op:=Go.Op.call {callee:=Go.Callee.value (Go.Operand.func 10),args:= #[Go.Operand.tmp 43,Go.Operand.tmp 45],argTypes:= #[35,36]},type:=25,pos:= "outright.go:35",after:= #[{on:=23,ground:=Go.Ground.data},{on:=25,ground:=Go.Ground.data},{on:=22,ground:=Go.Ground.chain}],guard:=none}) rfl (fun K hK=> ?_)
  go_simp
  refine(of8_row (kindP 8) [⟨some ⟨bx,0,none⟩,1,[⟨ruleLf ⟨#[120]⟩,none,0⟩],0⟩] [xT] nb w' (kind_wf _ (by decide)) hnb rfl (fun t ht=>by simp only[List.mem_cons,List.not_mem_nil,or_false]at ht;subst ht;exact⟨_,HTX.out.1.below hb⟩) (by simp) okNotX (by kernel_rfl) _ 1 1 rfl).mono ?_
  rintro e w1 ⟨v,rfl,htx,hto,hbk⟩
  go_wp2_with fail
  exact hK.out _ _ ⟨by simp[hsz],(hb.trans (hbk.mono hB)),(Nat.le_trans hB hbk.size),_,_,_,_,_,_,_,_,_,_,_,_,_,_,_,_,_,_,_,_,_,_,_,_,_,_,_,_,_,_,_,_,_,rfl,
    fun h=>(c0 (flag_of (by decide) h)).below hbk,
    fun h=>c1 (flag_of (by decide) h),
    fun h=>(c2 (flag_of (by decide) h)).below hbk,
    fun h=>(c3 (flag_of (by decide) h)).below hbk,
    fun h=>c4 (flag_of (by decide) h),
    fun h=>c5 (flag_of (by decide) h),
    fun h=>c6 (flag_of (by decide) h),
    fun h=>c7 (flag_of (by decide) h),
    fun h=>(c8 (flag_of (by decide) h)).below hbk,
    fun h=>(c9 (flag_of (by decide) h)).below hbk,
    fun h=>c10 (flag_of (by decide) h),
    fun h=>c11 (flag_of (by decide) h),
    fun h=>c12 (flag_of (by decide) h),
    fun h=>(c13 (flag_of (by decide) h)).below hbk,
    fun h=>(c14 (flag_of (by decide) h)).below hbk,
    fun h=>c15 (flag_of (by decide) h),
    fun h=>c16 (flag_of (by decide) h),
    fun h=>(c17 (flag_of (by decide) h)).below hbk,
    fun h=>(c18 (flag_of (by decide) h)).below hbk,
    fun h=>c19 (flag_of (by decide) h),
    fun h=>c20 (flag_of (by decide) h),
    fun h=>(c21 (flag_of (by decide) h)).below hbk,
    fun h=>(c22 (flag_of (by decide) h)).below hbk,
    fun _=>rfl,
    fun h=>c24 (flag_of (by decide) h),
    fun h=>(c25 (flag_of (by decide) h)).below hbk,
    fun _=>⟨v,rfl,hto,htx.tr⟩,
    fun h=>c27 (flag_of (by decide) h),
    fun h=>c28 (flag_of (by decide) h),
    fun h=>(c29 (flag_of (by decide) h)).below hbk,
    fun h=>(c30 (flag_of (by decide) h)).below hbk,
    fun h=>(c31 (flag_of (by decide) h)).below hbk,
    fun h=>c32 (flag_of (by decide) h),
    fun h=>flag_old (c33 (flag_of (by decide) h))⟩
 ·have hp:=ready_after (o:={dst:=some 47,op:=Go.Op.build 35 #[(0,Go.Operand.const (Go.Value.int Go.IntKind.u8 9)),(2,Go.Operand.const (Go.Value.string {data:= #[110]}))],type:=35,pos:= "outright.go:35",after:= #[],guard:=none}) hi rfl
  simp[Region.binds]at hp
  unfold pnF
  have hbk:Below w'.heap.size w' w':=Below.refl _ _
  refine wpOp_shut (o:={dst:=some 47,op:=Go.Op.build 35 #[(0,Go.Operand.const (Go.Value.int Go.IntKind.u8 9)),(2,Go.Operand.const (Go.Value.string {data:= #[110]}))],type:=35,pos:= "outright.go:35",after:= #[],guard:=none}) rfl (fun K hK=> ?_)
  go_simp
  exact hK.out _ _ ⟨by simp[hsz],(hb.trans (hbk.mono hB)),(Nat.le_trans hB hbk.size),_,_,_,_,_,_,_,_,_,_,_,_,_,_,_,_,_,_,_,_,_,_,_,_,_,_,_,_,_,_,_,_,_,rfl,
    fun h=>(c0 (flag_of (by decide) h)).below hbk,
    fun h=>c1 (flag_of (by decide) h),
    fun h=>(c2 (flag_of (by decide) h)).below hbk,
    fun h=>(c3 (flag_of (by decide) h)).below hbk,
    fun h=>c4 (flag_of (by decide) h),
    fun h=>c5 (flag_of (by decide) h),
    fun h=>c6 (flag_of (by decide) h),
    fun h=>c7 (flag_of (by decide) h),
    fun h=>(c8 (flag_of (by decide) h)).below hbk,
    fun h=>(c9 (flag_of (by decide) h)).below hbk,
    fun h=>c10 (flag_of (by decide) h),
    fun h=>c11 (flag_of (by decide) h),
    fun h=>c12 (flag_of (by decide) h),
    fun h=>(c13 (flag_of (by decide) h)).below hbk,
    fun h=>(c14 (flag_of (by decide) h)).below hbk,
    fun h=>c15 (flag_of (by decide) h),
    fun h=>c16 (flag_of (by decide) h),
    fun h=>(c17 (flag_of (by decide) h)).below hbk,
    fun h=>(c18 (flag_of (by decide) h)).below hbk,
    fun h=>c19 (flag_of (by decide) h),
    fun h=>c20 (flag_of (by decide) h),
    fun h=>(c21 (flag_of (by decide) h)).below hbk,
    fun h=>(c22 (flag_of (by decide) h)).below hbk,
    fun h=>c23 (flag_of (by decide) h),
    fun h=>c24 (flag_of (by decide) h),
    fun h=>(c25 (flag_of (by decide) h)).below hbk,
    fun h=>(c26 (flag_of (by decide) h)).below hbk,
    fun _=>rfl,
    fun h=>c28 (flag_of (by decide) h),
    fun h=>(c29 (flag_of (by decide) h)).below hbk,
    fun h=>(c30 (flag_of (by decide) h)).below hbk,
    fun h=>(c31 (flag_of (by decide) h)).below hbk,
    fun h=>c32 (flag_of (by decide) h),
    fun h=>flag_old (c33 (flag_of (by decide) h))⟩
 ·have hp:=ready_after (o:={dst:=some 48,op:=Go.Op.load 25 (Go.Operand.tmp 1),type:=25,pos:= "outright.go:35",after:= #[],guard:=none}) hi rfl
  simp[Region.binds]at hp
  unfold pnF
  have hbk:Below w'.heap.size w' w':=Below.refl _ _
  obtain⟨u1,u2,u3,u4⟩:=HCX.out w' hb
  refine wpOp_shut (o:={dst:=some 48,op:=Go.Op.load 25 (Go.Operand.tmp 1),type:=25,pos:= "outright.go:35",after:= #[],guard:=none}) rfl (fun K hK=> ?_)
  go_simp
  exact hK.out _ _ ⟨by simp[hsz],(hb.trans (hbk.mono hB)),(Nat.le_trans hB hbk.size),_,_,_,_,_,_,_,_,_,_,_,_,_,_,_,_,_,_,_,_,_,_,_,_,_,_,_,_,_,_,_,_,_,rfl,
    fun h=>(c0 (flag_of (by decide) h)).below hbk,
    fun h=>c1 (flag_of (by decide) h),
    fun h=>(c2 (flag_of (by decide) h)).below hbk,
    fun h=>(c3 (flag_of (by decide) h)).below hbk,
    fun h=>c4 (flag_of (by decide) h),
    fun h=>c5 (flag_of (by decide) h),
    fun h=>c6 (flag_of (by decide) h),
    fun h=>c7 (flag_of (by decide) h),
    fun h=>(c8 (flag_of (by decide) h)).below hbk,
    fun h=>(c9 (flag_of (by decide) h)).below hbk,
    fun h=>c10 (flag_of (by decide) h),
    fun h=>c11 (flag_of (by decide) h),
    fun h=>c12 (flag_of (by decide) h),
    fun h=>(c13 (flag_of (by decide) h)).below hbk,
    fun h=>(c14 (flag_of (by decide) h)).below hbk,
    fun h=>c15 (flag_of (by decide) h),
    fun h=>c16 (flag_of (by decide) h),
    fun h=>(c17 (flag_of (by decide) h)).below hbk,
    fun h=>(c18 (flag_of (by decide) h)).below hbk,
    fun h=>c19 (flag_of (by decide) h),
    fun h=>c20 (flag_of (by decide) h),
    fun h=>(c21 (flag_of (by decide) h)).below hbk,
    fun h=>(c22 (flag_of (by decide) h)).below hbk,
    fun h=>c23 (flag_of (by decide) h),
    fun h=>c24 (flag_of (by decide) h),
    fun h=>(c25 (flag_of (by decide) h)).below hbk,
    fun h=>(c26 (flag_of (by decide) h)).below hbk,
    fun h=>c27 (flag_of (by decide) h),
    fun _=>rfl,
    fun h=>(c29 (flag_of (by decide) h)).below hbk,
    fun h=>(c30 (flag_of (by decide) h)).below hbk,
    fun h=>(c31 (flag_of (by decide) h)).below hbk,
    fun h=>c32 (flag_of (by decide) h),
    fun h=>flag_old (c33 (flag_of (by decide) h))⟩
 ·have hp:=ready_after (o:={dst:=some 49,op:=Go.Op.buildSlice 36 1 #[(0,Go.Operand.tmp 48)],type:=36,pos:= "outright.go:35",after:= #[{on:=28,ground:=Go.Ground.data}],guard:=none}) hi rfl
  simp[Region.binds]at hp
  unfold pnF
  obtain rfl:=c28 (show listed.getD 28 false=true by first|exact hp|exact hp.1|exact hp.2|exact hp.2.1|simp[hp])
  refine wpOp_shut (o:={dst:=some 49,op:=Go.Op.buildSlice 36 1 #[(0,Go.Operand.tmp 48)],type:=36,pos:= "outright.go:35",after:= #[{on:=28,ground:=Go.Ground.data}],guard:=none}) rfl (fun K hK=> ?_)
  go_simp
  have hbk:=bx1 w' (.cells #[.slice (some ⟨bx,0,none⟩) 1 1,.int .i64 0] 25)
  exact hK.out _ _ ⟨by simp[hsz],(hb.trans (hbk.mono hB)),(Nat.le_trans hB hbk.size),_,_,_,_,_,_,_,_,_,_,_,_,_,_,_,_,_,_,_,_,_,_,_,_,_,_,_,_,_,_,_,_,_,rfl,
    fun h=>(c0 (flag_of (by decide) h)).below hbk,
    fun h=>c1 (flag_of (by decide) h),
    fun h=>(c2 (flag_of (by decide) h)).below hbk,
    fun h=>(c3 (flag_of (by decide) h)).below hbk,
    fun h=>c4 (flag_of (by decide) h),
    fun h=>c5 (flag_of (by decide) h),
    fun h=>c6 (flag_of (by decide) h),
    fun h=>c7 (flag_of (by decide) h),
    fun h=>(c8 (flag_of (by decide) h)).below hbk,
    fun h=>(c9 (flag_of (by decide) h)).below hbk,
    fun h=>c10 (flag_of (by decide) h),
    fun h=>c11 (flag_of (by decide) h),
    fun h=>c12 (flag_of (by decide) h),
    fun h=>(c13 (flag_of (by decide) h)).below hbk,
    fun h=>(c14 (flag_of (by decide) h)).below hbk,
    fun h=>c15 (flag_of (by decide) h),
    fun h=>c16 (flag_of (by decide) h),
    fun h=>(c17 (flag_of (by decide) h)).below hbk,
    fun h=>(c18 (flag_of (by decide) h)).below hbk,
    fun h=>c19 (flag_of (by decide) h),
    fun h=>c20 (flag_of (by decide) h),
    fun h=>(c21 (flag_of (by decide) h)).below hbk,
    fun h=>(c22 (flag_of (by decide) h)).below hbk,
    fun h=>c23 (flag_of (by decide) h),
    fun h=>c24 (flag_of (by decide) h),
    fun h=>(c25 (flag_of (by decide) h)).below hbk,
    fun h=>(c26 (flag_of (by decide) h)).below hbk,
    fun h=>c27 (flag_of (by decide) h),
    fun _=>rfl,
    fun _=>⟨_,rfl,bx_new w' _⟩,
    fun h=>(c30 (flag_of (by decide) h)).below hbk,
    fun h=>(c31 (flag_of (by decide) h)).below hbk,
    fun h=>c32 (flag_of (by decide) h),
    fun h=>flag_old (c33 (flag_of (by decide) h))⟩
 ·have hp:=ready_after (o:={dst:=some 50,op:=Go.Op.call {callee:=Go.Callee.value (Go.Operand.func 10),args:= #[Go.Operand.tmp 47,Go.Operand.tmp 49],argTypes:= #[35,36]},type:=25,pos:= "outright.go:35",after:= #[{on:=27,ground:=Go.Ground.data},{on:=29,ground:=Go.Ground.data},{on:=26,ground:=Go.Ground.chain}],guard:=none}) hi rfl
  simp[Region.binds]at hp
  unfold pnF
  obtain rfl:=c27 (show listed.getD 27 false=true by first|exact hp|exact hp.1|exact hp.2|exact hp.2.1|simp[hp])
  obtain⟨nb,rfl,hnb⟩:=id (c29 (show listed.getD 29 false=true by first|exact hp|exact hp.1|exact hp.2|exact hp.2.1|simp[hp]))
  refine wpOp_shut (o:={dst:=some 50,op:=Go.Op.call {callee:=Go.Callee.value (Go.Operand.func 10),args:= #[Go.Operand.tmp 47,Go.Operand.tmp 49],argTypes:= #[35,36]},type:=25,pos:= "outright.go:35",after:= #[{on:=27,ground:=Go.Ground.data},{on:=29,ground:=Go.Ground.data},{on:=26,ground:=Go.Ground.chain}],guard:=none}) rfl (fun K hK=> ?_)
  go_simp
  refine(of8_row capP [⟨some ⟨bx,0,none⟩,1,[⟨ruleLf ⟨#[120]⟩,none,0⟩],0⟩] [xT] nb w' (cap_wf) hnb rfl (fun t ht=>by simp only[List.mem_cons,List.not_mem_nil,or_false]at ht;subst ht;exact⟨_,HTX.out.1.below hb⟩) (by simp) okCapX (by kernel_rfl) _ 1 1 rfl).mono ?_
  rintro e w1 ⟨v,rfl,htx,hto,hbk⟩
  go_wp2_with fail
  exact hK.out _ _ ⟨by simp[hsz],(hb.trans (hbk.mono hB)),(Nat.le_trans hB hbk.size),_,_,_,_,_,_,_,_,_,_,_,_,_,_,_,_,_,_,_,_,_,_,_,_,_,_,_,_,_,_,_,_,_,rfl,
    fun h=>(c0 (flag_of (by decide) h)).below hbk,
    fun h=>c1 (flag_of (by decide) h),
    fun h=>(c2 (flag_of (by decide) h)).below hbk,
    fun h=>(c3 (flag_of (by decide) h)).below hbk,
    fun h=>c4 (flag_of (by decide) h),
    fun h=>c5 (flag_of (by decide) h),
    fun h=>c6 (flag_of (by decide) h),
    fun h=>c7 (flag_of (by decide) h),
    fun h=>(c8 (flag_of (by decide) h)).below hbk,
    fun h=>(c9 (flag_of (by decide) h)).below hbk,
    fun h=>c10 (flag_of (by decide) h),
    fun h=>c11 (flag_of (by decide) h),
    fun h=>c12 (flag_of (by decide) h),
    fun h=>(c13 (flag_of (by decide) h)).below hbk,
    fun h=>(c14 (flag_of (by decide) h)).below hbk,
    fun h=>c15 (flag_of (by decide) h),
    fun h=>c16 (flag_of (by decide) h),
    fun h=>(c17 (flag_of (by decide) h)).below hbk,
    fun h=>(c18 (flag_of (by decide) h)).below hbk,
    fun h=>c19 (flag_of (by decide) h),
    fun h=>c20 (flag_of (by decide) h),
    fun h=>(c21 (flag_of (by decide) h)).below hbk,
    fun h=>(c22 (flag_of (by decide) h)).below hbk,
    fun h=>c23 (flag_of (by decide) h),
    fun h=>c24 (flag_of (by decide) h),
    fun h=>(c25 (flag_of (by decide) h)).below hbk,
    fun h=>(c26 (flag_of (by decide) h)).below hbk,
    fun _=>rfl,
    fun h=>c28 (flag_of (by decide) h),
    fun h=>(c29 (flag_of (by decide) h)).below hbk,
    fun _=>⟨v,rfl,hto,htx.tr⟩,
    fun h=>(c31 (flag_of (by decide) h)).below hbk,
    fun h=>c32 (flag_of (by decide) h),
    fun h=>flag_old (c33 (flag_of (by decide) h))⟩
 ·have hp:=ready_after (o:={dst:=some 51,op:=Go.Op.buildSlice 36 10 #[(0,Go.Operand.tmp 20),(1,Go.Operand.tmp 22),(2,Go.Operand.tmp 23),(3,Go.Operand.tmp 24),(4,Go.Operand.tmp 29),(5,Go.Operand.tmp 34),(6,Go.Operand.tmp 38),(7,Go.Operand.tmp 42),(8,Go.Operand.tmp 46),(9,Go.Operand.tmp 50)],type:=36,pos:= "outright.go:35",after:= #[{on:=0,ground:=Go.Ground.data},{on:=2,ground:=Go.Ground.data},{on:=3,ground:=Go.Ground.data},{on:=4,ground:=Go.Ground.data},{on:=9,ground:=Go.Ground.data},{on:=14,ground:=Go.Ground.data},{on:=18,ground:=Go.Ground.data},{on:=22,ground:=Go.Ground.data},{on:=26,ground:=Go.Ground.data},{on:=30,ground:=Go.Ground.data}],guard:=none}) hi rfl
  simp[Region.binds]at hp
  unfold pnF
  obtain⟨⟨A0,k0,l0,r0⟩,rfl,ho0,ht0⟩:=id (c0 (show listed.getD 0 false=true by simp[hp]))
  obtain⟨⟨A2,k2,l2,r2⟩,rfl,ho2,ht2⟩:=id (c2 (show listed.getD 2 false=true by simp[hp]))
  obtain⟨⟨A3,k3,l3,r3⟩,rfl,ho3,ht3⟩:=id (c3 (show listed.getD 3 false=true by simp[hp]))
  obtain rfl:=c4 (show listed.getD 4 false=true by simp[hp])
  obtain⟨⟨A9,k9,l9,r9⟩,rfl,ho9,ht9⟩:=id (c9 (show listed.getD 9 false=true by simp[hp]))
  obtain⟨⟨A14,k14,l14,r14⟩,rfl,ho14,ht14⟩:=id (c14 (show listed.getD 14 false=true by simp[hp]))
  obtain⟨⟨A18,k18,l18,r18⟩,rfl,ho18,ht18⟩:=id (c18 (show listed.getD 18 false=true by simp[hp]))
  obtain⟨⟨A22,k22,l22,r22⟩,rfl,ho22,ht22⟩:=id (c22 (show listed.getD 22 false=true by simp[hp]))
  obtain⟨⟨A26,k26,l26,r26⟩,rfl,ho26,ht26⟩:=id (c26 (show listed.getD 26 false=true by simp[hp]))
  obtain⟨⟨A30,k30,l30,r30⟩,rfl,ho30,ht30⟩:=id (c30 (show listed.getD 30 false=true by simp[hp]))
  refine wpOp_shut (o:={dst:=some 51,op:=Go.Op.buildSlice 36 10 #[(0,Go.Operand.tmp 20),(1,Go.Operand.tmp 22),(2,Go.Operand.tmp 23),(3,Go.Operand.tmp 24),(4,Go.Operand.tmp 29),(5,Go.Operand.tmp 34),(6,Go.Operand.tmp 38),(7,Go.Operand.tmp 42),(8,Go.Operand.tmp 46),(9,Go.Operand.tmp 50)],type:=36,pos:= "outright.go:35",after:= #[{on:=0,ground:=Go.Ground.data},{on:=2,ground:=Go.Ground.data},{on:=3,ground:=Go.Ground.data},{on:=4,ground:=Go.Ground.data},{on:=9,ground:=Go.Ground.data},{on:=14,ground:=Go.Ground.data},{on:=18,ground:=Go.Ground.data},{on:=22,ground:=Go.Ground.data},{on:=26,ground:=Go.Ground.data},{on:=30,ground:=Go.Ground.data}],guard:=none}) rfl (fun K hK=> ?_)
  rw[if_pos (show Region.wanted _ _=true from rfl)]
  refine wp_val10 (exec_build10 rfl rfl rfl rfl rfl rfl rfl rfl rfl rfl rfl (build10 _ _ _ _ _ _ _ _ _ _ _ _ _ _ _ _ _ _ _ _ _)) ?_
  simp only[Act.put,List.setIfInBounds_toArray,List.set_cons_zero,List.set_cons_succ]
  have hbk:=bx1 w' (.cells #[.slice A0 l0.length k0,.int .i64 r0,.slice A2 l2.length k2,.int .i64 r2,.slice A3 l3.length k3,.int .i64 r3,.slice (some ⟨bx,0,none⟩) 1 1,.int .i64 0,.slice A9 l9.length k9,.int .i64 r9,.slice A14 l14.length k14,.int .i64 r14,.slice A18 l18.length k18,.int .i64 r18,.slice A22 l22.length k22,.int .i64 r22,.slice A26 l26.length k26,.int .i64 r26,.slice A30 l30.length k30,.int .i64 r30] 25)
  have HROW:Row10 (w'.alloc (.cells #[.slice A0 l0.length k0,.int .i64 r0,.slice A2 l2.length k2,.int .i64 r2,.slice A3 l3.length k3,.int .i64 r3,.slice (some ⟨bx,0,none⟩) 1 1,.int .i64 0,.slice A9 l9.length k9,.int .i64 r9,.slice A14 l14.length k14,.int .i64 r14,.slice A18 l18.length k18,.int .i64 r18,.slice A22 l22.length k22,.int .i64 r22,.slice A26 l26.length k26,.int .i64 r26,.slice A30 l30.length k30,.int .i64 r30] 25)) (.slice (some ⟨w'.heap.size,0,none⟩) 10 10):=by
   refine⟨w'.heap.size,[⟨A0,k0,l0,r0⟩,⟨A2,k2,l2,r2⟩,⟨A3,k3,l3,r3⟩,⟨some ⟨bx,0,none⟩,1,[⟨ruleLf ⟨#[120]⟩,none,0⟩],0⟩,⟨A9,k9,l9,r9⟩,⟨A14,k14,l14,r14⟩,⟨A18,k18,l18,r18⟩,⟨A22,k22,l22,r22⟩,⟨A26,k26,l26,r26⟩,⟨A30,k30,l30,r30⟩],rfl,rfl,?_,?_,bx_new w' _⟩
   ·show[Lt.tr ⟨A0,k0,l0,r0⟩,Lt.tr ⟨A2,k2,l2,r2⟩,Lt.tr ⟨A3,k3,l3,r3⟩,Lt.tr ⟨some ⟨bx,0,none⟩,1,[⟨ruleLf ⟨#[120]⟩,none,0⟩],0⟩,Lt.tr ⟨A9,k9,l9,r9⟩,Lt.tr ⟨A14,k14,l14,r14⟩,Lt.tr ⟨A18,k18,l18,r18⟩,Lt.tr ⟨A22,k22,l22,r22⟩,Lt.tr ⟨A26,k26,l26,r26⟩,Lt.tr ⟨A30,k30,l30,r30⟩]=_
    rw[ht0,ht2,ht3,ht9,ht14,ht18,ht22,ht26,ht30];rfl
   ·intro t ht
    simp only[List.mem_cons,List.not_mem_nil,or_false]at ht
    rcases ht with rfl|rfl|rfl|rfl|rfl|rfl|rfl|rfl|rfl|rfl
    ·exact(ho0.inn).below hbk
    ·exact(ho2.inn).below hbk
    ·exact(ho3.inn).below hbk
    ·exact(HTX.out.1.below hb).inn.below hbk
    ·exact(ho9.inn).below hbk
    ·exact(ho14.inn).below hbk
    ·exact(ho18.inn).below hbk
    ·exact(ho22.inn).below hbk
    ·exact(ho26.inn).below hbk
    ·exact(ho30.inn).below hbk
  have c32x:∀x:Value,(listed.setIfInBounds 31 true).getD 32 false=true→v3=x:=fun x h=>(flag_not hun (c33 (flag_of (by decide) h))).elim
  exact hK.out _ _ ⟨by simp[hsz],(hb.trans (hbk.mono hB)),(Nat.le_trans hB hbk.size),_,_,_,_,_,_,_,_,_,_,_,_,_,_,_,_,_,_,_,_,_,_,_,_,_,_,_,_,_,_,_,_,_,rfl,
    fun _=>OwnT.below ⟨_,rfl,ho0,ht0⟩ hbk,
    fun h=>c1 (flag_of (by decide) h),
    fun _=>OwnT.below ⟨_,rfl,ho2,ht2⟩ hbk,
    fun _=>OwnT.below ⟨_,rfl,ho3,ht3⟩ hbk,
    fun _=>rfl,
    fun h=>c5 (flag_of (by decide) h),
    fun h=>c6 (flag_of (by decide) h),
    fun h=>c7 (flag_of (by decide) h),
    fun h=>(c8 (flag_of (by decide) h)).below hbk,
    fun _=>OwnT.below ⟨_,rfl,ho9,ht9⟩ hbk,
    fun h=>c10 (flag_of (by decide) h),
    fun h=>c11 (flag_of (by decide) h),
    fun h=>c12 (flag_of (by decide) h),
    fun h=>(c13 (flag_of (by decide) h)).below hbk,
    fun _=>OwnT.below ⟨_,rfl,ho14,ht14⟩ hbk,
    fun h=>c15 (flag_of (by decide) h),
    fun h=>c16 (flag_of (by decide) h),
    fun h=>(c17 (flag_of (by decide) h)).below hbk,
    fun _=>OwnT.below ⟨_,rfl,ho18,ht18⟩ hbk,
    fun h=>c19 (flag_of (by decide) h),
    fun h=>c20 (flag_of (by decide) h),
    fun h=>(c21 (flag_of (by decide) h)).below hbk,
    fun _=>OwnT.below ⟨_,rfl,ho22,ht22⟩ hbk,
    fun h=>c23 (flag_of (by decide) h),
    fun h=>c24 (flag_of (by decide) h),
    fun h=>(c25 (flag_of (by decide) h)).below hbk,
    fun _=>OwnT.below ⟨_,rfl,ho26,ht26⟩ hbk,
    fun h=>c27 (flag_of (by decide) h),
    fun h=>c28 (flag_of (by decide) h),
    fun h=>(c29 (flag_of (by decide) h)).below hbk,
    fun _=>OwnT.below ⟨_,rfl,ho30,ht30⟩ hbk,
    fun _=>HROW,
    c32x _,
    fun h=>flag_old (c33 (flag_of (by decide) h))⟩
 ·have hp:=ready_after (o:={dst:=some 3,op:=Go.Op.assign (Go.Operand.tmp 51),type:=36,pos:= "outright.go:35",after:= #[{on:=31,ground:=Go.Ground.data},{on:=30,ground:=Go.Ground.chain},{on:=0,ground:=Go.Ground.phase},{on:=1,ground:=Go.Ground.phase},{on:=2,ground:=Go.Ground.phase},{on:=3,ground:=Go.Ground.phase},{on:=4,ground:=Go.Ground.phase},{on:=5,ground:=Go.Ground.phase},{on:=6,ground:=Go.Ground.phase},{on:=7,ground:=Go.Ground.phase},{on:=8,ground:=Go.Ground.phase},{on:=9,ground:=Go.Ground.phase},{on:=10,ground:=Go.Ground.phase},{on:=11,ground:=Go.Ground.phase},{on:=12,ground:=Go.Ground.phase},{on:=13,ground:=Go.Ground.phase},{on:=14,ground:=Go.Ground.phase},{on:=15,ground:=Go.Ground.phase},{on:=16,ground:=Go.Ground.phase},{on:=17,ground:=Go.Ground.phase},{on:=18,ground:=Go.Ground.phase},{on:=19,ground:=Go.Ground.phase},{on:=20,ground:=Go.Ground.phase},{on:=21,ground:=Go.Ground.phase},{on:=22,ground:=Go.Ground.phase},{on:=23,ground:=Go.Ground.phase},{on:=24,ground:=Go.Ground.phase},{on:=25,ground:=Go.Ground.phase},{on:=26,ground:=Go.Ground.phase},{on:=27,ground:=Go.Ground.phase},{on:=28,ground:=Go.Ground.phase},{on:=29,ground:=Go.Ground.phase},{on:=30,ground:=Go.Ground.phase},{on:=31,ground:=Go.Ground.phase}],guard:=none}) hi rfl
  simp[Region.binds]at hp
  unfold pnF
  have hbk:Below w'.heap.size w' w':=Below.refl _ _
  refine wpOp_shut (o:={dst:=some 3,op:=Go.Op.assign (Go.Operand.tmp 51),type:=36,pos:= "outright.go:35",after:= #[{on:=31,ground:=Go.Ground.data},{on:=30,ground:=Go.Ground.chain},{on:=0,ground:=Go.Ground.phase},{on:=1,ground:=Go.Ground.phase},{on:=2,ground:=Go.Ground.phase},{on:=3,ground:=Go.Ground.phase},{on:=4,ground:=Go.Ground.phase},{on:=5,ground:=Go.Ground.phase},{on:=6,ground:=Go.Ground.phase},{on:=7,ground:=Go.Ground.phase},{on:=8,ground:=Go.Ground.phase},{on:=9,ground:=Go.Ground.phase},{on:=10,ground:=Go.Ground.phase},{on:=11,ground:=Go.Ground.phase},{on:=12,ground:=Go.Ground.phase},{on:=13,ground:=Go.Ground.phase},{on:=14,ground:=Go.Ground.phase},{on:=15,ground:=Go.Ground.phase},{on:=16,ground:=Go.Ground.phase},{on:=17,ground:=Go.Ground.phase},{on:=18,ground:=Go.Ground.phase},{on:=19,ground:=Go.Ground.phase},{on:=20,ground:=Go.Ground.phase},{on:=21,ground:=Go.Ground.phase},{on:=22,ground:=Go.Ground.phase},{on:=23,ground:=Go.Ground.phase},{on:=24,ground:=Go.Ground.phase},{on:=25,ground:=Go.Ground.phase},{on:=26,ground:=Go.Ground.phase},{on:=27,ground:=Go.Ground.phase},{on:=28,ground:=Go.Ground.phase},{on:=29,ground:=Go.Ground.phase},{on:=30,ground:=Go.Ground.phase},{on:=31,ground:=Go.Ground.phase}],guard:=none}) rfl (fun K hK=> ?_)
  go_simp
  exact hK.out _ _ ⟨by simp[hsz],(hb.trans (hbk.mono hB)),(Nat.le_trans hB hbk.size),_,_,_,_,_,_,_,_,_,_,_,_,_,_,_,_,_,_,_,_,_,_,_,_,_,_,_,_,_,_,_,_,_,rfl,
    fun h=>(c0 (flag_of (by decide) h)).below hbk,
    fun h=>c1 (flag_of (by decide) h),
    fun h=>(c2 (flag_of (by decide) h)).below hbk,
    fun h=>(c3 (flag_of (by decide) h)).below hbk,
    fun h=>c4 (flag_of (by decide) h),
    fun h=>c5 (flag_of (by decide) h),
    fun h=>c6 (flag_of (by decide) h),
    fun h=>c7 (flag_of (by decide) h),
    fun h=>(c8 (flag_of (by decide) h)).below hbk,
    fun h=>(c9 (flag_of (by decide) h)).below hbk,
    fun h=>c10 (flag_of (by decide) h),
    fun h=>c11 (flag_of (by decide) h),
    fun h=>c12 (flag_of (by decide) h),
    fun h=>(c13 (flag_of (by decide) h)).below hbk,
    fun h=>(c14 (flag_of (by decide) h)).below hbk,
    fun h=>c15 (flag_of (by decide) h),
    fun h=>c16 (flag_of (by decide) h),
    fun h=>(c17 (flag_of (by decide) h)).below hbk,
    fun h=>(c18 (flag_of (by decide) h)).below hbk,
    fun h=>c19 (flag_of (by decide) h),
    fun h=>c20 (flag_of (by decide) h),
    fun h=>(c21 (flag_of (by decide) h)).below hbk,
    fun h=>(c22 (flag_of (by decide) h)).below hbk,
    fun h=>c23 (flag_of (by decide) h),
    fun h=>c24 (flag_of (by decide) h),
    fun h=>(c25 (flag_of (by decide) h)).below hbk,
    fun h=>(c26 (flag_of (by decide) h)).below hbk,
    fun h=>c27 (flag_of (by decide) h),
    fun h=>c28 (flag_of (by decide) h),
    fun h=>(c29 (flag_of (by decide) h)).below hbk,
    fun h=>(c30 (flag_of (by decide) h)).below hbk,
    fun h=>(c31 (flag_of (by decide) h)).below hbk,
    fun _=>rfl,
    fun _=>flag_old (show listed.getD 31 false=true by first|exact hp|simp[hp])⟩
end Go.Proofs.YtdnochjajoiooaaDoor
