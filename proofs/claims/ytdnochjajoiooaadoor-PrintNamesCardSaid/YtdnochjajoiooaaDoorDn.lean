/- The contract of tree.taken. -/
import Derived.Test.YtdnochjajoiooaaDoorDk
import Derived.Laws.CopyOwn
import Derived.Deep.Cut
namespace Go.Proofs.YtdnochjajoiooaaDoor
open Go.RowKit
set_option linter.unusedSimpArgs false
set_option linter.unusedVariables false
theorem infoNode:(Tryd.prog.info? 35).map (fun i=>(i.zero,i.size,i.bytes))=some (some (.agg #[.int .u8 0,.int .u64 0,.int .u64 0,.int .u64 0,.int .u64 0,.string ByteArray.empty,.int .i64 0,.int .i64 0,.slice none 0 0]),9,96):=by kernel_rfl
theorem set_blk9 {w:World} {b:Nat} {v0 v1 v2 v3 v4 v5 v6 v7 v8 u:Value} {T:TypeId} (h:w.heap[b]?=some (.cells #[v0,v1,v2,v3,v4,v5,v6,v7,v8] T (0,0))):(w.setCell ⟨b,8,none⟩ u).heap[b]?=some (.cells #[v0,v1,v2,v3,v4,v5,v6,v7,u] T (0,0)):=by
 have:=heap_setCell_same w b 8 _ T u h
 simpa using this
theorem placed_wf {P:List Nat} {n:Nd} (h:n.wf):(placed P n).wf:=by
 obtain⟨h1,h2,h3,h4⟩:=h
 exact⟨h1,h2,by simpa[placed]using h3,h4⟩
theorem heap_lt' {w:World} {b:Nat} {o:Obj} (h:w.heap[b]?=some o):b<w.heap.size:=(Array.getElem?_eq_some_iff.1 h).1
theorem row_cellAt {w:World} {g j:Nat} {xs:List Value} {T:TypeId} {u:Value} (h:w.heap[g]?=some (.cells xs.toArray T (0,0))) (hu:xs[j]?=some u):w.cell? ⟨g,j,none⟩=some u∧w.frozen? ⟨g,j,none⟩=false:=by
 simp[World.cell?,World.frozen?,h,hu]
theorem right_kids_len {t:Tr} (h:rightP t) {i:Nat} {n:Nd} (hn:t.nodes[i]?=some n):n.kids.length≤i:=by
 have hk:∀k∈n.kids,0≤k∧k<(i:Int):=fun k hk=>rightP_kid h hn hk
 have hnd:(n.kids.map Int.toNat).Nodup:=by
  rw[List.nodup_iff_count]
  intro z
  have h1:=rightP_count h (z:Int)
  have h2:n.kids.count (z:Int)≤(kidsOf t.nodes).count (z:Int):=by
   obtain⟨hi,e⟩:=List.getElem?_eq_some_iff.1 hn
   have:=seen_count t.nodes i n.kids.length (z:Int)
   simp only[seenL,hn,Option.map_some,Option.getD_some,List.take_length,List.count_append]at this
   omega
  have h3:(n.kids.map Int.toNat).count z=n.kids.count (z:Int):=by
   rw[List.count_eq_countP,List.count_eq_countP,List.countP_map]
   refine List.countP_congr fun k hk'=> ?_
   have:=hk k hk'
   simp only[Function.comp_apply,beq_iff_eq]
   omega
  omega
 have:=nodup_length hnd (n:=i) (fun k hk'=>by
  obtain⟨z,hz,rfl⟩:=List.mem_map.1 hk'
  have:=hk z hz
  omega)
 simpa using this
end Go.Proofs.YtdnochjajoiooaaDoor
