/- Plain: how many nodes a tree has, made normal and not. -/
import Derived.Test.YtpfokabdpmjobaaGreatDoorAd
import Derived.Test.YtpfokabdpmjobaaGreatDoorAv
namespace Go.Proofs.YtpfokabdpmjobaaGreatDoor
open Go.RowKit
set_option linter.unusedSimpArgs false
set_option linter.unusedVariables false
def szTT (x:TT):Nat:=(flatT x).length
def szs (l:List TT):Nat:=(l.map szTT).sum
theorem cat_length:∀(off:Nat) (T:List (List Nd)),(catN off T).length=(T.map List.length).sum
 |_,[]=>rfl
 |off,t::ts=>by simp only[catN,List.length_append,List.length_map,cat_length (off+t.length) ts,List.map_cons,List.sum_cons]
theorem sz_mk (n:Nd) (ks:List TT):szTT (.mk n ks)=szs ks+1:=by
 unfold szTT szs
 rw[flatT_mk,List.length_append,cat_length,List.map_map];rfl
theorem sz_cons (x:TT) (l:List TT):szs (x::l)=szTT x+szs l:=by simp[szs]
theorem sz_app (a b:List TT):szs (a++b)=szs a+szs b:=by simp[szs]
theorem sz_flat {f:TT→List TT}:∀(l:List TT),(∀x∈l,szs (f x)≤szTT x)→szs (l.flatMap f)≤szs l
 |[],_=>Nat.le_refl _
 |x::l,h=>by
  rw[List.flatMap_cons,sz_app,sz_cons]
  have h1:=h x List.mem_cons_self
  have h2:=sz_flat l fun y hy=>h y (List.mem_cons_of_mem _ hy)
  omega
theorem sz_one (x:TT):szs [x]=szTT x:=by simp[szs]
theorem sz_open (kind:Int) (x:TT):szs (openTT kind x)≤szTT x:=by
 induction x using TT.ind with
 |h n ks ih=>
  rw[openTT_mk]
  split
  ·have:=sz_flat ks ih
   rw[sz_mk];omega
  ·split
   ·exact Nat.zero_le _
   ·rw[sz_one];exact Nat.le_refl _
theorem sz_joined (n none:Nd) (l:List TT):szTT (joined n none l)≤szs l+1:=by
 match l with
 |[]=>rw[joined,sz_mk];exact Nat.le_refl _
 |[x]=>rw[joined,sz_one];omega
 |x::y::l=>rw[joined,sz_mk];exact Nat.le_refl _
theorem sz_map {f:TT→TT}:∀(l:List TT),(∀x∈l,szTT (f x)≤szTT x)→szs (l.map f)≤szs l
 |[],_=>Nat.le_refl _
 |x::l,h=>by
  rw[List.map_cons,sz_cons,sz_cons]
  have h1:=h x List.mem_cons_self
  have h2:=sz_map l fun y hy=>h y (List.mem_cons_of_mem _ hy)
  omega
theorem sz_make (x:TT):szTT (makeTT x)≤szTT x:=by
 induction x using TT.ind with
 |h n ks ih=>
  have hm:=sz_map ks ih
  rw[makeTT_mk,sz_mk]
  unfold joinTT
  split
  ·have h1:=sz_joined n emptyN ((ks.map makeTT).flatMap (openTT 4))
   have h2:=sz_flat (ks.map makeTT) fun x _=>sz_open 4 x
   omega
  split
  ·have h1:=sz_joined n setN ((ks.map makeTT).flatMap (openTT 5))
   have h2:=sz_flat (ks.map makeTT) fun x _=>sz_open 5 x
   omega
  ·rw[sz_mk];omega
theorem sz_den {t:Tr} (h:rightP t):szTT (den t.nodes t.root.toNat)≤t.nodes.length:=by
 have hr:t.root.toNat<t.nodes.length:=by have:=h.1;omega
 unfold szTT
 rw[←taken_flat (rightP_ahead h) _ (post_nodup h _ hr),taken_length]
 exact post_length h _ hr
end Go.Proofs.YtpfokabdpmjobaaGreatDoor
