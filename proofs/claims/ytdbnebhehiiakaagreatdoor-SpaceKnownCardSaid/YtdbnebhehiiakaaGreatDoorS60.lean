/- Lemmas and contracts, each under its own condition: Fronts and ends of lists as they lie in memory. What a cell takes. -/
import Derived.Test.YtdbnebhehiiakaaGreatDoorS2
namespace Go.Proofs.YtdbnebhehiiakaaGreatDoor
open Go.RowKit
theorem Ls.front {α:Type} {k:Nat} {Rd:World→Nat→Nat→α→Prop} {w:World} {a:Option Addr} {n cap m:Nat} {l:List α} (h:Ls k Rd w (.slice a n cap) l) (hm:m≤l.length):Ls k Rd w (.slice a m cap) (l.take m):=by
 obtain ⟨a',cap',e,h1,h2,h3⟩:=h
 injection e with e1 e2 e3
 subst e1 e2 e3
 refine ⟨_,_,by rw [List.length_take,Nat.min_eq_left hm],by rw [List.length_take]; omega,by omega,fun h0 => ?_⟩
 rw [List.length_take] at h0
 obtain ⟨g',o',e,hx⟩:=h3 (by omega)
 refine ⟨_,_,e,fun i x hi => ?_⟩
 rw [List.getElem?_take] at hi
 split at hi
 ·exact hx i x hi
 ·cases hi
end Go.Proofs.YtdbnebhehiiakaaGreatDoor
namespace Go.Proofs.YtdbnebhehiiakaaGreatDoor
theorem infoCell:(Tryz.prog.info? 62).map (fun i => (i.zero,i.size,i.bytes))=some (some (.agg #[.slice none 0 0,.slice none 0 0]),2,48):=by kernel_rfl
end Go.Proofs.YtdbnebhehiiakaaGreatDoor
