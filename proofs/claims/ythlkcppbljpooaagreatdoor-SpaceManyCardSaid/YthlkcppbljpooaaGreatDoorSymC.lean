/- slices.symMergeCmpFunc at lists of integers: the contract. -/
import Derived.Test.YthlkcppbljpooaaGreatDoorFromR
import Derived.Test.YthlkcppbljpooaaGreatDoorS44
namespace Go.Proofs.YthlkcppbljpooaaGreatDoor
open Go.RowKit

theorem MrgE.mem {α : Type} {K : α → List Int} {a b : Nat} {zs zs' : List α} (h : MrgE K a b zs zs') {x : α} (hx : x ∈ zs') : x ∈ zs := h.perm.mem_iff.1 hx
theorem Mrg5.perm {α : Type} {K : α → List Int} {a s mid e b : Nat} {zs0 zs : List α} (h : Mrg5 K a s mid e b zs0 zs) : zs.Perm zs0 := by
 obtain ⟨P, A1, A2, B1, B2, R, rfl, rfl, -⟩ := h
 refine List.Perm.append_left P ?_
 have := perm4 A1 A2 B1 B2
 rw [show A1 ++ (A2 ++ (B1 ++ (B2 ++ R))) = (A1 ++ (A2 ++ (B1 ++ B2))) ++ R by simp, ← List.append_assoc]
 exact List.Perm.append_right R this
theorem Mrg6.perm {α : Type} {K : α → List Int} {a mid e b : Nat} {zs0 zs : List α} (h : Mrg6 K a mid e b zs0 zs) : zs.Perm zs0 := by
 obtain ⟨P, C, A2, B2, Z0, R, rfl, rfl, hp, -⟩ := h
 refine List.Perm.append_left P ?_
 rw [← List.append_assoc]
 exact List.Perm.append_right R hp

end Go.Proofs.YthlkcppbljpooaaGreatDoor
