/- A drawn region of reads and calls whose last steps are: a list of one element is built, appended to the second list of a box, and stored. -/
import Derived.Test.YtdbnebhehiiakaaGreatDoorS13
namespace Go.Proofs.YtdbnebhehiiakaaGreatDoor
open Go.RowKit
theorem upd_ne {dn:Nat→Bool} {i j:Nat} (h:j ≠ i):upd dn i j=dn j:=if_neg h
theorem upd_at {dn:Nat→Bool} {i:Nat}:upd dn i i=true:=if_pos rfl
theorem updV_ne {vals:Nat→Value} {v:Value} {i j:Nat} (h:j ≠ i):updV vals i v j=vals j:=if_neg h
theorem updV_at {vals:Nat→Value} {v:Value} {i:Nat}:updV vals i v i=v:=if_pos rfl
def Told (VL:List (Option Value)) (dn:Nat→Bool) (vals:Nat→Value):Prop:=∀ (j:Nat) (v:Value),VL[j]? = some (some v)→dn j=true→vals j=v
theorem Told.step {VL:List (Option Value)} {dn:Nat→Bool} {vals:Nat→Value} (h:Told VL dn vals) {i:Nat} {v:Value} (hv:VL[i]? = some (some v) ∨ VL[i]? = some none):Told VL (upd dn i) (updV vals i v):=by
 intro j u hj hd
 by_cases e:j=i
 ·subst e
  rw [updV_at]
  rcases hv with hv | hv
  ·rw [hj] at hv
   injection hv with hv
   injection hv with hv
   exact hv.symm
  ·rw [hj] at hv
   injection hv with hv
   cases hv
 ·rw [updV_ne e]
  rw [upd_ne e] at hd
  exact h j u hj hd
section
variable {VL:List (Option Value)} {jb ja js n₀ g:Nat} {W0:World} {v1 v2:Value} {lo hi:List Int} {M:Int} {dn:Nat→Bool} {vals:Nat→Value} {w:World}
end
end Go.Proofs.YtdbnebhehiiakaaGreatDoor
