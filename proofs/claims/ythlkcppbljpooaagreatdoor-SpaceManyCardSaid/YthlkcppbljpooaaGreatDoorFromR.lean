/- The part of a code that begins with a region: what stands behind a loop is proved as a lemma of its own. -/
import Derived.WalkKit
import Derived.Lib.Hide
namespace Go.Proofs.YthlkcppbljpooaaGreatDoor

/-- the part of a code that begins with the region k -/
def firstReg : Code → Option Nat
 | .region n _ _ => some n
 | .seq a _ => firstReg a
 | _ => none
def fromReg (k : Nat) : Code → Option Code
 | .seq a b => if firstReg a = some k then some (.seq a b) else match fromReg k a with
  | some c => some c
  | none => fromReg k b
 | .block _ c => fromReg k c
 | .loop c => fromReg k c
 | .scope c => fromReg k c
 | .cond _ a b => match fromReg k a with
  | some c => some c
  | none => fromReg k b
 | _ => none
end Go.Proofs.YthlkcppbljpooaaGreatDoor
