/- Closed facts about the whole program, each asked of the kernel once: no condition. -/
import Derived.ProofKit
import Derived.Deep.DeepHandedRow
import Derived.Lib.LaidTab
import Derived.Test.YtdbnebhehiiakaaGreatDoorCards
import Derived.Test.YtdbnebhehiiakaaGreatDoorTie
namespace Go.Proofs.YtdbnebhehiiakaaGreatDoor
open Go.RowKit
theorem and_mk {a b:Bool} (ha:a=true) (hb:b=true):(a && b)=true:=by rw [ha,hb]; rfl
theorem gf1:(laidOutB Tryz.prog)=true:=by kernel_rfl
theorem gf2:(mapsRowed Tryz.prog)=true:=by kernel_rfl
theorem gf6:((Tryz.prog.stops == []))=true:=by kernel_rfl
theorem gf8:((Tryz.prog.stopKnobs == []))=true:=by kernel_rfl
theorem gf22:((Rows.spaceTextRow.plainKeys == Tryz.prog.plainKeys))=true:=by kernel_rfl
theorem gf24:(Tryz.prog.stopsHeard)=true:=by kernel_rfl
theorem gf25:(Tryz.prog.mayEnter)=true:=by kernel_rfl
theorem gf26:((Rows.spaceTextRow.lifted == Tryz.prog.liftsFinal))=true:=by kernel_rfl
theorem gf27:((Tryz.prog.make == some Rows.spaceTextRow.make))=true:=by kernel_rfl
end Go.Proofs.YtdbnebhehiiakaaGreatDoor
