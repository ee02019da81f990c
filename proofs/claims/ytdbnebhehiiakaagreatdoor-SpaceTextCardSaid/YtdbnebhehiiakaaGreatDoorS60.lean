/- Lemmas and contracts, each under its own condition: Fronts and ends of lists as they lie in memory. What a cell takes. -/
import Derived.Test.YtdbnebhehiiakaaGreatDoorS2
namespace Go.Proofs.YtdbnebhehiiakaaGreatDoor
open Go.RowKit
end Go.Proofs.YtdbnebhehiiakaaGreatDoor
namespace Go.Proofs.YtdbnebhehiiakaaGreatDoor
theorem infoCell:(Tryz.prog.info? 62).map (fun i => (i.zero,i.size,i.bytes))=some (some (.agg #[.slice none 0 0,.slice none 0 0]),2,48):=by kernel_rfl
end Go.Proofs.YtdbnebhehiiakaaGreatDoor
