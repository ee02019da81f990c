/-
  NARROWER THAN 'FOR EVERY INPUT', by the rows' own cells (each row's printed sentence says how): ExactMakes: laid · ExactParses: laid · ExactComputes: laid · ExactReads: laid · ExactDoes: laid · ExactTypes: laid · ExactRing: laid · ExactOrders: laid · ExactLogic: laid · ExactBack: laid · ExactTyped: laid · ExactSums: laid · ExactNil: laid · ExactParts: laid · ExactValues: laid.
  DERIVED. THE GIVEN ROWS OF THIS SEAT. 15 by the template 'for every input the law returns true; each argument reads behind the call as it read before'; 0 by the template 'total and deterministic' (their statements: YtemhidlaaommaaaGreatDoorTotals.lean).
  GIVEN WITH THE SEED: the statements are not yours to turn. If you find one false, say at which input.
  Laid BY PROGRAM, IN A SANDBOX (cutbox-rows.mjs): the forced cells as the released guide's own fill.sh prints them over the translation afab66fceee038d8… (all of the seat's roots in one cut). By AI agents, Wed Nov 11 2026. No macro, syntax, notation, axiom, sorry.
-/
import Derived.Test.YtemhidlaaommaaaGreatDoorChecked
import GoSem.PinnedTables
import GoSem.Claim
import GoSem.ClaimJoined
import GoSem.ClaimMapViews
import Derived.JoinedTies
import Derived.KernelRfl
namespace Go.Proofs.YtemhidlaaommaaaGreatDoor
/- THE CELL 'sum', in the pinned program and in every row, IS THE sha256 OF THE DUMP (.gsa) THAT YtemhidlaaommaaaGreatDoorProg.lean LOADS. Nothing in Lean hashes anything: it is a label: what it is worth is what the hold of that sum in a sandbox is worth. -/
noncomputable def Tryz.pinned : Pinned := { name := "ytemhidlaaommaaagreatdoor", sum := "afab66fceee038d8cb2269191910a4d1285d4477ccc4a5774d08b16b00de870f", checked := Tryz.checked }
namespace Rows
def none {H : Type} : Left H := { results := [], args := [] }

/- WHAT THE LISTED PACKAGE-LEVEL VARIABLES READ AS WHEN THE CALL BEGINS. Each datum BY PROGRAM (the guide's laid-datum.mjs) off the statement by which the dump's own 'gosem.cut.vars' lays the variable. In a bare row this is a premise. The card (YtemhidlaaommaaaGreatDoorCards.lean) ties it to the program's text. -/
def laid_unicode_utf8_acceptRanges {H : Type} : DataW H := .agg [.agg [.lit (.int .u8 128), .lit (.int .u8 191)], .agg [.lit (.int .u8 160), .lit (.int .u8 191)], .agg [.lit (.int .u8 128), .lit (.int .u8 159)], .agg [.lit (.int .u8 144), .lit (.int .u8 191)], .agg [.lit (.int .u8 128), .lit (.int .u8 143)], .agg [.lit (.int .u8 0), .lit (.int .u8 0)], .agg [.lit (.int .u8 0), .lit (.int .u8 0)], .agg [.lit (.int .u8 0), .lit (.int .u8 0)], .agg [.lit (.int .u8 0), .lit (.int .u8 0)], .agg [.lit (.int .u8 0), .lit (.int .u8 0)], .agg [.lit (.int .u8 0), .lit (.int .u8 0)], .agg [.lit (.int .u8 0), .lit (.int .u8 0)], .agg [.lit (.int .u8 0), .lit (.int .u8 0)], .agg [.lit (.int .u8 0), .lit (.int .u8 0)], .agg [.lit (.int .u8 0), .lit (.int .u8 0)], .agg [.lit (.int .u8 0), .lit (.int .u8 0)]]
/-- One of Go's own tables, pinned by name: the form's constant. -/
def laid_unicode_utf8_first : DataW Unit := Go.Pinned.utf8First

/-- 'tesseractlaw01.ExactMakes': WHATEVER THE INPUT: true; the input reads as it did. -/
def exactMakesSpec : ChangeSpec := { name := "exactMakes", fn := fun _ => fun
  | [d1, d2] => { results := [.lit (.bool true)], args := [d1, d2] }
  | _ => none }
def exactMakesRow : OpenClaim := { program := "ytemhidlaaommaaagreatdoor", sum := "afab66fceee038d8cb2269191910a4d1285d4477ccc4a5774d08b16b00de870f", func := "tesseract/tesseractlaw01.ExactMakes", spec := "exactMakes", inPlace := ["internal/abi.NoEscape", "internal/bytealg.IndexByteString", "internal/bytealg.IndexString", "internal/bytealg.abigen_runtime_cmpstring", "internal/bytealg.CountString", "internal/bytealg.MakeNoZero"], unfollowed := true, recurses := true, named := ["unicode/utf8.first", "unicode/utf8.acceptRanges", "internal/bytealg.MaxLen"], apart := false, laid := [("unicode/utf8.acceptRanges", laid_unicode_utf8_acceptRanges), ("unicode/utf8.first", laid_unicode_utf8_first)] }
def ExactMakesSaid : Prop := exactMakesRow.holds Tryz.pinned (OpenSpec.ofChange exactMakesSpec)

/-- ITS FALSE NEIGHBOUR: 'it returns false'. Refute it at one input. -/
def exactMakesWrong : ChangeSpec := { name := "exactMakes", fn := fun _ => fun
  | [d1, d2] => { results := [.lit (.bool false)], args := [d1, d2] }
  | _ => none }
def ExactMakesWrongFalsely : Prop := exactMakesRow.holds Tryz.pinned (OpenSpec.ofChange exactMakesWrong)

/-- 'tesseractlaw01.ExactParses': WHATEVER THE INPUT: true; the input reads as it did. -/
def exactParsesSpec : ChangeSpec := { name := "exactParses", fn := fun _ => fun
  | [d] => { results := [.lit (.bool true)], args := [d] }
  | _ => none }
def exactParsesRow : OpenClaim := { program := "ytemhidlaaommaaagreatdoor", sum := "afab66fceee038d8cb2269191910a4d1285d4477ccc4a5774d08b16b00de870f", func := "tesseract/tesseractlaw01.ExactParses", spec := "exactParses", inPlace := ["internal/abi.NoEscape", "internal/bytealg.IndexByteString", "internal/bytealg.IndexString", "internal/bytealg.abigen_runtime_cmpstring", "internal/bytealg.CountString", "internal/bytealg.MakeNoZero"], unfollowed := true, recurses := true, named := ["unicode/utf8.first", "unicode/utf8.acceptRanges", "internal/bytealg.MaxLen"], apart := false, laid := [("unicode/utf8.acceptRanges", laid_unicode_utf8_acceptRanges), ("unicode/utf8.first", laid_unicode_utf8_first)] }
def ExactParsesSaid : Prop := exactParsesRow.holds Tryz.pinned (OpenSpec.ofChange exactParsesSpec)

/-- ITS FALSE NEIGHBOUR: 'it returns false'. Refute it at one input. -/
def exactParsesWrong : ChangeSpec := { name := "exactParses", fn := fun _ => fun
  | [d] => { results := [.lit (.bool false)], args := [d] }
  | _ => none }
def ExactParsesWrongFalsely : Prop := exactParsesRow.holds Tryz.pinned (OpenSpec.ofChange exactParsesWrong)

/-- 'tesseractlaw01.ExactComputes': WHATEVER THE INPUT: true; the input reads as it did. -/
def exactComputesSpec : ChangeSpec := { name := "exactComputes", fn := fun _ => fun
  | [d1, d2] => { results := [.lit (.bool true)], args := [d1, d2] }
  | _ => none }
def exactComputesRow : OpenClaim := { program := "ytemhidlaaommaaagreatdoor", sum := "afab66fceee038d8cb2269191910a4d1285d4477ccc4a5774d08b16b00de870f", func := "tesseract/tesseractlaw01.ExactComputes", spec := "exactComputes", inPlace := ["internal/abi.NoEscape", "internal/bytealg.IndexByteString", "internal/bytealg.IndexString", "internal/bytealg.abigen_runtime_cmpstring", "internal/bytealg.CountString", "internal/bytealg.MakeNoZero"], unfollowed := true, recurses := true, named := ["unicode/utf8.first", "unicode/utf8.acceptRanges", "internal/bytealg.MaxLen"], apart := false, laid := [("unicode/utf8.acceptRanges", laid_unicode_utf8_acceptRanges), ("unicode/utf8.first", laid_unicode_utf8_first)] }
def ExactComputesSaid : Prop := exactComputesRow.holds Tryz.pinned (OpenSpec.ofChange exactComputesSpec)

/-- ITS FALSE NEIGHBOUR: 'it returns false'. Refute it at one input. -/
def exactComputesWrong : ChangeSpec := { name := "exactComputes", fn := fun _ => fun
  | [d1, d2] => { results := [.lit (.bool false)], args := [d1, d2] }
  | _ => none }
def ExactComputesWrongFalsely : Prop := exactComputesRow.holds Tryz.pinned (OpenSpec.ofChange exactComputesWrong)

/-- 'tesseractlaw01.ExactReads': WHATEVER THE INPUT: true; the input reads as it did. -/
def exactReadsSpec : ChangeSpec := { name := "exactReads", fn := fun _ => fun
  | [d] => { results := [.lit (.bool true)], args := [d] }
  | _ => none }
def exactReadsRow : OpenClaim := { program := "ytemhidlaaommaaagreatdoor", sum := "afab66fceee038d8cb2269191910a4d1285d4477ccc4a5774d08b16b00de870f", func := "tesseract/tesseractlaw01.ExactReads", spec := "exactReads", inPlace := ["internal/abi.NoEscape", "internal/bytealg.IndexByteString", "internal/bytealg.IndexString", "internal/bytealg.abigen_runtime_cmpstring", "internal/bytealg.CountString", "internal/bytealg.MakeNoZero"], unfollowed := true, recurses := true, named := ["unicode/utf8.first", "unicode/utf8.acceptRanges", "internal/bytealg.MaxLen"], apart := false, laid := [("unicode/utf8.acceptRanges", laid_unicode_utf8_acceptRanges), ("unicode/utf8.first", laid_unicode_utf8_first)] }
def ExactReadsSaid : Prop := exactReadsRow.holds Tryz.pinned (OpenSpec.ofChange exactReadsSpec)

/-- ITS FALSE NEIGHBOUR: 'it returns false'. Refute it at one input. -/
def exactReadsWrong : ChangeSpec := { name := "exactReads", fn := fun _ => fun
  | [d] => { results := [.lit (.bool false)], args := [d] }
  | _ => none }
def ExactReadsWrongFalsely : Prop := exactReadsRow.holds Tryz.pinned (OpenSpec.ofChange exactReadsWrong)

/-- 'tesseractlaw01.ExactDoes': WHATEVER THE INPUT: true; the input reads as it did. -/
def exactDoesSpec : ChangeSpec := { name := "exactDoes", fn := fun _ => fun
  | [d1, d2] => { results := [.lit (.bool true)], args := [d1, d2] }
  | _ => none }
def exactDoesRow : OpenClaim := { program := "ytemhidlaaommaaagreatdoor", sum := "afab66fceee038d8cb2269191910a4d1285d4477ccc4a5774d08b16b00de870f", func := "tesseract/tesseractlaw01.ExactDoes", spec := "exactDoes", inPlace := ["internal/abi.NoEscape", "internal/bytealg.IndexByteString", "internal/bytealg.IndexString", "internal/bytealg.abigen_runtime_cmpstring", "internal/bytealg.CountString", "internal/bytealg.MakeNoZero"], unfollowed := true, recurses := true, named := ["unicode/utf8.first", "unicode/utf8.acceptRanges", "internal/bytealg.MaxLen"], apart := false, laid := [("unicode/utf8.acceptRanges", laid_unicode_utf8_acceptRanges), ("unicode/utf8.first", laid_unicode_utf8_first)] }
def ExactDoesSaid : Prop := exactDoesRow.holds Tryz.pinned (OpenSpec.ofChange exactDoesSpec)

/-- ITS FALSE NEIGHBOUR: 'it returns false'. Refute it at one input. -/
def exactDoesWrong : ChangeSpec := { name := "exactDoes", fn := fun _ => fun
  | [d1, d2] => { results := [.lit (.bool false)], args := [d1, d2] }
  | _ => none }
def ExactDoesWrongFalsely : Prop := exactDoesRow.holds Tryz.pinned (OpenSpec.ofChange exactDoesWrong)

/-- 'tesseractlaw01.ExactTypes': WHATEVER THE INPUT: true; the input reads as it did. -/
def exactTypesSpec : ChangeSpec := { name := "exactTypes", fn := fun _ => fun
  | [d1, d2] => { results := [.lit (.bool true)], args := [d1, d2] }
  | _ => none }
def exactTypesRow : OpenClaim := { program := "ytemhidlaaommaaagreatdoor", sum := "afab66fceee038d8cb2269191910a4d1285d4477ccc4a5774d08b16b00de870f", func := "tesseract/tesseractlaw01.ExactTypes", spec := "exactTypes", inPlace := ["internal/abi.NoEscape", "internal/bytealg.IndexByteString", "internal/bytealg.IndexString", "internal/bytealg.abigen_runtime_cmpstring", "internal/bytealg.CountString", "internal/bytealg.MakeNoZero"], unfollowed := true, recurses := true, named := ["unicode/utf8.first", "unicode/utf8.acceptRanges", "internal/bytealg.MaxLen"], apart := false, laid := [("unicode/utf8.acceptRanges", laid_unicode_utf8_acceptRanges), ("unicode/utf8.first", laid_unicode_utf8_first)] }
def ExactTypesSaid : Prop := exactTypesRow.holds Tryz.pinned (OpenSpec.ofChange exactTypesSpec)

/-- ITS FALSE NEIGHBOUR: 'it returns false'. Refute it at one input. -/
def exactTypesWrong : ChangeSpec := { name := "exactTypes", fn := fun _ => fun
  | [d1, d2] => { results := [.lit (.bool false)], args := [d1, d2] }
  | _ => none }
def ExactTypesWrongFalsely : Prop := exactTypesRow.holds Tryz.pinned (OpenSpec.ofChange exactTypesWrong)

/-- 'tesseractlaw01.ExactRing': WHATEVER THE INPUT: true; the input reads as it did. -/
def exactRingSpec : ChangeSpec := { name := "exactRing", fn := fun _ => fun
  | [d1, d2, d3] => { results := [.lit (.bool true)], args := [d1, d2, d3] }
  | _ => none }
def exactRingRow : OpenClaim := { program := "ytemhidlaaommaaagreatdoor", sum := "afab66fceee038d8cb2269191910a4d1285d4477ccc4a5774d08b16b00de870f", func := "tesseract/tesseractlaw01.ExactRing", spec := "exactRing", inPlace := ["internal/abi.NoEscape", "internal/bytealg.IndexByteString", "internal/bytealg.IndexString", "internal/bytealg.abigen_runtime_cmpstring", "internal/bytealg.CountString", "internal/bytealg.MakeNoZero"], unfollowed := true, recurses := true, named := ["unicode/utf8.first", "unicode/utf8.acceptRanges", "internal/bytealg.MaxLen"], apart := false, laid := [("unicode/utf8.acceptRanges", laid_unicode_utf8_acceptRanges), ("unicode/utf8.first", laid_unicode_utf8_first)] }
def ExactRingSaid : Prop := exactRingRow.holds Tryz.pinned (OpenSpec.ofChange exactRingSpec)

/-- ITS FALSE NEIGHBOUR: 'it returns false'. Refute it at one input. -/
def exactRingWrong : ChangeSpec := { name := "exactRing", fn := fun _ => fun
  | [d1, d2, d3] => { results := [.lit (.bool false)], args := [d1, d2, d3] }
  | _ => none }
def ExactRingWrongFalsely : Prop := exactRingRow.holds Tryz.pinned (OpenSpec.ofChange exactRingWrong)

/-- 'tesseractlaw01.ExactOrders': WHATEVER THE INPUT: true; the input reads as it did. -/
def exactOrdersSpec : ChangeSpec := { name := "exactOrders", fn := fun _ => fun
  | [d1, d2, d3] => { results := [.lit (.bool true)], args := [d1, d2, d3] }
  | _ => none }
def exactOrdersRow : OpenClaim := { program := "ytemhidlaaommaaagreatdoor", sum := "afab66fceee038d8cb2269191910a4d1285d4477ccc4a5774d08b16b00de870f", func := "tesseract/tesseractlaw01.ExactOrders", spec := "exactOrders", inPlace := ["internal/abi.NoEscape", "internal/bytealg.IndexByteString", "internal/bytealg.IndexString", "internal/bytealg.abigen_runtime_cmpstring", "internal/bytealg.CountString", "internal/bytealg.MakeNoZero"], unfollowed := true, recurses := true, named := ["unicode/utf8.first", "unicode/utf8.acceptRanges", "internal/bytealg.MaxLen"], apart := false, laid := [("unicode/utf8.acceptRanges", laid_unicode_utf8_acceptRanges), ("unicode/utf8.first", laid_unicode_utf8_first)] }
def ExactOrdersSaid : Prop := exactOrdersRow.holds Tryz.pinned (OpenSpec.ofChange exactOrdersSpec)

/-- ITS FALSE NEIGHBOUR: 'it returns false'. Refute it at one input. -/
def exactOrdersWrong : ChangeSpec := { name := "exactOrders", fn := fun _ => fun
  | [d1, d2, d3] => { results := [.lit (.bool false)], args := [d1, d2, d3] }
  | _ => none }
def ExactOrdersWrongFalsely : Prop := exactOrdersRow.holds Tryz.pinned (OpenSpec.ofChange exactOrdersWrong)

/-- 'tesseractlaw01.ExactLogic': WHATEVER THE INPUT: true; the input reads as it did. -/
def exactLogicSpec : ChangeSpec := { name := "exactLogic", fn := fun _ => fun
  | [d1, d2] => { results := [.lit (.bool true)], args := [d1, d2] }
  | _ => none }
def exactLogicRow : OpenClaim := { program := "ytemhidlaaommaaagreatdoor", sum := "afab66fceee038d8cb2269191910a4d1285d4477ccc4a5774d08b16b00de870f", func := "tesseract/tesseractlaw01.ExactLogic", spec := "exactLogic", inPlace := ["internal/bytealg.abigen_runtime_cmpstring", "internal/abi.NoEscape", "internal/bytealg.IndexByteString", "internal/bytealg.IndexString", "internal/bytealg.CountString", "internal/bytealg.MakeNoZero"], unfollowed := true, recurses := true, named := ["unicode/utf8.first", "unicode/utf8.acceptRanges", "internal/bytealg.MaxLen"], apart := false, laid := [("unicode/utf8.acceptRanges", laid_unicode_utf8_acceptRanges), ("unicode/utf8.first", laid_unicode_utf8_first)] }
def ExactLogicSaid : Prop := exactLogicRow.holds Tryz.pinned (OpenSpec.ofChange exactLogicSpec)

/-- ITS FALSE NEIGHBOUR: 'it returns false'. Refute it at one input. -/
def exactLogicWrong : ChangeSpec := { name := "exactLogic", fn := fun _ => fun
  | [d1, d2] => { results := [.lit (.bool false)], args := [d1, d2] }
  | _ => none }
def ExactLogicWrongFalsely : Prop := exactLogicRow.holds Tryz.pinned (OpenSpec.ofChange exactLogicWrong)

/-- 'tesseractlaw01.ExactBack': WHATEVER THE INPUT: true; the input reads as it did. -/
def exactBackSpec : ChangeSpec := { name := "exactBack", fn := fun _ => fun
  | [d1, d2, d3] => { results := [.lit (.bool true)], args := [d1, d2, d3] }
  | _ => none }
def exactBackRow : OpenClaim := { program := "ytemhidlaaommaaagreatdoor", sum := "afab66fceee038d8cb2269191910a4d1285d4477ccc4a5774d08b16b00de870f", func := "tesseract/tesseractlaw01.ExactBack", spec := "exactBack", inPlace := ["internal/abi.NoEscape", "internal/bytealg.IndexByteString", "internal/bytealg.IndexString", "internal/bytealg.abigen_runtime_cmpstring", "internal/bytealg.CountString", "internal/bytealg.MakeNoZero"], unfollowed := true, recurses := true, named := ["unicode/utf8.first", "unicode/utf8.acceptRanges", "internal/bytealg.MaxLen"], apart := false, laid := [("unicode/utf8.acceptRanges", laid_unicode_utf8_acceptRanges), ("unicode/utf8.first", laid_unicode_utf8_first)] }
def ExactBackSaid : Prop := exactBackRow.holds Tryz.pinned (OpenSpec.ofChange exactBackSpec)

/-- ITS FALSE NEIGHBOUR: 'it returns false'. Refute it at one input. -/
def exactBackWrong : ChangeSpec := { name := "exactBack", fn := fun _ => fun
  | [d1, d2, d3] => { results := [.lit (.bool false)], args := [d1, d2, d3] }
  | _ => none }
def ExactBackWrongFalsely : Prop := exactBackRow.holds Tryz.pinned (OpenSpec.ofChange exactBackWrong)

/-- 'tesseractlaw01.ExactTyped': WHATEVER THE INPUT: true; the input reads as it did. -/
def exactTypedSpec : ChangeSpec := { name := "exactTyped", fn := fun _ => fun
  | [d1, d2, d3] => { results := [.lit (.bool true)], args := [d1, d2, d3] }
  | _ => none }
def exactTypedRow : OpenClaim := { program := "ytemhidlaaommaaagreatdoor", sum := "afab66fceee038d8cb2269191910a4d1285d4477ccc4a5774d08b16b00de870f", func := "tesseract/tesseractlaw01.ExactTyped", spec := "exactTyped", inPlace := ["internal/abi.NoEscape", "internal/bytealg.IndexByteString", "internal/bytealg.IndexString", "internal/bytealg.abigen_runtime_cmpstring", "internal/bytealg.CountString", "internal/bytealg.MakeNoZero"], unfollowed := true, recurses := true, named := ["unicode/utf8.first", "unicode/utf8.acceptRanges", "internal/bytealg.MaxLen"], apart := false, laid := [("unicode/utf8.acceptRanges", laid_unicode_utf8_acceptRanges), ("unicode/utf8.first", laid_unicode_utf8_first)] }
def ExactTypedSaid : Prop := exactTypedRow.holds Tryz.pinned (OpenSpec.ofChange exactTypedSpec)

/-- ITS FALSE NEIGHBOUR: 'it returns false'. Refute it at one input. -/
def exactTypedWrong : ChangeSpec := { name := "exactTyped", fn := fun _ => fun
  | [d1, d2, d3] => { results := [.lit (.bool false)], args := [d1, d2, d3] }
  | _ => none }
def ExactTypedWrongFalsely : Prop := exactTypedRow.holds Tryz.pinned (OpenSpec.ofChange exactTypedWrong)

/-- 'tesseractlaw01.ExactSums': WHATEVER THE INPUT: true; the input reads as it did. -/
def exactSumsSpec : ChangeSpec := { name := "exactSums", fn := fun _ => fun
  | [d] => { results := [.lit (.bool true)], args := [d] }
  | _ => none }
def exactSumsRow : OpenClaim := { program := "ytemhidlaaommaaagreatdoor", sum := "afab66fceee038d8cb2269191910a4d1285d4477ccc4a5774d08b16b00de870f", func := "tesseract/tesseractlaw01.ExactSums", spec := "exactSums", inPlace := ["internal/abi.NoEscape", "internal/bytealg.IndexByteString", "internal/bytealg.IndexString", "internal/bytealg.abigen_runtime_cmpstring", "internal/bytealg.CountString", "internal/bytealg.MakeNoZero"], unfollowed := true, recurses := true, named := ["unicode/utf8.first", "unicode/utf8.acceptRanges", "internal/bytealg.MaxLen"], apart := false, laid := [("unicode/utf8.acceptRanges", laid_unicode_utf8_acceptRanges), ("unicode/utf8.first", laid_unicode_utf8_first)] }
def ExactSumsSaid : Prop := exactSumsRow.holds Tryz.pinned (OpenSpec.ofChange exactSumsSpec)

/-- ITS FALSE NEIGHBOUR: 'it returns false'. Refute it at one input. -/
def exactSumsWrong : ChangeSpec := { name := "exactSums", fn := fun _ => fun
  | [d] => { results := [.lit (.bool false)], args := [d] }
  | _ => none }
def ExactSumsWrongFalsely : Prop := exactSumsRow.holds Tryz.pinned (OpenSpec.ofChange exactSumsWrong)

/-- 'tesseractlaw01.ExactNil': WHATEVER THE INPUT: true; the input reads as it did. -/
def exactNilSpec : ChangeSpec := { name := "exactNil", fn := fun _ => fun
  | [d1, d2] => { results := [.lit (.bool true)], args := [d1, d2] }
  | _ => none }
def exactNilRow : OpenClaim := { program := "ytemhidlaaommaaagreatdoor", sum := "afab66fceee038d8cb2269191910a4d1285d4477ccc4a5774d08b16b00de870f", func := "tesseract/tesseractlaw01.ExactNil", spec := "exactNil", inPlace := ["internal/abi.NoEscape", "internal/bytealg.IndexByteString", "internal/bytealg.IndexString", "internal/bytealg.abigen_runtime_cmpstring", "internal/bytealg.CountString", "internal/bytealg.MakeNoZero"], unfollowed := true, recurses := true, named := ["unicode/utf8.first", "unicode/utf8.acceptRanges", "internal/bytealg.MaxLen"], apart := false, laid := [("unicode/utf8.acceptRanges", laid_unicode_utf8_acceptRanges), ("unicode/utf8.first", laid_unicode_utf8_first)] }
def ExactNilSaid : Prop := exactNilRow.holds Tryz.pinned (OpenSpec.ofChange exactNilSpec)

/-- ITS FALSE NEIGHBOUR: 'it returns false'. Refute it at one input. -/
def exactNilWrong : ChangeSpec := { name := "exactNil", fn := fun _ => fun
  | [d1, d2] => { results := [.lit (.bool false)], args := [d1, d2] }
  | _ => none }
def ExactNilWrongFalsely : Prop := exactNilRow.holds Tryz.pinned (OpenSpec.ofChange exactNilWrong)

/-- 'tesseractlaw01.ExactParts': WHATEVER THE INPUT: true; the input reads as it did. -/
def exactPartsSpec : ChangeSpec := { name := "exactParts", fn := fun _ => fun
  | [d1, d2] => { results := [.lit (.bool true)], args := [d1, d2] }
  | _ => none }
def exactPartsRow : OpenClaim := { program := "ytemhidlaaommaaagreatdoor", sum := "afab66fceee038d8cb2269191910a4d1285d4477ccc4a5774d08b16b00de870f", func := "tesseract/tesseractlaw01.ExactParts", spec := "exactParts", inPlace := ["internal/abi.NoEscape", "internal/bytealg.IndexByteString", "internal/bytealg.IndexString", "internal/bytealg.abigen_runtime_cmpstring", "internal/bytealg.CountString", "internal/bytealg.MakeNoZero"], unfollowed := true, recurses := true, named := ["unicode/utf8.first", "unicode/utf8.acceptRanges", "internal/bytealg.MaxLen"], apart := false, laid := [("unicode/utf8.acceptRanges", laid_unicode_utf8_acceptRanges), ("unicode/utf8.first", laid_unicode_utf8_first)] }
def ExactPartsSaid : Prop := exactPartsRow.holds Tryz.pinned (OpenSpec.ofChange exactPartsSpec)

/-- ITS FALSE NEIGHBOUR: 'it returns false'. Refute it at one input. -/
def exactPartsWrong : ChangeSpec := { name := "exactParts", fn := fun _ => fun
  | [d1, d2] => { results := [.lit (.bool false)], args := [d1, d2] }
  | _ => none }
def ExactPartsWrongFalsely : Prop := exactPartsRow.holds Tryz.pinned (OpenSpec.ofChange exactPartsWrong)

/-- 'tesseractlaw01.ExactValues': WHATEVER THE INPUT: true; the input reads as it did. -/
def exactValuesSpec : ChangeSpec := { name := "exactValues", fn := fun _ => fun
  | [d1, d2, d3] => { results := [.lit (.bool true)], args := [d1, d2, d3] }
  | _ => none }
def exactValuesRow : OpenClaim := { program := "ytemhidlaaommaaagreatdoor", sum := "afab66fceee038d8cb2269191910a4d1285d4477ccc4a5774d08b16b00de870f", func := "tesseract/tesseractlaw01.ExactValues", spec := "exactValues", inPlace := ["internal/abi.NoEscape", "internal/bytealg.IndexByteString", "internal/bytealg.IndexString", "internal/bytealg.CountString", "internal/bytealg.MakeNoZero", "internal/bytealg.abigen_runtime_cmpstring"], unfollowed := true, recurses := true, named := ["unicode/utf8.first", "unicode/utf8.acceptRanges", "internal/bytealg.MaxLen"], apart := false, laid := [("unicode/utf8.acceptRanges", laid_unicode_utf8_acceptRanges), ("unicode/utf8.first", laid_unicode_utf8_first)] }
def ExactValuesSaid : Prop := exactValuesRow.holds Tryz.pinned (OpenSpec.ofChange exactValuesSpec)

/-- ITS FALSE NEIGHBOUR: 'it returns false'. Refute it at one input. -/
def exactValuesWrong : ChangeSpec := { name := "exactValues", fn := fun _ => fun
  | [d1, d2, d3] => { results := [.lit (.bool false)], args := [d1, d2, d3] }
  | _ => none }
def ExactValuesWrongFalsely : Prop := exactValuesRow.holds Tryz.pinned (OpenSpec.ofChange exactValuesWrong)

/- THE SECOND FORM. 'bulk': how many values and letters a reading holds, each counted each time it is reached (what is shared counts as often as it is met; a slice's spare places count too). A statement '..UptoSaid' is the law's where the arguments, and the package variables that the reading takes, are together of bulk at most 1048576: NARROWER than '..Said'. Prove '..Said' where nothing that the law and all that it calls make is longer than what came in: it says more and counts as full. Else prove '..UptoSaid'. A law counts once. -/
mutual
def uptoBulk {H : Type} : DataW H → Nat
  | .lit (.string bytes) => bytes.length + 1
  | .lit _ => 1
  | .nil => 1
  | .ptr d => uptoBulk d + 1
  | .slice elems spare => uptoBulkAll elems + uptoBulkAll spare + 1
  | .agg parts => uptoBulkAll parts + 1
  | .iface _ d => uptoBulk d + 1
  | .map entries => uptoBulkEntries entries + 1
  | .held _ => 1
def uptoBulkAll {H : Type} : List (DataW H) → Nat
  | [] => 0
  | d :: r => uptoBulk d + uptoBulkAll r
def uptoBulkEntries {H : Type} : List (Lit × DataW H) → Nat
  | [] => 0
  | x :: r => uptoBulkEntry x + uptoBulkEntries r
def uptoBulkEntry {H : Type} : Lit × DataW H → Nat
  | (.string bytes, d) => bytes.length + uptoBulk d + 1
  | (_, d) => uptoBulk d + 1
 end
def uptoSmall : (H : Type) → List (DataW H) → Bool := fun _ ds => decide (uptoBulkAll ds ≤ 1048576)
def OpenSpec.upto (s : _root_.Go.ChangeSpec) : _root_.Go.OpenSpec := { _root_.Go.OpenSpec.ofChange s with cond := some uptoSmall }

/-- 'tesseractlaw01.ExactMakes', WHERE WHAT IT READS IS OF BULK AT MOST 1048576: true; the input reads as it did. -/
def exactMakesUptoRow : OpenClaim := { program := "ytemhidlaaommaaagreatdoor", sum := "afab66fceee038d8cb2269191910a4d1285d4477ccc4a5774d08b16b00de870f", func := "tesseract/tesseractlaw01.ExactMakes", spec := "exactMakes", inPlace := ["internal/abi.NoEscape", "internal/bytealg.IndexByteString", "internal/bytealg.IndexString", "internal/bytealg.abigen_runtime_cmpstring", "internal/bytealg.CountString", "internal/bytealg.MakeNoZero"], unfollowed := true, recurses := true, named := ["unicode/utf8.first", "unicode/utf8.acceptRanges", "internal/bytealg.MaxLen"], apart := false, laid := [("unicode/utf8.acceptRanges", laid_unicode_utf8_acceptRanges), ("unicode/utf8.first", laid_unicode_utf8_first)], narrowed := true }
def ExactMakesUptoSaid : Prop := exactMakesUptoRow.holds Tryz.pinned (OpenSpec.upto exactMakesSpec)

/-- 'tesseractlaw01.ExactParses', WHERE WHAT IT READS IS OF BULK AT MOST 1048576: true; the input reads as it did. -/
def exactParsesUptoRow : OpenClaim := { program := "ytemhidlaaommaaagreatdoor", sum := "afab66fceee038d8cb2269191910a4d1285d4477ccc4a5774d08b16b00de870f", func := "tesseract/tesseractlaw01.ExactParses", spec := "exactParses", inPlace := ["internal/abi.NoEscape", "internal/bytealg.IndexByteString", "internal/bytealg.IndexString", "internal/bytealg.abigen_runtime_cmpstring", "internal/bytealg.CountString", "internal/bytealg.MakeNoZero"], unfollowed := true, recurses := true, named := ["unicode/utf8.first", "unicode/utf8.acceptRanges", "internal/bytealg.MaxLen"], apart := false, laid := [("unicode/utf8.acceptRanges", laid_unicode_utf8_acceptRanges), ("unicode/utf8.first", laid_unicode_utf8_first)], narrowed := true }
def ExactParsesUptoSaid : Prop := exactParsesUptoRow.holds Tryz.pinned (OpenSpec.upto exactParsesSpec)

/-- 'tesseractlaw01.ExactComputes', WHERE WHAT IT READS IS OF BULK AT MOST 1048576: true; the input reads as it did. -/
def exactComputesUptoRow : OpenClaim := { program := "ytemhidlaaommaaagreatdoor", sum := "afab66fceee038d8cb2269191910a4d1285d4477ccc4a5774d08b16b00de870f", func := "tesseract/tesseractlaw01.ExactComputes", spec := "exactComputes", inPlace := ["internal/abi.NoEscape", "internal/bytealg.IndexByteString", "internal/bytealg.IndexString", "internal/bytealg.abigen_runtime_cmpstring", "internal/bytealg.CountString", "internal/bytealg.MakeNoZero"], unfollowed := true, recurses := true, named := ["unicode/utf8.first", "unicode/utf8.acceptRanges", "internal/bytealg.MaxLen"], apart := false, laid := [("unicode/utf8.acceptRanges", laid_unicode_utf8_acceptRanges), ("unicode/utf8.first", laid_unicode_utf8_first)], narrowed := true }
def ExactComputesUptoSaid : Prop := exactComputesUptoRow.holds Tryz.pinned (OpenSpec.upto exactComputesSpec)

/-- 'tesseractlaw01.ExactReads', WHERE WHAT IT READS IS OF BULK AT MOST 1048576: true; the input reads as it did. -/
def exactReadsUptoRow : OpenClaim := { program := "ytemhidlaaommaaagreatdoor", sum := "afab66fceee038d8cb2269191910a4d1285d4477ccc4a5774d08b16b00de870f", func := "tesseract/tesseractlaw01.ExactReads", spec := "exactReads", inPlace := ["internal/abi.NoEscape", "internal/bytealg.IndexByteString", "internal/bytealg.IndexString", "internal/bytealg.abigen_runtime_cmpstring", "internal/bytealg.CountString", "internal/bytealg.MakeNoZero"], unfollowed := true, recurses := true, named := ["unicode/utf8.first", "unicode/utf8.acceptRanges", "internal/bytealg.MaxLen"], apart := false, laid := [("unicode/utf8.acceptRanges", laid_unicode_utf8_acceptRanges), ("unicode/utf8.first", laid_unicode_utf8_first)], narrowed := true }
def ExactReadsUptoSaid : Prop := exactReadsUptoRow.holds Tryz.pinned (OpenSpec.upto exactReadsSpec)

/-- 'tesseractlaw01.ExactDoes', WHERE WHAT IT READS IS OF BULK AT MOST 1048576: true; the input reads as it did. -/
def exactDoesUptoRow : OpenClaim := { program := "ytemhidlaaommaaagreatdoor", sum := "afab66fceee038d8cb2269191910a4d1285d4477ccc4a5774d08b16b00de870f", func := "tesseract/tesseractlaw01.ExactDoes", spec := "exactDoes", inPlace := ["internal/abi.NoEscape", "internal/bytealg.IndexByteString", "internal/bytealg.IndexString", "internal/bytealg.abigen_runtime_cmpstring", "internal/bytealg.CountString", "internal/bytealg.MakeNoZero"], unfollowed := true, recurses := true, named := ["unicode/utf8.first", "unicode/utf8.acceptRanges", "internal/bytealg.MaxLen"], apart := false, laid := [("unicode/utf8.acceptRanges", laid_unicode_utf8_acceptRanges), ("unicode/utf8.first", laid_unicode_utf8_first)], narrowed := true }
def ExactDoesUptoSaid : Prop := exactDoesUptoRow.holds Tryz.pinned (OpenSpec.upto exactDoesSpec)

/-- 'tesseractlaw01.ExactTypes', WHERE WHAT IT READS IS OF BULK AT MOST 1048576: true; the input reads as it did. -/
def exactTypesUptoRow : OpenClaim := { program := "ytemhidlaaommaaagreatdoor", sum := "afab66fceee038d8cb2269191910a4d1285d4477ccc4a5774d08b16b00de870f", func := "tesseract/tesseractlaw01.ExactTypes", spec := "exactTypes", inPlace := ["internal/abi.NoEscape", "internal/bytealg.IndexByteString", "internal/bytealg.IndexString", "internal/bytealg.abigen_runtime_cmpstring", "internal/bytealg.CountString", "internal/bytealg.MakeNoZero"], unfollowed := true, recurses := true, named := ["unicode/utf8.first", "unicode/utf8.acceptRanges", "internal/bytealg.MaxLen"], apart := false, laid := [("unicode/utf8.acceptRanges", laid_unicode_utf8_acceptRanges), ("unicode/utf8.first", laid_unicode_utf8_first)], narrowed := true }
def ExactTypesUptoSaid : Prop := exactTypesUptoRow.holds Tryz.pinned (OpenSpec.upto exactTypesSpec)

/-- 'tesseractlaw01.ExactRing', WHERE WHAT IT READS IS OF BULK AT MOST 1048576: true; the input reads as it did. -/
def exactRingUptoRow : OpenClaim := { program := "ytemhidlaaommaaagreatdoor", sum := "afab66fceee038d8cb2269191910a4d1285d4477ccc4a5774d08b16b00de870f", func := "tesseract/tesseractlaw01.ExactRing", spec := "exactRing", inPlace := ["internal/abi.NoEscape", "internal/bytealg.IndexByteString", "internal/bytealg.IndexString", "internal/bytealg.abigen_runtime_cmpstring", "internal/bytealg.CountString", "internal/bytealg.MakeNoZero"], unfollowed := true, recurses := true, named := ["unicode/utf8.first", "unicode/utf8.acceptRanges", "internal/bytealg.MaxLen"], apart := false, laid := [("unicode/utf8.acceptRanges", laid_unicode_utf8_acceptRanges), ("unicode/utf8.first", laid_unicode_utf8_first)], narrowed := true }
def ExactRingUptoSaid : Prop := exactRingUptoRow.holds Tryz.pinned (OpenSpec.upto exactRingSpec)

/-- 'tesseractlaw01.ExactOrders', WHERE WHAT IT READS IS OF BULK AT MOST 1048576: true; the input reads as it did. -/
def exactOrdersUptoRow : OpenClaim := { program := "ytemhidlaaommaaagreatdoor", sum := "afab66fceee038d8cb2269191910a4d1285d4477ccc4a5774d08b16b00de870f", func := "tesseract/tesseractlaw01.ExactOrders", spec := "exactOrders", inPlace := ["internal/abi.NoEscape", "internal/bytealg.IndexByteString", "internal/bytealg.IndexString", "internal/bytealg.abigen_runtime_cmpstring", "internal/bytealg.CountString", "internal/bytealg.MakeNoZero"], unfollowed := true, recurses := true, named := ["unicode/utf8.first", "unicode/utf8.acceptRanges", "internal/bytealg.MaxLen"], apart := false, laid := [("unicode/utf8.acceptRanges", laid_unicode_utf8_acceptRanges), ("unicode/utf8.first", laid_unicode_utf8_first)], narrowed := true }
def ExactOrdersUptoSaid : Prop := exactOrdersUptoRow.holds Tryz.pinned (OpenSpec.upto exactOrdersSpec)

/-- 'tesseractlaw01.ExactLogic', WHERE WHAT IT READS IS OF BULK AT MOST 1048576: true; the input reads as it did. -/
def exactLogicUptoRow : OpenClaim := { program := "ytemhidlaaommaaagreatdoor", sum := "afab66fceee038d8cb2269191910a4d1285d4477ccc4a5774d08b16b00de870f", func := "tesseract/tesseractlaw01.ExactLogic", spec := "exactLogic", inPlace := ["internal/bytealg.abigen_runtime_cmpstring", "internal/abi.NoEscape", "internal/bytealg.IndexByteString", "internal/bytealg.IndexString", "internal/bytealg.CountString", "internal/bytealg.MakeNoZero"], unfollowed := true, recurses := true, named := ["unicode/utf8.first", "unicode/utf8.acceptRanges", "internal/bytealg.MaxLen"], apart := false, laid := [("unicode/utf8.acceptRanges", laid_unicode_utf8_acceptRanges), ("unicode/utf8.first", laid_unicode_utf8_first)], narrowed := true }
def ExactLogicUptoSaid : Prop := exactLogicUptoRow.holds Tryz.pinned (OpenSpec.upto exactLogicSpec)

/-- 'tesseractlaw01.ExactBack', WHERE WHAT IT READS IS OF BULK AT MOST 1048576: true; the input reads as it did. -/
def exactBackUptoRow : OpenClaim := { program := "ytemhidlaaommaaagreatdoor", sum := "afab66fceee038d8cb2269191910a4d1285d4477ccc4a5774d08b16b00de870f", func := "tesseract/tesseractlaw01.ExactBack", spec := "exactBack", inPlace := ["internal/abi.NoEscape", "internal/bytealg.IndexByteString", "internal/bytealg.IndexString", "internal/bytealg.abigen_runtime_cmpstring", "internal/bytealg.CountString", "internal/bytealg.MakeNoZero"], unfollowed := true, recurses := true, named := ["unicode/utf8.first", "unicode/utf8.acceptRanges", "internal/bytealg.MaxLen"], apart := false, laid := [("unicode/utf8.acceptRanges", laid_unicode_utf8_acceptRanges), ("unicode/utf8.first", laid_unicode_utf8_first)], narrowed := true }
def ExactBackUptoSaid : Prop := exactBackUptoRow.holds Tryz.pinned (OpenSpec.upto exactBackSpec)

/-- 'tesseractlaw01.ExactTyped', WHERE WHAT IT READS IS OF BULK AT MOST 1048576: true; the input reads as it did. -/
def exactTypedUptoRow : OpenClaim := { program := "ytemhidlaaommaaagreatdoor", sum := "afab66fceee038d8cb2269191910a4d1285d4477ccc4a5774d08b16b00de870f", func := "tesseract/tesseractlaw01.ExactTyped", spec := "exactTyped", inPlace := ["internal/abi.NoEscape", "internal/bytealg.IndexByteString", "internal/bytealg.IndexString", "internal/bytealg.abigen_runtime_cmpstring", "internal/bytealg.CountString", "internal/bytealg.MakeNoZero"], unfollowed := true, recurses := true, named := ["unicode/utf8.first", "unicode/utf8.acceptRanges", "internal/bytealg.MaxLen"], apart := false, laid := [("unicode/utf8.acceptRanges", laid_unicode_utf8_acceptRanges), ("unicode/utf8.first", laid_unicode_utf8_first)], narrowed := true }
def ExactTypedUptoSaid : Prop := exactTypedUptoRow.holds Tryz.pinned (OpenSpec.upto exactTypedSpec)

/-- 'tesseractlaw01.ExactSums', WHERE WHAT IT READS IS OF BULK AT MOST 1048576: true; the input reads as it did. -/
def exactSumsUptoRow : OpenClaim := { program := "ytemhidlaaommaaagreatdoor", sum := "afab66fceee038d8cb2269191910a4d1285d4477ccc4a5774d08b16b00de870f", func := "tesseract/tesseractlaw01.ExactSums", spec := "exactSums", inPlace := ["internal/abi.NoEscape", "internal/bytealg.IndexByteString", "internal/bytealg.IndexString", "internal/bytealg.abigen_runtime_cmpstring", "internal/bytealg.CountString", "internal/bytealg.MakeNoZero"], unfollowed := true, recurses := true, named := ["unicode/utf8.first", "unicode/utf8.acceptRanges", "internal/bytealg.MaxLen"], apart := false, laid := [("unicode/utf8.acceptRanges", laid_unicode_utf8_acceptRanges), ("unicode/utf8.first", laid_unicode_utf8_first)], narrowed := true }
def ExactSumsUptoSaid : Prop := exactSumsUptoRow.holds Tryz.pinned (OpenSpec.upto exactSumsSpec)

/-- 'tesseractlaw01.ExactNil', WHERE WHAT IT READS IS OF BULK AT MOST 1048576: true; the input reads as it did. -/
def exactNilUptoRow : OpenClaim := { program := "ytemhidlaaommaaagreatdoor", sum := "afab66fceee038d8cb2269191910a4d1285d4477ccc4a5774d08b16b00de870f", func := "tesseract/tesseractlaw01.ExactNil", spec := "exactNil", inPlace := ["internal/abi.NoEscape", "internal/bytealg.IndexByteString", "internal/bytealg.IndexString", "internal/bytealg.abigen_runtime_cmpstring", "internal/bytealg.CountString", "internal/bytealg.MakeNoZero"], unfollowed := true, recurses := true, named := ["unicode/utf8.first", "unicode/utf8.acceptRanges", "internal/bytealg.MaxLen"], apart := false, laid := [("unicode/utf8.acceptRanges", laid_unicode_utf8_acceptRanges), ("unicode/utf8.first", laid_unicode_utf8_first)], narrowed := true }
def ExactNilUptoSaid : Prop := exactNilUptoRow.holds Tryz.pinned (OpenSpec.upto exactNilSpec)

/-- 'tesseractlaw01.ExactParts', WHERE WHAT IT READS IS OF BULK AT MOST 1048576: true; the input reads as it did. -/
def exactPartsUptoRow : OpenClaim := { program := "ytemhidlaaommaaagreatdoor", sum := "afab66fceee038d8cb2269191910a4d1285d4477ccc4a5774d08b16b00de870f", func := "tesseract/tesseractlaw01.ExactParts", spec := "exactParts", inPlace := ["internal/abi.NoEscape", "internal/bytealg.IndexByteString", "internal/bytealg.IndexString", "internal/bytealg.abigen_runtime_cmpstring", "internal/bytealg.CountString", "internal/bytealg.MakeNoZero"], unfollowed := true, recurses := true, named := ["unicode/utf8.first", "unicode/utf8.acceptRanges", "internal/bytealg.MaxLen"], apart := false, laid := [("unicode/utf8.acceptRanges", laid_unicode_utf8_acceptRanges), ("unicode/utf8.first", laid_unicode_utf8_first)], narrowed := true }
def ExactPartsUptoSaid : Prop := exactPartsUptoRow.holds Tryz.pinned (OpenSpec.upto exactPartsSpec)

/-- 'tesseractlaw01.ExactValues', WHERE WHAT IT READS IS OF BULK AT MOST 1048576: true; the input reads as it did. -/
def exactValuesUptoRow : OpenClaim := { program := "ytemhidlaaommaaagreatdoor", sum := "afab66fceee038d8cb2269191910a4d1285d4477ccc4a5774d08b16b00de870f", func := "tesseract/tesseractlaw01.ExactValues", spec := "exactValues", inPlace := ["internal/abi.NoEscape", "internal/bytealg.IndexByteString", "internal/bytealg.IndexString", "internal/bytealg.CountString", "internal/bytealg.MakeNoZero", "internal/bytealg.abigen_runtime_cmpstring"], unfollowed := true, recurses := true, named := ["unicode/utf8.first", "unicode/utf8.acceptRanges", "internal/bytealg.MaxLen"], apart := false, laid := [("unicode/utf8.acceptRanges", laid_unicode_utf8_acceptRanges), ("unicode/utf8.first", laid_unicode_utf8_first)], narrowed := true }
def ExactValuesUptoSaid : Prop := exactValuesUptoRow.holds Tryz.pinned (OpenSpec.upto exactValuesSpec)

end Rows
end Go.Proofs.YtemhidlaaommaaaGreatDoor
