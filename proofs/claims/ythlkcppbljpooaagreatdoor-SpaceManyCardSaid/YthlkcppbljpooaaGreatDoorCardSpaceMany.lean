/- SpaceMany: an array has at most 4096 cells. No condition beside the row's own. -/
import Derived.WalkKit
import Derived.ProofKit
import Derived.OpenShut
import Derived.Deep.DeepHandedRow
import Derived.Lib.LaidTab
import Derived.Carry
import Derived.ChangeMaps5
import Derived.Test.YthlkcppbljpooaaGreatDoorCards
import Derived.Test.YthlkcppbljpooaaGreatDoorFactsS
import Derived.Test.YthlkcppbljpooaaGreatDoorS67
import Derived.Test.YthlkcppbljpooaaGreatDoorTie
namespace Go.Proofs.YthlkcppbljpooaaGreatDoor.spaceMany
open Go.ChangeShapes Go.WideShapes Go.ChangeAt Go.ChangeMaps Go.RowKit

theorem own : ownKnob Tryz.prog.godebug = none := by kernel_rfl

set_option maxRecDepth 100000 in
/-- what the walk gives, for every argument and every world that holds bytealg.MaxLen -/
theorem contract (H : Type) (enc : TypeId × Value → H) (W : World) (base : Nat) (args : Array Value) (ds gs : List (DataW H)) (before : List MemPlace)
  (hval : ∀ (j : Nat) t v, Tryz.f4.params[j]? = some t → args[j]? = some v → Value.okWide Tryz.prog W .any base t v)
  (hW : DataW.Whole enc Tryz.prog Tryz.f4.params.toList Rows.spaceManySpec.vars false W args.toList ds gs before) (hm : Ml W) :
  Calls Tryz.prog 4 args W fun e W' => ∃ v, e = .returned v ∧ Rows.spaceManySpec.post enc Tryz.prog Tryz.f4 false true false false W args v W' := by
 have hW' := hW
 obtain ⟨p, q, hA0, hV, rfl, hfz, hnd⟩ := hW
 have hA : DataW.TrodAll enc Tryz.prog W 0 (fun _ => true) true Tryz.f4.params.toList args.toList ds p := hA0
 rw [Tryz.params4] at hA hval
 obtain ⟨v0, vs0, d0, ds0, p0, q0, hargs, rfl, rfl, h0, r0⟩ := trodAll_cons hA
 obtain ⟨rfl, rfl, rfl⟩ := trodAll_nil r0
 obtain rfl : args = #[v0] := by cases args; simp_all
 obtain ⟨rfl, rfl⟩ := trodVars_none hV
 clear hA0
 simp only [List.append_nil] at hW'
 have h0k := h0
 have hlt : ∀ x ∈ p0, x.block < W.heap.size := fun x hx => by simpa using hW'.lt x hx
 obtain ⟨n0, rfl, -, -, q0⟩ := open_int Tryz.underlying5 (hval 0 5 v0 rfl rfl) h0
 have q0 := bounds_u8 q0
 have lo : laidOutB Tryz.prog = true := by kernel_rfl
 have rr0 : Tryz.prog.readableRec 5 = true := by kernel_rfl
 have rs0 : 5 < Tryz.prog.types.size := of_decide_eq_true (by kernel_rfl)
 refine (spaceManyI_any n0 W hm q0.1 q0.2).mono fun e W' ⟨he, hb⟩ => ?_
 subst he
 refine ⟨_, rfl, _, [], _, [], p0, [], hW', ?_, ?_, ?_, hb.frame _, fun h => by cases h⟩
 ·exact trodAll_cons_mk (shut_bool Tryz.underlying4 _) trodAll_mk0
 ·have hpl : p0 ++ ([]) = p0 := by simp
  exact hpl ▸ (trodAll_cons_mk (Below.trod lo rr0 rs0 h0k hb (fun x hx => hlt x (by simp [hx]))) trodAll_mk0)
 ·rfl

def litCells1 : DataW Unit → List Value
 | .lit (.int k n) => [.int k n]
 | .agg l => l.flatMap fun
  | .lit (.int k n) => [.int k n]
  | .agg l2 => l2.flatMap fun
   | .lit (.int k n) => [.int k n]
   | _ => []
  | _ => []
 | _ => []
/-- A WORLD FOR THE WITNESS: the settled one, the tables holding what their initialisers lay. -/
noncomputable def laidWorld (os : Os) : World :=
 let W := World.holding Tryz.prog os ⟨#[], #[], []⟩
 let put (h : Array Obj) (b : Nat) (d : DataW Unit) : Array Obj := h.modify b fun
   | .cells _ t frozen => .cells (litCells1 d).toArray t frozen
   | o => o
 { W with heap := put (put (put (put (put W.heap 2 Rows.laid_unicode_utf8_first) 3 Rows.laid_unicode_utf8_acceptRanges) 0 Rows.laid_internal_strconv_uint64pow10) 4 Rows.laid_math_bits_deBruijn32tab) 5 Rows.laid_math_bits_deBruijn64tab }
abbrev wit : Array Value := #[.int .u8 0]
theorem laid_met (os : Os) : laidMet Tryz.prog Rows.spaceManyRow.laid ((laidWorld os).forCall (fun _ _ => 0) ⟨#[], wit, []⟩).memory :=
 laidMet_of_run' 8 (by kernel_rfl) (by kernel_rfl)
theorem reads (os : Os) {H : Type} (enc : TypeId × Value → H) : ∃ places, DataW.whole enc Tryz.prog ((laidWorld os).forCall (fun _ _ => 0) ⟨#[], wit, []⟩).memory Tryz.f4.params.toList Rows.spaceManySpec.vars false wit.toList 8 = some ([.lit (.int .u8 0)], [], places) :=
 ⟨[], by kernel_rfl⟩
theorem ml_of {W : World} (h : W.ShapedOpen Tryz.prog) : Ml W := Go.Proofs.cell_of_shapedOpen_int (zero := #[.int .i64 0]) (t := 3) h (of_decide_eq_true (by kernel_rfl)) (by kernel_rfl) rfl (by kernel_rfl) (by kernel_rfl) Tryz.underlying3

set_option maxRecDepth 100000 in
theorem lifted (os : Os) (started : os.Started) (H : Type) (enc : TypeId × Value → H) (F : Stop.Interp) :
  ReturnsInHanded {} Tryz.checked os 4 .any ((OpenSpec.ofChange Rows.spaceManySpec).preRow enc Tryz.prog Tryz.f4 Rows.spaceManyRow.domain false Rows.spaceManyRow.laid) (((OpenSpec.ofChange Rows.spaceManySpec).at F).post enc Tryz.prog Tryz.f4 false true false false) := by
 obtain ⟨places, hx⟩ := reads os enc
 refine returnsInHanded_of_row (C := Tryz.checked) (s := OpenSpec.ofChange Rows.spaceManySpec) own started (by kernel_rfl) Tryz.func4
  (witness_row_at (enc := enc) (C := Tryz.checked) false (laidWorld os) wit rfl (by kernel_rfl) (by kernel_rfl) (by kernel_rfl)
   (OpenSpec.preRow_of_cond 8 hx (by kernel_rfl) (fun k hk => by cases hk) (by kernel_rfl) (laid_met os))) ?_
 intro W base args ds gs before hval hW _ _ _ _ hS _
 exact contract H enc W base args ds gs before hval hW (ml_of hS)

theorem jf0 : (Rows.spaceManyRow.wf (OpenSpec.ofChange Rows.spaceManySpec)) = true := by kernel_rfl
theorem jf1 : (laidOutB Tryz.prog) = true := gf1
theorem jf2 : (mapsRowed Tryz.prog) = true := gf2
theorem jf3 : (Tryz.f4.params.all (Tryz.prog.readableRec ·)) = true := by kernel_rfl
theorem jf4 : (namedTie Tryz.prog Rows.spaceManyRow.named Rows.spaceManySpec.vars) = true := by kernel_rfl
theorem jf5 : ((Rows.spaceManyRow.stops == [])) = true := by kernel_rfl
theorem jf6 : ((Tryz.prog.stops == [])) = true := gf6
theorem jf7 : ((Rows.spaceManyRow.knobs == [])) = true := by kernel_rfl
theorem jf8 : ((Tryz.prog.stopKnobs == [])) = true := gf8
theorem jf9 : ((Rows.spaceManyRow.inPlace == Tryz.prog.inPlace 4)) = true := by kernel_rfl
theorem jf10 : ((Rows.spaceManyRow.unfollowed == Tryz.prog.unfollowed 4)) = true := by kernel_rfl
theorem jf11 : ((Rows.spaceManyRow.recurses == Tryz.prog.recurses 4)) = true := by kernel_rfl
theorem jf12 : ((Rows.spaceManyRow.named == Tryz.prog.varsNamed 4)) = true := by kernel_rfl
theorem jf13 : ((Rows.spaceManyRow.maps == (Tryz.f4.params.toList ++ Rows.spaceManySpec.plain.varTypes Tryz.prog).any (Tryz.prog.mapsRec ·))) = true := by kernel_rfl
theorem jf14 : ((Rows.spaceManyRow.ifaces == (Tryz.f4.params.toList ++ Rows.spaceManySpec.plain.varTypes Tryz.prog).any (Tryz.prog.ifacesRec ·))) = true := by kernel_rfl
theorem jf15 : ((Rows.spaceManyRow.mapsOut == Tryz.prog.mapsAmong Tryz.f4.resultTypes.toList)) = true := by kernel_rfl
theorem jf16 : ((Rows.spaceManyRow.loops == (Tryz.f4.params.toList ++ Rows.spaceManySpec.plain.varTypes Tryz.prog).any (Tryz.prog.loopsFrom ·))) = true := by kernel_rfl
theorem jf17 : ((Rows.spaceManyRow.wideKeys == (Tryz.f4.params.toList ++ Rows.spaceManySpec.plain.varTypes Tryz.prog ++ Tryz.f4.resultTypes.toList).any (Tryz.prog.wideKeysFrom ·))) = true := by kernel_rfl
theorem jf18 : (Rows.spaceManySpec.vars.all (Tryz.prog.varReadable ·)) = true := by kernel_rfl
theorem jf19 : (Tryz.f4.resultTypes.all (fun t => Tryz.prog.readableRec t && decide (t < Tryz.prog.types.size))) = true := by kernel_rfl
theorem jf20 : ((Rows.spaceManyRow.ifacesOut == Tryz.f4.resultTypes.toList.any (Tryz.prog.ifacesRec ·))) = true := by kernel_rfl
theorem jf21 : ((Rows.spaceManyRow.loopsOut == Tryz.f4.resultTypes.toList.any (Tryz.prog.loopsFrom ·))) = true := by kernel_rfl
theorem jf22 : ((Rows.spaceManyRow.plainKeys == Tryz.prog.plainKeys)) = true := gf22
theorem jf23 : (Rows.spaceManyRow.shortTexts.isNone) = true := by kernel_rfl
theorem jf24 : (Tryz.prog.stopsHeard) = true := gf24
theorem jf25 : (Tryz.prog.mayEnter) = true := gf25
theorem jf26 : ((Rows.spaceManyRow.lifted == Tryz.prog.liftsFinal)) = true := gf26
theorem jf27 : ((Tryz.prog.make == some Rows.spaceManyRow.make)) = true := gf27
theorem jf28 : ((Rows.spaceManyRow.kinds == (if Rows.spaceManyRow.domain.isEmpty then [] else Tryz.f4.params.toList.map fun t => match Tryz.prog.underlying t with | some (.int k) => some k | _ => none))) = true := by kernel_rfl
theorem jf29 : ((Rows.spaceManyRow.pinned == Rows.spaceManyRow.pinnedBy)) = true := by kernel_rfl
theorem jf30 : ((Rows.spaceManyRow.veiled == (Tryz.f4.params.toList ++ Rows.spaceManySpec.plain.varTypes Tryz.prog ++ Tryz.f4.resultTypes.toList).any (Tryz.prog.veiledRec ·))) = true := by kernel_rfl
theorem jf31 : (Rows.spaceManyRow.veiledFits Tryz.prog Tryz.f4.params.toList (Tryz.f4.params.toList ++ Rows.spaceManySpec.plain.varTypes Tryz.prog ++ Tryz.f4.resultTypes.toList)) = true := by kernel_rfl
set_option maxRecDepth 100000 in
theorem closed : joinedFacts Tryz.prog 4 Tryz.f4 Rows.spaceManySpec Rows.spaceManyRow = true := by
 unfold joinedFacts
 exact and_mk (and_mk (and_mk (and_mk (and_mk (and_mk (and_mk (and_mk (and_mk (and_mk (and_mk (and_mk (and_mk (and_mk (and_mk (and_mk (and_mk (and_mk (and_mk (and_mk (and_mk (and_mk (and_mk (and_mk (and_mk (and_mk (and_mk (and_mk (and_mk (and_mk (and_mk jf0 jf1) jf2) jf3) jf4) jf5) jf6) jf7) jf8) jf9) jf10) jf11) jf12) jf13) jf14) jf15) jf16) jf17) jf18) jf19) jf20) jf21) jf22) jf23) jf24) jf25) jf26) jf27) jf28) jf29) jf30) jf31
theorem named : Tryz.prog.funcNamed Rows.spaceManyRow.func = some 4 := by kernel_rfl
set_option maxRecDepth 100000 in
theorem said : Rows.SpaceManySaid :=
 OpenClaim.holds_of_cond 4 Tryz.f4 rfl rfl rfl rfl rfl rfl rfl ⟨rfl, rfl, rfl, rfl, rfl⟩ rfl rfl rfl rfl rfl named Tryz.func4 closed
  (of_decide_eq_true (by kernel_rfl)) (by unfold Func.isWrapper; first | (rw [if_pos (by decide +kernel)]; kernel_rfl) | (rw [if_neg (by decide +kernel)]; exact ⟨rfl, rfl⟩))
  (fun os started H enc _ F => by rw [OpenClaim.pre_eq_preRow]; exact lifted os started H enc F)

theorem plain (f : FuncId) (fn : Func) (hf : Tryz.pinned.checked.prog.funcNamed "tesseract/tesseractlaw02.SpaceMany" = some f) (hfn : Tryz.pinned.checked.prog.funcs[f]? = some fn) :
  Rows.spaceManyCard.stood.looks = Tryz.pinned.checked.prog.looks [] ∧ ∀ (j : Nat) t, fn.params[j]? = some t → Tryz.pinned.checked.prog.wantsStandIn t = false := by
 obtain rfl : f = 4 := Option.some.inj ((show Tryz.prog.funcNamed "tesseract/tesseractlaw02.SpaceMany" = some 4 by kernel_rfl).symm.trans hf) |>.symm
 obtain rfl : fn = Tryz.f4 := (Option.some.inj (Tryz.func4.symm.trans hfn)).symm
 refine ⟨by kernel_rfl, fun j t ht => ?_⟩
 rw [Tryz.params4] at ht
 have hm := Array.mem_of_getElem? ht
 have hm : t = 5 := by simpa [or_assoc] using hm
 subst hm
 ·exact (show Tryz.prog.wantsStandIn 5 = false by kernel_rfl)

theorem wfText : Rows.spaceManyRow.wfByText (OpenSpec.ofChange Rows.spaceManySpec) = true := by kernel_rfl
theorem mainIs : Tryz.pinned.checked.prog.mainIs = some (true, Rows.spaceManyCard.stood.harness.2.toList) := by kernel_rfl
theorem goes : false = Rows.spaceManyRow.goesBy Tryz.pinned.checked.prog := by kernel_rfl

/-- the card -/
theorem card : Rows.SpaceManyCardSaid :=
 Claim7.holds_tied_plain_at .later [] _ _ _ _ said (fun _ h => by cases h) wfText (fun _ h => by cases h) spaceMany_row_tie rfl ⟨rfl, rfl⟩ mainIs rfl plain goes
end Go.Proofs.YthlkcppbljpooaaGreatDoor.spaceMany
