/- SpaceMake: Make returns what the document says, whatever the order of the cells is; the result keeps no memory of its arguments. No condition beside the row's own. -/
import Derived.WalkKit
import Derived.ProofKit
import Derived.OpenShut
import Derived.Deep.DeepHandedRow
import Derived.Lib.LaidTab
import Derived.Carry
import Derived.ChangeMaps5
import Derived.Test.YthlkcppbljpooaaGreatDoorCards
import Derived.Test.YthlkcppbljpooaaGreatDoorFactsS
import Derived.Test.YthlkcppbljpooaaGreatDoorS32
import Derived.Test.YthlkcppbljpooaaGreatDoorS66
import Derived.Test.YthlkcppbljpooaaGreatDoorTie
namespace Go.Proofs.YthlkcppbljpooaaGreatDoor.spaceMake
open Go.ChangeShapes Go.WideShapes Go.ChangeAt Go.ChangeMaps Go.RowKit

theorem own : ownKnob Tryz.prog.godebug = none := by kernel_rfl

set_option maxRecDepth 100000 in
/-- what the walk gives, for every argument and every world that holds bytealg.MaxLen -/
theorem contract (H : Type) (enc : TypeId × Value → H) (W : World) (base : Nat) (args : Array Value) (ds gs : List (DataW H)) (before : List MemPlace)
  (hval : ∀ (j : Nat) t v, Tryz.f3.params[j]? = some t → args[j]? = some v → Value.okWide Tryz.prog W .any base t v)
  (hW : DataW.Whole enc Tryz.prog Tryz.f3.params.toList Rows.spaceMakeSpec.vars false W args.toList ds gs before) (hm : Ml W) :
  Calls Tryz.prog 3 args W fun e W' => ∃ v, e = .returned v ∧ Rows.spaceMakeSpec.post enc Tryz.prog Tryz.f3 false true false false W args v W' := by
 have hW' := hW
 obtain ⟨p, q, hA0, hV, rfl, hfz, hnd⟩ := hW
 have hA : DataW.TrodAll enc Tryz.prog W 0 (fun _ => true) true Tryz.f3.params.toList args.toList ds p := hA0
 rw [Tryz.params3] at hA hval
 obtain ⟨v0, vs0, d0, ds0, p0, q0, hargs, rfl, rfl, h0, r0⟩ := trodAll_cons hA
 obtain ⟨v1, vs1, d1, ds1, p1, q1, rfl, rfl, rfl, h1, r1⟩ := trodAll_cons r0
 obtain ⟨v2, vs2, d2, ds2, p2, q2, rfl, rfl, rfl, h2, r2⟩ := trodAll_cons r1
 obtain ⟨rfl, rfl, rfl⟩ := trodAll_nil r2
 obtain rfl : args = #[v0, v1, v2] := by cases args; simp_all
 obtain ⟨rfl, rfl⟩ := trodVars_none hV
 clear hA0
 simp only [List.append_nil] at hW'
 have h0k := h0
 have h1k := h1
 have h2k := h2
 have hlt : ∀ x ∈ p0 ++ (p1 ++ p2), x.block < W.heap.size := fun x hx => by simpa using hW'.lt x hx
 obtain ⟨fuel0, hf0⟩ := h0
 obtain ⟨y0, z0, e0, q0, w0⟩ := open_dims hf0
 obtain ⟨a0', n0', c0', rfl⟩ := okWide_slice Tryz.underlying22 (hval 0 22 v0 rfl rfl)
 simp only [Value.cells, List.cons.injEq, and_true] at e0
 subst e0
 obtain ⟨fuel1, hf1⟩ := h1
 obtain ⟨y1, z1, e1, q1, w1⟩ := open_attrs hf1
 obtain ⟨a1', n1', c1', rfl⟩ := okWide_slice Tryz.underlying23 (hval 1 23 v1 rfl rfl)
 simp only [Value.cells, List.cons.injEq, and_true] at e1
 subst e1
 obtain ⟨fuel2, hf2⟩ := h2
 obtain ⟨y2, z2, e2, q2, w2⟩ := open_cells hf2
 obtain ⟨a2', n2', c2', rfl⟩ := okWide_slice Tryz.underlying24 (hval 2 24 v2 rfl rfl)
 simp only [Value.cells, List.cons.injEq, and_true] at e2
 subst e2
 have lo : laidOutB Tryz.prog = true := by kernel_rfl
 have rr0 : Tryz.prog.readableRec 22 = true := by kernel_rfl
 have rs0 : 22 < Tryz.prog.types.size := of_decide_eq_true (by kernel_rfl)
 have rr1 : Tryz.prog.readableRec 23 = true := by kernel_rfl
 have rs1 : 23 < Tryz.prog.types.size := of_decide_eq_true (by kernel_rfl)
 have rr2 : Tryz.prog.readableRec 24 = true := by kernel_rfl
 have rs2 : 24 < Tryz.prog.types.size := of_decide_eq_true (by kernel_rfl)
 refine (spaceMake_any z0 z1 z2 _ _ _ W hm q0 q1 q2 (strD_of w0) (strA_of w1) (fun c hc y hy => ((w2 c hc).vals y hy).str)).mono fun e W' ⟨he, hb⟩ => ?_
 subst he
 refine ⟨_, rfl, _, [], _, [], p0 ++ (p1 ++ p2), [], hW', ?_, ?_, ?_, hb.frame _, fun h => by cases h⟩
 ·exact trodAll_cons_mk (shut_bool Tryz.underlying4 _) trodAll_mk0
 ·have hpl : p0 ++ (p1 ++ (p2 ++ ([]))) = p0 ++ (p1 ++ p2) := by simp
  exact hpl ▸ (trodAll_cons_mk (Below.trod lo rr0 rs0 h0k hb (fun x hx => hlt x (by simp [hx]))) (trodAll_cons_mk (Below.trod lo rr1 rs1 h1k hb (fun x hx => hlt x (by simp [hx]))) (trodAll_cons_mk (Below.trod lo rr2 rs2 h2k hb (fun x hx => hlt x (by simp [hx]))) trodAll_mk0)))
 ·rfl

def litCells1 : DataW Unit → List Value
 | .lit (.int k n) => [.int k n]
 | .agg l => l.flatMap fun
  | .lit (.int k n) => [.int k n]
  | .agg l2 => l2.flatMap fun
   | .lit (.int k n) => [.int k n]
   | _ => []
  | _ => []
 | _ => []
/-- A WORLD FOR THE WITNESS: the settled one, the tables holding what their initialisers lay. -/
noncomputable def laidWorld (os : Os) : World :=
 let W := World.holding Tryz.prog os ⟨#[], #[], []⟩
 let put (h : Array Obj) (b : Nat) (d : DataW Unit) : Array Obj := h.modify b fun
   | .cells _ t frozen => .cells (litCells1 d).toArray t frozen
   | o => o
 { W with heap := put (put (put (put (put W.heap 2 Rows.laid_unicode_utf8_first) 3 Rows.laid_unicode_utf8_acceptRanges) 0 Rows.laid_internal_strconv_uint64pow10) 4 Rows.laid_math_bits_deBruijn32tab) 5 Rows.laid_math_bits_deBruijn64tab }
abbrev wit : Array Value := #[.slice none 0 0, .slice none 0 0, .slice none 0 0]
theorem laid_met (os : Os) : laidMet Tryz.prog Rows.spaceMakeRow.laid ((laidWorld os).forCall (fun _ _ => 0) ⟨#[], wit, []⟩).memory :=
 laidMet_of_run' 8 (by kernel_rfl) (by kernel_rfl)
theorem reads (os : Os) {H : Type} (enc : TypeId × Value → H) : ∃ places, DataW.whole enc Tryz.prog ((laidWorld os).forCall (fun _ _ => 0) ⟨#[], wit, []⟩).memory Tryz.f3.params.toList Rows.spaceMakeSpec.vars false wit.toList 8 = some ([.nil, .nil, .nil], [], places) :=
 ⟨[], by kernel_rfl⟩
theorem ml_of {W : World} (h : W.ShapedOpen Tryz.prog) : Ml W := Go.Proofs.cell_of_shapedOpen_int (zero := #[.int .i64 0]) (t := 3) h (of_decide_eq_true (by kernel_rfl)) (by kernel_rfl) rfl (by kernel_rfl) (by kernel_rfl) Tryz.underlying3

set_option maxRecDepth 100000 in
theorem lifted (os : Os) (started : os.Started) (H : Type) (enc : TypeId × Value → H) (F : Stop.Interp) :
  ReturnsInHanded {} Tryz.checked os 3 .any ((OpenSpec.ofChange Rows.spaceMakeSpec).preRow enc Tryz.prog Tryz.f3 Rows.spaceMakeRow.domain false Rows.spaceMakeRow.laid) (((OpenSpec.ofChange Rows.spaceMakeSpec).at F).post enc Tryz.prog Tryz.f3 false true false false) := by
 obtain ⟨places, hx⟩ := reads os enc
 refine returnsInHanded_of_row (C := Tryz.checked) (s := OpenSpec.ofChange Rows.spaceMakeSpec) own started (by kernel_rfl) Tryz.func3
  (witness_row_at (enc := enc) (C := Tryz.checked) false (laidWorld os) wit rfl (by kernel_rfl) (by kernel_rfl) (by kernel_rfl)
   (OpenSpec.preRow_of_cond 8 hx (by kernel_rfl) (fun k hk => by cases hk) (by kernel_rfl) (laid_met os))) ?_
 intro W base args ds gs before hval hW _ _ _ _ hS _
 exact contract H enc W base args ds gs before hval hW (ml_of hS)

theorem jf0 : (Rows.spaceMakeRow.wf (OpenSpec.ofChange Rows.spaceMakeSpec)) = true := by kernel_rfl
theorem jf1 : (laidOutB Tryz.prog) = true := gf1
theorem jf2 : (mapsRowed Tryz.prog) = true := gf2
theorem jf3 : (Tryz.f3.params.all (Tryz.prog.readableRec ·)) = true := by kernel_rfl
theorem jf4 : (namedTie Tryz.prog Rows.spaceMakeRow.named Rows.spaceMakeSpec.vars) = true := by kernel_rfl
theorem jf5 : ((Rows.spaceMakeRow.stops == [])) = true := by kernel_rfl
theorem jf6 : ((Tryz.prog.stops == [])) = true := gf6
theorem jf7 : ((Rows.spaceMakeRow.knobs == [])) = true := by kernel_rfl
theorem jf8 : ((Tryz.prog.stopKnobs == [])) = true := gf8
theorem jf9 : ((Rows.spaceMakeRow.inPlace == Tryz.prog.inPlace 3)) = true := by kernel_rfl
theorem jf10 : ((Rows.spaceMakeRow.unfollowed == Tryz.prog.unfollowed 3)) = true := by kernel_rfl
theorem jf11 : ((Rows.spaceMakeRow.recurses == Tryz.prog.recurses 3)) = true := by kernel_rfl
theorem jf12 : ((Rows.spaceMakeRow.named == Tryz.prog.varsNamed 3)) = true := by kernel_rfl
theorem jf13 : ((Rows.spaceMakeRow.maps == (Tryz.f3.params.toList ++ Rows.spaceMakeSpec.plain.varTypes Tryz.prog).any (Tryz.prog.mapsRec ·))) = true := by kernel_rfl
theorem jf14 : ((Rows.spaceMakeRow.ifaces == (Tryz.f3.params.toList ++ Rows.spaceMakeSpec.plain.varTypes Tryz.prog).any (Tryz.prog.ifacesRec ·))) = true := by kernel_rfl
theorem jf15 : ((Rows.spaceMakeRow.mapsOut == Tryz.prog.mapsAmong Tryz.f3.resultTypes.toList)) = true := by kernel_rfl
theorem jf16 : ((Rows.spaceMakeRow.loops == (Tryz.f3.params.toList ++ Rows.spaceMakeSpec.plain.varTypes Tryz.prog).any (Tryz.prog.loopsFrom ·))) = true := by kernel_rfl
theorem jf17 : ((Rows.spaceMakeRow.wideKeys == (Tryz.f3.params.toList ++ Rows.spaceMakeSpec.plain.varTypes Tryz.prog ++ Tryz.f3.resultTypes.toList).any (Tryz.prog.wideKeysFrom ·))) = true := by kernel_rfl
theorem jf18 : (Rows.spaceMakeSpec.vars.all (Tryz.prog.varReadable ·)) = true := by kernel_rfl
theorem jf19 : (Tryz.f3.resultTypes.all (fun t => Tryz.prog.readableRec t && decide (t < Tryz.prog.types.size))) = true := by kernel_rfl
theorem jf20 : ((Rows.spaceMakeRow.ifacesOut == Tryz.f3.resultTypes.toList.any (Tryz.prog.ifacesRec ·))) = true := by kernel_rfl
theorem jf21 : ((Rows.spaceMakeRow.loopsOut == Tryz.f3.resultTypes.toList.any (Tryz.prog.loopsFrom ·))) = true := by kernel_rfl
theorem jf22 : ((Rows.spaceMakeRow.plainKeys == Tryz.prog.plainKeys)) = true := gf22
theorem jf23 : (Rows.spaceMakeRow.shortTexts.isNone) = true := by kernel_rfl
theorem jf24 : (Tryz.prog.stopsHeard) = true := gf24
theorem jf25 : (Tryz.prog.mayEnter) = true := gf25
theorem jf26 : ((Rows.spaceMakeRow.lifted == Tryz.prog.liftsFinal)) = true := gf26
theorem jf27 : ((Tryz.prog.make == some Rows.spaceMakeRow.make)) = true := gf27
theorem jf28 : ((Rows.spaceMakeRow.kinds == (if Rows.spaceMakeRow.domain.isEmpty then [] else Tryz.f3.params.toList.map fun t => match Tryz.prog.underlying t with | some (.int k) => some k | _ => none))) = true := by kernel_rfl
theorem jf29 : ((Rows.spaceMakeRow.pinned == Rows.spaceMakeRow.pinnedBy)) = true := by kernel_rfl
theorem jf30 : ((Rows.spaceMakeRow.veiled == (Tryz.f3.params.toList ++ Rows.spaceMakeSpec.plain.varTypes Tryz.prog ++ Tryz.f3.resultTypes.toList).any (Tryz.prog.veiledRec ·))) = true := by kernel_rfl
theorem jf31 : (Rows.spaceMakeRow.veiledFits Tryz.prog Tryz.f3.params.toList (Tryz.f3.params.toList ++ Rows.spaceMakeSpec.plain.varTypes Tryz.prog ++ Tryz.f3.resultTypes.toList)) = true := by kernel_rfl
set_option maxRecDepth 100000 in
theorem closed : joinedFacts Tryz.prog 3 Tryz.f3 Rows.spaceMakeSpec Rows.spaceMakeRow = true := by
 unfold joinedFacts
 exact and_mk (and_mk (and_mk (and_mk (and_mk (and_mk (and_mk (and_mk (and_mk (and_mk (and_mk (and_mk (and_mk (and_mk (and_mk (and_mk (and_mk (and_mk (and_mk (and_mk (and_mk (and_mk (and_mk (and_mk (and_mk (and_mk (and_mk (and_mk (and_mk (and_mk (and_mk jf0 jf1) jf2) jf3) jf4) jf5) jf6) jf7) jf8) jf9) jf10) jf11) jf12) jf13) jf14) jf15) jf16) jf17) jf18) jf19) jf20) jf21) jf22) jf23) jf24) jf25) jf26) jf27) jf28) jf29) jf30) jf31
theorem named : Tryz.prog.funcNamed Rows.spaceMakeRow.func = some 3 := by kernel_rfl
set_option maxRecDepth 100000 in
theorem said : Rows.SpaceMakeSaid :=
 OpenClaim.holds_of_cond 3 Tryz.f3 rfl rfl rfl rfl rfl rfl rfl ⟨rfl, rfl, rfl, rfl, rfl⟩ rfl rfl rfl rfl rfl named Tryz.func3 closed
  (of_decide_eq_true (by kernel_rfl)) (by unfold Func.isWrapper; first | (rw [if_pos (by decide +kernel)]; kernel_rfl) | (rw [if_neg (by decide +kernel)]; exact ⟨rfl, rfl⟩))
  (fun os started H enc _ F => by rw [OpenClaim.pre_eq_preRow]; exact lifted os started H enc F)

theorem plain (f : FuncId) (fn : Func) (hf : Tryz.pinned.checked.prog.funcNamed "tesseract/tesseractlaw02.SpaceMake" = some f) (hfn : Tryz.pinned.checked.prog.funcs[f]? = some fn) :
  Rows.spaceMakeCard.stood.looks = Tryz.pinned.checked.prog.looks [] ∧ ∀ (j : Nat) t, fn.params[j]? = some t → Tryz.pinned.checked.prog.wantsStandIn t = false := by
 obtain rfl : f = 3 := Option.some.inj ((show Tryz.prog.funcNamed "tesseract/tesseractlaw02.SpaceMake" = some 3 by kernel_rfl).symm.trans hf) |>.symm
 obtain rfl : fn = Tryz.f3 := (Option.some.inj (Tryz.func3.symm.trans hfn)).symm
 refine ⟨by kernel_rfl, fun j t ht => ?_⟩
 rw [Tryz.params3] at ht
 have hm := Array.mem_of_getElem? ht
 have hm : t = 22 ∨ t = 23 ∨ t = 24 := by simpa [or_assoc] using hm
 rcases hm with rfl | rfl | rfl
 ·exact (show Tryz.prog.wantsStandIn 22 = false by kernel_rfl)
 ·exact (show Tryz.prog.wantsStandIn 23 = false by kernel_rfl)
 ·exact (show Tryz.prog.wantsStandIn 24 = false by kernel_rfl)

theorem wfText : Rows.spaceMakeRow.wfByText (OpenSpec.ofChange Rows.spaceMakeSpec) = true := by kernel_rfl
theorem mainIs : Tryz.pinned.checked.prog.mainIs = some (true, Rows.spaceMakeCard.stood.harness.2.toList) := by kernel_rfl
theorem goes : false = Rows.spaceMakeRow.goesBy Tryz.pinned.checked.prog := by kernel_rfl

/-- the card -/
theorem card : Rows.SpaceMakeCardSaid :=
 Claim7.holds_tied_plain_at .later [] _ _ _ _ said (fun _ h => by cases h) wfText (fun _ h => by cases h) spaceMake_row_tie rfl ⟨rfl, rfl⟩ mainIs rfl plain goes
end Go.Proofs.YthlkcppbljpooaaGreatDoor.spaceMake
