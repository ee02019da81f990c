/- SpaceKnown: the examples of the chapter. No condition beside the row's own. -/
import Derived.Lay
import Derived.Deep.DeepWitnessRowRef
import Derived.WalkKit
import Derived.ProofKit
import Derived.OpenShut
import Derived.Deep.DeepHandedRow
import Derived.Lib.LaidTab
import Derived.Carry
import Derived.ChangeMaps5
import Derived.Test.YtdbnebhehiiakaaGreatDoorCards
import Derived.Test.YtdbnebhehiiakaaGreatDoorFactsS
import Derived.Test.YtdbnebhehiiakaaGreatDoorS68
import Derived.Test.YtdbnebhehiiakaaGreatDoorS76
import Derived.Test.YtdbnebhehiiakaaGreatDoorTie
namespace Go.Proofs.YtdbnebhehiiakaaGreatDoor.spaceKnown
open Go.ChangeShapes Go.WideShapes Go.ChangeAt Go.ChangeMaps Go.RowKit
theorem own:ownKnob Tryz.prog.godebug=none:=by kernel_rfl
set_option maxRecDepth 100000 in
theorem contract (H:Type) (enc:TypeId × Value→H) (W:World) (base:Nat) (args:Array Value) (ds gs:List (DataW H)) (before:List MemPlace)
  (hval:∀ (j:Nat) t v,Tryz.f4.params[j]? = some t→args[j]? = some v→Value.okWide Tryz.prog W .any base t v)
  (hW:DataW.Whole enc Tryz.prog Tryz.f4.params.toList Rows.spaceKnownSpec.vars false W args.toList ds gs before) (hg:Gl W) :
  Calls Tryz.prog 4 args W fun e W' => ∃ v,e=.returned v∧Rows.spaceKnownSpec.post enc Tryz.prog Tryz.f4 false true false false W args v W':=by
 have hW':=hW
 obtain ⟨p,q,hA0,hV,rfl,hfz,hnd⟩:=hW
 have hA:DataW.TrodAll enc Tryz.prog W 0 (fun _ => true) true Tryz.f4.params.toList args.toList ds p:=hA0
 rw [Tryz.params4] at hA hval
 obtain ⟨hargs,rfl,rfl⟩:=trodAll_nil hA
 obtain rfl:args=#[]:=by cases args; simp_all
 obtain ⟨rfl,rfl⟩:=trodVars_none hV
 clear hA0
 simp only [List.append_nil] at hW'
 refine (spaceKnown_any W hg).mono fun e W' ⟨he,hb⟩ => ?_
 subst he
 refine ⟨_,rfl,_,[],_,[],[],[],hW',?_,?_,?_,hb.frame _,fun h => by cases h⟩
 ·exact trodAll_cons_mk (shut_bool Tryz.underlying4 _) trodAll_mk0
 ·exact trodAll_mk0
 ·rfl
noncomputable def laidWorld (os:Os):World:=World.laidAll Tryz.prog os Rows.spaceKnownRow.laid
abbrev wit:Array Value:=#[]
theorem laid_met (os:Os):laidMet Tryz.prog Rows.spaceKnownRow.laid ((laidWorld os).forCall (fun _ _ => 0) ⟨#[],wit,[]⟩).memory :=
 laidMet_laidAll _ (by kernel_rfl) (by kernel_rfl)
theorem reads (os:Os) {H:Type} (enc:TypeId × Value→H):∃ places,DataW.whole enc Tryz.prog ((laidWorld os).forCall (fun _ _ => 0) ⟨#[],wit,[]⟩).memory Tryz.f4.params.toList Rows.spaceKnownSpec.vars false wit.toList 8=some ([],[],places) :=
 ⟨[],by kernel_rfl⟩
set_option maxRecDepth 100000 in
theorem lifted (os:Os) (started:os.Started) (H:Type) (enc:TypeId × Value→H) (F:Stop.Interp) :
  ReturnsInHanded {} Tryz.checked os 4 .any ((OpenSpec.ofChange Rows.spaceKnownSpec).preRow enc Tryz.prog Tryz.f4 Rows.spaceKnownRow.domain false Rows.spaceKnownRow.laid) (((OpenSpec.ofChange Rows.spaceKnownSpec).at F).post enc Tryz.prog Tryz.f4 false true false false):=by
 obtain ⟨places,hx⟩:=reads os enc
 refine returnsInHanded_of_row (C:=Tryz.checked) (s:=OpenSpec.ofChange Rows.spaceKnownSpec) own started (by kernel_rfl) Tryz.func4
  (witness_row_atRef (enc:=enc) (C:=Tryz.checked) false (laidWorld os) wit (World.laidAll_os _ _ _) (by kernel_rfl) (by kernel_rfl) (by kernel_rfl)
   (OpenSpec.preRow_of_cond 8 hx (by kernel_rfl) (fun k hk => by cases hk) (by kernel_rfl) (laid_met os))) ?_
 intro W base args ds gs before hval hW _ _ _ hL hS _
 exact contract H enc W base args ds gs before hval hW (gl_ofK hS hL)
theorem jf0:(Rows.spaceKnownRow.wf (OpenSpec.ofChange Rows.spaceKnownSpec))=true:=by kernel_rfl
theorem jf1:(laidOutB Tryz.prog)=true:=gf1
theorem jf2:(mapsRowed Tryz.prog)=true:=gf2
theorem jf3:(Tryz.f4.params.all (Tryz.prog.readableRec ·))=true:=by kernel_rfl
theorem jf4:(namedTie Tryz.prog Rows.spaceKnownRow.named Rows.spaceKnownSpec.vars)=true:=by kernel_rfl
theorem jf5:((Rows.spaceKnownRow.stops == []))=true:=by kernel_rfl
theorem jf6:((Tryz.prog.stops == []))=true:=gf6
theorem jf7:((Rows.spaceKnownRow.knobs == []))=true:=by kernel_rfl
theorem jf8:((Tryz.prog.stopKnobs == []))=true:=gf8
theorem jf9:((Rows.spaceKnownRow.inPlace == Tryz.prog.inPlace 4))=true:=by kernel_rfl
theorem jf10:((Rows.spaceKnownRow.unfollowed == Tryz.prog.unfollowed 4))=true:=by kernel_rfl
theorem jf11:((Rows.spaceKnownRow.recurses == Tryz.prog.recurses 4))=true:=by kernel_rfl
theorem jf12:((Rows.spaceKnownRow.named == Tryz.prog.varsNamed 4))=true:=by kernel_rfl
theorem jf13:((Rows.spaceKnownRow.maps == (Tryz.f4.params.toList ++ Rows.spaceKnownSpec.plain.varTypes Tryz.prog).any (Tryz.prog.mapsRec ·)))=true:=by kernel_rfl
theorem jf14:((Rows.spaceKnownRow.ifaces == (Tryz.f4.params.toList ++ Rows.spaceKnownSpec.plain.varTypes Tryz.prog).any (Tryz.prog.ifacesRec ·)))=true:=by kernel_rfl
theorem jf15:((Rows.spaceKnownRow.mapsOut == Tryz.prog.mapsAmong Tryz.f4.resultTypes.toList))=true:=by kernel_rfl
theorem jf16:((Rows.spaceKnownRow.loops == (Tryz.f4.params.toList ++ Rows.spaceKnownSpec.plain.varTypes Tryz.prog).any (Tryz.prog.loopsFrom ·)))=true:=by kernel_rfl
theorem jf17:((Rows.spaceKnownRow.wideKeys == (Tryz.f4.params.toList ++ Rows.spaceKnownSpec.plain.varTypes Tryz.prog ++ Tryz.f4.resultTypes.toList).any (Tryz.prog.wideKeysFrom ·)))=true:=by kernel_rfl
theorem jf18:(Rows.spaceKnownSpec.vars.all (Tryz.prog.varReadable ·))=true:=by kernel_rfl
theorem jf19:(Tryz.f4.resultTypes.all (fun t => Tryz.prog.readableRec t && decide (t<Tryz.prog.types.size)))=true:=by kernel_rfl
theorem jf20:((Rows.spaceKnownRow.ifacesOut == Tryz.f4.resultTypes.toList.any (Tryz.prog.ifacesRec ·)))=true:=by kernel_rfl
theorem jf21:((Rows.spaceKnownRow.loopsOut == Tryz.f4.resultTypes.toList.any (Tryz.prog.loopsFrom ·)))=true:=by kernel_rfl
theorem jf22:((Rows.spaceKnownRow.plainKeys == Tryz.prog.plainKeys))=true:=gf22
theorem jf23:(Rows.spaceKnownRow.shortTexts.isNone)=true:=by kernel_rfl
theorem jf24:(Tryz.prog.stopsHeard)=true:=gf24
theorem jf25:(Tryz.prog.mayEnter)=true:=gf25
theorem jf26:((Rows.spaceKnownRow.lifted == Tryz.prog.liftsFinal))=true:=gf26
theorem jf27:((Tryz.prog.make == some Rows.spaceKnownRow.make))=true:=gf27
theorem jf28:((Rows.spaceKnownRow.kinds == (if Rows.spaceKnownRow.domain.isEmpty then [] else Tryz.f4.params.toList.map fun t => match Tryz.prog.underlying t with | some (.int k) => some k | _ => none)))=true:=by kernel_rfl
theorem jf29:((Rows.spaceKnownRow.pinned == Rows.spaceKnownRow.pinnedBy))=true:=by kernel_rfl
theorem jf30:((Rows.spaceKnownRow.veiled == (Tryz.f4.params.toList ++ Rows.spaceKnownSpec.plain.varTypes Tryz.prog ++ Tryz.f4.resultTypes.toList).any (Tryz.prog.veiledRec ·)))=true:=by kernel_rfl
theorem jf31:(Rows.spaceKnownRow.veiledFits Tryz.prog Tryz.f4.params.toList (Tryz.f4.params.toList ++ Rows.spaceKnownSpec.plain.varTypes Tryz.prog ++ Tryz.f4.resultTypes.toList))=true:=by kernel_rfl
set_option maxRecDepth 100000 in
theorem closed:joinedFacts Tryz.prog 4 Tryz.f4 Rows.spaceKnownSpec Rows.spaceKnownRow=true:=by
 unfold joinedFacts
 exact and_mk (and_mk (and_mk (and_mk (and_mk (and_mk (and_mk (and_mk (and_mk (and_mk (and_mk (and_mk (and_mk (and_mk (and_mk (and_mk (and_mk (and_mk (and_mk (and_mk (and_mk (and_mk (and_mk (and_mk (and_mk (and_mk (and_mk (and_mk (and_mk (and_mk (and_mk jf0 jf1) jf2) jf3) jf4) jf5) jf6) jf7) jf8) jf9) jf10) jf11) jf12) jf13) jf14) jf15) jf16) jf17) jf18) jf19) jf20) jf21) jf22) jf23) jf24) jf25) jf26) jf27) jf28) jf29) jf30) jf31
theorem named:Tryz.prog.funcNamed Rows.spaceKnownRow.func=some 4:=by kernel_rfl
set_option maxRecDepth 100000 in
theorem said:Rows.SpaceKnownSaid :=
 OpenClaim.holds_of_cond 4 Tryz.f4 rfl rfl rfl rfl rfl rfl rfl ⟨rfl,rfl,rfl,rfl,rfl⟩ rfl rfl rfl rfl rfl named Tryz.func4 closed
  (of_decide_eq_true (by kernel_rfl)) (by unfold Func.isWrapper; first | (rw [if_pos (by decide +kernel)]; kernel_rfl) | (rw [if_neg (by decide +kernel)]; exact ⟨rfl,rfl⟩))
  (fun os started H enc _ F => by rw [OpenClaim.pre_eq_preRow]; exact lifted os started H enc F)
theorem plain (f:FuncId) (fn:Func) (hf:Tryz.pinned.checked.prog.funcNamed "tesseract/tesseractlaw02.SpaceKnown" = some f) (hfn:Tryz.pinned.checked.prog.funcs[f]? = some fn) :
  Rows.spaceKnownCard.stood.looks=Tryz.pinned.checked.prog.looks []∧∀ (j:Nat) t,fn.params[j]? = some t→Tryz.pinned.checked.prog.wantsStandIn t=false:=by
 obtain rfl:f = 4:=Option.some.inj ((show Tryz.prog.funcNamed "tesseract/tesseractlaw02.SpaceKnown" = some 4 by kernel_rfl).symm.trans hf) |>.symm
 obtain rfl:fn=Tryz.f4:=(Option.some.inj (Tryz.func4.symm.trans hfn)).symm
 refine ⟨by kernel_rfl,fun j t ht => ?_⟩
 rw [Tryz.params4] at ht
 simp at ht
theorem wfText:Rows.spaceKnownRow.wfByText (OpenSpec.ofChange Rows.spaceKnownSpec)=true:=by kernel_rfl
theorem mainIs:Tryz.pinned.checked.prog.mainIs=some (true,Rows.spaceKnownCard.stood.harness.2.toList):=by kernel_rfl
theorem goes:false=Rows.spaceKnownRow.goesBy Tryz.pinned.checked.prog:=by kernel_rfl
theorem card:Rows.SpaceKnownCardSaid :=
 Claim7.holds_tied_plain_at .later [] _ _ _ _ said (fun _ h => by cases h) wfText (fun _ h => by cases h) spaceKnown_row_tie rfl ⟨rfl,rfl⟩ mainIs rfl plain goes
end Go.Proofs.YtdbnebhehiiakaaGreatDoor.spaceKnown
