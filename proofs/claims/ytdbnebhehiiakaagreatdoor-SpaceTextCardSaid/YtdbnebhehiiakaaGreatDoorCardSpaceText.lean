/- SpaceText: Print writes what the document says and Parse reads it again, whatever the array and the text are. No condition beside the row's own. -/
import Derived.Lay
import Derived.Deep.DeepWitnessRowRef
import Derived.WalkKit
import Derived.ProofKit
import Derived.OpenShut
import Derived.Deep.DeepHandedRow
import Derived.Lib.LaidTab
import Derived.Carry
import Derived.ChangeMaps5
import Derived.Test.YtdbnebhehiiakaaGreatDoorCards
import Derived.Test.YtdbnebhehiiakaaGreatDoorFactsS
import Derived.Test.YtdbnebhehiiakaaGreatDoorS32
import Derived.Test.YtdbnebhehiiakaaGreatDoorS68
import Derived.Test.YtdbnebhehiiakaaGreatDoorS74
import Derived.Test.YtdbnebhehiiakaaGreatDoorTie
namespace Go.Proofs.YtdbnebhehiiakaaGreatDoor.spaceText
open Go.ChangeShapes Go.WideShapes Go.ChangeAt Go.ChangeMaps Go.RowKit
theorem own:ownKnob Tryz.prog.godebug=none:=by kernel_rfl
set_option maxRecDepth 100000 in
theorem contract (H:Type) (enc:TypeId × Value→H) (W:World) (base:Nat) (args:Array Value) (ds gs:List (DataW H)) (before:List MemPlace)
  (hval:∀ (j:Nat) t v,Tryz.f3.params[j]? = some t→args[j]? = some v→Value.okWide Tryz.prog W .any base t v)
  (hW:DataW.Whole enc Tryz.prog Tryz.f3.params.toList Rows.spaceTextSpec.vars false W args.toList ds gs before) (hg:Gl W) :
  Calls Tryz.prog 3 args W fun e W' => ∃ v,e=.returned v∧Rows.spaceTextSpec.post enc Tryz.prog Tryz.f3 false true false false W args v W':=by
 have hW':=hW
 obtain ⟨p,q,hA0,hV,rfl,hfz,hnd⟩:=hW
 have hA:DataW.TrodAll enc Tryz.prog W 0 (fun _ => true) true Tryz.f3.params.toList args.toList ds p:=hA0
 rw [Tryz.params3] at hA hval
 obtain ⟨v0,vs0,d0,ds0,p0,q0,hargs,rfl,rfl,h0,r0⟩:=trodAll_cons hA
 obtain ⟨v1,vs1,d1,ds1,p1,q1,rfl,rfl,rfl,h1,r1⟩:=trodAll_cons r0
 obtain ⟨rfl,rfl,rfl⟩:=trodAll_nil r1
 obtain rfl:args=#[v0,v1]:=by cases args; simp_all
 obtain ⟨rfl,rfl⟩:=trodVars_none hV
 clear hA0
 simp only [List.append_nil] at hW'
 have h0k:=h0
 have h1k:=h1
 have hlt:∀ x ∈ p0 ++ p1,x.block<W.heap.size:=fun x hx => by simpa using hW'.lt x hx
 obtain ⟨fuel0,hf0⟩:=h0
 obtain ⟨cs0,rfl,-⟩:=okWide_struct Tryz.underlying26 (hval 0 26 v0 rfl rfl)
 obtain ⟨vd0,va0,vc0,z0,e0,q0,w0⟩:=open_array hf0
 obtain rfl:cs0=#[vd0,va0,vc0]:=by
  cases cs0; simpa [Value.cells] using e0
 obtain ⟨s1,rfl,-,-,q1⟩:=open_string Tryz.underlying9 (hval 1 9 v1 rfl rfl) h1
 have lo:laidOutB Tryz.prog=true:=by kernel_rfl
 have rr0:Tryz.prog.readableRec 26 = true:=by kernel_rfl
 have rs0 : 26 < Tryz.prog.types.size:=of_decide_eq_true (by kernel_rfl)
 have rr1:Tryz.prog.readableRec 9 = true:=by kernel_rfl
 have rs1 : 9 < Tryz.prog.types.size:=of_decide_eq_true (by kernel_rfl)
 refine (spaceText_any z0 s1.data.toList _ _ _ W hg q0 (strD_of w0.dims) (strA_of w0.attrs) (fun c hc y hy => ((w0.cells c hc).vals y hy).str) (by unfold maxLen at q1; exact q1)).mono fun e W' ⟨he,hb⟩ => ?_
 subst he
 refine ⟨_,rfl,_,[],_,[],p0 ++ p1,[],hW',?_,?_,?_,hb.frame _,fun h => by cases h⟩
 ·exact trodAll_cons_mk (shut_bool Tryz.underlying4 _) trodAll_mk0
 ·have hpl:p0 ++ (p1 ++ ([]))=p0 ++ p1:=by simp
  exact hpl ▸ (trodAll_cons_mk (Below.trod lo rr0 rs0 h0k hb (fun x hx => hlt x (by simp [hx]))) (trodAll_cons_mk (Below.trod lo rr1 rs1 h1k hb (fun x hx => hlt x (by simp [hx]))) trodAll_mk0))
 ·rfl
noncomputable def laidWorld (os:Os):World:=World.laidAll Tryz.prog os Rows.spaceTextRow.laid
abbrev wit:Array Value:=#[.agg #[.slice none 0 0,.slice none 0 0,.slice none 0 0],.string ⟨#[]⟩]
theorem laid_met (os:Os):laidMet Tryz.prog Rows.spaceTextRow.laid ((laidWorld os).forCall (fun _ _ => 0) ⟨#[],wit,[]⟩).memory :=
 laidMet_laidAll _ (by kernel_rfl) (by kernel_rfl)
theorem reads (os:Os) {H:Type} (enc:TypeId × Value→H):∃ places,DataW.whole enc Tryz.prog ((laidWorld os).forCall (fun _ _ => 0) ⟨#[],wit,[]⟩).memory Tryz.f3.params.toList Rows.spaceTextSpec.vars false wit.toList 8=some ([.agg [.nil,.nil,.nil],.lit (.string [])],[],places) :=
 ⟨[],by kernel_rfl⟩
set_option maxRecDepth 100000 in
theorem lifted (os:Os) (started:os.Started) (H:Type) (enc:TypeId × Value→H) (F:Stop.Interp) :
  ReturnsInHanded {} Tryz.checked os 3 .any ((OpenSpec.ofChange Rows.spaceTextSpec).preRow enc Tryz.prog Tryz.f3 Rows.spaceTextRow.domain false Rows.spaceTextRow.laid) (((OpenSpec.ofChange Rows.spaceTextSpec).at F).post enc Tryz.prog Tryz.f3 false true false false):=by
 obtain ⟨places,hx⟩:=reads os enc
 refine returnsInHanded_of_row (C:=Tryz.checked) (s:=OpenSpec.ofChange Rows.spaceTextSpec) own started (by kernel_rfl) Tryz.func3
  (witness_row_atRef (enc:=enc) (C:=Tryz.checked) false (laidWorld os) wit (World.laidAll_os _ _ _) (by kernel_rfl) (by kernel_rfl) (by kernel_rfl)
   (OpenSpec.preRow_of_cond 8 hx (by kernel_rfl) (fun k hk => by cases hk) (by kernel_rfl) (laid_met os))) ?_
 intro W base args ds gs before hval hW _ _ _ hL hS _
 exact contract H enc W base args ds gs before hval hW (gl_of hS hL)
theorem jf0:(Rows.spaceTextRow.wf (OpenSpec.ofChange Rows.spaceTextSpec))=true:=by kernel_rfl
theorem jf1:(laidOutB Tryz.prog)=true:=gf1
theorem jf2:(mapsRowed Tryz.prog)=true:=gf2
theorem jf3:(Tryz.f3.params.all (Tryz.prog.readableRec ·))=true:=by kernel_rfl
theorem jf4:(namedTie Tryz.prog Rows.spaceTextRow.named Rows.spaceTextSpec.vars)=true:=by kernel_rfl
theorem jf5:((Rows.spaceTextRow.stops == []))=true:=by kernel_rfl
theorem jf6:((Tryz.prog.stops == []))=true:=gf6
theorem jf7:((Rows.spaceTextRow.knobs == []))=true:=by kernel_rfl
theorem jf8:((Tryz.prog.stopKnobs == []))=true:=gf8
theorem jf9:((Rows.spaceTextRow.inPlace == Tryz.prog.inPlace 3))=true:=by kernel_rfl
theorem jf10:((Rows.spaceTextRow.unfollowed == Tryz.prog.unfollowed 3))=true:=by kernel_rfl
theorem jf11:((Rows.spaceTextRow.recurses == Tryz.prog.recurses 3))=true:=by kernel_rfl
theorem jf12:((Rows.spaceTextRow.named == Tryz.prog.varsNamed 3))=true:=by kernel_rfl
theorem jf13:((Rows.spaceTextRow.maps == (Tryz.f3.params.toList ++ Rows.spaceTextSpec.plain.varTypes Tryz.prog).any (Tryz.prog.mapsRec ·)))=true:=by kernel_rfl
theorem jf14:((Rows.spaceTextRow.ifaces == (Tryz.f3.params.toList ++ Rows.spaceTextSpec.plain.varTypes Tryz.prog).any (Tryz.prog.ifacesRec ·)))=true:=by kernel_rfl
theorem jf15:((Rows.spaceTextRow.mapsOut == Tryz.prog.mapsAmong Tryz.f3.resultTypes.toList))=true:=by kernel_rfl
theorem jf16:((Rows.spaceTextRow.loops == (Tryz.f3.params.toList ++ Rows.spaceTextSpec.plain.varTypes Tryz.prog).any (Tryz.prog.loopsFrom ·)))=true:=by kernel_rfl
theorem jf17:((Rows.spaceTextRow.wideKeys == (Tryz.f3.params.toList ++ Rows.spaceTextSpec.plain.varTypes Tryz.prog ++ Tryz.f3.resultTypes.toList).any (Tryz.prog.wideKeysFrom ·)))=true:=by kernel_rfl
theorem jf18:(Rows.spaceTextSpec.vars.all (Tryz.prog.varReadable ·))=true:=by kernel_rfl
theorem jf19:(Tryz.f3.resultTypes.all (fun t => Tryz.prog.readableRec t && decide (t<Tryz.prog.types.size)))=true:=by kernel_rfl
theorem jf20:((Rows.spaceTextRow.ifacesOut == Tryz.f3.resultTypes.toList.any (Tryz.prog.ifacesRec ·)))=true:=by kernel_rfl
theorem jf21:((Rows.spaceTextRow.loopsOut == Tryz.f3.resultTypes.toList.any (Tryz.prog.loopsFrom ·)))=true:=by kernel_rfl
theorem jf22:((Rows.spaceTextRow.plainKeys == Tryz.prog.plainKeys))=true:=gf22
theorem jf23:(Rows.spaceTextRow.shortTexts.isNone)=true:=by kernel_rfl
theorem jf24:(Tryz.prog.stopsHeard)=true:=gf24
theorem jf25:(Tryz.prog.mayEnter)=true:=gf25
theorem jf26:((Rows.spaceTextRow.lifted == Tryz.prog.liftsFinal))=true:=gf26
theorem jf27:((Tryz.prog.make == some Rows.spaceTextRow.make))=true:=gf27
theorem jf28:((Rows.spaceTextRow.kinds == (if Rows.spaceTextRow.domain.isEmpty then [] else Tryz.f3.params.toList.map fun t => match Tryz.prog.underlying t with | some (.int k) => some k | _ => none)))=true:=by kernel_rfl
theorem jf29:((Rows.spaceTextRow.pinned == Rows.spaceTextRow.pinnedBy))=true:=by kernel_rfl
theorem jf30:((Rows.spaceTextRow.veiled == (Tryz.f3.params.toList ++ Rows.spaceTextSpec.plain.varTypes Tryz.prog ++ Tryz.f3.resultTypes.toList).any (Tryz.prog.veiledRec ·)))=true:=by kernel_rfl
theorem jf31:(Rows.spaceTextRow.veiledFits Tryz.prog Tryz.f3.params.toList (Tryz.f3.params.toList ++ Rows.spaceTextSpec.plain.varTypes Tryz.prog ++ Tryz.f3.resultTypes.toList))=true:=by kernel_rfl
set_option maxRecDepth 100000 in
theorem closed:joinedFacts Tryz.prog 3 Tryz.f3 Rows.spaceTextSpec Rows.spaceTextRow=true:=by
 unfold joinedFacts
 exact and_mk (and_mk (and_mk (and_mk (and_mk (and_mk (and_mk (and_mk (and_mk (and_mk (and_mk (and_mk (and_mk (and_mk (and_mk (and_mk (and_mk (and_mk (and_mk (and_mk (and_mk (and_mk (and_mk (and_mk (and_mk (and_mk (and_mk (and_mk (and_mk (and_mk (and_mk jf0 jf1) jf2) jf3) jf4) jf5) jf6) jf7) jf8) jf9) jf10) jf11) jf12) jf13) jf14) jf15) jf16) jf17) jf18) jf19) jf20) jf21) jf22) jf23) jf24) jf25) jf26) jf27) jf28) jf29) jf30) jf31
theorem named:Tryz.prog.funcNamed Rows.spaceTextRow.func=some 3:=by kernel_rfl
set_option maxRecDepth 100000 in
theorem said:Rows.SpaceTextSaid :=
 OpenClaim.holds_of_cond 3 Tryz.f3 rfl rfl rfl rfl rfl rfl rfl ⟨rfl,rfl,rfl,rfl,rfl⟩ rfl rfl rfl rfl rfl named Tryz.func3 closed
  (of_decide_eq_true (by kernel_rfl)) (by unfold Func.isWrapper; first | (rw [if_pos (by decide +kernel)]; kernel_rfl) | (rw [if_neg (by decide +kernel)]; exact ⟨rfl,rfl⟩))
  (fun os started H enc _ F => by rw [OpenClaim.pre_eq_preRow]; exact lifted os started H enc F)
theorem plain (f:FuncId) (fn:Func) (hf:Tryz.pinned.checked.prog.funcNamed "tesseract/tesseractlaw02.SpaceText" = some f) (hfn:Tryz.pinned.checked.prog.funcs[f]? = some fn) :
  Rows.spaceTextCard.stood.looks=Tryz.pinned.checked.prog.looks []∧∀ (j:Nat) t,fn.params[j]? = some t→Tryz.pinned.checked.prog.wantsStandIn t=false:=by
 obtain rfl:f = 3:=Option.some.inj ((show Tryz.prog.funcNamed "tesseract/tesseractlaw02.SpaceText" = some 3 by kernel_rfl).symm.trans hf) |>.symm
 obtain rfl:fn=Tryz.f3:=(Option.some.inj (Tryz.func3.symm.trans hfn)).symm
 refine ⟨by kernel_rfl,fun j t ht => ?_⟩
 rw [Tryz.params3] at ht
 have hm:=Array.mem_of_getElem? ht
 have hm:t = 26 ∨ t = 9:=by simpa [or_assoc] using hm
 rcases hm with rfl | rfl
 ·exact (show Tryz.prog.wantsStandIn 26 = false by kernel_rfl)
 ·exact (show Tryz.prog.wantsStandIn 9 = false by kernel_rfl)
theorem wfText:Rows.spaceTextRow.wfByText (OpenSpec.ofChange Rows.spaceTextSpec)=true:=by kernel_rfl
theorem mainIs:Tryz.pinned.checked.prog.mainIs=some (true,Rows.spaceTextCard.stood.harness.2.toList):=by kernel_rfl
theorem goes:false=Rows.spaceTextRow.goesBy Tryz.pinned.checked.prog:=by kernel_rfl
theorem card:Rows.SpaceTextCardSaid :=
 Claim7.holds_tied_plain_at .later [] _ _ _ _ said (fun _ h => by cases h) wfText (fun _ h => by cases h) spaceText_row_tie rfl ⟨rfl,rfl⟩ mainIs rfl plain goes
end Go.Proofs.YtdbnebhehiiakaaGreatDoor.spaceText
