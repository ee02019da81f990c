/- RegInv's law inside the body of a range over an iterator (a fence with a round). -/
import Derived.OrdersIn
import Derived.RangeFuncCalls
import Derived.Test.YtkliekoheeeamaaGreatDoorS13
namespace Go.Proofs.YtkliekoheeeamaaGreatDoor
open Go

section
variable {P : Program} {ops : Array Oper} {Q : Exit → Act → World → Prop} {md : Region.Mode} {F : Fence} {n l : Nat}

theorem wpAnyIn_inv (hdep : depsBack md ops = true) (I : Array Bool → Act → World → Prop)
  (hstep : ∀ listed a w i o, ops[i]? = some o → listed.getD i true = false → (∀ e ∈ o.after, Region.binds md e = true → listed.getD e.on false = true) → I listed a w → wpOpIn F n P ops Q i (I (listed.setIfInBounds i true)) a w)
  (hdone : ∀ listed a w, (∀ i, i < ops.size → listed.getD i true = true) → I listed a w → Q .normal a w) :
  ∀ fuel listed a w, openN listed ops.size ≤ fuel → I listed a w → wpAnyIn F n P md ops Q fuel listed a w := by
 intro fuel
 induction fuel with
 | zero =>
  intro listed a w hf hI
  have hall := openN_zero ops.size (by omega : openN listed ops.size = 0)
  refine ⟨?_, hdone listed a w hall hI⟩
  rw [List.eq_nil_iff_forall_not_mem]
  intro j hj
  rw [mem_ready] at hj
  obtain ⟨h0, o, ho, -⟩ := hj
  rw [hall j (Array.getElem?_eq_some_iff.1 ho).1] at h0; cases h0
 | succ fuel ih =>
  intro listed a w hf hI
  refine ⟨fun hr => hdone listed a w (fun i hi => all_listed hdep hr (i + 1) i (by omega) hi) hI, fun i hi => ?_⟩
  rw [mem_ready] at hi
  obtain ⟨h0, o, ho, hd⟩ := hi
  refine wpOpIn_mono (fun a' w' hI' => ih _ _ _ ?_ hI') (hstep listed a w i o ho h0 hd hI)
  have := openN_set h0 ops.size (Array.getElem?_eq_some_iff.1 ho).1
  omega

theorem Does.wpIn {o : Oper} {a : Act} {w : World} {R : Value → World → Prop} {K : Act → World → Prop} (hs : ∀ c, o.op ≠ .defer c) (h : Does P R ((execOp a.eval o).run P w)) (hk : ∀ v w', R v w' → K (a.put o.dst v) w') : o.wpIn (Fence.wide.inRound l) n P a w K Q := by
 unfold Oper.wpIn
 refine ⟨fun _ _ => trivial, ?_⟩
 rw [Oper.semAt_eq _ _ _ hs]
 revert h
 generalize (execOp a.eval o).run P w = r
 intro h
 cases r with
 | ok n' w' =>
  cases n' with
  | value v => exact hk _ _ h
  | skip => exact hk _ _ h
  | enter f args =>
   rw [Oper.uponIn_enter]
   refine ⟨fun hd => by simp [Fence.inRound, Fence.wide] at hd, CallsIn.inRound l ((callsIn_wide.2 h).mono fun e w'' he => ?_)⟩
   obtain ⟨v, rfl, hr⟩ := he
   exact hk _ _ hr
  | _ => exact h.elim
 | halt x w' => exact h.elim

/-- no operation defers -/
def noDefer (ops : Array Oper) : Bool := ops.all fun o => match o.op with | .defer _ => false | _ => true
theorem noDefer_spec (h : noDefer ops = true) {i : Nat} {o : Oper} (ho : ops[i]? = some o) : ∀ c, o.op ≠ .defer c := by
 intro c e
 unfold noDefer at h
 rw [Array.all_eq_true_iff_forall_mem] at h
 have := h o (Array.mem_of_getElem? ho)
 rw [e] at this
 cases this
theorem wpIn_region_yields {id : Nat} {a0 : Act} {w0 : World} (hm : P.follows .mixedOrders = true) (hdep : depsBack .any ops = true) (hap : dstsApart ops = true) (hdf : noDefer ops = true)
  (hsz : ∀ i d, dstOf ops i = some d → d < a0.tmps.size)
  (G : Nat → Value → World → Prop) (B : World → Prop) (Stp : World → World → Prop) (mono : ∀ i v w w', Stp w w' → G i v w → G i v w') (hB : B { w0 with drawn := w0.drawn + 1 })
  (hob : ∀ i o, ops[i]? = some o → Owes P ops G B Stp a0 i o)
  (hdone : ∀ vals w, B w → (∀ i, i < ops.size → G i (vals i) w) → Q .normal (putAll ops vals (fun _ => true) ops.size a0) w) :
  (Code.region id ops true).wpIn (Fence.wide.inRound l) n P Q a0 w0 := by
 refine wpIn_region_any hm ?_
 refine wpAnyIn_inv hdep (fun listed a w => listed.size = ops.size ∧ B w ∧ ∃ vals, a = putAll ops vals (fun k => listed.getD k true) ops.size a0 ∧ ∀ i, i < ops.size → listed.getD i true = true → G i (vals i) w) ?_ ?_ _ _ _ _ ?_ ?_
 ·rintro listed a w i o ho h0 hd ⟨hs, hBw, vals, rfl, hG⟩
  have hi : i < ops.size := (Array.getElem?_eq_some_iff.1 ho).1
  have hlt : ∀ j, listed.getD j false = true → j < ops.size := fun j hj => by
   apply Classical.byContradiction
   intro h9
   simp [Array.getElem?_eq_none (by omega : listed.size ≤ j)] at hj
  have hft : ∀ j, listed.getD j false = true → listed.getD j true = true := fun j hj => by
   have := hlt j hj
   cases h6 : listed[j]? with
   | none => simp [h6] at hj
   | some b => simp [h6] at hj ⊢; exact hj
  have ob := hob i o ho (putAll ops vals (fun k => listed.getD k true) ops.size a0) vals w hBw (fun t ht => putAll_other ht _) (fun e he hb =>
   ⟨fun d hd' => putAll_dst hap hd' (hft _ (hd e he hb)) (hsz _ _ hd') _ (hlt _ (hd e he hb)), hG _ (hlt _ (hd e he hb)) (hft _ (hd e he hb))⟩)
  have next : ∀ v w', G i v w' → (∀ j, j < ops.size → listed.getD j true = true → G j (vals j) w') → B w' →
    (listed.setIfInBounds i true).size = ops.size ∧ B w' ∧ ∃ vals', (putAll ops vals (fun k => listed.getD k true) ops.size a0).put o.dst v = putAll ops vals' (fun k => (listed.setIfInBounds i true).getD k true) ops.size a0 ∧
     ∀ j, j < ops.size → (listed.setIfInBounds i true).getD j true = true → G j (vals' j) w' := by
   intro v w' hv hold hB'
   refine ⟨by simpa using hs, hB', fun k => if k = i then v else vals k, ?_, fun j hj hl => ?_⟩
   ·have hset : (listed.setIfInBounds i true).getD i true = true := by simp [hs, hi]
    have := putAll_set hap (vals := vals) (vals' := fun k => if k = i then v else vals k) (L := fun k => listed.getD k true) (L' := fun k => (listed.setIfInBounds i true).getD k true) (a := a0) (i := i) h0 hset
     (fun k hk => getD_set_ne true (Ne.symm hk)) (fun k hk => by simp [hk]) ops.size hi
    rw [this, dstOf_some ho]; simp
   ·by_cases e : j = i
    ·subst e; simpa using hv
    ·simp only [if_neg e]
     exact hold j hj (by rwa [getD_set_ne true (Ne.symm e)] at hl)
  unfold wpOpIn
  rw [ho]
  simp only
  split
  ·rename_i hw
   rw [if_pos hw] at ob
   refine Does.wpIn (noDefer_spec hdf ho) ob fun v w' hv => next v w' hv.1 (fun j hj hl => mono _ _ _ _ hv.2.1 (hG j hj hl)) hv.2.2
  ·rename_i hw
   rw [if_neg hw] at ob
   exact ⟨fun _ _ => trivial, next undef w ob hG hBw⟩
 ·rintro listed a w hall ⟨hs, hBw, vals, rfl, hG⟩
  have := hdone vals w hBw fun i hi => hG i hi (hall i hi)
  rwa [putAll_congr (vals' := vals) (L' := fun k => listed.getD k true) ops.size (fun k hk => (hall k hk).symm) (fun _ _ _ => rfl)] at this
 ·have : ∀ n, openN (Array.replicate ops.size false) n ≤ n := by
   intro n
   induction n with
   | zero => exact Nat.le_refl _
   | succ n ih => rw [openN]; split <;> omega
  exact this _
 ·refine ⟨by simp, hB, fun _ => undef, ?_, fun i hi hl => ?_⟩
  ·have : ∀ n, n ≤ ops.size → putAll ops (fun _ => undef) (fun k => (Array.replicate ops.size false).getD k true) n a0 = a0 := by
    intro n hn
    induction n with
    | zero => rfl
    | succ n ih =>
     rw [putAll, if_neg (by simp [show n < ops.size from hn]), ih (by omega)]
   exact (this _ (Nat.le_refl _)).symm
  ·simp [hi] at hl
theorem wpIn_region_list {id : Nat} {a0 : Act} {w0 : World} (L : List Yd) (ds : List (Option Tmp)) (B : World → Prop) (Stp : World → World → Prop) (hm : P.follows .mixedOrders = true) (hdep : depsBack .any ops = true) (hap : dstsApart ops = true) (hdf : noDefer ops = true) (hsz : slotsIn ops a0.tmps.size = true) (hds : (List.range ops.size).map (dstOf ops) = ds)
  (mono : ∀ y, y ∈ L → ∀ v w w', Stp w w' → y.ok v w → y.ok v w') (hB : B { w0 with drawn := w0.drawn + 1 })
  (hob : ∀ i o, ops[i]? = some o → OwesL P ops L B Stp a0 i o)
  (hdone : ∀ vals w, B w → (∀ i, i < ops.size → (L.getD i .any).ok (vals i) w) → Q .normal (putDs vals ds 0 a0) w) :
  (Code.region id ops true).wpIn (Fence.wide.inRound l) n P Q a0 w0 := by
 refine wpIn_region_yields hm hdep hap hdf (slotsIn_spec hsz) (fun i => (L.getD i .any).ok) B Stp (fun i v w w' hs hv => ?_) hB (fun i o ho a vals w hw hev haf => ?_) (fun vals w hw hv => by rw [putAll_ds, hds]; exact hdone vals w hw hv)
 ·by_cases hi : i < L.length
  ·have hg : L.getD i .any = L[i] := by rw [List.getD_eq_getElem?_getD, List.getElem?_eq_getElem hi]; rfl
   simp only [hg] at hv ⊢
   exact mono _ (List.getElem_mem hi) _ _ _ hs hv
  ·have hg : L.getD i .any = .any := by rw [List.getD_eq_getElem?_getD, List.getElem?_eq_none (by omega)]; rfl
   simp only [hg]; trivial
 ·exact hob i o ho a w hw (fun t ht => by rw [← eval_tmp, ← eval_tmp]; exact hev t (freeSlot_spec ht)) (fun k e he hb d hd => by
   obtain ⟨h1, h2⟩ := haf e (Array.mem_of_getElem? he) hb
   rw [← eval_tmp, h1 d hd]; exact h2)
end
end Go.Proofs.YtkliekoheeeamaaGreatDoor
