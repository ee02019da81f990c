/- Lemmas and contracts, each under its own condition: A region that draws its order of evaluation, by what each of its operations yields, whatever the order is: its condition is stated at each law. space.Homes: plain words, the region of the two appends. -/
import Derived.OrdersHeld
import Derived.Deep.AppendLies
import Derived.Test.YtdbnebhehiiakaaGreatDoorS11
namespace Go.Proofs.YtdbnebhehiiakaaGreatDoor
open Go
section
variable {P:Program} {ops:Array Oper} {Q:Exit→Act→World→Prop} {md:Region.Mode}
def openN (listed:Array Bool):Nat→Nat
 | 0 => 0
 | n+1 => openN listed n+(if listed.getD n true=true then 0 else 1)
theorem openN_late {listed:Array Bool} {i:Nat}:∀ n,n≤i→openN (listed.setIfInBounds i true) n=openN listed n
 | 0,_ => rfl
 | n+1,h => by rw [openN,openN,openN_late n (by omega),getD_set_ne true (by omega)]
theorem openN_set {listed:Array Bool} {i:Nat} (h0:listed.getD i true=false):∀ n,i<n→openN (listed.setIfInBounds i true) n+1=openN listed n
 | 0,h => by omega
 | n+1,h => by
  by_cases e:i=n
  ·subst e
   have h1:(listed.setIfInBounds i true).getD i true=true:=by
    by_cases hi:i<listed.size
    ·simp [hi]
    ·simp
   rw [openN,openN,openN_late i (Nat.le_refl _),if_pos h1,if_neg (by rw [h0]; decide)]
  ·rw [openN,openN,← openN_set h0 n (by omega),getD_set_ne true e]; omega
theorem openN_zero {listed:Array Bool}:∀ n,openN listed n=0→∀ i,i<n→listed.getD i true=true
 | 0,_,i,h => by omega
 | n+1,h,i,hi => by
  rw [openN] at h
  by_cases e:i=n
  ·subst e
   apply Classical.byContradiction
   intro h1
   rw [if_neg h1] at h; omega
  ·exact openN_zero n (by omega) i (by omega)
def depsBack (md:Region.Mode) (ops:Array Oper):Bool:=(List.range ops.size).all fun i => ((ops[i]?).map fun o => o.after.all fun e => !Region.binds md e || decide (e.on<i)).getD true
theorem depsBack_spec (h:depsBack md ops=true) {i:Nat} {o:Oper} (ho:ops[i]? = some o):∀ e ∈ o.after,Region.binds md e=true→e.on<i:=by
 unfold depsBack at h
 rw [List.all_eq_true] at h
 have:=h i (List.mem_range.2 (Array.getElem?_eq_some_iff.1 ho).1)
 rw [ho] at this
 simp only [Option.map_some,Option.getD_some,Array.all_eq_true_iff_forall_mem,Bool.or_eq_true,Bool.not_eq_true',decide_eq_true_eq] at this
 intro e he hb
 rcases this e he with h1 | h1
 ·rw [hb] at h1; cases h1
 ·exact h1
theorem all_listed (h:depsBack md ops=true) {listed:Array Bool} (hr:Region.ready md ops listed=[]):∀ n i,i<n→i<ops.size→listed.getD i true=true
 | 0,i,h1,_ => by omega
 | n+1,i,h1,h2 => by
  by_cases e:i<n
  ·exact all_listed h hr n i e h2
  ·apply Classical.byContradiction
   intro h3
   have ho:ops[i]? = some ops[i]:=Array.getElem?_eq_getElem h2
   have hm:i ∈ Region.ready md ops listed:=by
    rw [mem_ready]
    refine ⟨by simpa using h3,_,ho,fun e he hbe => ?_⟩
    have hlt:=depsBack_spec h ho e he hbe
    have h5:=all_listed h hr n e.on (by omega) (by omega)
    cases h6:listed[e.on]? with
    | none =>
     exfalso
     have h7:listed.size≤e.on:=by
      apply Classical.byContradiction; intro h8
      rw [Array.getElem?_eq_getElem (by omega)] at h6; cases h6
     have h9:listed.getD i true=true:=by simp [Array.getElem?_eq_none (by omega:listed.size≤i)]
     exact h3 h9
    | some b => simp [h6] at h5 ⊢; exact h5
   rw [hr] at hm; simp at hm
theorem wpAny_inv (hdep:depsBack md ops=true) (I:Array Bool→Act→World→Prop)
  (hstep:∀ listed a w i o,ops[i]? = some o→listed.getD i true=false→(∀ e ∈ o.after,Region.binds md e=true→listed.getD e.on false=true)→I listed a w→wpOp P ops Q i (I (listed.setIfInBounds i true)) a w)
  (hdone:∀ listed a w,(∀ i,i<ops.size→listed.getD i true=true)→I listed a w→Q .normal a w) :
  ∀ fuel listed a w,openN listed ops.size≤fuel→I listed a w→wpAny P md ops Q fuel listed a w:=by
 intro fuel
 induction fuel with
 | zero =>
  intro listed a w hf hI
  have hall:=openN_zero ops.size (by omega:openN listed ops.size=0)
  refine ⟨?_,hdone listed a w hall hI⟩
  rw [List.eq_nil_iff_forall_not_mem]
  intro j hj
  rw [mem_ready] at hj
  obtain ⟨h0,o,ho,-⟩:=hj
  rw [hall j (Array.getElem?_eq_some_iff.1 ho).1] at h0; cases h0
 | succ fuel ih =>
  intro listed a w hf hI
  refine ⟨fun hr => hdone listed a w (fun i hi => all_listed hdep hr (i+1) i (by omega) hi) hI,fun i hi => ?_⟩
  rw [mem_ready] at hi
  obtain ⟨h0,o,ho,hd⟩:=hi
  refine wpOp_mono (fun a' w' hI' => ih _ _ _ ?_ hI') (hstep listed a w i o ho h0 hd hI)
  have:=openN_set h0 ops.size (Array.getElem?_eq_some_iff.1 ho).1
  omega
def Does (P:Program) (R:Value→World→Prop):Result Next→Prop
 | .ok (.value v) w => R v w
 | .ok .skip w => R undef w
 | .ok (.enter f args) w => Calls P f args w fun e w' => ∃ v,e=.returned v∧R v w'
 | _ => False
theorem Does.wp {o:Oper} {a:Act} {w:World} {R:Value→World→Prop} {K:Act→World→Prop} (h:Does P R ((execOp a.eval o).run P w)) (hk:∀ v w',R v w'→K (a.put o.dst v) w'):o.wp P a w K Q:=by
 unfold Oper.wp
 revert h
 generalize (execOp a.eval o).run P w=r
 intro h
 cases r with
 | ok n w' =>
  cases n with
  | value v => exact hk _ _ h
  | skip => exact hk _ _ h
  | enter f args =>
   rw [Oper.upon_enter]
   refine Calls.mono h fun e w'' he => ?_
   obtain ⟨v,rfl,hr⟩:=he
   exact hk _ _ hr
  | _ => exact h.elim
 | halt x w' => exact h.elim
def dstOf (ops:Array Oper) (i:Nat):Option Tmp:=(ops[i]?).bind (·.dst)
theorem dstOf_some {i:Nat} {o:Oper} (ho:ops[i]? = some o):dstOf ops i=o.dst:=by unfold dstOf; rw [ho]; rfl
def dstsApart (ops:Array Oper):Bool:=(List.range ops.size).all fun i => (List.range i).all fun j => match dstOf ops i,dstOf ops j with
 | some d,some e => d != e
 | _,_ => true
theorem dstsApart_lt (h:dstsApart ops=true) {i j:Nat} (hij:j<i) {d:Tmp} (hi:dstOf ops i=some d):dstOf ops j ≠ some d:=by
 intro hj
 have hs:i<ops.size:=by
  unfold dstOf at hi
  cases ho:ops[i]? with
  | none => rw [ho] at hi; cases hi
  | some o => exact (Array.getElem?_eq_some_iff.1 ho).1
 unfold dstsApart at h
 rw [List.all_eq_true] at h
 have h1:=h i (List.mem_range.2 hs)
 rw [List.all_eq_true] at h1
 have h2:=h1 j (List.mem_range.2 hij)
 rw [hi,hj] at h2
 simp at h2
theorem dstsApart_ne (h:dstsApart ops=true) {i j:Nat} (hij:i ≠ j) {d:Tmp} (hi:dstOf ops i=some d):dstOf ops j ≠ some d:=by
 rcases Nat.lt_or_gt_of_ne hij with hl | hl
 ·intro hj; exact dstsApart_lt h hl hj hi
 ·exact dstsApart_lt h hl hi
def putAll (ops:Array Oper) (vals:Nat→Value) (L:Nat→Bool):Nat→Act→Act
 | 0,a => a
 | n+1,a => if L n=true then (putAll ops vals L n a).put (dstOf ops n) (vals n) else putAll ops vals L n a
theorem putAll_congr {vals vals':Nat→Value} {L L':Nat→Bool} {a:Act}:∀ n,(∀ k,k<n→L k=L' k)→(∀ k,k<n→L k=true→vals k=vals' k)→putAll ops vals L n a=putAll ops vals' L' n a
 | 0,_,_ => rfl
 | n+1,h1,h2 => by
  rw [putAll,putAll,putAll_congr n (fun k hk => h1 k (by omega)) (fun k hk => h2 k (by omega)),← h1 n (by omega)]
  split
  ·rename_i h; rw [h2 n (by omega) h]
  ·rfl
theorem putAll_set (h:dstsApart ops=true) {vals vals':Nat→Value} {L L':Nat→Bool} {a:Act} {i:Nat} (h0:L i=false) (h1:L' i=true) (h2:∀ k,k ≠ i→L' k=L k) (h3:∀ k,k ≠ i→vals' k=vals k) :
  ∀ n,i<n→putAll ops vals' L' n a=(putAll ops vals L n a).put (dstOf ops i) (vals' i)
 | 0,hi => by omega
 | n+1,hi => by
  by_cases e:i=n
  ·subst e
   rw [putAll,putAll,if_pos h1,if_neg (by rw [h0]; decide),putAll_congr i (fun k hk => h2 k (by omega)) (fun k hk _ => h3 k (by omega))]
  ·rw [putAll,putAll,h2 n (by omega),h3 n (by omega),putAll_set h h0 h1 h2 h3 n (by omega)]
   split
   ·exact Act.put_comm _ _ _ fun d hd => dstsApart_ne h e hd
   ·rfl
theorem put_size (a:Act) (d:Option Tmp) (v:Value):(a.put d v).tmps.size=a.tmps.size:=by
 cases d <;> simp [Act.put]
theorem putAll_size {vals:Nat→Value} {L:Nat→Bool} {a:Act}:∀ n,(putAll ops vals L n a).tmps.size=a.tmps.size
 | 0 => rfl
 | n+1 => by
  rw [putAll]; split
  ·rw [put_size,putAll_size n]
  ·exact putAll_size n
theorem putAll_other {vals:Nat→Value} {L:Nat→Bool} {a:Act} {t:Tmp} (h:∀ k,dstOf ops k ≠ some t):∀ n,(putAll ops vals L n a).eval (.tmp t)=a.eval (.tmp t)
 | 0 => rfl
 | n+1 => by
  rw [putAll]; split
  ·rw [Act.eval_put (fun d hd e => by injection e with e; exact h n (e ▸ hd)),putAll_other h n]
  ·exact putAll_other h n
theorem putAll_unwritten {vals:Nat→Value} {L:Nat→Bool} {a:Act} {t:Tmp} (h:∀ k,dstOf ops k=some t→L k=false):∀ n,(putAll ops vals L n a).eval (.tmp t)=a.eval (.tmp t)
 | 0 => rfl
 | n+1 => by
  rw [putAll]; split
  ·rename_i hl
   rw [Act.eval_put (fun d hd e => by
    injection e with e
    have:=h n (e ▸ hd)
    rw [hl] at this; cases this),putAll_unwritten h n]
  ·exact putAll_unwritten h n
theorem eval_put_same (a:Act) (d:Tmp) (v:Value) (hd:d<a.tmps.size):(a.put (some d) v).eval (.tmp d)=v:=by
 simp [Act.eval,Act.put,hd]
theorem putAll_dst (h:dstsApart ops=true) {vals:Nat→Value} {L:Nat→Bool} {a:Act} {j:Nat} {d:Tmp} (hj:dstOf ops j=some d) (hl:L j=true) (hd:d<a.tmps.size):∀ n,j<n→(putAll ops vals L n a).eval (.tmp d)=vals j
 | 0,hi => by omega
 | n+1,hi => by
  rw [putAll]
  by_cases e:j=n
  ·subst e
   rw [if_pos hl,hj,eval_put_same _ _ _ (by rw [putAll_size]; exact hd)]
  ·split
   ·rw [Act.eval_put (fun d' hd' e' => by injection e' with e'; subst e'; exact dstsApart_ne h e hj hd'),putAll_dst h hj hl hd n (by omega)]
   ·exact putAll_dst h hj hl hd n (by omega)
theorem wanted_none {o:Oper} {f:Nat→Option Bool} (hg:o.guard=none):Region.wanted o f=true:=by
 simp [Region.wanted,hg]
def Owes (P:Program) (ops:Array Oper) (G:Nat→Value→World→Prop) (B:World→Prop) (Stp:World→World→Prop) (a0:Act) (i:Nat) (o:Oper):Prop :=
 ∀ (a:Act) (vals:Nat→Value) (w:World),B w→(∀ t,(∀ k,dstOf ops k ≠ some t)→a.eval (.tmp t)=a0.eval (.tmp t)) →
  (∀ e ∈ o.after,Region.binds .any e=true→(∀ d,dstOf ops e.on=some d→a.eval (.tmp d)=vals e.on)∧G e.on (vals e.on) w) →
  if Region.wanted o (yielded ops a.tmps)=true then Does P (fun v w' => G i v w'∧Stp w w'∧B w') ((execOp a.eval o).run P w) else G i undef w
inductive Yd where
 | val (v:Value)
 | any
 | holds (C:Value→World→Prop)
def Yd.ok:Yd→Value→World→Prop
 | .val v,u,_ => u=v
 | .any,_,_ => True
 | .holds C,u,w => C u w
def freeSlot (ops:Array Oper) (t:Tmp):Bool:=(List.range ops.size).all fun i => match dstOf ops i with
 | some d => d != t
 | none => true
theorem freeSlot_spec {t:Tmp} (h:freeSlot ops t=true):∀ k,dstOf ops k ≠ some t:=by
 intro k hk
 have hs:k<ops.size:=by
  unfold dstOf at hk
  cases ho:ops[k]? with
  | none => rw [ho] at hk; cases hk
  | some o => exact (Array.getElem?_eq_some_iff.1 ho).1
 unfold freeSlot at h
 rw [List.all_eq_true] at h
 have h1:=h k (List.mem_range.2 hs)
 rw [hk] at h1
 simp at h1
def slotsIn (ops:Array Oper) (n:Nat):Bool:=(List.range ops.size).all fun i => match dstOf ops i with
 | some d => decide (d<n)
 | none => true
theorem slotsIn_spec {n:Nat} (h:slotsIn ops n=true):∀ i d,dstOf ops i=some d→d<n:=by
 intro k d hk
 have hs:k<ops.size:=by
  unfold dstOf at hk
  cases ho:ops[k]? with
  | none => rw [ho] at hk; cases hk
  | some o => exact (Array.getElem?_eq_some_iff.1 ho).1
 unfold slotsIn at h
 rw [List.all_eq_true] at h
 have h1:=h k (List.mem_range.2 hs)
 rw [hk] at h1
 simpa using h1
theorem eval_tmp (a:Act) (t:Tmp):a.eval (.tmp t)=(a.tmps[t]?).getD undef:=by simp [Act.eval]
def putDs (vals:Nat→Value):List (Option Tmp)→Nat→Act→Act
 | [],_,a => a
 | d :: r,i,a => putDs vals r (i+1) (a.put d (vals i))
theorem putDs_snoc (vals:Nat→Value):∀ (l:List (Option Tmp)) (d:Option Tmp) (i:Nat) (a:Act),putDs vals (l ++ [d]) i a=(putDs vals l i a).put d (vals (i+l.length))
 | [],d,i,a => rfl
 | e :: l,d,i,a => by
  rw [List.cons_append,putDs,putDs,putDs_snoc vals l d (i+1),List.length_cons]
  congr 2; omega
theorem putAll_ds (vals:Nat→Value) (a:Act):∀ n,putAll ops vals (fun _ => true) n a=putDs vals ((List.range n).map (dstOf ops)) 0 a
 | 0 => rfl
 | n+1 => by
  rw [putAll,if_pos rfl,putAll_ds vals a n,List.range_succ,List.map_append,List.map_singleton,putDs_snoc]
  simp
def OwesL (P:Program) (ops:Array Oper) (L:List Yd) (B:World→Prop) (Stp:World→World→Prop) (a0:Act) (i:Nat) (o:Oper):Prop :=
 ∀ (a:Act) (w:World),B w→(∀ t,freeSlot ops t=true→(a.tmps[t]?).getD undef=(a0.tmps[t]?).getD undef) →
  (∀ (k:Nat) (e:Edge),o.after[k]? = some e→Region.binds .any e=true→∀ d,dstOf ops e.on=some d→(L.getD e.on .any).ok ((a.tmps[d]?).getD undef) w) →
  if Region.wanted o (yielded ops a.tmps)=true then Does P (fun v w' => (L.getD i .any).ok v w'∧Stp w w'∧B w') ((execOp a.eval o).run P w) else (L.getD i .any).ok undef w
def upd (dn:Nat→Bool) (i:Nat):Nat→Bool:=fun k => if k=i then true else dn k
def updV (vals:Nat→Value) (i:Nat) (v:Value):Nat→Value:=fun k => if k=i then v else vals k
def OwesJ (P:Program) (ops:Array Oper) (J:(Nat→Bool)→(Nat→Value)→World→Prop) (a0:Act) (i:Nat) (o:Oper):Prop :=
 ∀ (a:Act) (dn:Nat→Bool) (vals:Nat→Value) (w:World),J dn vals w→dn i=false→(∀ (k:Nat) (e:Edge),o.after[k]? = some e→Region.binds .any e=true→dn e.on=true) →
  (∀ (j k:Nat) (oj:Oper) (e:Edge),ops[j]? = some oj→oj.after[k]? = some e→Region.binds .any e=true→e.on=i→dn j=false) →
  (∀ t,freeSlot ops t=true→(a.tmps[t]?).getD undef=(a0.tmps[t]?).getD undef)→(∀ k d,dn k=true→dstOf ops k=some d→(a.tmps[d]?).getD undef=vals k) →
  (∀ k d,dn k=false→dstOf ops k=some d→(a.tmps[d]?).getD undef=(a0.tmps[d]?).getD undef) →
  if Region.wanted o (yielded ops a.tmps)=true then Does P (fun v w' => J (upd dn i) (updV vals i v) w') ((execOp a.eval o).run P w) else J (upd dn i) (updV vals i undef) w
theorem wp_region_inv {id:Nat} {a0:Act} {w0:World} (ds:List (Option Tmp)) (J:(Nat→Bool)→(Nat→Value)→World→Prop) (hm:P.follows .mixedOrders=true) (hdep:depsBack .any ops=true) (hap:dstsApart ops=true) (hsz:slotsIn ops a0.tmps.size=true)
  (hds:(List.range ops.size).map (dstOf ops)=ds) (h0:J (fun _ => false) (fun _ => undef) { w0 with drawn:=w0.drawn+1 })
  (hob:∀ i o,ops[i]? = some o→OwesJ P ops J a0 i o)
  (hdone:∀ dn vals w,(∀ i,i<ops.size→dn i=true)→J dn vals w→Q .normal (putDs vals ds 0 a0) w) :
  (Code.region id ops true).wp P Q a0 w0:=by
 refine wp_region_any hm ?_
 refine wpAny_inv hdep (fun listed a w => listed.size=ops.size∧(∀ j,listed.getD j false=true→∀ oj,ops[j]? = some oj→∀ e ∈ oj.after,Region.binds .any e=true→listed.getD e.on false=true) ∧
  ∃ vals,a=putAll ops vals (fun k => listed.getD k true) ops.size a0∧J (fun k => listed.getD k false) vals w) ?_ ?_ _ _ _ _ ?_ ?_
 ·rintro listed a w i o ho hl0 hd ⟨hs,hcl,vals,rfl,hJ⟩
  have hi:i<ops.size:=(Array.getElem?_eq_some_iff.1 ho).1
  have hf0:listed.getD i false=false:=by
   have hlt:i<listed.size:=by omega
   simp only [Array.getD_eq_getD_getElem?,Array.getElem?_eq_getElem hlt,Option.getD_some] at hl0 ⊢
   exact hl0
  have hlt:∀ j,listed.getD j false=true→j<ops.size:=fun j hj => by
   apply Classical.byContradiction
   intro h9
   simp [Array.getElem?_eq_none (by omega:listed.size≤j)] at hj
  have hft:∀ j,listed.getD j false=true→listed.getD j true=true:=fun j hj => by
   have:=hlt j hj
   cases h6:listed[j]? with
   | none => simp [h6] at hj
   | some b => simp [h6] at hj ⊢; exact hj
  have hupd:(fun k => (listed.setIfInBounds i true).getD k false)=upd (fun k => listed.getD k false) i:=by
   funext k
   unfold upd
   by_cases e:k=i
   ·subst e; simp [hs,hi]
   ·rw [if_neg e]; exact getD_set_ne false (Ne.symm e)
  have hcl':∀ j,(listed.setIfInBounds i true).getD j false=true→∀ oj,ops[j]? = some oj→∀ e ∈ oj.after,Region.binds .any e=true→(listed.setIfInBounds i true).getD e.on false=true:=by
   intro j hj oj hoj e he hb
   have h1:∀ k,listed.getD k false=true→(listed.setIfInBounds i true).getD k false=true:=fun k hk => by
    by_cases e1:k=i
    ·subst e1; rw [hf0] at hk; cases hk
    ·rw [getD_set_ne false (Ne.symm e1)]; exact hk
   by_cases e1:j=i
   ·subst e1
    rw [ho] at hoj
    obtain rfl:=Option.some.inj hoj
    exact h1 _ (hd e he hb)
   ·rw [getD_set_ne false (Ne.symm e1)] at hj
    exact h1 _ (hcl j hj oj hoj e he hb)
  have ob:=hob i o ho (putAll ops vals (fun k => listed.getD k true) ops.size a0) (fun k => listed.getD k false) vals w hJ hf0 (fun k e he hb => hd e (Array.mem_of_getElem? he) hb)
   (fun j k oj e hj hk hb he => by
    cases h9:listed.getD j false with
    | false => rfl
    | true =>
     have:=hcl j h9 oj hj e (Array.mem_of_getElem? hk) hb
     rw [he,hf0] at this; cases this)
   (fun t ht => by rw [← eval_tmp,← eval_tmp]; exact putAll_other (freeSlot_spec ht) _)
   (fun k d hk hd' => by rw [← eval_tmp]; exact putAll_dst hap hd' (hft k hk) (slotsIn_spec hsz _ _ hd') _ (hlt k hk))
   (fun k d hk hd' => by
    rw [← eval_tmp,← eval_tmp]
    refine putAll_unwritten (fun j hj => ?_) _
    have hjk:j=k:=by
     apply Classical.byContradiction
     intro e
     exact dstsApart_ne hap e hj hd'
    subst hjk
    have hjs:j<ops.size:=by
     unfold dstOf at hj
     cases h9:ops[j]? with
     | none => rw [h9] at hj; cases hj
     | some o9 => exact (Array.getElem?_eq_some_iff.1 h9).1
    simp only [Array.getD_eq_getD_getElem?,Array.getElem?_eq_getElem (by omega:j<listed.size),Option.getD_some] at hk ⊢
    exact hk)
  have next:∀ v w',J (upd (fun k => listed.getD k false) i) (updV vals i v) w' →
    (listed.setIfInBounds i true).size=ops.size∧(∀ j,(listed.setIfInBounds i true).getD j false=true→∀ oj,ops[j]? = some oj→∀ e ∈ oj.after,Region.binds .any e=true→(listed.setIfInBounds i true).getD e.on false=true) ∧
     ∃ vals',(putAll ops vals (fun k => listed.getD k true) ops.size a0).put o.dst v=putAll ops vals' (fun k => (listed.setIfInBounds i true).getD k true) ops.size a0∧J (fun k => (listed.setIfInBounds i true).getD k false) vals' w':=by
   intro v w' hv
   refine ⟨by simpa using hs,hcl',updV vals i v,?_,by rw [hupd]; exact hv⟩
   have hset:(listed.setIfInBounds i true).getD i true=true:=by simp [hs,hi]
   have:=putAll_set hap (vals:=vals) (vals':=updV vals i v) (L:=fun k => listed.getD k true) (L':=fun k => (listed.setIfInBounds i true).getD k true) (a:=a0) (i:=i) hl0 hset
    (fun k hk => getD_set_ne true (Ne.symm hk)) (fun k hk => by simp [updV,hk]) ops.size hi
   rw [this,dstOf_some ho]; simp [updV]
  unfold wpOp
  rw [ho]
  simp only
  split
  ·rename_i hw
   rw [if_pos hw] at ob
   exact .inl (Does.wp ob fun v w' hv => next v w' hv)
  ·rename_i hw
   rw [if_neg hw] at ob
   exact next undef w ob
 ·rintro listed a w hall ⟨hs,-,vals,rfl,hJ⟩
  have e:putAll ops vals (fun k => listed.getD k true) ops.size a0=putAll ops vals (fun _ => true) ops.size a0:=putAll_congr ops.size (fun k hk => hall k hk) (fun _ _ _ => rfl)
  rw [e,putAll_ds,hds]
  refine hdone _ _ _ (fun i hi => ?_) hJ
  have:=hall i hi
  simp only [Array.getD_eq_getD_getElem?,Array.getElem?_eq_getElem (by omega:i<listed.size),Option.getD_some] at this ⊢
  exact this
 ·have:∀ n,openN (Array.replicate ops.size false) n≤n:=by
   intro n
   induction n with
   | zero => exact Nat.le_refl _
   | succ n ih => rw [openN]; split <;> omega
  exact this _
 ·have hz:(fun k => (Array.replicate ops.size false).getD k false)=fun _ => false:=by
   funext k
   by_cases hk:k<ops.size
   ·simp [hk]
   ·simp [Array.getElem?_eq_none (by simpa using hk:(Array.replicate ops.size false).size≤k)]
  refine ⟨by simp,?_,fun _ => undef,?_,by rw [hz]; exact h0⟩
  ·intro j hj
   have h9:(Array.replicate ops.size false).getD j false=false:=congrFun hz j
   rw [h9] at hj; cases hj
  have:∀ n,n≤ops.size→putAll ops (fun _ => undef) (fun k => (Array.replicate ops.size false).getD k true) n a0=a0:=by
   intro n hn
   induction n with
   | zero => rfl
   | succ n ih => rw [putAll,if_neg (by simp [show n<ops.size from hn]),ih (by omega)]
  exact (this _ (Nat.le_refl _)).symm
end
end Go.Proofs.YtdbnebhehiiakaaGreatDoor
namespace Go.Proofs.YtdbnebhehiiakaaGreatDoor
open Go.RowKit
def homeF (n off s o:Int):Int:=if 0<n∧off<n * s+o then n - 1 else n
def homeT (q n off s o:Int):Int:=if (n+1) * s≤off+o∧n<q then n+1 else n
def homesL:List Int→List Int→List DimT→List Int→List Int→List Int→List Int × List Int
 | lo,hi,d :: ds,s :: ss,o :: os,x :: xs => homesL (lo ++ [homeF ((x - d.lo) / s) (x - d.lo) s o]) (hi ++ [homeT ((d.last - d.lo) / s) ((x - d.lo) / s) (x - d.lo) s o]) ds ss os xs
 | lo,hi,_,_,_,_ => (lo,hi)
def homesQ (d:List DimT) (l:LayT) (c:List Int):List (List Int) :=
 if chunkE d l c=0 then ptsL (homesL [] [] d l.sides l.over c).1 (homesL [] [] d l.sides l.over c).2 else []
theorem homesL_drop {lo hi:List Int} {d:List DimT} {s o c:List Int} {i:Nat} {x:DimT} {y z n:Int} (hx:d[i]? = some x) (hy:s[i]? = some y) (hz:o[i]? = some z) (hn:c[i]? = some n) :
  homesL lo hi (d.drop i) (s.drop i) (o.drop i) (c.drop i)=homesL (lo ++ [homeF ((n - x.lo) / y) (n - x.lo) y z]) (hi ++ [homeT ((x.last - x.lo) / y) ((n - x.lo) / y) (n - x.lo) y z]) (d.drop (i+1)) (s.drop (i+1)) (o.drop (i+1)) (c.drop (i+1)):=by
 rw [drop_cons hx,drop_cons hy,drop_cons hz,drop_cons hn,homesL]
def HomP (lo hi:List Int):Prop:=∀ (i:Nat) (a b:Int),lo[i]? = some a→hi[i]? = some b→a≤b∧b - a≤2 ∧ -1≤a∧b≤4294967296
theorem HomP.snoc {lo hi:List Int} {a b:Int} (h:HomP lo hi) (hl:lo.length=hi.length) (h1:a≤b) (h2:b - a≤2) (h3 : -1≤a) (h4:b≤4294967296):HomP (lo ++ [a]) (hi ++ [b]):=by
 intro i x y hx hy
 by_cases hlt:i<lo.length
 ·rw [List.getElem?_append_left hlt] at hx
  rw [List.getElem?_append_left (by omega)] at hy
  exact h i x y hx hy
 ·rw [List.getElem?_append_right (by omega)] at hx hy
  have h0:i - lo.length=0:=by
   have:=(List.getElem?_eq_some_iff.1 hx).1
   simp at this; omega
  rw [← hl,h0] at hy
  rw [h0] at hx
  simp only [List.getElem?_cons_zero,Option.some.injEq] at hx hy
  subst hx hy
  exact ⟨h1,h2,h3,h4⟩
theorem HomP.wide:∀ {lo hi:List Int},HomP lo hi→lo.length=hi.length→wideB lo hi∧ptsN lo hi≤3 ^ lo.length∧(∀ x ∈ lo,-9223372036854775808≤x)∧∀ x ∈ hi,x≤9223372036854775807
 | [],[],_,_ => ⟨trivial,by simp [ptsN],by simp,by simp⟩
 | a :: ls,b :: hs,h,hl => by
  have h1:=h 0 a b rfl rfl
  have h2:=HomP.wide (lo:=ls) (hi:=hs) (fun i x y hx hy => h (i+1) x y (by simpa using hx) (by simpa using hy)) (by simpa using hl)
  refine ⟨⟨h1.1,h2.1⟩,?_,?_,?_⟩
  ·simp only [ptsN,List.length_cons]
   have h3:(b - a+1).toNat≤3:=by omega
   calc (b - a+1).toNat * ptsN ls hs≤3 * 3 ^ ls.length:=Nat.mul_le_mul h3 h2.2.1
    _=3 ^ (ls.length+1):=by rw [Nat.pow_succ,Nat.mul_comm]
  ·intro x hx
   rcases List.mem_cons.1 hx with rfl | hx
   ·omega
   ·exact h2.2.2.1 x hx
  ·intro x hx
   rcases List.mem_cons.1 hx with rfl | hx
   ·omega
   ·exact h2.2.2.2 x hx
 | [],_ :: _,_,hl => by simp at hl
 | _ :: _,[],_,hl => by simp at hl
theorem homeF_range {n off s o:Int} (h0:0≤n):n - 1≤homeF n off s o∧homeF n off s o≤n ∧ -1≤homeF n off s o:=by
 unfold homeF; split <;> omega
theorem homeT_range {q n off s o:Int}:n≤homeT q n off s o∧homeT q n off s o≤n+1:=by
 unfold homeT; split <;> omega
theorem does_append2 {R:Value→World→Prop} {o:Oper} {a:Act} {w w':World} {s x:Operand} {T:TypeId} {v u r:Value} (ho:o.op=.call { callee:=.builtin .append,args:=#[s,x],argTypes:=#[T,T] })
  (hs:(a.eval s)=v) (hx:(a.eval x)=u) (hrun:(Builtin.append_ #[T,T] o.type #[v,u]).run Tryz.prog w=.ok r w') (h:R r w'):Does Tryz.prog R ((execOp a.eval o).run Tryz.prog w):=by
 unfold execOp
 simp only [ho,resolve,invoke,builtin,Sem.run_bind,Sem.run_pure,Result.andThen_ok,List.map_toArray,List.map_cons,List.map_nil,hs,hx,hrun]
 exact h
structure BoxA (n₀ g:Nat) (w:World) (v1 v2 u1 u2:Value) (lo hi:List Int):Prop where
 res:ResB w g v1 v2
 own1:w.ownsRow n₀ 3 1 u1 lo.length (lo.map (Value.int .i64))
 own2:w.ownsRow n₀ 3 1 u2 hi.length (hi.map (Value.int .i64))
 apart:∀ b,u1.ownBlock=some b→u2.ownBlock ≠ some b
 tag:TagB w g 44
theorem BoxA.of {n₀ g:Nat} {w:World} {v1 v2:Value} {lo hi:List Int} (h:BoxO n₀ g w v1 v2 lo hi):BoxA n₀ g w v1 v2 v1 v2 lo hi:=⟨h.res,h.own1,h.own2,h.apart,h.tag⟩
theorem BoxA.to {n₀ g:Nat} {w:World} {v1 v2:Value} {lo hi:List Int} (h:BoxA n₀ g w v1 v2 v1 v2 lo hi):BoxO n₀ g w v1 v2 lo hi:=⟨h.res,h.own1,h.own2,h.apart,h.tag⟩
theorem BoxA.later {n₀ g:Nat} {w w':World} {v1 v2 u1 u2:Value} {lo hi:List Int} (h:BoxA n₀ g w v1 v2 u1 u2 lo hi) (hb:Below w.heap.size w w'):BoxA n₀ g w' v1 v2 u1 u2 lo hi :=
 ⟨h.res.later hb h.tag.lt,h.own1.kept (row:=none) (grown_of_below hb none) (by cases u1.ownBlock <;> simp),h.own2.kept (row:=none) (grown_of_below hb none) (by cases u2.ownBlock <;> simp),h.apart,h.tag.kept (hb.block g h.tag.lt)⟩
theorem BoxA.app1 {n₀ g g1 cap:Nat} {w w1:World} {v1 v2 u1 u2:Value} {lo hi:List Int} {x:Int} (h:BoxA n₀ g w v1 v2 u1 u2 lo hi) (hT : 3 ≠ 44)
  (hn:w1.ownsRow n₀ 3 1 (.slice (some ⟨g1,0,none⟩) (lo.length+1) cap) (lo.length+1) (lo.map (Value.int .i64) ++ [.int .i64 x])) (hg:w.grownBy w1 u1.ownBlock) (hat:u1.ownBlock=some g1 ∨ g1=w.heap.size) :
  BoxA n₀ g w1 v1 v2 (.slice (some ⟨g1,0,none⟩) (lo.length+1) cap) u2 (lo ++ [x]) hi:=by
 have hne:∀ b,u1.ownBlock=some b→b ≠ g:=ownsRow_ne h.own1 h.tag hT
 have hbl:w1.heap[g]? = w.heap[g]?:=hg.block g h.tag.lt (fun e => hne g e.symm rfl)
 refine ⟨⟨(World.cell?_of_block (a:=⟨g,0,none⟩) hbl).trans h.res.c0,(World.cell?_of_block (a:=⟨g,1,none⟩) hbl).trans h.res.c1,(World.frozen?_of_block (a:=⟨g,0,none⟩) hbl).trans h.res.f0,(World.frozen?_of_block (a:=⟨g,1,none⟩) hbl).trans h.res.f1⟩,?_,?_,?_,h.tag.kept hbl⟩
 ·rw [List.length_append,List.map_append]; exact hn
 ·exact h.own2.kept hg (by
   cases hv:u2.ownBlock with
   | none => exact .inl rfl
   | some b => exact .inr fun e => h.apart b e.symm hv)
 ·intro b hb hb2
  obtain rfl:g1=b:=by simpa [Value.ownBlock] using hb
  rcases hat with e2 | e2
  ·exact h.apart g1 e2 hb2
  ·have:=(h.own2.lt g1 hb2).2
   omega
theorem BoxA.app2 {n₀ g g1 cap:Nat} {w w1:World} {v1 v2 u1 u2:Value} {lo hi:List Int} {x:Int} (h:BoxA n₀ g w v1 v2 u1 u2 lo hi) (hT : 3 ≠ 44)
  (hn:w1.ownsRow n₀ 3 1 (.slice (some ⟨g1,0,none⟩) (hi.length+1) cap) (hi.length+1) (hi.map (Value.int .i64) ++ [.int .i64 x])) (hg:w.grownBy w1 u2.ownBlock) (hat:u2.ownBlock=some g1 ∨ g1=w.heap.size) :
  BoxA n₀ g w1 v1 v2 u1 (.slice (some ⟨g1,0,none⟩) (hi.length+1) cap) lo (hi ++ [x]):=by
 have hne:∀ b,u2.ownBlock=some b→b ≠ g:=ownsRow_ne h.own2 h.tag hT
 have hbl:w1.heap[g]? = w.heap[g]?:=hg.block g h.tag.lt (fun e => hne g e.symm rfl)
 refine ⟨⟨(World.cell?_of_block (a:=⟨g,0,none⟩) hbl).trans h.res.c0,(World.cell?_of_block (a:=⟨g,1,none⟩) hbl).trans h.res.c1,(World.frozen?_of_block (a:=⟨g,0,none⟩) hbl).trans h.res.f0,(World.frozen?_of_block (a:=⟨g,1,none⟩) hbl).trans h.res.f1⟩,?_,?_,?_,h.tag.kept hbl⟩
 ·exact h.own1.kept hg (by
   cases hv:u1.ownBlock with
   | none => exact .inl rfl
   | some b => exact .inr fun e => h.apart b hv e.symm)
 ·rw [List.length_append,List.map_append]; exact hn
 ·intro b hb hb2
  obtain rfl:g1=b:=by simpa [Value.ownBlock] using hb2
  rcases hat with e2 | e2
  ·exact h.apart g1 hb e2
  ·have:=(h.own1.lt g1 hb).2
   omega
theorem BoxA.st1 {n₀ g:Nat} {w:World} {v1 v2 u1 u2:Value} {lo hi:List Int} (h:BoxA n₀ g w v1 v2 u1 u2 lo hi) (hT : 3 ≠ 44):BoxA n₀ g (w.setCell ⟨g,0,none⟩ u1) u1 v2 u1 u2 lo hi:=by
 refine ⟨⟨World.cell?_setCell_same _ _ _ h.res.c0,?_,by rw [World.frozen?_setCell]; exact h.res.f0,by rw [World.frozen?_setCell]; exact h.res.f1⟩,?_,?_,h.apart,h.tag.setCell _ _⟩
 ·rw [World.cell?_setCell_other _ _ _ _ (fun e => by injection e with _ e; cases e)]
  exact h.res.c1
 ·exact h.own1.kept (grown_setG w g 0 _) (by
   cases hv:u1.ownBlock with
   | none => exact .inl rfl
   | some b => exact .inr fun e => (ownsRow_ne h.own1 h.tag hT b hv) (by injection e))
 ·exact h.own2.kept (grown_setG w g 0 _) (by
   cases hv:u2.ownBlock with
   | none => exact .inl rfl
   | some b => exact .inr fun e => (ownsRow_ne h.own2 h.tag hT b hv) (by injection e))
theorem BoxA.st2 {n₀ g:Nat} {w:World} {v1 v2 u1 u2:Value} {lo hi:List Int} (h:BoxA n₀ g w v1 v2 u1 u2 lo hi) (hT : 3 ≠ 44):BoxA n₀ g (w.setCell ⟨g,1,none⟩ u2) v1 u2 u1 u2 lo hi:=by
 refine ⟨⟨?_,World.cell?_setCell_same _ _ _ h.res.c1,by rw [World.frozen?_setCell]; exact h.res.f0,by rw [World.frozen?_setCell]; exact h.res.f1⟩,?_,?_,h.apart,h.tag.setCell _ _⟩
 ·rw [World.cell?_setCell_other _ _ _ _ (fun e => by injection e with _ e; cases e)]
  exact h.res.c0
 ·exact h.own1.kept (grown_setG w g 1 _) (by
   cases hv:u1.ownBlock with
   | none => exact .inl rfl
   | some b => exact .inr fun e => (ownsRow_ne h.own1 h.tag hT b hv) (by injection e))
 ·exact h.own2.kept (grown_setG w g 1 _) (by
   cases hv:u2.ownBlock with
   | none => exact .inl rfl
   | some b => exact .inr fun e => (ownsRow_ne h.own2 h.tag hT b hv) (by injection e))
structure HmJ (n₀ g:Nat) (W0:World) (v1 v2:Value) (lo hi:List Int) (x y:Int) (dn:Nat→Bool) (vals:Nat→Value) (w:World):Prop where
 below:Below n₀ W0 w
 res:dn 11=false→dn 13=false→ResB w g v1 v2
 s0:dn 4=false→BoxA n₀ g w v1 v2 v1 v2 lo hi
 s1:dn 4=true→dn 9=false→BoxA n₀ g w v1 v2 (vals 4) v2 (lo ++ [x]) hi
 s2:dn 9=true→dn 11=false→BoxA n₀ g w v1 v2 (vals 4) (vals 9) (lo ++ [x]) (hi ++ [y])
 s3:dn 11=true→dn 13=false→BoxA n₀ g w (vals 4) v2 (vals 4) (vals 9) (lo ++ [x]) (hi ++ [y])
 s4:dn 13=true→BoxA n₀ g w (vals 4) (vals 9) (vals 4) (vals 9) (lo ++ [x]) (hi ++ [y])
 f0:dn 0=true→vals 0=.pointer (some ⟨g,0,none⟩)
 f1:dn 1=true→vals 1=v1
 f2:dn 2=true→vals 2=.int .i64 x
 f3:dn 3=true→dn 4=false→∃ b,vals 3=.slice (some ⟨b,0,none⟩) 1 1∧w.cell? ⟨b,0,none⟩=some (.int .i64 x)
 f4:dn 4=true→∃ b cap,vals 4=.slice (some ⟨b,0,none⟩) (lo.length+1) cap
 f5:dn 5=true→vals 5=.pointer (some ⟨g,1,none⟩)
 f6:dn 6=true→vals 6=v2
 f7:dn 7=true→vals 7=.int .i64 y
 f8:dn 8=true→dn 9=false→∃ b,vals 8=.slice (some ⟨b,0,none⟩) 1 1∧w.cell? ⟨b,0,none⟩=some (.int .i64 y)∧v1.ownBlock ≠ some b
 f9:dn 9=true→∃ b cap,vals 9=.slice (some ⟨b,0,none⟩) (hi.length+1) cap
 f10:dn 10=true→vals 10=.pointer (some ⟨g,0,none⟩)
 f12:dn 12=true→vals 12=.pointer (some ⟨g,1,none⟩)
def RetPts (q:List (List Int)) (r:Int) (w:World) (e:Ending) (w':World):Prop:=∃ v,e=.returned (.tuple #[v,.int .i64 r])∧RowsO w.heap.size w' v q∧Below w.heap.size w w'
end Go.Proofs.YtdbnebhehiiakaaGreatDoor
