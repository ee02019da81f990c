/- Lemmas and contracts, each under its own condition: RegInv's law inside the body of a range over an iterator (a fence with a round). space.At: the contract. -/
import Derived.OrdersIn
import Derived.RangeFuncCalls
import Derived.Test.YtdbnebhehiiakaaGreatDoorS13
import Derived.Test.YtdbnebhehiiakaaGreatDoorS25
namespace Go.Proofs.YtdbnebhehiiakaaGreatDoor
open Go
section
variable {P:Program} {ops:Array Oper} {Q:Exit→Act→World→Prop} {md:Region.Mode} {F:Fence} {n l:Nat}
theorem wpAnyIn_inv (hdep:depsBack md ops=true) (I:Array Bool→Act→World→Prop)
  (hstep:∀ listed a w i o,ops[i]? = some o→listed.getD i true=false→(∀ e ∈ o.after,Region.binds md e=true→listed.getD e.on false=true)→I listed a w→wpOpIn F n P ops Q i (I (listed.setIfInBounds i true)) a w)
  (hdone:∀ listed a w,(∀ i,i<ops.size→listed.getD i true=true)→I listed a w→Q .normal a w) :
  ∀ fuel listed a w,openN listed ops.size≤fuel→I listed a w→wpAnyIn F n P md ops Q fuel listed a w:=by
 intro fuel
 induction fuel with
 | zero =>
  intro listed a w hf hI
  have hall:=openN_zero ops.size (by omega:openN listed ops.size=0)
  refine ⟨?_,hdone listed a w hall hI⟩
  rw [List.eq_nil_iff_forall_not_mem]
  intro j hj
  rw [mem_ready] at hj
  obtain ⟨h0,o,ho,-⟩:=hj
  rw [hall j (Array.getElem?_eq_some_iff.1 ho).1] at h0; cases h0
 | succ fuel ih =>
  intro listed a w hf hI
  refine ⟨fun hr => hdone listed a w (fun i hi => all_listed hdep hr (i+1) i (by omega) hi) hI,fun i hi => ?_⟩
  rw [mem_ready] at hi
  obtain ⟨h0,o,ho,hd⟩:=hi
  refine wpOpIn_mono (fun a' w' hI' => ih _ _ _ ?_ hI') (hstep listed a w i o ho h0 hd hI)
  have:=openN_set h0 ops.size (Array.getElem?_eq_some_iff.1 ho).1
  omega
theorem Does.wpIn {o:Oper} {a:Act} {w:World} {R:Value→World→Prop} {K:Act→World→Prop} (hs:∀ c,o.op ≠ .defer c) (h:Does P R ((execOp a.eval o).run P w)) (hk:∀ v w',R v w'→K (a.put o.dst v) w'):o.wpIn (Fence.wide.inRound l) n P a w K Q:=by
 unfold Oper.wpIn
 refine ⟨fun _ _ => trivial,?_⟩
 rw [Oper.semAt_eq _ _ _ hs]
 revert h
 generalize (execOp a.eval o).run P w=r
 intro h
 cases r with
 | ok n' w' =>
  cases n' with
  | value v => exact hk _ _ h
  | skip => exact hk _ _ h
  | enter f args =>
   rw [Oper.uponIn_enter]
   refine ⟨fun hd => by simp [Fence.inRound,Fence.wide] at hd,CallsIn.inRound l ((callsIn_wide.2 h).mono fun e w'' he => ?_)⟩
   obtain ⟨v,rfl,hr⟩:=he
   exact hk _ _ hr
  | _ => exact h.elim
 | halt x w' => exact h.elim
def noDefer (ops:Array Oper):Bool:=ops.all fun o => match o.op with | .defer _ => false | _ => true
theorem noDefer_spec (h:noDefer ops=true) {i:Nat} {o:Oper} (ho:ops[i]? = some o):∀ c,o.op ≠ .defer c:=by
 intro c e
 unfold noDefer at h
 rw [Array.all_eq_true_iff_forall_mem] at h
 have:=h o (Array.mem_of_getElem? ho)
 rw [e] at this
 cases this
theorem wpIn_region_yields {id:Nat} {a0:Act} {w0:World} (hm:P.follows .mixedOrders=true) (hdep:depsBack .any ops=true) (hap:dstsApart ops=true) (hdf:noDefer ops=true)
  (hsz:∀ i d,dstOf ops i=some d→d<a0.tmps.size)
  (G:Nat→Value→World→Prop) (B:World→Prop) (Stp:World→World→Prop) (mono:∀ i v w w',Stp w w'→G i v w→G i v w') (hB:B { w0 with drawn:=w0.drawn+1 })
  (hob:∀ i o,ops[i]? = some o→Owes P ops G B Stp a0 i o)
  (hdone:∀ vals w,B w→(∀ i,i<ops.size→G i (vals i) w)→Q .normal (putAll ops vals (fun _ => true) ops.size a0) w) :
  (Code.region id ops true).wpIn (Fence.wide.inRound l) n P Q a0 w0:=by
 refine wpIn_region_any hm ?_
 refine wpAnyIn_inv hdep (fun listed a w => listed.size=ops.size∧B w∧∃ vals,a=putAll ops vals (fun k => listed.getD k true) ops.size a0∧∀ i,i<ops.size→listed.getD i true=true→G i (vals i) w) ?_ ?_ _ _ _ _ ?_ ?_
 ·rintro listed a w i o ho h0 hd ⟨hs,hBw,vals,rfl,hG⟩
  have hi:i<ops.size:=(Array.getElem?_eq_some_iff.1 ho).1
  have hlt:∀ j,listed.getD j false=true→j<ops.size:=fun j hj => by
   apply Classical.byContradiction
   intro h9
   simp [Array.getElem?_eq_none (by omega:listed.size≤j)] at hj
  have hft:∀ j,listed.getD j false=true→listed.getD j true=true:=fun j hj => by
   have:=hlt j hj
   cases h6:listed[j]? with
   | none => simp [h6] at hj
   | some b => simp [h6] at hj ⊢; exact hj
  have ob:=hob i o ho (putAll ops vals (fun k => listed.getD k true) ops.size a0) vals w hBw (fun t ht => putAll_other ht _) (fun e he hb =>
   ⟨fun d hd' => putAll_dst hap hd' (hft _ (hd e he hb)) (hsz _ _ hd') _ (hlt _ (hd e he hb)),hG _ (hlt _ (hd e he hb)) (hft _ (hd e he hb))⟩)
  have next:∀ v w',G i v w'→(∀ j,j<ops.size→listed.getD j true=true→G j (vals j) w')→B w' →
    (listed.setIfInBounds i true).size=ops.size∧B w'∧∃ vals',(putAll ops vals (fun k => listed.getD k true) ops.size a0).put o.dst v=putAll ops vals' (fun k => (listed.setIfInBounds i true).getD k true) ops.size a0 ∧
     ∀ j,j<ops.size→(listed.setIfInBounds i true).getD j true=true→G j (vals' j) w':=by
   intro v w' hv hold hB'
   refine ⟨by simpa using hs,hB',fun k => if k=i then v else vals k,?_,fun j hj hl => ?_⟩
   ·have hset:(listed.setIfInBounds i true).getD i true=true:=by simp [hs,hi]
    have:=putAll_set hap (vals:=vals) (vals':=fun k => if k=i then v else vals k) (L:=fun k => listed.getD k true) (L':=fun k => (listed.setIfInBounds i true).getD k true) (a:=a0) (i:=i) h0 hset
     (fun k hk => getD_set_ne true (Ne.symm hk)) (fun k hk => by simp [hk]) ops.size hi
    rw [this,dstOf_some ho]; simp
   ·by_cases e:j=i
    ·subst e; simpa using hv
    ·simp only [if_neg e]
     exact hold j hj (by rwa [getD_set_ne true (Ne.symm e)] at hl)
  unfold wpOpIn
  rw [ho]
  simp only
  split
  ·rename_i hw
   rw [if_pos hw] at ob
   refine Does.wpIn (noDefer_spec hdf ho) ob fun v w' hv => next v w' hv.1 (fun j hj hl => mono _ _ _ _ hv.2.1 (hG j hj hl)) hv.2.2
  ·rename_i hw
   rw [if_neg hw] at ob
   exact ⟨fun _ _ => trivial,next undef w ob hG hBw⟩
 ·rintro listed a w hall ⟨hs,hBw,vals,rfl,hG⟩
  have:=hdone vals w hBw fun i hi => hG i hi (hall i hi)
  rwa [putAll_congr (vals':=vals) (L':=fun k => listed.getD k true) ops.size (fun k hk => (hall k hk).symm) (fun _ _ _ => rfl)] at this
 ·have:∀ n,openN (Array.replicate ops.size false) n≤n:=by
   intro n
   induction n with
   | zero => exact Nat.le_refl _
   | succ n ih => rw [openN]; split <;> omega
  exact this _
 ·refine ⟨by simp,hB,fun _ => undef,?_,fun i hi hl => ?_⟩
  ·have:∀ n,n≤ops.size→putAll ops (fun _ => undef) (fun k => (Array.replicate ops.size false).getD k true) n a0=a0:=by
    intro n hn
    induction n with
    | zero => rfl
    | succ n ih =>
     rw [putAll,if_neg (by simp [show n<ops.size from hn]),ih (by omega)]
   exact (this _ (Nat.le_refl _)).symm
  ·simp [hi] at hl
theorem wpIn_region_list {id:Nat} {a0:Act} {w0:World} (L:List Yd) (ds:List (Option Tmp)) (B:World→Prop) (Stp:World→World→Prop) (hm:P.follows .mixedOrders=true) (hdep:depsBack .any ops=true) (hap:dstsApart ops=true) (hdf:noDefer ops=true) (hsz:slotsIn ops a0.tmps.size=true) (hds:(List.range ops.size).map (dstOf ops)=ds)
  (mono:∀ y,y ∈ L→∀ v w w',Stp w w'→y.ok v w→y.ok v w') (hB:B { w0 with drawn:=w0.drawn+1 })
  (hob:∀ i o,ops[i]? = some o→OwesL P ops L B Stp a0 i o)
  (hdone:∀ vals w,B w→(∀ i,i<ops.size→(L.getD i .any).ok (vals i) w)→Q .normal (putDs vals ds 0 a0) w) :
  (Code.region id ops true).wpIn (Fence.wide.inRound l) n P Q a0 w0:=by
 refine wpIn_region_yields hm hdep hap hdf (slotsIn_spec hsz) (fun i => (L.getD i .any).ok) B Stp (fun i v w w' hs hv => ?_) hB (fun i o ho a vals w hw hev haf => ?_) (fun vals w hw hv => by rw [putAll_ds,hds]; exact hdone vals w hw hv)
 ·by_cases hi:i<L.length
  ·have hg:L.getD i .any=L[i]:=by rw [List.getD_eq_getElem?_getD,List.getElem?_eq_getElem hi]; rfl
   simp only [hg] at hv ⊢
   exact mono _ (List.getElem_mem hi) _ _ _ hs hv
  ·have hg:L.getD i .any=.any:=by rw [List.getD_eq_getElem?_getD,List.getElem?_eq_none (by omega)]; rfl
   simp only [hg]; trivial
 ·exact hob i o ho a w hw (fun t ht => by rw [← eval_tmp,← eval_tmp]; exact hev t (freeSlot_spec ht)) (fun k e he hb d hd => by
   obtain ⟨h1,h2⟩:=haf e (Array.mem_of_getElem? he) hb
   rw [← eval_tmp,h1 d hd]; exact h2)
end
end Go.Proofs.YtdbnebhehiiakaaGreatDoor
namespace Go.Proofs.YtdbnebhehiiakaaGreatDoor
open Go.RowKit Go.Shelf
attribute [local go_sem] Oper.semAt_some
theorem set_same {l:List Int} {i:Nat} {x:Int} (h:l[i]? = some x):l.set i x=l:=by
 obtain ⟨h1,h2⟩:=List.getElem?_eq_some_iff.1 h
 rw [← h2]; exact List.set_getElem_self h1
theorem at_bad (d:List DimT) (k:Int) (v:Value) (w:World) (hd:Dims w v d) (hs:StrD d) (h:volE d ≠ 0) :
  Calls Tryz.prog 16 #[v,.int .i64 k] w (RetIs [] (volE d) w):=by
 have C:=Lib.hid (fun w1 (hb:Below w.heap.size w w1) => volume_any d v w1 (hd.later DimR.lasts hb) hs)
 obtain ⟨a,cap,rfl,c1,c2⟩:=hd.shape
 have hne:(volE d != 0)=true:=by rw [bne_iff_ne]; exact h
 generalize volE d=r at *
 generalize volQ d=q at *
 clear hd hs h
 go_enter Tryz.func16,Tryz.ntmps16
 go_wp2_with fail
 refine (C.out _ (below_alloc _ _)).mono ?_
 rintro e w1 ⟨rfl,hb⟩
 have HB:=Lib.hid (below_keep (below_alloc _ _) hb)
 clear hb C
 go_wp2
 go_ret2
 exact ⟨_,rfl,IntsO.nil _,HB.out⟩
theorem at_range (d:List DimT) (k:Int) (v:Value) (w:World) (hd:Dims w v d) (hs:StrD d) (h:volE d=0) (h2:k<0 ∨ volQ d≤k) :
  Calls Tryz.prog 16 #[v,.int .i64 k] w (RetIs [] 3 w):=by
 have C:=Lib.hid (fun w1 (hb:Below w.heap.size w w1) => volume_any d v w1 (hd.later DimR.lasts hb) hs)
 rw [h] at C
 obtain ⟨a,cap,rfl,c1,c2⟩:=hd.shape
 generalize volQ d=V at *
 have hcs:decide (k<0)=true ∨ decide (k<0)=false∧decide (V≤k)=true:=by
  by_cases hk:k<0
  ·exact .inl (decide_eq_true hk)
  ·exact .inr ⟨decide_eq_false hk,decide_eq_true (by omega)⟩
 clear hd hs h h2
 rcases hcs with t1 | ⟨t1,t2⟩
 all_goals
  go_enter Tryz.func16,Tryz.ntmps16
  go_wp2_with fail
  refine (C.out _ (below_alloc _ _)).mono ?_
  rintro e w1 ⟨rfl,hb⟩
  have HB:=Lib.hid (below_keep (below_alloc _ _) hb)
  have hc0:w1.cell? ⟨w.heap.size,0,none⟩=some (.int .i64 k):=by
   rw [hb.cell (p:=⟨w.heap.size,0,none⟩) (by simp),World.cell?_alloc_at _ _ _ _ rfl]; rfl
  clear hb C
  go_wp2
  go_ret2
  exact ⟨_,rfl,IntsO.nil _,HB.out⟩
set_option maxHeartbeats 8000000 in
set_option maxRecDepth 100000 in
theorem at_core (d:List DimT) (k:Int) (v:Value) (w:World) (hd:Dims w v d) (hs:StrD d) (h:volE d=0) (h1:0≤k) (h2:k<volQ d) :
  Calls Tryz.prog 16 #[v,.int .i64 k] w (RetIs (atL k d).1 0 w):=by
 have C:=Lib.hid (fun w1 (hb:Below w.heap.size w w1) => volume_any d v w1 (hd.later DimR.lasts hb) hs)
 rw [h] at C
 have HG:=Lib.hid (vol_range h).2.2.2
 have HV:=Lib.hid (vol_range h).2.1
 have HD:=Lib.hid hd
 have HZ:=Lib.hid h
 have hd4:=(dims_good (volE_zero h).1).2.1
 have HK:=Lib.hid (And.intro h1 h2)
 obtain ⟨R,hR⟩:∃ R:Ending→World→Prop,R=RetIs (atL k d).1 0 w:=⟨_,rfl⟩
 rw [← hR]
 have HR:=Lib.hid hR
 obtain ⟨a,cap,rfl,c1,c2⟩:=hd.shape
 obtain ⟨V,hV⟩:∃ V,V=volQ d:=⟨_,rfl⟩
 rw [← hV] at C HK HV h2
 have t1:decide (k<0)=false:=decide_eq_false (by omega)
 have t2:decide (V≤k)=false:=decide_eq_false (by omega)
 have hmk:=run_makeZ Tryz.underlying36 (d.length:Int) d.length rfl (by omega)
 clear hd hs h h1 h2 hR hV
 refine (callsIn_wide (n:=5)).1 ?_
 refine callsIn_of_wp_marks Tryz.func16 rfl trivial ?_ rfl
 refine wpIn_wide.2 ?_
 simp only [Tryz.ntmps16,List.size_toArray,List.length_cons,List.length_nil,Nat.reduceAdd,Nat.reduceSub,Array.replicate_succ,Array.replicate_zero,List.push_toArray,List.append_toArray,List.nil_append,List.cons_append]
 go_wp2_with fail
 refine (C.out _ (below_alloc _ _)).mono ?_
 rintro e w1 ⟨rfl,hb⟩
 have HB:=Lib.hid (below_keep (below_alloc w (.cells #[.int .i64 k] 3)) hb)
 have hc0:w1.cell? ⟨w.heap.size,0,none⟩=some (.int .i64 k):=by
  rw [hb.cell (p:=⟨w.heap.size,0,none⟩) (by simp),World.cell?_alloc_at _ _ _ _ rfl]; rfl
 have hf0:w1.frozen? ⟨w.heap.size,0,none⟩=false:=(hb.frozen (p:=⟨w.heap.size,0,none⟩) (by simp)).trans (World.frozen?_alloc_at _ _ _ _ rfl)
 have HC0:=Lib.hid (And.intro hc0 hf0)
 have hlt0:w.heap.size<w1.heap.size:=World.block_lt_of_cell? _ _ hc0
 have HLT0:=Lib.hid hlt0
 clear hb C hf0 hlt0
 go_wp2_with fail
 refine (backward_any a d.length cap _).mono ?_
 rintro e w4 ⟨rfl,rfl⟩
 go_wp2_with fail
 obtain ⟨W5,hW5⟩:∃ W5,W5=((w1.alloc (.cells (madeCells #[.int .i64 0] d.length) 3)).alloc (.cells #[.slice (some ⟨w1.heap.size,0,none⟩) d.length d.length] 36)).alloc (.cells #[.slice a d.length cap] 22):=⟨_,rfl⟩
 have hsz5:W5.heap.size=w1.heap.size+3:=by rw [hW5]; simp
 have hb5:Below w1.heap.size w1 W5:=by rw [hW5]; exact ((below_alloc _ _).trans ((below_alloc _ _).mono (by simp))).trans ((below_alloc _ _).mono (by simp; omega))
 have hrow5:RowZ W5 w1.heap.size (List.replicate d.length 0):=by
  rw [hW5]
  exact ((RowZ.made w1 d.length).later (below_alloc _ _) (by simp)).later (below_alloc _ _) (by simp; omega)
 have hbx5:W5.cell? ⟨w1.heap.size+1,0,none⟩=some (.slice (some ⟨w1.heap.size,0,none⟩) d.length d.length):=by
  rw [hW5,(below_alloc _ _).cell (p:=⟨w1.heap.size+1,0,none⟩) (by simp),World.cell?_alloc_at _ _ _ _ (by simp)]; rfl
 have hbk5:W5.cell? ⟨w1.heap.size+2,0,none⟩=some (.slice a d.length cap):=by rw [hW5,World.cell?_alloc_at _ _ _ _ (by simp)]; rfl
 have hlt0:=HLT0.out
 have hne1:∀ b,b<w1.heap.size→W5.heap[b]? = w1.heap[b]?:=fun b hb => hb5.block b hb
 have hci:W5.cell? ⟨w.heap.size,0,none⟩=some (.int .i64 k):=(World.cell?_of_block (a:=⟨w.heap.size,0,none⟩) (hne1 _ hlt0)).trans HC0.out.1
 have hfi:W5.frozen? ⟨w.heap.size,0,none⟩=false:=(World.frozen?_of_block (a:=⟨w.heap.size,0,none⟩) (hne1 _ hlt0)).trans HC0.out.2
 have HB5:=Lib.hid (below_keep HB.out hb5)
 have hcd:∀ g o n k',Value.slice a d.length cap=.slice (some ⟨g,o,none⟩) n k'→¬ (g=w.heap.size ∨ g=w1.heap.size):=fun g o n k' e => by
  injection e with e
  by_cases h0:0<d.length
  ·obtain ⟨g',o',x,e',hx,hr⟩:=HD.out.at 0 h0
   have hlt:=World.block_lt_of_cell? _ _ hr.lo
   rw [e'] at e
   injection e with e
   injection e with e
   have:g'<w.heap.size:=hlt
   omega
  ·have:=(dims_good (volE_zero HZ.out).1).1
   omega
 have hsq:=backward1_any (fun b => b=w.heap.size ∨ b=w1.heap.size) d (.slice a d.length cap) W5 (w1.heap.size+2) hbk5 (HD.out.later DimR.lasts HB5.out) (by omega) (by omega) hcd
 have H0:Hid (AtI w.heap.size w1.heap.size d k W5 0 W5):=⟨by rw [Nat.sub_zero,List.drop_length,atL]; exact hci,hfi,by rw [rowA_zero]; exact hrow5,hbx5,belowP_of _ (Below.refl _ _)⟩
 have HS5:=Lib.hid hsz5
 have hb05:w.heap.size<W5.heap.size:=by omega
 have hR5:w1.heap.size+1<W5.heap.size:=by omega
 refine (wpIn_wide (n:=5)).1 ?_
 rw [show (((w1.alloc (.cells (madeCells #[.int .i64 0] d.length) 3)).alloc (.cells #[.slice (some ⟨w1.heap.size,0,none⟩) d.length d.length] 36)).alloc (.cells #[.slice a d.length cap] 22))=W5 from hW5.symm]
 clear hW5 hb5 hrow5 hbx5 hbk5 hne1 hci hfi hcd hmk t1 t2 hc0
 apply wpIn_rangeFunc_seqK2 (c:=fun b => b=w.heap.size ∨ b=w1.heap.size) (w0:=W5) 9 10 rfl (by decide) (gf:=97) (lb:=#[.pointer (some ⟨w1.heap.size+2,0,none⟩)]) rfl trivial (enters_of Tryz.func97 (by kernel_rfl) rfl) hsq (Below.refl _ _)
  (by rintro k vs ⟨x,-,rfl⟩; exact ⟨_,_,rfl⟩)
  (fun j W => AtI w.heap.size w1.heap.size d k W5 j W)
  (fun j A B row h hg hr => h.kept hb05 hR5 hg (fun r e => (hr r e).1))
  (fun W0 hb => H0.out.kept hb05 hR5 (grown_of_below' hb none) (fun r e => by cases e))
  (fun j v1 v2 p W => ∃ x,d[d.length - 1 - j]? = some x∧W5.heap.size≤p∧DimR W p 0 x∧v1=.int .i64 ((d.length - 1 - j:Nat):Int)∧v2=dimV x)
 case hS =>
  rintro j v1 v2 p A B row ⟨x,hx,hp,hr,e1,e2⟩ hg hrow
  refine ⟨x,hx,hp,DimR.local _ _ _ _ _ hr (hg.block p (World.block_lt_of_cell? _ _ hr.lo) fun e => ?_),e1,e2⟩
  obtain ⟨-,o,ho,hc⟩:=hrow p e.symm
  obtain ⟨o',ho',hc'⟩:=cells_of_cell hr.lo
  rw [ho] at ho'
  cases ho'
  rw [hc] at hc'
  cases hc'
 case hassign =>
  rintro l j v1 v2 W K ⟨x,hx,hv⟩ hi hK
  have e1:v1=.int .i64 ((d.length - 1 - j:Nat):Int):=by injection hv with hv; injection hv
  have e2:v2=dimV x:=by injection hv with hv; injection hv with _ hv; injection hv
  subst e1 e2
  have hsz:W5.heap.size≤W.heap.size:=hi.below.size
  obtain ⟨nm,lo,hi'⟩:=x
  have HK:=Lib.hid (hK W.heap.size (W.alloc (.cells #[strV nm,.int .i64 lo,.int .i64 hi'] 74)) (below_alloc _ _) ⟨⟨nm,lo,hi'⟩,hx,hsz,⟨by rw [World.cell?_alloc_at _ _ _ _ rfl]; rfl,by rw [World.cell?_alloc_at _ _ _ _ rfl]; rfl,by rw [World.cell?_alloc_at _ _ _ _ rfl]; rfl⟩,rfl,rfl⟩)
  clear hK hv hx hi hsq
  simp only [List.setIfInBounds_toArray,List.set_cons_succ,List.set_cons_zero] at HK ⊢
  gi_wp2
  exact HK.out
 case hbody =>
  rintro l j v1 v2 p W hi hj - ⟨x,hx,hp,hr,rfl,rfl⟩
  obtain ⟨q,hq⟩:∃ q,q=d.length - 1 - j:=⟨_,rfl⟩
  have hqj:q+1+j=d.length:=by omega
  rw [← hq] at hx ⊢
  have gx:=HG.out x (List.mem_of_getElem? hx)
  have CE:=Lib.hid (fun w1 => extent_any x gx w1)
  have ge:=gx.ext
  have g1:=gx.lo
  have g2:=gx.le
  have g3:=gx.hi
  have hrr:=atL_range (i:=k) (d:=d.drop (q+1)) (fun y hy => HG.out y (List.mem_of_mem_drop hy)) HK.out.1
  have hkv:=HK.out.2
  have hvm:=HV.out
  have hidx:=hi.idx
  rw [show d.length - j=q+1 from by omega] at hidx
  have hrc9:(rowA d k j)[q]? = some 0:=by
   unfold rowA
   rw [List.getElem?_append_left (by rw [List.length_replicate]; omega),List.getElem?_replicate,if_pos (by omega)]
  have hfz:=hi.fz
  have hbx:=hi.box
  have FIN:=fun Z (h:AtM w.heap.size w1.heap.size d k W5 W j Z) z (hb:Below Z.heap.size Z z) u hu => AtM.fin (u:=u) h hi HLT0.out hR5 hb hqj hx hu
  have hnew:=rowA_set (k:=k) hqj hx
  obtain ⟨E,hE⟩:∃ E,E=ext x:=⟨_,rfl⟩
  obtain ⟨r,hr9⟩:∃ r,r=(atL k (d.drop (q+1))).2:=⟨_,rfl⟩
  rw [← hE] at CE ge FIN hnew
  rw [← hr9] at hrr hidx FIN hnew
  obtain ⟨M,hM⟩:∃ M,M=r % E:=⟨_,rfl⟩
  obtain ⟨D,hD⟩:∃ D,D=r / E:=⟨_,rfl⟩
  rw [← hM] at hnew
  rw [← hD] at FIN
  have hM0:0≤M:=by rw [hM]; exact Int.emod_nonneg _ (by omega)
  have hM1:M<E:=by rw [hM]; exact Int.emod_lt_of_pos _ (by omega)
  have hD0:0≤D:=by rw [hD]; exact Int.ediv_nonneg (by omega) (by omega)
  have hD1:D≤r:=by rw [hD]; exact Int.ediv_le_self _ (by omega)
  have hmod:r.tmod E=M:=by rw [hM]; exact Int.tmod_eq_emod_of_nonneg (by omega)
  have hdiv:r.tdiv E=D:=by rw [hD]; exact Int.tdiv_eq_ediv_of_nonneg (by omega)
  obtain ⟨nm,lo,hi'⟩:=x
  simp only at g1 g2 g3 CE hnew
  have wM:IntKind.i64.wrap M=M:=IntWalk.i64_in _ (by omega)
  have wD:IntKind.i64.wrap D=D:=IntWalk.i64_in _ (by omega)
  have wA:IntKind.i64.wrap (lo+M)=lo+M:=IntWalk.i64_in _ (by omega)
  have hne:¬ E=0:=by omega
  have x0:W.cell? ⟨p,0,none⟩=some (strV nm):=hr.name
  have x1:W.cell? ⟨p,1,none⟩=some (.int .i64 lo):=hr.lo
  have x2:W.cell? ⟨p,2,none⟩=some (.int .i64 hi'):=hr.hi
  have hqi:(0:Int)≤(q:Int):=by omega
  have hql:(q:Int)<(d.length:Int):=by omega
  have hpn:p ≠ w1.heap.size:=by omega
  have hsW:w.heap.size<W.heap.size:=by have:=hi.below.size; omega
  have HNEW:=Lib.hid hnew
  have HPN:Hid (w1.heap.size<p):=by show _<_; omega
  have HQL:Hid (q<d.length):=by show _<_; omega
  have HSW:Hid (W5.heap.size≤W.heap.size):=hi.below.size
  have hrow9:∃ y,RowZ W w1.heap.size ((rowA d k j).set q y):=⟨0,by rw [set_same hrc9]; exact hi.row⟩
  have HX0:Hid (AtX w.heap.size w1.heap.size p d k r ⟨nm,lo,hi'⟩ W5 W j q W):=⟨hidx,hfz,hrow9,hbx,x0,x1,x2,belowP_of _ (Below.refl _ _),KeepsFrom.refl _ _⟩
  have FX:Hid (∀ Z,AtX w.heap.size w1.heap.size p d k r ⟨nm,lo,hi'⟩ W5 W j q Z→RowZ Z w1.heap.size (rowA d k (j+1))→∀ z2,Below Z.heap.size Z z2→AtX w.heap.size w1.heap.size p d k r ⟨nm,lo,hi'⟩ W5 W j q z2 ∧
     (KeepsFrom W5.heap.size W (z2.setCell ⟨w.heap.size,0,none⟩ (.int .i64 D))∧BelowP (fun b => b=w.heap.size ∨ b=w1.heap.size) W5.heap.size W (z2.setCell ⟨w.heap.size,0,none⟩ (.int .i64 D))∧AtI w.heap.size w1.heap.size d k W5 (j+1) (z2.setCell ⟨w.heap.size,0,none⟩ (.int .i64 D)))):=fun Z hX hR z2 hb => by
   refine ⟨hX.later HSW.out hb,FIN Z ⟨?_,hX.fz,hR,hX.box,hX.below,hX.keeps⟩ z2 hb _ rfl⟩
   rw [show d.length - j=q+1 from by omega,← hr9]
   exact hX.idx
  have hmx:Tryz.prog.follows .mixedOrders=true:=by kernel_rfl
  clear hi hx hr hE hr9 hM hD hM0 hM1 hD0 hD1 hrr hkv hvm gx ge g1 g2 g3 FIN hsq hq hqj hj hfz hnew hrow9 hrc9
  simp only [List.setIfInBounds_toArray,List.set_cons_succ,List.set_cons_zero]
  gi_wp2_with fail
  refine wpIn_region_list [.val (.slice (some ⟨w1.heap.size,0,none⟩) d.length d.length),.val (.int .i64 (q:Nat)),.val (.pointer (some ⟨p,1,none⟩)),.val (.int .i64 lo),.val (.int .i64 r),.val (.agg #[strV nm,.int .i64 lo,.int .i64 hi']),.val (.int .i64 E),.val (.int .i64 M),.val (.int .i64 (lo+M)),.val (.pointer (some ⟨w1.heap.size,q,none⟩)),.holds (fun _ w9 => RowZ w9 w1.heap.size (rowA d k (j+1)))]
   [some 33,some 34,some 35,some 36,some 37,some 38,some 39,some 40,some 41,some 42,none]
   (fun w9 => AtX w.heap.size w1.heap.size p d k r ⟨nm,lo,hi'⟩ W5 W j q w9) (fun a9 b9 => RowZ a9 w1.heap.size (rowA d k (j+1))→RowZ b9 w1.heap.size (rowA d k (j+1))) rfl (by kernel_rfl) (by kernel_rfl) (by kernel_rfl) (by kernel_rfl) (by kernel_rfl) ?_ ?_ ?_ ?_
  ·(intro y hy v w1 w2 hs hv; simp only [List.mem_cons,List.not_mem_nil,or_false] at hy; rcases hy with rfl | rfl | rfl | rfl | rfl | rfl | rfl | rfl | rfl | rfl | rfl; all_goals first | exact hv | exact hs hv)
  ·exact HX0.out.later HSW.out (Below.refl _ _).drew
  ·intro i9 op9 ho
   have hi:i9<11:=(Array.getElem?_eq_some_iff.1 ho).1
   match i9,hi with
   | 0,_ =>
    obtain rfl:=Option.some.inj ho
    intro a9 wx hBx hev haf
    rw [if_pos (wanted_none rfl)]
    have f8:(a9.tmps[8]?).getD undef=.pointer (some ⟨w1.heap.size+1,0,none⟩):=hev 8 (by kernel_rfl)
    clear haf hev
    have cbox:=hBx.box
    try simp only at cbox
    go_simp
    exact ⟨rfl,fun h => h,hBx⟩
   | 1,_ =>
    obtain rfl:=Option.some.inj ho
    intro a9 wx hBx hev haf
    rw [if_pos (wanted_none rfl)]
    have f9:(a9.tmps[9]?).getD undef=.int .i64 (q:Nat):=hev 9 (by kernel_rfl)
    clear haf hev
    go_simp
    exact ⟨rfl,fun h => h,hBx⟩
   | 2,_ =>
    obtain rfl:=Option.some.inj ho
    intro a9 wx hBx hev haf
    rw [if_pos (wanted_none rfl)]
    have f10:(a9.tmps[10]?).getD undef=.pointer (some ⟨p,0,none⟩):=hev 10 (by kernel_rfl)
    clear haf hev
    go_simp
    exact ⟨rfl,fun h => h,hBx⟩
   | 3,_ =>
    obtain rfl:=Option.some.inj ho
    intro a9 wx hBx hev haf
    rw [if_pos (wanted_none rfl)]
    have f35:(a9.tmps[35]?).getD undef=(.pointer (some ⟨p,1,none⟩)):=haf 0 _ rfl rfl 35 rfl
    clear haf hev
    have cx1:=hBx.x1
    try simp only at cx1
    go_simp
    exact ⟨rfl,fun h => h,hBx⟩
   | 4,_ =>
    obtain rfl:=Option.some.inj ho
    intro a9 wx hBx hev haf
    rw [if_pos (wanted_none rfl)]
    have f3:(a9.tmps[3]?).getD undef=.pointer (some ⟨w.heap.size,0,none⟩):=hev 3 (by kernel_rfl)
    clear haf hev
    have cidx:=hBx.idx
    try simp only at cidx
    go_simp
    exact ⟨rfl,fun h => h,hBx⟩
   | 5,_ =>
    obtain rfl:=Option.some.inj ho
    intro a9 wx hBx hev haf
    rw [if_pos (wanted_none rfl)]
    have f10:(a9.tmps[10]?).getD undef=.pointer (some ⟨p,0,none⟩):=hev 10 (by kernel_rfl)
    clear haf hev
    have cx0:=hBx.x0
    have cx1:=hBx.x1
    have cx2:=hBx.x2
    try simp only at cx0 cx1 cx2
    go_simp
    exact ⟨rfl,fun h => h,hBx⟩
   | 6,_ =>
    obtain rfl:=Option.some.inj ho
    intro a9 wx hBx hev haf
    rw [if_pos (wanted_none rfl)]
    have f38:(a9.tmps[38]?).getD undef=(.agg #[strV nm,.int .i64 lo,.int .i64 hi']):=haf 0 _ rfl rfl 38 rfl
    clear haf hev
    go_simp
    exact (CE.out _).mono fun e w9 ⟨he,hb⟩ => ⟨_,he,rfl,fun h => h.later hb h.lt,hBx.later HSW.out hb⟩
   | 7,_ =>
    obtain rfl:=Option.some.inj ho
    intro a9 wx hBx hev haf
    rw [if_pos (wanted_none rfl)]
    have f37:(a9.tmps[37]?).getD undef=(.int .i64 r):=haf 0 _ rfl rfl 37 rfl
    have f39:(a9.tmps[39]?).getD undef=(.int .i64 E):=haf 1 _ rfl rfl 39 rfl
    clear haf hev
    go_simp
    exact ⟨rfl,fun h => h,hBx⟩
   | 8,_ =>
    obtain rfl:=Option.some.inj ho
    intro a9 wx hBx hev haf
    rw [if_pos (wanted_none rfl)]
    have f36:(a9.tmps[36]?).getD undef=(.int .i64 lo):=haf 0 _ rfl rfl 36 rfl
    have f40:(a9.tmps[40]?).getD undef=(.int .i64 M):=haf 1 _ rfl rfl 40 rfl
    clear haf hev
    go_simp
    exact ⟨rfl,fun h => h,hBx⟩
   | 9,_ =>
    obtain rfl:=Option.some.inj ho
    intro a9 wx hBx hev haf
    rw [if_pos (wanted_none rfl)]
    have f33:(a9.tmps[33]?).getD undef=(.slice (some ⟨w1.heap.size,0,none⟩) d.length d.length):=haf 0 _ rfl rfl 33 rfl
    have f34:(a9.tmps[34]?).getD undef=(.int .i64 (q:Nat)):=haf 1 _ rfl rfl 34 rfl
    clear haf hev
    go_simp
    exact ⟨rfl,fun h => h,hBx⟩
   | 10,_ =>
    obtain rfl:=Option.some.inj ho
    intro a9 wx hBx hev haf
    rw [if_pos (wanted_none rfl)]
    have f42:(a9.tmps[42]?).getD undef=(.pointer (some ⟨w1.heap.size,q,none⟩)):=haf 0 _ rfl rfl 42 rfl
    have f41:(a9.tmps[41]?).getD undef=(.int .i64 (lo+M)):=haf 1 _ rfl rfl 41 rfl
    clear haf hev
    obtain ⟨y9,hy9⟩:=hBx.row
    have cc:=hy9.cell q y9 (by rw [List.getElem?_set_self (by rw [rowA_length]; exact HQL.out)])
    have cf:=hy9.free q
    have hst:=hBx.store HLT0.out HPN.out HQL.out (lo+M) (u:=.int .i64 (lo+M)) rfl
    rw [HNEW.out] at hst
    have HST:=Lib.hid hst
    clear hst hy9
    go_simp
    exact ⟨HST.out.2,fun _ => HST.out.2,HST.out.1⟩
  ·intro vals wx hBx hG
   have g0:vals 0=(.slice (some ⟨w1.heap.size,0,none⟩) d.length d.length):=hG 0 (by decide)
   have g1:vals 1=(.int .i64 (q:Nat)):=hG 1 (by decide)
   have g2:vals 2=(.pointer (some ⟨p,1,none⟩)):=hG 2 (by decide)
   have g3:vals 3=(.int .i64 lo):=hG 3 (by decide)
   have g4:vals 4=(.int .i64 r):=hG 4 (by decide)
   have g5:vals 5=(.agg #[strV nm,.int .i64 lo,.int .i64 hi']):=hG 5 (by decide)
   have g6:vals 6=(.int .i64 E):=hG 6 (by decide)
   have g7:vals 7=(.int .i64 M):=hG 7 (by decide)
   have g8:vals 8=(.int .i64 (lo+M)):=hG 8 (by decide)
   have g9:vals 9=(.pointer (some ⟨w1.heap.size,q,none⟩)):=hG 9 (by decide)
   have g10:=hG 10 (by decide)
   clear hG
   simp only [putDs,Act.put,Nat.zero_add,Nat.reduceAdd,List.setIfInBounds_toArray,List.set_cons_succ,List.set_cons_zero,g0,g1,g2,g3,g4,g5,g6,g7,g8,g9]
   clear g0 g1 g2 g3 g4 g5 g6 g7 g8 g9
   have HF:=Lib.hid (FX.out wx hBx g10)
   have i0:=hBx.idx
   have i1:=hBx.fz
   have y0:=hBx.x0
   have y1:=hBx.x1
   have y2:=hBx.x2
   simp only at y0 y1 y2
   clear hBx g10 x0 x1 x2 hidx hbx
   gi_wp2_with fail
   gi_region_with_o ((refine ⟨trivial,?_⟩; gi_at_call 55; refine (CallsIn.inRound l (callsIn_wide.2 (CE.out _))).mono ?_; rintro e z2 ⟨rfl,hb⟩; have HE:=Lib.hid (HF.out z2 (below_keep (Below.refl _ _).drew hb)); have j0:=HE.out.1.idx; have j1:=HE.out.1.fz; have j2:=HE.out.1.x0; have j3:=HE.out.1.x1; have j4:=HE.out.1.x2; clear hb))
   all_goals
    gi_wp2
    exact HE.out.2
 case hdone =>
  intro D W hD hi hK
  have hbx:=hi.box
  have hrow:=hi.row
  rw [rowA_end] at hrow
  have hil:=hrow.ints (atL_length k d) (Nat.le_refl _) (by omega)
  have HIL:=Lib.hid hil
  have HBP:=Lib.hid hi.below
  clear hi hrow hil hsq
  go_wp2
  refine ⟨by simp,.inl ⟨_,_,rfl,run_takeDeferred hK,?_⟩⟩
  refine ⟨_,(by simp [results,Tryz.results16,go_sem]; try rfl),?_⟩
  rw [HR.out]
  have hbw:Below w.heap.size w W:=by
   have h1:=HB5.out
   have h2:=HBP.out
   have h3:=h1.size
   exact ⟨h2.os.trans h1.os,h2.tape.trans h1.tape,h2.output.trans h1.output,Nat.le_trans h1.size h2.size,fun b hb => (h2.block b (by omega) (by omega)).trans (h1.block b hb)⟩
  refine ⟨_,rfl,?_,?_⟩
  ·refine HIL.out.kept fun b hb => World.putObj_heap_other fun e => ?_
   subst e
   have:=(HIL.out.tag _ hb).cellsB hK
   cases this
  ·exact hbw.trans (belowK_b (w:=w) (Nat.le_refl _) W D _ _ (by have:=HB5.out.size; omega) hK rfl rfl)
theorem at_any (d:List DimT) (k:Int) (v:Value) (w:World) (hd:Dims w v d) (hs:StrD d) :
  Calls Tryz.prog 16 #[v,.int .i64 k] w (RetIs (atQ d k) (atE d k) w):=by
 unfold atQ atE
 by_cases h:volE d=0
 ·rw [if_neg (show ¬ (volE d ≠ 0) from fun h' => h' h)]
  by_cases h2:k<0 ∨ volQ d≤k
  ·rw [if_pos h2,if_neg (by decide)]
   exact at_range d k v w hd hs h h2
  ·rw [if_neg h2,if_pos rfl]
   exact at_core d k v w hd hs h (by omega) (by omega)
 ·rw [if_pos h,if_neg h]
  exact at_bad d k v w hd hs h
end Go.Proofs.YtdbnebhehiiakaaGreatDoor
