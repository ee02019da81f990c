/- Lemmas and contracts, each under its own condition: space.axes.tiled: the contract; as a function that computes keys. space.Rank: where coordinates are in the box. The laws' cubes: (Cube).box. (printed by ranc.py) The law's inside: where coordinates are in the box. The keys of all orders as functions. SpaceRanks in plain words: a cube's box; the product of its extents; what is in it. -/
import Derived.IntWalk
import Derived.Deep.AppendLies
import Derived.Lib.SliceRun
import Derived.Lib.AppendZeros
import Derived.BigQuiet
import Derived.RangeFuncCalls
import Derived.Deep.DeepCutAuto
import Derived.Deep.CutBlock
import Derived.Test.YtkliekoheeeamaaGreatDoorHomB
import Derived.Test.YtkliekoheeeamaaGreatDoorS10
import Derived.Test.YtkliekoheeeamaaGreatDoorS12
import Derived.Test.YtkliekoheeeamaaGreatDoorS21
import Derived.Test.YtkliekoheeeamaaGreatDoorS26
import Derived.Test.YtkliekoheeeamaaGreatDoorS28
import Derived.Test.YtkliekoheeeamaaGreatDoorS30
import Derived.Test.YtkliekoheeeamaaGreatDoorS40
import Derived.Test.YtkliekoheeeamaaGreatDoorS46
import Derived.Test.YtkliekoheeeamaaGreatDoorS48
import Derived.Test.YtkliekoheeeamaaGreatDoorS9
/- space.axes.tiled: the contract; as a function that computes keys. -/
namespace Go.Proofs.YtkliekoheeeamaaGreatDoor
open Go.RowKit

theorem run_makeC {t : TypeId} (ht : Tryz.prog.underlying t = some (.slice 3)) (n : Nat) (hn : n ≤ 1000000000000) (w : World) :
  (Instr.makeSlice t (.int .i64 0) (.int .i64 (n : Int))).run Tryz.prog w = .ok (.slice (some ⟨w.heap.size, 0, none⟩) 0 n) (w.alloc (.cells (madeCells #[.int .i64 0] n) 3)) := by
 obtain ⟨i0, hi, hz0, hz1, hz2⟩ := info_parts infoZ
 have h := run_make (P := Tryz.prog) w t 3 i0 (.int .i64 0) ht hi hz0 .i64 .i64 (0 : Int) (n : Int) (by omega) (by omega) (by rw [hz2]; omega) (by omega)
 simpa [hz1, Value.cells] using h
theorem owns_made0 (w : World) (base n : Nat) (hb : base ≤ w.heap.size) (hn : n ≤ 1000000) : (w.alloc (.cells (madeCells #[.int .i64 0] n) 3)).ownsRow base 3 1 (.slice (some ⟨w.heap.size, 0, none⟩) 0 n) 0 [] :=
 ⟨by simp, .inr ⟨w.heap.size, n, _, rfl, hb, World.alloc_heap_new w _, Nat.zero_le _, by unfold maxLen; omega, by simp [madeCells], by simp⟩⟩
def tilL (tl : Int) (y : List Int) : List Int := y.map (· / tl)
theorem tilL_snoc {tl : Int} {y : List Int} {i : Nat} {c : Int} (h : y[i]? = some c) : tilL tl (y.take (i + 1)) = tilL tl (y.take i) ++ [c / tl] := by
 unfold tilL; rw [take_snoc' h, List.map_append]; rfl
set_option maxHeartbeats 4000000 in
set_option maxRecDepth 100000 in
theorem tiled_any (b tl : Int) (y : List Int) (v : Value) (w : World) (hy : Ints w v y) (hn : y.length ≤ 1000) (h0 : 1 ≤ tl) (h1 : tl ≤ 64) (hc : ∀ c ∈ y, 0 ≤ c ∧ c ≤ 4095) :
  Calls Tryz.prog 80 #[.agg #[.int .i64 b, .int .i64 tl], v] w fun e w' => ∃ u, e = .returned u ∧ Ints w' u (y.map (· / tl) ++ y) ∧ Below w.heap.size w w' := by
 have HY := Lib.hid hy
 have HC := Lib.hid hc
 have hmk := run_makeC Tryz.underlying24 (2 * y.length) (by omega)
 have hm2 : IntKind.i64.wrap (2 * (y.length : Int)) = ((2 * y.length : Nat) : Int) := by
  rw [show 2 * (y.length : Int) = ((2 * y.length : Nat) : Int) from by omega]
  exact IntWalk.i64_in _ (by omega)
 obtain ⟨p1, k1, rfl, -⟩ := hy.shape
 obtain ⟨i0, hi0, hz0, hz1, hz2⟩ := info_parts infoZ
 obtain ⟨m, hmm⟩ : ∃ m, m = 2 * y.length := ⟨_, rfl⟩
 rw [← hmm] at hmk hm2
 have HBX := Lib.hid (below_alloc w (.cells #[.int .i64 b, .int .i64 tl] 133))
 have hx1 : (w.alloc (.cells #[.int .i64 b, .int .i64 tl] 133)).cell? ⟨w.heap.size, 1, none⟩ = some (.int .i64 tl) := by rw [World.cell?_alloc_at _ _ _ _ rfl]; rfl
 obtain ⟨W0, hW0⟩ : ∃ W0, W0 = w.alloc (.cells #[.int .i64 b, .int .i64 tl] 133) := ⟨_, rfl⟩
 rw [← hW0] at HBX hx1
 have HX1 := Lib.hid hx1
 have HOW := Lib.hid (owns_made0 W0 W0.heap.size m (Nat.le_refl _) (by omega))
 obtain ⟨W1, hW1⟩ : ∃ W1, W1 = W0.alloc (.cells (madeCells #[.int .i64 0] m) 3) := ⟨_, rfl⟩
 rw [← hW1] at HOW
 have HB1 : Hid (Below W0.heap.size W0 W1) := by show Below _ _ _; rw [hW1]; exact below_alloc _ _
 clear hy hc hx1 hmm
 go_enter Tryz.func80, Tryz.ntmps80
 go_upto_region 1 with (fail)
 rw [← hW0]
 clear hW0
 go_wp2
 rw [← hW1]
 clear hW1 hmk
 go_loopw [5, 14] (fun sv iv wr => ∃ i : Nat, i ≤ y.length ∧ iv = .int .i64 (i : Nat) ∧ wr.ownsRow W0.heap.size 3 1 sv (tilL tl (y.take i)).length ((tilL tl (y.take i)).map (Value.int .i64)) ∧ Below W0.heap.size W0 wr) (fun _ iv _ => y.length - (intOf iv).toNat)
 case atStart => exact ⟨0, Nat.zero_le _, rfl, HOW.out, HB1.out⟩
 case round =>
  obtain ⟨i, hi, rfl, how, hb⟩ := hrel
  obtain ⟨la, hla⟩ : ∃ la, la = tilL tl (y.take i) := ⟨_, rfl⟩
  rw [← hla] at how
  have hge : W0.heap.size ≤ wr.heap.size := hb.size
  by_cases hlt : i < y.length
  ·obtain ⟨g, o, c, ea, hcx, hr⟩ := HY.out.at i hlt
   subst ea
   have hr := cell_later hr (below_keep HBX.out hb)
   have hx := cell_later HX1.out hb
   rw [Nat.mul_one] at hr
   have hcb := HC.out c (List.mem_of_getElem? hcx)
   have hq1 : c.tdiv tl = c / tl := Int.tdiv_eq_ediv_of_nonneg hcb.1
   have hq2 : 0 ≤ c / tl := Int.ediv_nonneg hcb.1 (by omega)
   have hq3 : c / tl ≤ c := Int.ediv_le_self _ hcb.1
   obtain ⟨Q, hQ⟩ : ∃ Q, Q = c / tl := ⟨_, rfl⟩
   rw [← hQ] at hq1 hq2 hq3
   have hq4 : IntKind.i64.wrap Q = Q := IntWalk.i64_in _ (by omega)
   have htn : ¬ tl = 0 := by omega
   have HN : Hid (la ++ [Q] = tilL tl (y.take (i + 1))) := by show _ = _; rw [tilL_snoc hcx, hla, hQ]
   have hll : la.length ≤ 1000 := by rw [hla, tilL, List.length_map, List.length_take]; omega
   have ib0 : (0 : Int) ≤ (i : Int) := by omega
   have ib1 : (i : Int) < (y.length : Int) := by omega
   have HI1 : Hid (i + 1 ≤ y.length ∧ y.length - (i + 1) < y.length - i) := by show _ ∧ _; omega
   have HB := Lib.hid hb
   have HOW2 := Lib.hid how
   clear hcx hcb hQ hla hlt hi hb
   go_wp2_with (at_builtin; refine wpList_append_lies _ (by rfl) _ _ 24 (by rfl) W0.heap.size 3 i0 (.int .i64 0) 1 8 Tryz.underlying24 hi0 hz0 hz1 hz2 rfl (by decide) _ la.length (la.map (Value.int .i64)) (by rfl) (how.alloc _) ⟨wr.heap.size, 0, none⟩ 1 1 [.int .i64 Q] (by rfl) (by rfl) (cell_one_new _ _ _) (by simp [Value.oneCell']) (by omega) (by unfold maxLen; omega) (by omega) (by simp; omega) (wr.heap.size + 1) (by simp) ?_)
   intro g1 cp1 w6 hown hgrow hat hlt6
   have hbd : Below wr.heap.size wr (wr.alloc (.cells #[.int .i64 Q] 3)) := below_alloc _ _
   have HB6 := Lib.hid (HB.out.trans ((hbd.mono hge).grown hgrow (Nat.le_trans hge hbd.size) (fun k e => (HOW2.out.lt k e).1)))
   have HOE : Hid (w6.ownsRow W0.heap.size 3 1 (.slice (some ⟨g1, 0, none⟩) (la.length + 1) cp1) (tilL tl (y.take (i + 1))).length ((tilL tl (y.take (i + 1))).map (Value.int .i64))) := by
    show World.ownsRow _ _ _ _ _ _ _
    rw [← HN.out, List.length_append, List.map_append]; exact hown
   clear hown hgrow hat hlt6 hbd how
   go_wp2
   exact ⟨⟨i + 1, HI1.out.1, by go_num, HOE.out, HB6.out⟩, HI1.out.2⟩
  ·have hin : i = y.length := by omega
   rw [hin, List.take_length] at hla
   have HLA : Hid (la = y.map (· / tl)) := hla
   have hll : la.length = y.length := by rw [hla, tilL, List.length_map]
   have hy2 := HY.out.later IntR.lasts (below_keep HBX.out hb)
   obtain ⟨v', w', hrun, hown, hgr⟩ := append_ints wr W0.heap.size hge _ la how _ y hy2 (by omega) 24
   have HRUN := Lib.hid hrun
   have HI := Lib.hid (RowZ.append_owns hown (by rw [List.length_append]))
   have HB6 := Lib.hid (below_keep HBX.out (hb.grown hgr hge (fun k e => (how.lt k e).1)))
   clear hrun hown hgr hla hlt hi hb hy2
   go_wp2_with (at_builtin; refine Lib.wpList_append_run _ rfl _ _ _ _ rfl _ _ rfl rfl _ _ HRUN.out ?_)
   go_wp2
   go_ret
   exact ⟨_, rfl, by rw [← HLA.out]; exact HI.out.ints, HB6.out⟩
/-- as a function that computes keys -/
theorem tiled_fn (b tl : Int) (n : Nat) (h4 : n ≤ 4) (h0 : 1 ≤ tl) (h1 : tl ≤ 64) : FnOf (.func (.func 80) #[.agg #[.int .i64 b, .int .i64 tl]] #[]) (fun y => y.map (· / tl) ++ y) n :=
 ⟨_, _, rfl, enters_of Tryz.func80 (by kernel_rfl) rfl, fun W v y hy hn hc => tiled_any b tl y v W hy (by omega) h0 h1 hc⟩
end Go.Proofs.YtkliekoheeeamaaGreatDoor
/- space.Rank: where coordinates are in the box. -/
namespace Go.Proofs.YtkliekoheeeamaaGreatDoor
open Go.RowKit Go.Shelf
attribute [local go_sem] Oper.semAt_some

theorem ptsX_ints {w : World} {q : Option Addr} {n k : Nat} {l : List Int} (h : Ints w (.slice q n k) l) (h0 : 0 < l.length) {c : Nat} (hc : w.heap.size ≤ c) : ∀ g o n' k', Value.slice q n k = .slice (some ⟨g, o, none⟩) n' k' → some c ≠ some g := by
 intro g o n' k' e e2
 injection e with e
 subst e
 obtain ⟨g1, o1, x, ea, -, hr⟩ := h.at 0 h0
 injection ea with ea
 injection ea with e3
 subst e3
 injection e2 with e2
 have h1 := World.block_lt_of_cell? _ _ hr
 simp only at h1
 omega
theorem cmpI_neg (a b : List Int) : decide (cmpI a b < 0) = decide (cmpI a b = -1) := by
 rcases cmpI_cases a b with h | h | h <;> rw [h] <;> rfl
def cntR (l : LayT) (lo hi c : List Int) (k : Nat) : Nat := (((ptsL lo hi).take k).filter fun p => decide (cmpI (keyO l lo hi p) (keyO l lo hi c) = -1)).length
theorem cntR_snoc {l : LayT} {lo hi c x : List Int} {k : Nat} (h : (ptsL lo hi)[k]? = some x) : cntR l lo hi c (k + 1) = cntR l lo hi c k + (if cmpI (keyO l lo hi x) (keyO l lo hi c) < 0 then 1 else 0) := by
 unfold cntR
 rw [take_snoc' h, List.filter_append, List.length_append]
 congr 1
 have hn := cmpI_neg (keyO l lo hi x) (keyO l lo hi c)
 by_cases hh : cmpI (keyO l lo hi x) (keyO l lo hi c) < 0
 ·rw [decide_eq_true hh] at hn
  rw [if_pos hh, List.filter_cons_of_pos (by rw [← hn])]
  rfl
 ·rw [decide_eq_false hh] at hn
  rw [if_neg hh, List.filter_cons_of_neg (by rw [← hn]; decide)]
  rfl
theorem cntR_le (l : LayT) (lo hi c : List Int) (k : Nat) : cntR l lo hi c k ≤ ptsN lo hi := by
 unfold cntR
 refine Nat.le_trans (List.length_filter_le _ _) ?_
 rw [List.length_take, ptsL_length]; omega
theorem cntR_all (l : LayT) (lo hi c : List Int) : cntR l lo hi c (ptsN lo hi) = rankN l lo hi c := by
 unfold cntR rankN
 rw [List.take_of_length_le (by rw [ptsL_length]; exact Nat.le_refl _)]
theorem belowX_mono {c : Option Nat} {B B' : Nat} {w w' : World} (h : BelowX c B w w') (hB : B' ≤ B) : BelowX c B' w w' := ⟨h.os, h.tape, h.output, h.size, fun k hk => h.block k (by omega)⟩
theorem below_of_X {gn B n : Nat} {w w' : World} (h : BelowX (some gn) B w w') (hB : n ≤ B) (hg : n ≤ gn) : Below n w w' := ⟨h.os, h.tape, h.output, h.size, fun k hk => h.block k (by omega) (fun e => by injection e with e; omega)⟩
theorem ints_old {gn : Nat} {w w' : World} {v : Value} {l : List Int} (h : Ints w v l) (hb : BelowX (some gn) w.heap.size w w') (hg : w.heap.size ≤ gn) : Ints w' v l := by
 obtain ⟨a, cap, rfl, h1, h2, h3⟩ := h
 refine ⟨a, cap, rfl, h1, h2, fun h0 => ?_⟩
 obtain ⟨g, o, e, hx⟩ := h3 h0
 exact ⟨g, o, e, fun i x hi => cellX (hx i x hi) hb (fun e => by
  injection e with e
  have := World.block_lt_of_cell? _ _ (hx i x hi)
  simp only at this
  omega)⟩
/-- what the rounds know -/
structure RnkI (gn : Nat) (W0 : World) (n : Nat) (W : World) : Prop where
 box : Boxed W gn 3 (.int .i64 (n : Nat))
 below : BelowX (some gn) W0.heap.size W0 W
theorem belowX_grown {c : Option Nat} {B : Nat} {w w1 w2 : World} {row : Option Nat} (h : BelowX c B w w1) (hg : w1.grownBy w2 row) (hB : B ≤ w1.heap.size) (hr : ∀ r, row = some r → B ≤ r) : BelowX c B w w2 :=
 ⟨hg.os.trans h.os, hg.tape.trans h.tape, hg.output.trans h.output, Nat.le_trans h.size hg.size, fun k hk hc => (hg.block k (by omega) (fun e => by have := hr k e.symm; omega)).trans (h.block k hk hc)⟩
theorem rnk_fin0 {gn g n : Nat} {W9 W wx : World} (h1 : RnkI gn W9 n W) (hb : Below W.heap.size W wx) (ht : TagB W g 3) : KeepsFrom W9.heap.size W wx ∧ wx.heap[g]? = W.heap[g]? ∧ BelowX (some gn) W9.heap.size W wx ∧ RnkI gn W9 n wx := by
 have hx : BelowX (some gn) W9.heap.size W wx := belowX_of _ (hb.mono h1.below.size)
 exact ⟨KeepsFrom.of_grownBy (row := none) (grown_of_below hb none) (fun j e => by cases e), hb.block _ ht.lt, hx, ⟨(hb.block _ h1.box.lt).trans h1.box, h1.below.trans hx⟩⟩
theorem rnk_fin {gn g n m : Nat} {W9 W wx : World} {u : Value} (h1 : RnkI gn W9 n W) (hb : Below W.heap.size W wx) (ht : TagB W g 3) (hge : W9.heap.size ≤ g) (hg : gn < W9.heap.size) (hu : u = .int .i64 (m : Nat)) :
  KeepsFrom W9.heap.size W (wx.setCell ⟨gn, 0, none⟩ u) ∧ (wx.setCell ⟨gn, 0, none⟩ u).heap[g]? = W.heap[g]? ∧ BelowX (some gn) W9.heap.size W (wx.setCell ⟨gn, 0, none⟩ u) ∧ RnkI gn W9 m (wx.setCell ⟨gn, 0, none⟩ u) := by
 subst hu
 have hgr : W.grownBy (wx.setCell ⟨gn, 0, none⟩ (.int .i64 (m : Nat))) (some gn) := (grown_of_below hb (some gn)).trans (grown_setG wx gn 0 _)
 have hx : BelowX (some gn) W9.heap.size W (wx.setCell ⟨gn, 0, none⟩ (.int .i64 (m : Nat))) := ⟨hgr.os, hgr.tape, hgr.output, hgr.size, fun k hk hc => hgr.block k (Nat.lt_of_lt_of_le hk h1.below.size) (fun e => hc e.symm)⟩
 have hb2 : Boxed wx gn 3 (.int .i64 (n : Nat)) := (hb.block _ h1.box.lt).trans h1.box
 exact ⟨KeepsFrom.of_grownBy hgr (fun j e => by cases e; exact hg), hgr.block _ ht.lt (fun e => by injection e with e; omega), hx, ⟨hb2.set _, h1.below.trans hx⟩⟩
set_option maxHeartbeats 16000000 in
set_option maxRecDepth 100000 in
theorem rank_core (vs vo vlo vhi va : Value) (l : LayT) (lo hi c : List Int) (w : World) (hl : LayR w vs vo l) (hlo : Ints w vlo lo) (hhi : Ints w vhi hi) (hca : Ints w va c) (hmin : ∀ x ∈ lo, -9223372036854775808 ≤ x) (h : orderedB l.order l.tile = true) (h2 : formedB lo hi = true) (hcl' : c.length = lo.length) (h3 : limE lo hi = 0) (h4 : hasB lo hi c = true) (hpc : PtOk lo c)
  (hfn : FnOf (ofV l.order (bitsL 0 lo hi) l.tile) (keyF l.order l.tile (bitsL 0 lo hi)) lo.length) :
  Calls Tryz.prog 13 #[layV vs vo l, .agg #[vlo, vhi], va] w (RetV' (.tuple #[.int .i64 (rankN l lo hi c : Nat), .int .i64 0]) w) := by
 have hfm := h2
 unfold formedB at hfm
 simp only [Bool.and_eq_true, decide_eq_true_eq] at hfm
 have HFM := Lib.hid hfm
 obtain ⟨hA, nB, hB, hB2⟩ := limE_zero h3
 have HWD := Lib.hid (lim_wide hfm.1.1 hA)
 have HPO := Lib.hid (fun x hx => pts_ok h3 hfm.1.1 (x := x) hx)
 have HRG : Hid (∀ (i : Nat) (a b : Int), lo[i]? = some a → hi[i]? = some b → 0 ≤ b - a ∧ b - a ≤ 4095) := fun i a b ha hb => by
  have := limA_get hA ha hb
  have := limB_get hB ha hb
  omega
 have HHB : Hid (∀ x ∈ hi, x ≤ 9223372036854775807) := fun x hx => by
  obtain ⟨i, hi'⟩ := List.mem_iff_getElem?.1 hx
  have hlt := (List.getElem?_eq_some_iff.1 hi').1
  obtain ⟨a, ha⟩ : ∃ a, lo[i]? = some a := ⟨_, List.getElem?_eq_getElem (by omega)⟩
  have := limA_get hA ha hi'
  omega
 have C := Lib.hid (fun w1 (hb : Below w.heap.size w w1) => ordered_any vs vo l w1 (hl.later hb))
 have CF := Lib.hid (fun w1 (hb : Below w.heap.size w w1) => formed_any vlo vhi lo hi w1 (hlo.later IntR.lasts hb) (hhi.later IntR.lasts hb))
 have CL := Lib.hid (fun w1 (hb : Below w.heap.size w w1) => limited_any vlo vhi lo hi w1 (hlo.later IntR.lasts hb) (hhi.later IntR.lasts hb) hfm.1.1.symm hfm.2 hmin)
 have CK := Lib.hid (fun w1 (hb : Below w.heap.size w w1) => key_any vs vo vlo vhi l lo hi w1 (hl.later hb) (hlo.later IntR.lasts hb) (hhi.later IntR.lasts hb) hfm.1.1.symm hfm.2 HRG.out)
 have CH := Lib.hid (fun w1 (hb : Below w.heap.size w w1) => has_any vlo vhi va lo hi c w1 (hlo.later IntR.lasts hb) (hhi.later IntR.lasts hb) (hca.later IntR.lasts hb))
 rw [h4] at CH
 have HMIN := Lib.hid hmin
 have HLO := Lib.hid hlo
 have HHI := Lib.hid hhi
 have HCA := Lib.hid hca
 have HFN := Lib.hid hfn
 have HPC := Lib.hid hpc
 have h20 := ptsN_lim (lim_wide hfm.1.1 hA) hB
 have H20 : Hid (ptsN lo hi ≤ 1000000) := by show _ ≤ _; omega
 rw [h] at C
 rw [h2] at CF
 rw [h3] at CL
 obtain ⟨a1, c1, rfl, -⟩ := hl.sides.shape
 obtain ⟨a2, c2, rfl, -⟩ := hl.over.shape
 obtain ⟨a3, c3, rfl, -⟩ := hlo.shape
 obtain ⟨a4, c4, rfl, -⟩ := hhi.shape
 obtain ⟨a5, c5, rfl, -⟩ := hca.shape
 rw [hcl'] at HCA CH ⊢
 have HRK : Hid (∀ p, keyO l lo hi p = keyF l.order l.tile (bitsL 0 lo hi) (subL p lo)) := fun p => rfl
 obtain ⟨RK, hRK⟩ : ∃ RK, RK = rankN l lo hi c := ⟨_, rfl⟩
 rw [← hRK]
 have HRKE : Hid (cntR l lo hi c (ptsN lo hi) = RK) := by show _ = _; rw [hRK, cntR_all]
 obtain ⟨CN, hCN⟩ : ∃ CN : Nat → Nat, CN = cntR l lo hi c := ⟨_, rfl⟩
 have HCN0 : Hid (CN 0 = 0) := by show _ = _; rw [hCN]; rfl
 have HCNS : Hid (∀ k x, (ptsL lo hi)[k]? = some x → CN (k + 1) = CN k + (if cmpI (keyF l.order l.tile (bitsL 0 lo hi) (subL x lo)) (keyF l.order l.tile (bitsL 0 lo hi) (subL c lo)) < 0 then 1 else 0)) := fun k x hx => by rw [hCN]; exact cntR_snoc hx
 have HCNL : Hid (∀ k, CN k ≤ 1000000) := fun k => by rw [hCN]; exact Nat.le_trans (cntR_le _ _ _ _ _) H20.out
 rw [← hCN] at HRKE
 clear hRK hCN
 obtain ⟨ss, oo, o, t, f, c'⟩ := l
 simp only at HFN HCNS
 clear hl hlo hhi h h2 h3 hmin hfm hA hB hB2 hfn hca h4 hpc h20 hcl' HRK
 refine (callsIn_wide (n := 5)).1 ?_
 refine callsIn_of_wp_marks Tryz.func13 rfl trivial ?_ rfl
 refine wpIn_wide.2 ?_
 simp only [Tryz.ntmps13, List.size_toArray, List.length_cons, List.length_nil, Nat.reduceAdd, Nat.reduceSub, Array.replicate_succ, Array.replicate_zero, List.push_toArray, List.append_toArray, List.nil_append, List.cons_append]
 go_wp2_with fail
 refine (C.out _ ((below_alloc _ _).trans ((below_alloc _ _).mono (by simp)))).mono ?_
 rintro e w1 ⟨rfl, hb⟩
 have HB := Lib.hid (((below_alloc _ _).trans ((below_alloc _ _).mono (by simp))).trans (hb.mono (by simp; omega)))
 have hc : ∀ j, w1.cell? ⟨w.heap.size + 1, j, none⟩ = ((w.alloc (.cells #[.slice a1 ss.length c1, .slice a2 oo.length c2, .int .i64 o, .int .i64 t, .int .i64 f, .int .i64 c'] 32)).alloc (.cells #[.slice a3 lo.length c3, .slice a4 hi.length c4] 26)).cell? ⟨w.heap.size + 1, j, none⟩ := fun j => hb.cell (p := ⟨w.heap.size + 1, j, none⟩) (by simp)
 have hcl : ∀ j, w1.cell? ⟨w.heap.size, j, none⟩ = ((w.alloc (.cells #[.slice a1 ss.length c1, .slice a2 oo.length c2, .int .i64 o, .int .i64 t, .int .i64 f, .int .i64 c'] 32)).alloc (.cells #[.slice a3 lo.length c3, .slice a4 hi.length c4] 26)).cell? ⟨w.heap.size, j, none⟩ := fun j => hb.cell (p := ⟨w.heap.size, j, none⟩) (by simp; omega)
 have d0 : w1.cell? ⟨w.heap.size + 1, 0, none⟩ = some (.slice a3 lo.length c3) := by rw [hc, World.cell?_alloc_at _ _ _ _ (by simp)]; rfl
 have d1 : w1.cell? ⟨w.heap.size + 1, 1, none⟩ = some (.slice a4 hi.length c4) := by rw [hc, World.cell?_alloc_at _ _ _ _ (by simp)]; rfl
 have D0 := Lib.hid d0
 have D1 := Lib.hid d1
 have LB : Hid (LayB w1 w.heap.size (.slice a1 ss.length c1) (.slice a2 oo.length c2) ⟨ss, oo, o, t, f, c'⟩) := by
  refine ⟨?_, ?_, ?_, ?_, ?_, ?_⟩ <;> (rw [hcl, World.cell?_alloc_lt _ _ _ (by simp), World.cell?_alloc_at _ _ _ _ rfl]; rfl)
 clear hb C hc hcl
 go_wp2_with fail
 refine (CF.out _ HB.out).mono ?_
 rintro e w2 ⟨rfl, hb⟩
 have HB12 := Lib.hid hb
 have HB2 := Lib.hid (below_keep HB.out hb)
 have d0 := cell_later D0.out hb
 have d1 := cell_later D1.out hb
 clear hb CF
 go_wp2_with fail
 refine (CL.out _ HB2.out).mono ?_
 rintro e w3 ⟨rfl, hb⟩
 have HB13 := Lib.hid (below_keep HB12.out hb)
 have HB3 := Lib.hid (below_keep HB2.out hb)
 have d0 := cell_later D0.out HB13.out
 have d1 := cell_later D1.out HB13.out
 clear hb CL
 go_wp2_with fail
 refine (CH.out _ HB3.out).mono ?_
 rintro e w4 ⟨rfl, hb⟩
 have HB14 := Lib.hid (below_keep HB13.out hb)
 have HB4 := Lib.hid (below_keep HB3.out hb)
 have d0 := cell_later D0.out HB14.out
 have d1 := cell_later D1.out HB14.out
 obtain ⟨l0, l1, l2, l3, l4, l5⟩ := LB.out
 have l0 := cell_later l0 HB14.out
 have l1 := cell_later l1 HB14.out
 have l2 := cell_later l2 HB14.out
 have l3 := cell_later l3 HB14.out
 have l4 := cell_later l4 HB14.out
 have l5 := cell_later l5 HB14.out
 clear hb CH
 go_wp2_with fail
 refine (CK.out _ HB4.out).mono ?_
 rintro e w5 ⟨gb, gf, rfl, k0, k1, k2, hb, kg1, kg2⟩
 have HB15 := Lib.hid (below_keep HB14.out hb)
 have HB5 := Lib.hid (below_keep HB4.out hb)
 clear hb l0 l1 l2 l3 l4 l5 d0 d1 CK
 go_wp2_with fail
 obtain ⟨W6, hW6⟩ : ∃ W6, W6 = w5.alloc (.cells #[keyV gb gf] 82) := ⟨_, rfl⟩
 have HB56 : Hid (Below w5.heap.size w5 W6) := by show Below _ _ _; rw [hW6]; exact below_alloc _ _
 have HT9 : Hid (W6.cell? ⟨w5.heap.size, 0, none⟩ = some (keyV gb gf)) := by show _ = _; rw [hW6, World.cell?_alloc_at _ _ _ _ rfl]; rfl
 rw [← hW6]
 clear hW6
 have HK0 := Lib.hid (cell_later k0 HB56.out)
 have HK2 := Lib.hid (cell_later k2 HB56.out)
 have CM := Lib.hid (fun (x : List Int) (vx : Value) (hx : PtOk lo x) w9 (hb : Below W6.heap.size W6 w9) (hv : Ints w9 vx x) => key1_any (keyF o t (bitsL 0 lo hi)) (ofV o (bitsL 0 lo hi) t) (.slice a3 lo.length c3) vx lo x gb gf w9 HFN.out (cell_later HK0.out hb) (cell_later HK2.out hb) (HLO.out.later IntR.lasts (below_keep (below_keep HB5.out HB56.out) hb)) hv hx.1 HFM.out.1.2 HFM.out.2 hx.2)
 obtain ⟨Kc, hKc⟩ : ∃ Kc, Kc = keyF o t (bitsL 0 lo hi) (subL c lo) := ⟨_, rfl⟩
 rw [← hKc] at HCNS
 have CM1 := Lib.hid (CM.out c _ HPC.out W6 (Below.refl _ _) (HCA.out.later IntR.lasts (below_keep HB5.out HB56.out)))
 rw [← hKc] at CM1
 clear k0 k1 k2 kg1 kg2 hKc
 refine CM1.out.mono ?_
 rintro e w7 ⟨u, rfl, hu, hb⟩
 obtain ⟨p9, k9, rfl, -⟩ := hu.shape
 have HU := Lib.hid hu
 have HB67 := Lib.hid hb
 have HB17 := Lib.hid (below_keep (below_keep HB15.out HB56.out) hb)
 have HB7 := Lib.hid (below_keep (below_keep HB5.out HB56.out) hb)
 have d0 := cell_later D0.out HB17.out
 have d1 := cell_later D1.out HB17.out
 obtain ⟨W8, hW8⟩ : ∃ W8, W8 = (w7.alloc (.cells #[.slice p9 Kc.length k9] 24)).alloc (.cells #[.int .i64 0] 3) := ⟨_, rfl⟩
 have HB78 : Hid (Below w7.heap.size w7 W8) := by show Below _ _ _; rw [hW8]; exact (below_alloc _ _).trans ((below_alloc _ _).mono (by simp))
 have HT10 : Hid (W8.cell? ⟨w7.heap.size, 0, none⟩ = some (.slice p9 Kc.length k9)) := by show _ = _; rw [hW8, World.cell?_alloc_lt _ _ _ (by simp), World.cell?_alloc_at _ _ _ _ rfl]; rfl
 have HT11 : Hid (Boxed W8 (w7.heap.size + 1) 3 (.int .i64 0)) := by
  have h0 := Boxed.new (w7.alloc (.cells #[.slice p9 Kc.length k9] 24)) 3 (.int .i64 0)
  rw [World.size_alloc, ← hW8] at h0
  exact h0
 have hsz8 : W8.heap.size = w7.heap.size + 2 := by rw [hW8]; simp
 have HSZ8 := Lib.hid hsz8
 clear hsz8 hb hu CM1
 go_upto_region 12 with (fail)
 rw [← hW8]
 clear hW8
 have d0 := cell_later d0 HB78.out
 have d1 := cell_later d1 HB78.out
 go_wp2_with fail
 refine (points_any (.slice a3 lo.length c3) (.slice a4 hi.length c4) _ ⟨_, _, _, rfl⟩ ⟨_, _, _, rfl⟩).mono ?_
 rintro e w8 ⟨rfl, rfl⟩
 go_wp2_with fail
 obtain ⟨W9, hW9⟩ : ∃ W9, W9 = W8.alloc (.cells #[.slice a3 lo.length c3, .slice a4 hi.length c4] 26) := ⟨_, rfl⟩
 have hsz9 : W9.heap.size = w7.heap.size + 3 := by rw [hW9, World.size_alloc, HSZ8.out]
 have hsz8 : W8.heap.size = w7.heap.size + 2 := HSZ8.out
 have hb89 : Below W8.heap.size W8 W9 := by rw [hW9]; exact below_alloc _ _
 have hc0 : W9.cell? ⟨W8.heap.size, 0, none⟩ = some (.slice a3 lo.length c3) := by rw [hW9, World.cell?_alloc_at _ _ _ _ rfl]; rfl
 have hc1 : W9.cell? ⟨W8.heap.size, 1, none⟩ = some (.slice a4 hi.length c4) := by rw [hW9, World.cell?_alloc_at _ _ _ _ rfl]; rfl
 have hb79 := below_keep HB78.out hb89
 have HB79 := Lib.hid hb79
 have HB9 := Lib.hid (below_keep HB7.out hb79)
 have hbx : Boxed W9 (w7.heap.size + 1) 3 (.int .i64 0) := (hb89.block _ (by omega)).trans HT11.out
 have h10 := cell_later HT10.out hb89
 have h9 := cell_later HT9.out (below_keep HB67.out hb79)
 have hw7 : w.heap.size ≤ w7.heap.size := HB7.out.size
 have hw5 : w5.heap.size < W6.heap.size := World.block_lt_of_cell? _ _ HT9.out
 have hw6 : W6.heap.size ≤ w7.heap.size := HB67.out.size
 have hsq := points1X_any (some (w7.heap.size + 1)) lo hi (.slice a3 lo.length c3) (.slice a4 hi.length c4) W9 W8.heap.size (by omega) hc0 hc1 (HLO.out.later IntR.lasts HB9.out) (HHI.out.later IntR.lasts HB9.out) HWD.out HFM.out.1.2 (by have := HFM.out.2; omega) HMIN.out HHB.out (fun e => by injection e with e; omega) (ptsX_ints HLO.out HFM.out.1.2 (by omega)) (ptsX_ints HHI.out (by have := HFM.out.1; omega) (by omega))
 have KW : Hid (∀ W, BelowX (some (w7.heap.size + 1)) W9.heap.size W9 W → W.cell? ⟨w5.heap.size, 0, none⟩ = some (keyV gb gf) ∧ W.cell? ⟨w7.heap.size, 0, none⟩ = some (.slice p9 Kc.length k9) ∧ Ints W (.slice p9 Kc.length k9) Kc ∧ BelowX (some (w7.heap.size + 1)) W6.heap.size W6 W) := fun W hx =>
  ⟨cellX h9 hx (fun e => by injection e with e; omega), cellX h10 hx (fun e => by injection e with e; omega), ints_old HU.out ((belowX_of _ hb79).trans (belowX_mono hx (by omega))) (by omega), (belowX_of _ (below_keep HB67.out hb79)).trans (belowX_mono hx (by omega))⟩
 have CX := Lib.hid (fun (x : List Int) (vx : Value) (hx : PtOk lo x) (w9 : World) (hb : BelowX (some (w7.heap.size + 1)) W6.heap.size W6 w9) (hv : Ints w9 vx x) => key1_any (keyF o t (bitsL 0 lo hi)) (ofV o (bitsL 0 lo hi) t) (.slice a3 lo.length c3) vx lo x gb gf w9 HFN.out
  (cellX HK0.out hb (fun e => by injection e with e; have := World.block_lt_of_cell? _ _ HK0.out; simp only at this; omega)) (cellX HK2.out hb (fun e => by injection e with e; have := World.block_lt_of_cell? _ _ HK2.out; simp only at this; omega)) (ints_old (HLO.out.later IntR.lasts (below_keep HB5.out HB56.out)) hb (by omega)) hv hx.1 HFM.out.1.2 HFM.out.2 hx.2)
 have HPT := Lib.hid HPO.out
 have HQQ : Hid (w7.heap.size + 1 < W9.heap.size ∧ w.heap.size ≤ w7.heap.size + 1) := by show _ ∧ _; omega
 refine (wpIn_wide (n := 5)).1 ?_
 rw [show W8.alloc (.cells #[.slice a3 lo.length c3, .slice a4 hi.length c4] 26) = W9 from hW9.symm]
 apply wpIn_rangeFunc_pts1 (c := some (w7.heap.size + 1)) 12 rfl (by decide) (gf := 74) (lb := #[.pointer (some ⟨W8.heap.size, 0, none⟩)]) rfl trivial (enters_of Tryz.func74 (by kernel_rfl) rfl) hsq (Below.refl _ _)
  (fun g k v A B row h hg hr => h.kept hg hr)
  (fun g k W => RnkI (w7.heap.size + 1) W9 (CN k) W)
 case hI =>
  rintro g k A B row ⟨h1, h2⟩ hge ht hg hr
  refine ⟨h1.kept hg (fun e => ?_), belowX_grown h2 hg h2.size (fun r e => ?_)⟩
  ·rcases hr _ e.symm with e2 | ⟨h5, -⟩ <;> omega
  ·rcases hr r e with rfl | ⟨h5, -⟩
   ·exact hge
   ·exact h5
 case h0 =>
  intro g W0 hb hge ht
  refine ⟨?_, belowX_of _ hb⟩
  rw [HCN0.out]
  exact (hb.block _ (by omega)).trans hbx
 case hassign =>
  intro l v W K hK
  simp only [List.setIfInBounds_toArray, List.set_cons_succ, List.set_cons_zero] at hK ⊢
  gi_wp2
  exact hK
 case hbody =>
  rintro l g k v W ⟨h1, h2⟩ hk hge ht ⟨x, hx, hix, hvg⟩
  obtain ⟨x9, x10, hkc, hb6⟩ := KW.out W h2
  obtain ⟨Kx, hKx⟩ : ∃ Kx, Kx = keyF o t (bitsL 0 lo hi) (subL x lo) := ⟨_, rfl⟩
  have hcs := HCNS.out k x hx
  rw [← hKx] at hcs
  have CXX := Lib.hid (CX.out x v (HPT.out x (List.mem_of_getElem? hx)))
  rw [← hKx] at CXX
  have HIX := Lib.hid hix.ints
  have HKC := Lib.hid hkc
  have HB6 := Lib.hid hb6
  obtain ⟨av, cv, rfl, -⟩ := hix.ints.shape
  have H1 := Lib.hid h1
  have H2 := Lib.hid h2
  have HT := Lib.hid ht
  have hgn : w7.heap.size + 1 < W.heap.size := h1.lt
  have HGE := Lib.hid hge
  have X9 := Lib.hid x9
  have X10 := Lib.hid x10
  obtain ⟨M, hM⟩ : ∃ M, M = cmpI Kx Kc := ⟨_, rfl⟩
  rw [← hM] at hcs
  have HM := Lib.hid hM
  have HCS := Lib.hid hcs
  have hcl1 := HCNL.out k
  have hmx : Tryz.prog.follows .mixedOrders = true := by kernel_rfl
  clear h1 h2 hx hix hvg ht hge hkc hb6 hcs hKx hM hc0 hc1 hbx hsq h9 h10 hb79 hb89 x9 x10
  simp only [List.setIfInBounds_toArray, List.set_cons_succ, List.set_cons_zero]
  gi_wp2_with fail
  refine wpIn_region_list [.val (keyV gb gf), .val (.slice av x.length cv), .holds (fun u w9 => Ints w9 u Kx), .val (.slice p9 Kc.length k9), .val (.int .i64 M), .val (.bool (decide (M < 0)))]
   [some 47, some 48, some 49, some 50, some 51, some 52]
   (fun w9 => Below W.heap.size W w9) (fun a9 b9 => Below a9.heap.size a9 b9) rfl (by kernel_rfl) (by kernel_rfl) (by kernel_rfl) (by kernel_rfl) (by kernel_rfl) ?_ ?_ ?_ ?_
  ·(intro y hy v w1 w2 hs hv; simp only [List.mem_cons, List.not_mem_nil, or_false] at hy; rcases hy with rfl | rfl | rfl | rfl | rfl | rfl; all_goals first | exact hv | exact hv.later IntR.lasts hs)
  ·exact (Below.refl _ _).drew
  ·intro i9 op9 ho
   have hi9 : i9 < 6 := (Array.getElem?_eq_some_iff.1 ho).1
   match i9, hi9 with
   | 0, _ =>
    obtain rfl := Option.some.inj ho
    intro a9 wx hBx hev haf
    rw [if_pos (wanted_none rfl)]
    have f9 : (a9.tmps[9]?).getD undef = .pointer (some ⟨w5.heap.size, 0, none⟩) := hev 9 (by kernel_rfl)
    clear haf hev
    have x9 := cell_later X9.out hBx
    go_simp
    exact ⟨rfl, Below.refl _ _, hBx⟩
   | 1, _ =>
    obtain rfl := Option.some.inj ho
    intro a9 wx hBx hev haf
    rw [if_pos (wanted_none rfl)]
    have f12 : (a9.tmps[12]?).getD undef = .slice av x.length cv := hev 12 (by kernel_rfl)
    clear haf hev
    go_simp
    exact ⟨rfl, Below.refl _ _, hBx⟩
   | 2, _ =>
    obtain rfl := Option.some.inj ho
    intro a9 wx hBx hev haf
    rw [if_pos (wanted_none rfl)]
    have f47 : (a9.tmps[47]?).getD undef = (keyV gb gf) := haf 0 _ rfl rfl 47 rfl
    have f48 : (a9.tmps[48]?).getD undef = (.slice av x.length cv) := haf 1 _ rfl rfl 48 rfl
    clear haf hev
    go_simp
    exact (CXX.out wx (HB6.out.trans (belowX_of _ (hBx.mono HB6.out.size))) (HIX.out.later IntR.lasts hBx)).mono fun e w9 ⟨u, he, hu, hb⟩ => ⟨u, he, hu, hb, below_keep hBx hb⟩
   | 3, _ =>
    obtain rfl := Option.some.inj ho
    intro a9 wx hBx hev haf
    rw [if_pos (wanted_none rfl)]
    have f10 : (a9.tmps[10]?).getD undef = .pointer (some ⟨w7.heap.size, 0, none⟩) := hev 10 (by kernel_rfl)
    clear haf hev
    have x10 := cell_later X10.out hBx
    go_simp
    exact ⟨rfl, Below.refl _ _, hBx⟩
   | 4, _ =>
    obtain rfl := Option.some.inj ho
    intro a9 wx hBx hev haf
    rw [if_pos (wanted_none rfl)]
    have f49 := Lib.hid (haf 0 _ rfl rfl 49 rfl)
    have f50 : (a9.tmps[50]?).getD undef = (.slice p9 Kc.length k9) := haf 1 _ rfl rfl 50 rfl
    clear haf hev
    have hcmp := compare_any Kx Kc _ _ wx f49.out (HKC.out.later IntR.lasts hBx)
    have HCMP := Lib.hid hcmp
    clear hcmp
    go_simp
    exact HCMP.out.mono fun e w9 ⟨he, hw⟩ => ⟨_, he, by show _ = _; rw [HM.out], hw ▸ Below.refl _ _, hw ▸ hBx⟩
   | 5, _ =>
    obtain rfl := Option.some.inj ho
    intro a9 wx hBx hev haf
    rw [if_pos (wanted_none rfl)]
    have f51 : (a9.tmps[51]?).getD undef = (.int .i64 M) := haf 0 _ rfl rfl 51 rfl
    clear haf hev
    go_simp
    exact ⟨rfl, Below.refl _ _, hBx⟩
  ·intro vals wx hBx hG
   have g0 : vals 0 = (keyV gb gf) := hG 0 (by decide)
   have g1 : vals 1 = (.slice av x.length cv) := hG 1 (by decide)
   have g2 := hG 2 (by decide)
   have g3 : vals 3 = (.slice p9 Kc.length k9) := hG 3 (by decide)
   have g4 : vals 4 = (.int .i64 M) := hG 4 (by decide)
   have g5 : vals 5 = (.bool (decide (M < 0))) := hG 5 (by decide)
   clear hG
   simp only [putDs, Act.put, Nat.zero_add, Nat.reduceAdd, List.setIfInBounds_toArray, List.set_cons_succ, List.set_cons_zero, g0, g1, g3, g4, g5]
   clear g0 g1 g3 g4 g5
   have hbx1 : Boxed wx (w7.heap.size + 1) 3 (.int .i64 (CN k : Nat)) := (hBx.block _ hgn).trans H1.out
   have hcc := hbx1.cell
   have hff := hbx1.frozen
   have FIN0 := Lib.hid (rnk_fin0 ⟨H1.out, H2.out⟩ hBx HT.out)
   have FIN := Lib.hid (fun (u : Value) (m : Nat) (hu : u = .int .i64 (m : Nat)) => rnk_fin (u := u) ⟨H1.out, H2.out⟩ hBx HT.out HGE.out HQQ.out.1 hu)
   clear g2 hbx1 hgn
   by_cases hneg : M < 0
   ·have hcs := HCS.out
    rw [if_pos hneg] at hcs
    have HCE := Lib.hid hcs
    rw [decide_eq_true hneg]
    clear hcs hneg hBx
    gi_wp2
    exact FIN.out _ (CN (k + 1)) (by rw [HCE.out]; go_num)
   ·have hcs : CN (k + 1) = CN k := by
     have h0 := HCS.out
     rw [if_neg hneg] at h0
     exact h0
    have HCE := Lib.hid hcs
    rw [decide_eq_false hneg]
    clear hcs hneg hBx hcc hff
    gi_wp2
    have hfin := FIN0.out
    rw [← HCE.out] at hfin
    exact hfin
 case hdone =>
  rintro D g W hD ⟨h1, h2⟩ hK
  have hc1 := h1.cell
  have hW := below_of_X h2 (show w.heap.size ≤ W9.heap.size by omega) (show w.heap.size ≤ w7.heap.size + 1 by omega)
  have HWF := Lib.hid (HB9.out.trans hW)
  rw [HRKE.out] at hc1
  clear h1 h2 hbx hsq h9 h10 hb79 hb89 hc0
  go_wp2
  refine ⟨by simp, .inl ⟨_, _, rfl, run_takeDeferred hK, ?_⟩⟩
  refine ⟨_, (by simp [results, Tryz.results13, go_sem]; try rfl), ?_⟩
  exact ⟨rfl, HWF.out.trans (belowK_b (w := w) (Nat.le_refl _) W D _ _ (by omega) hK rfl rfl)⟩
end Go.Proofs.YtkliekoheeeamaaGreatDoor
/- The laws' cubes: (Cube).box. (printed by ranc.py) -/
namespace Go.Proofs.YtkliekoheeeamaaGreatDoor
open Go.RowKit

def I8R (w : World) (g o : Nat) (x : Int) : Prop := w.cell? ⟨g, o, none⟩ = some (.int .i8 x)
theorem I8R.lasts : Lasts I8R := fun _ _ _ _ _ h hb => cell_later h hb
end Go.Proofs.YtkliekoheeeamaaGreatDoor
/- The law's inside: where coordinates are in the box. The keys of all orders as functions. -/
namespace Go.Proofs.YtkliekoheeeamaaGreatDoor
open Go.RowKit

theorem ofV_all (order tl : Int) (b n : Nat) (h1 : 1 ≤ n) (h4 : n ≤ 4) (hb : b ≤ 12) (ho : orderedB order tl = true) : FnOf (ofV order b tl) (keyF order tl b) n := by
 by_cases h3 : order = 3
 ·subst h3
  have ht : 1 ≤ tl ∧ tl ≤ 64 := by
   unfold orderedB at ho
   rw [if_neg (by decide), if_pos rfl] at ho
   simpa using ho
  have e1 : keyF 3 tl b = fun y => y.map (· / tl) ++ y := by
   funext y
   unfold keyF
   rw [if_neg (by decide), if_pos rfl]
  have e2 : ofV 3 b tl = .func (.func 80) #[.agg #[.int .i64 (b : Int), .int .i64 tl]] #[] := by
   unfold ofV
   rw [if_neg (by decide), if_pos rfl]
  rw [e1, e2]
  exact tiled_fn b tl n h4 ht.1 ht.2
 ·exact ofV_fn order tl b n h1 h4 hb h3
end Go.Proofs.YtkliekoheeeamaaGreatDoor
/- SpaceRanks in plain words: a cube's box; the product of its extents; what is in it. -/
namespace Go.Proofs.YtkliekoheeeamaaGreatDoor
open Go.RowKit

/-- the bounds of a small box -/
structure SmBox (lo hi : List Int) : Prop where
 len : lo.length = hi.length
 l4 : lo.length ≤ 4
 each : ∀ (i : Nat) (a b : Int), lo[i]? = some a → hi[i]? = some b → a ≤ b ∧ b - a ≤ 8 ∧ -128 ≤ a ∧ a ≤ 127
theorem SmBox.tail {l h : Int} {lo hi : List Int} (hs : SmBox (l :: lo) (h :: hi)) : SmBox lo hi :=
 ⟨by simpa using hs.len, by have := hs.l4; simp at this; omega, fun i a b ha hb => hs.each (i + 1) a b ha hb⟩
theorem SmBox.wide : ∀ {lo hi : List Int}, SmBox lo hi → wideB lo hi
 | [], [], _ => trivial
 | [], _ :: _, h => by have := h.len; simp at this
 | _ :: _, [], h => by have := h.len; simp at this
 | l :: lo, x :: hi, h => ⟨(h.each 0 l x rfl rfl).1, h.tail.wide⟩
theorem SmBox.limA : ∀ {lo hi : List Int}, SmBox lo hi → limA lo hi = false
 | [], [], _ => rfl
 | [], _ :: _, h => by have := h.len; simp at this
 | _ :: _, [], h => by have := h.len; simp at this
 | l :: lo, x :: hi, h => by
  have h0 := h.each 0 l x rfl rfl
  rw [Go.Proofs.YtkliekoheeeamaaGreatDoor.limA, if_neg (by omega)]
  exact h.tail.limA
theorem SmBox.limB : ∀ {lo hi : List Int} (c : Int), SmBox lo hi → limB c lo hi = some (c * ((ptsN lo hi : Nat) : Int))
 | [], [], c, _ => by simp [Go.Proofs.YtkliekoheeeamaaGreatDoor.limB, ptsN]
 | [], _ :: _, _, h => by have := h.len; simp at this
 | _ :: _, [], _, h => by have := h.len; simp at this
 | l :: lo, x :: hi, c, h => by
  have h0 := h.each 0 l x rfl rfl
  rw [Go.Proofs.YtkliekoheeeamaaGreatDoor.limB, if_neg (by omega), h.tail.limB, ptsN, Int.natCast_mul, Int.toNat_of_nonneg (by omega), Int.mul_assoc]
theorem SmBox.formed {lo hi : List Int} (h : SmBox lo hi) (h0 : 0 < lo.length) : formedB lo hi = true := by
 have h1 := h.len
 have h2 := h.l4
 simp [formedB]
 omega
theorem hasL_in : ∀ {lo hi c : List Int}, (∀ (i : Nat) (a b y : Int), lo[i]? = some a → hi[i]? = some b → c[i]? = some y → a ≤ y ∧ y ≤ b) → hasL lo hi c = true
 | l :: ls, h :: hs, x :: xs, hx => by
  have h0 := hx 0 l h x rfl rfl rfl
  rw [hasL, if_neg (by
   rintro (h1 | h1)
   ·omega
   ·unfold upB at h1
    simp at h1
    omega)]
  exact hasL_in fun i a b y ha hb hy => hx (i + 1) a b y ha hb hy
 | [], _, _, _ => by simp [hasL]
 | _ :: _, [], _, _ => by simp [hasL]
 | _ :: _, _ :: _, [], _ => by simp [hasL]
theorem hasB_in {lo hi c : List Int} (hf : formedB lo hi = true) (h : InBox lo hi c) : hasB lo hi c = true := by
 unfold hasB
 rw [hf, decide_eq_true h.len, hasL_in h.each]
 rfl
end Go.Proofs.YtkliekoheeeamaaGreatDoor
