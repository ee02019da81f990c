/- Lemmas and contracts, each under its own condition: space.Rank where it refuses. (printed by rnb.py) The law's large: some answer. The walk of SpaceOrder. -/
import Derived.IntWalk
import Derived.BigQuiet
import Derived.Test.YtkliekoheeeamaaGreatDoorS10
import Derived.Test.YtkliekoheeeamaaGreatDoorS15
import Derived.Test.YtkliekoheeeamaaGreatDoorS21
import Derived.Test.YtkliekoheeeamaaGreatDoorS27
import Derived.Test.YtkliekoheeeamaaGreatDoorS52
import Derived.Test.YtkliekoheeeamaaGreatDoorS55
import Derived.Test.YtkliekoheeeamaaGreatDoorSameA
/- space.Rank where it refuses. (printed by rnb.py) -/
namespace Go.Proofs.YtkliekoheeeamaaGreatDoor
open Go.RowKit
attribute [local go_sem] Oper.semAt_some

set_option maxHeartbeats 16000000 in
set_option maxRecDepth 100000 in
theorem rank_bad (vs vo vlo vhi va : Value) (l : LayT) (lo hi c : List Int) (w : World) (hl : LayR w vs vo l) (hlo : Ints w vlo lo) (hhi : Ints w vhi hi) (hca : Ints w va c) (h : orderedB l.order l.tile = false) :
  Calls Tryz.prog 13 #[layV vs vo l, .agg #[vlo, vhi], va] w (RetV' (.tuple #[.int .i64 0, .int .i64 2]) w) := by
 have CO := Lib.hid (fun w1 (hb : Below w.heap.size w w1) => ordered_any vs vo l w1 (hl.later hb))
 have CF := Lib.hid (fun w1 (hb : Below w.heap.size w w1) => formed_any vlo vhi lo hi w1 (hlo.later IntR.lasts hb) (hhi.later IntR.lasts hb))
 rw [h] at CO
 have HL := Lib.hid hl
 have HLO := Lib.hid hlo
 have HCA := Lib.hid hca
 obtain ⟨p5, k5, rfl, -⟩ := hca.shape
 obtain ⟨p1, k1, rfl, -⟩ := hl.sides.shape
 obtain ⟨p2, k2, rfl, -⟩ := hl.over.shape
 obtain ⟨p3, k3, rfl, -⟩ := hlo.shape
 obtain ⟨p4, k4, rfl, -⟩ := hhi.shape
 obtain ⟨W0, hW0⟩ : ∃ W0, W0 = w.alloc (.cells #[.slice p1 l.sides.length k1, .slice p2 l.over.length k2, .int .i64 l.order, .int .i64 l.tile, .int .i64 l.form, .int .i64 l.codec] 32) := ⟨_, rfl⟩
 have hsz0 : W0.heap.size = w.heap.size + 1 := by rw [hW0]; simp
 have HLB := Lib.hid (fun w' hb => LayB.made w (.slice p1 l.sides.length k1) (.slice p2 l.over.length k2) l 32 w' hb)
 have hb0 : Below w.heap.size w W0 := by rw [hW0]; exact below_alloc _ _
 rw [← hW0] at HLB
 obtain ⟨W1, hW1, hb1, hbx⟩ := box_at W0 (.slice p3 lo.length k3) (.slice p4 hi.length k4)
 rw [hsz0] at hbx
 have HB1 := Lib.hid (below_keep hb0 hb1)
 have HBX := Lib.hid hbx
 have HLB1 : Hid (∀ w', Below W1.heap.size W1 w' → LayB w' w.heap.size (.slice p1 l.sides.length k1) (.slice p2 l.over.length k2) l) := fun w' hb => HLB.out w' (by
  have h9 := below_keep hb1 hb
  rw [hsz0] at h9
  exact h9)
 obtain ⟨ss, oo, o, t, f, c'⟩ := l
 simp only at hW0 hW1 HLB1
 obtain ⟨l0, l1, l2, l3, l4, l5⟩ := HLB1.out W1 (Below.refl _ _)
 obtain ⟨d0, d1, -⟩ := HBX.out W1 (Below.refl _ _)
 clear hb0 hb1 hsz0 HLB hbx hl hlo hhi hca h CF
 go_enter Tryz.func13, Tryz.ntmps13
 go_upto_region 1 with (fail)
 rw [← hW0]
 rw [← hW1]
 clear hW0 hW1
 go_wp2_with fail
 refine (CO.out _ HB1.out).mono ?_
 rintro e w2 ⟨rfl, hb⟩
 have HC2 := Lib.hid hb
 have HB2 := Lib.hid (below_keep HB1.out hb)
 clear hb CO d0 d1 l0 l1 l2 l3 l4 l5
 obtain ⟨d0, d1, -⟩ := HBX.out w2 HC2.out
 go_wp2
 go_ret2
 exact ⟨rfl, HB2.out⟩
set_option maxHeartbeats 16000000 in
set_option maxRecDepth 100000 in
theorem rank_form (vs vo vlo vhi va : Value) (l : LayT) (lo hi c : List Int) (w : World) (hl : LayR w vs vo l) (hlo : Ints w vlo lo) (hhi : Ints w vhi hi) (hca : Ints w va c) (h : orderedB l.order l.tile = true) (h2 : formedB lo hi = false) :
  Calls Tryz.prog 13 #[layV vs vo l, .agg #[vlo, vhi], va] w (RetV' (.tuple #[.int .i64 0, .int .i64 13]) w) := by
 have CO := Lib.hid (fun w1 (hb : Below w.heap.size w w1) => ordered_any vs vo l w1 (hl.later hb))
 have CF := Lib.hid (fun w1 (hb : Below w.heap.size w w1) => formed_any vlo vhi lo hi w1 (hlo.later IntR.lasts hb) (hhi.later IntR.lasts hb))
 rw [h] at CO
 rw [h2] at CF
 have HL := Lib.hid hl
 have HLO := Lib.hid hlo
 have HCA := Lib.hid hca
 obtain ⟨p5, k5, rfl, -⟩ := hca.shape
 obtain ⟨p1, k1, rfl, -⟩ := hl.sides.shape
 obtain ⟨p2, k2, rfl, -⟩ := hl.over.shape
 obtain ⟨p3, k3, rfl, -⟩ := hlo.shape
 obtain ⟨p4, k4, rfl, -⟩ := hhi.shape
 obtain ⟨W0, hW0⟩ : ∃ W0, W0 = w.alloc (.cells #[.slice p1 l.sides.length k1, .slice p2 l.over.length k2, .int .i64 l.order, .int .i64 l.tile, .int .i64 l.form, .int .i64 l.codec] 32) := ⟨_, rfl⟩
 have hsz0 : W0.heap.size = w.heap.size + 1 := by rw [hW0]; simp
 have HLB := Lib.hid (fun w' hb => LayB.made w (.slice p1 l.sides.length k1) (.slice p2 l.over.length k2) l 32 w' hb)
 have hb0 : Below w.heap.size w W0 := by rw [hW0]; exact below_alloc _ _
 rw [← hW0] at HLB
 obtain ⟨W1, hW1, hb1, hbx⟩ := box_at W0 (.slice p3 lo.length k3) (.slice p4 hi.length k4)
 rw [hsz0] at hbx
 have HB1 := Lib.hid (below_keep hb0 hb1)
 have HBX := Lib.hid hbx
 have HLB1 : Hid (∀ w', Below W1.heap.size W1 w' → LayB w' w.heap.size (.slice p1 l.sides.length k1) (.slice p2 l.over.length k2) l) := fun w' hb => HLB.out w' (by
  have h9 := below_keep hb1 hb
  rw [hsz0] at h9
  exact h9)
 obtain ⟨ss, oo, o, t, f, c'⟩ := l
 simp only at hW0 hW1 HLB1
 obtain ⟨l0, l1, l2, l3, l4, l5⟩ := HLB1.out W1 (Below.refl _ _)
 obtain ⟨d0, d1, -⟩ := HBX.out W1 (Below.refl _ _)
 clear hb0 hb1 hsz0 HLB hbx hl hlo hhi hca h h2
 go_enter Tryz.func13, Tryz.ntmps13
 go_upto_region 1 with (fail)
 rw [← hW0]
 rw [← hW1]
 clear hW0 hW1
 go_wp2_with fail
 refine (CO.out _ HB1.out).mono ?_
 rintro e w2 ⟨rfl, hb⟩
 have HC2 := Lib.hid hb
 have HB2 := Lib.hid (below_keep HB1.out hb)
 clear hb CO d0 d1 l0 l1 l2 l3 l4 l5
 obtain ⟨d0, d1, -⟩ := HBX.out w2 HC2.out
 go_wp2_with fail
 refine (CF.out _ HB2.out).mono ?_
 rintro e w3 ⟨rfl, hb⟩
 have HC3 := Lib.hid (below_keep HC2.out hb)
 have HB3 := Lib.hid (below_keep HB2.out hb)
 clear hb CF d0 d1
 obtain ⟨d0, d1, -⟩ := HBX.out w3 HC3.out
 go_wp2
 go_ret2
 exact ⟨rfl, HB3.out⟩
set_option maxHeartbeats 16000000 in
set_option maxRecDepth 100000 in
theorem rank_len (vs vo vlo vhi va : Value) (l : LayT) (lo hi c : List Int) (w : World) (hl : LayR w vs vo l) (hlo : Ints w vlo lo) (hhi : Ints w vhi hi) (hca : Ints w va c) (h : orderedB l.order l.tile = true) (h2 : formedB lo hi = true) (hn : c.length ≠ lo.length) :
  Calls Tryz.prog 13 #[layV vs vo l, .agg #[vlo, vhi], va] w (RetV' (.tuple #[.int .i64 0, .int .i64 13]) w) := by
 have CO := Lib.hid (fun w1 (hb : Below w.heap.size w w1) => ordered_any vs vo l w1 (hl.later hb))
 have CF := Lib.hid (fun w1 (hb : Below w.heap.size w w1) => formed_any vlo vhi lo hi w1 (hlo.later IntR.lasts hb) (hhi.later IntR.lasts hb))
 rw [h] at CO
 rw [h2] at CF
 have hnn : (((c.length : Nat) : Int) != ((lo.length : Nat) : Int)) = true := by rw [bne_iff_ne]; omega
 have HL := Lib.hid hl
 have HLO := Lib.hid hlo
 have HCA := Lib.hid hca
 obtain ⟨p5, k5, rfl, -⟩ := hca.shape
 obtain ⟨p1, k1, rfl, -⟩ := hl.sides.shape
 obtain ⟨p2, k2, rfl, -⟩ := hl.over.shape
 obtain ⟨p3, k3, rfl, -⟩ := hlo.shape
 obtain ⟨p4, k4, rfl, -⟩ := hhi.shape
 obtain ⟨W0, hW0⟩ : ∃ W0, W0 = w.alloc (.cells #[.slice p1 l.sides.length k1, .slice p2 l.over.length k2, .int .i64 l.order, .int .i64 l.tile, .int .i64 l.form, .int .i64 l.codec] 32) := ⟨_, rfl⟩
 have hsz0 : W0.heap.size = w.heap.size + 1 := by rw [hW0]; simp
 have HLB := Lib.hid (fun w' hb => LayB.made w (.slice p1 l.sides.length k1) (.slice p2 l.over.length k2) l 32 w' hb)
 have hb0 : Below w.heap.size w W0 := by rw [hW0]; exact below_alloc _ _
 rw [← hW0] at HLB
 obtain ⟨W1, hW1, hb1, hbx⟩ := box_at W0 (.slice p3 lo.length k3) (.slice p4 hi.length k4)
 rw [hsz0] at hbx
 have HB1 := Lib.hid (below_keep hb0 hb1)
 have HBX := Lib.hid hbx
 have HLB1 : Hid (∀ w', Below W1.heap.size W1 w' → LayB w' w.heap.size (.slice p1 l.sides.length k1) (.slice p2 l.over.length k2) l) := fun w' hb => HLB.out w' (by
  have h9 := below_keep hb1 hb
  rw [hsz0] at h9
  exact h9)
 obtain ⟨ss, oo, o, t, f, c'⟩ := l
 simp only at hW0 hW1 HLB1
 obtain ⟨l0, l1, l2, l3, l4, l5⟩ := HLB1.out W1 (Below.refl _ _)
 obtain ⟨d0, d1, -⟩ := HBX.out W1 (Below.refl _ _)
 clear hb0 hb1 hsz0 HLB hbx hl hlo hhi hca h h2 hn
 go_enter Tryz.func13, Tryz.ntmps13
 go_upto_region 1 with (fail)
 rw [← hW0]
 rw [← hW1]
 clear hW0 hW1
 go_wp2_with fail
 refine (CO.out _ HB1.out).mono ?_
 rintro e w2 ⟨rfl, hb⟩
 have HC2 := Lib.hid hb
 have HB2 := Lib.hid (below_keep HB1.out hb)
 clear hb CO d0 d1 l0 l1 l2 l3 l4 l5
 obtain ⟨d0, d1, -⟩ := HBX.out w2 HC2.out
 go_wp2_with fail
 refine (CF.out _ HB2.out).mono ?_
 rintro e w3 ⟨rfl, hb⟩
 have HC3 := Lib.hid (below_keep HC2.out hb)
 have HB3 := Lib.hid (below_keep HB2.out hb)
 clear hb CF d0 d1
 obtain ⟨d0, d1, -⟩ := HBX.out w3 HC3.out
 go_wp2
 go_ret2
 exact ⟨rfl, HB3.out⟩
set_option maxHeartbeats 16000000 in
set_option maxRecDepth 100000 in
theorem rank_lim (vs vo vlo vhi va : Value) (l : LayT) (lo hi c : List Int) (w : World) (hl : LayR w vs vo l) (hlo : Ints w vlo lo) (hhi : Ints w vhi hi) (hca : Ints w va c) (hmin : ∀ x ∈ lo, -9223372036854775808 ≤ x) (h : orderedB l.order l.tile = true) (h2 : formedB lo hi = true) (hn : c.length = lo.length) (h3 : limE lo hi ≠ 0) :
  Calls Tryz.prog 13 #[layV vs vo l, .agg #[vlo, vhi], va] w (RetV' (.tuple #[.int .i64 0, .int .i64 (limE lo hi)]) w) := by
 have CO := Lib.hid (fun w1 (hb : Below w.heap.size w w1) => ordered_any vs vo l w1 (hl.later hb))
 have CF := Lib.hid (fun w1 (hb : Below w.heap.size w w1) => formed_any vlo vhi lo hi w1 (hlo.later IntR.lasts hb) (hhi.later IntR.lasts hb))
 rw [h] at CO
 have hfm := h2
 unfold formedB at hfm
 simp only [Bool.and_eq_true, decide_eq_true_eq] at hfm
 have CL := Lib.hid (fun w1 (hb : Below w.heap.size w w1) => limited_any vlo vhi lo hi w1 (hlo.later IntR.lasts hb) (hhi.later IntR.lasts hb) hfm.1.1.symm hfm.2 hmin)
 rw [h2] at CF
 have hnn : (((lo.length : Nat) : Int) != ((lo.length : Nat) : Int)) = false := by simp
 obtain ⟨E, hE⟩ : ∃ E, E = limE lo hi := ⟨_, rfl⟩
 rw [← hE] at CL h3 ⊢
 have tE : (E != 0) = true := by rw [bne_iff_ne]; exact h3
 have HL := Lib.hid hl
 have HLO := Lib.hid hlo
 have HCA := Lib.hid hca
 obtain ⟨p5, k5, rfl, -⟩ := hca.shape
 rw [hn] at HCA ⊢
 obtain ⟨p1, k1, rfl, -⟩ := hl.sides.shape
 obtain ⟨p2, k2, rfl, -⟩ := hl.over.shape
 obtain ⟨p3, k3, rfl, -⟩ := hlo.shape
 obtain ⟨p4, k4, rfl, -⟩ := hhi.shape
 obtain ⟨W0, hW0⟩ : ∃ W0, W0 = w.alloc (.cells #[.slice p1 l.sides.length k1, .slice p2 l.over.length k2, .int .i64 l.order, .int .i64 l.tile, .int .i64 l.form, .int .i64 l.codec] 32) := ⟨_, rfl⟩
 have hsz0 : W0.heap.size = w.heap.size + 1 := by rw [hW0]; simp
 have HLB := Lib.hid (fun w' hb => LayB.made w (.slice p1 l.sides.length k1) (.slice p2 l.over.length k2) l 32 w' hb)
 have hb0 : Below w.heap.size w W0 := by rw [hW0]; exact below_alloc _ _
 rw [← hW0] at HLB
 obtain ⟨W1, hW1, hb1, hbx⟩ := box_at W0 (.slice p3 lo.length k3) (.slice p4 hi.length k4)
 rw [hsz0] at hbx
 have HB1 := Lib.hid (below_keep hb0 hb1)
 have HBX := Lib.hid hbx
 have HLB1 : Hid (∀ w', Below W1.heap.size W1 w' → LayB w' w.heap.size (.slice p1 l.sides.length k1) (.slice p2 l.over.length k2) l) := fun w' hb => HLB.out w' (by
  have h9 := below_keep hb1 hb
  rw [hsz0] at h9
  exact h9)
 obtain ⟨ss, oo, o, t, f, c'⟩ := l
 simp only at hW0 hW1 HLB1
 obtain ⟨l0, l1, l2, l3, l4, l5⟩ := HLB1.out W1 (Below.refl _ _)
 obtain ⟨d0, d1, -⟩ := HBX.out W1 (Below.refl _ _)
 clear hb0 hb1 hsz0 HLB hbx hl hlo hhi hca h h2 hn h3 hE hmin hfm
 go_enter Tryz.func13, Tryz.ntmps13
 go_upto_region 1 with (fail)
 rw [← hW0]
 rw [← hW1]
 clear hW0 hW1
 go_wp2_with fail
 refine (CO.out _ HB1.out).mono ?_
 rintro e w2 ⟨rfl, hb⟩
 have HC2 := Lib.hid hb
 have HB2 := Lib.hid (below_keep HB1.out hb)
 clear hb CO d0 d1 l0 l1 l2 l3 l4 l5
 obtain ⟨d0, d1, -⟩ := HBX.out w2 HC2.out
 go_wp2_with fail
 refine (CF.out _ HB2.out).mono ?_
 rintro e w3 ⟨rfl, hb⟩
 have HC3 := Lib.hid (below_keep HC2.out hb)
 have HB3 := Lib.hid (below_keep HB2.out hb)
 clear hb CF d0 d1
 obtain ⟨d0, d1, -⟩ := HBX.out w3 HC3.out
 go_wp2_with fail
 refine (CL.out _ HB3.out).mono ?_
 rintro e w4 ⟨rfl, hb⟩
 have HB4 := Lib.hid (below_keep HB3.out hb)
 clear hb CL d0 d1
 go_wp2
 go_ret2
 exact ⟨rfl, HB4.out⟩
set_option maxHeartbeats 16000000 in
set_option maxRecDepth 100000 in
theorem rank_out (vs vo vlo vhi va : Value) (l : LayT) (lo hi c : List Int) (w : World) (hl : LayR w vs vo l) (hlo : Ints w vlo lo) (hhi : Ints w vhi hi) (hca : Ints w va c) (hmin : ∀ x ∈ lo, -9223372036854775808 ≤ x) (h : orderedB l.order l.tile = true) (h2 : formedB lo hi = true) (hn : c.length = lo.length) (h3 : limE lo hi = 0) (h4 : hasB lo hi c = false) :
  Calls Tryz.prog 13 #[layV vs vo l, .agg #[vlo, vhi], va] w (RetV' (.tuple #[.int .i64 0, .int .i64 3]) w) := by
 have CO := Lib.hid (fun w1 (hb : Below w.heap.size w w1) => ordered_any vs vo l w1 (hl.later hb))
 have CF := Lib.hid (fun w1 (hb : Below w.heap.size w w1) => formed_any vlo vhi lo hi w1 (hlo.later IntR.lasts hb) (hhi.later IntR.lasts hb))
 rw [h] at CO
 have hfm := h2
 unfold formedB at hfm
 simp only [Bool.and_eq_true, decide_eq_true_eq] at hfm
 have CL := Lib.hid (fun w1 (hb : Below w.heap.size w w1) => limited_any vlo vhi lo hi w1 (hlo.later IntR.lasts hb) (hhi.later IntR.lasts hb) hfm.1.1.symm hfm.2 hmin)
 rw [h2] at CF
 rw [h3] at CL
 have hnn : (((lo.length : Nat) : Int) != ((lo.length : Nat) : Int)) = false := by simp
 have CH := Lib.hid (fun w1 (hb : Below w.heap.size w w1) => has_any vlo vhi va lo hi c w1 (hlo.later IntR.lasts hb) (hhi.later IntR.lasts hb) (hca.later IntR.lasts hb))
 rw [h4] at CH
 have HL := Lib.hid hl
 have HLO := Lib.hid hlo
 have HCA := Lib.hid hca
 obtain ⟨p5, k5, rfl, -⟩ := hca.shape
 rw [hn] at HCA CH ⊢
 obtain ⟨p1, k1, rfl, -⟩ := hl.sides.shape
 obtain ⟨p2, k2, rfl, -⟩ := hl.over.shape
 obtain ⟨p3, k3, rfl, -⟩ := hlo.shape
 obtain ⟨p4, k4, rfl, -⟩ := hhi.shape
 obtain ⟨W0, hW0⟩ : ∃ W0, W0 = w.alloc (.cells #[.slice p1 l.sides.length k1, .slice p2 l.over.length k2, .int .i64 l.order, .int .i64 l.tile, .int .i64 l.form, .int .i64 l.codec] 32) := ⟨_, rfl⟩
 have hsz0 : W0.heap.size = w.heap.size + 1 := by rw [hW0]; simp
 have HLB := Lib.hid (fun w' hb => LayB.made w (.slice p1 l.sides.length k1) (.slice p2 l.over.length k2) l 32 w' hb)
 have hb0 : Below w.heap.size w W0 := by rw [hW0]; exact below_alloc _ _
 rw [← hW0] at HLB
 obtain ⟨W1, hW1, hb1, hbx⟩ := box_at W0 (.slice p3 lo.length k3) (.slice p4 hi.length k4)
 rw [hsz0] at hbx
 have HB1 := Lib.hid (below_keep hb0 hb1)
 have HBX := Lib.hid hbx
 have HLB1 : Hid (∀ w', Below W1.heap.size W1 w' → LayB w' w.heap.size (.slice p1 l.sides.length k1) (.slice p2 l.over.length k2) l) := fun w' hb => HLB.out w' (by
  have h9 := below_keep hb1 hb
  rw [hsz0] at h9
  exact h9)
 obtain ⟨ss, oo, o, t, f, c'⟩ := l
 simp only at hW0 hW1 HLB1
 obtain ⟨l0, l1, l2, l3, l4, l5⟩ := HLB1.out W1 (Below.refl _ _)
 obtain ⟨d0, d1, -⟩ := HBX.out W1 (Below.refl _ _)
 clear hb0 hb1 hsz0 HLB hbx hl hlo hhi hca h h2 hn h3 h4 hmin hfm
 go_enter Tryz.func13, Tryz.ntmps13
 go_upto_region 1 with (fail)
 rw [← hW0]
 rw [← hW1]
 clear hW0 hW1
 go_wp2_with fail
 refine (CO.out _ HB1.out).mono ?_
 rintro e w2 ⟨rfl, hb⟩
 have HC2 := Lib.hid hb
 have HB2 := Lib.hid (below_keep HB1.out hb)
 clear hb CO d0 d1 l0 l1 l2 l3 l4 l5
 obtain ⟨d0, d1, -⟩ := HBX.out w2 HC2.out
 go_wp2_with fail
 refine (CF.out _ HB2.out).mono ?_
 rintro e w3 ⟨rfl, hb⟩
 have HC3 := Lib.hid (below_keep HC2.out hb)
 have HB3 := Lib.hid (below_keep HB2.out hb)
 clear hb CF d0 d1
 obtain ⟨d0, d1, -⟩ := HBX.out w3 HC3.out
 go_wp2_with fail
 refine (CL.out _ HB3.out).mono ?_
 rintro e w4 ⟨rfl, hb⟩
 have HC4 := Lib.hid (below_keep HC3.out hb)
 have HB4 := Lib.hid (below_keep HB3.out hb)
 clear hb CL d0 d1
 obtain ⟨d0, d1, -⟩ := HBX.out w4 HC4.out
 go_wp2_with fail
 refine (CH.out _ HB4.out).mono ?_
 rintro e w5 ⟨rfl, hb⟩
 have HB5 := Lib.hid (below_keep HB4.out hb)
 clear hb CH d0 d1
 go_wp2
 go_ret2
 exact ⟨rfl, HB5.out⟩
end Go.Proofs.YtkliekoheeeamaaGreatDoor
/- The law's large: some answer. -/
namespace Go.Proofs.YtkliekoheeeamaaGreatDoor
open Go.RowKit

def RetBl (w : World) (e : Ending) (w' : World) : Prop := ∃ b : Bool, e = .returned (.bool b) ∧ Below w.heap.size w w'
set_option maxHeartbeats 16000000 in
set_option maxRecDepth 100000 in
theorem large_any (vlo vhi : Value) (lo hi : List Int) (w : World) (hlo : Ints w vlo lo) (hhi : Ints w vhi hi) (hmin : ∀ x ∈ lo, -9223372036854775808 ≤ x) :
  Calls Tryz.prog 11 #[.agg #[vlo, vhi]] w (RetBl w) := by
 have CF := Lib.hid (fun w1 (hb : Below w.heap.size w w1) => rformed_any vlo vhi lo hi w1 (hlo.later IntR.lasts hb) (hhi.later IntR.lasts hb))
 have HLO := Lib.hid hlo
 have HHI := Lib.hid hhi
 have HM := Lib.hid hmin
 obtain ⟨a1, c1, rfl, -⟩ := hlo.shape
 obtain ⟨a2, c2, rfl, -⟩ := hhi.shape
 obtain ⟨W, hW, hbW, hbx⟩ := box_at w (.slice a1 lo.length c1) (.slice a2 hi.length c2)
 have HBW := Lib.hid hbW
 have HBX := Lib.hid hbx
 obtain ⟨e0, e1, -⟩ := hbx W (Below.refl _ _)
 have HFB : Hid (formedB lo hi = true → lo.length = hi.length ∧ lo.length ≤ 4) := fun h => by
  unfold formedB at h
  simp only [Bool.and_eq_true, decide_eq_true_eq] at h
  exact ⟨h.1.1, h.2⟩
 obtain ⟨FB, hFB⟩ : ∃ FB, FB = formedB lo hi := ⟨_, rfl⟩
 rw [← hFB] at HFB CF
 clear hlo hhi hmin hbW hbx hFB
 go_enter Tryz.func11, Tryz.ntmps11
 go_upto_region 1 with (fail)
 rw [← hW]
 clear hW
 go_wp2_with fail
 refine (CF.out _ HBW.out).mono ?_
 rintro e w1 ⟨rfl, hb⟩
 have HC1 := Lib.hid hb
 have HB1 := Lib.hid (below_keep HBW.out hb)
 clear hb CF e0 e1
 cases FB with
 | false =>
  go_wp2
  go_ret
  exact ⟨_, rfl, HB1.out⟩
 | true =>
  have HL := Lib.hid (HFB.out rfl)
  obtain ⟨e0, e1, -⟩ := HBX.out w1 HC1.out
  go_wp2
  go_loopw [3, 4] (fun nv iv wr => ∃ (i : Nat) (n : Int), i ≤ lo.length ∧ nv = .int .i64 n ∧ iv = .int .i64 (i : Nat) ∧ Hid (1 ≤ n ∧ n ≤ 4096) ∧ Below w1.heap.size w1 wr) (fun _ iv _ => lo.length - (intOf iv).toNat)
  case atStart => exact ⟨0, 1, Nat.zero_le _, rfl, rfl, ⟨by omega, by omega⟩, Below.refl _ _⟩
  case round =>
   clear e0 e1
   obtain ⟨i, n, hi', rfl, rfl, HNB, hb⟩ := hrel
   have HB := Lib.hid hb
   have HBE := Lib.hid (below_keep HB1.out hb)
   obtain ⟨e0, e1, -⟩ := HBX.out wr (below_keep HC1.out hb)
   by_cases hlt : i < lo.length
   ·obtain ⟨gl, ol, l, el, hl, hrl⟩ := HLO.out.at i hlt
    obtain ⟨gh, oh, h, eh, hh, hrh⟩ := HHI.out.at i (by rw [← HL.out.1]; exact hlt)
    subst el eh
    rw [Nat.mul_one] at hrl hrh
    have hrl : w.cell? ⟨gl, ol + i, none⟩ = some (.int .i64 l) := hrl
    have hrh : w.cell? ⟨gh, oh + i, none⟩ = some (.int .i64 h) := hrh
    have hrl := cell_later hrl HBE.out
    have hrh := cell_later hrh HBE.out
    have g3 := HM.out l (List.mem_of_getElem? hl)
    have ib0 : (0 : Int) ≤ (i : Int) := by omega
    have ib1 : (i : Int) < (lo.length : Int) := by omega
    have ib2 : (i : Int) < (hi.length : Int) := by have := HL.out.1; omega
    have ib4 : (lo.length : Int) ≤ 4 := by have := HL.out.2; omega
    have HI1 : Hid (i + 1 ≤ lo.length ∧ lo.length - (i + 1) < lo.length - i) := by show _ ∧ _; omega
    clear hl hh hlt hi' hb
    by_cases hA : 1073741825 ≤ h
    ·have t1 : decide ((1073741825 : Int) ≤ h) = true := decide_eq_true hA
     clear hA
     go_wp2_with fail
     go_quiet (fail)
     have HB2 := Lib.hid (below_keep HBE.out (below_drewN' wr nq))
     go_wp2
     go_ret
     exact ⟨_, rfl, HB2.out⟩
    have t1 : decide ((1073741825 : Int) ≤ h) = false := decide_eq_false hA
    by_cases hB : h < l
    ·have t2 : decide (h < l) = true := decide_eq_true hB
     clear hA hB
     go_wp2_with fail
     go_quiet (fail)
     have HB2 := Lib.hid (below_keep HBE.out (below_drewN' wr nq))
     go_wp2
     go_ret
     exact ⟨_, rfl, HB2.out⟩
    have t2 : decide (h < l) = false := decide_eq_false hB
    have hw : IntKind.u64.wrap (IntKind.u64.wrap h - IntKind.u64.wrap l) = h - l := by
     rw [IntKind.wrap_u64, IntKind.wrap_u64, IntKind.wrap_u64]; omega
    by_cases hC : 4096 ≤ h - l
    ·have t3 : decide ((4096 : Int) ≤ h - l) = true := decide_eq_true hC
     clear hA hB hC
     go_wp2_with fail
     go_quiet (fail)
     have HB2 := Lib.hid (below_keep HBE.out (below_drewN' wr nq))
     go_wp2
     go_ret
     exact ⟨_, rfl, HB2.out⟩
    have t3 : decide ((4096 : Int) ≤ h - l) = false := decide_eq_false hC
    obtain ⟨m, hm⟩ : ∃ m, m = h - l + 1 := ⟨_, rfl⟩
    have hm1 : 1 ≤ m := by omega
    have hm2 : m ≤ 4096 := by omega
    have wm1 : IntKind.i64.wrap (h - l) = h - l := IntWalk.i64_in _ (by omega)
    have wm2 : IntKind.i64.wrap (h - l + 1) = m := by rw [hm]; exact IntWalk.i64_in _ (by omega)
    obtain ⟨p, hp⟩ : ∃ p, p = n * m := ⟨_, rfl⟩
    have hp1 : 1 ≤ p := by
     have := Int.mul_le_mul (show (1 : Int) ≤ n from HNB.out.1) hm1 (by omega) (by have := HNB.out.1; omega)
     rw [hp]; omega
    have hp2 : p ≤ 16777216 := by
     have := Int.mul_le_mul (show n ≤ (4096 : Int) from HNB.out.2) hm2 (by omega) (by omega)
     rw [hp]; omega
    have wp1 : IntKind.i64.wrap (n * m) = p := by rw [← hp]; exact IntWalk.i64_in _ (by omega)
    clear hA hB hC hm hp
    go_wp2_with fail
    go_quiet (fail)
    obtain ⟨W2, hW2⟩ : ∃ W2, W2 = wr.drewN nq := ⟨_, rfl⟩
    have HB2 : Hid (Below w1.heap.size w1 W2) := by show Below _ _ _; rw [hW2]; exact below_keep HB.out (below_drewN' wr nq)
    have HBE2 : Hid (Below w.heap.size w W2) := below_keep HB1.out HB2.out
    have hrl : W2.cell? ⟨gl, ol + i, none⟩ = some (.int .i64 l) := by rw [hW2]; exact cell_later hrl (below_drewN' wr nq)
    have hrh : W2.cell? ⟨gh, oh + i, none⟩ = some (.int .i64 h) := by rw [hW2]; exact cell_later hrh (below_drewN' wr nq)
    have e0 : W2.cell? ⟨w.heap.size, 0, none⟩ = some (.slice (some ⟨gl, ol, none⟩) lo.length c1) := by rw [hW2]; exact cell_later e0 (below_drewN' wr nq)
    have e1 : W2.cell? ⟨w.heap.size, 1, none⟩ = some (.slice (some ⟨gh, oh, none⟩) hi.length c2) := by rw [hW2]; exact cell_later e1 (below_drewN' wr nq)
    rw [← hW2]
    clear hW2
    by_cases hbig : 4096 < p
    ·go_wp2_with fail
     go_quiet (fail)
     have HB3 := Lib.hid (below_keep HBE2.out (below_drewN' W2 nq))
     go_wp2
     go_ret
     exact ⟨_, rfl, HB3.out⟩
    ·have HNB2 : Hid (1 ≤ p ∧ p ≤ 4096) := by show _ ∧ _; omega
     go_wp2_with fail
     go_quiet (fail)
     have HB3 := Lib.hid (below_keep HB2.out (below_drewN' W2 nq))
     go_wp2
     exact ⟨⟨i + 1, p, HI1.out.1, rfl, by go_num, HNB2.out, HB3.out⟩, HI1.out.2⟩
   ·have hin : i = lo.length := by omega
    have hni : ¬ (i : Int) < (lo.length : Int) := by omega
    clear hin hlt hi' hb
    go_wp2
    go_ret
    exact ⟨_, rfl, HBE.out⟩
end Go.Proofs.YtkliekoheeeamaaGreatDoor
/- The walk of SpaceOrder. -/
namespace Go.Proofs.YtkliekoheeeamaaGreatDoor
open Go.RowKit

/-- what both return -/
structure OrdC (vs vo vlo vhi va : Value) (l : LayT) (w : World) (P : List (List Int) → Prop) (E V F : Int) : Prop where
 one : ∀ r r', P r → P r' → r = r'
 s1 : ∀ w1, Below w.heap.size w w1 → Calls Tryz.prog 8 #[layV vs vo l, .agg #[vlo, vhi]] w1 (RetRows P E w1)
 s2 : ∀ w1, Below w.heap.size w w1 → Calls Tryz.prog 12 #[layV vs vo l, .agg #[vlo, vhi]] w1 (RetRows P E w1)
 r1 : ∀ w1, Below w.heap.size w w1 → Calls Tryz.prog 13 #[layV vs vo l, .agg #[vlo, vhi], va] w1 (RetV' (.tuple #[.int .i64 V, .int .i64 F]) w1)
 r2 : ∀ w1, Below w.heap.size w w1 → Calls Tryz.prog 14 #[layV vs vo l, .agg #[vlo, vhi], va] w1 (RetV' (.tuple #[.int .i64 V, .int .i64 F]) w1)
theorem ordC_any (vs vo vlo vhi va : Value) (l : LayT) (lo hi c : List Int) (w : World) (hl : LayR w vs vo l) (hlo : Ints w vlo lo) (hhi : Ints w vhi hi) (hca : Ints w va c) (hmin : ∀ x ∈ lo, -9223372036854775808 ≤ x) :
  ∃ P E V F, OrdC vs vo vlo vhi va l w P E V F := by
 have HL := fun w1 (hb : Below w.heap.size w w1) => hl.later hb
 have HO := fun w1 (hb : Below w.heap.size w w1) => hlo.later IntR.lasts hb
 have HH := fun w1 (hb : Below w.heap.size w w1) => hhi.later IntR.lasts hb
 have HC := fun w1 (hb : Below w.heap.size w w1) => hca.later IntR.lasts hb
 have hnil : ∀ r r' : List (List Int), r = [] → r' = [] → r = r' := fun r r' h1 h2 => h1.trans h2.symm
 cases h : orderedB l.order l.tile with
 | false =>
  exact ⟨(· = []), 2, 0, 2, hnil, fun w1 hb => seq_bad _ _ _ _ l lo hi w1 (HL w1 hb) (HO w1 hb) (HH w1 hb) h, fun w1 hb => rseq_bad _ _ _ _ l lo hi w1 (HL w1 hb) (HO w1 hb) (HH w1 hb) h,
   fun w1 hb => rank_bad _ _ _ _ _ l lo hi c w1 (HL w1 hb) (HO w1 hb) (HH w1 hb) (HC w1 hb) h, fun w1 hb => rrank_bad _ _ _ _ _ l lo hi c w1 (HL w1 hb) (HO w1 hb) (HH w1 hb) (HC w1 hb) h⟩
 | true =>
  cases h2 : formedB lo hi with
  | false =>
   exact ⟨(· = []), 13, 0, 13, hnil, fun w1 hb => seq_shape _ _ _ _ l lo hi w1 (HL w1 hb) (HO w1 hb) (HH w1 hb) h h2, fun w1 hb => rseq_shape _ _ _ _ l lo hi w1 (HL w1 hb) (HO w1 hb) (HH w1 hb) h h2,
    fun w1 hb => rank_form _ _ _ _ _ l lo hi c w1 (HL w1 hb) (HO w1 hb) (HH w1 hb) (HC w1 hb) h h2, fun w1 hb => rrank_form _ _ _ _ _ l lo hi c w1 (HL w1 hb) (HO w1 hb) (HH w1 hb) (HC w1 hb) h h2⟩
  | true =>
   have hfm := h2
   unfold formedB at hfm
   simp only [Bool.and_eq_true, decide_eq_true_eq] at hfm
   by_cases h3 : limE lo hi = 0
   ·have hbs := boxS_of h2 h3
    have hone : ∀ r r', SortedBy l lo hi r → SortedBy l lo hi r' → r = r' := fun r r' => sorted_one hbs
    have hfn := ofV_all l.order l.tile (bitsL 0 lo hi) lo.length hfm.1.2 hfm.2 hbs.bits h
    have S1 := fun w1 (hb : Below w.heap.size w w1) => seq_all _ _ _ _ l lo hi w1 (HL w1 hb) (HO w1 hb) (HH w1 hb) hmin h h2 h3 hfn
    have S2 := fun w1 (hb : Below w.heap.size w w1) => rseq_good _ _ _ _ l lo hi w1 (HL w1 hb) (HO w1 hb) (HH w1 hb) hmin h h2 h3
    by_cases hn : c.length = lo.length
    ·have R2 := fun w1 (hb : Below w.heap.size w w1) => rrank_good _ _ _ _ _ l lo hi c w1 (HL w1 hb) (HO w1 hb) (HH w1 hb) (HC w1 hb) hmin h h2 hn h3
     cases h4 : hasB lo hi c with
     | true =>
      rw [h4] at R2
      have hin := has_in h2 h3 hn h4
      exact ⟨_, 0, ((rankN l lo hi c : Nat) : Int), 0, hone, S1, S2, fun w1 hb => rank_core _ _ _ _ _ l lo hi c w1 (HL w1 hb) (HO w1 hb) (HH w1 hb) (HC w1 hb) hmin h h2 hn h3 h4 (pts_ok h3 hbs.len ((inBox_of hbs.len).2 hin)) hfn, R2⟩
     | false =>
      rw [h4] at R2
      exact ⟨_, 0, 0, 3, hone, S1, S2, fun w1 hb => rank_out _ _ _ _ _ l lo hi c w1 (HL w1 hb) (HO w1 hb) (HH w1 hb) (HC w1 hb) hmin h h2 hn h3 h4, R2⟩
    ·exact ⟨_, 0, 0, 13, hone, S1, S2, fun w1 hb => rank_len _ _ _ _ _ l lo hi c w1 (HL w1 hb) (HO w1 hb) (HH w1 hb) (HC w1 hb) h h2 hn, fun w1 hb => rrank_len _ _ _ _ _ l lo hi c w1 (HL w1 hb) (HO w1 hb) (HH w1 hb) (HC w1 hb) h h2 hn⟩
   ·have S1 := fun w1 (hb : Below w.heap.size w w1) => seq_lim _ _ _ _ l lo hi w1 (HL w1 hb) (HO w1 hb) (HH w1 hb) hmin h h2 h3
    have S2 := fun w1 (hb : Below w.heap.size w w1) => rseq_lim _ _ _ _ l lo hi w1 (HL w1 hb) (HO w1 hb) (HH w1 hb) hmin h h2 h3
    by_cases hn : c.length = lo.length
    ·exact ⟨_, _, 0, _, hnil, S1, S2, fun w1 hb => rank_lim _ _ _ _ _ l lo hi c w1 (HL w1 hb) (HO w1 hb) (HH w1 hb) (HC w1 hb) hmin h h2 hn h3, fun w1 hb => rrank_lim _ _ _ _ _ l lo hi c w1 (HL w1 hb) (HO w1 hb) (HH w1 hb) (HC w1 hb) hmin h h2 hn h3⟩
    ·exact ⟨_, _, 0, 13, hnil, S1, S2, fun w1 hb => rank_len _ _ _ _ _ l lo hi c w1 (HL w1 hb) (HO w1 hb) (HH w1 hb) (HC w1 hb) h h2 hn, fun w1 hb => rrank_len _ _ _ _ _ l lo hi c w1 (HL w1 hb) (HO w1 hb) (HH w1 hb) (HC w1 hb) h h2 hn⟩
set_option maxHeartbeats 16000000 in
set_option maxRecDepth 100000 in
theorem spaceOrder_any (l : LayT) (lo hi c : List Int) (vs vo vlo vhi va : Value) (w : World) (hm : Ml w) (hl : LayR w vs vo l) (hlo : Ints w vlo lo) (hhi : Ints w vhi hi) (hca : Ints w va c) (hmin : ∀ x ∈ lo, -9223372036854775808 ≤ x) :
  Calls Tryz.prog 4 #[layV vs vo l, .agg #[vlo, vhi], va] w (RetV' (.bool true) w) := by
 have CW := Lib.hid (fun w1 (hb : Below w.heap.size w w1) => works_any w1 (hm.later hb))
 have CLL := Lib.hid (fun w1 (hb : Below w.heap.size w w1) => llayout_any vs vo l w1 (hl.later hb))
 have CLG := Lib.hid (fun w1 (hb : Below w.heap.size w w1) => large_any vlo vhi lo hi w1 (hlo.later IntR.lasts hb) (hhi.later IntR.lasts hb) hmin)
 obtain ⟨P, E, V, F, oc⟩ := ordC_any vs vo vlo vhi va l lo hi c w hl hlo hhi hca hmin
 have OC := Lib.hid oc
 obtain ⟨p1, k1, rfl, -⟩ := hl.sides.shape
 obtain ⟨p2, k2, rfl, -⟩ := hl.over.shape
 obtain ⟨p3, k3, rfl, -⟩ := hlo.shape
 obtain ⟨p4, k4, rfl, -⟩ := hhi.shape
 obtain ⟨p5, k5, rfl, -⟩ := hca.shape
 obtain ⟨W0, hW0⟩ : ∃ W0, W0 = w.alloc (.cells #[.slice p1 l.sides.length k1, .slice p2 l.over.length k2, .int .i64 l.order, .int .i64 l.tile, .int .i64 l.form, .int .i64 l.codec] 32) := ⟨_, rfl⟩
 have hsz0 : W0.heap.size = w.heap.size + 1 := by rw [hW0]; simp
 have HLB := Lib.hid (fun w' hb => LayB.made w (.slice p1 l.sides.length k1) (.slice p2 l.over.length k2) l 32 w' hb)
 have hb0 : Below w.heap.size w W0 := by rw [hW0]; exact below_alloc _ _
 rw [← hW0] at HLB
 obtain ⟨W1, hW1, hb1, hbx⟩ := box_at W0 (.slice p3 lo.length k3) (.slice p4 hi.length k4)
 rw [hsz0] at hbx
 have HB1 := Lib.hid (below_keep hb0 hb1)
 have HBX := Lib.hid hbx
 have HLB1 : Hid (∀ w', Below W1.heap.size W1 w' → LayB w' w.heap.size (.slice p1 l.sides.length k1) (.slice p2 l.over.length k2) l) := fun w' hb => HLB.out w' (by
  have h9 := below_keep hb1 hb
  rw [hsz0] at h9
  exact h9)
 have tE : (E == E) = true := beq_iff_eq.2 rfl
 have tV : (V == V) = true := beq_iff_eq.2 rfl
 have tF : (F == F) = true := beq_iff_eq.2 rfl
 have HLE : Hid (lo.length ≤ 9223372036854775807 ∧ hi.length ≤ 9223372036854775807 ∧ c.length ≤ 9223372036854775807) := ⟨hlo.len, hhi.len, hca.len⟩
 obtain ⟨ss, oo, o, t, f, c'⟩ := l
 simp only at hW0 hW1 HLB1 CLL OC
 obtain ⟨l0, l1, l2, l3, l4, l5⟩ := HLB1.out W1 (Below.refl _ _)
 clear hb0 hb1 hsz0 HLB hbx hl hlo hhi hca hm hmin oc
 go_enter Tryz.func4, Tryz.ntmps4
 go_upto_region 1 with (fail)
 rw [← hW0]
 rw [← hW1]
 clear hW0 hW1
 go_wp2_with fail
 refine (CLL.out _ HB1.out).mono ?_
 rintro e w2 ⟨b, rfl, -, hb⟩
 have HC2 := Lib.hid hb
 have HB2 := Lib.hid (below_keep HB1.out hb)
 clear hb CLL l0 l1 l2 l3 l4 l5
 cases b with
 | false =>
  go_wp2_with fail
  refine (CW.out _ HB2.out).mono ?_
  rintro e z9 ⟨rfl, hb⟩
  have HBE := Lib.hid (below_keep HB2.out hb)
  clear hb CW
  go_wp2
  go_ret
  exact ⟨rfl, HBE.out⟩
 | true =>
  obtain ⟨d0, d1, -⟩ := HBX.out w2 HC2.out
  by_cases h1 : 10 < lo.length
  ·have t1 : decide ((10 : Int) < (lo.length : Int)) = true := decide_eq_true (by omega)
   clear h1
   go_wp2_with fail
   refine (CW.out _ HB2.out).mono ?_
   rintro e z9 ⟨rfl, hb⟩
   have HBE := Lib.hid (below_keep HB2.out hb)
   clear hb CW
   go_wp2
   go_ret
   exact ⟨rfl, HBE.out⟩
  have t1 : decide ((10 : Int) < (lo.length : Int)) = false := decide_eq_false (by omega)
  by_cases h2 : 10 < hi.length
  ·have t2 : decide ((10 : Int) < (hi.length : Int)) = true := decide_eq_true (by omega)
   clear h1 h2
   go_wp2_with fail
   refine (CW.out _ HB2.out).mono ?_
   rintro e z9 ⟨rfl, hb⟩
   have HBE := Lib.hid (below_keep HB2.out hb)
   clear hb CW
   go_wp2
   go_ret
   exact ⟨rfl, HBE.out⟩
  have t2 : decide ((10 : Int) < (hi.length : Int)) = false := decide_eq_false (by omega)
  by_cases h3 : 10 < c.length
  ·have t3 : decide ((10 : Int) < (c.length : Int)) = true := decide_eq_true (by omega)
   clear h1 h2 h3
   go_wp2_with fail
   refine (CW.out _ HB2.out).mono ?_
   rintro e z9 ⟨rfl, hb⟩
   have HBE := Lib.hid (below_keep HB2.out hb)
   clear hb CW
   go_wp2
   go_ret
   exact ⟨rfl, HBE.out⟩
  have t3 : decide ((10 : Int) < (c.length : Int)) = false := decide_eq_false (by omega)
  clear h1 h2 h3
  go_wp2_with fail
  refine (CLG.out _ HB2.out).mono ?_
  rintro e w3 ⟨b, rfl, hb⟩
  have HC3 := Lib.hid (below_keep HC2.out hb)
  have HB3 := Lib.hid (below_keep HB2.out hb)
  clear hb CLG d0 d1
  cases b with
  | true =>
   go_wp2_with fail
   refine (CW.out _ HB3.out).mono ?_
   rintro e z9 ⟨rfl, hb⟩
   have HBE := Lib.hid (below_keep HB3.out hb)
   clear hb CW
   go_wp2
   go_ret
   exact ⟨rfl, HBE.out⟩
  | false =>
   obtain ⟨d0, d1, -⟩ := HBX.out w3 HC3.out
   obtain ⟨l0, l1, l2, l3, l4, l5⟩ := HLB1.out w3 HC3.out
   go_wp2_with fail
   refine (OC.out.s1 _ HB3.out).mono ?_
   rintro e w4 ⟨v4, r4, rfl, hp4, hr4, hb⟩
   have HC4 := Lib.hid (below_keep HC3.out hb)
   have HB4 := Lib.hid (below_keep HB3.out hb)
   have HR4 := Lib.hid hr4
   obtain ⟨q4, j4, rfl, -⟩ := hr4.shape
   have HP4 := Lib.hid hp4
   clear hb hr4 hp4 d0 d1 l0 l1 l2 l3 l4 l5
   obtain ⟨d0, d1, -⟩ := HBX.out w4 HC4.out
   obtain ⟨l0, l1, l2, l3, l4, l5⟩ := HLB1.out w4 HC4.out
   go_wp2_with fail
   refine (OC.out.s2 _ HB4.out).mono ?_
   rintro e w5 ⟨v5, r5, rfl, hp5, hr5, hb⟩
   have HC5 := Lib.hid (below_keep HC4.out hb)
   have HB5 := Lib.hid (below_keep HB4.out hb)
   have HR5 := Lib.hid hr5
   have HR45 := Lib.hid (HR4.out.later RowR.lasts hb)
   obtain ⟨q5, j5, rfl, -⟩ := hr5.shape
   have heq := OC.out.one r5 r4 hp5 HP4.out
   subst heq
   clear hb hr5 hp5 d0 d1 l0 l1 l2 l3 l4 l5
   obtain ⟨d0, d1, -⟩ := HBX.out w5 HC5.out
   obtain ⟨l0, l1, l2, l3, l4, l5⟩ := HLB1.out w5 HC5.out
   go_wp2_with fail
   refine (OC.out.r1 _ HB5.out).mono ?_
   rintro e w6 ⟨rfl, hb⟩
   have HC6 := Lib.hid (below_keep HC5.out hb)
   have HB6 := Lib.hid (below_keep HB5.out hb)
   have HD6 := Lib.hid hb
   clear hb d0 d1 l0 l1 l2 l3 l4 l5
   obtain ⟨d0, d1, -⟩ := HBX.out w6 HC6.out
   obtain ⟨l0, l1, l2, l3, l4, l5⟩ := HLB1.out w6 HC6.out
   go_wp2_with fail
   refine (OC.out.r2 _ HB6.out).mono ?_
   rintro e w7 ⟨rfl, hb⟩
   have HB7 := Lib.hid (below_keep HB6.out hb)
   have HD7 := Lib.hid (below_keep HD6.out hb)
   clear hb d0 d1 l0 l1 l2 l3 l4 l5
   have CSM := Lib.hid (sameRows_any _ _ _ _ w7 (HR45.out.later RowR.lasts HD7.out) (HR5.out.later RowR.lasts HD7.out))
   simp only [decide_true] at CSM
   go_wp2_with fail
   refine CSM.out.mono ?_
   rintro e w8 ⟨rfl, hb⟩
   have HB8 := Lib.hid (below_keep HB7.out hb)
   clear hb CSM
   go_wp2_with fail
   refine (CW.out _ HB8.out).mono ?_
   rintro e z9 ⟨rfl, hb⟩
   have HBE := Lib.hid (below_keep HB8.out hb)
   clear hb CW
   go_wp2
   go_ret
   exact ⟨rfl, HBE.out⟩
end Go.Proofs.YtkliekoheeeamaaGreatDoor
