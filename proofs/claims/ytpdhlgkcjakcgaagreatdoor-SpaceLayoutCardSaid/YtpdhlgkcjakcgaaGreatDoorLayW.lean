/- The walk of SpaceLayout. (printed by layw.py) -/
import Derived.IntWalk
import Derived.BigQuiet
import Derived.Deep.RegionHeld3
import Derived.Deep.DeepCutAuto
import Derived.Deep.CutBlock
import Derived.Test.YtpdhlgkcjakcgaaGreatDoorS14
import Derived.Test.YtpdhlgkcjakcgaaGreatDoorS15
import Derived.Test.YtpdhlgkcjakcgaaGreatDoorS17
import Derived.Test.YtpdhlgkcjakcgaaGreatDoorS27
import Derived.Test.YtpdhlgkcjakcgaaGreatDoorS30
import Derived.Test.YtpdhlgkcjakcgaaGreatDoorSameA
namespace Go.Proofs.YtpdhlgkcjakcgaaGreatDoor
open Go.RowKit

theorem two_at (w : World) (v1 v2 : Value) : ∃ W1, W1 = w.alloc (.cells #[v1, v2] 41) ∧ Below w.heap.size w W1 ∧ ∀ w', Below W1.heap.size W1 w' → w'.cell? ⟨w.heap.size, 0, none⟩ = some v1 ∧ w'.cell? ⟨w.heap.size, 1, none⟩ = some v2 := by
  refine ⟨_, rfl, below_alloc _ _, fun w' hb => ?_⟩
  have h1 : ∀ j, w'.cell? ⟨w.heap.size, j, none⟩ = (w.alloc (.cells #[v1, v2] 41)).cell? ⟨w.heap.size, j, none⟩ := fun j => hb.cell (p := ⟨w.heap.size, j, none⟩) (by simp)
  exact ⟨by rw [h1, World.cell?_alloc_at _ _ _ _ rfl]; rfl, by rw [h1, World.cell?_alloc_at _ _ _ _ rfl]; rfl⟩
set_option maxHeartbeats 16000000 in
set_option maxRecDepth 100000 in
theorem spaceLayout_any (d : List DimT) (l : LayT) (c1 c2 : List Int) (vd vs vo v1 v2 : Value) (w : World) (hm : Ml w) (hd : Dims w vd d) (hl : LayR w vs vo l) (hc1 : Ints w v1 c1) (hc2 : Ints w v2 c2) (hs : StrD d) (hcb : ∀ x ∈ c2, -9223372036854775808 ≤ x ∧ x ≤ 9223372036854775807) :
    Calls Tryz.prog 5 #[vd, layV vs vo l, .agg #[v1, v2]] w (RetV' (.bool true) w) := by
  have CW := Lib.hid (fun w1 (hb : Below w.heap.size w w1) => works_any w1 (hm.later hb))
  have CS := Lib.hid (fun w1 (hb : Below w.heap.size w w1) => lschema_any d [] vd (.slice none 0 0) w1 (hd.later DimR.lasts hb) (Ls.nil _ _ _ (by omega)))
  have CL := Lib.hid (fun w1 (hb : Below w.heap.size w w1) => llayout_any vs vo l w1 (hl.later hb))
  have CY := Lib.hid (fun w1 (hb : Below w.heap.size w w1) => layout_any d l vd vs vo w1 (hd.later DimR.lasts hb) (hl.later hb) hs)
  have CZ := Lib.hid (fun w1 (hb : Below w.heap.size w w1) => rlayout_any d l vd vs vo w1 (hd.later DimR.lasts hb) (hl.later hb) hs)
  have CC := Lib.hid (fun w1 (hb : Below w.heap.size w w1) => chunk_any d l c1 vd vs vo v1 w1 (hd.later DimR.lasts hb) (hl.later hb) (hc1.later IntR.lasts hb) hs)
  have CC2 := Lib.hid (fun w1 (hb : Below w.heap.size w w1) => rchunk_any d l c1 vd vs vo v1 w1 (hd.later DimR.lasts hb) (hl.later hb) (hc1.later IntR.lasts hb) hs)
  have CH := Lib.hid (fun w1 (hb : Below w.heap.size w w1) => homes_any d l c1 vd vs vo v1 w1 (hd.later DimR.lasts hb) (hl.later hb) (hc1.later IntR.lasts hb) hs)
  have CH2 := Lib.hid (fun w1 (hb : Below w.heap.size w w1) => rhomes_any d l c1 vd vs vo v1 w1 (hd.later DimR.lasts hb) (hl.later hb) (hc1.later IntR.lasts hb) hs)
  have CK := Lib.hid (fun w1 (hb : Below w.heap.size w w1) => core_any d l c2 vd vs vo v2 w1 (hd.later DimR.lasts hb) (hl.later hb) (hc2.later IntR.lasts hb) hs hcb)
  have CK2 := Lib.hid (fun w1 (hb : Below w.heap.size w w1) => (rcore_any d l c2 vd vs vo v2 w1 (hd.later DimR.lasts hb) (hl.later hb) (hc2.later IntR.lasts hb) hs hcb).mono fun e w' h => h.bx)
  have CD := Lib.hid (fun w1 (hb : Below w.heap.size w w1) => wide_any d l c2 vd vs vo v2 w1 (hd.later DimR.lasts hb) (hl.later hb) (hc2.later IntR.lasts hb) hs hcb)
  have CD2 := Lib.hid (fun w1 (hb : Below w.heap.size w w1) => rwide_any d l c2 vd vs vo v2 w1 (hd.later DimR.lasts hb) (hl.later hb) (hc2.later IntR.lasts hb) hs hcb)
  obtain ⟨p0, k0, rfl, -⟩ := hd.shape
  obtain ⟨p1, k1, rfl, -⟩ := hl.sides.shape
  obtain ⟨p2, k2, rfl, -⟩ := hl.over.shape
  obtain ⟨p3, k3, rfl, -⟩ := hc1.shape
  obtain ⟨p4, k4, rfl, -⟩ := hc2.shape
  obtain ⟨LE, hLE⟩ : ∃ x, x = layoutE d l := ⟨_, rfl⟩
  obtain ⟨E, hE⟩ : ∃ x, x = chunkE d l c1 := ⟨_, rfl⟩
  obtain ⟨q, hq⟩ : ∃ x, x = chunkQ d l c1 := ⟨_, rfl⟩
  obtain ⟨H, hH⟩ : ∃ x, x = homesQ d l c1 := ⟨_, rfl⟩
  obtain ⟨F, hF⟩ : ∃ x, x = widE d l c2 false := ⟨_, rfl⟩
  obtain ⟨G, hG⟩ : ∃ x, x = widE d l c2 true := ⟨_, rfl⟩
  obtain ⟨bc, hbc⟩ : ∃ x, x = widQ d l c2 false := ⟨_, rfl⟩
  obtain ⟨bw, hbw⟩ : ∃ x, x = widQ d l c2 true := ⟨_, rfl⟩
  rw [← hLE] at CY CZ
  rw [← hE, ← hq] at CC CC2
  rw [← hE, ← hH] at CH CH2
  rw [← hF, ← hbc] at CK CK2
  rw [← hG, ← hbw] at CD CD2
  obtain ⟨W0, hW0, hb0, hx0⟩ := lay_at' w (.slice p1 l.sides.length k1) (.slice p2 l.over.length k2) l
  obtain ⟨W1, hW1, hb1, hx1⟩ := two_at W0 (.slice p3 c1.length k3) (.slice p4 c2.length k4)
  have hsz : W0.heap.size = w.heap.size + 1 := by rw [hW0]; simp
  rw [hsz] at hx1
  have HBW : Hid (∀ w', Below W1.heap.size W1 w' → Below w.heap.size w w') := fun w' h => below_keep (below_keep hb0 hb1) h
  have K : Hid (∀ w', Below W1.heap.size W1 w' → LayB w' w.heap.size (.slice p1 l.sides.length k1) (.slice p2 l.over.length k2) l ∧ w'.cell? ⟨w.heap.size + 1, 0, none⟩ = some (.slice p3 c1.length k3) ∧ w'.cell? ⟨w.heap.size + 1, 1, none⟩ = some (.slice p4 c2.length k4)) := fun w' h => ⟨hx0 w' (below_keep hb1 h), (hx1 w' h).1, (hx1 w' h).2⟩
  have tE : (E == E) = true := beq_iff_eq.2 rfl
  have tE' : (E != E) = false := by simp
  have tF : (F == F) = true := beq_iff_eq.2 rfl
  have tG : (G == G) = true := beq_iff_eq.2 rfl
  have tL : (LE != LE) = false := by simp
  have HWW : Hid (W1 = (w.alloc (.cells #[.slice p1 l.sides.length k1, .slice p2 l.over.length k2, .int .i64 l.order, .int .i64 l.tile, .int .i64 l.form, .int .i64 l.codec] 40)).alloc (.cells #[.slice p3 c1.length k3, .slice p4 c2.length k4] 41)) := by show _ = _; rw [hW1, hW0]
  clear hm hd hl hc1 hc2 hs hcb hLE hE hq hH hF hG hbc hbw hW0 hW1 hb0 hb1 hx0 hx1 hsz W0
  go_enter Tryz.func5, Tryz.ntmps5
  go_wp2_with fail
  rw [← HWW.out]
  clear HWW
  refine (CS.out _ (HBW.out _ (Below.refl _ _))).mono ?_
  rintro e x1 ⟨b, rfl, hf1, rfl⟩
  clear CS hf1
  obtain ⟨⟨d0, d1, d2, d3, d4, d5⟩, m0, m1⟩ := K.out _ (Below.refl _ _)
  cases b with
  | false =>
    go_wp2_with fail
    refine (CW.out _ (HBW.out _ (Below.refl _ _))).mono ?_
    rintro e z1 ⟨rfl, hb⟩
    have HBE := Lib.hid (HBW.out _ (below_keep (Below.refl _ _) hb))
    clear hb CW
    go_wp2
    go_ret
    exact ⟨rfl, HBE.out⟩
  | true =>
    go_wp2_with fail
    refine (CL.out _ (HBW.out _ (Below.refl _ _))).mono ?_
    rintro e x2 ⟨b, rfl, hf2, hb⟩
    have B2 := Lib.hid hb
    clear hb CL hf2 d0 d1 d2 d3 d4 d5 m0 m1
    obtain ⟨⟨d0, d1, d2, d3, d4, d5⟩, m0, m1⟩ := K.out _ B2.out
    cases b with
    | false =>
      go_wp2_with fail
      refine (CW.out _ (HBW.out _ B2.out)).mono ?_
      rintro e z1 ⟨rfl, hb⟩
      have HBE := Lib.hid (HBW.out _ (below_keep B2.out hb))
      clear hb CW
      go_wp2
      go_ret
      exact ⟨rfl, HBE.out⟩
    | true =>
      by_cases t0 : 10 < c1.length
      · have s0 : decide ((10 : Int) < c1.length) = true := decide_eq_true (by omega)
        clear t0
        go_wp2_with fail
        refine (CW.out _ (HBW.out _ B2.out)).mono ?_
        rintro e z1 ⟨rfl, hb⟩
        have HBE := Lib.hid (HBW.out _ (below_keep B2.out hb))
        clear hb CW
        go_wp2
        go_ret
        exact ⟨rfl, HBE.out⟩
      · have s0 : decide ((10 : Int) < c1.length) = false := decide_eq_false (by omega)
        clear t0
        by_cases t0 : 10 < c2.length
        · have s1 : decide ((10 : Int) < c2.length) = true := decide_eq_true (by omega)
          clear t0
          go_wp2_with fail
          refine (CW.out _ (HBW.out _ B2.out)).mono ?_
          rintro e z1 ⟨rfl, hb⟩
          have HBE := Lib.hid (HBW.out _ (below_keep B2.out hb))
          clear hb CW
          go_wp2
          go_ret
          exact ⟨rfl, HBE.out⟩
        · have s1 : decide ((10 : Int) < c2.length) = false := decide_eq_false (by omega)
          clear t0
          go_wp2_with fail
          have KS : Hid (∀ w', Below x2.heap.size x2 w' → w'.cell? ⟨w.heap.size, 0, none⟩ = some (.slice p1 l.sides.length k1) ∧ w'.cell? ⟨w.heap.size, 1, none⟩ = some (.slice p2 l.over.length k2) ∧ w'.cell? ⟨w.heap.size, 2, none⟩ = some (.int .i64 l.order) ∧ w'.cell? ⟨w.heap.size, 3, none⟩ = some (.int .i64 l.tile) ∧ w'.cell? ⟨w.heap.size, 4, none⟩ = some (.int .i64 l.form) ∧ w'.cell? ⟨w.heap.size, 5, none⟩ = some (.int .i64 l.codec) ∧ Below x2.heap.size x2 w') := fun w' h => by
            obtain ⟨⟨d0, d1, d2, d3, d4, d5⟩, -, -⟩ := K.out w' (below_keep B2.out h)
            exact ⟨d0, d1, d2, d3, d4, d5, h⟩
          have HC1 : Hid (∀ w', Below x2.heap.size x2 w' → Calls Tryz.prog 24 #[.slice p0 d.length k0, layV (.slice p1 l.sides.length k1) (.slice p2 l.over.length k2) l] w' (RetV' (.int .i64 LE) w')) := fun w' h => CY.out w' (HBW.out _ (below_keep B2.out h))
          have HC2 : Hid (∀ w', Below x2.heap.size x2 w' → Calls Tryz.prog 25 #[.slice p0 d.length k0, layV (.slice p1 l.sides.length k1) (.slice p2 l.over.length k2) l] w' (RetV' (.int .i64 LE) w')) := fun w' h => CZ.out w' (HBW.out _ (below_keep B2.out h))
          clear d0 d1 d2 d3 d4 d5 m0 m1 s0 s1 CY CZ
          go_region_held3 (fun w' => w'.cell? ⟨w.heap.size, 0, none⟩ = some (.slice p1 l.sides.length k1) ∧ w'.cell? ⟨w.heap.size, 1, none⟩ = some (.slice p2 l.over.length k2) ∧ w'.cell? ⟨w.heap.size, 2, none⟩ = some (.int .i64 l.order) ∧ w'.cell? ⟨w.heap.size, 3, none⟩ = some (.int .i64 l.tile) ∧ w'.cell? ⟨w.heap.size, 4, none⟩ = some (.int .i64 l.form) ∧ w'.cell? ⟨w.heap.size, 5, none⟩ = some (.int .i64 l.codec) ∧ Below x2.heap.size x2 w')
            (first | exact KS.out _ (Below.refl _ _).drew | exact KS.out _ (by assumption))
            (first
              | (go_at_call 24; refine (HC1.out _ (Below.refl _ _).drew).mono ?_; rintro e z ⟨rfl, hb⟩; have hbz : Below x2.heap.size x2 z := below_keep (Below.refl _ _).drew hb)
              | (go_at_call 25; refine (HC2.out _ hbz).mono ?_; rintro e z2 ⟨rfl, hb2⟩; have hbz2 : Below x2.heap.size x2 z2 := below_keep hbz hb2))
          have B3 := Lib.hid (below_keep B2.out hbz2)
          clear hb hbz hb2 hbz2 KS HC1 HC2
          obtain ⟨⟨d0, d1, d2, d3, d4, d5⟩, m0, m1⟩ := K.out _ B3.out
          go_wp2_with fail
          refine (CC.out _ (HBW.out _ B3.out)).mono ?_
          rintro e y4 ⟨vq, rfl, hvq, hb⟩
          have B4 := Lib.hid (below_keep B3.out hb)
          have HQ1 := Lib.hid hvq.ints
          obtain ⟨q1, kq1, rfl, -⟩ := hvq.ints.shape
          clear hvq
          clear CC
          clear hb d0 d1 d2 d3 d4 d5 m0 m1
          obtain ⟨⟨d0, d1, d2, d3, d4, d5⟩, m0, m1⟩ := K.out _ B4.out
          go_wp2_with fail
          refine (CC2.out _ (HBW.out _ B4.out)).mono ?_
          rintro e y5 ⟨vr, rfl, hvr, hb⟩
          have B5 := Lib.hid (below_keep B4.out hb)
          have HQ1 := Lib.hid (HQ1.out.later IntR.lasts hb)
          have HQ2 := Lib.hid hvr.ints
          obtain ⟨q2, kq2, rfl, -⟩ := hvr.ints.shape
          clear hvr
          clear CC2
          clear hb d0 d1 d2 d3 d4 d5 m0 m1
          obtain ⟨⟨d0, d1, d2, d3, d4, d5⟩, m0, m1⟩ := K.out _ B5.out
          go_wp2_with fail
          refine (CH.out _ (HBW.out _ B5.out)).mono ?_
          rintro e y6 ⟨vh, rfl, hvh, hb⟩
          have B6 := Lib.hid (below_keep B5.out hb)
          have HQ1 := Lib.hid (HQ1.out.later IntR.lasts hb)
          have HQ2 := Lib.hid (HQ2.out.later IntR.lasts hb)
          have HH1 := Lib.hid hvh.rows
          obtain ⟨q3, kq3, rfl, -⟩ := hvh.rows.shape
          clear hvh
          clear CH
          clear hb d0 d1 d2 d3 d4 d5 m0 m1
          obtain ⟨⟨d0, d1, d2, d3, d4, d5⟩, m0, m1⟩ := K.out _ B6.out
          go_wp2_with fail
          refine (CH2.out _ (HBW.out _ B6.out)).mono ?_
          rintro e y7 ⟨vg, rfl, hvg, hb⟩
          have B7 := Lib.hid (below_keep B6.out hb)
          have CI := Lib.hid (sameInts_any q q _ _ _ (HQ1.out.later IntR.lasts hb) (HQ2.out.later IntR.lasts hb))
          have HH1 := Lib.hid (HH1.out.later RowR.lasts hb)
          have HH2 := Lib.hid hvg.rows
          obtain ⟨q4, kq4, rfl, -⟩ := hvg.rows.shape
          rw [decide_eq_true rfl] at CI
          clear hvg HQ1 HQ2
          clear CH2
          clear hb d0 d1 d2 d3 d4 d5 m0 m1
          obtain ⟨⟨d0, d1, d2, d3, d4, d5⟩, m0, m1⟩ := K.out _ B7.out
          go_wp2_with fail
          refine CI.out.mono ?_
          rintro e y9 h9
          obtain ⟨rfl, hb⟩ := RetDr.below h9
          have B8 := Lib.hid (below_keep B7.out hb)
          have CR := Lib.hid (sameRows_any H H _ _ _ (HH1.out.later RowR.lasts hb) (HH2.out.later RowR.lasts hb))
          rw [decide_eq_true rfl] at CR
          clear CI h9 HH1 HH2
          clear hb d0 d1 d2 d3 d4 d5 m0 m1
          obtain ⟨⟨d0, d1, d2, d3, d4, d5⟩, m0, m1⟩ := K.out _ B8.out
          go_wp2_with fail
          refine CR.out.mono ?_
          rintro e y10 ⟨rfl, hb⟩
          have B9 := Lib.hid (below_keep B8.out hb)
          clear CR
          clear hb d0 d1 d2 d3 d4 d5 m0 m1
          obtain ⟨⟨d0, d1, d2, d3, d4, d5⟩, m0, m1⟩ := K.out _ B9.out
          go_wp2_with fail
          refine (CK.out _ (HBW.out _ B9.out)).mono ?_
          rintro e y10 ⟨v1, v2, rfl, hv1, hv2, hb⟩
          have B10 := Lib.hid (below_keep B9.out hb)
          have Hx1 := Lib.hid hv1.ints
          have Hx2 := Lib.hid hv2.ints
          obtain ⟨ax1, kx1, rfl, -⟩ := hv1.ints.shape
          obtain ⟨ax2, kx2, rfl, -⟩ := hv2.ints.shape
          clear hv1 hv2 CK
          obtain ⟨W10, hW, hbW, hx⟩ := boxm_at' y10 (.slice ax1 bc.1.length kx1) (.slice ax2 bc.2.length kx2)
          have Xx : Hid (∀ w', Below W10.heap.size W10 w' → w'.cell? ⟨y10.heap.size, 0, none⟩ = some (.slice ax1 bc.1.length kx1) ∧ w'.cell? ⟨y10.heap.size, 1, none⟩ = some (.slice ax2 bc.2.length kx2) ∧ Ints w' (.slice ax1 bc.1.length kx1) bc.1 ∧ Ints w' (.slice ax2 bc.2.length kx2) bc.2) := fun w' h =>
            ⟨(hx w' h).1, (hx w' h).2, Hx1.out.later IntR.lasts (below_keep hbW h), Hx2.out.later IntR.lasts (below_keep hbW h)⟩
          have B11 := Lib.hid (below_keep B10.out hbW)
          have HLx : Hid (y10.heap.size < W10.heap.size) := World.block_lt_of_cell? _ _ (hx W10 (Below.refl _ _)).1
          clear hx hb d0 d1 d2 d3 d4 d5 m0 m1
          obtain ⟨⟨d0, d1, d2, d3, d4, d5⟩, m0, m1⟩ := K.out _ B11.out
          go_upto_region 12 with (fail)
          rw [← hW]
          clear hW hbW
          go_wp2_with fail
          refine (CK2.out _ (HBW.out _ B11.out)).mono ?_
          rintro e y12 ⟨v1, v2, rfl, hv1, hv2, hb⟩
          have B12 := Lib.hid (below_keep B11.out hb)
          have Hy1 := Lib.hid hv1.ints
          have Hy2 := Lib.hid hv2.ints
          obtain ⟨ay1, ky1, rfl, -⟩ := hv1.ints.shape
          obtain ⟨ay2, ky2, rfl, -⟩ := hv2.ints.shape
          clear hv1 hv2 CK2
          have Xx := Lib.hid (fun w' (h : Below y12.heap.size y12 w') => Xx.out w' (below_keep hb h))
          obtain ⟨W12, hW, hbW, hx⟩ := boxm_at' y12 (.slice ay1 bc.1.length ky1) (.slice ay2 bc.2.length ky2)
          have Xy : Hid (∀ w', Below W12.heap.size W12 w' → w'.cell? ⟨y12.heap.size, 0, none⟩ = some (.slice ay1 bc.1.length ky1) ∧ w'.cell? ⟨y12.heap.size, 1, none⟩ = some (.slice ay2 bc.2.length ky2) ∧ Ints w' (.slice ay1 bc.1.length ky1) bc.1 ∧ Ints w' (.slice ay2 bc.2.length ky2) bc.2) := fun w' h =>
            ⟨(hx w' h).1, (hx w' h).2, Hy1.out.later IntR.lasts (below_keep hbW h), Hy2.out.later IntR.lasts (below_keep hbW h)⟩
          have B13 := Lib.hid (below_keep B12.out hbW)
          have HLy : Hid (y12.heap.size < W12.heap.size) := World.block_lt_of_cell? _ _ (hx W12 (Below.refl _ _)).1
          clear hx hb d0 d1 d2 d3 d4 d5 m0 m1
          have Xx := Lib.hid (fun w' (h : Below W12.heap.size W12 w') => Xx.out w' (below_keep hbW h))
          obtain ⟨⟨d0, d1, d2, d3, d4, d5⟩, m0, m1⟩ := K.out _ B13.out
          go_upto_region 13 with (fail)
          rw [← hW]
          clear hW hbW
          go_wp2_with fail
          refine (CD.out _ (HBW.out _ B13.out)).mono ?_
          rintro e y14 ⟨v1, v2, rfl, hv1, hv2, hb⟩
          have B14 := Lib.hid (below_keep B13.out hb)
          have Hu1 := Lib.hid hv1.ints
          have Hu2 := Lib.hid hv2.ints
          obtain ⟨au1, ku1, rfl, -⟩ := hv1.ints.shape
          obtain ⟨au2, ku2, rfl, -⟩ := hv2.ints.shape
          clear hv1 hv2 CD
          have Xx := Lib.hid (fun w' (h : Below y14.heap.size y14 w') => Xx.out w' (below_keep hb h))
          have Xy := Lib.hid (fun w' (h : Below y14.heap.size y14 w') => Xy.out w' (below_keep hb h))
          obtain ⟨W14, hW, hbW, hx⟩ := boxm_at' y14 (.slice au1 bw.1.length ku1) (.slice au2 bw.2.length ku2)
          have Xu : Hid (∀ w', Below W14.heap.size W14 w' → w'.cell? ⟨y14.heap.size, 0, none⟩ = some (.slice au1 bw.1.length ku1) ∧ w'.cell? ⟨y14.heap.size, 1, none⟩ = some (.slice au2 bw.2.length ku2) ∧ Ints w' (.slice au1 bw.1.length ku1) bw.1 ∧ Ints w' (.slice au2 bw.2.length ku2) bw.2) := fun w' h =>
            ⟨(hx w' h).1, (hx w' h).2, Hu1.out.later IntR.lasts (below_keep hbW h), Hu2.out.later IntR.lasts (below_keep hbW h)⟩
          have B15 := Lib.hid (below_keep B14.out hbW)
          have HLu : Hid (y14.heap.size < W14.heap.size) := World.block_lt_of_cell? _ _ (hx W14 (Below.refl _ _)).1
          clear hx hb d0 d1 d2 d3 d4 d5 m0 m1
          have Xx := Lib.hid (fun w' (h : Below W14.heap.size W14 w') => Xx.out w' (below_keep hbW h))
          have Xy := Lib.hid (fun w' (h : Below W14.heap.size W14 w') => Xy.out w' (below_keep hbW h))
          obtain ⟨⟨d0, d1, d2, d3, d4, d5⟩, m0, m1⟩ := K.out _ B15.out
          go_upto_region 14 with (fail)
          rw [← hW]
          clear hW hbW
          go_wp2_with fail
          refine (CD2.out _ (HBW.out _ B15.out)).mono ?_
          rintro e y16 ⟨v1, v2, rfl, hv1, hv2, hb⟩
          have B16 := Lib.hid (below_keep B15.out hb)
          have Ht1 := Lib.hid hv1.ints
          have Ht2 := Lib.hid hv2.ints
          obtain ⟨at1, kt1, rfl, -⟩ := hv1.ints.shape
          obtain ⟨at2, kt2, rfl, -⟩ := hv2.ints.shape
          clear hv1 hv2 CD2
          have Xx := Lib.hid (fun w' (h : Below y16.heap.size y16 w') => Xx.out w' (below_keep hb h))
          have Xy := Lib.hid (fun w' (h : Below y16.heap.size y16 w') => Xy.out w' (below_keep hb h))
          have Xu := Lib.hid (fun w' (h : Below y16.heap.size y16 w') => Xu.out w' (below_keep hb h))
          obtain ⟨W16, hW, hbW, hx⟩ := boxm_at' y16 (.slice at1 bw.1.length kt1) (.slice at2 bw.2.length kt2)
          have Xt : Hid (∀ w', Below W16.heap.size W16 w' → w'.cell? ⟨y16.heap.size, 0, none⟩ = some (.slice at1 bw.1.length kt1) ∧ w'.cell? ⟨y16.heap.size, 1, none⟩ = some (.slice at2 bw.2.length kt2) ∧ Ints w' (.slice at1 bw.1.length kt1) bw.1 ∧ Ints w' (.slice at2 bw.2.length kt2) bw.2) := fun w' h =>
            ⟨(hx w' h).1, (hx w' h).2, Ht1.out.later IntR.lasts (below_keep hbW h), Ht2.out.later IntR.lasts (below_keep hbW h)⟩
          have B17 := Lib.hid (below_keep B16.out hbW)
          have HLt : Hid (y16.heap.size < W16.heap.size) := World.block_lt_of_cell? _ _ (hx W16 (Below.refl _ _)).1
          clear hx hb d0 d1 d2 d3 d4 d5 m0 m1
          have Xx := Lib.hid (fun w' (h : Below W16.heap.size W16 w') => Xx.out w' (below_keep hbW h))
          have Xy := Lib.hid (fun w' (h : Below W16.heap.size W16 w') => Xy.out w' (below_keep hbW h))
          have Xu := Lib.hid (fun w' (h : Below W16.heap.size W16 w') => Xu.out w' (below_keep hbW h))
          obtain ⟨⟨d0, d1, d2, d3, d4, d5⟩, m0, m1⟩ := K.out _ B17.out
          go_upto_region 15 with (fail)
          rw [← hW]
          clear hW hbW
          obtain ⟨x0, x1, x2, x3⟩ := Xx.out _ (Below.refl _ _)
          obtain ⟨y0, y1, y2, y3⟩ := Xy.out _ (Below.refl _ _)
          have C1 := Lib.hid (sameBox_any _ _ _ _ _ _ _ _ W16 x2 x3 y2 y3)
          rw [decide_eq_true rfl, decide_eq_true rfl, Bool.and_self] at C1
          clear d0 d1 d2 d3 d4 d5 m0 m1 x2 x3 y2 y3
          go_wp2_with fail
          refine C1.out.mono ?_
          rintro e z1 ⟨rfl, hb⟩
          have ZZ := Lib.hid hb
          clear hb C1 x0 x1 y0 y1
          obtain ⟨x0, x1, x2, x3⟩ := Xu.out _ ZZ.out
          obtain ⟨y0, y1, y2, y3⟩ := Xt.out _ ZZ.out
          have C1 := Lib.hid (sameBox_any _ _ _ _ _ _ _ _ z1 x2 x3 y2 y3)
          rw [decide_eq_true rfl, decide_eq_true rfl, Bool.and_self] at C1
          clear x2 x3 y2 y3
          go_wp2_with fail
          refine C1.out.mono ?_
          rintro e z2 ⟨rfl, hb⟩
          have BF := Lib.hid (HBW.out _ (below_keep B17.out (below_keep ZZ.out hb)))
          clear hb C1 x0 x1 y0 y1
          go_wp2_with fail
          refine (CW.out _ BF.out).mono ?_
          rintro e z3 ⟨rfl, hb⟩
          have HBE := Lib.hid (below_keep BF.out hb)
          clear hb CW
          go_wp2
          go_ret
          exact ⟨rfl, HBE.out⟩
end Go.Proofs.YtpdhlgkcjakcgaaGreatDoor
