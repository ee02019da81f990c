/- The walk of SpaceChunks. -/
import Derived.IntWalk
import Derived.Lib.SliceRun
import Derived.Lib.AppendZeros
import Derived.BigQuiet
import Derived.Deep.DeepCutAuto
import Derived.Deep.CutBlock
import Derived.Deep.RegionHeld3
import Derived.Test.YtpdhlgkcjakcgaaGreatDoorS13
import Derived.Test.YtpdhlgkcjakcgaaGreatDoorS14
import Derived.Test.YtpdhlgkcjakcgaaGreatDoorS15
import Derived.Test.YtpdhlgkcjakcgaaGreatDoorS17
import Derived.Test.YtpdhlgkcjakcgaaGreatDoorS23
import Derived.Test.YtpdhlgkcjakcgaaGreatDoorS27
namespace Go.Proofs.YtpdhlgkcjakcgaaGreatDoor
open Go.RowKit

theorem lay_at (w : World) (vs vo : Value) (l : LayT) : ∃ W1, W1 = w.alloc (.cells #[vs, vo, .int .i64 l.order, .int .i64 l.tile, .int .i64 l.form, .int .i64 l.codec] 40) ∧ Below w.heap.size w W1 ∧ ∀ w', Below W1.heap.size W1 w' → LayB w' w.heap.size vs vo l :=
  ⟨_, rfl, below_alloc _ _, fun w' h => LayB.made w vs vo l _ w' (by simpa using h)⟩
theorem boxm_at (w : World) (v1 v2 : Value) : ∃ W1, W1 = w.alloc (.cells #[v1, v2] 52) ∧ Below w.heap.size w W1 ∧ ∀ w', Below W1.heap.size W1 w' → w'.cell? ⟨w.heap.size, 0, none⟩ = some v1 ∧ w'.cell? ⟨w.heap.size, 1, none⟩ = some v2 := by
  refine ⟨_, rfl, below_alloc _ _, fun w' hb => ?_⟩
  have h1 : ∀ j, w'.cell? ⟨w.heap.size, j, none⟩ = (w.alloc (.cells #[v1, v2] 52)).cell? ⟨w.heap.size, j, none⟩ := fun j => hb.cell (p := ⟨w.heap.size, j, none⟩) (by simp)
  exact ⟨by rw [h1, World.cell?_alloc_at _ _ _ _ rfl]; rfl, by rw [h1, World.cell?_alloc_at _ _ _ _ rfl]; rfl⟩
theorem box_made (w z : World) (v1 v2 : Value) (lo hi : List Int) (h1 : IntsO z v1 lo) (h2 : IntsO z v2 hi) (hw : Below w.heap.size w z) :
    (z.alloc (.cells #[v1, v2] 52)).cell? ⟨z.heap.size, 0, none⟩ = some v1 ∧ (z.alloc (.cells #[v1, v2] 52)).cell? ⟨z.heap.size, 1, none⟩ = some v2 ∧ Ints (z.alloc (.cells #[v1, v2] 52)) v1 lo ∧ Ints (z.alloc (.cells #[v1, v2] 52)) v2 hi ∧ Below w.heap.size w (z.alloc (.cells #[v1, v2] 52)) := by
  obtain ⟨W1, hW1, hb, hx⟩ := boxm_at z v1 v2
  rw [← hW1]
  exact ⟨(hx W1 (Below.refl _ _)).1, (hx W1 (Below.refl _ _)).2, h1.ints.later IntR.lasts hb, h2.ints.later IntR.lasts hb, below_keep hw hb⟩
theorem box_store (w z : World) (g : Nat) (v1 v2 a b : Value) (lo hi : List Int) (h1 : IntsO z v1 lo) (h2 : IntsO z v2 hi) (ht : TagB z g 52) (hr : ResB z g a b) (hw : Below w.heap.size w z) (hg : w.heap.size ≤ g) :
    ((z.setCell ⟨g, 0, none⟩ v1).setCell ⟨g, 1, none⟩ v2).cell? ⟨g, 0, none⟩ = some v1 ∧ ((z.setCell ⟨g, 0, none⟩ v1).setCell ⟨g, 1, none⟩ v2).cell? ⟨g, 1, none⟩ = some v2 ∧ Ints ((z.setCell ⟨g, 0, none⟩ v1).setCell ⟨g, 1, none⟩ v2) v1 lo ∧ Ints ((z.setCell ⟨g, 0, none⟩ v1).setCell ⟨g, 1, none⟩ v2) v2 hi ∧ Below w.heap.size w ((z.setCell ⟨g, 0, none⟩ v1).setCell ⟨g, 1, none⟩ v2) := by
  have n1 : ∀ k, some g = some k → v1.ownBlock ≠ some k := fun k e e2 => ((h1.tag k e2).ne ht (by decide)) (by injection e with e; exact e.symm)
  have n2 : ∀ k, some g = some k → v2.ownBlock ≠ some k := fun k e e2 => ((h2.tag k e2).ne ht (by decide)) (by injection e with e; exact e.symm)
  have e1 : (z.setCell ⟨g, 0, none⟩ v1).cell? ⟨g, 1, none⟩ = some b := by
    rw [World.cell?_setCell_other _ _ _ _ (fun e => by injection e with _ e; cases e)]
    exact hr.c1
  refine ⟨?_, World.cell?_setCell_same _ _ _ e1, ((h1.grown (grown_setG z g 0 v1) n1).grown (grown_setG _ g 1 v2) n1).ints, ((h2.grown (grown_setG z g 0 v1) n2).grown (grown_setG _ g 1 v2) n2).ints, (hw.setCell (p := ⟨g, 0, none⟩) hg _).setCell (p := ⟨g, 1, none⟩) hg _⟩
  rw [World.cell?_setCell_other _ _ _ _ (fun e => by injection e with _ e; cases e)]
  exact World.cell?_setCell_same _ _ _ hr.c0
set_option maxHeartbeats 16000000 in
set_option maxRecDepth 100000 in
theorem spaceChunks_any (d : List DimT) (l : LayT) (c : List Int) (vd vs vo vc : Value) (w : World) (hm : Ml w) (hd : Dims w vd d) (hl : LayR w vs vo l) (hc : Ints w vc c) (hs : StrD d) :
    Calls Tryz.prog 6 #[vd, layV vs vo l, vc] w (RetV' (.bool true) w) := by
  have CW := Lib.hid (fun w1 (hb : Below w.heap.size w w1) => works_any w1 (hm.later hb))
  have CS := Lib.hid (fun w1 (hb : Below w.heap.size w w1) => lschema_any d [] vd (.slice none 0 0) w1 (hd.later DimR.lasts hb) (Ls.nil _ _ _ (by omega)))
  have CL := Lib.hid (fun w1 (hb : Below w.heap.size w w1) => llayout_any vs vo l w1 (hl.later hb))
  have CC := Lib.hid (fun w1 (hb : Below w.heap.size w w1) => chunk_any d l c vd vs vo vc w1 (hd.later DimR.lasts hb) (hl.later hb) (hc.later IntR.lasts hb) hs)
  have CH := Lib.hid (fun w1 (hb : Below w.heap.size w w1) => homes_any d l c vd vs vo vc w1 (hd.later DimR.lasts hb) (hl.later hb) (hc.later IntR.lasts hb) hs)
  have CK := Lib.hid (fun (u : Value) (q : List Int) (hq : ∀ x ∈ q, -9223372036854775808 ≤ x ∧ x ≤ 9223372036854775807) w1 (hb : Below w.heap.size w w1) (hu : Ints w1 u q) => core_any d l q vd vs vo u w1 (hd.later DimR.lasts hb) (hl.later hb) hu hs hq)
  have CD := Lib.hid (fun (u : Value) (q : List Int) (hq : ∀ x ∈ q, -9223372036854775808 ≤ x ∧ x ≤ 9223372036854775807) w1 (hb : Below w.heap.size w w1) (hu : Ints w1 u q) => wide_any d l q vd vs vo u w1 (hd.later DimR.lasts hb) (hl.later hb) hu hs hq)
  have HDD := Lib.hid hd
  have HCC := Lib.hid hc
  have HCB : Hid (chunkE d l c = 0 → c.length = d.length ∧ layoutE d l = 0) := fun h => ⟨(chunkE_parts h).2.1, (chunkE_parts h).1⟩
  have HE : Hid (chunkE d l c ≠ 0 → chunkQ d l c = [] ∧ homesQ d l c = []) := fun h => ⟨if_neg h, if_neg h⟩
  have HEQ : Hid (chunkE d l c = 0 → chunkQ d l c = chunkL d l.sides c) := fun h => if_pos h
  obtain ⟨E, hE⟩ : ∃ E, E = chunkE d l c := ⟨_, rfl⟩
  obtain ⟨q, hq⟩ : ∃ q, q = chunkQ d l c := ⟨_, rfl⟩
  obtain ⟨H, hH⟩ : ∃ H, H = homesQ d l c := ⟨_, rfl⟩
  rw [← hE] at CC CH HE HEQ
  rw [← hq] at CC HE HEQ
  rw [← hH] at CH HE
  have HH := Lib.hid hH
  have HEE := Lib.hid hE
  obtain ⟨p0, k0, rfl, -⟩ := hd.shape
  obtain ⟨p1, k1, rfl, -⟩ := hl.sides.shape
  obtain ⟨p2, k2, rfl, -⟩ := hl.over.shape
  obtain ⟨p3, k3, rfl, -⟩ := hc.shape
  obtain ⟨W1, hW1, hb1, hbx⟩ := lay_at w (.slice p1 l.sides.length k1) (.slice p2 l.over.length k2) l
  have HB1 := Lib.hid hb1
  have HBX := Lib.hid hbx
  have HBW : Hid (∀ w', Below W1.heap.size W1 w' → Below w.heap.size w w') := fun w' h => below_keep HB1.out h
  clear hm hd hl hc hs hb1 hbx hE hq hH
  go_enter Tryz.func6, Tryz.ntmps6
  go_wp2_with fail
  rw [← hW1]
  refine (CS.out _ HB1.out).mono ?_
  rintro e x1 ⟨b, rfl, hf1, rfl⟩
  clear CS hW1 hf1
  obtain ⟨d0, d1, d2, d3, d4, d5⟩ := HBX.out _ (Below.refl _ _)
  cases b with
  | false =>
    go_wp2_with fail
    refine (CW.out _ (HB1.out)).mono ?_
    rintro e z1 ⟨rfl, hb⟩
    have HBE := Lib.hid (below_keep HB1.out hb)
    clear hb CW
    go_wp2
    go_ret
    exact ⟨rfl, HBE.out⟩
  | true =>
    go_wp2_with fail
    refine (CL.out _ HB1.out).mono ?_
    rintro e x2 ⟨b, rfl, hf2, hb⟩
    have B2 := Lib.hid hb
    clear hb CL hf2 d0 d1 d2 d3 d4 d5
    cases b with
    | false =>
      go_wp2_with fail
      refine (CW.out _ (HBW.out _ B2.out)).mono ?_
      rintro e z1 ⟨rfl, hb⟩
      have HBE := Lib.hid (HBW.out _ (below_keep B2.out hb))
      clear hb CW
      go_wp2
      go_ret
      exact ⟨rfl, HBE.out⟩
    | true =>
      by_cases t0 : 10 < c.length
      · have s0 : decide ((10 : Int) < c.length) = true := decide_eq_true (by omega)
        clear t0
        go_wp2_with fail
        refine (CW.out _ (HBW.out _ B2.out)).mono ?_
        rintro e z1 ⟨rfl, hb⟩
        have HBE := Lib.hid (HBW.out _ (below_keep B2.out hb))
        clear hb CW
        go_wp2
        go_ret
        exact ⟨rfl, HBE.out⟩
      · have s0 : decide ((10 : Int) < c.length) = false := decide_eq_false (by omega)
        have HC10 : Hid (c.length ≤ 10) := by show _ ≤ _; omega
        clear t0
        obtain ⟨d0, d1, d2, d3, d4, d5⟩ := HBX.out _ B2.out
        go_wp2_with fail
        refine (CC.out _ (HBW.out _ B2.out)).mono ?_
        rintro e y1 ⟨vq, rfl, hvq, hb⟩
        have B3 := Lib.hid (below_keep B2.out hb)
        have HVQ := Lib.hid hvq
        obtain ⟨q1, kq1, rfl, -⟩ := hvq.ints.shape
        clear hb hvq CC d0 d1 d2 d3 d4 d5 s0
        obtain ⟨d0, d1, d2, d3, d4, d5⟩ := HBX.out _ B3.out
        go_wp2_with fail
        refine (CH.out _ (HBW.out _ B3.out)).mono ?_
        rintro e y2 ⟨vh, rfl, hvh, hb⟩
        have B4 := Lib.hid (below_keep B3.out hb)
        have HVQ4 := Lib.hid (HVQ.out.later hb)
        have HVH := Lib.hid hvh.rows
        obtain ⟨q2, kq2, rfl, -⟩ := hvh.rows.shape
        clear hb hvh CH d0 d1 d2 d3 d4 d5
        by_cases hE0 : E = 0
        · subst hE0
          have hE' : chunkE d l c = 0 := HEE.out.symm
          obtain ⟨hcl, hly⟩ := HCB.out hE'
          have hqe := HEQ.out rfl
          have hql : q.length = d.length := by rw [hqe]; exact chunkL_length (layout_good hly).sides hcl
          have hqok : okC d l.sides q = true := by rw [hqe]; exact (ok_home hE' (chunk_home hE')).2.1
          have hqb : ∀ x ∈ q, -9223372036854775808 ≤ x ∧ x ≤ 9223372036854775807 := by rw [hqe]; exact (ok_home hE' (chunk_home hE')).2.2.2
          have HQ := Lib.hid hqe
          have HCL := Lib.hid hcl
          have HQL := Lib.hid hql
          have HQB := Lib.hid hqb
          have HLY := Lib.hid hly
          obtain ⟨cl, hcl0⟩ : ∃ x, x = wLo d l.sides (List.replicate l.over.length 0) q := ⟨_, rfl⟩
          obtain ⟨ch, hch0⟩ : ∃ x, x = wHi d l.sides (List.replicate l.over.length 0) q := ⟨_, rfl⟩
          obtain ⟨wl, hwl0⟩ : ∃ x, x = wLo d l.sides l.over q := ⟨_, rfl⟩
          obtain ⟨wh, hwh0⟩ : ∃ x, x = wHi d l.sides l.over q := ⟨_, rfl⟩
          have HK1 : Hid (widQ d l q false = (cl, ch) ∧ widE d l q false = 0) := ⟨by rw [widQ_of hly hql false hqok, hcl0, hch0]; rfl, by rw [widE_of hly hql false, if_pos hqok]⟩
          have HK2 : Hid (widQ d l q true = (wl, wh) ∧ widE d l q true = 0) := ⟨by rw [widQ_of hly hql true hqok, hwl0, hwh0]; rfl, by rw [widE_of hly hql true, if_pos hqok]⟩
          have HI1 : Hid (insideB cl ch c = true ∧ insideB wl wh c = true ∧ insideB wl wh cl = true ∧ insideB wl wh ch = true ∧ q ∈ H) := by
            rw [hcl0, hch0, hwl0, hwh0, HH.out, hqe]
            exact ⟨core_has hE', (ok_home hE' (chunk_home hE')).2.2.1, wide_lo hE', wide_hi hE', chunk_home hE'⟩
          have HCL0 := Lib.hid hcl0
          have HCH0 := Lib.hid hch0
          clear hE' hcl hly hqe hql hqok hqb hcl0 hch0 hwl0 hwh0 HE
          have CK1 : Hid (∀ w1, Below y2.heap.size y2 w1 → Calls Tryz.prog 32 #[.slice p0 d.length k0, layV (.slice p1 l.sides.length k1) (.slice p2 l.over.length k2) l, .slice q1 q.length kq1] w1 (RetBx (cl, ch) 0 w1)) := fun w1 hb => by
            have := CK.out (.slice q1 q.length kq1) q HQB.out w1 (HBW.out _ (below_keep B4.out hb)) (HVQ4.out.ints.later IntR.lasts hb)
            rwa [HK1.out.1, HK1.out.2] at this
          have CD1 : Hid (∀ w1, Below y2.heap.size y2 w1 → Calls Tryz.prog 34 #[.slice p0 d.length k0, layV (.slice p1 l.sides.length k1) (.slice p2 l.over.length k2) l, .slice q1 q.length kq1] w1 (RetBx (wl, wh) 0 w1)) := fun w1 hb => by
            have := CD.out (.slice q1 q.length kq1) q HQB.out w1 (HBW.out _ (below_keep B4.out hb)) (HVQ4.out.ints.later IntR.lasts hb)
            rwa [HK2.out.1, HK2.out.2] at this
          obtain ⟨d0, d1, d2, d3, d4, d5⟩ := HBX.out _ B4.out
          go_wp2_with fail
          refine (CK1.out _ (Below.refl _ _)).mono ?_
          rintro e y3 ⟨v1, v2, rfl, hv1, hv2, hb⟩
          have B5 := Lib.hid (below_keep B4.out hb)
          have C5 := Lib.hid hb
          have HV1 := Lib.hid hv1.ints
          have HV2 := Lib.hid hv2.ints
          obtain ⟨a1, ka1, rfl, -⟩ := hv1.ints.shape
          obtain ⟨a2, ka2, rfl, -⟩ := hv2.ints.shape
          simp only at HV1 HV2 ⊢
          obtain ⟨W3, hW3, hb3, hx3⟩ := boxm_at y3 (.slice a1 cl.length ka1) (.slice a2 ch.length ka2)
          have HB3 := Lib.hid hb3
          have HX3 := Lib.hid hx3
          clear d0 d1 d2 d3 d4 d5 hb hv1 hv2 hb3 hx3 CK1
          obtain ⟨d0, d1, d2, d3, d4, d5⟩ := HBX.out _ B5.out
          have hq1 : w.heap.size < y3.heap.size := World.block_lt_of_cell? _ _ d0
          have hq2 : w.heap.size ≠ y3.heap.size := Nat.ne_of_lt hq1
          go_wp2_with fail
          rw [← hW3]
          clear hW3 hq1 hq2 d0 d1 d2 d3 d4 d5
          refine (CD1.out _ (below_keep C5.out HB3.out)).mono ?_
          rintro e y4 ⟨u1, u2, rfl, hu1, hu2, hb⟩
          have C6 := Lib.hid (below_keep C5.out (below_keep HB3.out hb))
          have B6 := Lib.hid (below_keep B4.out C6.out)
          have C36 := Lib.hid hb
          have HU1 := Lib.hid hu1.ints
          have HU2 := Lib.hid hu2.ints
          have HV14 := Lib.hid (HV1.out.later IntR.lasts (below_keep HB3.out hb))
          have HV24 := Lib.hid (HV2.out.later IntR.lasts (below_keep HB3.out hb))
          obtain ⟨a3, ka3, rfl, -⟩ := hu1.ints.shape
          obtain ⟨a4, ka4, rfl, -⟩ := hu2.ints.shape
          simp only at HU1 HU2 ⊢
          obtain ⟨W5, hW5, hb5, hx5⟩ := boxm_at y4 (.slice a3 wl.length ka3) (.slice a4 wh.length ka4)
          have HB5 := Lib.hid hb5
          have HX5 := Lib.hid hx5
          have C7 := Lib.hid (below_keep C6.out hb5)
          have B7 := Lib.hid (below_keep B4.out C7.out)
          have C37 := Lib.hid (below_keep hb hb5)
          clear hb hu1 hu2 hb5 hx5 CD1 HV1 HV2
          obtain ⟨c0, c1⟩ := HX3.out _ C36.out
          have hq1 : y3.heap.size < y4.heap.size := World.block_lt_of_cell? _ _ c0
          have hq2 : y3.heap.size ≠ y4.heap.size := Nat.ne_of_lt hq1
          have K : Hid (∀ w', Below W5.heap.size W5 w' → (w'.cell? ⟨y3.heap.size, 0, none⟩ = some (.slice a1 cl.length ka1) ∧ w'.cell? ⟨y3.heap.size, 1, none⟩ = some (.slice a2 ch.length ka2)) ∧ (w'.cell? ⟨y4.heap.size, 0, none⟩ = some (.slice a3 wl.length ka3) ∧ w'.cell? ⟨y4.heap.size, 1, none⟩ = some (.slice a4 wh.length ka4)) ∧ LayB w' w.heap.size (.slice p1 l.sides.length k1) (.slice p2 l.over.length k2) l) := fun w' h =>
            ⟨HX3.out w' (below_keep C37.out h), HX5.out w' h, HBX.out w' (below_keep B7.out h)⟩
          have CI : Hid (∀ w', Below W5.heap.size W5 w' → Ints w' (.slice a1 cl.length ka1) cl ∧ Ints w' (.slice a2 ch.length ka2) ch ∧ Ints w' (.slice a3 wl.length ka3) wl ∧ Ints w' (.slice a4 wh.length ka4) wh ∧ Ints w' (.slice p3 c.length k3) c ∧ Ints w' (.slice q1 q.length kq1) q ∧ RowsI w' (.slice q2 H.length kq2) H ∧ Dims w' (.slice p0 d.length k0) d) := fun w' h => by
            have h4 := below_keep HB5.out h
            exact ⟨HV14.out.later IntR.lasts h4, HV24.out.later IntR.lasts h4, HU1.out.later IntR.lasts h4, HU2.out.later IntR.lasts h4, HCC.out.later IntR.lasts (HBW.out _ (below_keep B7.out h)), HVQ4.out.ints.later IntR.lasts (below_keep C7.out h), HVH.out.later RowR.lasts (below_keep C7.out h), HDD.out.later DimR.lasts (HBW.out _ (below_keep B7.out h))⟩
          go_wp2_with fail
          rw [← hW5]
          clear hW5 hq1 hq2 c0 c1
          have J0 := CI.out W5 (Below.refl _ _)
          obtain ⟨j1, j2, j3, j4, j5, j6, j7, j8⟩ := J0
          have i1 := inside_any _ _ _ _ _ _ _ j1 j2 j5
          rw [HI1.out.1] at i1
          refine i1.mono ?_
          rintro e z1 ⟨rfl, hb⟩
          have Z1 := Lib.hid hb
          clear i1 j1 j2 j3 j4 j5 j6 j7 j8 hb
          obtain ⟨⟨c0, c1⟩, ⟨c2, c3⟩, -⟩ := K.out _ Z1.out
          go_wp2_with fail
          obtain ⟨j1, j2, j3, j4, j5, j6, j7, j8⟩ := CI.out _ Z1.out
          have i1 := inside_any _ _ _ _ _ _ _ j3 j4 j5
          rw [HI1.out.2.1] at i1
          refine i1.mono ?_
          rintro e z2 ⟨rfl, hb⟩
          have Z2 := Lib.hid (below_keep Z1.out hb)
          clear i1 j1 j2 j3 j4 j5 j6 j7 j8 hb c0 c1 c2 c3
          obtain ⟨⟨c0, c1⟩, ⟨c2, c3⟩, -⟩ := K.out _ Z2.out
          go_wp2_with fail
          obtain ⟨j1, j2, j3, j4, j5, j6, j7, j8⟩ := CI.out _ Z2.out
          have i1 := inside_any _ _ _ _ _ _ _ j3 j4 j1
          rw [HI1.out.2.2.1] at i1
          refine i1.mono ?_
          rintro e z3 ⟨rfl, hb⟩
          have Z3 := Lib.hid (below_keep Z2.out hb)
          clear i1 j1 j2 j3 j4 j5 j6 j7 j8 hb c0 c1 c2 c3
          obtain ⟨⟨c0, c1⟩, ⟨c2, c3⟩, -⟩ := K.out _ Z3.out
          go_wp2_with fail
          obtain ⟨j1, j2, j3, j4, j5, j6, j7, j8⟩ := CI.out _ Z3.out
          have i1 := inside_any _ _ _ _ _ _ _ j3 j4 j2
          rw [HI1.out.2.2.2.1] at i1
          refine i1.mono ?_
          rintro e z4 ⟨rfl, hb⟩
          have Z4 := Lib.hid (below_keep Z3.out hb)
          clear i1 j1 j2 j3 j4 j5 j6 j7 j8 hb c0 c1 c2 c3
          go_wp2_with fail
          obtain ⟨j1, j2, j3, j4, j5, j6, j7, j8⟩ := CI.out _ Z4.out
          have i1 := among_any _ _ _ _ _ j7 j6
          rw [decide_eq_true HI1.out.2.2.2.2] at i1
          refine i1.mono ?_
          rintro e z5 ⟨rfl, hb⟩
          have Z5 := Lib.hid (below_keep Z4.out hb)
          clear i1 j1 j2 j3 j4 j5 j6 j7 j8 hb
          go_wp2
          go_loopw [13] (fun iv wr => ∃ i : Nat, i ≤ H.length ∧ iv = .int .i64 (i : Nat) ∧ Below W5.heap.size W5 wr) (fun iv _ => H.length - (intOf iv).toNat)
          case atStart => exact ⟨0, Nat.zero_le _, rfl, Z5.out⟩
          case round =>
            obtain ⟨i, hi, rfl, hbw⟩ := hrel
            have ZW := Lib.hid hbw
            have hHl := HVH.out.len
            clear hbw
            by_cases hlt : i < H.length
            · obtain ⟨j1, j2, j3, j4, j5, j6, j7, j8⟩ := CI.out _ ZW.out
              obtain ⟨g, o, x, ea, hx, hr⟩ := j7.at i hlt
              subst ea
              rw [Nat.mul_one] at hr
              obtain ⟨vx, x0, hvx⟩ := hr.ex
              have hxm : x ∈ homesQ d l c := by rw [← HH.out]; exact List.mem_of_getElem? hx
              obtain ⟨hx1, hx2, hx3, hx4⟩ := ok_home HEE.out.symm hxm
              obtain ⟨xl, hxl⟩ : ∃ z, z = wLo d l.sides l.over x := ⟨_, rfl⟩
              obtain ⟨xh, hxh⟩ : ∃ z, z = wHi d l.sides l.over x := ⟨_, rfl⟩
              rw [← hxl, ← hxh] at hx3
              have CDx : Hid (∀ w1, Below wr.heap.size wr w1 → Calls Tryz.prog 34 #[.slice p0 d.length k0, layV (.slice p1 l.sides.length k1) (.slice p2 l.over.length k2) l, vx] w1 (RetBx (xl, xh) 0 w1)) := fun w1 hb => by
                have := CD.out vx x hx4 w1 (HBW.out _ (below_keep B7.out (below_keep ZW.out hb))) (hvx.later IntR.lasts hb)
                have ho : overQ l true = l.over := if_pos rfl
                rwa [widQ_of HLY.out hx1 true hx2, widE_of HLY.out hx1 true, if_pos hx2, ho, ← hxl, ← hxh] at this
              obtain ⟨q9, k9, rfl, -⟩ := hvx.shape
              rw [hx1] at CDx
              have HX := Lib.hid hx
              have HX3' := Lib.hid hx3
              have HVX := Lib.hid hvx
              obtain ⟨-, -, d0, d1, d2, d3, d4, d5⟩ := K.out _ ZW.out
              have ib0 : (0 : Int) ≤ (i : Int) := by omega
              have ib1 : (i : Int) < (H.length : Int) := by omega
              have hxl9 : x.length = d.length := hx1
              clear j1 j2 j3 j4 j5 j6 j7 j8 hx hr hvx hxm hx1 hx2 hx3 hx4 hxl hxh
              go_upto_region 14 with (fail)
              let KF : (Ending → World → Prop) → Exit → Act → World → Prop := bodyPost Tryz.prog Tryz.f6
              go_cut [14, 15] (fun a b wx => ∃ g v1 v2, a = .pointer (some ⟨g, 0, none⟩) ∧ b = .int .i64 0 ∧ wx.cell? ⟨g, 0, none⟩ = some v1 ∧ wx.cell? ⟨g, 1, none⟩ = some v2 ∧ Ints wx v1 xl ∧ Ints wx v2 xh ∧ Below wr.heap.size wr wx)
              case first =>
                have hq1 : w.heap.size < wr.heap.size := World.block_lt_of_cell? _ _ d0
                have hq2 : w.heap.size ≠ wr.heap.size := Nat.ne_of_lt hq1
                have hq3 : g < wr.heap.size := World.block_lt_of_cell? _ _ x0
                have hq4 : g ≠ wr.heap.size := Nat.ne_of_lt hq3
                go_wp2_with fail
                go_region_with ((go_at_call 34; first
                  | (refine (CDx.out _ (Below.refl _ _).drew).mono ?_; rintro e z ⟨v1, v2, rfl, hv1, hv2, hb⟩; obtain ⟨b1, kb1, rfl, -⟩ := hv1.ints.shape; obtain ⟨b2, kb2, rfl, -⟩ := hv2.ints.shape; simp only at hv1 hv2 ⊢; have HF := Lib.hid (box_made wr z _ _ _ _ hv1 hv2 (below_keep (Below.refl _ _).drew hb)); clear hv1 hv2 hb)
                  | (refine (CDx.out _ (below_keep (Below.refl _ _).drew (below_alloc _ _))).mono ?_; rintro e z ⟨v1, v2, rfl, hv1, hv2, hb⟩; obtain ⟨b1, kb1, rfl, -⟩ := hv1.ints.shape; obtain ⟨b2, kb2, rfl, -⟩ := hv2.ints.shape; simp only at hv1 hv2 ⊢; have hr9 : ResB z wr.heap.size (.slice none 0 0) (.slice none 0 0) := (ResB.made wr.drew 52).later (w' := z) hb (by simp); have ht9 : TagB z wr.heap.size 52 := (show TagB (wr.drew.alloc (.cells #[.slice none 0 0, .slice none 0 0] 52)) wr.heap.size 52 from ⟨_, _, World.alloc_heap_new wr.drew _⟩).kept (hb.block wr.heap.size (by simp)); have HF := Lib.hid (box_store wr z wr.heap.size _ _ _ _ _ _ hv1 hv2 ht9 hr9 (below_keep (below_keep (Below.refl _ _).drew (below_alloc _ _)) hb) (Nat.le_refl _)); obtain ⟨r0, r1, r2, r3⟩ := hr9; clear hv1 hv2 hb ht9)))
                all_goals
                  go_wp2
                  go_meet
                  obtain ⟨e0, e1, e2, e3, e4⟩ := HF.out
                  exact ⟨_, _, _, rfl, rfl, e0, e1, e2, e3, e4⟩
              case rest =>
                obtain ⟨g9, v1, v2, rfl, rfl, e0, e1, hv1, hv2, hbc⟩ := hcut
                have HZC := Lib.hid (below_keep ZW.out hbc)
                have CIx : Hid (∀ w1, Below wc.heap.size wc w1 → Calls Tryz.prog 37 #[.agg #[v1, v2], .slice p3 c.length k3] w1 (RetV' (.bool true) w1)) := fun w1 hb => by
                  have := inside_any v1 v2 (.slice p3 c.length k3) xl xh c w1 (hv1.later IntR.lasts hb) (hv2.later IntR.lasts hb) (HCC.out.later IntR.lasts (HBW.out _ (below_keep B7.out (below_keep HZC.out hb))))
                  rwa [HX3'.out] at this
                obtain ⟨b1, kb1, rfl, -⟩ := hv1.shape
                obtain ⟨b2, kb2, rfl, -⟩ := hv2.shape
                have x0' := cell_later x0 hbc
                have HVXC := Lib.hid (HVX.out.later IntR.lasts hbc)
                have HI1' : Hid (i + 1 ≤ H.length ∧ H.length - (i + 1) < H.length - i) := by show _ ∧ _; omega
                have HXX := Lib.hid (And.intro x0 (And.intro d0 (And.intro d1 (And.intro d2 (And.intro d3 (And.intro d4 d5))))))
                clear x0 d0 d1 d2 d3 d4 d5 hv1 hv2 hbc CDx
                by_cases hi0 : i = 0
                · have t3 : decide ((0 : Int) < i) = false := decide_eq_false (by omega)
                  have t4 : decide (0 < i) = false := decide_eq_false (by omega)
                  clear hi0
                  have KS9 : Hid (∀ w', Below wc.heap.size wc w' → w'.cell? ⟨g9, 0, none⟩ = some (.slice b1 xl.length kb1) ∧ w'.cell? ⟨g9, 1, none⟩ = some (.slice b2 xh.length kb2) ∧ Below wc.heap.size wc w') := fun w' h => ⟨cell_later e0 h, cell_later e1 h, h⟩
                  clear e0 e1
                  go_wp2_with fail
                  refine wp_region_list [.val (.int .i64 0), .val (.bool false), .val (.bool false), .val (.agg #[.slice b1 xl.length kb1, .slice b2 xh.length kb2]), .val (.slice p3 c.length k3), .val (.bool true), .val (.bool false), .val (.bool false), .val (.bool false), .val (.int .i64 (i : Nat)), .val (.bool false), .val (.bool false), .any, .any, .any, .any, .any, .any, .any, .any, .any, .any, .any, .val (.bool false), .val (.bool false)]
                    [some 140, some 141, some 142, some 143, some 144, some 145, some 146, some 147, some 148, some 149, some 150, some 151, some 152, some 153, some 154, some 155, some 156, some 157, some 158, some 159, some 160, some 161, some 162, some 163, some 164]
                    (fun w' => w'.cell? ⟨g9, 0, none⟩ = some (.slice b1 xl.length kb1) ∧ w'.cell? ⟨g9, 1, none⟩ = some (.slice b2 xh.length kb2) ∧ Below wc.heap.size wc w') (fun _ _ => Hid True) rfl (by kernel_rfl) (by kernel_rfl) (by kernel_rfl) (by kernel_rfl) ?_ ?_ ?_ ?_
                  · (intro y hy v w1 w2 hs hv; simp only [List.mem_cons, List.not_mem_nil, or_false] at hy; rcases hy with rfl | rfl | rfl | rfl | rfl | rfl | rfl | rfl | rfl | rfl | rfl | rfl | rfl | rfl | rfl | rfl | rfl | rfl | rfl | rfl | rfl | rfl | rfl | rfl | rfl; all_goals exact hv)
                  · exact KS9.out _ (Below.refl _ _).drew
                  · intro i9 op9 ho
                    have hi : i9 < 25 := (Array.getElem?_eq_some_iff.1 ho).1
                    match i9, hi with
                    | 0, _ =>
                      obtain rfl := Option.some.inj ho
                      intro a9 wx hBx hev haf
                      rw [if_pos (wanted_none rfl)]
                      have f15 : (a9.tmps[15]?).getD undef = .int .i64 0 := hev 15 (by kernel_rfl)
                      clear haf hev
                      go_simp
                      exact ⟨rfl, trivial, hBx⟩
                    | 1, _ =>
                      obtain rfl := Option.some.inj ho
                      intro a9 wx hBx hev haf
                      rw [if_pos (wanted_none rfl)]
                      have f140 : (a9.tmps[140]?).getD undef = (.int .i64 0) := haf 0 _ rfl rfl 140 rfl
                      clear haf hev
                      go_simp
                      exact ⟨rfl, trivial, hBx⟩
                    | 2, _ =>
                      obtain rfl := Option.some.inj ho
                      intro a9 wx hBx hev haf
                      rw [if_pos (wanted_none rfl)]
                      have f141 : (a9.tmps[141]?).getD undef = (.bool false) := haf 0 _ rfl rfl 141 rfl
                      clear haf hev
                      go_simp
                      exact ⟨rfl, trivial, hBx⟩
                    | 3, _ =>
                      obtain rfl := Option.some.inj ho
                      intro a9 wx hBx hev haf
                      have fg : (a9.tmps[142]?).getD undef = .bool false := haf 0 _ rfl rfl 142 rfl
                      rw [if_pos (by rw [wanted_at (j := 2) (b := false) rfl rfl fg]; rfl)]
                      have f14 : (a9.tmps[14]?).getD undef = .pointer (some ⟨g9, 0, none⟩) := hev 14 (by kernel_rfl)
                      clear haf hev
                      obtain ⟨e0, e1, -⟩ := id hBx
                      go_simp
                      exact ⟨rfl, trivial, hBx⟩
                    | 4, _ =>
                      obtain rfl := Option.some.inj ho
                      intro a9 wx hBx hev haf
                      have fg : (a9.tmps[142]?).getD undef = .bool false := haf 0 _ rfl rfl 142 rfl
                      rw [if_pos (by rw [wanted_at (j := 2) (b := false) rfl rfl fg]; rfl)]
                      have f2 : (a9.tmps[2]?).getD undef = .slice p3 c.length k3 := hev 2 (by kernel_rfl)
                      clear haf hev
                      go_simp
                      exact ⟨rfl, trivial, hBx⟩
                    | 5, _ =>
                      obtain rfl := Option.some.inj ho
                      intro a9 wx hBx hev haf
                      have fg : (a9.tmps[142]?).getD undef = .bool false := haf 2 _ rfl rfl 142 rfl
                      rw [if_pos (by rw [wanted_at (j := 2) (b := false) rfl rfl fg]; rfl)]
                      have f143 : (a9.tmps[143]?).getD undef = (.agg #[.slice b1 xl.length kb1, .slice b2 xh.length kb2]) := haf 0 _ rfl rfl 143 rfl
                      have f144 : (a9.tmps[144]?).getD undef = (.slice p3 c.length k3) := haf 1 _ rfl rfl 144 rfl
                      clear haf hev
                      go_simp
                      exact (CIx.out _ hBx.2.2).mono fun e w' ⟨he, hb⟩ => ⟨_, he, rfl, trivial, KS9.out _ (below_keep hBx.2.2 hb)⟩
                    | 6, _ =>
                      obtain rfl := Option.some.inj ho
                      intro a9 wx hBx hev haf
                      have fg : (a9.tmps[142]?).getD undef = .bool false := haf 1 _ rfl rfl 142 rfl
                      rw [if_pos (by rw [wanted_at (j := 2) (b := false) rfl rfl fg]; rfl)]
                      have f145 : (a9.tmps[145]?).getD undef = (.bool true) := haf 0 _ rfl rfl 145 rfl
                      clear haf hev
                      go_simp
                      exact ⟨rfl, trivial, hBx⟩
                    | 7, _ =>
                      obtain rfl := Option.some.inj ho
                      intro a9 wx hBx hev haf
                      rw [if_pos (wanted_none rfl)]
                      have f142 : (a9.tmps[142]?).getD undef = (.bool false) := haf 0 _ rfl rfl 142 rfl
                      have f146 : (a9.tmps[146]?).getD undef = (.bool false) := haf 1 _ rfl rfl 146 rfl
                      clear haf hev
                      go_simp
                      exact ⟨rfl, trivial, hBx⟩
                    | 8, _ =>
                      obtain rfl := Option.some.inj ho
                      intro a9 wx hBx hev haf
                      rw [if_pos (wanted_none rfl)]
                      have f147 : (a9.tmps[147]?).getD undef = (.bool false) := haf 0 _ rfl rfl 147 rfl
                      clear haf hev
                      go_simp
                      exact ⟨rfl, trivial, hBx⟩
                    | 9, _ =>
                      obtain rfl := Option.some.inj ho
                      intro a9 wx hBx hev haf
                      have fg : (a9.tmps[148]?).getD undef = .bool false := haf 0 _ rfl rfl 148 rfl
                      rw [if_pos (by rw [wanted_at (j := 8) (b := false) rfl rfl fg]; rfl)]
                      have f13 : (a9.tmps[13]?).getD undef = .int .i64 (i : Nat) := hev 13 (by kernel_rfl)
                      clear haf hev
                      go_simp
                      exact ⟨rfl, trivial, hBx⟩
                    | 10, _ =>
                      obtain rfl := Option.some.inj ho
                      intro a9 wx hBx hev haf
                      have fg : (a9.tmps[148]?).getD undef = .bool false := haf 1 _ rfl rfl 148 rfl
                      rw [if_pos (by rw [wanted_at (j := 8) (b := false) rfl rfl fg]; rfl)]
                      have f149 : (a9.tmps[149]?).getD undef = (.int .i64 (i : Nat)) := haf 0 _ rfl rfl 149 rfl
                      clear haf hev
                      go_simp
                      exact ⟨rfl, trivial, hBx⟩
                    | 11, _ =>
                      obtain rfl := Option.some.inj ho
                      intro a9 wx hBx hev haf
                      have fg : (a9.tmps[148]?).getD undef = .bool false := haf 1 _ rfl rfl 148 rfl
                      rw [if_pos (by rw [wanted_at (j := 8) (b := false) rfl rfl fg]; rfl)]
                      have f150 : (a9.tmps[150]?).getD undef = (.bool false) := haf 0 _ rfl rfl 150 rfl
                      clear haf hev
                      go_simp
                      exact ⟨rfl, trivial, hBx⟩
                    | 12, _ =>
                      obtain rfl := Option.some.inj ho
                      intro a9 wx hBx hev haf
                      have fg : (a9.tmps[151]?).getD undef = .bool false := haf 0 _ rfl rfl 151 rfl
                      rw [if_neg (by rw [wanted_at (j := 11) (b := true) rfl rfl fg]; decide)]
                      trivial
                    | 13, _ =>
                      obtain rfl := Option.some.inj ho
                      intro a9 wx hBx hev haf
                      have fg : (a9.tmps[151]?).getD undef = .bool false := haf 0 _ rfl rfl 151 rfl
                      rw [if_neg (by rw [wanted_at (j := 11) (b := true) rfl rfl fg]; decide)]
                      trivial
                    | 14, _ =>
                      obtain rfl := Option.some.inj ho
                      intro a9 wx hBx hev haf
                      have fg : (a9.tmps[151]?).getD undef = .bool false := haf 1 _ rfl rfl 151 rfl
                      rw [if_neg (by rw [wanted_at (j := 11) (b := true) rfl rfl fg]; decide)]
                      trivial
                    | 15, _ =>
                      obtain rfl := Option.some.inj ho
                      intro a9 wx hBx hev haf
                      have fg : (a9.tmps[151]?).getD undef = .bool false := haf 2 _ rfl rfl 151 rfl
                      rw [if_neg (by rw [wanted_at (j := 11) (b := true) rfl rfl fg]; decide)]
                      trivial
                    | 16, _ =>
                      obtain rfl := Option.some.inj ho
                      intro a9 wx hBx hev haf
                      have fg : (a9.tmps[151]?).getD undef = .bool false := haf 1 _ rfl rfl 151 rfl
                      rw [if_neg (by rw [wanted_at (j := 11) (b := true) rfl rfl fg]; decide)]
                      trivial
                    | 17, _ =>
                      obtain rfl := Option.some.inj ho
                      intro a9 wx hBx hev haf
                      have fg : (a9.tmps[151]?).getD undef = .bool false := haf 0 _ rfl rfl 151 rfl
                      rw [if_neg (by rw [wanted_at (j := 11) (b := true) rfl rfl fg]; decide)]
                      trivial
                    | 18, _ =>
                      obtain rfl := Option.some.inj ho
                      intro a9 wx hBx hev haf
                      have fg : (a9.tmps[151]?).getD undef = .bool false := haf 0 _ rfl rfl 151 rfl
                      rw [if_neg (by rw [wanted_at (j := 11) (b := true) rfl rfl fg]; decide)]
                      trivial
                    | 19, _ =>
                      obtain rfl := Option.some.inj ho
                      intro a9 wx hBx hev haf
                      have fg : (a9.tmps[151]?).getD undef = .bool false := haf 2 _ rfl rfl 151 rfl
                      rw [if_neg (by rw [wanted_at (j := 11) (b := true) rfl rfl fg]; decide)]
                      trivial
                    | 20, _ =>
                      obtain rfl := Option.some.inj ho
                      intro a9 wx hBx hev haf
                      have fg : (a9.tmps[151]?).getD undef = .bool false := haf 1 _ rfl rfl 151 rfl
                      rw [if_neg (by rw [wanted_at (j := 11) (b := true) rfl rfl fg]; decide)]
                      trivial
                    | 21, _ =>
                      obtain rfl := Option.some.inj ho
                      intro a9 wx hBx hev haf
                      have fg : (a9.tmps[151]?).getD undef = .bool false := haf 2 _ rfl rfl 151 rfl
                      rw [if_neg (by rw [wanted_at (j := 11) (b := true) rfl rfl fg]; decide)]
                      trivial
                    | 22, _ =>
                      obtain rfl := Option.some.inj ho
                      intro a9 wx hBx hev haf
                      have fg : (a9.tmps[151]?).getD undef = .bool false := haf 1 _ rfl rfl 151 rfl
                      rw [if_neg (by rw [wanted_at (j := 11) (b := true) rfl rfl fg]; decide)]
                      trivial
                    | 23, _ =>
                      obtain rfl := Option.some.inj ho
                      intro a9 wx hBx hev haf
                      have fg : (a9.tmps[148]?).getD undef = .bool false := haf 2 _ rfl rfl 148 rfl
                      rw [if_pos (by rw [wanted_at (j := 8) (b := false) rfl rfl fg]; rfl)]
                      have f151 : (a9.tmps[151]?).getD undef = (.bool false) := haf 0 _ rfl rfl 151 rfl
                      clear haf hev
                      go_simp
                      exact ⟨rfl, trivial, hBx⟩
                    | 24, _ =>
                      obtain rfl := Option.some.inj ho
                      intro a9 wx hBx hev haf
                      rw [if_pos (wanted_none rfl)]
                      have f148 : (a9.tmps[148]?).getD undef = (.bool false) := haf 0 _ rfl rfl 148 rfl
                      have f163 : (a9.tmps[163]?).getD undef = (.bool false) := haf 1 _ rfl rfl 163 rfl
                      clear haf hev
                      go_simp
                      exact ⟨rfl, trivial, hBx⟩
                  · intro vals wx hBx hG
                    have g0 : vals 0 = (.int .i64 0) := hG 0 (by decide)
                    have g1 : vals 1 = (.bool false) := hG 1 (by decide)
                    have g2 : vals 2 = (.bool false) := hG 2 (by decide)
                    have g3 : vals 3 = (.agg #[.slice b1 xl.length kb1, .slice b2 xh.length kb2]) := hG 3 (by decide)
                    have g4 : vals 4 = (.slice p3 c.length k3) := hG 4 (by decide)
                    have g5 : vals 5 = (.bool true) := hG 5 (by decide)
                    have g6 : vals 6 = (.bool false) := hG 6 (by decide)
                    have g7 : vals 7 = (.bool false) := hG 7 (by decide)
                    have g8 : vals 8 = (.bool false) := hG 8 (by decide)
                    have g9 : vals 9 = (.int .i64 (i : Nat)) := hG 9 (by decide)
                    have g10 : vals 10 = (.bool false) := hG 10 (by decide)
                    have g11 : vals 11 = (.bool false) := hG 11 (by decide)
                    have g23 : vals 23 = (.bool false) := hG 23 (by decide)
                    have g24 : vals 24 = (.bool false) := hG 24 (by decide)
                    clear hG
                    simp only [putDs, Act.put, Nat.zero_add, Nat.reduceAdd, List.setIfInBounds_toArray, List.set_cons_succ, List.set_cons_zero, g0, g1, g2, g3, g4, g5, g6, g7, g8, g9, g10, g11, g23, g24]
                    clear g0 g1 g2 g3 g4 g5 g6 g7 g8 g9 g10 g11 g23 g24
                    have HBE := Lib.hid (below_keep HZC.out hBx.2.2)
                    clear hBx
                    go_wp2
                    exact ⟨⟨i + 1, HI1'.out.1, by go_num, HBE.out⟩, HI1'.out.2⟩
                · obtain ⟨j, hj⟩ : ∃ j, i = j + 1 := ⟨i - 1, by omega⟩
                  have t3 : decide ((0 : Int) < i) = true := decide_eq_true (by omega)
                  have t4 : decide (0 < i) = true := decide_eq_true (by omega)
                  have wij : IntKind.i64.wrap ((i : Int) - 1) = (j : Int) := by rw [IntWalk.i64_in _ (by omega)]; omega
                  have jb0 : (0 : Int) ≤ (j : Int) := by omega
                  have jb1 : (j : Int) < (H.length : Int) := by omega
                  obtain ⟨-, -, -, -, -, -, j7, -⟩ := CI.out _ HZC.out
                  obtain ⟨g', o', x', ea, hx', hr'⟩ := j7.at j (by omega)
                  injection ea with ea
                  injection ea with ea1 ea2
                  subst ea1 ea2
                  rw [Nat.mul_one] at hr'
                  obtain ⟨vx', y0, hvx'⟩ := hr'.ex
                  have hcmp : cmpI x' x = -1 := by
                    have hs := homesQ_sorted d l c
                    rw [← HH.out] at hs
                    obtain ⟨h1, e1⟩ := List.getElem?_eq_some_iff.1 hx'
                    obtain ⟨h2, e2⟩ := List.getElem?_eq_some_iff.1 HX.out
                    have := (List.pairwise_iff_getElem.1 hs) j i h1 h2 (by omega)
                    rwa [e1, e2] at this
                  have KC : Hid (∀ w1, Below wc.heap.size wc w1 → Calls Tryz.prog 39 #[vx', .slice q9 d.length k9] w1 (fun e w' => e = .returned (.int .i64 (-1)) ∧ w1 = w')) := fun w1 hb => by
                    have := compare_any x' x vx' (.slice q9 x.length k9) w1 (hvx'.later IntR.lasts hb) (HVXC.out.later IntR.lasts hb)
                    rwa [hcmp, hxl9] at this
                  obtain ⟨q8, k8, rfl, -⟩ := hvx'.shape
                  have KS : Hid (∀ w', Below wc.heap.size wc w' → w'.cell? ⟨g9, 0, none⟩ = some (.slice b1 xl.length kb1) ∧ w'.cell? ⟨g9, 1, none⟩ = some (.slice b2 xh.length kb2) ∧ w'.cell? ⟨g, o + i, none⟩ = some (.slice q9 x.length k9) ∧ w'.cell? ⟨g, o + j, none⟩ = some (.slice q8 x'.length k8) ∧ Below wc.heap.size wc w') := fun w' h => ⟨cell_later e0 h, cell_later e1 h, cell_later x0' h, cell_later y0 h, h⟩
                  rw [hxl9] at KS
                  clear hj j7 hx' hr' hvx' hcmp hi0 HXX y0 e0 e1 x0'
                  go_wp2_with fail
                  go_region_held3 (fun w' => w'.cell? ⟨g9, 0, none⟩ = some (.slice b1 xl.length kb1) ∧ w'.cell? ⟨g9, 1, none⟩ = some (.slice b2 xh.length kb2) ∧ w'.cell? ⟨g, o + i, none⟩ = some (.slice q9 d.length k9) ∧ w'.cell? ⟨g, o + j, none⟩ = some (.slice q8 x'.length k8) ∧ Below wc.heap.size wc w')
                    (first | exact KS.out _ (Below.refl _ _).drew | exact KS.out _ (by assumption))
                    (first
                      | (go_at_call 37; refine (CIx.out _ (Below.refl _ _).drew).mono ?_; rintro e z ⟨rfl, hb⟩; have hbz : Below wc.heap.size wc z := below_keep (Below.refl _ _).drew hb)
                      | (go_at_call 39; refine (KC.out _ hbz).mono ?_; rintro e z2 ⟨rfl, rfl⟩))
                  have HBE := Lib.hid (below_keep HZC.out hbz)
                  clear hb hbz
                  go_wp2
                  exact ⟨⟨i + 1, HI1'.out.1, by go_num, HBE.out⟩, HI1'.out.2⟩
            · obtain rfl : i = H.length := by omega
              clear HI1 hlt
              go_wp2
              go_loopw [16] (fun iv wr => ∃ i : Nat, i ≤ q.length ∧ iv = .int .i64 (i : Nat) ∧ Below W5.heap.size W5 wr) (fun iv _ => q.length - (intOf iv).toNat)
              case atStart => exact ⟨0, Nat.zero_le _, rfl, ZW.out⟩
              case round =>
                obtain ⟨i, hi, rfl, hbw⟩ := hrel
                have ZX := Lib.hid hbw
                clear hbw ZW
                by_cases hlt : i < q.length
                · have hE' : chunkE d l c = 0 := HEE.out.symm
                  have hll := (layout_good HLY.out).sides
                  have hlo := (layout_good HLY.out).over
                  have hid : i < d.length := by rw [← HQL.out]; exact hlt
                  obtain ⟨x, hx⟩ := at_lt (l := d) (i := i) hid
                  obtain ⟨y, hy⟩ := at_lt (l := l.sides) (i := i) (by rw [hll]; exact hid)
                  obtain ⟨a, ha⟩ := at_lt (l := c) (i := i) (by rw [HCL.out]; exact hid)
                  obtain ⟨k, hk⟩ : ∃ k, k = (a - x.lo) / y := ⟨_, rfl⟩
                  have hqk : q[i]? = some k := by rw [HQ.out, hk]; exact chunkL_get hx hy ha
                  obtain ⟨nx, hnx⟩ : ∃ nx, nx = q.set i (k + 1) := ⟨_, rfl⟩
                  obtain ⟨eh, he1, he2, he3⟩ := core_end hE' hx hy ha
                  obtain ⟨el, hl1, hl2⟩ := core_first hE' hx hy ha
                  have hni := next_in hE' hx hy ha
                  have hnb := okC_bounds hE' hx hy ha
                  rw [← HQ.out] at he1 he2 he3 hl1 hni hnb
                  rw [← hk] at he2 he3 hl2 hni hnb
                  rw [← hnx] at he2 he3 hni hnb
                  rw [← HCH0.out] at he1
                  rw [← HCL0.out] at hl1
                  rw [← HH.out] at hni
                  have HNB := Lib.hid hnb.2
                  have hk0 := hnb.1 k (List.mem_of_getElem? hqk)
                  have wk : IntKind.i64.wrap (k + 1) = k + 1 := IntWalk.i64_in _ (by omega)
                  have hnl : nx.length = d.length := by rw [hnx, List.length_set]; exact HQL.out
                  have HNL := Lib.hid hnl
                  have HNB3 : Hid (∀ z ∈ nx, 0 ≤ z ∧ z ≤ 2147483649) := fun z hz => by
                    rw [hnx] at hz
                    rcases List.mem_or_eq_of_mem_set hz with h | rfl
                    · have := hnb.1 z h; omega
                    · omega
                  have HE2 := Lib.hid he2
                  have HE3 := Lib.hid he3
                  have HL2 := Lib.hid hl2
                  have HNI := Lib.hid hni
                  -- the memory
                  obtain ⟨j1, j2, j3, j4, j5, j6, j7, j8⟩ := CI.out _ (Below.refl _ _)
                  have hcll : cl.length = d.length := by rw [HCL0.out]; exact wLo_length hll (by rw [List.length_replicate]; exact hlo) HQL.out
                  have hchl : ch.length = d.length := by rw [HCH0.out]; exact wHi_length hll (by rw [List.length_replicate]; exact hlo) HQL.out
                  obtain ⟨gl, ol, x1, ea1, hx1, m1⟩ := j1.at i (by omega)
                  obtain ⟨gh, oh, x2, ea2, hx2, m2⟩ := j2.at i (by omega)
                  obtain ⟨gq, oq, x3, ea3, hx3, m3⟩ := j6.at i hlt
                  obtain ⟨gd, od, x4, ea4, hx4, m4⟩ := j8.at i hid
                  subst ea1 ea2 ea3 ea4
                  cases hl1.symm.trans hx1
                  cases he1.symm.trans hx2
                  cases hqk.symm.trans hx3
                  cases hx.symm.trans hx4
                  rw [Nat.mul_one] at m1 m2 m3
                  unfold IntR at m1 m2 m3
                  obtain ⟨nm, xlo, xhi⟩ := x
                  obtain ⟨m5, m6, m7⟩ := m4
                  simp only at m6 m7
                  have hk1 := (K.out _ (Below.refl _ _)).1
                  have KR : Hid (∀ w', Below W5.heap.size W5 w' → w'.cell? ⟨y3.heap.size, 0, none⟩ = some (.slice (some ⟨gl, ol, none⟩) cl.length ka1) ∧ w'.cell? ⟨y3.heap.size, 1, none⟩ = some (.slice (some ⟨gh, oh, none⟩) ch.length ka2) ∧ w'.cell? ⟨gd, od + i * 3 + 1, none⟩ = some (.int .i64 xlo) ∧ w'.cell? ⟨gd, od + i * 3 + 2, none⟩ = some (.int .i64 xhi) ∧ w'.cell? ⟨gl, ol + i, none⟩ = some (.int .i64 el) ∧ w'.cell? ⟨gh, oh + i, none⟩ = some (.int .i64 eh) ∧ w'.cell? ⟨gq, oq + i, none⟩ = some (.int .i64 k)) := fun w' h =>
                    ⟨cell_later hk1.1 h, cell_later hk1.2 h, cell_later m6 h, cell_later m7 h, cell_later m1 h, cell_later m2 h, cell_later m3 h⟩
                  have hq0 : 0 < q.length := by omega
                  have hq9 : q.length ≤ 1000000 := by have := HC10.out; have := HCL.out; have := HQL.out; omega
                  obtain ⟨g7, cp7, w7, hrun, hrz, hg7, hcp, hcp2, hb7⟩ := copyZ 38 wr _ q ((CI.out _ ZX.out).2.2.2.2.2.1) hq0 hq9
                  have HRUN := Lib.hid hrun
                  have HQ9 : Hid (q.length ≤ 1000000) := hq9
                  have hc7 := hrz.cell i k hqk
                  have hz7 := hrz.free i
                  have hst := hrz.set i (k + 1) hlt rfl
                  rw [← hnx] at hst
                  obtain ⟨W7, hW7⟩ : ∃ W, W = w7.setCell ⟨g7, i, none⟩ (.int .i64 (k + 1)) := ⟨_, rfl⟩
                  rw [← hW7] at hst
                  have hnq : nx.length = q.length := by rw [hnl]; exact HQL.out.symm
                  have HN7 := Lib.hid (hst.ints hnq hcp hcp2)
                  have B77 : Below wr.heap.size wr W7 := by rw [hW7]; exact hb7.setCell (p := ⟨g7, i, none⟩) hg7 _
                  have Z7 := Lib.hid (below_keep ZX.out B77)
                  have HI1' : Hid (i + 1 ≤ q.length ∧ q.length - (i + 1) < q.length - i) := by show _ ∧ _; omega
                  have ib0 : (0 : Int) ≤ (i : Int) := by omega
                  have ib1 : (i : Int) < (q.length : Int) := by omega
                  have ib2 : (i : Int) < (d.length : Int) := by omega
                  have ib3 : (i : Int) < (cl.length : Int) := by omega
                  have ib4 : (i : Int) < (ch.length : Int) := by omega
                  have IB := Lib.hid (And.intro ib1 (And.intro ib2 (And.intro ib3 ib4)))
                  obtain ⟨bx, hbx⟩ : ∃ b, b = widQ d l nx false := ⟨_, rfl⟩
                  obtain ⟨bw, hbw⟩ : ∃ b, b = widQ d l nx true := ⟨_, rfl⟩
                  obtain ⟨er, her⟩ : ∃ e : Int, e = if okC d l.sides nx = true then 0 else 3 := ⟨_, rfl⟩
                  have HBXQ := Lib.hid hbx
                  have HBWQ := Lib.hid hbw
                  have HER := Lib.hid her
                  have CN : Hid (∀ w1, Below W7.heap.size W7 w1 → Calls Tryz.prog 32 #[.slice (some ⟨gd, od, none⟩) d.length k0, layV (.slice p1 l.sides.length k1) (.slice p2 l.over.length k2) l, .slice (some ⟨g7, 0, none⟩) q.length cp7] w1 (RetBx bx er w1)) := fun w1 hb => by
                    have := CK.out (.slice (some ⟨g7, 0, none⟩) q.length cp7) nx HNB.out w1 (HBW.out _ (below_keep B7.out (below_keep Z7.out hb))) (HN7.out.ints.later IntR.lasts hb)
                    rwa [widE_of HLY.out HNL.out false, ← HBXQ.out, ← HER.out] at this
                  have CNW : Hid (∀ w1, Below W7.heap.size W7 w1 → Calls Tryz.prog 34 #[.slice (some ⟨gd, od, none⟩) d.length k0, layV (.slice p1 l.sides.length k1) (.slice p2 l.over.length k2) l, .slice (some ⟨g7, 0, none⟩) q.length cp7] w1 (RetBx bw er w1)) := fun w1 hb => by
                    have := CD.out (.slice (some ⟨g7, 0, none⟩) q.length cp7) nx HNB.out w1 (HBW.out _ (below_keep B7.out (below_keep Z7.out hb))) (HN7.out.ints.later IntR.lasts hb)
                    rwa [widE_of HLY.out HNL.out true, ← HBWQ.out, ← HER.out] at this
                  clear hE' hll hlo hid hx hy ha hk hqk hnx he1 he2 he3 hl1 hl2 hni hnb hk0 hnl j1 j2 j3 j4 j5 j6 j7 j8 hcll hchl hx1 hx2 hx3 hx4 m1 m2 m3 m5 m6 m7 hk1 hq0 hq9 hrun hrz hcp hcp2 hst hnq hb7 hg7 hbx hbw her ib2 ib3 ib4 hlt hi CK CD
                  have wr9 := wk
                  go_upto_region 20 with (fail)
                  let KF : (Ending → World → Prop) → Exit → Act → World → Prop := bodyPost Tryz.prog Tryz.f6
                  go_cut [17] (fun a wx => a = .slice (some ⟨g7, 0, none⟩) q.length cp7 ∧ wx = w7)
                  case first =>
                    go_wp2_with (at_builtin; refine Lib.wpList_append_run _ rfl _ _ _ _ rfl _ _ rfl rfl _ _ HRUN.out ?_)
                    go_wp2
                    go_meet
                    exact ⟨rfl, rfl⟩
                  case rest =>
                    obtain ⟨rfl, hwc⟩ := hcut
                    rw [hwc]
                    clear hwc
                    go_upto_region 22 with (fail)
                    rw [← hW7]
                    clear hW7 hc7 hz7 wk wr9 HRUN B77
                    obtain ⟨d0, d1, d2, d3, d4, d5⟩ := (K.out _ Z7.out).2.2
                    go_wp2_with fail
                    refine (CN.out _ (Below.refl _ _)).mono ?_
                    rintro e y6 ⟨v1, v2, rfl, hv1, hv2, hb⟩
                    have Z8 := Lib.hid (below_keep Z7.out hb)
                    have Y8 := Lib.hid hb
                    have HV1 := Lib.hid hv1.ints
                    have HV2 := Lib.hid hv2.ints
                    obtain ⟨a5, ka5, rfl, -⟩ := hv1.ints.shape
                    obtain ⟨a6, ka6, rfl, -⟩ := hv2.ints.shape
                    obtain ⟨W9, hW9, hb9, hx9⟩ := boxm_at y6 (.slice a5 bx.1.length ka5) (.slice a6 bx.2.length ka6)
                    have HB9 := Lib.hid hb9
                    have HX9 := Lib.hid hx9
                    have Z9 := Lib.hid (below_keep Z8.out hb9)
                    have Y9 := Lib.hid (below_keep Y8.out hb9)
                    clear d0 d1 d2 d3 d4 d5 hb hv1 hv2 hb9 hx9 CN
                    go_upto_region 23 with (fail)
                    rw [← hW9]
                    clear hW9
                    cases hok : okC d l.sides nx with
                    | true =>
                      have HOK := Lib.hid hok
                      have hbe : bx = (wLo d l.sides (List.replicate l.over.length 0) nx, wHi d l.sides (List.replicate l.over.length 0) nx) := by rw [HBXQ.out, widQ_of HLY.out HNL.out false hok]; rfl
                      have HWE : Hid (bw = (wLo d l.sides l.over nx, wHi d l.sides l.over nx)) := by show _ = _; rw [HBWQ.out, widQ_of HLY.out HNL.out true hok]; rfl
                      have hee : er = 0 := by rw [HER.out, if_pos hok]
                      have hnl := HE3.out hok
                      have hbl : bx.1[i]? = some (eh + 1) := by rw [hbe]; exact hnl
                      have hbi := lt_at hbl
                      have hv1 := HV1.out
                      obtain ⟨gn, on, x5, ea5, hx5, m5⟩ := hv1.at i hbi
                      subst ea5
                      cases hbl.symm.trans hx5
                      rw [Nat.mul_one] at m5
                      unfold IntR at m5
                      have KX : Hid (∀ w', Below W9.heap.size W9 w' → w'.cell? ⟨y6.heap.size, 0, none⟩ = some (.slice (some ⟨gn, on, none⟩) bx.1.length ka5) ∧ w'.cell? ⟨gn, on + i, none⟩ = some (.int .i64 (eh + 1))) := fun w' h =>
                        ⟨(HX9.out _ h).1, cell_later m5 (below_keep HB9.out h)⟩
                      subst hee
                      have hrb : -9223372036854775808 ≤ eh + 1 ∧ eh + 1 ≤ 9223372036854775807 := by
                        have h1 := core_bound HLY.out HNL.out hnl HNB3.out
                        omega
                      have we : IntKind.i64.wrap (eh + 1) = eh + 1 := IntWalk.i64_in _ (by omega)
                      obtain ⟨ib1, ib2, ib3, ib4⟩ := IB.out
                      have ib5 : (i : Int) < (bx.1.length : Int) := by omega
                      clear hok hbe hnl hbl hbi hv1 hx5 m5 hrb
                      refine wp_region_list [.val (.int .i64 0), .val (.bool false), .val (.bool false), .any, .any, .val undef, .any, .any, .any, .any, .any, .any, .any, .any, .any, .any, .any, .any, .any, .val (.bool false), .val (.bool false), .val (.int .i64 0), .val (.bool true), .val (.bool true), .val (.pointer (some ⟨y6.heap.size, 0, none⟩)), .val (.slice (some ⟨gn, on, none⟩) bx.1.length ka5), .val (.int .i64 (i : Nat)), .val (.pointer (some ⟨gn, on + i, none⟩)), .val (.int .i64 (eh + 1)), .val (.pointer (some ⟨y3.heap.size, 1, none⟩)), .val (.slice (some ⟨gh, oh, none⟩) ch.length ka2), .val (.int .i64 (i : Nat)), .val (.pointer (some ⟨gh, oh + i, none⟩)), .val (.int .i64 eh), .val (.int .i64 (eh + 1)), .val (.bool false), .val (.bool false), .val (.bool false)]
                        [some 187, some 188, some 189, some 190, some 191, some 192, some 193, some 194, some 195, some 196, some 197, some 198, some 199, some 200, some 201, some 202, some 203, some 204, some 205, some 206, some 207, some 208, some 209, some 210, some 211, some 212, some 213, some 214, some 215, some 216, some 217, some 218, some 219, some 220, some 221, some 222, some 223, some 224]
                        (fun w' => Below W9.heap.size W9 w') (fun _ _ => Hid True) rfl (by kernel_rfl) (by kernel_rfl) (by kernel_rfl) (by kernel_rfl) ?_ ?_ ?_ ?_
                      · (intro y hy v w1 w2 hs hv; simp only [List.mem_cons, List.not_mem_nil, or_false] at hy; rcases hy with rfl | rfl | rfl | rfl | rfl | rfl | rfl | rfl | rfl | rfl | rfl | rfl | rfl | rfl | rfl | rfl | rfl | rfl | rfl | rfl | rfl | rfl | rfl | rfl | rfl | rfl | rfl | rfl | rfl | rfl | rfl | rfl | rfl | rfl | rfl | rfl | rfl | rfl; all_goals exact hv)
                      · exact (Below.refl _ _).drew
                      · intro i9 op9 ho
                        have hi : i9 < 38 := (Array.getElem?_eq_some_iff.1 ho).1
                        match i9, hi with
                        | 0, _ =>
                          obtain rfl := Option.some.inj ho
                          intro a9 wx hBx hev haf
                          rw [if_pos (wanted_none rfl)]
                          have f19 : (a9.tmps[19]?).getD undef = .int .i64 0 := hev 19 (by kernel_rfl)
                          clear haf hev
                          go_simp
                          exact ⟨rfl, trivial, hBx⟩
                        | 1, _ =>
                          obtain rfl := Option.some.inj ho
                          intro a9 wx hBx hev haf
                          rw [if_pos (wanted_none rfl)]
                          have f187 : (a9.tmps[187]?).getD undef = (.int .i64 0) := haf 0 _ rfl rfl 187 rfl
                          clear haf hev
                          go_simp
                          exact ⟨rfl, trivial, hBx⟩
                        | 2, _ =>
                          obtain rfl := Option.some.inj ho
                          intro a9 wx hBx hev haf
                          rw [if_pos (wanted_none rfl)]
                          have f188 : (a9.tmps[188]?).getD undef = (.bool false) := haf 0 _ rfl rfl 188 rfl
                          clear haf hev
                          go_simp
                          exact ⟨rfl, trivial, hBx⟩
                        | 3, _ =>
                          obtain rfl := Option.some.inj ho
                          intro a9 wx hBx hev haf
                          have fg : (a9.tmps[189]?).getD undef = .bool false := haf 0 _ rfl rfl 189 rfl
                          rw [if_neg (by rw [wanted_at (j := 2) (b := true) rfl rfl fg]; decide)]
                          trivial
                        | 4, _ =>
                          obtain rfl := Option.some.inj ho
                          intro a9 wx hBx hev haf
                          have fg : (a9.tmps[189]?).getD undef = .bool false := haf 1 _ rfl rfl 189 rfl
                          rw [if_neg (by rw [wanted_at (j := 2) (b := true) rfl rfl fg]; decide)]
                          trivial
                        | 5, _ =>
                          obtain rfl := Option.some.inj ho
                          intro a9 wx hBx hev haf
                          have fg : (a9.tmps[189]?).getD undef = .bool false := haf 1 _ rfl rfl 189 rfl
                          rw [if_neg (by rw [wanted_at (j := 2) (b := true) rfl rfl fg]; decide)]
                          trivial
                        | 6, _ =>
                          obtain rfl := Option.some.inj ho
                          intro a9 wx hBx hev haf
                          have fg : (a9.tmps[192]?).getD undef = undef := haf 0 _ rfl rfl 192 rfl
                          rw [if_neg (by rw [wanted_un (j := 5) (b := false) rfl rfl fg]; decide)]
                          trivial
                        | 7, _ =>
                          obtain rfl := Option.some.inj ho
                          intro a9 wx hBx hev haf
                          have fg : (a9.tmps[192]?).getD undef = undef := haf 1 _ rfl rfl 192 rfl
                          rw [if_neg (by rw [wanted_un (j := 5) (b := false) rfl rfl fg]; decide)]
                          trivial
                        | 8, _ =>
                          obtain rfl := Option.some.inj ho
                          intro a9 wx hBx hev haf
                          have fg : (a9.tmps[192]?).getD undef = undef := haf 0 _ rfl rfl 192 rfl
                          rw [if_neg (by rw [wanted_un (j := 5) (b := false) rfl rfl fg]; decide)]
                          trivial
                        | 9, _ =>
                          obtain rfl := Option.some.inj ho
                          intro a9 wx hBx hev haf
                          have fg : (a9.tmps[192]?).getD undef = undef := haf 2 _ rfl rfl 192 rfl
                          rw [if_neg (by rw [wanted_un (j := 5) (b := false) rfl rfl fg]; decide)]
                          trivial
                        | 10, _ =>
                          obtain rfl := Option.some.inj ho
                          intro a9 wx hBx hev haf
                          have fg : (a9.tmps[192]?).getD undef = undef := haf 1 _ rfl rfl 192 rfl
                          rw [if_neg (by rw [wanted_un (j := 5) (b := false) rfl rfl fg]; decide)]
                          trivial
                        | 11, _ =>
                          obtain rfl := Option.some.inj ho
                          intro a9 wx hBx hev haf
                          have fg : (a9.tmps[192]?).getD undef = undef := haf 0 _ rfl rfl 192 rfl
                          rw [if_neg (by rw [wanted_un (j := 5) (b := false) rfl rfl fg]; decide)]
                          trivial
                        | 12, _ =>
                          obtain rfl := Option.some.inj ho
                          intro a9 wx hBx hev haf
                          have fg : (a9.tmps[192]?).getD undef = undef := haf 0 _ rfl rfl 192 rfl
                          rw [if_neg (by rw [wanted_un (j := 5) (b := false) rfl rfl fg]; decide)]
                          trivial
                        | 13, _ =>
                          obtain rfl := Option.some.inj ho
                          intro a9 wx hBx hev haf
                          have fg : (a9.tmps[192]?).getD undef = undef := haf 2 _ rfl rfl 192 rfl
                          rw [if_neg (by rw [wanted_un (j := 5) (b := false) rfl rfl fg]; decide)]
                          trivial
                        | 14, _ =>
                          obtain rfl := Option.some.inj ho
                          intro a9 wx hBx hev haf
                          have fg : (a9.tmps[192]?).getD undef = undef := haf 1 _ rfl rfl 192 rfl
                          rw [if_neg (by rw [wanted_un (j := 5) (b := false) rfl rfl fg]; decide)]
                          trivial
                        | 15, _ =>
                          obtain rfl := Option.some.inj ho
                          intro a9 wx hBx hev haf
                          have fg : (a9.tmps[192]?).getD undef = undef := haf 1 _ rfl rfl 192 rfl
                          rw [if_neg (by rw [wanted_un (j := 5) (b := false) rfl rfl fg]; decide)]
                          trivial
                        | 16, _ =>
                          obtain rfl := Option.some.inj ho
                          intro a9 wx hBx hev haf
                          have fg : (a9.tmps[192]?).getD undef = undef := haf 1 _ rfl rfl 192 rfl
                          rw [if_neg (by rw [wanted_un (j := 5) (b := false) rfl rfl fg]; decide)]
                          trivial
                        | 17, _ =>
                          obtain rfl := Option.some.inj ho
                          intro a9 wx hBx hev haf
                          have fg : (a9.tmps[192]?).getD undef = undef := haf 2 _ rfl rfl 192 rfl
                          rw [if_neg (by rw [wanted_un (j := 5) (b := false) rfl rfl fg]; decide)]
                          trivial
                        | 18, _ =>
                          obtain rfl := Option.some.inj ho
                          intro a9 wx hBx hev haf
                          have fg : (a9.tmps[189]?).getD undef = .bool false := haf 2 _ rfl rfl 189 rfl
                          rw [if_neg (by rw [wanted_at (j := 2) (b := true) rfl rfl fg]; decide)]
                          trivial
                        | 19, _ =>
                          obtain rfl := Option.some.inj ho
                          intro a9 wx hBx hev haf
                          rw [if_pos (wanted_none rfl)]
                          have f189 : (a9.tmps[189]?).getD undef = (.bool false) := haf 0 _ rfl rfl 189 rfl
                          clear haf hev
                          go_simp
                          exact ⟨rfl, trivial, hBx⟩
                        | 20, _ =>
                          obtain rfl := Option.some.inj ho
                          intro a9 wx hBx hev haf
                          rw [if_pos (wanted_none rfl)]
                          have f206 : (a9.tmps[206]?).getD undef = (.bool false) := haf 0 _ rfl rfl 206 rfl
                          clear haf hev
                          go_simp
                          exact ⟨rfl, trivial, hBx⟩
                        | 21, _ =>
                          obtain rfl := Option.some.inj ho
                          intro a9 wx hBx hev haf
                          have fg : (a9.tmps[207]?).getD undef = .bool false := haf 0 _ rfl rfl 207 rfl
                          rw [if_pos (by rw [wanted_at (j := 20) (b := false) rfl rfl fg]; rfl)]
                          have f19 : (a9.tmps[19]?).getD undef = .int .i64 0 := hev 19 (by kernel_rfl)
                          clear haf hev
                          go_simp
                          exact ⟨rfl, trivial, hBx⟩
                        | 22, _ =>
                          obtain rfl := Option.some.inj ho
                          intro a9 wx hBx hev haf
                          have fg : (a9.tmps[207]?).getD undef = .bool false := haf 1 _ rfl rfl 207 rfl
                          rw [if_pos (by rw [wanted_at (j := 20) (b := false) rfl rfl fg]; rfl)]
                          have f208 : (a9.tmps[208]?).getD undef = (.int .i64 0) := haf 0 _ rfl rfl 208 rfl
                          clear haf hev
                          go_simp
                          exact ⟨rfl, trivial, hBx⟩
                        | 23, _ =>
                          obtain rfl := Option.some.inj ho
                          intro a9 wx hBx hev haf
                          have fg : (a9.tmps[207]?).getD undef = .bool false := haf 1 _ rfl rfl 207 rfl
                          rw [if_pos (by rw [wanted_at (j := 20) (b := false) rfl rfl fg]; rfl)]
                          have f209 : (a9.tmps[209]?).getD undef = (.bool true) := haf 0 _ rfl rfl 209 rfl
                          clear haf hev
                          go_simp
                          exact ⟨rfl, trivial, hBx⟩
                        | 24, _ =>
                          obtain rfl := Option.some.inj ho
                          intro a9 wx hBx hev haf
                          have fg : (a9.tmps[210]?).getD undef = .bool true := haf 0 _ rfl rfl 210 rfl
                          rw [if_pos (by rw [wanted_at (j := 23) (b := true) rfl rfl fg]; rfl)]
                          have f18 : (a9.tmps[18]?).getD undef = .pointer (some ⟨y6.heap.size, 0, none⟩) := hev 18 (by kernel_rfl)
                          clear haf hev
                          go_simp
                          exact ⟨rfl, trivial, hBx⟩
                        | 25, _ =>
                          obtain rfl := Option.some.inj ho
                          intro a9 wx hBx hev haf
                          have fg : (a9.tmps[210]?).getD undef = .bool true := haf 1 _ rfl rfl 210 rfl
                          rw [if_pos (by rw [wanted_at (j := 23) (b := true) rfl rfl fg]; rfl)]
                          have f211 : (a9.tmps[211]?).getD undef = (.pointer (some ⟨y6.heap.size, 0, none⟩)) := haf 0 _ rfl rfl 211 rfl
                          clear haf hev
                          obtain ⟨f0, f1⟩ := KX.out _ hBx
                          go_simp
                          exact ⟨rfl, trivial, hBx⟩
                        | 26, _ =>
                          obtain rfl := Option.some.inj ho
                          intro a9 wx hBx hev haf
                          have fg : (a9.tmps[210]?).getD undef = .bool true := haf 0 _ rfl rfl 210 rfl
                          rw [if_pos (by rw [wanted_at (j := 23) (b := true) rfl rfl fg]; rfl)]
                          have f16 : (a9.tmps[16]?).getD undef = .int .i64 (i : Nat) := hev 16 (by kernel_rfl)
                          clear haf hev
                          go_simp
                          exact ⟨rfl, trivial, hBx⟩
                        | 27, _ =>
                          obtain rfl := Option.some.inj ho
                          intro a9 wx hBx hev haf
                          have fg : (a9.tmps[210]?).getD undef = .bool true := haf 2 _ rfl rfl 210 rfl
                          rw [if_pos (by rw [wanted_at (j := 23) (b := true) rfl rfl fg]; rfl)]
                          have f212 : (a9.tmps[212]?).getD undef = (.slice (some ⟨gn, on, none⟩) bx.1.length ka5) := haf 0 _ rfl rfl 212 rfl
                          have f213 : (a9.tmps[213]?).getD undef = (.int .i64 (i : Nat)) := haf 1 _ rfl rfl 213 rfl
                          clear haf hev
                          go_simp
                          exact ⟨rfl, trivial, hBx⟩
                        | 28, _ =>
                          obtain rfl := Option.some.inj ho
                          intro a9 wx hBx hev haf
                          have fg : (a9.tmps[210]?).getD undef = .bool true := haf 1 _ rfl rfl 210 rfl
                          rw [if_pos (by rw [wanted_at (j := 23) (b := true) rfl rfl fg]; rfl)]
                          have f214 : (a9.tmps[214]?).getD undef = (.pointer (some ⟨gn, on + i, none⟩)) := haf 0 _ rfl rfl 214 rfl
                          clear haf hev
                          obtain ⟨f0, f1⟩ := KX.out _ hBx
                          go_simp
                          exact ⟨rfl, trivial, hBx⟩
                        | 29, _ =>
                          obtain rfl := Option.some.inj ho
                          intro a9 wx hBx hev haf
                          have fg : (a9.tmps[210]?).getD undef = .bool true := haf 0 _ rfl rfl 210 rfl
                          rw [if_pos (by rw [wanted_at (j := 23) (b := true) rfl rfl fg]; rfl)]
                          have f11 : (a9.tmps[11]?).getD undef = .pointer (some ⟨y3.heap.size, 0, none⟩) := hev 11 (by kernel_rfl)
                          clear haf hev
                          go_simp
                          exact ⟨rfl, trivial, hBx⟩
                        | 30, _ =>
                          obtain rfl := Option.some.inj ho
                          intro a9 wx hBx hev haf
                          have fg : (a9.tmps[210]?).getD undef = .bool true := haf 1 _ rfl rfl 210 rfl
                          rw [if_pos (by rw [wanted_at (j := 23) (b := true) rfl rfl fg]; rfl)]
                          have f216 : (a9.tmps[216]?).getD undef = (.pointer (some ⟨y3.heap.size, 1, none⟩)) := haf 0 _ rfl rfl 216 rfl
                          clear haf hev
                          obtain ⟨c0, c1, x1, x2, r1, r2, r3⟩ := KR.out _ (below_keep Z9.out hBx)
                          go_simp
                          exact ⟨rfl, trivial, hBx⟩
                        | 31, _ =>
                          obtain rfl := Option.some.inj ho
                          intro a9 wx hBx hev haf
                          have fg : (a9.tmps[210]?).getD undef = .bool true := haf 0 _ rfl rfl 210 rfl
                          rw [if_pos (by rw [wanted_at (j := 23) (b := true) rfl rfl fg]; rfl)]
                          have f16 : (a9.tmps[16]?).getD undef = .int .i64 (i : Nat) := hev 16 (by kernel_rfl)
                          clear haf hev
                          go_simp
                          exact ⟨rfl, trivial, hBx⟩
                        | 32, _ =>
                          obtain rfl := Option.some.inj ho
                          intro a9 wx hBx hev haf
                          have fg : (a9.tmps[210]?).getD undef = .bool true := haf 2 _ rfl rfl 210 rfl
                          rw [if_pos (by rw [wanted_at (j := 23) (b := true) rfl rfl fg]; rfl)]
                          have f217 : (a9.tmps[217]?).getD undef = (.slice (some ⟨gh, oh, none⟩) ch.length ka2) := haf 0 _ rfl rfl 217 rfl
                          have f218 : (a9.tmps[218]?).getD undef = (.int .i64 (i : Nat)) := haf 1 _ rfl rfl 218 rfl
                          clear haf hev
                          go_simp
                          exact ⟨rfl, trivial, hBx⟩
                        | 33, _ =>
                          obtain rfl := Option.some.inj ho
                          intro a9 wx hBx hev haf
                          have fg : (a9.tmps[210]?).getD undef = .bool true := haf 1 _ rfl rfl 210 rfl
                          rw [if_pos (by rw [wanted_at (j := 23) (b := true) rfl rfl fg]; rfl)]
                          have f219 : (a9.tmps[219]?).getD undef = (.pointer (some ⟨gh, oh + i, none⟩)) := haf 0 _ rfl rfl 219 rfl
                          clear haf hev
                          obtain ⟨c0, c1, x1, x2, r1, r2, r3⟩ := KR.out _ (below_keep Z9.out hBx)
                          go_simp
                          exact ⟨rfl, trivial, hBx⟩
                        | 34, _ =>
                          obtain rfl := Option.some.inj ho
                          intro a9 wx hBx hev haf
                          have fg : (a9.tmps[210]?).getD undef = .bool true := haf 1 _ rfl rfl 210 rfl
                          rw [if_pos (by rw [wanted_at (j := 23) (b := true) rfl rfl fg]; rfl)]
                          have f220 : (a9.tmps[220]?).getD undef = (.int .i64 eh) := haf 0 _ rfl rfl 220 rfl
                          clear haf hev
                          go_simp
                          exact ⟨rfl, trivial, hBx⟩
                        | 35, _ =>
                          obtain rfl := Option.some.inj ho
                          intro a9 wx hBx hev haf
                          have fg : (a9.tmps[210]?).getD undef = .bool true := haf 2 _ rfl rfl 210 rfl
                          rw [if_pos (by rw [wanted_at (j := 23) (b := true) rfl rfl fg]; rfl)]
                          have f215 : (a9.tmps[215]?).getD undef = (.int .i64 (eh + 1)) := haf 0 _ rfl rfl 215 rfl
                          have f221 : (a9.tmps[221]?).getD undef = (.int .i64 (eh + 1)) := haf 1 _ rfl rfl 221 rfl
                          clear haf hev
                          go_simp
                          exact ⟨rfl, trivial, hBx⟩
                        | 36, _ =>
                          obtain rfl := Option.some.inj ho
                          intro a9 wx hBx hev haf
                          have fg : (a9.tmps[207]?).getD undef = .bool false := haf 2 _ rfl rfl 207 rfl
                          rw [if_pos (by rw [wanted_at (j := 20) (b := false) rfl rfl fg]; rfl)]
                          have f210 : (a9.tmps[210]?).getD undef = (.bool true) := haf 0 _ rfl rfl 210 rfl
                          have f222 : (a9.tmps[222]?).getD undef = (.bool false) := haf 1 _ rfl rfl 222 rfl
                          clear haf hev
                          go_simp
                          exact ⟨rfl, trivial, hBx⟩
                        | 37, _ =>
                          obtain rfl := Option.some.inj ho
                          intro a9 wx hBx hev haf
                          rw [if_pos (wanted_none rfl)]
                          have f207 : (a9.tmps[207]?).getD undef = (.bool false) := haf 0 _ rfl rfl 207 rfl
                          have f223 : (a9.tmps[223]?).getD undef = (.bool false) := haf 1 _ rfl rfl 223 rfl
                          clear haf hev
                          go_simp
                          exact ⟨rfl, trivial, hBx⟩
                      · intro vals wx hBx hG
                        have g0 : vals 0 = (.int .i64 0) := hG 0 (by decide)
                        have g1 : vals 1 = (.bool false) := hG 1 (by decide)
                        have g2 : vals 2 = (.bool false) := hG 2 (by decide)
                        have g5 : vals 5 = undef := hG 5 (by decide)
                        have g19 : vals 19 = (.bool false) := hG 19 (by decide)
                        have g20 : vals 20 = (.bool false) := hG 20 (by decide)
                        have g21 : vals 21 = (.int .i64 0) := hG 21 (by decide)
                        have g22 : vals 22 = (.bool true) := hG 22 (by decide)
                        have g23 : vals 23 = (.bool true) := hG 23 (by decide)
                        have g24 : vals 24 = (.pointer (some ⟨y6.heap.size, 0, none⟩)) := hG 24 (by decide)
                        have g25 : vals 25 = (.slice (some ⟨gn, on, none⟩) bx.1.length ka5) := hG 25 (by decide)
                        have g26 : vals 26 = (.int .i64 (i : Nat)) := hG 26 (by decide)
                        have g27 : vals 27 = (.pointer (some ⟨gn, on + i, none⟩)) := hG 27 (by decide)
                        have g28 : vals 28 = (.int .i64 (eh + 1)) := hG 28 (by decide)
                        have g29 : vals 29 = (.pointer (some ⟨y3.heap.size, 1, none⟩)) := hG 29 (by decide)
                        have g30 : vals 30 = (.slice (some ⟨gh, oh, none⟩) ch.length ka2) := hG 30 (by decide)
                        have g31 : vals 31 = (.int .i64 (i : Nat)) := hG 31 (by decide)
                        have g32 : vals 32 = (.pointer (some ⟨gh, oh + i, none⟩)) := hG 32 (by decide)
                        have g33 : vals 33 = (.int .i64 eh) := hG 33 (by decide)
                        have g34 : vals 34 = (.int .i64 (eh + 1)) := hG 34 (by decide)
                        have g35 : vals 35 = (.bool false) := hG 35 (by decide)
                        have g36 : vals 36 = (.bool false) := hG 36 (by decide)
                        have g37 : vals 37 = (.bool false) := hG 37 (by decide)
                        clear hG
                        simp only [putDs, Act.put, Nat.zero_add, Nat.reduceAdd, List.setIfInBounds_toArray, List.set_cons_succ, List.set_cons_zero, g0, g1, g2, g5, g19, g20, g21, g22, g23, g24, g25, g26, g27, g28, g29, g30, g31, g32, g33, g34, g35, g36, g37]
                        clear g0 g1 g2 g5 g19 g20 g21 g22 g23 g24 g25 g26 g27 g28 g29 g30 g31 g32 g33 g34 g35 g36 g37
                        have ZA := Lib.hid (below_keep Z9.out hBx)
                        have YA := Lib.hid (below_keep Y9.out hBx)
                        clear hBx we ib5 KX
                        obtain ⟨d0, d1, d2, d3, d4, d5⟩ := (K.out _ ZA.out).2.2
                        go_wp2_with fail
                        refine (CNW.out _ YA.out).mono ?_
                        rintro e y8 ⟨v3, v4, rfl, hv3, hv4, hb⟩
                        have ZB := Lib.hid (below_keep ZA.out hb)
                        have YB := Lib.hid (below_keep YA.out hb)
                        have HV3 := Lib.hid hv3.ints
                        have HV4 := Lib.hid hv4.ints
                        obtain ⟨a7, ka7, rfl, -⟩ := hv3.ints.shape
                        obtain ⟨a8, ka8, rfl, -⟩ := hv4.ints.shape
                        obtain ⟨WB, hWB, hbB, hxB⟩ := boxm_at y8 (.slice a7 bw.1.length ka7) (.slice a8 bw.2.length ka8)
                        have HBB := Lib.hid hbB
                        have HXB := Lib.hid hxB
                        have ZC := Lib.hid (below_keep ZB.out hbB)
                        have YC := Lib.hid (below_keep YB.out hbB)
                        clear d0 d1 d2 d3 d4 d5 hb hv3 hv4 hbB hxB CNW
                        go_upto_region 26 with (fail)
                        rw [← hWB]
                        clear hWB
                        obtain ⟨f0, f1⟩ := HXB.out _ (Below.refl _ _)
                        go_wp2_with fail
                        have hIN := inside_any (.slice a7 bw.1.length ka7) (.slice a8 bw.2.length ka8) (.slice p3 c.length k3) bw.1 bw.2 c WB (HV3.out.later IntR.lasts HBB.out) (HV4.out.later IntR.lasts HBB.out) (CI.out _ ZC.out).2.2.2.2.1
                        have hib : insideB bw.1 bw.2 c = decide (nx ∈ H) := by rw [HWE.out]; exact HNI.out HOK.out
                        rw [hib] at hIN
                        refine hIN.mono ?_
                        rintro e z1 ⟨rfl, hb⟩
                        have ZD := Lib.hid (below_keep ZC.out hb)
                        have YD := Lib.hid (below_keep YC.out hb)
                        clear hb hIN f0 f1 hib
                        go_wp2_with fail
                        have hAM := among_any _ _ _ _ _ (CI.out _ ZD.out).2.2.2.2.2.2.1 (HN7.out.ints.later IntR.lasts YD.out)
                        refine hAM.mono ?_
                        rintro e z2 ⟨rfl, hb⟩
                        have ZE := Lib.hid (below_keep ZD.out hb)
                        clear hb hAM
                        go_upto_region 28 with (fail)
                        obtain ⟨c0, c1, x1, x2, r1, r2, r3⟩ := KR.out _ ZE.out
                        by_cases hk0 : k = 0
                        · have hel := HL2.out hk0
                          have t1 : (k == (0 : Int)) = true := by rw [hk0]; rfl
                          try simp only at hel
                          subst hel
                          have t2 : (el != el) = false := by simp
                          clear hk0 t2
                          go_quiet (fail)
                          have HBE := Lib.hid (below_keep ZE.out (below_drewN' _ nq))
                          clear c0 c1 x1 x2 r1 r2 r3
                          have hq9 : q.length ≤ 1000000 := HQ9.out
                          go_wp2
                          exact ⟨⟨i + 1, HI1'.out.1, by go_num, HBE.out⟩, HI1'.out.2⟩
                        · have t1 : (k == (0 : Int)) = false := by rw [beq_eq_false_iff_ne]; exact hk0
                          clear hk0
                          go_quiet (fail)
                          have HBE := Lib.hid (below_keep ZE.out (below_drewN' _ nq))
                          clear c0 c1 x1 x2 r1 r2 r3
                          have hq9 : q.length ≤ 1000000 := HQ9.out
                          go_wp2
                          exact ⟨⟨i + 1, HI1'.out.1, by go_num, HBE.out⟩, HI1'.out.2⟩
                    | false =>
                      have hee : er = 3 := by rw [HER.out, if_neg (by rw [hok]; decide)]
                      have hL := HE2.out hok
                      subst hee
                      subst hL
                      obtain ⟨ib1, ib2, ib3, ib4⟩ := IB.out
                      clear hok
                      refine wp_region_list [.val (.int .i64 3), .val (.bool true), .val (.bool true), .val (.int .i64 3), .val (.bool false), .val (.bool false), .val (.pointer (some ⟨y3.heap.size, 1, none⟩)), .val (.slice (some ⟨gh, oh, none⟩) ch.length ka2), .val (.int .i64 (i : Nat)), .val (.pointer (some ⟨gh, oh + i, none⟩)), .val (.int .i64 (DimT.last ⟨nm, xlo, xhi⟩)), .val (.slice (some ⟨gd, od, none⟩) d.length k0), .val (.int .i64 (i : Nat)), .val (.pointer (some ⟨gd, od + i * 3, none⟩)), .val (.pointer (some ⟨gd, od + i * 3 + 2, none⟩)), .val (.int .i64 xhi), .val (.int .i64 (DimT.last ⟨nm, xlo, xhi⟩)), .val (.bool false), .val (.bool false), .val (.bool false), .val (.bool false), .val (.int .i64 3), .val (.bool false), .val (.bool false), .any, .any, .any, .any, .any, .any, .any, .any, .any, .any, .any, .any, .val (.bool false), .val (.bool false)]
                        [some 187, some 188, some 189, some 190, some 191, some 192, some 193, some 194, some 195, some 196, some 197, some 198, some 199, some 200, some 201, some 202, some 203, some 204, some 205, some 206, some 207, some 208, some 209, some 210, some 211, some 212, some 213, some 214, some 215, some 216, some 217, some 218, some 219, some 220, some 221, some 222, some 223, some 224]
                        (fun w' => Below W9.heap.size W9 w') (fun _ _ => Hid True) rfl (by kernel_rfl) (by kernel_rfl) (by kernel_rfl) (by kernel_rfl) ?_ ?_ ?_ ?_
                      · (intro y hy v w1 w2 hs hv; simp only [List.mem_cons, List.not_mem_nil, or_false] at hy; rcases hy with rfl | rfl | rfl | rfl | rfl | rfl | rfl | rfl | rfl | rfl | rfl | rfl | rfl | rfl | rfl | rfl | rfl | rfl | rfl | rfl | rfl | rfl | rfl | rfl | rfl | rfl | rfl | rfl | rfl | rfl | rfl | rfl | rfl | rfl | rfl | rfl | rfl | rfl; all_goals exact hv)
                      · exact (Below.refl _ _).drew
                      · intro i9 op9 ho
                        have hi : i9 < 38 := (Array.getElem?_eq_some_iff.1 ho).1
                        match i9, hi with
                        | 0, _ =>
                          obtain rfl := Option.some.inj ho
                          intro a9 wx hBx hev haf
                          rw [if_pos (wanted_none rfl)]
                          have f19 : (a9.tmps[19]?).getD undef = .int .i64 3 := hev 19 (by kernel_rfl)
                          clear haf hev
                          go_simp
                          exact ⟨rfl, trivial, hBx⟩
                        | 1, _ =>
                          obtain rfl := Option.some.inj ho
                          intro a9 wx hBx hev haf
                          rw [if_pos (wanted_none rfl)]
                          have f187 : (a9.tmps[187]?).getD undef = (.int .i64 3) := haf 0 _ rfl rfl 187 rfl
                          clear haf hev
                          go_simp
                          exact ⟨rfl, trivial, hBx⟩
                        | 2, _ =>
                          obtain rfl := Option.some.inj ho
                          intro a9 wx hBx hev haf
                          rw [if_pos (wanted_none rfl)]
                          have f188 : (a9.tmps[188]?).getD undef = (.bool true) := haf 0 _ rfl rfl 188 rfl
                          clear haf hev
                          go_simp
                          exact ⟨rfl, trivial, hBx⟩
                        | 3, _ =>
                          obtain rfl := Option.some.inj ho
                          intro a9 wx hBx hev haf
                          have fg : (a9.tmps[189]?).getD undef = .bool true := haf 0 _ rfl rfl 189 rfl
                          rw [if_pos (by rw [wanted_at (j := 2) (b := true) rfl rfl fg]; rfl)]
                          have f19 : (a9.tmps[19]?).getD undef = .int .i64 3 := hev 19 (by kernel_rfl)
                          clear haf hev
                          go_simp
                          exact ⟨rfl, trivial, hBx⟩
                        | 4, _ =>
                          obtain rfl := Option.some.inj ho
                          intro a9 wx hBx hev haf
                          have fg : (a9.tmps[189]?).getD undef = .bool true := haf 1 _ rfl rfl 189 rfl
                          rw [if_pos (by rw [wanted_at (j := 2) (b := true) rfl rfl fg]; rfl)]
                          have f190 : (a9.tmps[190]?).getD undef = (.int .i64 3) := haf 0 _ rfl rfl 190 rfl
                          clear haf hev
                          go_simp
                          exact ⟨rfl, trivial, hBx⟩
                        | 5, _ =>
                          obtain rfl := Option.some.inj ho
                          intro a9 wx hBx hev haf
                          have fg : (a9.tmps[189]?).getD undef = .bool true := haf 1 _ rfl rfl 189 rfl
                          rw [if_pos (by rw [wanted_at (j := 2) (b := true) rfl rfl fg]; rfl)]
                          have f191 : (a9.tmps[191]?).getD undef = (.bool false) := haf 0 _ rfl rfl 191 rfl
                          clear haf hev
                          go_simp
                          exact ⟨rfl, trivial, hBx⟩
                        | 6, _ =>
                          obtain rfl := Option.some.inj ho
                          intro a9 wx hBx hev haf
                          have fg : (a9.tmps[192]?).getD undef = .bool false := haf 0 _ rfl rfl 192 rfl
                          rw [if_pos (by rw [wanted_at (j := 5) (b := false) rfl rfl fg]; rfl)]
                          have f11 : (a9.tmps[11]?).getD undef = .pointer (some ⟨y3.heap.size, 0, none⟩) := hev 11 (by kernel_rfl)
                          clear haf hev
                          go_simp
                          exact ⟨rfl, trivial, hBx⟩
                        | 7, _ =>
                          obtain rfl := Option.some.inj ho
                          intro a9 wx hBx hev haf
                          have fg : (a9.tmps[192]?).getD undef = .bool false := haf 1 _ rfl rfl 192 rfl
                          rw [if_pos (by rw [wanted_at (j := 5) (b := false) rfl rfl fg]; rfl)]
                          have f193 : (a9.tmps[193]?).getD undef = (.pointer (some ⟨y3.heap.size, 1, none⟩)) := haf 0 _ rfl rfl 193 rfl
                          clear haf hev
                          obtain ⟨c0, c1, x1, x2, r1, r2, r3⟩ := KR.out _ (below_keep Z9.out hBx)
                          go_simp
                          exact ⟨rfl, trivial, hBx⟩
                        | 8, _ =>
                          obtain rfl := Option.some.inj ho
                          intro a9 wx hBx hev haf
                          have fg : (a9.tmps[192]?).getD undef = .bool false := haf 0 _ rfl rfl 192 rfl
                          rw [if_pos (by rw [wanted_at (j := 5) (b := false) rfl rfl fg]; rfl)]
                          have f16 : (a9.tmps[16]?).getD undef = .int .i64 (i : Nat) := hev 16 (by kernel_rfl)
                          clear haf hev
                          go_simp
                          exact ⟨rfl, trivial, hBx⟩
                        | 9, _ =>
                          obtain rfl := Option.some.inj ho
                          intro a9 wx hBx hev haf
                          have fg : (a9.tmps[192]?).getD undef = .bool false := haf 2 _ rfl rfl 192 rfl
                          rw [if_pos (by rw [wanted_at (j := 5) (b := false) rfl rfl fg]; rfl)]
                          have f194 : (a9.tmps[194]?).getD undef = (.slice (some ⟨gh, oh, none⟩) ch.length ka2) := haf 0 _ rfl rfl 194 rfl
                          have f195 : (a9.tmps[195]?).getD undef = (.int .i64 (i : Nat)) := haf 1 _ rfl rfl 195 rfl
                          clear haf hev
                          go_simp
                          exact ⟨rfl, trivial, hBx⟩
                        | 10, _ =>
                          obtain rfl := Option.some.inj ho
                          intro a9 wx hBx hev haf
                          have fg : (a9.tmps[192]?).getD undef = .bool false := haf 1 _ rfl rfl 192 rfl
                          rw [if_pos (by rw [wanted_at (j := 5) (b := false) rfl rfl fg]; rfl)]
                          have f196 : (a9.tmps[196]?).getD undef = (.pointer (some ⟨gh, oh + i, none⟩)) := haf 0 _ rfl rfl 196 rfl
                          clear haf hev
                          obtain ⟨c0, c1, x1, x2, r1, r2, r3⟩ := KR.out _ (below_keep Z9.out hBx)
                          go_simp
                          exact ⟨rfl, trivial, hBx⟩
                        | 11, _ =>
                          obtain rfl := Option.some.inj ho
                          intro a9 wx hBx hev haf
                          have fg : (a9.tmps[192]?).getD undef = .bool false := haf 0 _ rfl rfl 192 rfl
                          rw [if_pos (by rw [wanted_at (j := 5) (b := false) rfl rfl fg]; rfl)]
                          have f0 : (a9.tmps[0]?).getD undef = .slice (some ⟨gd, od, none⟩) d.length k0 := hev 0 (by kernel_rfl)
                          clear haf hev
                          go_simp
                          exact ⟨rfl, trivial, hBx⟩
                        | 12, _ =>
                          obtain rfl := Option.some.inj ho
                          intro a9 wx hBx hev haf
                          have fg : (a9.tmps[192]?).getD undef = .bool false := haf 0 _ rfl rfl 192 rfl
                          rw [if_pos (by rw [wanted_at (j := 5) (b := false) rfl rfl fg]; rfl)]
                          have f16 : (a9.tmps[16]?).getD undef = .int .i64 (i : Nat) := hev 16 (by kernel_rfl)
                          clear haf hev
                          go_simp
                          exact ⟨rfl, trivial, hBx⟩
                        | 13, _ =>
                          obtain rfl := Option.some.inj ho
                          intro a9 wx hBx hev haf
                          have fg : (a9.tmps[192]?).getD undef = .bool false := haf 2 _ rfl rfl 192 rfl
                          rw [if_pos (by rw [wanted_at (j := 5) (b := false) rfl rfl fg]; rfl)]
                          have f198 : (a9.tmps[198]?).getD undef = (.slice (some ⟨gd, od, none⟩) d.length k0) := haf 0 _ rfl rfl 198 rfl
                          have f199 : (a9.tmps[199]?).getD undef = (.int .i64 (i : Nat)) := haf 1 _ rfl rfl 199 rfl
                          clear haf hev
                          go_simp
                          exact ⟨rfl, trivial, hBx⟩
                        | 14, _ =>
                          obtain rfl := Option.some.inj ho
                          intro a9 wx hBx hev haf
                          have fg : (a9.tmps[192]?).getD undef = .bool false := haf 1 _ rfl rfl 192 rfl
                          rw [if_pos (by rw [wanted_at (j := 5) (b := false) rfl rfl fg]; rfl)]
                          have f200 : (a9.tmps[200]?).getD undef = (.pointer (some ⟨gd, od + i * 3, none⟩)) := haf 0 _ rfl rfl 200 rfl
                          clear haf hev
                          go_simp
                          exact ⟨rfl, trivial, hBx⟩
                        | 15, _ =>
                          obtain rfl := Option.some.inj ho
                          intro a9 wx hBx hev haf
                          have fg : (a9.tmps[192]?).getD undef = .bool false := haf 1 _ rfl rfl 192 rfl
                          rw [if_pos (by rw [wanted_at (j := 5) (b := false) rfl rfl fg]; rfl)]
                          have f201 : (a9.tmps[201]?).getD undef = (.pointer (some ⟨gd, od + i * 3 + 2, none⟩)) := haf 0 _ rfl rfl 201 rfl
                          clear haf hev
                          obtain ⟨c0, c1, x1, x2, r1, r2, r3⟩ := KR.out _ (below_keep Z9.out hBx)
                          go_simp
                          exact ⟨rfl, trivial, hBx⟩
                        | 16, _ =>
                          obtain rfl := Option.some.inj ho
                          intro a9 wx hBx hev haf
                          have fg : (a9.tmps[192]?).getD undef = .bool false := haf 1 _ rfl rfl 192 rfl
                          rw [if_pos (by rw [wanted_at (j := 5) (b := false) rfl rfl fg]; rfl)]
                          have f202 : (a9.tmps[202]?).getD undef = (.int .i64 xhi) := haf 0 _ rfl rfl 202 rfl
                          clear haf hev
                          go_simp
                          exact ⟨by rw [last_min]; rfl, trivial, hBx⟩
                        | 17, _ =>
                          obtain rfl := Option.some.inj ho
                          intro a9 wx hBx hev haf
                          have fg : (a9.tmps[192]?).getD undef = .bool false := haf 2 _ rfl rfl 192 rfl
                          rw [if_pos (by rw [wanted_at (j := 5) (b := false) rfl rfl fg]; rfl)]
                          have f197 : (a9.tmps[197]?).getD undef = (.int .i64 (DimT.last ⟨nm, xlo, xhi⟩)) := haf 0 _ rfl rfl 197 rfl
                          have f203 : (a9.tmps[203]?).getD undef = (.int .i64 (DimT.last ⟨nm, xlo, xhi⟩)) := haf 1 _ rfl rfl 203 rfl
                          clear haf hev
                          go_simp
                          exact ⟨rfl, trivial, hBx⟩
                        | 18, _ =>
                          obtain rfl := Option.some.inj ho
                          intro a9 wx hBx hev haf
                          have fg : (a9.tmps[189]?).getD undef = .bool true := haf 2 _ rfl rfl 189 rfl
                          rw [if_pos (by rw [wanted_at (j := 2) (b := true) rfl rfl fg]; rfl)]
                          have f192 : (a9.tmps[192]?).getD undef = (.bool false) := haf 0 _ rfl rfl 192 rfl
                          have f204 : (a9.tmps[204]?).getD undef = (.bool false) := haf 1 _ rfl rfl 204 rfl
                          clear haf hev
                          go_simp
                          exact ⟨rfl, trivial, hBx⟩
                        | 19, _ =>
                          obtain rfl := Option.some.inj ho
                          intro a9 wx hBx hev haf
                          rw [if_pos (wanted_none rfl)]
                          have f189 : (a9.tmps[189]?).getD undef = (.bool true) := haf 0 _ rfl rfl 189 rfl
                          have f205 : (a9.tmps[205]?).getD undef = (.bool false) := haf 1 _ rfl rfl 205 rfl
                          clear haf hev
                          go_simp
                          exact ⟨rfl, trivial, hBx⟩
                        | 20, _ =>
                          obtain rfl := Option.some.inj ho
                          intro a9 wx hBx hev haf
                          rw [if_pos (wanted_none rfl)]
                          have f206 : (a9.tmps[206]?).getD undef = (.bool false) := haf 0 _ rfl rfl 206 rfl
                          clear haf hev
                          go_simp
                          exact ⟨rfl, trivial, hBx⟩
                        | 21, _ =>
                          obtain rfl := Option.some.inj ho
                          intro a9 wx hBx hev haf
                          have fg : (a9.tmps[207]?).getD undef = .bool false := haf 0 _ rfl rfl 207 rfl
                          rw [if_pos (by rw [wanted_at (j := 20) (b := false) rfl rfl fg]; rfl)]
                          have f19 : (a9.tmps[19]?).getD undef = .int .i64 3 := hev 19 (by kernel_rfl)
                          clear haf hev
                          go_simp
                          exact ⟨rfl, trivial, hBx⟩
                        | 22, _ =>
                          obtain rfl := Option.some.inj ho
                          intro a9 wx hBx hev haf
                          have fg : (a9.tmps[207]?).getD undef = .bool false := haf 1 _ rfl rfl 207 rfl
                          rw [if_pos (by rw [wanted_at (j := 20) (b := false) rfl rfl fg]; rfl)]
                          have f208 : (a9.tmps[208]?).getD undef = (.int .i64 3) := haf 0 _ rfl rfl 208 rfl
                          clear haf hev
                          go_simp
                          exact ⟨rfl, trivial, hBx⟩
                        | 23, _ =>
                          obtain rfl := Option.some.inj ho
                          intro a9 wx hBx hev haf
                          have fg : (a9.tmps[207]?).getD undef = .bool false := haf 1 _ rfl rfl 207 rfl
                          rw [if_pos (by rw [wanted_at (j := 20) (b := false) rfl rfl fg]; rfl)]
                          have f209 : (a9.tmps[209]?).getD undef = (.bool false) := haf 0 _ rfl rfl 209 rfl
                          clear haf hev
                          go_simp
                          exact ⟨rfl, trivial, hBx⟩
                        | 24, _ =>
                          obtain rfl := Option.some.inj ho
                          intro a9 wx hBx hev haf
                          have fg : (a9.tmps[210]?).getD undef = .bool false := haf 0 _ rfl rfl 210 rfl
                          rw [if_neg (by rw [wanted_at (j := 23) (b := true) rfl rfl fg]; decide)]
                          trivial
                        | 25, _ =>
                          obtain rfl := Option.some.inj ho
                          intro a9 wx hBx hev haf
                          have fg : (a9.tmps[210]?).getD undef = .bool false := haf 1 _ rfl rfl 210 rfl
                          rw [if_neg (by rw [wanted_at (j := 23) (b := true) rfl rfl fg]; decide)]
                          trivial
                        | 26, _ =>
                          obtain rfl := Option.some.inj ho
                          intro a9 wx hBx hev haf
                          have fg : (a9.tmps[210]?).getD undef = .bool false := haf 0 _ rfl rfl 210 rfl
                          rw [if_neg (by rw [wanted_at (j := 23) (b := true) rfl rfl fg]; decide)]
                          trivial
                        | 27, _ =>
                          obtain rfl := Option.some.inj ho
                          intro a9 wx hBx hev haf
                          have fg : (a9.tmps[210]?).getD undef = .bool false := haf 2 _ rfl rfl 210 rfl
                          rw [if_neg (by rw [wanted_at (j := 23) (b := true) rfl rfl fg]; decide)]
                          trivial
                        | 28, _ =>
                          obtain rfl := Option.some.inj ho
                          intro a9 wx hBx hev haf
                          have fg : (a9.tmps[210]?).getD undef = .bool false := haf 1 _ rfl rfl 210 rfl
                          rw [if_neg (by rw [wanted_at (j := 23) (b := true) rfl rfl fg]; decide)]
                          trivial
                        | 29, _ =>
                          obtain rfl := Option.some.inj ho
                          intro a9 wx hBx hev haf
                          have fg : (a9.tmps[210]?).getD undef = .bool false := haf 0 _ rfl rfl 210 rfl
                          rw [if_neg (by rw [wanted_at (j := 23) (b := true) rfl rfl fg]; decide)]
                          trivial
                        | 30, _ =>
                          obtain rfl := Option.some.inj ho
                          intro a9 wx hBx hev haf
                          have fg : (a9.tmps[210]?).getD undef = .bool false := haf 1 _ rfl rfl 210 rfl
                          rw [if_neg (by rw [wanted_at (j := 23) (b := true) rfl rfl fg]; decide)]
                          trivial
                        | 31, _ =>
                          obtain rfl := Option.some.inj ho
                          intro a9 wx hBx hev haf
                          have fg : (a9.tmps[210]?).getD undef = .bool false := haf 0 _ rfl rfl 210 rfl
                          rw [if_neg (by rw [wanted_at (j := 23) (b := true) rfl rfl fg]; decide)]
                          trivial
                        | 32, _ =>
                          obtain rfl := Option.some.inj ho
                          intro a9 wx hBx hev haf
                          have fg : (a9.tmps[210]?).getD undef = .bool false := haf 2 _ rfl rfl 210 rfl
                          rw [if_neg (by rw [wanted_at (j := 23) (b := true) rfl rfl fg]; decide)]
                          trivial
                        | 33, _ =>
                          obtain rfl := Option.some.inj ho
                          intro a9 wx hBx hev haf
                          have fg : (a9.tmps[210]?).getD undef = .bool false := haf 1 _ rfl rfl 210 rfl
                          rw [if_neg (by rw [wanted_at (j := 23) (b := true) rfl rfl fg]; decide)]
                          trivial
                        | 34, _ =>
                          obtain rfl := Option.some.inj ho
                          intro a9 wx hBx hev haf
                          have fg : (a9.tmps[210]?).getD undef = .bool false := haf 1 _ rfl rfl 210 rfl
                          rw [if_neg (by rw [wanted_at (j := 23) (b := true) rfl rfl fg]; decide)]
                          trivial
                        | 35, _ =>
                          obtain rfl := Option.some.inj ho
                          intro a9 wx hBx hev haf
                          have fg : (a9.tmps[210]?).getD undef = .bool false := haf 2 _ rfl rfl 210 rfl
                          rw [if_neg (by rw [wanted_at (j := 23) (b := true) rfl rfl fg]; decide)]
                          trivial
                        | 36, _ =>
                          obtain rfl := Option.some.inj ho
                          intro a9 wx hBx hev haf
                          have fg : (a9.tmps[207]?).getD undef = .bool false := haf 2 _ rfl rfl 207 rfl
                          rw [if_pos (by rw [wanted_at (j := 20) (b := false) rfl rfl fg]; rfl)]
                          have f210 : (a9.tmps[210]?).getD undef = (.bool false) := haf 0 _ rfl rfl 210 rfl
                          clear haf hev
                          go_simp
                          exact ⟨rfl, trivial, hBx⟩
                        | 37, _ =>
                          obtain rfl := Option.some.inj ho
                          intro a9 wx hBx hev haf
                          rw [if_pos (wanted_none rfl)]
                          have f207 : (a9.tmps[207]?).getD undef = (.bool false) := haf 0 _ rfl rfl 207 rfl
                          have f223 : (a9.tmps[223]?).getD undef = (.bool false) := haf 1 _ rfl rfl 223 rfl
                          clear haf hev
                          go_simp
                          exact ⟨rfl, trivial, hBx⟩
                      · intro vals wx hBx hG
                        have g0 : vals 0 = (.int .i64 3) := hG 0 (by decide)
                        have g1 : vals 1 = (.bool true) := hG 1 (by decide)
                        have g2 : vals 2 = (.bool true) := hG 2 (by decide)
                        have g3 : vals 3 = (.int .i64 3) := hG 3 (by decide)
                        have g4 : vals 4 = (.bool false) := hG 4 (by decide)
                        have g5 : vals 5 = (.bool false) := hG 5 (by decide)
                        have g6 : vals 6 = (.pointer (some ⟨y3.heap.size, 1, none⟩)) := hG 6 (by decide)
                        have g7 : vals 7 = (.slice (some ⟨gh, oh, none⟩) ch.length ka2) := hG 7 (by decide)
                        have g8 : vals 8 = (.int .i64 (i : Nat)) := hG 8 (by decide)
                        have g9 : vals 9 = (.pointer (some ⟨gh, oh + i, none⟩)) := hG 9 (by decide)
                        have g10 : vals 10 = (.int .i64 (DimT.last ⟨nm, xlo, xhi⟩)) := hG 10 (by decide)
                        have g11 : vals 11 = (.slice (some ⟨gd, od, none⟩) d.length k0) := hG 11 (by decide)
                        have g12 : vals 12 = (.int .i64 (i : Nat)) := hG 12 (by decide)
                        have g13 : vals 13 = (.pointer (some ⟨gd, od + i * 3, none⟩)) := hG 13 (by decide)
                        have g14 : vals 14 = (.pointer (some ⟨gd, od + i * 3 + 2, none⟩)) := hG 14 (by decide)
                        have g15 : vals 15 = (.int .i64 xhi) := hG 15 (by decide)
                        have g16 : vals 16 = (.int .i64 (DimT.last ⟨nm, xlo, xhi⟩)) := hG 16 (by decide)
                        have g17 : vals 17 = (.bool false) := hG 17 (by decide)
                        have g18 : vals 18 = (.bool false) := hG 18 (by decide)
                        have g19 : vals 19 = (.bool false) := hG 19 (by decide)
                        have g20 : vals 20 = (.bool false) := hG 20 (by decide)
                        have g21 : vals 21 = (.int .i64 3) := hG 21 (by decide)
                        have g22 : vals 22 = (.bool false) := hG 22 (by decide)
                        have g23 : vals 23 = (.bool false) := hG 23 (by decide)
                        have g36 : vals 36 = (.bool false) := hG 36 (by decide)
                        have g37 : vals 37 = (.bool false) := hG 37 (by decide)
                        clear hG
                        simp only [putDs, Act.put, Nat.zero_add, Nat.reduceAdd, List.setIfInBounds_toArray, List.set_cons_succ, List.set_cons_zero, g0, g1, g2, g3, g4, g5, g6, g7, g8, g9, g10, g11, g12, g13, g14, g15, g16, g17, g18, g19, g20, g21, g22, g23, g36, g37]
                        clear g0 g1 g2 g3 g4 g5 g6 g7 g8 g9 g10 g11 g12 g13 g14 g15 g16 g17 g18 g19 g20 g21 g22 g23 g36 g37
                        have ZA := Lib.hid (below_keep Z9.out hBx)
                        have YA := Lib.hid (below_keep Y9.out hBx)
                        clear hBx
                        obtain ⟨d0, d1, d2, d3, d4, d5⟩ := (K.out _ ZA.out).2.2
                        go_wp2_with fail
                        refine (CNW.out _ YA.out).mono ?_
                        rintro e y8 ⟨v3, v4, rfl, hv3, hv4, hb⟩
                        have ZB := Lib.hid (below_keep ZA.out hb)
                        have YB := Lib.hid (below_keep YA.out hb)
                        have HV3 := Lib.hid hv3.ints
                        have HV4 := Lib.hid hv4.ints
                        obtain ⟨a7, ka7, rfl, -⟩ := hv3.ints.shape
                        obtain ⟨a8, ka8, rfl, -⟩ := hv4.ints.shape
                        obtain ⟨WB, hWB, hbB, hxB⟩ := boxm_at y8 (.slice a7 bw.1.length ka7) (.slice a8 bw.2.length ka8)
                        have HBB := Lib.hid hbB
                        have HXB := Lib.hid hxB
                        have ZC := Lib.hid (below_keep ZB.out hbB)
                        have YC := Lib.hid (below_keep YB.out hbB)
                        clear d0 d1 d2 d3 d4 d5 hb hv3 hv4 hbB hxB CNW
                        go_upto_region 26 with (fail)
                        rw [← hWB]
                        clear hWB
                        have ZE := Lib.hid ZC.out
                        go_upto_region 28 with (fail)
                        obtain ⟨c0, c1, x1, x2, r1, r2, r3⟩ := KR.out _ ZE.out
                        by_cases hk0 : k = 0
                        · have hel := HL2.out hk0
                          have t1 : (k == (0 : Int)) = true := by rw [hk0]; rfl
                          try simp only at hel
                          subst hel
                          have t2 : (el != el) = false := by simp
                          clear hk0 t2
                          go_quiet (fail)
                          have HBE := Lib.hid (below_keep ZE.out (below_drewN' _ nq))
                          clear c0 c1 x1 x2 r1 r2 r3
                          have hq9 : q.length ≤ 1000000 := HQ9.out
                          go_wp2
                          exact ⟨⟨i + 1, HI1'.out.1, by go_num, HBE.out⟩, HI1'.out.2⟩
                        · have t1 : (k == (0 : Int)) = false := by rw [beq_eq_false_iff_ne]; exact hk0
                          clear hk0
                          go_quiet (fail)
                          have HBE := Lib.hid (below_keep ZE.out (below_drewN' _ nq))
                          clear c0 c1 x1 x2 r1 r2 r3
                          have hq9 : q.length ≤ 1000000 := HQ9.out
                          go_wp2
                          exact ⟨⟨i + 1, HI1'.out.1, by go_num, HBE.out⟩, HI1'.out.2⟩
                · obtain rfl : i = q.length := by omega
                  clear hi hlt
                  go_wp2_with fail
                  refine (CW.out _ (HBW.out _ (below_keep B7.out ZX.out))).mono ?_
                  rintro e z1 ⟨rfl, hb⟩
                  have HBE := Lib.hid (HBW.out _ (below_keep B7.out (below_keep ZX.out hb)))
                  clear hb CW
                  go_wp2
                  go_ret
                  exact ⟨rfl, HBE.out⟩
        · have t1 : (E != 0) = true := bne_iff_ne.2 hE0
          have t2 : (E == E) = true := beq_iff_eq.2 rfl
          obtain ⟨hq0, hh0⟩ := HE.out hE0
          subst hq0
          subst hh0
          clear hE0
          go_wp2_with fail
          refine (CW.out _ (HBW.out _ B4.out)).mono ?_
          rintro e z1 ⟨rfl, hb⟩
          have HBE := Lib.hid (HBW.out _ (below_keep B4.out hb))
          clear hb CW
          go_wp2
          go_ret
          exact ⟨rfl, HBE.out⟩
end Go.Proofs.YtpdhlgkcjakcgaaGreatDoor
