/- The walk of SpaceGets. -/
import Derived.Test.YtpdhlgkcjakcgaaGreatDoorS15
import Derived.Test.YtpdhlgkcjakcgaaGreatDoorS22
import Derived.Test.YtpdhlgkcjakcgaaGreatDoorS23
namespace Go.Proofs.YtpdhlgkcjakcgaaGreatDoor
open Go.RowKit

theorem arr2p_at (w : World) (v1 v2 v3 u1 u2 u3 a1 a2 : Value) : ∃ W1, W1 = ((w.alloc (.cells #[v1, v2, v3] 34)).alloc (.cells #[u1, u2, u3] 34)).alloc (.cells #[a1, a2] 41) ∧ Below w.heap.size w W1 ∧
    ∀ w', Below W1.heap.size W1 w' → (w'.cell? ⟨w.heap.size, 0, none⟩ = some v1 ∧ w'.cell? ⟨w.heap.size, 1, none⟩ = some v2 ∧ w'.cell? ⟨w.heap.size, 2, none⟩ = some v3) ∧ (w'.cell? ⟨w.heap.size + 1, 0, none⟩ = some u1 ∧ w'.cell? ⟨w.heap.size + 1, 1, none⟩ = some u2 ∧ w'.cell? ⟨w.heap.size + 1, 2, none⟩ = some u3) ∧ w'.cell? ⟨w.heap.size + 2, 0, none⟩ = some a1 ∧ w'.cell? ⟨w.heap.size + 2, 1, none⟩ = some a2 := by
  obtain ⟨W2, hW2, hb2, hx2⟩ := arr2_at w v1 v2 v3 u1 u2 u3
  have hs2 : W2.heap.size = w.heap.size + 2 := by rw [hW2]; simp
  rw [← hW2]
  have hba : Below W2.heap.size W2 (W2.alloc (.cells #[a1, a2] 41)) := below_alloc _ _
  refine ⟨_, rfl, below_keep hb2 hba, fun w' hb => ?_⟩
  obtain ⟨e0, e1, e2, e3, e4, e5⟩ := hx2 w' (below_keep hba hb)
  have h3 : ∀ j, w'.cell? ⟨w.heap.size + 2, j, none⟩ = (W2.alloc (.cells #[a1, a2] 41)).cell? ⟨w.heap.size + 2, j, none⟩ := fun j => hb.cell (p := ⟨w.heap.size + 2, j, none⟩) (by simp [hs2])
  refine ⟨⟨e0, e1, e2⟩, ⟨e3, e4, e5⟩, ?_, ?_⟩
  · rw [h3, World.cell?_alloc_at _ _ _ _ hs2.symm]; rfl
  · rw [h3, World.cell?_alloc_at _ _ _ _ hs2.symm]; rfl
set_option maxHeartbeats 16000000 in
set_option maxRecDepth 100000 in
theorem spaceGets_any (x y : ArrT) (c0 c1 : List Int) (vd va vc ud ua uc a0 a1 : Value) (w : World) (hm : Ml w) (hx : ArrR w vd va vc x) (hy : ArrR w ud ua uc y) (h0 : Ints w a0 c0) (h1 : Ints w a1 c1)
    (sxd : StrD x.dims) (sxa : StrA x.attrs) (sxc : StrC x.cells) (syd : StrD y.dims) (sya : StrA y.attrs) (syc : StrC y.cells) :
    Calls Tryz.prog 9 #[.agg #[vd, va, vc], .agg #[ud, ua, uc], .agg #[a0, a1]] w (RetV' (.bool true) w) := by
  have CW := Lib.hid (fun w1 (hb : Below w.heap.size w w1) => works_any w1 (hm.later hb))
  have CF1 := Lib.hid (fun w1 (hb : Below w.heap.size w w1) => few_any x 60 vd va vc w1 (hx.later hb))
  have CF2 := Lib.hid (fun w1 (hb : Below w.heap.size w w1) => few_any y 60 ud ua uc w1 (hy.later hb))
  obtain ⟨Q, hQ⟩ : ∃ Q, Q = cmpI c0 c1 := ⟨_, rfl⟩
  obtain ⟨S1, hS1⟩ : ∃ S, S = sameE x y := ⟨_, rfl⟩
  obtain ⟨S2, hS2⟩ : ∃ S, S = sameE x x := ⟨_, rfl⟩
  have K1 := Lib.hid (fun w1 (hb : Below w.heap.size w w1) => hQ ▸ compare_any c0 c1 a0 a1 w1 (h0.later IntR.lasts hb) (h1.later IntR.lasts hb))
  have K2 := Lib.hid (fun w1 (hb : Below w.heap.size w w1) => hQ ▸ rcompare_any c0 c1 a0 a1 w1 (h0.later IntR.lasts hb) (h1.later IntR.lasts hb))
  have K3 := Lib.hid (fun w1 (hb : Below w.heap.size w w1) => hS1 ▸ same_any x y vd va vc ud ua uc w1 (hx.later hb) (hy.later hb) sxd sxa syd sya)
  have K4 := Lib.hid (fun w1 (hb : Below w.heap.size w w1) => hS1 ▸ rsame_any x y vd va vc ud ua uc w1 (hx.later hb) (hy.later hb) sxd sxa syd sya sxc syc)
  have K5 := Lib.hid (fun w1 (hb : Below w.heap.size w w1) => hS2 ▸ same_any x x vd va vc vd va vc w1 (hx.later hb) (hx.later hb) sxd sxa sxd sxa)
  have K6 := Lib.hid (fun w1 (hb : Below w.heap.size w w1) => hS2 ▸ rsame_any x x vd va vc vd va vc w1 (hx.later hb) (hx.later hb) sxd sxa sxd sxa sxc sxc)
  have G1 := Lib.hid (fun (hq : CellsS x.cells 1000000) (c : List Int) (u : Value) w1 (hb : Below w.heap.size w w1) (hc : Ints w1 u c) => get_any x c vd va vc u w1 (hx.later hb) hc sxd sxa hq)
  have G2 := Lib.hid (fun (hq : CellsS x.cells 1000000) (c : List Int) (u : Value) w1 (hb : Below w.heap.size w w1) (hc : Ints w1 u c) => rget_any x c vd va vc u w1 (hx.later hb) hc sxd sxa sxc hq)
  have HX := Lib.hid hx
  have H0 := Lib.hid h0
  obtain ⟨p0, k0, rfl, -⟩ := hx.dims.shape
  obtain ⟨p1, k1, rfl, -⟩ := hx.attrs.shape
  obtain ⟨p2, k2, rfl, -⟩ := hx.cells.shape
  obtain ⟨p3, k3, rfl, -⟩ := hy.dims.shape
  obtain ⟨p4, k4, rfl, -⟩ := hy.attrs.shape
  obtain ⟨p5, k5, rfl, -⟩ := hy.cells.shape
  obtain ⟨p6, k6, rfl, -⟩ := h0.shape
  obtain ⟨p7, k7, rfl, -⟩ := h1.shape
  obtain ⟨W1, hW1, hb1, hbx⟩ := arr2p_at w (.slice p0 x.dims.length k0) (.slice p1 x.attrs.length k1) (.slice p2 x.cells.length k2) (.slice p3 y.dims.length k3) (.slice p4 y.attrs.length k4) (.slice p5 y.cells.length k5) (.slice p6 c0.length k6) (.slice p7 c1.length k7)
  have HB1 := Lib.hid hb1
  have HBX := Lib.hid hbx
  have HBW : Hid (∀ w', Below W1.heap.size W1 w' → Below w.heap.size w w') := fun w' h => below_keep HB1.out h
  clear hm hx hy h0 h1 sxd sxa sxc syd sya syc hb1 hbx hQ hS1 hS2
  go_enter Tryz.func9, Tryz.ntmps9
  go_wp2_with fail
  rw [← hW1]
  refine (CF1.out _ HB1.out).mono ?_
  rintro e x1 ⟨b, rfl, hf1, hb⟩
  have B1 := Lib.hid hb
  have HF1 := Lib.hid hf1
  clear hb CF1 hW1 hf1
  cases b with
  | false =>
    go_wp2_with fail
    refine (CW.out _ (HBW.out _ B1.out)).mono ?_
    rintro e z1 ⟨rfl, hb⟩
    have HBE := Lib.hid (HBW.out _ (below_keep B1.out hb))
    clear hb CW
    go_wp2
    go_ret
    exact ⟨rfl, HBE.out⟩
  | true =>
    have hfw := HF1.out rfl
    have HQ : Hid (CellsS x.cells 1000000) := ⟨by have := hfw.cells.len; omega, hfw.cells.cell⟩
    obtain ⟨⟨d0, d1, d2⟩, ⟨d3, d4, d5⟩, d6, d7⟩ := HBX.out _ B1.out
    clear hfw HF1
    go_wp2_with fail
    refine (CF2.out _ (HBW.out _ B1.out)).mono ?_
    rintro e x2 ⟨b, rfl, -, hb⟩
    have B2 := Lib.hid (below_keep B1.out hb)
    clear hb CF2 d0 d1 d2 d3 d4 d5 d6 d7
    cases b with
    | false =>
      go_wp2_with fail
      refine (CW.out _ (HBW.out _ B2.out)).mono ?_
      rintro e z1 ⟨rfl, hb⟩
      have HBE := Lib.hid (HBW.out _ (below_keep B2.out hb))
      clear hb CW
      go_wp2
      go_ret
      exact ⟨rfl, HBE.out⟩
    | true =>
      obtain ⟨⟨d0, d1, d2⟩, ⟨d3, d4, d5⟩, d6, d7⟩ := HBX.out _ B2.out
      by_cases t0 : 10 < c0.length
      · have s0 : decide ((10 : Int) < c0.length) = true := decide_eq_true (by omega)
        clear t0
        go_wp2_with fail
        refine (CW.out _ (HBW.out _ B2.out)).mono ?_
        rintro e z1 ⟨rfl, hb⟩
        have HBE := Lib.hid (HBW.out _ (below_keep B2.out hb))
        clear hb CW
        go_wp2
        go_ret
        exact ⟨rfl, HBE.out⟩
      · have s0 : decide ((10 : Int) < c0.length) = false := decide_eq_false (by omega)
        clear t0
        by_cases t1 : 10 < c1.length
        · have s1 : decide ((10 : Int) < c1.length) = true := decide_eq_true (by omega)
          clear t1
          go_wp2_with fail
          refine (CW.out _ (HBW.out _ B2.out)).mono ?_
          rintro e z1 ⟨rfl, hb⟩
          have HBE := Lib.hid (HBW.out _ (below_keep B2.out hb))
          clear hb CW
          go_wp2
          go_ret
          exact ⟨rfl, HBE.out⟩
        · have s1 : decide ((10 : Int) < c1.length) = false := decide_eq_false (by omega)
          clear t1
          have KX : Hid (∀ w', Below W1.heap.size W1 w' → w'.cell? ⟨w.heap.size, 0, none⟩ = some (.slice p0 x.dims.length k0) ∧ w'.cell? ⟨w.heap.size, 1, none⟩ = some (.slice p1 x.attrs.length k1) ∧ w'.cell? ⟨w.heap.size, 2, none⟩ = some (.slice p2 x.cells.length k2) ∧ w'.cell? ⟨w.heap.size + 1, 0, none⟩ = some (.slice p3 y.dims.length k3) ∧ w'.cell? ⟨w.heap.size + 1, 1, none⟩ = some (.slice p4 y.attrs.length k4) ∧ w'.cell? ⟨w.heap.size + 1, 2, none⟩ = some (.slice p5 y.cells.length k5) ∧ w'.cell? ⟨w.heap.size + 2, 0, none⟩ = some (.slice p6 c0.length k6) ∧ w'.cell? ⟨w.heap.size + 2, 1, none⟩ = some (.slice p7 c1.length k7) ∧ Below W1.heap.size W1 w') := fun w' h => by
            obtain ⟨⟨e0, e1, e2⟩, ⟨e3, e4, e5⟩, e6, e7⟩ := HBX.out w' h
            exact ⟨e0, e1, e2, e3, e4, e5, e6, e7, h⟩
          go_wp2_with fail
          clear s0 s1 d0 d1 d2 d3 d4 d5 d6 d7
          go_region_held3 (fun w' => w'.cell? ⟨w.heap.size, 0, none⟩ = some (.slice p0 x.dims.length k0) ∧ w'.cell? ⟨w.heap.size, 1, none⟩ = some (.slice p1 x.attrs.length k1) ∧ w'.cell? ⟨w.heap.size, 2, none⟩ = some (.slice p2 x.cells.length k2) ∧ w'.cell? ⟨w.heap.size + 1, 0, none⟩ = some (.slice p3 y.dims.length k3) ∧ w'.cell? ⟨w.heap.size + 1, 1, none⟩ = some (.slice p4 y.attrs.length k4) ∧ w'.cell? ⟨w.heap.size + 1, 2, none⟩ = some (.slice p5 y.cells.length k5) ∧ w'.cell? ⟨w.heap.size + 2, 0, none⟩ = some (.slice p6 c0.length k6) ∧ w'.cell? ⟨w.heap.size + 2, 1, none⟩ = some (.slice p7 c1.length k7) ∧ Below W1.heap.size W1 w')
            (first | exact KX.out _ B2.out.drew | exact KX.out _ (by assumption))
            (first
              | (have hZ := b5; go_at_call 51; refine (K6.out _ (HBW.out _ b5)).mono ?_; rintro e z6 ⟨rfl, g6⟩; have b6 : Below W1.heap.size W1 z6 := below_keep b5 g6)
              | (have hZ := b4; go_at_call 50; refine (K5.out _ (HBW.out _ b4)).mono ?_; rintro e z5 ⟨rfl, g5⟩; have b5 : Below W1.heap.size W1 z5 := below_keep b4 g5)
              | (have hZ := b3; go_at_call 51; refine (K4.out _ (HBW.out _ b3)).mono ?_; rintro e z4 ⟨rfl, g4⟩; have b4 : Below W1.heap.size W1 z4 := below_keep b3 g4)
              | (have hZ := b2; go_at_call 50; refine (K3.out _ (HBW.out _ b2)).mono ?_; rintro e z3 ⟨rfl, g3⟩; have b3 : Below W1.heap.size W1 z3 := below_keep b2 g3)
              | (have hZ := b1; go_at_call 49; refine (K2.out _ (HBW.out _ b1)).mono ?_; rintro e z2 ⟨rfl, g2⟩; have b2 : Below W1.heap.size W1 z2 := below_keep b1 g2)
              | (go_at_call 39; refine (K1.out _ (HBW.out _ B2.out.drew)).mono ?_; rintro e z1 ⟨rfl, rfl⟩; have b1 : Below W1.heap.size W1 x2.drew := B2.out.drew))
          have B3 := Lib.hid b6
          have HG6 := Lib.hid (And.intro g2 (And.intro g3 (And.intro g4 (And.intro g5 g6))))
          clear K1 K2 K3 K4 K5 K6 HG6 g2 g3 g4 g5 g6 b1 b2 b3 b4 b5 b6
          obtain ⟨⟨d0, d1, d2⟩, -, d6, -⟩ := HBX.out _ B3.out
          go_wp2_with fail
          refine (G1.out HQ.out c0 _ _ (HBW.out _ B3.out) (H0.out.later IntR.lasts (HBW.out _ B3.out))).mono ?_
          rintro e y1 ⟨v9, rfl, hv9, hb⟩
          have B4 := Lib.hid (below_keep B3.out hb)
          have HV9 := Lib.hid hv9
          obtain ⟨q9, k9, rfl, -⟩ := hv9.shape
          clear hb hv9 d0 d1 d2 d6
          obtain ⟨⟨d0, d1, d2⟩, -, d6, -⟩ := HBX.out _ B4.out
          go_wp2_with fail
          refine (G2.out HQ.out c0 _ _ (HBW.out _ B4.out) (H0.out.later IntR.lasts (HBW.out _ B4.out))).mono ?_
          rintro e y2 ⟨v8, rfl, hv8, hb⟩
          have B5 := Lib.hid (below_keep B4.out hb)
          have hsv := sameVals_any _ _ _ _ y2 (HV9.out.later ValR.lasts hb) hv8
          rw [decide_eq_true rfl] at hsv
          have CSV := Lib.hid hsv
          obtain ⟨q8, k8, rfl, -⟩ := hv8.shape
          clear hb hv8 hsv d0 d1 d2 d6
          go_wp2_with fail
          refine CSV.out.mono ?_
          rintro e y3 ⟨rfl, n, rfl⟩
          have B6 := Lib.hid (below_keep B5.out (below_drewN' y2 n))
          obtain ⟨W6, hW6⟩ : ∃ W6, W6 = y2.drewN n := ⟨_, rfl⟩
          rw [← hW6] at B6 ⊢
          clear hW6 CSV
          have hcl : x.cells.length ≤ 1000000 := HQ.out.len
          go_wp2
          go_loopw [11] (fun iv wr => ∃ i : Nat, i ≤ x.cells.length ∧ iv = .int .i64 (i : Nat) ∧ Below W1.heap.size W1 wr) (fun iv _ => x.cells.length - (intOf iv).toNat)
          case atStart => exact ⟨0, Nat.zero_le _, rfl, B6.out⟩
          case round =>
            obtain ⟨i, hi, rfl, hbr⟩ := hrel
            have HBR := Lib.hid hbr
            obtain ⟨⟨d0, d1, d2⟩, -, -, -⟩ := HBX.out wr hbr
            clear hbr
            by_cases hlt : i < x.cells.length
            · obtain ⟨g, o, cc, ea, hx, hr⟩ := (HX.out.cells.later CellR.lasts (HBW.out _ HBR.out)).at i hlt
              subst ea
              obtain ⟨v1, v2, x0, x1, hco, hva⟩ := hr.ex
              have HCO := Lib.hid hco
              obtain ⟨q1, m1, rfl, -⟩ := hco.shape
              have HI1 : Hid (i + 1 ≤ x.cells.length) := hlt
              have HI2 : Hid (x.cells.length - (i + 1) < x.cells.length - i) := by show _ < _; omega
              have ib0 : (0 : Int) ≤ (i : Int) := by omega
              have ib1 : (i : Int) < (x.cells.length : Int) := by omega
              have K : Hid (∀ w', Below wr.heap.size wr w' → w'.cell? ⟨w.heap.size, 0, none⟩ = some (.slice p0 x.dims.length k0) ∧ w'.cell? ⟨w.heap.size, 1, none⟩ = some (.slice p1 x.attrs.length k1) ∧ w'.cell? ⟨w.heap.size, 2, none⟩ = some (.slice (some ⟨g, o, none⟩) x.cells.length k2) ∧ w'.cell? ⟨g, o + i * 2, none⟩ = some (.slice q1 cc.co.length m1) ∧ Below wr.heap.size wr w') := fun w' h => ⟨cell_later d0 h, cell_later d1 h, cell_later d2 h, cell_later x0 h, h⟩
              have HBRW : Hid (∀ w', Below wr.heap.size wr w' → Below w.heap.size w w') := fun w' h => HBW.out _ (below_keep HBR.out h)
              clear hr hx hco hva x0 x1 d0 d1
              go_wp2_with fail
              clear d2
              go_region_held3 (fun w' => w'.cell? ⟨w.heap.size, 0, none⟩ = some (.slice p0 x.dims.length k0) ∧ w'.cell? ⟨w.heap.size, 1, none⟩ = some (.slice p1 x.attrs.length k1) ∧ w'.cell? ⟨w.heap.size, 2, none⟩ = some (.slice (some ⟨g, o, none⟩) x.cells.length k2) ∧ w'.cell? ⟨g, o + i * 2, none⟩ = some (.slice q1 cc.co.length m1) ∧ Below wr.heap.size wr w')
                (first | exact K.out _ (Below.refl _ _).drew | exact K.out _ (by assumption))
                ((go_at_call 52; refine (G1.out HQ.out cc.co _ _ (HBRW.out _ (Below.refl _ _).drew) (HCO.out.later IntR.lasts (Below.refl _ _).drew)).mono ?_; rintro e z1 ⟨v9, rfl, hv9, hb2⟩; obtain ⟨q9, k9, rfl, -⟩ := id hv9.shape; have hb3 : Below wr.heap.size wr z1 := below_keep (Below.refl _ _).drew hb2))
              have BZ1 := Lib.hid hb3
              have HW9 := Lib.hid hv9
              have K2 : Hid (∀ w', Below z1.heap.size z1 w' → w'.cell? ⟨w.heap.size, 0, none⟩ = some (.slice p0 x.dims.length k0) ∧ w'.cell? ⟨w.heap.size, 1, none⟩ = some (.slice p1 x.attrs.length k1) ∧ w'.cell? ⟨w.heap.size, 2, none⟩ = some (.slice (some ⟨g, o, none⟩) x.cells.length k2) ∧ w'.cell? ⟨g, o + i * 2, none⟩ = some (.slice q1 cc.co.length m1) ∧ Below z1.heap.size z1 w') := fun w' h => by
                obtain ⟨e0, e1, e2, e3, -⟩ := K.out w' (below_keep BZ1.out h)
                exact ⟨e0, e1, e2, e3, h⟩
              clear hb2 hb3 hv9
              go_wp2_with fail
              go_region_held3 (fun w' => w'.cell? ⟨w.heap.size, 0, none⟩ = some (.slice p0 x.dims.length k0) ∧ w'.cell? ⟨w.heap.size, 1, none⟩ = some (.slice p1 x.attrs.length k1) ∧ w'.cell? ⟨w.heap.size, 2, none⟩ = some (.slice (some ⟨g, o, none⟩) x.cells.length k2) ∧ w'.cell? ⟨g, o + i * 2, none⟩ = some (.slice q1 cc.co.length m1) ∧ Below z1.heap.size z1 w')
                (first | exact K2.out _ (Below.refl _ _).drew | exact K2.out _ (by assumption))
                ((go_at_call 53; refine (G2.out HQ.out cc.co _ _ (HBRW.out _ (below_keep BZ1.out (Below.refl _ _).drew)) (HCO.out.later IntR.lasts (below_keep BZ1.out (Below.refl _ _).drew))).mono ?_; rintro e z2 ⟨v8, rfl, hv8, hb4⟩; obtain ⟨q8, k8, rfl, -⟩ := id hv8.shape; have hb5 : Below z1.heap.size z1 z2 := below_keep (Below.refl _ _).drew hb4))
              have BZ2 := Lib.hid (below_keep BZ1.out hb5)
              have hsv := sameVals_any _ _ _ _ z2 (HW9.out.later ValR.lasts hb5) hv8
              rw [decide_eq_true rfl] at hsv
              have CSV := Lib.hid hsv
              clear hb4 hb5 hv8 hsv
              go_wp2_with fail
              refine CSV.out.mono ?_
              rintro e z3 ⟨rfl, n3, rfl⟩
              have BZ3 := Lib.hid (below_keep HBR.out (below_keep BZ2.out (below_drewN' z2 n3)))
              clear CSV
              go_wp2
              exact ⟨⟨i + 1, HI1.out, by go_num, BZ3.out⟩, HI2.out⟩
            · obtain rfl : i = x.cells.length := by omega
              clear hlt
              go_wp2_with fail
              refine (CW.out _ (HBW.out _ HBR.out)).mono ?_
              rintro e z1 ⟨rfl, hb⟩
              have HBE := Lib.hid (HBW.out _ (below_keep HBR.out hb))
              clear hb CW
              go_wp2
              go_ret
              exact ⟨rfl, HBE.out⟩
end Go.Proofs.YtpdhlgkcjakcgaaGreatDoor
