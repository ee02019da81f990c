/- The walk of SpaceBoxes. -/
import Derived.Test.YtpdhlgkcjakcgaaGreatDoorIntB
import Derived.Test.YtpdhlgkcjakcgaaGreatDoorIntC
import Derived.Test.YtpdhlgkcjakcgaaGreatDoorS15
import Derived.Test.YtpdhlgkcjakcgaaGreatDoorSameA
namespace Go.Proofs.YtpdhlgkcjakcgaaGreatDoor
open Go.RowKit

theorem box2_at (w : World) (v1 v2 u1 u2 : Value) : ∃ W1, W1 = (w.alloc (.cells #[v1, v2] 52)).alloc (.cells #[u1, u2] 52) ∧ Below w.heap.size w W1 ∧ W1.heap.size = w.heap.size + 2 ∧
    ∀ w', Below W1.heap.size W1 w' → w'.cell? ⟨w.heap.size, 0, none⟩ = some v1 ∧ w'.cell? ⟨w.heap.size, 1, none⟩ = some v2 ∧ w'.cell? ⟨w.heap.size + 1, 0, none⟩ = some u1 ∧ w'.cell? ⟨w.heap.size + 1, 1, none⟩ = some u2 := by
  refine ⟨_, rfl, (below_alloc _ _).trans ((below_alloc _ _).mono (by simp)), by simp, fun w' hb => ?_⟩
  have h1 : ∀ j, w'.cell? ⟨w.heap.size, j, none⟩ = (w.alloc (.cells #[v1, v2] 52)).cell? ⟨w.heap.size, j, none⟩ := fun j => by
    rw [hb.cell (p := ⟨w.heap.size, j, none⟩) (by simp; omega), World.cell?_alloc_lt _ _ _ (by simp)]
  have h2 : ∀ j, w'.cell? ⟨w.heap.size + 1, j, none⟩ = ((w.alloc (.cells #[v1, v2] 52)).alloc (.cells #[u1, u2] 52)).cell? ⟨w.heap.size + 1, j, none⟩ := fun j => by
    rw [hb.cell (p := ⟨w.heap.size + 1, j, none⟩) (by simp)]
  refine ⟨?_, ?_, ?_, ?_⟩
  · rw [h1, World.cell?_alloc_at _ _ _ _ rfl]; rfl
  · rw [h1, World.cell?_alloc_at _ _ _ _ rfl]; rfl
  · rw [h2, World.cell?_alloc_at _ _ _ _ (by simp)]; rfl
  · rw [h2, World.cell?_alloc_at _ _ _ _ (by simp)]; rfl
set_option maxHeartbeats 6400000 in
set_option maxRecDepth 100000 in
theorem spaceBoxes_any (va1 va2 vb1 vb2 u : Value) (al ah bl bh c : List Int) (w : World) (hm : Ml w) (h1 : Ints w va1 al) (h2 : Ints w va2 ah) (h3 : Ints w vb1 bl) (h4 : Ints w vb2 bh) (h5 : Ints w u c) :
    Calls Tryz.prog 7 #[.agg #[va1, va2], .agg #[vb1, vb2], u] w (RetV' (.bool true) w) := by
  have CW := Lib.hid (fun w1 (hb : Below w.heap.size w w1) => works_any w1 (hm.later hb))
  obtain ⟨I9, hI9⟩ : ∃ I, I = interB al ah bl bh := ⟨_, rfl⟩
  obtain ⟨B9, hB9⟩ : ∃ B, B = hasB al ah c := ⟨_, rfl⟩
  have C1 := Lib.hid (fun w1 (hb : Below w.heap.size w w1) => hI9 ▸ inter_any va1 va2 vb1 vb2 al ah bl bh w1 (h1.later IntR.lasts hb) (h2.later IntR.lasts hb) (h3.later IntR.lasts hb) (h4.later IntR.lasts hb))
  have C2 := Lib.hid (fun w1 (hb : Below w.heap.size w w1) => hI9 ▸ rinter_any va1 va2 vb1 vb2 al ah bl bh w1 (h1.later IntR.lasts hb) (h2.later IntR.lasts hb) (h3.later IntR.lasts hb) (h4.later IntR.lasts hb))
  have C3 := Lib.hid (fun w1 (hb : Below w.heap.size w w1) => hB9 ▸ has_any va1 va2 u al ah c w1 (h1.later IntR.lasts hb) (h2.later IntR.lasts hb) (h5.later IntR.lasts hb))
  have C4 := Lib.hid (fun w1 (hb : Below w.heap.size w w1) => hB9 ▸ rhas_any va1 va2 u al ah c w1 (h1.later IntR.lasts hb) (h2.later IntR.lasts hb) (h5.later IntR.lasts hb))
  obtain ⟨a1, c1, rfl, -⟩ := h1.shape
  obtain ⟨a2, c2, rfl, -⟩ := h2.shape
  obtain ⟨a3, c3, rfl, -⟩ := h3.shape
  obtain ⟨a4, c4, rfl, -⟩ := h4.shape
  obtain ⟨a5, c5, rfl, -⟩ := h5.shape
  obtain ⟨W1, hW1, hb1, hs1, hbx⟩ := box2_at w (.slice a1 al.length c1) (.slice a2 ah.length c2) (.slice a3 bl.length c3) (.slice a4 bh.length c4)
  have HB1 := Lib.hid hb1
  have HBX := Lib.hid hbx
  have HS1 := Lib.hid hs1
  clear h1 h2 h3 h4 h5 hb1 hbx hs1 hI9 hB9 hm
  by_cases t0 : 10 < al.length
  · have s0 : decide ((10 : Int) < al.length) = true := decide_eq_true (by omega)
    clear t0
    go_enter Tryz.func7, Tryz.ntmps7
    go_wp2_with fail
    rw [← hW1]
    refine (CW.out _ HB1.out).mono ?_
    rintro e w3 ⟨rfl, hb⟩
    have HB3 := Lib.hid (HB1.out.trans (hb.mono HB1.out.size))
    clear hb CW
    go_wp2
    go_ret
    exact ⟨rfl, HB3.out⟩
  · have s0 : decide ((10 : Int) < al.length) = false := decide_eq_false (by omega)
    clear t0
    by_cases t1 : 10 < ah.length
    · have s1 : decide ((10 : Int) < ah.length) = true := decide_eq_true (by omega)
      clear t1
      go_enter Tryz.func7, Tryz.ntmps7
      go_wp2_with fail
      rw [← hW1]
      refine (CW.out _ HB1.out).mono ?_
      rintro e w3 ⟨rfl, hb⟩
      have HB3 := Lib.hid (HB1.out.trans (hb.mono HB1.out.size))
      clear hb CW
      go_wp2
      go_ret
      exact ⟨rfl, HB3.out⟩
    · have s1 : decide ((10 : Int) < ah.length) = false := decide_eq_false (by omega)
      clear t1
      by_cases t2 : 10 < bl.length
      · have s2 : decide ((10 : Int) < bl.length) = true := decide_eq_true (by omega)
        clear t2
        go_enter Tryz.func7, Tryz.ntmps7
        go_wp2_with fail
        rw [← hW1]
        refine (CW.out _ HB1.out).mono ?_
        rintro e w3 ⟨rfl, hb⟩
        have HB3 := Lib.hid (HB1.out.trans (hb.mono HB1.out.size))
        clear hb CW
        go_wp2
        go_ret
        exact ⟨rfl, HB3.out⟩
      · have s2 : decide ((10 : Int) < bl.length) = false := decide_eq_false (by omega)
        clear t2
        by_cases t3 : 10 < bh.length
        · have s3 : decide ((10 : Int) < bh.length) = true := decide_eq_true (by omega)
          clear t3
          go_enter Tryz.func7, Tryz.ntmps7
          go_wp2_with fail
          rw [← hW1]
          refine (CW.out _ HB1.out).mono ?_
          rintro e w3 ⟨rfl, hb⟩
          have HB3 := Lib.hid (HB1.out.trans (hb.mono HB1.out.size))
          clear hb CW
          go_wp2
          go_ret
          exact ⟨rfl, HB3.out⟩
        · have s3 : decide ((10 : Int) < bh.length) = false := decide_eq_false (by omega)
          clear t3
          by_cases t4 : 10 < c.length
          · have s4 : decide ((10 : Int) < c.length) = true := decide_eq_true (by omega)
            clear t4
            go_enter Tryz.func7, Tryz.ntmps7
            go_wp2_with fail
            rw [← hW1]
            refine (CW.out _ HB1.out).mono ?_
            rintro e w3 ⟨rfl, hb⟩
            have HB3 := Lib.hid (HB1.out.trans (hb.mono HB1.out.size))
            clear hb CW
            go_wp2
            go_ret
            exact ⟨rfl, HB3.out⟩
          · have s4 : decide ((10 : Int) < c.length) = false := decide_eq_false (by omega)
            clear t4
            go_enter Tryz.func7, Tryz.ntmps7
            go_wp2_with fail
            rw [← hW1]
            refine (C1.out _ HB1.out).mono ?_
            rintro e w2 ⟨v1, v2, rfl, hv1, hv2, hb⟩
            have HB2 := Lib.hid hb
            obtain ⟨d0, d1, d2, d3⟩ := HBX.out w2 hb
            have HV1 := Lib.hid hv1
            have HV2 := Lib.hid hv2
            obtain ⟨q1, k1, rfl, -⟩ := hv1.ints.shape
            obtain ⟨q2, k2, rfl, -⟩ := hv2.ints.shape
            obtain ⟨n1, hn1⟩ : ∃ n1, n1 = (I9.getD ([], [])).1.length := ⟨_, rfl⟩
            obtain ⟨n2, hn2⟩ : ∃ n2, n2 = (I9.getD ([], [])).2.length := ⟨_, rfl⟩
            rw [← hn1] at HV1 ⊢
            rw [← hn2] at HV2 ⊢
            obtain ⟨W3, hW3⟩ : ∃ W3, W3 = w2.alloc (.cells #[.slice q1 n1 k1, .slice q2 n2 k2] 52) := ⟨_, rfl⟩
            have HB3 : Hid (Below w2.heap.size w2 W3) := by show Below _ _ _; rw [hW3]; exact below_alloc _ _
            have HC3 : Hid (W3.cell? ⟨w2.heap.size, 0, none⟩ = some (.slice q1 n1 k1) ∧ W3.cell? ⟨w2.heap.size, 1, none⟩ = some (.slice q2 n2 k2)) := by
              show _ ∧ _
              refine ⟨?_, ?_⟩ <;> (rw [hW3, World.cell?_alloc_at _ _ _ _ rfl]; rfl)
            have HB13 := Lib.hid (HB2.out.trans (HB3.out.mono HB2.out.size))
            obtain ⟨B8, hB8⟩ : ∃ B, B = I9.isSome := ⟨_, rfl⟩
            rw [← hB8]
            have hq1 : w.heap.size < w2.heap.size := World.block_lt_of_cell? _ _ d0
            have hq2 : w.heap.size ≠ w2.heap.size := Nat.ne_of_lt hq1
            have hq3 : w.heap.size + 1 < w2.heap.size := World.block_lt_of_cell? _ _ d2
            have hq4 : w.heap.size + 1 ≠ w2.heap.size := Nat.ne_of_lt hq3
            have HN1 := Lib.hid hn1
            have HN2 := Lib.hid hn2
            have HB8 := Lib.hid hB8
            clear hb hv1 hv2 hW1 C1 HS1 hn1 hn2 hB8
            go_wp2_with fail
            rw [← hW3]
            refine (C2.out _ (HB1.out.trans (HB13.out.mono HB1.out.size))).mono ?_
            rintro e w4 ⟨u1, u2, rfl, hu1, hu2, hb⟩
            rw [← HB8.out]
            have HB4 := Lib.hid hb
            have HB14 := Lib.hid (HB13.out.trans (hb.mono HB13.out.size))
            have HU1 := Lib.hid hu1
            have HU2 := Lib.hid hu2
            obtain ⟨q3, k3, rfl, -⟩ := hu1.ints.shape
            obtain ⟨q4, k4, rfl, -⟩ := hu2.ints.shape
            rw [← HN1.out] at HU1 ⊢
            rw [← HN2.out] at HU2 ⊢
            obtain ⟨W5, hW5⟩ : ∃ W5, W5 = w4.alloc (.cells #[.slice q3 n1 k3, .slice q4 n2 k4] 52) := ⟨_, rfl⟩
            have HB5 : Hid (Below w4.heap.size w4 W5) := by show Below _ _ _; rw [hW5]; exact below_alloc _ _
            have HC5 : Hid (W5.cell? ⟨w4.heap.size, 0, none⟩ = some (.slice q3 n1 k3) ∧ W5.cell? ⟨w4.heap.size, 1, none⟩ = some (.slice q4 n2 k4)) := by
              show _ ∧ _
              refine ⟨?_, ?_⟩ <;> (rw [hW5, World.cell?_alloc_at _ _ _ _ rfl]; rfl)
            have HB15 := Lib.hid (HB14.out.trans (HB5.out.mono HB14.out.size))
            have HB35 := Lib.hid (HB4.out.trans (HB5.out.mono HB4.out.size))
            have K : Hid (∀ w', Below W5.heap.size W5 w' → w'.cell? ⟨w.heap.size, 0, none⟩ = some (.slice a1 al.length c1) ∧ w'.cell? ⟨w.heap.size, 1, none⟩ = some (.slice a2 ah.length c2) ∧ w'.cell? ⟨w2.heap.size, 0, none⟩ = some (.slice q1 n1 k1) ∧ w'.cell? ⟨w2.heap.size, 1, none⟩ = some (.slice q2 n2 k2) ∧ w'.cell? ⟨w4.heap.size, 0, none⟩ = some (.slice q3 n1 k3) ∧ w'.cell? ⟨w4.heap.size, 1, none⟩ = some (.slice q4 n2 k4) ∧ Below W5.heap.size W5 w') := fun w' h => by
              obtain ⟨e0, e1, -⟩ := HBX.out w' (HB15.out.trans (h.mono HB15.out.size))
              exact ⟨e0, e1, cell_later (cell_later HC3.out.1 HB35.out) h, cell_later (cell_later HC3.out.2 HB35.out) h, cell_later HC5.out.1 h, cell_later HC5.out.2 h, h⟩
            have HBW : Hid (∀ w', Below W5.heap.size W5 w' → Below w.heap.size w w') := fun w' h => (HB1.out.trans (HB15.out.mono HB1.out.size)).trans (h.mono (HB1.out.trans (HB15.out.mono HB1.out.size)).size)
            have CS : Hid (∀ w', Below W5.heap.size W5 w' → Calls Tryz.prog 36 #[.agg #[.slice q1 n1 k1, .slice q2 n2 k2], .agg #[.slice q3 n1 k3, .slice q4 n2 k4]] w' (RetV' (.bool true) w')) := fun w' h => by
              have h25 := HB3.out.trans (HB35.out.mono HB3.out.size)
              have hh := h25.trans (h.mono h25.size)
              have h45 := HB5.out.trans (h.mono HB5.out.size)
              have := sameBox_any _ _ _ _ _ _ _ _ w' (HV1.out.ints.later IntR.lasts hh) (HV2.out.ints.later IntR.lasts hh) (HU1.out.ints.later IntR.lasts h45) (HU2.out.ints.later IntR.lasts h45)
              simpa using this
            clear hb hu1 hu2 C2 d0 d1 d2 d3 hq1 hq2 hq3 hq4 hW3
            go_wp2_with fail
            rw [← hW5]
            clear hW5
            go_region_held3 (fun w' => w'.cell? ⟨w.heap.size, 0, none⟩ = some (.slice a1 al.length c1) ∧ w'.cell? ⟨w.heap.size, 1, none⟩ = some (.slice a2 ah.length c2) ∧ w'.cell? ⟨w2.heap.size, 0, none⟩ = some (.slice q1 n1 k1) ∧ w'.cell? ⟨w2.heap.size, 1, none⟩ = some (.slice q2 n2 k2) ∧ w'.cell? ⟨w4.heap.size, 0, none⟩ = some (.slice q3 n1 k3) ∧ w'.cell? ⟨w4.heap.size, 1, none⟩ = some (.slice q4 n2 k4) ∧ Below W5.heap.size W5 w')
              (first | exact K.out _ (Below.refl _ _).drew | exact K.out _ (by assumption))
              (first
                | (go_at_call 36; refine (CS.out _ (Below.refl _ _).drew).mono ?_; rintro e x1 ⟨rfl, hb⟩; have hb1 : Below W5.heap.size W5 x1 := below_keep (Below.refl _ _).drew hb)
                | (go_at_call 42; refine (C3.out _ (HBW.out _ hb1)).mono ?_; rintro e x2 ⟨rfl, hb'⟩; have hb2 : Below W5.heap.size W5 x2 := below_keep hb1 hb')
                | (go_at_call 43; refine (C4.out _ (HBW.out _ hb2)).mono ?_; rintro e x3 ⟨rfl, hb''⟩; have hb3 : Below W5.heap.size W5 x3 := below_keep hb2 hb'')
                | (go_at_call 15; refine (CW.out _ (HBW.out _ hb3)).mono ?_; rintro e x4 ⟨rfl, hb4'⟩; have hb4 : Below W5.heap.size W5 x4 := below_keep hb3 hb4'))
            have HBE := Lib.hid (HBW.out _ hb4)
            clear hb hb' hb'' hb1 hb2 hb3 hb4 hb4' CS C3 C4 CW
            go_wp2
            go_ret
            exact ⟨rfl, HBE.out⟩
end Go.Proofs.YtpdhlgkcjakcgaaGreatDoor
