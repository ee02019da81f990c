/- ExactRing: the walk. -/
import Derived.Test.YtemhidlaaommaaaGreatDoorL1
namespace Go.Proofs.YtemhidlaaommaaaGreatDoor
open Go.RowKit

theorem ring_big (a b c : Option Addr) (m n k : Nat) (p q r : Nat) (w : World) (hm : Ml w) (h : 12 < m ∨ 12 < n ∨ 12 < k) :
    Calls Tryz.prog 9 #[.slice a m p, .slice b n q, .slice c k r] w (RetV (.bool true) w) := by
  have C := Lib.hid (works_any w hm)
  have h' : 12 < m ∨ (¬ 12 < m ∧ 12 < n) ∨ (¬ 12 < m ∧ ¬ 12 < n ∧ 12 < k) := by omega
  clear h hm
  rcases h' with h1 | ⟨h1, h2⟩ | ⟨h1, h2, h3⟩
  all_goals
    go_enter Tryz.func9, Tryz.ntmps9
    go_wp2_with fail
    refine C.out.mono ?_
    rintro e w1 ⟨rfl, hb⟩
    go_wp2
    go_ret
    exact ⟨rfl, hb⟩

set_option maxHeartbeats 16000000 in
set_option maxRecDepth 100000 in
theorem ring_zero (X Y Z : Rat) (a b c : Option Addr) (m n k : Nat) (p q r : Nat) (w0 : World) (hm : Ml w0) (h1 : m ≤ 12) (h2 : n ≤ 12) (h3 : k ≤ 12) (bX : Bd 1000 X) (bY : Bd 1000 Y) (bZ : Bd 1000 Z)
    (cX : ∀ w, Below w0.heap.size w0 w → Calls Tryz.prog 40 #[.slice a m p] w (RetR X w)) (cY : ∀ w, Below w0.heap.size w0 w → Calls Tryz.prog 40 #[.slice b n q] w (RetR Y w))
    (cZ : ∀ w, Below w0.heap.size w0 w → Calls Tryz.prog 40 #[.slice c k r] w (RetR Z w)) (HY0 : Y = 0) :
    Calls Tryz.prog 9 #[.slice a m p, .slice b n q, .slice c k r] w0 (RetV (.bool true) w0) := by
  have HB0 := Lib.hid (Below.refl w0.heap.size w0)
  have HM := Lib.hid (fun w1 (h : Below w0.heap.size w0 w1) => works_any w1 (hm.later h))
  have HX := Lib.hid cX
  have HYC := Lib.hid cY
  have HZ := Lib.hid cZ
  have bX := Lib.hid bX
  have bY := Lib.hid bY
  have bZ := Lib.hid bZ
  have HS := Lib.hid HY0
  rename_i t1 t2 t3
  clear t1 t2 t3 hm cX cY cZ HY0
  go_enter Tryz.func9, Tryz.ntmps9
  go_wp2_with fail
  refine (HX.out _ HB0.out).mono ?_
  rintro e w1 ⟨v1, rfl, hv1, hb1⟩
  have HB1 := Lib.hid (below_keep HB0.out hb1)
  have Rx_1 := Lib.hid hv1
  obtain ⟨g1, vn1, vd1, hs1, -⟩ := hv1
  subst hs1
  clear hb1
  go_wp2_with fail
  refine (HYC.out _ HB1.out).mono ?_
  rintro e w2 ⟨v2, rfl, hv2, hb2⟩
  have HB2 := Lib.hid (below_keep HB1.out hb2)
  have Rx_2 := Lib.hid (Rx_1.out.later hb2)
  have Ry_2 := Lib.hid hv2
  obtain ⟨g2, vn2, vd2, hs2, -⟩ := hv2
  subst hs2
  clear hb2
  go_wp2_with fail
  refine (HZ.out _ HB2.out).mono ?_
  rintro e w3 ⟨v3, rfl, hv3, hb3⟩
  have HB3 := Lib.hid (below_keep HB2.out hb3)
  have Rx_3 := Lib.hid (Rx_2.out.later hb3)
  have Ry_3 := Lib.hid (Ry_2.out.later hb3)
  have Rz_3 := Lib.hid hv3
  obtain ⟨g3, vn3, vd3, hs3, -⟩ := hv3
  subst hs3
  clear hb3
  go_wp2_with fail
  refine (addR_any Rx_3.out Ry_3.out (bX.out.smR (by omega)) (bY.out.smR (by omega)) (bX.out.smM bY.out (by omega))).mono ?_
  rintro e w4 ⟨v4, rfl, hv4, hb4⟩
  have HB4 := Lib.hid (below_keep HB3.out hb4)
  have Rx_4 := Lib.hid (Rx_3.out.later hb4)
  have Ry_4 := Lib.hid (Ry_3.out.later hb4)
  have Rz_4 := Lib.hid (Rz_3.out.later hb4)
  have Rs_4 := Lib.hid hv4
  obtain ⟨g4, vn4, vd4, hs4, -⟩ := hv4
  subst hs4
  clear hb4
  go_wp2_with fail
  refine (addR_any Ry_4.out Rx_4.out (bY.out.smR (by omega)) (bX.out.smR (by omega)) (bY.out.smM bX.out (by omega))).mono ?_
  rintro e w5 ⟨v5, rfl, hv5, hb5⟩
  have HB5 := Lib.hid (below_keep HB4.out hb5)
  have Rx_5 := Lib.hid (Rx_4.out.later hb5)
  have Ry_5 := Lib.hid (Ry_4.out.later hb5)
  have Rz_5 := Lib.hid (Rz_4.out.later hb5)
  have Rs_5 := Lib.hid (Rs_4.out.later hb5)
  have Rt_5 := Lib.hid hv5
  obtain ⟨g5, vn5, vd5, hs5, -⟩ := hv5
  subst hs5
  clear hb5
  go_wp2_with fail
  refine (equal_yes Rs_5.out ((Rat.add_comm Y X) ▸ Rt_5.out) (bX.out.add bY.out) (by omega)).mono ?_
  rintro e w6 ⟨rfl, hb6⟩
  have HB6 := Lib.hid (below_keep HB5.out hb6)
  have Rx_6 := Lib.hid (Rx_5.out.later hb6)
  have Ry_6 := Lib.hid (Ry_5.out.later hb6)
  have Rz_6 := Lib.hid (Rz_5.out.later hb6)
  clear hb6
  go_wp2_with fail
  refine (mulR_any Rx_6.out Ry_6.out (bX.out.smR (by omega)) (bY.out.smR (by omega)) (bX.out.smM bY.out (by omega))).mono ?_
  rintro e w7 ⟨v7, rfl, hv7, hb7⟩
  have HB7 := Lib.hid (below_keep HB6.out hb7)
  have Rx_7 := Lib.hid (Rx_6.out.later hb7)
  have Ry_7 := Lib.hid (Ry_6.out.later hb7)
  have Rz_7 := Lib.hid (Rz_6.out.later hb7)
  have Rs_7 := Lib.hid hv7
  obtain ⟨g7, vn7, vd7, hs7, -⟩ := hv7
  subst hs7
  clear hb7
  go_wp2_with fail
  refine (mulR_any Ry_7.out Rx_7.out (bY.out.smR (by omega)) (bX.out.smR (by omega)) (bY.out.smM bX.out (by omega))).mono ?_
  rintro e w8 ⟨v8, rfl, hv8, hb8⟩
  have HB8 := Lib.hid (below_keep HB7.out hb8)
  have Rx_8 := Lib.hid (Rx_7.out.later hb8)
  have Ry_8 := Lib.hid (Ry_7.out.later hb8)
  have Rz_8 := Lib.hid (Rz_7.out.later hb8)
  have Rs_8 := Lib.hid (Rs_7.out.later hb8)
  have Rt_8 := Lib.hid hv8
  obtain ⟨g8, vn8, vd8, hs8, -⟩ := hv8
  subst hs8
  clear hb8
  go_wp2_with fail
  refine (equal_yes Rs_8.out ((Rat.mul_comm Y X) ▸ Rt_8.out) (bX.out.mul bY.out) (by omega)).mono ?_
  rintro e w9 ⟨rfl, hb9⟩
  have HB9 := Lib.hid (below_keep HB8.out hb9)
  have Rx_9 := Lib.hid (Rx_8.out.later hb9)
  have Ry_9 := Lib.hid (Ry_8.out.later hb9)
  have Rz_9 := Lib.hid (Rz_8.out.later hb9)
  clear hb9
  go_wp2_with fail
  refine (addR_any Rx_9.out Ry_9.out (bX.out.smR (by omega)) (bY.out.smR (by omega)) (bX.out.smM bY.out (by omega))).mono ?_
  rintro e w10 ⟨v10, rfl, hv10, hb10⟩
  have HB10 := Lib.hid (below_keep HB9.out hb10)
  have Rx_10 := Lib.hid (Rx_9.out.later hb10)
  have Ry_10 := Lib.hid (Ry_9.out.later hb10)
  have Rz_10 := Lib.hid (Rz_9.out.later hb10)
  have Rs_10 := Lib.hid hv10
  obtain ⟨g10, vn10, vd10, hs10, -⟩ := hv10
  subst hs10
  clear hb10
  go_wp2_with fail
  refine (addR_any Rs_10.out Rz_10.out ((bX.out.add bY.out).smR (by omega)) (bZ.out.smR (by omega)) ((bX.out.add bY.out).smM bZ.out (by omega))).mono ?_
  rintro e w11 ⟨v11, rfl, hv11, hb11⟩
  have HB11 := Lib.hid (below_keep HB10.out hb11)
  have Rx_11 := Lib.hid (Rx_10.out.later hb11)
  have Ry_11 := Lib.hid (Ry_10.out.later hb11)
  have Rz_11 := Lib.hid (Rz_10.out.later hb11)
  have Rt_11 := Lib.hid hv11
  obtain ⟨g11, vn11, vd11, hs11, -⟩ := hv11
  subst hs11
  clear hb11
  go_wp2_with fail
  refine (addR_any Ry_11.out Rz_11.out (bY.out.smR (by omega)) (bZ.out.smR (by omega)) (bY.out.smM bZ.out (by omega))).mono ?_
  rintro e w12 ⟨v12, rfl, hv12, hb12⟩
  have HB12 := Lib.hid (below_keep HB11.out hb12)
  have Rx_12 := Lib.hid (Rx_11.out.later hb12)
  have Ry_12 := Lib.hid (Ry_11.out.later hb12)
  have Rz_12 := Lib.hid (Rz_11.out.later hb12)
  have Rt_12 := Lib.hid (Rt_11.out.later hb12)
  have Ru_12 := Lib.hid hv12
  obtain ⟨g12, vn12, vd12, hs12, -⟩ := hv12
  subst hs12
  clear hb12
  go_wp2_with fail
  refine (addR_any Rx_12.out Ru_12.out (bX.out.smR (by omega)) ((bY.out.add bZ.out).smR (by omega)) (bX.out.smM (bY.out.add bZ.out) (by omega))).mono ?_
  rintro e w13 ⟨v13, rfl, hv13, hb13⟩
  have HB13 := Lib.hid (below_keep HB12.out hb13)
  have Rx_13 := Lib.hid (Rx_12.out.later hb13)
  have Ry_13 := Lib.hid (Ry_12.out.later hb13)
  have Rz_13 := Lib.hid (Rz_12.out.later hb13)
  have Rt_13 := Lib.hid (Rt_12.out.later hb13)
  have Rv_13 := Lib.hid hv13
  obtain ⟨g13, vn13, vd13, hs13, -⟩ := hv13
  subst hs13
  clear hb13
  go_wp2_with fail
  refine (equal_yes Rt_13.out ((Rat.add_assoc X Y Z).symm ▸ Rv_13.out) ((bX.out.add bY.out).add bZ.out) (by omega)).mono ?_
  rintro e w14 ⟨rfl, hb14⟩
  have HB14 := Lib.hid (below_keep HB13.out hb14)
  have Rx_14 := Lib.hid (Rx_13.out.later hb14)
  have Ry_14 := Lib.hid (Ry_13.out.later hb14)
  have Rz_14 := Lib.hid (Rz_13.out.later hb14)
  clear hb14
  go_wp2_with fail
  refine (mulR_any Rx_14.out Ry_14.out (bX.out.smR (by omega)) (bY.out.smR (by omega)) (bX.out.smM bY.out (by omega))).mono ?_
  rintro e w15 ⟨v15, rfl, hv15, hb15⟩
  have HB15 := Lib.hid (below_keep HB14.out hb15)
  have Rx_15 := Lib.hid (Rx_14.out.later hb15)
  have Ry_15 := Lib.hid (Ry_14.out.later hb15)
  have Rz_15 := Lib.hid (Rz_14.out.later hb15)
  have Rs_15 := Lib.hid hv15
  obtain ⟨g15, vn15, vd15, hs15, -⟩ := hv15
  subst hs15
  clear hb15
  go_wp2_with fail
  refine (mulR_any Rs_15.out Rz_15.out ((bX.out.mul bY.out).smR (by omega)) (bZ.out.smR (by omega)) ((bX.out.mul bY.out).smM bZ.out (by omega))).mono ?_
  rintro e w16 ⟨v16, rfl, hv16, hb16⟩
  have HB16 := Lib.hid (below_keep HB15.out hb16)
  have Rx_16 := Lib.hid (Rx_15.out.later hb16)
  have Ry_16 := Lib.hid (Ry_15.out.later hb16)
  have Rz_16 := Lib.hid (Rz_15.out.later hb16)
  have Rt_16 := Lib.hid hv16
  obtain ⟨g16, vn16, vd16, hs16, -⟩ := hv16
  subst hs16
  clear hb16
  go_wp2_with fail
  refine (mulR_any Ry_16.out Rz_16.out (bY.out.smR (by omega)) (bZ.out.smR (by omega)) (bY.out.smM bZ.out (by omega))).mono ?_
  rintro e w17 ⟨v17, rfl, hv17, hb17⟩
  have HB17 := Lib.hid (below_keep HB16.out hb17)
  have Rx_17 := Lib.hid (Rx_16.out.later hb17)
  have Ry_17 := Lib.hid (Ry_16.out.later hb17)
  have Rz_17 := Lib.hid (Rz_16.out.later hb17)
  have Rt_17 := Lib.hid (Rt_16.out.later hb17)
  have Ru_17 := Lib.hid hv17
  obtain ⟨g17, vn17, vd17, hs17, -⟩ := hv17
  subst hs17
  clear hb17
  go_wp2_with fail
  refine (mulR_any Rx_17.out Ru_17.out (bX.out.smR (by omega)) ((bY.out.mul bZ.out).smR (by omega)) (bX.out.smM (bY.out.mul bZ.out) (by omega))).mono ?_
  rintro e w18 ⟨v18, rfl, hv18, hb18⟩
  have HB18 := Lib.hid (below_keep HB17.out hb18)
  have Rx_18 := Lib.hid (Rx_17.out.later hb18)
  have Ry_18 := Lib.hid (Ry_17.out.later hb18)
  have Rz_18 := Lib.hid (Rz_17.out.later hb18)
  have Rt_18 := Lib.hid (Rt_17.out.later hb18)
  have Rv_18 := Lib.hid hv18
  obtain ⟨g18, vn18, vd18, hs18, -⟩ := hv18
  subst hs18
  clear hb18
  go_wp2_with fail
  refine (equal_yes Rt_18.out ((Rat.mul_assoc X Y Z).symm ▸ Rv_18.out) ((bX.out.mul bY.out).mul bZ.out) (by omega)).mono ?_
  rintro e w19 ⟨rfl, hb19⟩
  have HB19 := Lib.hid (below_keep HB18.out hb19)
  have Rx_19 := Lib.hid (Rx_18.out.later hb19)
  have Ry_19 := Lib.hid (Ry_18.out.later hb19)
  have Rz_19 := Lib.hid (Rz_18.out.later hb19)
  clear hb19
  go_wp2_with fail
  refine (addR_any Ry_19.out Rz_19.out (bY.out.smR (by omega)) (bZ.out.smR (by omega)) (bY.out.smM bZ.out (by omega))).mono ?_
  rintro e w20 ⟨v20, rfl, hv20, hb20⟩
  have HB20 := Lib.hid (below_keep HB19.out hb20)
  have Rx_20 := Lib.hid (Rx_19.out.later hb20)
  have Ry_20 := Lib.hid (Ry_19.out.later hb20)
  have Rz_20 := Lib.hid (Rz_19.out.later hb20)
  have Rs_20 := Lib.hid hv20
  obtain ⟨g20, vn20, vd20, hs20, -⟩ := hv20
  subst hs20
  clear hb20
  go_wp2_with fail
  refine (mulR_any Rx_20.out Rs_20.out (bX.out.smR (by omega)) ((bY.out.add bZ.out).smR (by omega)) (bX.out.smM (bY.out.add bZ.out) (by omega))).mono ?_
  rintro e w21 ⟨v21, rfl, hv21, hb21⟩
  have HB21 := Lib.hid (below_keep HB20.out hb21)
  have Rx_21 := Lib.hid (Rx_20.out.later hb21)
  have Ry_21 := Lib.hid (Ry_20.out.later hb21)
  have Rz_21 := Lib.hid (Rz_20.out.later hb21)
  have Rt_21 := Lib.hid hv21
  obtain ⟨g21, vn21, vd21, hs21, -⟩ := hv21
  subst hs21
  clear hb21
  go_wp2_with fail
  refine (mulR_any Rx_21.out Ry_21.out (bX.out.smR (by omega)) (bY.out.smR (by omega)) (bX.out.smM bY.out (by omega))).mono ?_
  rintro e w22 ⟨v22, rfl, hv22, hb22⟩
  have HB22 := Lib.hid (below_keep HB21.out hb22)
  have Rx_22 := Lib.hid (Rx_21.out.later hb22)
  have Ry_22 := Lib.hid (Ry_21.out.later hb22)
  have Rz_22 := Lib.hid (Rz_21.out.later hb22)
  have Rt_22 := Lib.hid (Rt_21.out.later hb22)
  have Ru_22 := Lib.hid hv22
  obtain ⟨g22, vn22, vd22, hs22, -⟩ := hv22
  subst hs22
  clear hb22
  go_wp2_with fail
  refine (mulR_any Rx_22.out Rz_22.out (bX.out.smR (by omega)) (bZ.out.smR (by omega)) (bX.out.smM bZ.out (by omega))).mono ?_
  rintro e w23 ⟨v23, rfl, hv23, hb23⟩
  have HB23 := Lib.hid (below_keep HB22.out hb23)
  have Rx_23 := Lib.hid (Rx_22.out.later hb23)
  have Ry_23 := Lib.hid (Ry_22.out.later hb23)
  have Rz_23 := Lib.hid (Rz_22.out.later hb23)
  have Rt_23 := Lib.hid (Rt_22.out.later hb23)
  have Ru_23 := Lib.hid (Ru_22.out.later hb23)
  have Rv_23 := Lib.hid hv23
  obtain ⟨g23, vn23, vd23, hs23, -⟩ := hv23
  subst hs23
  clear hb23
  go_wp2_with fail
  refine (addR_any Ru_23.out Rv_23.out ((bX.out.mul bY.out).smR (by omega)) ((bX.out.mul bZ.out).smR (by omega)) ((bX.out.mul bY.out).smM (bX.out.mul bZ.out) (by omega))).mono ?_
  rintro e w24 ⟨v24, rfl, hv24, hb24⟩
  have HB24 := Lib.hid (below_keep HB23.out hb24)
  have Rx_24 := Lib.hid (Rx_23.out.later hb24)
  have Ry_24 := Lib.hid (Ry_23.out.later hb24)
  have Rz_24 := Lib.hid (Rz_23.out.later hb24)
  have Rt_24 := Lib.hid (Rt_23.out.later hb24)
  have Rq_24 := Lib.hid hv24
  obtain ⟨g24, vn24, vd24, hs24, -⟩ := hv24
  subst hs24
  clear hb24
  go_wp2_with fail
  refine (equal_yes Rt_24.out ((Rat.mul_add X Y Z).symm ▸ Rq_24.out) (bX.out.mul (bY.out.add bZ.out)) (by omega)).mono ?_
  rintro e w25 ⟨rfl, hb25⟩
  have HB25 := Lib.hid (below_keep HB24.out hb25)
  have Rx_25 := Lib.hid (Rx_24.out.later hb25)
  have Ry_25 := Lib.hid (Ry_24.out.later hb25)
  have Rz_25 := Lib.hid (Rz_24.out.later hb25)
  clear hb25
  go_wp2_with fail
  refine (addR_any Rx_25.out Ry_25.out (bX.out.smR (by omega)) (bY.out.smR (by omega)) (bX.out.smM bY.out (by omega))).mono ?_
  rintro e w26 ⟨v26, rfl, hv26, hb26⟩
  have HB26 := Lib.hid (below_keep HB25.out hb26)
  have Rx_26 := Lib.hid (Rx_25.out.later hb26)
  have Ry_26 := Lib.hid (Ry_25.out.later hb26)
  have Rz_26 := Lib.hid (Rz_25.out.later hb26)
  have Rs_26 := Lib.hid hv26
  obtain ⟨g26, vn26, vd26, hs26, -⟩ := hv26
  subst hs26
  clear hb26
  go_wp2_with fail
  refine (subR_any Rs_26.out Ry_26.out ((bX.out.add bY.out).smR (by omega)) (bY.out.smR (by omega)) ((bX.out.add bY.out).smM bY.out (by omega))).mono ?_
  rintro e w27 ⟨v27, rfl, hv27, hb27⟩
  have HB27 := Lib.hid (below_keep HB26.out hb27)
  have Rx_27 := Lib.hid (Rx_26.out.later hb27)
  have Ry_27 := Lib.hid (Ry_26.out.later hb27)
  have Rz_27 := Lib.hid (Rz_26.out.later hb27)
  have Rt_27 := Lib.hid hv27
  obtain ⟨g27, vn27, vd27, hs27, -⟩ := hv27
  subst hs27
  clear hb27
  go_wp2_with fail
  refine (equal_yes ((Rat.add_sub_cancel (a := X) (b := Y)) ▸ Rt_27.out) Rx_27.out bX.out (by omega)).mono ?_
  rintro e w28 ⟨rfl, hb28⟩
  have HB28 := Lib.hid (below_keep HB27.out hb28)
  have Rx_28 := Lib.hid (Rx_27.out.later hb28)
  have Ry_28 := Lib.hid (Ry_27.out.later hb28)
  have Rz_28 := Lib.hid (Rz_27.out.later hb28)
  clear hb28
  go_wp2_with fail
  refine (mulR_any Rx_28.out Ry_28.out (bX.out.smR (by omega)) (bY.out.smR (by omega)) (bX.out.smM bY.out (by omega))).mono ?_
  rintro e w29 ⟨v29, rfl, hv29, hb29⟩
  have HB29 := Lib.hid (below_keep HB28.out hb29)
  have Rx_29 := Lib.hid (Rx_28.out.later hb29)
  have Ry_29 := Lib.hid (Ry_28.out.later hb29)
  have Rz_29 := Lib.hid (Rz_28.out.later hb29)
  have Rs_29 := Lib.hid hv29
  obtain ⟨g29, vn29, vd29, hs29, -⟩ := hv29
  subst hs29
  clear hb29
  go_wp2_with fail
  refine (quoR_zero Rs_29.out (HS.out ▸ Ry_29.out)).mono ?_
  rintro e w' ⟨rfl, rfl⟩
  have hsg := sign_any Ry_29.out
  rw [HS.out, show sgnQ 0 = 0 from rfl] at hsg
  have HSG := Lib.hid hsg
  clear hsg
  go_wp2_with fail
  refine HSG.out.mono ?_
  rintro e w' ⟨rfl, rfl⟩
  go_wp2_with fail
  refine (HM.out _ HB29.out).mono ?_
  rintro e w30 ⟨rfl, hb30⟩
  have HB30 := Lib.hid (below_keep HB29.out hb30)
  have Rx_30 := Lib.hid (Rx_29.out.later hb30)
  have Ry_30 := Lib.hid (Ry_29.out.later hb30)
  have Rz_30 := Lib.hid (Rz_29.out.later hb30)
  have Rs_30 := Lib.hid (Rs_29.out.later hb30)
  clear hb30
  go_wp2
  go_ret
  exact ⟨rfl, HB30.out⟩

set_option maxHeartbeats 16000000 in
set_option maxRecDepth 100000 in
theorem ring_small (X Y Z : Rat) (a b c : Option Addr) (m n k : Nat) (p q r : Nat) (w0 : World) (hm : Ml w0) (h1 : m ≤ 12) (h2 : n ≤ 12) (h3 : k ≤ 12) (bX : Bd 1000 X) (bY : Bd 1000 Y) (bZ : Bd 1000 Z)
    (cX : ∀ w, Below w0.heap.size w0 w → Calls Tryz.prog 40 #[.slice a m p] w (RetR X w)) (cY : ∀ w, Below w0.heap.size w0 w → Calls Tryz.prog 40 #[.slice b n q] w (RetR Y w))
    (cZ : ∀ w, Below w0.heap.size w0 w → Calls Tryz.prog 40 #[.slice c k r] w (RetR Z w)) (HY0 : Y ≠ 0) :
    Calls Tryz.prog 9 #[.slice a m p, .slice b n q, .slice c k r] w0 (RetV (.bool true) w0) := by
  have HB0 := Lib.hid (Below.refl w0.heap.size w0)
  have HM := Lib.hid (fun w1 (h : Below w0.heap.size w0 w1) => works_any w1 (hm.later h))
  have HX := Lib.hid cX
  have HYC := Lib.hid cY
  have HZ := Lib.hid cZ
  have bX := Lib.hid bX
  have bY := Lib.hid bY
  have bZ := Lib.hid bZ
  have HS := Lib.hid HY0
  rename_i t1 t2 t3
  clear t1 t2 t3 hm cX cY cZ HY0
  go_enter Tryz.func9, Tryz.ntmps9
  go_wp2_with fail
  refine (HX.out _ HB0.out).mono ?_
  rintro e w1 ⟨v1, rfl, hv1, hb1⟩
  have HB1 := Lib.hid (below_keep HB0.out hb1)
  have Rx_1 := Lib.hid hv1
  obtain ⟨g1, vn1, vd1, hs1, -⟩ := hv1
  subst hs1
  clear hb1
  go_wp2_with fail
  refine (HYC.out _ HB1.out).mono ?_
  rintro e w2 ⟨v2, rfl, hv2, hb2⟩
  have HB2 := Lib.hid (below_keep HB1.out hb2)
  have Rx_2 := Lib.hid (Rx_1.out.later hb2)
  have Ry_2 := Lib.hid hv2
  obtain ⟨g2, vn2, vd2, hs2, -⟩ := hv2
  subst hs2
  clear hb2
  go_wp2_with fail
  refine (HZ.out _ HB2.out).mono ?_
  rintro e w3 ⟨v3, rfl, hv3, hb3⟩
  have HB3 := Lib.hid (below_keep HB2.out hb3)
  have Rx_3 := Lib.hid (Rx_2.out.later hb3)
  have Ry_3 := Lib.hid (Ry_2.out.later hb3)
  have Rz_3 := Lib.hid hv3
  obtain ⟨g3, vn3, vd3, hs3, -⟩ := hv3
  subst hs3
  clear hb3
  go_wp2_with fail
  refine (addR_any Rx_3.out Ry_3.out (bX.out.smR (by omega)) (bY.out.smR (by omega)) (bX.out.smM bY.out (by omega))).mono ?_
  rintro e w4 ⟨v4, rfl, hv4, hb4⟩
  have HB4 := Lib.hid (below_keep HB3.out hb4)
  have Rx_4 := Lib.hid (Rx_3.out.later hb4)
  have Ry_4 := Lib.hid (Ry_3.out.later hb4)
  have Rz_4 := Lib.hid (Rz_3.out.later hb4)
  have Rs_4 := Lib.hid hv4
  obtain ⟨g4, vn4, vd4, hs4, -⟩ := hv4
  subst hs4
  clear hb4
  go_wp2_with fail
  refine (addR_any Ry_4.out Rx_4.out (bY.out.smR (by omega)) (bX.out.smR (by omega)) (bY.out.smM bX.out (by omega))).mono ?_
  rintro e w5 ⟨v5, rfl, hv5, hb5⟩
  have HB5 := Lib.hid (below_keep HB4.out hb5)
  have Rx_5 := Lib.hid (Rx_4.out.later hb5)
  have Ry_5 := Lib.hid (Ry_4.out.later hb5)
  have Rz_5 := Lib.hid (Rz_4.out.later hb5)
  have Rs_5 := Lib.hid (Rs_4.out.later hb5)
  have Rt_5 := Lib.hid hv5
  obtain ⟨g5, vn5, vd5, hs5, -⟩ := hv5
  subst hs5
  clear hb5
  go_wp2_with fail
  refine (equal_yes Rs_5.out ((Rat.add_comm Y X) ▸ Rt_5.out) (bX.out.add bY.out) (by omega)).mono ?_
  rintro e w6 ⟨rfl, hb6⟩
  have HB6 := Lib.hid (below_keep HB5.out hb6)
  have Rx_6 := Lib.hid (Rx_5.out.later hb6)
  have Ry_6 := Lib.hid (Ry_5.out.later hb6)
  have Rz_6 := Lib.hid (Rz_5.out.later hb6)
  clear hb6
  go_wp2_with fail
  refine (mulR_any Rx_6.out Ry_6.out (bX.out.smR (by omega)) (bY.out.smR (by omega)) (bX.out.smM bY.out (by omega))).mono ?_
  rintro e w7 ⟨v7, rfl, hv7, hb7⟩
  have HB7 := Lib.hid (below_keep HB6.out hb7)
  have Rx_7 := Lib.hid (Rx_6.out.later hb7)
  have Ry_7 := Lib.hid (Ry_6.out.later hb7)
  have Rz_7 := Lib.hid (Rz_6.out.later hb7)
  have Rs_7 := Lib.hid hv7
  obtain ⟨g7, vn7, vd7, hs7, -⟩ := hv7
  subst hs7
  clear hb7
  go_wp2_with fail
  refine (mulR_any Ry_7.out Rx_7.out (bY.out.smR (by omega)) (bX.out.smR (by omega)) (bY.out.smM bX.out (by omega))).mono ?_
  rintro e w8 ⟨v8, rfl, hv8, hb8⟩
  have HB8 := Lib.hid (below_keep HB7.out hb8)
  have Rx_8 := Lib.hid (Rx_7.out.later hb8)
  have Ry_8 := Lib.hid (Ry_7.out.later hb8)
  have Rz_8 := Lib.hid (Rz_7.out.later hb8)
  have Rs_8 := Lib.hid (Rs_7.out.later hb8)
  have Rt_8 := Lib.hid hv8
  obtain ⟨g8, vn8, vd8, hs8, -⟩ := hv8
  subst hs8
  clear hb8
  go_wp2_with fail
  refine (equal_yes Rs_8.out ((Rat.mul_comm Y X) ▸ Rt_8.out) (bX.out.mul bY.out) (by omega)).mono ?_
  rintro e w9 ⟨rfl, hb9⟩
  have HB9 := Lib.hid (below_keep HB8.out hb9)
  have Rx_9 := Lib.hid (Rx_8.out.later hb9)
  have Ry_9 := Lib.hid (Ry_8.out.later hb9)
  have Rz_9 := Lib.hid (Rz_8.out.later hb9)
  clear hb9
  go_wp2_with fail
  refine (addR_any Rx_9.out Ry_9.out (bX.out.smR (by omega)) (bY.out.smR (by omega)) (bX.out.smM bY.out (by omega))).mono ?_
  rintro e w10 ⟨v10, rfl, hv10, hb10⟩
  have HB10 := Lib.hid (below_keep HB9.out hb10)
  have Rx_10 := Lib.hid (Rx_9.out.later hb10)
  have Ry_10 := Lib.hid (Ry_9.out.later hb10)
  have Rz_10 := Lib.hid (Rz_9.out.later hb10)
  have Rs_10 := Lib.hid hv10
  obtain ⟨g10, vn10, vd10, hs10, -⟩ := hv10
  subst hs10
  clear hb10
  go_wp2_with fail
  refine (addR_any Rs_10.out Rz_10.out ((bX.out.add bY.out).smR (by omega)) (bZ.out.smR (by omega)) ((bX.out.add bY.out).smM bZ.out (by omega))).mono ?_
  rintro e w11 ⟨v11, rfl, hv11, hb11⟩
  have HB11 := Lib.hid (below_keep HB10.out hb11)
  have Rx_11 := Lib.hid (Rx_10.out.later hb11)
  have Ry_11 := Lib.hid (Ry_10.out.later hb11)
  have Rz_11 := Lib.hid (Rz_10.out.later hb11)
  have Rt_11 := Lib.hid hv11
  obtain ⟨g11, vn11, vd11, hs11, -⟩ := hv11
  subst hs11
  clear hb11
  go_wp2_with fail
  refine (addR_any Ry_11.out Rz_11.out (bY.out.smR (by omega)) (bZ.out.smR (by omega)) (bY.out.smM bZ.out (by omega))).mono ?_
  rintro e w12 ⟨v12, rfl, hv12, hb12⟩
  have HB12 := Lib.hid (below_keep HB11.out hb12)
  have Rx_12 := Lib.hid (Rx_11.out.later hb12)
  have Ry_12 := Lib.hid (Ry_11.out.later hb12)
  have Rz_12 := Lib.hid (Rz_11.out.later hb12)
  have Rt_12 := Lib.hid (Rt_11.out.later hb12)
  have Ru_12 := Lib.hid hv12
  obtain ⟨g12, vn12, vd12, hs12, -⟩ := hv12
  subst hs12
  clear hb12
  go_wp2_with fail
  refine (addR_any Rx_12.out Ru_12.out (bX.out.smR (by omega)) ((bY.out.add bZ.out).smR (by omega)) (bX.out.smM (bY.out.add bZ.out) (by omega))).mono ?_
  rintro e w13 ⟨v13, rfl, hv13, hb13⟩
  have HB13 := Lib.hid (below_keep HB12.out hb13)
  have Rx_13 := Lib.hid (Rx_12.out.later hb13)
  have Ry_13 := Lib.hid (Ry_12.out.later hb13)
  have Rz_13 := Lib.hid (Rz_12.out.later hb13)
  have Rt_13 := Lib.hid (Rt_12.out.later hb13)
  have Rv_13 := Lib.hid hv13
  obtain ⟨g13, vn13, vd13, hs13, -⟩ := hv13
  subst hs13
  clear hb13
  go_wp2_with fail
  refine (equal_yes Rt_13.out ((Rat.add_assoc X Y Z).symm ▸ Rv_13.out) ((bX.out.add bY.out).add bZ.out) (by omega)).mono ?_
  rintro e w14 ⟨rfl, hb14⟩
  have HB14 := Lib.hid (below_keep HB13.out hb14)
  have Rx_14 := Lib.hid (Rx_13.out.later hb14)
  have Ry_14 := Lib.hid (Ry_13.out.later hb14)
  have Rz_14 := Lib.hid (Rz_13.out.later hb14)
  clear hb14
  go_wp2_with fail
  refine (mulR_any Rx_14.out Ry_14.out (bX.out.smR (by omega)) (bY.out.smR (by omega)) (bX.out.smM bY.out (by omega))).mono ?_
  rintro e w15 ⟨v15, rfl, hv15, hb15⟩
  have HB15 := Lib.hid (below_keep HB14.out hb15)
  have Rx_15 := Lib.hid (Rx_14.out.later hb15)
  have Ry_15 := Lib.hid (Ry_14.out.later hb15)
  have Rz_15 := Lib.hid (Rz_14.out.later hb15)
  have Rs_15 := Lib.hid hv15
  obtain ⟨g15, vn15, vd15, hs15, -⟩ := hv15
  subst hs15
  clear hb15
  go_wp2_with fail
  refine (mulR_any Rs_15.out Rz_15.out ((bX.out.mul bY.out).smR (by omega)) (bZ.out.smR (by omega)) ((bX.out.mul bY.out).smM bZ.out (by omega))).mono ?_
  rintro e w16 ⟨v16, rfl, hv16, hb16⟩
  have HB16 := Lib.hid (below_keep HB15.out hb16)
  have Rx_16 := Lib.hid (Rx_15.out.later hb16)
  have Ry_16 := Lib.hid (Ry_15.out.later hb16)
  have Rz_16 := Lib.hid (Rz_15.out.later hb16)
  have Rt_16 := Lib.hid hv16
  obtain ⟨g16, vn16, vd16, hs16, -⟩ := hv16
  subst hs16
  clear hb16
  go_wp2_with fail
  refine (mulR_any Ry_16.out Rz_16.out (bY.out.smR (by omega)) (bZ.out.smR (by omega)) (bY.out.smM bZ.out (by omega))).mono ?_
  rintro e w17 ⟨v17, rfl, hv17, hb17⟩
  have HB17 := Lib.hid (below_keep HB16.out hb17)
  have Rx_17 := Lib.hid (Rx_16.out.later hb17)
  have Ry_17 := Lib.hid (Ry_16.out.later hb17)
  have Rz_17 := Lib.hid (Rz_16.out.later hb17)
  have Rt_17 := Lib.hid (Rt_16.out.later hb17)
  have Ru_17 := Lib.hid hv17
  obtain ⟨g17, vn17, vd17, hs17, -⟩ := hv17
  subst hs17
  clear hb17
  go_wp2_with fail
  refine (mulR_any Rx_17.out Ru_17.out (bX.out.smR (by omega)) ((bY.out.mul bZ.out).smR (by omega)) (bX.out.smM (bY.out.mul bZ.out) (by omega))).mono ?_
  rintro e w18 ⟨v18, rfl, hv18, hb18⟩
  have HB18 := Lib.hid (below_keep HB17.out hb18)
  have Rx_18 := Lib.hid (Rx_17.out.later hb18)
  have Ry_18 := Lib.hid (Ry_17.out.later hb18)
  have Rz_18 := Lib.hid (Rz_17.out.later hb18)
  have Rt_18 := Lib.hid (Rt_17.out.later hb18)
  have Rv_18 := Lib.hid hv18
  obtain ⟨g18, vn18, vd18, hs18, -⟩ := hv18
  subst hs18
  clear hb18
  go_wp2_with fail
  refine (equal_yes Rt_18.out ((Rat.mul_assoc X Y Z).symm ▸ Rv_18.out) ((bX.out.mul bY.out).mul bZ.out) (by omega)).mono ?_
  rintro e w19 ⟨rfl, hb19⟩
  have HB19 := Lib.hid (below_keep HB18.out hb19)
  have Rx_19 := Lib.hid (Rx_18.out.later hb19)
  have Ry_19 := Lib.hid (Ry_18.out.later hb19)
  have Rz_19 := Lib.hid (Rz_18.out.later hb19)
  clear hb19
  go_wp2_with fail
  refine (addR_any Ry_19.out Rz_19.out (bY.out.smR (by omega)) (bZ.out.smR (by omega)) (bY.out.smM bZ.out (by omega))).mono ?_
  rintro e w20 ⟨v20, rfl, hv20, hb20⟩
  have HB20 := Lib.hid (below_keep HB19.out hb20)
  have Rx_20 := Lib.hid (Rx_19.out.later hb20)
  have Ry_20 := Lib.hid (Ry_19.out.later hb20)
  have Rz_20 := Lib.hid (Rz_19.out.later hb20)
  have Rs_20 := Lib.hid hv20
  obtain ⟨g20, vn20, vd20, hs20, -⟩ := hv20
  subst hs20
  clear hb20
  go_wp2_with fail
  refine (mulR_any Rx_20.out Rs_20.out (bX.out.smR (by omega)) ((bY.out.add bZ.out).smR (by omega)) (bX.out.smM (bY.out.add bZ.out) (by omega))).mono ?_
  rintro e w21 ⟨v21, rfl, hv21, hb21⟩
  have HB21 := Lib.hid (below_keep HB20.out hb21)
  have Rx_21 := Lib.hid (Rx_20.out.later hb21)
  have Ry_21 := Lib.hid (Ry_20.out.later hb21)
  have Rz_21 := Lib.hid (Rz_20.out.later hb21)
  have Rt_21 := Lib.hid hv21
  obtain ⟨g21, vn21, vd21, hs21, -⟩ := hv21
  subst hs21
  clear hb21
  go_wp2_with fail
  refine (mulR_any Rx_21.out Ry_21.out (bX.out.smR (by omega)) (bY.out.smR (by omega)) (bX.out.smM bY.out (by omega))).mono ?_
  rintro e w22 ⟨v22, rfl, hv22, hb22⟩
  have HB22 := Lib.hid (below_keep HB21.out hb22)
  have Rx_22 := Lib.hid (Rx_21.out.later hb22)
  have Ry_22 := Lib.hid (Ry_21.out.later hb22)
  have Rz_22 := Lib.hid (Rz_21.out.later hb22)
  have Rt_22 := Lib.hid (Rt_21.out.later hb22)
  have Ru_22 := Lib.hid hv22
  obtain ⟨g22, vn22, vd22, hs22, -⟩ := hv22
  subst hs22
  clear hb22
  go_wp2_with fail
  refine (mulR_any Rx_22.out Rz_22.out (bX.out.smR (by omega)) (bZ.out.smR (by omega)) (bX.out.smM bZ.out (by omega))).mono ?_
  rintro e w23 ⟨v23, rfl, hv23, hb23⟩
  have HB23 := Lib.hid (below_keep HB22.out hb23)
  have Rx_23 := Lib.hid (Rx_22.out.later hb23)
  have Ry_23 := Lib.hid (Ry_22.out.later hb23)
  have Rz_23 := Lib.hid (Rz_22.out.later hb23)
  have Rt_23 := Lib.hid (Rt_22.out.later hb23)
  have Ru_23 := Lib.hid (Ru_22.out.later hb23)
  have Rv_23 := Lib.hid hv23
  obtain ⟨g23, vn23, vd23, hs23, -⟩ := hv23
  subst hs23
  clear hb23
  go_wp2_with fail
  refine (addR_any Ru_23.out Rv_23.out ((bX.out.mul bY.out).smR (by omega)) ((bX.out.mul bZ.out).smR (by omega)) ((bX.out.mul bY.out).smM (bX.out.mul bZ.out) (by omega))).mono ?_
  rintro e w24 ⟨v24, rfl, hv24, hb24⟩
  have HB24 := Lib.hid (below_keep HB23.out hb24)
  have Rx_24 := Lib.hid (Rx_23.out.later hb24)
  have Ry_24 := Lib.hid (Ry_23.out.later hb24)
  have Rz_24 := Lib.hid (Rz_23.out.later hb24)
  have Rt_24 := Lib.hid (Rt_23.out.later hb24)
  have Rq_24 := Lib.hid hv24
  obtain ⟨g24, vn24, vd24, hs24, -⟩ := hv24
  subst hs24
  clear hb24
  go_wp2_with fail
  refine (equal_yes Rt_24.out ((Rat.mul_add X Y Z).symm ▸ Rq_24.out) (bX.out.mul (bY.out.add bZ.out)) (by omega)).mono ?_
  rintro e w25 ⟨rfl, hb25⟩
  have HB25 := Lib.hid (below_keep HB24.out hb25)
  have Rx_25 := Lib.hid (Rx_24.out.later hb25)
  have Ry_25 := Lib.hid (Ry_24.out.later hb25)
  have Rz_25 := Lib.hid (Rz_24.out.later hb25)
  clear hb25
  go_wp2_with fail
  refine (addR_any Rx_25.out Ry_25.out (bX.out.smR (by omega)) (bY.out.smR (by omega)) (bX.out.smM bY.out (by omega))).mono ?_
  rintro e w26 ⟨v26, rfl, hv26, hb26⟩
  have HB26 := Lib.hid (below_keep HB25.out hb26)
  have Rx_26 := Lib.hid (Rx_25.out.later hb26)
  have Ry_26 := Lib.hid (Ry_25.out.later hb26)
  have Rz_26 := Lib.hid (Rz_25.out.later hb26)
  have Rs_26 := Lib.hid hv26
  obtain ⟨g26, vn26, vd26, hs26, -⟩ := hv26
  subst hs26
  clear hb26
  go_wp2_with fail
  refine (subR_any Rs_26.out Ry_26.out ((bX.out.add bY.out).smR (by omega)) (bY.out.smR (by omega)) ((bX.out.add bY.out).smM bY.out (by omega))).mono ?_
  rintro e w27 ⟨v27, rfl, hv27, hb27⟩
  have HB27 := Lib.hid (below_keep HB26.out hb27)
  have Rx_27 := Lib.hid (Rx_26.out.later hb27)
  have Ry_27 := Lib.hid (Ry_26.out.later hb27)
  have Rz_27 := Lib.hid (Rz_26.out.later hb27)
  have Rt_27 := Lib.hid hv27
  obtain ⟨g27, vn27, vd27, hs27, -⟩ := hv27
  subst hs27
  clear hb27
  go_wp2_with fail
  refine (equal_yes ((Rat.add_sub_cancel (a := X) (b := Y)) ▸ Rt_27.out) Rx_27.out bX.out (by omega)).mono ?_
  rintro e w28 ⟨rfl, hb28⟩
  have HB28 := Lib.hid (below_keep HB27.out hb28)
  have Rx_28 := Lib.hid (Rx_27.out.later hb28)
  have Ry_28 := Lib.hid (Ry_27.out.later hb28)
  have Rz_28 := Lib.hid (Rz_27.out.later hb28)
  clear hb28
  go_wp2_with fail
  refine (mulR_any Rx_28.out Ry_28.out (bX.out.smR (by omega)) (bY.out.smR (by omega)) (bX.out.smM bY.out (by omega))).mono ?_
  rintro e w29 ⟨v29, rfl, hv29, hb29⟩
  have HB29 := Lib.hid (below_keep HB28.out hb29)
  have Rx_29 := Lib.hid (Rx_28.out.later hb29)
  have Ry_29 := Lib.hid (Ry_28.out.later hb29)
  have Rz_29 := Lib.hid (Rz_28.out.later hb29)
  have Rs_29 := Lib.hid hv29
  obtain ⟨g29, vn29, vd29, hs29, -⟩ := hv29
  subst hs29
  clear hb29
  go_wp2_with fail
  refine (quoR_any Rs_29.out Ry_29.out ((bX.out.mul bY.out).smR (by omega)) (bY.out.smR (by omega)) ((bX.out.mul bY.out).smM bY.out (by omega)) HS.out).mono ?_
  rintro e w30 ⟨v30, rfl, hv30, hb30⟩
  have HB30 := Lib.hid (below_keep HB29.out hb30)
  have Rx_30 := Lib.hid (Rx_29.out.later hb30)
  have Ry_30 := Lib.hid (Ry_29.out.later hb30)
  have Rz_30 := Lib.hid (Rz_29.out.later hb30)
  have RQ_30 := Lib.hid hv30
  obtain ⟨g30, vn30, vd30, hs30, -⟩ := hv30
  subst hs30
  clear hb30
  have hsg := sign_any Ry_30.out
  obtain ⟨S, hS⟩ : ∃ S, sgnQ Y = S := ⟨_, rfl⟩
  have hS0 : (S == 0) = false := by rw [beq_eq_false_iff_ne, ← hS]; exact fun h => HS.out ((sgnQ_zero Y).1 h)
  rw [hS] at hsg
  have HSG := Lib.hid hsg
  clear hsg hS
  go_wp2_with fail
  refine HSG.out.mono ?_
  rintro e w' ⟨rfl, rfl⟩
  go_wp2_with fail
  refine (equal_yes ((Rat.mul_div_cancel (a := X) (b := Y) HS.out) ▸ RQ_30.out) Rx_30.out bX.out (by omega)).mono ?_
  rintro e w31 ⟨rfl, hb31⟩
  have HB31 := Lib.hid (below_keep HB30.out hb31)
  have Rx_31 := Lib.hid (Rx_30.out.later hb31)
  have Ry_31 := Lib.hid (Ry_30.out.later hb31)
  have Rz_31 := Lib.hid (Rz_30.out.later hb31)
  clear hb31
  go_wp2_with fail
  refine (HM.out _ HB31.out).mono ?_
  rintro e w32 ⟨rfl, hb32⟩
  have HB32 := Lib.hid (below_keep HB31.out hb32)
  have Rx_32 := Lib.hid (Rx_31.out.later hb32)
  have Ry_32 := Lib.hid (Ry_31.out.later hb32)
  have Rz_32 := Lib.hid (Rz_31.out.later hb32)
  clear hb32
  go_wp2
  go_ret
  exact ⟨rfl, HB32.out⟩
end Go.Proofs.YtemhidlaaommaaaGreatDoor
