/- ExactOrders: the walk. -/
import Derived.Test.YtemhidlaaommaaaGreatDoorL1
namespace Go.Proofs.YtemhidlaaommaaaGreatDoor
open Go.RowKit

theorem quoQ_one : quoQ 1 1 = 1 := by decide
theorem orders_big (a b c : Option Addr) (m n k : Nat) (p q r : Nat) (w : World) (hm : Ml w) (h : 12 < m ∨ 12 < n ∨ 12 < k) :
    Calls Tryz.prog 10 #[.slice a m p, .slice b n q, .slice c k r] w (RetV (.bool true) w) := by
  have C := Lib.hid (works_any w hm)
  have h' : 12 < m ∨ (¬ 12 < m ∧ 12 < n) ∨ (¬ 12 < m ∧ ¬ 12 < n ∧ 12 < k) := by omega
  clear h hm
  rcases h' with h1 | ⟨h1, h2⟩ | ⟨h1, h2, h3⟩
  all_goals
    go_enter Tryz.func10, Tryz.ntmps10
    go_wp2_with fail
    refine C.out.mono ?_
    rintro e w1 ⟨rfl, hb⟩
    go_wp2
    go_ret
    exact ⟨rfl, hb⟩

/-- equal: of any two numbers -/
theorem equal_no {p q : Rat} {x y : Value} {w : World} {k : Nat} (hx : IsR w x p) (hy : IsR w y q) (hp : Bd k p) (hq : Bd k q) (hk : k ≤ 1000000) (hne : p ≠ q) :
    Calls Tryz.prog 41 #[x, y] w (RetV (.bool false) w) := by
  have T1 := Lib.hid (fun (w1 : World) (h : Below w.heap.size w w1) => ratText_any (hx.later h) (hp.smR (by omega)))
  have T2 := Lib.hid (fun (w1 : World) (h : Below w.heap.size w w1) => ratText_any (hy.later h) (hq.smR (by omega)))
  obtain ⟨S1, h1⟩ : ∃ S : ByteArray, S = ⟨(ratS p).toArray⟩ := ⟨_, rfl⟩
  obtain ⟨S2, h2⟩ : ∃ S : ByteArray, S = ⟨(ratS q).toArray⟩ := ⟨_, rfl⟩
  have hs : (S1.toList == S2.toList) = false := by
    rw [ByteArray.toList_eq, ByteArray.toList_eq, h1, h2, beq_eq_false_iff_ne]
    intro e; exact hne (ratS_inj (by simpa using e))
  unfold str at T1 T2
  rw [← h1] at T1
  rw [← h2] at T2
  obtain ⟨g, vn, vd, rfl, -⟩ := hx
  obtain ⟨g', vn', vd', rfl, -⟩ := hy
  clear hk hp hq hne h1 h2
  go_enter Tryz.func41, Tryz.ntmps41
  go_wp2_with fail
  refine (T1.out _ (Below.refl _ _)).mono ?_
  rintro e w1 ⟨rfl, hb1⟩
  go_wp2_with fail
  refine (T2.out _ hb1).mono ?_
  rintro e w2 ⟨rfl, hb2⟩
  have HB2 := Lib.hid (below_keep hb1 hb2)
  clear hb1 hb2
  go_wp2
  go_ret
  exact ⟨rfl, HB2.out⟩
theorem equal_any {p q : Rat} {x y : Value} {w : World} {k : Nat} (hx : IsR w x p) (hy : IsR w y q) (hp : Bd k p) (hq : Bd k q) (hk : k ≤ 1000000) :
    Calls Tryz.prog 41 #[x, y] w (RetV (.bool (decide (p = q))) w) := by
  by_cases h : p = q
  · subst h; simpa using equal_yes hx hy hp hk
  · rw [show decide (p = q) = false from by simpa using h]; exact equal_no hx hy hp hq hk h

theorem toEq {f : Nat} {args : Array Value} {w : World} {a b : Value} (h : a = b) (hc : Calls Tryz.prog f args w (RetV a w)) : Calls Tryz.prog f args w (RetV b w) := h ▸ hc

set_option maxHeartbeats 16000000 in
set_option maxRecDepth 100000 in
theorem orders_gt (X Y Z : Rat) (a b c : Option Addr) (m n k : Nat) (p q r : Nat) (w0 : World) (hm : Ml w0) (h1 : m ≤ 12) (h2 : n ≤ 12) (h3 : k ≤ 12) (bX : Bd 1000 X) (bY : Bd 1000 Y) (bZ : Bd 1000 Z)
    (cX : ∀ w, Below w0.heap.size w0 w → Calls Tryz.prog 40 #[.slice a m p] w (RetR X w)) (cY : ∀ w, Below w0.heap.size w0 w → Calls Tryz.prog 40 #[.slice b n q] w (RetR Y w))
    (cZ : ∀ w, Below w0.heap.size w0 w → Calls Tryz.prog 40 #[.slice c k r] w (RetR Z w)) (S2 S3 SF SG : Int) (B : Bool)
    (e1 : sgnQ (X - Y) = 1) (e2 : sgnQ (Y - Z) = S2) (e3 : sgnQ (X - Z) = S3) (eF : sgnQ (flQ X - X) = SF) (eG : sgnQ (flQ X - (X - 1)) = SG) (eB : decide (X.den = 1) = B)
    (_ : True) :
    Calls Tryz.prog 10 #[.slice a m p, .slice b n q, .slice c k r] w0 (RetV (.bool true) w0) := by
  have e1' : sgnQ (Y - X) = -(1) := by rw [sgnQ_swap, e1]
  have hF : decide (SF ≤ 0) = true := by rw [← eF, decide_eq_true_eq, sgnQ_le]; exact flQ_le X
  have hG : decide (0 < SG) = true := by rw [← eG, decide_eq_true_eq, sgnQ_pos]; exact flQ_gt X
  have eB' : decide (flQ X = X) = B := by rw [← eB]; exact decide_eq_decide.2 (flQ_whole X).symm
  have bone : Bd 1 (1 : Rat) := Bd.one
  have bone := Lib.hid bone
  have HB0 := Lib.hid (Below.refl w0.heap.size w0)
  have HM := Lib.hid (fun w1 (h : Below w0.heap.size w0 w1) => works_any w1 (hm.later h))
  have HX := Lib.hid cX
  have HYC := Lib.hid cY
  have HZ := Lib.hid cZ
  have bX := Lib.hid bX
  have bY := Lib.hid bY
  have bZ := Lib.hid bZ
  have e1 := Lib.hid e1
  have e1' := Lib.hid e1'
  have e2 := Lib.hid e2
  have e3 := Lib.hid e3
  have eF := Lib.hid eF
  have eG := Lib.hid eG
  have eB := Lib.hid eB
  have eB' := Lib.hid eB'
  rename_i t1 t2 t3 t4 t5 t6 t7 t8 t9 t10 t11
  clear t1 t2 t3 t4 t5 t6 t7 t8 t9 t10 t11 hm cX cY cZ
  go_enter Tryz.func10, Tryz.ntmps10
  go_wp2_with fail
  refine (HX.out _ HB0.out).mono ?_
  rintro e w1 ⟨v1, rfl, hv1, hb1⟩
  have HB1 := Lib.hid (below_keep HB0.out hb1)
  have Rx_1 := Lib.hid hv1
  obtain ⟨g1, vn1, vd1, hs1, -⟩ := hv1
  subst hs1
  clear hb1
  go_wp2_with fail
  refine (HYC.out _ HB1.out).mono ?_
  rintro e w2 ⟨v2, rfl, hv2, hb2⟩
  have HB2 := Lib.hid (below_keep HB1.out hb2)
  have Rx_2 := Lib.hid (Rx_1.out.later hb2)
  have Ry_2 := Lib.hid hv2
  obtain ⟨g2, vn2, vd2, hs2, -⟩ := hv2
  subst hs2
  clear hb2
  go_wp2_with fail
  refine (HZ.out _ HB2.out).mono ?_
  rintro e w3 ⟨v3, rfl, hv3, hb3⟩
  have HB3 := Lib.hid (below_keep HB2.out hb3)
  have Rx_3 := Lib.hid (Rx_2.out.later hb3)
  have Ry_3 := Lib.hid (Ry_2.out.later hb3)
  have Rz_3 := Lib.hid hv3
  obtain ⟨g3, vn3, vd3, hs3, -⟩ := hv3
  subst hs3
  clear hb3
  go_wp2_with fail
  refine (of_any 1 1 _ (by decide) (by decide) (by decide) (by decide) (by decide)).mono ?_
  rintro e w4 ⟨v4, rfl, hv4, hb4⟩
  have HB4 := Lib.hid (below_keep HB3.out hb4)
  have Rx_4 := Lib.hid (Rx_3.out.later hb4)
  have Ry_4 := Lib.hid (Ry_3.out.later hb4)
  have Rz_4 := Lib.hid (Rz_3.out.later hb4)
  have Ro_4 := Lib.hid hv4
  obtain ⟨g4, vn4, vd4, hs4, -⟩ := hv4
  subst hs4
  clear hb4
  rw [quoQ_one] at Ro_4
  go_wp2_with fail
  refine (toEq (congrArg (Value.int .i64) e1.out) (cmpR_any Rx_4.out Ry_4.out (bX.out.smR (by omega)) (bY.out.smR (by omega)) (bX.out.smM bY.out (by omega)))).mono ?_
  rintro e w5 ⟨rfl, hb5⟩
  have HB5 := Lib.hid (below_keep HB4.out hb5)
  have Rx_5 := Lib.hid (Rx_4.out.later hb5)
  have Ry_5 := Lib.hid (Ry_4.out.later hb5)
  have Rz_5 := Lib.hid (Rz_4.out.later hb5)
  have Ro_5 := Lib.hid (Ro_4.out.later hb5)
  clear hb5
  go_wp2_with fail
  refine (toEq (congrArg (Value.int .i64) e2.out) (cmpR_any Ry_5.out Rz_5.out (bY.out.smR (by omega)) (bZ.out.smR (by omega)) (bY.out.smM bZ.out (by omega)))).mono ?_
  rintro e w6 ⟨rfl, hb6⟩
  have HB6 := Lib.hid (below_keep HB5.out hb6)
  have Rx_6 := Lib.hid (Rx_5.out.later hb6)
  have Ry_6 := Lib.hid (Ry_5.out.later hb6)
  have Rz_6 := Lib.hid (Rz_5.out.later hb6)
  have Ro_6 := Lib.hid (Ro_5.out.later hb6)
  clear hb6
  go_wp2_with fail
  refine (toEq (congrArg (Value.int .i64) e3.out) (cmpR_any Rx_6.out Rz_6.out (bX.out.smR (by omega)) (bZ.out.smR (by omega)) (bX.out.smM bZ.out (by omega)))).mono ?_
  rintro e w7 ⟨rfl, hb7⟩
  have HB7 := Lib.hid (below_keep HB6.out hb7)
  have Rx_7 := Lib.hid (Rx_6.out.later hb7)
  have Ry_7 := Lib.hid (Ry_6.out.later hb7)
  have Ro_7 := Lib.hid (Ro_6.out.later hb7)
  clear hb7
  go_wp2_with fail
  refine (toEq (congrArg (Value.int .i64) e1'.out) (cmpR_any Ry_7.out Rx_7.out (bY.out.smR (by omega)) (bX.out.smR (by omega)) (bY.out.smM bX.out (by omega)))).mono ?_
  rintro e w8 ⟨rfl, hb8⟩
  have HB8 := Lib.hid (below_keep HB7.out hb8)
  have Rx_8 := Lib.hid (Rx_7.out.later hb8)
  have Ry_8 := Lib.hid (Ry_7.out.later hb8)
  have Ro_8 := Lib.hid (Ro_7.out.later hb8)
  clear hb8
  go_wp2_with fail
  refine (subR_any Rx_8.out Ry_8.out (bX.out.smR (by omega)) (bY.out.smR (by omega)) (bX.out.smM bY.out (by omega))).mono ?_
  rintro e w9 ⟨v9, rfl, hv9, hb9⟩
  have HB9 := Lib.hid (below_keep HB8.out hb9)
  have Rx_9 := Lib.hid (Rx_8.out.later hb9)
  have Ry_9 := Lib.hid (Ry_8.out.later hb9)
  have Ro_9 := Lib.hid (Ro_8.out.later hb9)
  have Rd_9 := Lib.hid hv9
  obtain ⟨g9, vn9, vd9, hs9, -⟩ := hv9
  subst hs9
  clear hb9
  have hsg := sign_any Rd_9.out
  rw [e1.out] at hsg
  have HSG := Lib.hid hsg
  clear hsg
  go_wp2_with fail
  refine (HSG.out).mono ?_
  rintro e w' ⟨rfl, rfl⟩
  go_wp2_with fail
  refine (floor_any Rx_9.out (bX.out.smR (by omega))).mono ?_
  rintro e w10 ⟨v10, rfl, hv10, hb10⟩
  have HB10 := Lib.hid (below_keep HB9.out hb10)
  have Rx_10 := Lib.hid (Rx_9.out.later hb10)
  have Ro_10 := Lib.hid (Ro_9.out.later hb10)
  have Rf_10 := Lib.hid hv10
  obtain ⟨g10, vn10, vd10, hs10, -⟩ := hv10
  subst hs10
  clear hb10
  have hwf := whole_any Rf_10.out
  rw [show decide ((flQ X).den = 1) = true from by rw [(flQ_parts X).2.1]; rfl] at hwf
  have HWF := Lib.hid hwf
  clear hwf
  go_wp2_with fail
  refine (HWF.out).mono ?_
  rintro e w' ⟨rfl, rfl⟩
  go_wp2_with fail
  refine (toEq (congrArg (Value.int .i64) eF.out) (cmpR_any Rf_10.out Rx_10.out (bX.out.floor.smR (by omega)) (bX.out.smR (by omega)) (bX.out.floor.smM bX.out (by omega)))).mono ?_
  rintro e w11 ⟨rfl, hb11⟩
  have HB11 := Lib.hid (below_keep HB10.out hb11)
  have Rx_11 := Lib.hid (Rx_10.out.later hb11)
  have Ro_11 := Lib.hid (Ro_10.out.later hb11)
  have Rf_11 := Lib.hid (Rf_10.out.later hb11)
  clear hb11
  go_wp2_with fail
  refine (subR_any Rx_11.out Ro_11.out (bX.out.smR (by omega)) (bone.out.smR (by omega)) (bX.out.smM bone.out (by omega))).mono ?_
  rintro e w12 ⟨v12, rfl, hv12, hb12⟩
  have HB12 := Lib.hid (below_keep HB11.out hb12)
  have Rx_12 := Lib.hid (Rx_11.out.later hb12)
  have Rf_12 := Lib.hid (Rf_11.out.later hb12)
  have Rd_12 := Lib.hid hv12
  obtain ⟨g12, vn12, vd12, hs12, -⟩ := hv12
  subst hs12
  clear hb12
  go_wp2_with fail
  refine (toEq (congrArg (Value.int .i64) eG.out) (cmpR_any Rf_12.out Rd_12.out (bX.out.floor.smR (by omega)) ((bX.out.sub bone.out).smR (by omega)) (bX.out.floor.smM (bX.out.sub bone.out) (by omega)))).mono ?_
  rintro e w13 ⟨rfl, hb13⟩
  have HB13 := Lib.hid (below_keep HB12.out hb13)
  have Rx_13 := Lib.hid (Rx_12.out.later hb13)
  have Rf_13 := Lib.hid (Rf_12.out.later hb13)
  clear hb13
  have hwx := whole_any Rx_13.out
  rw [eB.out] at hwx
  have HWX := Lib.hid hwx
  clear hwx
  go_wp2_with fail
  refine (HWX.out).mono ?_
  rintro e w' ⟨rfl, rfl⟩
  go_wp2_with fail
  refine (toEq (congrArg Value.bool eB'.out) (equal_any Rf_13.out Rx_13.out (bX.out.floor) (bX.out.mono (by omega)) (by omega))).mono ?_
  rintro e w14 ⟨rfl, hb14⟩
  have HB14 := Lib.hid (below_keep HB13.out hb14)
  clear hb14
  go_wp2_with fail
  refine (HM.out _ HB14.out).mono ?_
  rintro e w15 ⟨rfl, hb15⟩
  have HB15 := Lib.hid (below_keep HB14.out hb15)
  clear hb15
  go_wp2
  go_ret
  exact ⟨rfl, HB15.out⟩

set_option maxHeartbeats 16000000 in
set_option maxRecDepth 100000 in
theorem orders_ltle (X Y Z : Rat) (a b c : Option Addr) (m n k : Nat) (p q r : Nat) (w0 : World) (hm : Ml w0) (h1 : m ≤ 12) (h2 : n ≤ 12) (h3 : k ≤ 12) (bX : Bd 1000 X) (bY : Bd 1000 Y) (bZ : Bd 1000 Z)
    (cX : ∀ w, Below w0.heap.size w0 w → Calls Tryz.prog 40 #[.slice a m p] w (RetR X w)) (cY : ∀ w, Below w0.heap.size w0 w → Calls Tryz.prog 40 #[.slice b n q] w (RetR Y w))
    (cZ : ∀ w, Below w0.heap.size w0 w → Calls Tryz.prog 40 #[.slice c k r] w (RetR Z w)) (S2 S3 SF SG : Int) (B : Bool)
    (e1 : sgnQ (X - Y) = -1) (e2 : sgnQ (Y - Z) = S2) (e3 : sgnQ (X - Z) = S3) (eF : sgnQ (flQ X - X) = SF) (eG : sgnQ (flQ X - (X - 1)) = SG) (eB : decide (X.den = 1) = B)
    (h12 : decide (S2 ≤ 0) = true) (h13 : decide (0 < S3) = false) :
    Calls Tryz.prog 10 #[.slice a m p, .slice b n q, .slice c k r] w0 (RetV (.bool true) w0) := by
  have e1' : sgnQ (Y - X) = -(-1) := by rw [sgnQ_swap, e1]
  have hF : decide (SF ≤ 0) = true := by rw [← eF, decide_eq_true_eq, sgnQ_le]; exact flQ_le X
  have hG : decide (0 < SG) = true := by rw [← eG, decide_eq_true_eq, sgnQ_pos]; exact flQ_gt X
  have eB' : decide (flQ X = X) = B := by rw [← eB]; exact decide_eq_decide.2 (flQ_whole X).symm
  have bone : Bd 1 (1 : Rat) := Bd.one
  have bone := Lib.hid bone
  have HB0 := Lib.hid (Below.refl w0.heap.size w0)
  have HM := Lib.hid (fun w1 (h : Below w0.heap.size w0 w1) => works_any w1 (hm.later h))
  have HX := Lib.hid cX
  have HYC := Lib.hid cY
  have HZ := Lib.hid cZ
  have bX := Lib.hid bX
  have bY := Lib.hid bY
  have bZ := Lib.hid bZ
  have e1 := Lib.hid e1
  have e1' := Lib.hid e1'
  have e2 := Lib.hid e2
  have e3 := Lib.hid e3
  have eF := Lib.hid eF
  have eG := Lib.hid eG
  have eB := Lib.hid eB
  have eB' := Lib.hid eB'
  rename_i t1 t2 t3 t4 t5 t6 t7 t8 t9 t10 t11
  clear t1 t2 t3 t4 t5 t6 t7 t8 t9 t10 t11 hm cX cY cZ
  go_enter Tryz.func10, Tryz.ntmps10
  go_wp2_with fail
  refine (HX.out _ HB0.out).mono ?_
  rintro e w1 ⟨v1, rfl, hv1, hb1⟩
  have HB1 := Lib.hid (below_keep HB0.out hb1)
  have Rx_1 := Lib.hid hv1
  obtain ⟨g1, vn1, vd1, hs1, -⟩ := hv1
  subst hs1
  clear hb1
  go_wp2_with fail
  refine (HYC.out _ HB1.out).mono ?_
  rintro e w2 ⟨v2, rfl, hv2, hb2⟩
  have HB2 := Lib.hid (below_keep HB1.out hb2)
  have Rx_2 := Lib.hid (Rx_1.out.later hb2)
  have Ry_2 := Lib.hid hv2
  obtain ⟨g2, vn2, vd2, hs2, -⟩ := hv2
  subst hs2
  clear hb2
  go_wp2_with fail
  refine (HZ.out _ HB2.out).mono ?_
  rintro e w3 ⟨v3, rfl, hv3, hb3⟩
  have HB3 := Lib.hid (below_keep HB2.out hb3)
  have Rx_3 := Lib.hid (Rx_2.out.later hb3)
  have Ry_3 := Lib.hid (Ry_2.out.later hb3)
  have Rz_3 := Lib.hid hv3
  obtain ⟨g3, vn3, vd3, hs3, -⟩ := hv3
  subst hs3
  clear hb3
  go_wp2_with fail
  refine (of_any 1 1 _ (by decide) (by decide) (by decide) (by decide) (by decide)).mono ?_
  rintro e w4 ⟨v4, rfl, hv4, hb4⟩
  have HB4 := Lib.hid (below_keep HB3.out hb4)
  have Rx_4 := Lib.hid (Rx_3.out.later hb4)
  have Ry_4 := Lib.hid (Ry_3.out.later hb4)
  have Rz_4 := Lib.hid (Rz_3.out.later hb4)
  have Ro_4 := Lib.hid hv4
  obtain ⟨g4, vn4, vd4, hs4, -⟩ := hv4
  subst hs4
  clear hb4
  rw [quoQ_one] at Ro_4
  go_wp2_with fail
  refine (toEq (congrArg (Value.int .i64) e1.out) (cmpR_any Rx_4.out Ry_4.out (bX.out.smR (by omega)) (bY.out.smR (by omega)) (bX.out.smM bY.out (by omega)))).mono ?_
  rintro e w5 ⟨rfl, hb5⟩
  have HB5 := Lib.hid (below_keep HB4.out hb5)
  have Rx_5 := Lib.hid (Rx_4.out.later hb5)
  have Ry_5 := Lib.hid (Ry_4.out.later hb5)
  have Rz_5 := Lib.hid (Rz_4.out.later hb5)
  have Ro_5 := Lib.hid (Ro_4.out.later hb5)
  clear hb5
  go_wp2_with fail
  refine (toEq (congrArg (Value.int .i64) e2.out) (cmpR_any Ry_5.out Rz_5.out (bY.out.smR (by omega)) (bZ.out.smR (by omega)) (bY.out.smM bZ.out (by omega)))).mono ?_
  rintro e w6 ⟨rfl, hb6⟩
  have HB6 := Lib.hid (below_keep HB5.out hb6)
  have Rx_6 := Lib.hid (Rx_5.out.later hb6)
  have Ry_6 := Lib.hid (Ry_5.out.later hb6)
  have Rz_6 := Lib.hid (Rz_5.out.later hb6)
  have Ro_6 := Lib.hid (Ro_5.out.later hb6)
  clear hb6
  go_wp2_with fail
  refine (toEq (congrArg (Value.int .i64) e3.out) (cmpR_any Rx_6.out Rz_6.out (bX.out.smR (by omega)) (bZ.out.smR (by omega)) (bX.out.smM bZ.out (by omega)))).mono ?_
  rintro e w7 ⟨rfl, hb7⟩
  have HB7 := Lib.hid (below_keep HB6.out hb7)
  have Rx_7 := Lib.hid (Rx_6.out.later hb7)
  have Ry_7 := Lib.hid (Ry_6.out.later hb7)
  have Ro_7 := Lib.hid (Ro_6.out.later hb7)
  clear hb7
  go_wp2_with fail
  refine (toEq (congrArg (Value.int .i64) e1'.out) (cmpR_any Ry_7.out Rx_7.out (bY.out.smR (by omega)) (bX.out.smR (by omega)) (bY.out.smM bX.out (by omega)))).mono ?_
  rintro e w8 ⟨rfl, hb8⟩
  have HB8 := Lib.hid (below_keep HB7.out hb8)
  have Rx_8 := Lib.hid (Rx_7.out.later hb8)
  have Ry_8 := Lib.hid (Ry_7.out.later hb8)
  have Ro_8 := Lib.hid (Ro_7.out.later hb8)
  clear hb8
  go_wp2_with fail
  refine (subR_any Rx_8.out Ry_8.out (bX.out.smR (by omega)) (bY.out.smR (by omega)) (bX.out.smM bY.out (by omega))).mono ?_
  rintro e w9 ⟨v9, rfl, hv9, hb9⟩
  have HB9 := Lib.hid (below_keep HB8.out hb9)
  have Rx_9 := Lib.hid (Rx_8.out.later hb9)
  have Ry_9 := Lib.hid (Ry_8.out.later hb9)
  have Ro_9 := Lib.hid (Ro_8.out.later hb9)
  have Rd_9 := Lib.hid hv9
  obtain ⟨g9, vn9, vd9, hs9, -⟩ := hv9
  subst hs9
  clear hb9
  have hsg := sign_any Rd_9.out
  rw [e1.out] at hsg
  have HSG := Lib.hid hsg
  clear hsg
  go_wp2_with fail
  refine (HSG.out).mono ?_
  rintro e w' ⟨rfl, rfl⟩
  go_wp2_with fail
  refine (floor_any Rx_9.out (bX.out.smR (by omega))).mono ?_
  rintro e w10 ⟨v10, rfl, hv10, hb10⟩
  have HB10 := Lib.hid (below_keep HB9.out hb10)
  have Rx_10 := Lib.hid (Rx_9.out.later hb10)
  have Ro_10 := Lib.hid (Ro_9.out.later hb10)
  have Rf_10 := Lib.hid hv10
  obtain ⟨g10, vn10, vd10, hs10, -⟩ := hv10
  subst hs10
  clear hb10
  have hwf := whole_any Rf_10.out
  rw [show decide ((flQ X).den = 1) = true from by rw [(flQ_parts X).2.1]; rfl] at hwf
  have HWF := Lib.hid hwf
  clear hwf
  go_wp2_with fail
  refine (HWF.out).mono ?_
  rintro e w' ⟨rfl, rfl⟩
  go_wp2_with fail
  refine (toEq (congrArg (Value.int .i64) eF.out) (cmpR_any Rf_10.out Rx_10.out (bX.out.floor.smR (by omega)) (bX.out.smR (by omega)) (bX.out.floor.smM bX.out (by omega)))).mono ?_
  rintro e w11 ⟨rfl, hb11⟩
  have HB11 := Lib.hid (below_keep HB10.out hb11)
  have Rx_11 := Lib.hid (Rx_10.out.later hb11)
  have Ro_11 := Lib.hid (Ro_10.out.later hb11)
  have Rf_11 := Lib.hid (Rf_10.out.later hb11)
  clear hb11
  go_wp2_with fail
  refine (subR_any Rx_11.out Ro_11.out (bX.out.smR (by omega)) (bone.out.smR (by omega)) (bX.out.smM bone.out (by omega))).mono ?_
  rintro e w12 ⟨v12, rfl, hv12, hb12⟩
  have HB12 := Lib.hid (below_keep HB11.out hb12)
  have Rx_12 := Lib.hid (Rx_11.out.later hb12)
  have Rf_12 := Lib.hid (Rf_11.out.later hb12)
  have Rd_12 := Lib.hid hv12
  obtain ⟨g12, vn12, vd12, hs12, -⟩ := hv12
  subst hs12
  clear hb12
  go_wp2_with fail
  refine (toEq (congrArg (Value.int .i64) eG.out) (cmpR_any Rf_12.out Rd_12.out (bX.out.floor.smR (by omega)) ((bX.out.sub bone.out).smR (by omega)) (bX.out.floor.smM (bX.out.sub bone.out) (by omega)))).mono ?_
  rintro e w13 ⟨rfl, hb13⟩
  have HB13 := Lib.hid (below_keep HB12.out hb13)
  have Rx_13 := Lib.hid (Rx_12.out.later hb13)
  have Rf_13 := Lib.hid (Rf_12.out.later hb13)
  clear hb13
  have hwx := whole_any Rx_13.out
  rw [eB.out] at hwx
  have HWX := Lib.hid hwx
  clear hwx
  go_wp2_with fail
  refine (HWX.out).mono ?_
  rintro e w' ⟨rfl, rfl⟩
  go_wp2_with fail
  refine (toEq (congrArg Value.bool eB'.out) (equal_any Rf_13.out Rx_13.out (bX.out.floor) (bX.out.mono (by omega)) (by omega))).mono ?_
  rintro e w14 ⟨rfl, hb14⟩
  have HB14 := Lib.hid (below_keep HB13.out hb14)
  clear hb14
  go_wp2_with fail
  refine (HM.out _ HB14.out).mono ?_
  rintro e w15 ⟨rfl, hb15⟩
  have HB15 := Lib.hid (below_keep HB14.out hb15)
  clear hb15
  go_wp2
  go_ret
  exact ⟨rfl, HB15.out⟩

set_option maxHeartbeats 16000000 in
set_option maxRecDepth 100000 in
theorem orders_ltgt (X Y Z : Rat) (a b c : Option Addr) (m n k : Nat) (p q r : Nat) (w0 : World) (hm : Ml w0) (h1 : m ≤ 12) (h2 : n ≤ 12) (h3 : k ≤ 12) (bX : Bd 1000 X) (bY : Bd 1000 Y) (bZ : Bd 1000 Z)
    (cX : ∀ w, Below w0.heap.size w0 w → Calls Tryz.prog 40 #[.slice a m p] w (RetR X w)) (cY : ∀ w, Below w0.heap.size w0 w → Calls Tryz.prog 40 #[.slice b n q] w (RetR Y w))
    (cZ : ∀ w, Below w0.heap.size w0 w → Calls Tryz.prog 40 #[.slice c k r] w (RetR Z w)) (S2 S3 SF SG : Int) (B : Bool)
    (e1 : sgnQ (X - Y) = -1) (e2 : sgnQ (Y - Z) = S2) (e3 : sgnQ (X - Z) = S3) (eF : sgnQ (flQ X - X) = SF) (eG : sgnQ (flQ X - (X - 1)) = SG) (eB : decide (X.den = 1) = B)
    (h12 : decide (S2 ≤ 0) = false) :
    Calls Tryz.prog 10 #[.slice a m p, .slice b n q, .slice c k r] w0 (RetV (.bool true) w0) := by
  have e1' : sgnQ (Y - X) = -(-1) := by rw [sgnQ_swap, e1]
  have hF : decide (SF ≤ 0) = true := by rw [← eF, decide_eq_true_eq, sgnQ_le]; exact flQ_le X
  have hG : decide (0 < SG) = true := by rw [← eG, decide_eq_true_eq, sgnQ_pos]; exact flQ_gt X
  have eB' : decide (flQ X = X) = B := by rw [← eB]; exact decide_eq_decide.2 (flQ_whole X).symm
  have bone : Bd 1 (1 : Rat) := Bd.one
  have bone := Lib.hid bone
  have HB0 := Lib.hid (Below.refl w0.heap.size w0)
  have HM := Lib.hid (fun w1 (h : Below w0.heap.size w0 w1) => works_any w1 (hm.later h))
  have HX := Lib.hid cX
  have HYC := Lib.hid cY
  have HZ := Lib.hid cZ
  have bX := Lib.hid bX
  have bY := Lib.hid bY
  have bZ := Lib.hid bZ
  have e1 := Lib.hid e1
  have e1' := Lib.hid e1'
  have e2 := Lib.hid e2
  have e3 := Lib.hid e3
  have eF := Lib.hid eF
  have eG := Lib.hid eG
  have eB := Lib.hid eB
  have eB' := Lib.hid eB'
  rename_i t1 t2 t3 t4 t5 t6 t7 t8 t9 t10 t11
  clear t1 t2 t3 t4 t5 t6 t7 t8 t9 t10 t11 hm cX cY cZ
  go_enter Tryz.func10, Tryz.ntmps10
  go_wp2_with fail
  refine (HX.out _ HB0.out).mono ?_
  rintro e w1 ⟨v1, rfl, hv1, hb1⟩
  have HB1 := Lib.hid (below_keep HB0.out hb1)
  have Rx_1 := Lib.hid hv1
  obtain ⟨g1, vn1, vd1, hs1, -⟩ := hv1
  subst hs1
  clear hb1
  go_wp2_with fail
  refine (HYC.out _ HB1.out).mono ?_
  rintro e w2 ⟨v2, rfl, hv2, hb2⟩
  have HB2 := Lib.hid (below_keep HB1.out hb2)
  have Rx_2 := Lib.hid (Rx_1.out.later hb2)
  have Ry_2 := Lib.hid hv2
  obtain ⟨g2, vn2, vd2, hs2, -⟩ := hv2
  subst hs2
  clear hb2
  go_wp2_with fail
  refine (HZ.out _ HB2.out).mono ?_
  rintro e w3 ⟨v3, rfl, hv3, hb3⟩
  have HB3 := Lib.hid (below_keep HB2.out hb3)
  have Rx_3 := Lib.hid (Rx_2.out.later hb3)
  have Ry_3 := Lib.hid (Ry_2.out.later hb3)
  have Rz_3 := Lib.hid hv3
  obtain ⟨g3, vn3, vd3, hs3, -⟩ := hv3
  subst hs3
  clear hb3
  go_wp2_with fail
  refine (of_any 1 1 _ (by decide) (by decide) (by decide) (by decide) (by decide)).mono ?_
  rintro e w4 ⟨v4, rfl, hv4, hb4⟩
  have HB4 := Lib.hid (below_keep HB3.out hb4)
  have Rx_4 := Lib.hid (Rx_3.out.later hb4)
  have Ry_4 := Lib.hid (Ry_3.out.later hb4)
  have Rz_4 := Lib.hid (Rz_3.out.later hb4)
  have Ro_4 := Lib.hid hv4
  obtain ⟨g4, vn4, vd4, hs4, -⟩ := hv4
  subst hs4
  clear hb4
  rw [quoQ_one] at Ro_4
  go_wp2_with fail
  refine (toEq (congrArg (Value.int .i64) e1.out) (cmpR_any Rx_4.out Ry_4.out (bX.out.smR (by omega)) (bY.out.smR (by omega)) (bX.out.smM bY.out (by omega)))).mono ?_
  rintro e w5 ⟨rfl, hb5⟩
  have HB5 := Lib.hid (below_keep HB4.out hb5)
  have Rx_5 := Lib.hid (Rx_4.out.later hb5)
  have Ry_5 := Lib.hid (Ry_4.out.later hb5)
  have Rz_5 := Lib.hid (Rz_4.out.later hb5)
  have Ro_5 := Lib.hid (Ro_4.out.later hb5)
  clear hb5
  go_wp2_with fail
  refine (toEq (congrArg (Value.int .i64) e2.out) (cmpR_any Ry_5.out Rz_5.out (bY.out.smR (by omega)) (bZ.out.smR (by omega)) (bY.out.smM bZ.out (by omega)))).mono ?_
  rintro e w6 ⟨rfl, hb6⟩
  have HB6 := Lib.hid (below_keep HB5.out hb6)
  have Rx_6 := Lib.hid (Rx_5.out.later hb6)
  have Ry_6 := Lib.hid (Ry_5.out.later hb6)
  have Rz_6 := Lib.hid (Rz_5.out.later hb6)
  have Ro_6 := Lib.hid (Ro_5.out.later hb6)
  clear hb6
  go_wp2_with fail
  refine (toEq (congrArg (Value.int .i64) e3.out) (cmpR_any Rx_6.out Rz_6.out (bX.out.smR (by omega)) (bZ.out.smR (by omega)) (bX.out.smM bZ.out (by omega)))).mono ?_
  rintro e w7 ⟨rfl, hb7⟩
  have HB7 := Lib.hid (below_keep HB6.out hb7)
  have Rx_7 := Lib.hid (Rx_6.out.later hb7)
  have Ry_7 := Lib.hid (Ry_6.out.later hb7)
  have Ro_7 := Lib.hid (Ro_6.out.later hb7)
  clear hb7
  go_wp2_with fail
  refine (toEq (congrArg (Value.int .i64) e1'.out) (cmpR_any Ry_7.out Rx_7.out (bY.out.smR (by omega)) (bX.out.smR (by omega)) (bY.out.smM bX.out (by omega)))).mono ?_
  rintro e w8 ⟨rfl, hb8⟩
  have HB8 := Lib.hid (below_keep HB7.out hb8)
  have Rx_8 := Lib.hid (Rx_7.out.later hb8)
  have Ry_8 := Lib.hid (Ry_7.out.later hb8)
  have Ro_8 := Lib.hid (Ro_7.out.later hb8)
  clear hb8
  go_wp2_with fail
  refine (subR_any Rx_8.out Ry_8.out (bX.out.smR (by omega)) (bY.out.smR (by omega)) (bX.out.smM bY.out (by omega))).mono ?_
  rintro e w9 ⟨v9, rfl, hv9, hb9⟩
  have HB9 := Lib.hid (below_keep HB8.out hb9)
  have Rx_9 := Lib.hid (Rx_8.out.later hb9)
  have Ry_9 := Lib.hid (Ry_8.out.later hb9)
  have Ro_9 := Lib.hid (Ro_8.out.later hb9)
  have Rd_9 := Lib.hid hv9
  obtain ⟨g9, vn9, vd9, hs9, -⟩ := hv9
  subst hs9
  clear hb9
  have hsg := sign_any Rd_9.out
  rw [e1.out] at hsg
  have HSG := Lib.hid hsg
  clear hsg
  go_wp2_with fail
  refine (HSG.out).mono ?_
  rintro e w' ⟨rfl, rfl⟩
  go_wp2_with fail
  refine (floor_any Rx_9.out (bX.out.smR (by omega))).mono ?_
  rintro e w10 ⟨v10, rfl, hv10, hb10⟩
  have HB10 := Lib.hid (below_keep HB9.out hb10)
  have Rx_10 := Lib.hid (Rx_9.out.later hb10)
  have Ro_10 := Lib.hid (Ro_9.out.later hb10)
  have Rf_10 := Lib.hid hv10
  obtain ⟨g10, vn10, vd10, hs10, -⟩ := hv10
  subst hs10
  clear hb10
  have hwf := whole_any Rf_10.out
  rw [show decide ((flQ X).den = 1) = true from by rw [(flQ_parts X).2.1]; rfl] at hwf
  have HWF := Lib.hid hwf
  clear hwf
  go_wp2_with fail
  refine (HWF.out).mono ?_
  rintro e w' ⟨rfl, rfl⟩
  go_wp2_with fail
  refine (toEq (congrArg (Value.int .i64) eF.out) (cmpR_any Rf_10.out Rx_10.out (bX.out.floor.smR (by omega)) (bX.out.smR (by omega)) (bX.out.floor.smM bX.out (by omega)))).mono ?_
  rintro e w11 ⟨rfl, hb11⟩
  have HB11 := Lib.hid (below_keep HB10.out hb11)
  have Rx_11 := Lib.hid (Rx_10.out.later hb11)
  have Ro_11 := Lib.hid (Ro_10.out.later hb11)
  have Rf_11 := Lib.hid (Rf_10.out.later hb11)
  clear hb11
  go_wp2_with fail
  refine (subR_any Rx_11.out Ro_11.out (bX.out.smR (by omega)) (bone.out.smR (by omega)) (bX.out.smM bone.out (by omega))).mono ?_
  rintro e w12 ⟨v12, rfl, hv12, hb12⟩
  have HB12 := Lib.hid (below_keep HB11.out hb12)
  have Rx_12 := Lib.hid (Rx_11.out.later hb12)
  have Rf_12 := Lib.hid (Rf_11.out.later hb12)
  have Rd_12 := Lib.hid hv12
  obtain ⟨g12, vn12, vd12, hs12, -⟩ := hv12
  subst hs12
  clear hb12
  go_wp2_with fail
  refine (toEq (congrArg (Value.int .i64) eG.out) (cmpR_any Rf_12.out Rd_12.out (bX.out.floor.smR (by omega)) ((bX.out.sub bone.out).smR (by omega)) (bX.out.floor.smM (bX.out.sub bone.out) (by omega)))).mono ?_
  rintro e w13 ⟨rfl, hb13⟩
  have HB13 := Lib.hid (below_keep HB12.out hb13)
  have Rx_13 := Lib.hid (Rx_12.out.later hb13)
  have Rf_13 := Lib.hid (Rf_12.out.later hb13)
  clear hb13
  have hwx := whole_any Rx_13.out
  rw [eB.out] at hwx
  have HWX := Lib.hid hwx
  clear hwx
  go_wp2_with fail
  refine (HWX.out).mono ?_
  rintro e w' ⟨rfl, rfl⟩
  go_wp2_with fail
  refine (toEq (congrArg Value.bool eB'.out) (equal_any Rf_13.out Rx_13.out (bX.out.floor) (bX.out.mono (by omega)) (by omega))).mono ?_
  rintro e w14 ⟨rfl, hb14⟩
  have HB14 := Lib.hid (below_keep HB13.out hb14)
  clear hb14
  go_wp2_with fail
  refine (HM.out _ HB14.out).mono ?_
  rintro e w15 ⟨rfl, hb15⟩
  have HB15 := Lib.hid (below_keep HB14.out hb15)
  clear hb15
  go_wp2
  go_ret
  exact ⟨rfl, HB15.out⟩

set_option maxHeartbeats 16000000 in
set_option maxRecDepth 100000 in
theorem orders_eqle (X Y Z : Rat) (a b c : Option Addr) (m n k : Nat) (p q r : Nat) (w0 : World) (hm : Ml w0) (h1 : m ≤ 12) (h2 : n ≤ 12) (h3 : k ≤ 12) (bX : Bd 1000 X) (bY : Bd 1000 Y) (bZ : Bd 1000 Z)
    (cX : ∀ w, Below w0.heap.size w0 w → Calls Tryz.prog 40 #[.slice a m p] w (RetR X w)) (cY : ∀ w, Below w0.heap.size w0 w → Calls Tryz.prog 40 #[.slice b n q] w (RetR Y w))
    (cZ : ∀ w, Below w0.heap.size w0 w → Calls Tryz.prog 40 #[.slice c k r] w (RetR Z w)) (S2 S3 SF SG : Int) (B : Bool)
    (e1 : sgnQ (X - Y) = 0) (e2 : sgnQ (Y - Z) = S2) (e3 : sgnQ (X - Z) = S3) (eF : sgnQ (flQ X - X) = SF) (eG : sgnQ (flQ X - (X - 1)) = SG) (eB : decide (X.den = 1) = B)
    (h12 : decide (S2 ≤ 0) = true) (h13 : decide (0 < S3) = false) (hXY : Y = X) :
    Calls Tryz.prog 10 #[.slice a m p, .slice b n q, .slice c k r] w0 (RetV (.bool true) w0) := by
  have e1' : sgnQ (Y - X) = -(0) := by rw [sgnQ_swap, e1]
  have hF : decide (SF ≤ 0) = true := by rw [← eF, decide_eq_true_eq, sgnQ_le]; exact flQ_le X
  have hG : decide (0 < SG) = true := by rw [← eG, decide_eq_true_eq, sgnQ_pos]; exact flQ_gt X
  have eB' : decide (flQ X = X) = B := by rw [← eB]; exact decide_eq_decide.2 (flQ_whole X).symm
  have bone : Bd 1 (1 : Rat) := Bd.one
  have bone := Lib.hid bone
  have HB0 := Lib.hid (Below.refl w0.heap.size w0)
  have HM := Lib.hid (fun w1 (h : Below w0.heap.size w0 w1) => works_any w1 (hm.later h))
  have HX := Lib.hid cX
  have HYC := Lib.hid cY
  have HZ := Lib.hid cZ
  have bX := Lib.hid bX
  have bY := Lib.hid bY
  have bZ := Lib.hid bZ
  have e1 := Lib.hid e1
  have e1' := Lib.hid e1'
  have e2 := Lib.hid e2
  have e3 := Lib.hid e3
  have eF := Lib.hid eF
  have eG := Lib.hid eG
  have eB := Lib.hid eB
  have eB' := Lib.hid eB'
  rename_i t1 t2 t3 t4 t5 t6 t7 t8 t9 t10 t11
  clear t1 t2 t3 t4 t5 t6 t7 t8 t9 t10 t11 hm cX cY cZ
  go_enter Tryz.func10, Tryz.ntmps10
  go_wp2_with fail
  refine (HX.out _ HB0.out).mono ?_
  rintro e w1 ⟨v1, rfl, hv1, hb1⟩
  have HB1 := Lib.hid (below_keep HB0.out hb1)
  have Rx_1 := Lib.hid hv1
  obtain ⟨g1, vn1, vd1, hs1, -⟩ := hv1
  subst hs1
  clear hb1
  go_wp2_with fail
  refine (HYC.out _ HB1.out).mono ?_
  rintro e w2 ⟨v2, rfl, hv2, hb2⟩
  have HB2 := Lib.hid (below_keep HB1.out hb2)
  have Rx_2 := Lib.hid (Rx_1.out.later hb2)
  have Ry_2 := Lib.hid hv2
  obtain ⟨g2, vn2, vd2, hs2, -⟩ := hv2
  subst hs2
  clear hb2
  go_wp2_with fail
  refine (HZ.out _ HB2.out).mono ?_
  rintro e w3 ⟨v3, rfl, hv3, hb3⟩
  have HB3 := Lib.hid (below_keep HB2.out hb3)
  have Rx_3 := Lib.hid (Rx_2.out.later hb3)
  have Ry_3 := Lib.hid (Ry_2.out.later hb3)
  have Rz_3 := Lib.hid hv3
  obtain ⟨g3, vn3, vd3, hs3, -⟩ := hv3
  subst hs3
  clear hb3
  go_wp2_with fail
  refine (of_any 1 1 _ (by decide) (by decide) (by decide) (by decide) (by decide)).mono ?_
  rintro e w4 ⟨v4, rfl, hv4, hb4⟩
  have HB4 := Lib.hid (below_keep HB3.out hb4)
  have Rx_4 := Lib.hid (Rx_3.out.later hb4)
  have Ry_4 := Lib.hid (Ry_3.out.later hb4)
  have Rz_4 := Lib.hid (Rz_3.out.later hb4)
  have Ro_4 := Lib.hid hv4
  obtain ⟨g4, vn4, vd4, hs4, -⟩ := hv4
  subst hs4
  clear hb4
  rw [quoQ_one] at Ro_4
  go_wp2_with fail
  refine (toEq (congrArg (Value.int .i64) e1.out) (cmpR_any Rx_4.out Ry_4.out (bX.out.smR (by omega)) (bY.out.smR (by omega)) (bX.out.smM bY.out (by omega)))).mono ?_
  rintro e w5 ⟨rfl, hb5⟩
  have HB5 := Lib.hid (below_keep HB4.out hb5)
  have Rx_5 := Lib.hid (Rx_4.out.later hb5)
  have Ry_5 := Lib.hid (Ry_4.out.later hb5)
  have Rz_5 := Lib.hid (Rz_4.out.later hb5)
  have Ro_5 := Lib.hid (Ro_4.out.later hb5)
  clear hb5
  go_wp2_with fail
  refine (toEq (congrArg (Value.int .i64) e2.out) (cmpR_any Ry_5.out Rz_5.out (bY.out.smR (by omega)) (bZ.out.smR (by omega)) (bY.out.smM bZ.out (by omega)))).mono ?_
  rintro e w6 ⟨rfl, hb6⟩
  have HB6 := Lib.hid (below_keep HB5.out hb6)
  have Rx_6 := Lib.hid (Rx_5.out.later hb6)
  have Ry_6 := Lib.hid (Ry_5.out.later hb6)
  have Rz_6 := Lib.hid (Rz_5.out.later hb6)
  have Ro_6 := Lib.hid (Ro_5.out.later hb6)
  clear hb6
  go_wp2_with fail
  refine (toEq (congrArg (Value.int .i64) e3.out) (cmpR_any Rx_6.out Rz_6.out (bX.out.smR (by omega)) (bZ.out.smR (by omega)) (bX.out.smM bZ.out (by omega)))).mono ?_
  rintro e w7 ⟨rfl, hb7⟩
  have HB7 := Lib.hid (below_keep HB6.out hb7)
  have Rx_7 := Lib.hid (Rx_6.out.later hb7)
  have Ry_7 := Lib.hid (Ry_6.out.later hb7)
  have Ro_7 := Lib.hid (Ro_6.out.later hb7)
  clear hb7
  go_wp2_with fail
  refine (toEq (congrArg (Value.int .i64) e1'.out) (cmpR_any Ry_7.out Rx_7.out (bY.out.smR (by omega)) (bX.out.smR (by omega)) (bY.out.smM bX.out (by omega)))).mono ?_
  rintro e w8 ⟨rfl, hb8⟩
  have HB8 := Lib.hid (below_keep HB7.out hb8)
  have Rx_8 := Lib.hid (Rx_7.out.later hb8)
  have Ry_8 := Lib.hid (Ry_7.out.later hb8)
  have Ro_8 := Lib.hid (Ro_7.out.later hb8)
  clear hb8
  go_wp2_with fail
  refine (subR_any Rx_8.out Ry_8.out (bX.out.smR (by omega)) (bY.out.smR (by omega)) (bX.out.smM bY.out (by omega))).mono ?_
  rintro e w9 ⟨v9, rfl, hv9, hb9⟩
  have HB9 := Lib.hid (below_keep HB8.out hb9)
  have Rx_9 := Lib.hid (Rx_8.out.later hb9)
  have Ry_9 := Lib.hid (Ry_8.out.later hb9)
  have Ro_9 := Lib.hid (Ro_8.out.later hb9)
  have Rd_9 := Lib.hid hv9
  obtain ⟨g9, vn9, vd9, hs9, -⟩ := hv9
  subst hs9
  clear hb9
  have hsg := sign_any Rd_9.out
  rw [e1.out] at hsg
  have HSG := Lib.hid hsg
  clear hsg
  go_wp2_with fail
  refine (HSG.out).mono ?_
  rintro e w' ⟨rfl, rfl⟩
  go_wp2_with fail
  refine (ratText_any Rx_9.out (bX.out.smR (by omega))).mono ?_
  rintro e w10 ⟨rfl, hb10⟩
  have HB10 := Lib.hid (below_keep HB9.out hb10)
  have Rx_10 := Lib.hid (Rx_9.out.later hb10)
  have Ry_10 := Lib.hid (Ry_9.out.later hb10)
  have Ro_10 := Lib.hid (Ro_9.out.later hb10)
  clear hb10
  go_wp2_with fail
  refine (hXY ▸ (ratText_any Ry_10.out (bY.out.smR (by omega)))).mono ?_
  rintro e w11 ⟨rfl, hb11⟩
  have HB11 := Lib.hid (below_keep HB10.out hb11)
  have Rx_11 := Lib.hid (Rx_10.out.later hb11)
  have Ry_11 := Lib.hid (Ry_10.out.later hb11)
  have Ro_11 := Lib.hid (Ro_10.out.later hb11)
  clear hb11
  go_wp2_with fail
  refine (floor_any Rx_11.out (bX.out.smR (by omega))).mono ?_
  rintro e w12 ⟨v12, rfl, hv12, hb12⟩
  have HB12 := Lib.hid (below_keep HB11.out hb12)
  have Rx_12 := Lib.hid (Rx_11.out.later hb12)
  have Ro_12 := Lib.hid (Ro_11.out.later hb12)
  have Rf_12 := Lib.hid hv12
  obtain ⟨g12, vn12, vd12, hs12, -⟩ := hv12
  subst hs12
  clear hb12
  have hwf := whole_any Rf_12.out
  rw [show decide ((flQ X).den = 1) = true from by rw [(flQ_parts X).2.1]; rfl] at hwf
  have HWF := Lib.hid hwf
  clear hwf
  go_wp2_with fail
  refine (HWF.out).mono ?_
  rintro e w' ⟨rfl, rfl⟩
  go_wp2_with fail
  refine (toEq (congrArg (Value.int .i64) eF.out) (cmpR_any Rf_12.out Rx_12.out (bX.out.floor.smR (by omega)) (bX.out.smR (by omega)) (bX.out.floor.smM bX.out (by omega)))).mono ?_
  rintro e w13 ⟨rfl, hb13⟩
  have HB13 := Lib.hid (below_keep HB12.out hb13)
  have Rx_13 := Lib.hid (Rx_12.out.later hb13)
  have Ro_13 := Lib.hid (Ro_12.out.later hb13)
  have Rf_13 := Lib.hid (Rf_12.out.later hb13)
  clear hb13
  go_wp2_with fail
  refine (subR_any Rx_13.out Ro_13.out (bX.out.smR (by omega)) (bone.out.smR (by omega)) (bX.out.smM bone.out (by omega))).mono ?_
  rintro e w14 ⟨v14, rfl, hv14, hb14⟩
  have HB14 := Lib.hid (below_keep HB13.out hb14)
  have Rx_14 := Lib.hid (Rx_13.out.later hb14)
  have Rf_14 := Lib.hid (Rf_13.out.later hb14)
  have Rd_14 := Lib.hid hv14
  obtain ⟨g14, vn14, vd14, hs14, -⟩ := hv14
  subst hs14
  clear hb14
  go_wp2_with fail
  refine (toEq (congrArg (Value.int .i64) eG.out) (cmpR_any Rf_14.out Rd_14.out (bX.out.floor.smR (by omega)) ((bX.out.sub bone.out).smR (by omega)) (bX.out.floor.smM (bX.out.sub bone.out) (by omega)))).mono ?_
  rintro e w15 ⟨rfl, hb15⟩
  have HB15 := Lib.hid (below_keep HB14.out hb15)
  have Rx_15 := Lib.hid (Rx_14.out.later hb15)
  have Rf_15 := Lib.hid (Rf_14.out.later hb15)
  clear hb15
  have hwx := whole_any Rx_15.out
  rw [eB.out] at hwx
  have HWX := Lib.hid hwx
  clear hwx
  go_wp2_with fail
  refine (HWX.out).mono ?_
  rintro e w' ⟨rfl, rfl⟩
  go_wp2_with fail
  refine (toEq (congrArg Value.bool eB'.out) (equal_any Rf_15.out Rx_15.out (bX.out.floor) (bX.out.mono (by omega)) (by omega))).mono ?_
  rintro e w16 ⟨rfl, hb16⟩
  have HB16 := Lib.hid (below_keep HB15.out hb16)
  clear hb16
  go_wp2_with fail
  refine (HM.out _ HB16.out).mono ?_
  rintro e w17 ⟨rfl, hb17⟩
  have HB17 := Lib.hid (below_keep HB16.out hb17)
  clear hb17
  go_wp2
  go_ret
  exact ⟨rfl, HB17.out⟩

set_option maxHeartbeats 16000000 in
set_option maxRecDepth 100000 in
theorem orders_eqgt (X Y Z : Rat) (a b c : Option Addr) (m n k : Nat) (p q r : Nat) (w0 : World) (hm : Ml w0) (h1 : m ≤ 12) (h2 : n ≤ 12) (h3 : k ≤ 12) (bX : Bd 1000 X) (bY : Bd 1000 Y) (bZ : Bd 1000 Z)
    (cX : ∀ w, Below w0.heap.size w0 w → Calls Tryz.prog 40 #[.slice a m p] w (RetR X w)) (cY : ∀ w, Below w0.heap.size w0 w → Calls Tryz.prog 40 #[.slice b n q] w (RetR Y w))
    (cZ : ∀ w, Below w0.heap.size w0 w → Calls Tryz.prog 40 #[.slice c k r] w (RetR Z w)) (S2 S3 SF SG : Int) (B : Bool)
    (e1 : sgnQ (X - Y) = 0) (e2 : sgnQ (Y - Z) = S2) (e3 : sgnQ (X - Z) = S3) (eF : sgnQ (flQ X - X) = SF) (eG : sgnQ (flQ X - (X - 1)) = SG) (eB : decide (X.den = 1) = B)
    (h12 : decide (S2 ≤ 0) = false) (hXY : Y = X) :
    Calls Tryz.prog 10 #[.slice a m p, .slice b n q, .slice c k r] w0 (RetV (.bool true) w0) := by
  have e1' : sgnQ (Y - X) = -(0) := by rw [sgnQ_swap, e1]
  have hF : decide (SF ≤ 0) = true := by rw [← eF, decide_eq_true_eq, sgnQ_le]; exact flQ_le X
  have hG : decide (0 < SG) = true := by rw [← eG, decide_eq_true_eq, sgnQ_pos]; exact flQ_gt X
  have eB' : decide (flQ X = X) = B := by rw [← eB]; exact decide_eq_decide.2 (flQ_whole X).symm
  have bone : Bd 1 (1 : Rat) := Bd.one
  have bone := Lib.hid bone
  have HB0 := Lib.hid (Below.refl w0.heap.size w0)
  have HM := Lib.hid (fun w1 (h : Below w0.heap.size w0 w1) => works_any w1 (hm.later h))
  have HX := Lib.hid cX
  have HYC := Lib.hid cY
  have HZ := Lib.hid cZ
  have bX := Lib.hid bX
  have bY := Lib.hid bY
  have bZ := Lib.hid bZ
  have e1 := Lib.hid e1
  have e1' := Lib.hid e1'
  have e2 := Lib.hid e2
  have e3 := Lib.hid e3
  have eF := Lib.hid eF
  have eG := Lib.hid eG
  have eB := Lib.hid eB
  have eB' := Lib.hid eB'
  rename_i t1 t2 t3 t4 t5 t6 t7 t8 t9 t10 t11
  clear t1 t2 t3 t4 t5 t6 t7 t8 t9 t10 t11 hm cX cY cZ
  go_enter Tryz.func10, Tryz.ntmps10
  go_wp2_with fail
  refine (HX.out _ HB0.out).mono ?_
  rintro e w1 ⟨v1, rfl, hv1, hb1⟩
  have HB1 := Lib.hid (below_keep HB0.out hb1)
  have Rx_1 := Lib.hid hv1
  obtain ⟨g1, vn1, vd1, hs1, -⟩ := hv1
  subst hs1
  clear hb1
  go_wp2_with fail
  refine (HYC.out _ HB1.out).mono ?_
  rintro e w2 ⟨v2, rfl, hv2, hb2⟩
  have HB2 := Lib.hid (below_keep HB1.out hb2)
  have Rx_2 := Lib.hid (Rx_1.out.later hb2)
  have Ry_2 := Lib.hid hv2
  obtain ⟨g2, vn2, vd2, hs2, -⟩ := hv2
  subst hs2
  clear hb2
  go_wp2_with fail
  refine (HZ.out _ HB2.out).mono ?_
  rintro e w3 ⟨v3, rfl, hv3, hb3⟩
  have HB3 := Lib.hid (below_keep HB2.out hb3)
  have Rx_3 := Lib.hid (Rx_2.out.later hb3)
  have Ry_3 := Lib.hid (Ry_2.out.later hb3)
  have Rz_3 := Lib.hid hv3
  obtain ⟨g3, vn3, vd3, hs3, -⟩ := hv3
  subst hs3
  clear hb3
  go_wp2_with fail
  refine (of_any 1 1 _ (by decide) (by decide) (by decide) (by decide) (by decide)).mono ?_
  rintro e w4 ⟨v4, rfl, hv4, hb4⟩
  have HB4 := Lib.hid (below_keep HB3.out hb4)
  have Rx_4 := Lib.hid (Rx_3.out.later hb4)
  have Ry_4 := Lib.hid (Ry_3.out.later hb4)
  have Rz_4 := Lib.hid (Rz_3.out.later hb4)
  have Ro_4 := Lib.hid hv4
  obtain ⟨g4, vn4, vd4, hs4, -⟩ := hv4
  subst hs4
  clear hb4
  rw [quoQ_one] at Ro_4
  go_wp2_with fail
  refine (toEq (congrArg (Value.int .i64) e1.out) (cmpR_any Rx_4.out Ry_4.out (bX.out.smR (by omega)) (bY.out.smR (by omega)) (bX.out.smM bY.out (by omega)))).mono ?_
  rintro e w5 ⟨rfl, hb5⟩
  have HB5 := Lib.hid (below_keep HB4.out hb5)
  have Rx_5 := Lib.hid (Rx_4.out.later hb5)
  have Ry_5 := Lib.hid (Ry_4.out.later hb5)
  have Rz_5 := Lib.hid (Rz_4.out.later hb5)
  have Ro_5 := Lib.hid (Ro_4.out.later hb5)
  clear hb5
  go_wp2_with fail
  refine (toEq (congrArg (Value.int .i64) e2.out) (cmpR_any Ry_5.out Rz_5.out (bY.out.smR (by omega)) (bZ.out.smR (by omega)) (bY.out.smM bZ.out (by omega)))).mono ?_
  rintro e w6 ⟨rfl, hb6⟩
  have HB6 := Lib.hid (below_keep HB5.out hb6)
  have Rx_6 := Lib.hid (Rx_5.out.later hb6)
  have Ry_6 := Lib.hid (Ry_5.out.later hb6)
  have Rz_6 := Lib.hid (Rz_5.out.later hb6)
  have Ro_6 := Lib.hid (Ro_5.out.later hb6)
  clear hb6
  go_wp2_with fail
  refine (toEq (congrArg (Value.int .i64) e3.out) (cmpR_any Rx_6.out Rz_6.out (bX.out.smR (by omega)) (bZ.out.smR (by omega)) (bX.out.smM bZ.out (by omega)))).mono ?_
  rintro e w7 ⟨rfl, hb7⟩
  have HB7 := Lib.hid (below_keep HB6.out hb7)
  have Rx_7 := Lib.hid (Rx_6.out.later hb7)
  have Ry_7 := Lib.hid (Ry_6.out.later hb7)
  have Ro_7 := Lib.hid (Ro_6.out.later hb7)
  clear hb7
  go_wp2_with fail
  refine (toEq (congrArg (Value.int .i64) e1'.out) (cmpR_any Ry_7.out Rx_7.out (bY.out.smR (by omega)) (bX.out.smR (by omega)) (bY.out.smM bX.out (by omega)))).mono ?_
  rintro e w8 ⟨rfl, hb8⟩
  have HB8 := Lib.hid (below_keep HB7.out hb8)
  have Rx_8 := Lib.hid (Rx_7.out.later hb8)
  have Ry_8 := Lib.hid (Ry_7.out.later hb8)
  have Ro_8 := Lib.hid (Ro_7.out.later hb8)
  clear hb8
  go_wp2_with fail
  refine (subR_any Rx_8.out Ry_8.out (bX.out.smR (by omega)) (bY.out.smR (by omega)) (bX.out.smM bY.out (by omega))).mono ?_
  rintro e w9 ⟨v9, rfl, hv9, hb9⟩
  have HB9 := Lib.hid (below_keep HB8.out hb9)
  have Rx_9 := Lib.hid (Rx_8.out.later hb9)
  have Ry_9 := Lib.hid (Ry_8.out.later hb9)
  have Ro_9 := Lib.hid (Ro_8.out.later hb9)
  have Rd_9 := Lib.hid hv9
  obtain ⟨g9, vn9, vd9, hs9, -⟩ := hv9
  subst hs9
  clear hb9
  have hsg := sign_any Rd_9.out
  rw [e1.out] at hsg
  have HSG := Lib.hid hsg
  clear hsg
  go_wp2_with fail
  refine (HSG.out).mono ?_
  rintro e w' ⟨rfl, rfl⟩
  go_wp2_with fail
  refine (ratText_any Rx_9.out (bX.out.smR (by omega))).mono ?_
  rintro e w10 ⟨rfl, hb10⟩
  have HB10 := Lib.hid (below_keep HB9.out hb10)
  have Rx_10 := Lib.hid (Rx_9.out.later hb10)
  have Ry_10 := Lib.hid (Ry_9.out.later hb10)
  have Ro_10 := Lib.hid (Ro_9.out.later hb10)
  clear hb10
  go_wp2_with fail
  refine (hXY ▸ (ratText_any Ry_10.out (bY.out.smR (by omega)))).mono ?_
  rintro e w11 ⟨rfl, hb11⟩
  have HB11 := Lib.hid (below_keep HB10.out hb11)
  have Rx_11 := Lib.hid (Rx_10.out.later hb11)
  have Ry_11 := Lib.hid (Ry_10.out.later hb11)
  have Ro_11 := Lib.hid (Ro_10.out.later hb11)
  clear hb11
  go_wp2_with fail
  refine (floor_any Rx_11.out (bX.out.smR (by omega))).mono ?_
  rintro e w12 ⟨v12, rfl, hv12, hb12⟩
  have HB12 := Lib.hid (below_keep HB11.out hb12)
  have Rx_12 := Lib.hid (Rx_11.out.later hb12)
  have Ro_12 := Lib.hid (Ro_11.out.later hb12)
  have Rf_12 := Lib.hid hv12
  obtain ⟨g12, vn12, vd12, hs12, -⟩ := hv12
  subst hs12
  clear hb12
  have hwf := whole_any Rf_12.out
  rw [show decide ((flQ X).den = 1) = true from by rw [(flQ_parts X).2.1]; rfl] at hwf
  have HWF := Lib.hid hwf
  clear hwf
  go_wp2_with fail
  refine (HWF.out).mono ?_
  rintro e w' ⟨rfl, rfl⟩
  go_wp2_with fail
  refine (toEq (congrArg (Value.int .i64) eF.out) (cmpR_any Rf_12.out Rx_12.out (bX.out.floor.smR (by omega)) (bX.out.smR (by omega)) (bX.out.floor.smM bX.out (by omega)))).mono ?_
  rintro e w13 ⟨rfl, hb13⟩
  have HB13 := Lib.hid (below_keep HB12.out hb13)
  have Rx_13 := Lib.hid (Rx_12.out.later hb13)
  have Ro_13 := Lib.hid (Ro_12.out.later hb13)
  have Rf_13 := Lib.hid (Rf_12.out.later hb13)
  clear hb13
  go_wp2_with fail
  refine (subR_any Rx_13.out Ro_13.out (bX.out.smR (by omega)) (bone.out.smR (by omega)) (bX.out.smM bone.out (by omega))).mono ?_
  rintro e w14 ⟨v14, rfl, hv14, hb14⟩
  have HB14 := Lib.hid (below_keep HB13.out hb14)
  have Rx_14 := Lib.hid (Rx_13.out.later hb14)
  have Rf_14 := Lib.hid (Rf_13.out.later hb14)
  have Rd_14 := Lib.hid hv14
  obtain ⟨g14, vn14, vd14, hs14, -⟩ := hv14
  subst hs14
  clear hb14
  go_wp2_with fail
  refine (toEq (congrArg (Value.int .i64) eG.out) (cmpR_any Rf_14.out Rd_14.out (bX.out.floor.smR (by omega)) ((bX.out.sub bone.out).smR (by omega)) (bX.out.floor.smM (bX.out.sub bone.out) (by omega)))).mono ?_
  rintro e w15 ⟨rfl, hb15⟩
  have HB15 := Lib.hid (below_keep HB14.out hb15)
  have Rx_15 := Lib.hid (Rx_14.out.later hb15)
  have Rf_15 := Lib.hid (Rf_14.out.later hb15)
  clear hb15
  have hwx := whole_any Rx_15.out
  rw [eB.out] at hwx
  have HWX := Lib.hid hwx
  clear hwx
  go_wp2_with fail
  refine (HWX.out).mono ?_
  rintro e w' ⟨rfl, rfl⟩
  go_wp2_with fail
  refine (toEq (congrArg Value.bool eB'.out) (equal_any Rf_15.out Rx_15.out (bX.out.floor) (bX.out.mono (by omega)) (by omega))).mono ?_
  rintro e w16 ⟨rfl, hb16⟩
  have HB16 := Lib.hid (below_keep HB15.out hb16)
  clear hb16
  go_wp2_with fail
  refine (HM.out _ HB16.out).mono ?_
  rintro e w17 ⟨rfl, hb17⟩
  have HB17 := Lib.hid (below_keep HB16.out hb17)
  clear hb17
  go_wp2
  go_ret
  exact ⟨rfl, HB17.out⟩
end Go.Proofs.YtemhidlaaommaaaGreatDoor
