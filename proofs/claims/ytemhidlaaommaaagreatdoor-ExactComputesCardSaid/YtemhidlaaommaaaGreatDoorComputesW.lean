/- ExactComputes: the walk. (printed by gen_computes.py) -/
import Derived.Test.YtemhidlaaommaaaGreatDoorParsesW
import Derived.Test.YtemhidlaaommaaaGreatDoorRefM
import Derived.Test.YtemhidlaaommaaaGreatDoorRefN
import Derived.Test.YtemhidlaaommaaaGreatDoorRefO
namespace Go.Proofs.YtemhidlaaommaaaGreatDoor
open Go.RowKit

theorem computes_big (s t : ByteArray) (w : World) (hm : Ml w) (h : 200 < s.size ∨ 200 < t.size) :
    Calls Tryz.prog 5 #[.string s, .string t] w (RetV (.bool true) w) := by
  have C := Lib.hid (works_any w hm)
  have h' : decide ((200 : Int) < (s.size : Int)) = true ∨ (decide ((200 : Int) < (s.size : Int)) = false ∧ decide ((200 : Int) < (t.size : Int)) = true) := by
    by_cases h3 : 200 < s.size
    · left; rw [decide_eq_true_eq]; omega
    · right; rw [decide_eq_false_iff_not, decide_eq_true_eq]; omega
  clear h hm
  rcases h' with h1 | ⟨h1, h2⟩
  all_goals
    go_enter Tryz.func5, Tryz.ntmps5
    go_wp2_with fail
    refine C.out.mono ?_
    rintro e w1 ⟨rfl, hb⟩
    go_wp2
    go_ret
    exact ⟨rfl, hb⟩

def RetF9 (z : Int) (w : World) (e : Ending) (w' : World) : Prop := ∃ b a n c a' n' c', e = .returned (.tuple #[.agg #[.bool b, .slice a n c, .slice a' n' c'], .int .i64 z]) ∧ Below w.heap.size w w'
theorem parse9_form (s : ByteArray) (w : World) (h : s.size ≤ 200) :
    Calls Tryz.prog 23 #[.string s] w (RetF9 (if (parseQ s.data.toList).isSome then 0 else 7) w) := by
  refine (parse9_any s w (by omega)).mono ?_
  intro e w' hr
  cases hq : parseQ s.data.toList with
  | some q =>
    rw [hq] at hr
    obtain ⟨v, rfl, ⟨vn, vd, rfl, hn, hd⟩, hb⟩ := hr
    obtain ⟨a, n1, cap, rfl, -⟩ := hn.shape (by decide)
    obtain ⟨a', n', cap', rfl, -⟩ := hd.shape (by decide)
    exact ⟨_, _, _, _, _, _, _, rfl, hb⟩
  | none =>
    rw [hq] at hr
    obtain ⟨rfl, hb⟩ := hr
    exact ⟨_, _, _, _, _, _, _, rfl, hb⟩

set_option maxHeartbeats 1600000 in
theorem computes_none (s t : ByteArray) (y z : Int) (w : World) (hm : Ml w) (h1 : s.size ≤ 200) (h2 : t.size ≤ 200) (h : (y != 0) = true ∨ ((y != 0) = false ∧ (z != 0) = true))
    (c1 : ∀ w1, Calls Tryz.prog 23 #[.string s] w1 (RetF9 y w1)) (c2 : ∀ w1, Calls Tryz.prog 23 #[.string t] w1 (RetF9 z w1)) :
    Calls Tryz.prog 5 #[.string s, .string t] w (RetV (.bool true) w) := by
  have HM := Lib.hid (fun w1 (h : Below w.heap.size w w1) => works_any w1 (hm.later h))
  have C1 := Lib.hid c1
  have C2 := Lib.hid c2
  have h3 : decide ((200 : Int) < (s.size : Int)) = false := by rw [decide_eq_false_iff_not]; omega
  have h4 : decide ((200 : Int) < (t.size : Int)) = false := by rw [decide_eq_false_iff_not]; omega
  clear hm h1 h2 c1 c2
  rcases h with h5 | ⟨h5, h6⟩
  all_goals
    go_enter Tryz.func5, Tryz.ntmps5
    go_wp2_with fail
    refine (C1.out _).mono ?_
    rintro e w1 ⟨b1, a1, n1, c1, a1', n1', c1', rfl, hb1⟩
    have HB1 := Lib.hid (hb1.alloc hb1.size (.cells #[.bool b1, .slice a1 n1 c1, .slice a1' n1' c1'] 28))
    clear hb1
    go_wp2_with fail
    refine (C2.out _).mono ?_
    rintro e w2 ⟨b2, a2, n2, c2, a2', n2', c2', rfl, hb2⟩
    have hB2 := below_keep HB1.out hb2
    have HB2 := Lib.hid (hB2.alloc hB2.size (.cells #[.bool b2, .slice a2 n2 c2, .slice a2' n2' c2'] 28))
    have C3 := Lib.hid (HM.out _ HB2.out)
    clear hb2 hB2
    go_wp2_with fail
    refine C3.out.mono ?_
    rintro e w3 ⟨rfl, hb3⟩
    have HB3 := Lib.hid (below_keep HB2.out hb3)
    clear hb3
    go_wp2
    go_ret
    exact ⟨rfl, HB3.out⟩

set_option maxHeartbeats 16000000 in
set_option maxRecDepth 100000 in
theorem computes_zero (s t : ByteArray) (p q : Rat) (w : World) (hm : Ml w) (h1 : s.size ≤ 200) (h2 : t.size ≤ 200) (hp : parseQ s.data.toList = some p) (hq : parseQ t.data.toList = some q) (h0 : q = 0) :
    Calls Tryz.prog 5 #[.string s, .string t] w (RetV (.bool true) w) := by
  have HM := Lib.hid (fun w1 (h : Below w.heap.size w w1) => works_any w1 (hm.later h))
  have c1 := fun w1 => parse9_any s w1 (by omega)
  have c2 := fun w1 => parse9_any t w1 (by omega)
  have c3 := fun w1 (h : Below w.heap.size w w1) => parse_any s w1 (by omega) (hm.later h)
  have c4 := fun w1 (h : Below w.heap.size w w1) => parse_any t w1 (by omega) (hm.later h)
  simp only [hp] at c1 c3
  simp only [hq] at c2 c4
  have C1 := Lib.hid c1
  have C2 := Lib.hid c2
  have C3 := Lib.hid c3
  have C4 := Lib.hid c4
  have BP := Lib.hid (parse_bd (K := 200) hp (by rw [lenB]; exact h1))
  have BQ := Lib.hid (parse_bd (K := 200) hq (by rw [lenB]; exact h2))
  have H0 := Lib.hid h0
  have h3 : decide ((200 : Int) < (s.size : Int)) = false := by rw [decide_eq_false_iff_not]; omega
  have h4 : decide ((200 : Int) < (t.size : Int)) = false := by rw [decide_eq_false_iff_not]; omega
  clear hm h1 h2 c1 c2 c3 c4 hp hq h0
  go_enter Tryz.func5, Tryz.ntmps5
  go_wp2_with fail
  refine (C1.out _).mono ?_
  rintro e w1 ⟨v1, rfl, ⟨vn, vd, rfl, hn, hd⟩, hb1⟩
  obtain ⟨a1, n1, k1, rfl, -⟩ := hn.shape (by decide)
  obtain ⟨a2, n2, k2, rfl, -⟩ := hd.shape (by decide)
  obtain ⟨b, hb⟩ : ∃ b, b = qneg p := ⟨_, rfl⟩
  rw [← hb]
  obtain ⟨P, p0, PK, PD, PG⟩ := boxP 28 hb hn hd
  have P0 := Lib.hid p0
  have HB := Lib.hid hb
  have HB1 := Lib.hid hb1
  clear hn hd p0 hb1 C1 hb
  go_wp2_with fail
  refine (C2.out _).mono ?_
  rintro e w2 ⟨v2, rfl, ⟨un, ud, rfl, kn, kd⟩, hb2⟩
  obtain ⟨a3, n3, k3, rfl, -⟩ := kn.shape (by decide)
  obtain ⟨a4, n4, k4, rfl, -⟩ := kd.shape (by decide)
  obtain ⟨c, hc⟩ : ∃ c, c = qneg q := ⟨_, rfl⟩
  rw [← hc]
  obtain ⟨Q, q0, QK, QD, QG⟩ := boxP 28 hc kn kd
  have Q0 := Lib.hid q0
  have HC := Lib.hid hc
  have P2 := Lib.hid (PK.out _ _ (PK.out _ _ P0.out hb2) (below_alloc w2 (.cells #[.bool c, .slice a3 n3 k3, .slice a4 n4 k4] 28)))
  clear kn kd q0 hb2 C2 hc
  go_wp2_with fail
  refine (C3.out _ (below_keep HB1.out (PG.out _ P2.out).2)).mono ?_
  rintro e w3 ⟨v3, rfl, hv3, hb3⟩
  have P3 := Lib.hid (PK.out _ _ P2.out hb3)
  have Q3 := Lib.hid (QK.out _ _ Q0.out hb3)
  have X3 := Lib.hid hv3
  obtain ⟨g3, xn3, xd3, hs3, -⟩ := hv3
  subst hs3
  clear hb3 C3
  go_wp2_with fail
  refine (C4.out _ (below_keep HB1.out (PG.out _ P3.out).2)).mono ?_
  rintro e w4 ⟨v4, rfl, hv4, hb4⟩
  obtain ⟨PP, hPP⟩ : ∃ PP : World → Prop, PP = fun w' => P w' ∧ Q w' ∧ Below w4.heap.size w4 w' := ⟨_, rfl⟩
  have R4 := Lib.hid (show PP w4 from hPP ▸ ⟨PK.out _ _ P3.out hb4, QK.out _ _ Q3.out hb4, Below.refl _ _⟩)
  have RK : Hid (∀ w1 w2, PP w1 → Below w1.heap.size w1 w2 → PP w2) := fun y z h hb => by
    rw [hPP] at h ⊢
    exact ⟨PK.out _ _ h.1 hb, QK.out _ _ h.2.1 hb, below_keep h.2.2 hb⟩
  have RD : Hid (∀ w1, PP w1 → PP w1.drew) := fun y h => by
    rw [hPP] at h ⊢
    exact ⟨PD.out _ h.1, QD.out _ h.2.1, h.2.2.drew⟩
  have RW : Hid (∀ w1, PP w1 → Below w.heap.size w w1) := fun y h => by
    rw [hPP] at h
    exact below_keep HB1.out (PG.out _ h.1).2
  have XP : Hid (∀ w1, PP w1 → IsR w1 (.pointer (some ⟨g3, 0, none⟩)) p) := fun y h => by
    rw [hPP] at h
    exact (X3.out.later hb4).later h.2.2
  have XQ : Hid (∀ w1, PP w1 → IsR w1 v4 q) := fun y h => by
    rw [hPP] at h
    exact hv4.later h.2.2
  have YP : Hid (∀ w1, PP w1 → Q9 w1 (.agg #[.bool b, .slice a1 n1 k1, .slice a2 n2 k2]) p) := fun y h => by
    rw [hPP] at h
    exact ⟨_, _, by rw [HB.out], (PG.out _ h.1).1.isNum, (PG.out _ h.1).1.isDen⟩
  have YQ : Hid (∀ w1, PP w1 → Q9 w1 (.agg #[.bool c, .slice a3 n3 k3, .slice a4 n4 k4]) q) := fun y h => by
    rw [hPP] at h
    exact ⟨_, _, by rw [HC.out], (QG.out _ h.2.1).1.isNum, (QG.out _ h.2.1).1.isDen⟩
  have KD : Hid (∀ y, PP y → y.cell? ⟨w1.heap.size, 0, none⟩ = some (.bool b) ∧ y.cell? ⟨w1.heap.size, 1, none⟩ = some (.slice a1 n1 k1) ∧ y.cell? ⟨w1.heap.size, 2, none⟩ = some (.slice a2 n2 k2) ∧ y.cell? ⟨w2.heap.size, 0, none⟩ = some (.bool c) ∧ y.cell? ⟨w2.heap.size, 1, none⟩ = some (.slice a3 n3 k3) ∧ y.cell? ⟨w2.heap.size, 2, none⟩ = some (.slice a4 n4 k4) ∧ PP y) := fun y h => by
    have h' := h
    rw [hPP] at h'
    obtain ⟨⟨e1, e2, e3, -, -⟩, -⟩ := PG.out _ h'.1
    obtain ⟨⟨e4, e5, e6, -, -⟩, -⟩ := QG.out _ h'.2.1
    exact ⟨e1, e2, e3, e4, e5, e6, h⟩
  obtain ⟨g4, xn4, xd4, hs4, -⟩ := hv4
  subst hs4
  have M : Hid (SmR p ∧ SmR q ∧ SmM p q) := ⟨BP.out.smR (by omega), BQ.out.smR (by omega), BP.out.smM BQ.out (by omega)⟩
  have A1 := Lib.hid (fun y (h : PP y) => addR_any (XP.out y h) (XQ.out y h) M.out.1 M.out.2.1 M.out.2.2)
  have A2 := Lib.hid (fun y (h : PP y) => add9R_any (YP.out y h) (YQ.out y h) BP.out BQ.out (by omega))
  have S1 := Lib.hid (fun y (h : PP y) => subR_any (XP.out y h) (XQ.out y h) M.out.1 M.out.2.1 M.out.2.2)
  have S2 := Lib.hid (fun y (h : PP y) => sub9R_any (YP.out y h) (YQ.out y h) BP.out BQ.out (by omega))
  have M1 := Lib.hid (fun y (h : PP y) => mulR_any (XP.out y h) (XQ.out y h) M.out.1 M.out.2.1 M.out.2.2)
  have M2 := Lib.hid (fun y (h : PP y) => mul9R_any (YP.out y h) (YQ.out y h) BP.out BQ.out (by omega))
  obtain ⟨z, hz⟩ : ∃ z, z = sgnQ (p - q) := ⟨_, rfl⟩
  have CM1 : Hid (∀ y, PP y → Calls Tryz.prog 32 #[.pointer (some ⟨g3, 0, none⟩), .pointer (some ⟨g4, 0, none⟩)] y (RetV (.int .i64 z) y)) := fun y h => hz ▸ cmpR_any (XP.out y h) (XQ.out y h) M.out.1 M.out.2.1 M.out.2.2
  have CM2 : Hid (∀ y, PP y → Calls Tryz.prog 33 #[.agg #[.bool b, .slice a1 n1 k1, .slice a2 n2 k2], .agg #[.bool c, .slice a3 n3 k3, .slice a4 n4 k4]] y (RetV (.int .i64 z) y)) := fun y h => hz ▸ cmp9R_any (YP.out y h) (YQ.out y h) BP.out BQ.out (by omega)
  have EP := Lib.hid (fun y (h : PP y) => same_any (XP.out y h) (YP.out y h) BP.out (by omega))
  have EQ := Lib.hid (fun y (h : PP y) => same_any (XQ.out y h) (YQ.out y h) BQ.out (by omega))
  have EA := Lib.hid (fun y v u (h1 : IsR y v (p + q)) (h2 : Q9 y u (p + q)) => same_any h1 h2 (BP.out.add BQ.out) (by omega))
  have ES := Lib.hid (fun y v u (h1 : IsR y v (p - q)) (h2 : Q9 y u (p - q)) => same_any h1 h2 (BP.out.sub BQ.out) (by omega))
  have EM := Lib.hid (fun y v u (h1 : IsR y v (p * q)) (h2 : Q9 y u (p * q)) => same_any h1 h2 (BP.out.mul BQ.out) (by omega))
  have HM2 := Lib.hid (fun y (h : PP y) => HM.out y (RW.out y h))
  have ez : (z == z) = true := by simp
  have QQ := Lib.hid (fun y (h : PP y) => quoR_zero (XP.out y h) (H0.out ▸ XQ.out y h))
  have Q2 := Lib.hid (fun y (h : PP y) => quo9R_zero (YP.out y h) (H0.out ▸ YQ.out y h))
  clear hPP hb4 hz C4 HM P0 Q0 P2 P3 Q3 X3 HB HC PK PD PG QK QD QG HB1
  go_wp2_with fail
  refine (QQ.out _ R4.out).mono ?_
  rintro e w5 ⟨rfl, rfl⟩
  obtain ⟨k0, l1, l2, l3, l4, l5, -⟩ := KD.out _ R4.out
  go_wp2_with fail
  refine (Q2.out _ R4.out).mono ?_
  rintro e w6 ⟨rfl, hb6⟩
  have R6 := Lib.hid (RK.out _ _ (RK.out _ _ R4.out hb6) (below_alloc w6 (.cells #[.bool false, .slice none 0 0, .slice none 0 0] 28)))
  clear hb6 k0 l1 l2 l3 l4 l5
  have hP0 := RD.out _ R6.out
  go_wp2_with fail
  go_region_held3 (fun w' => w'.cell? ⟨w1.heap.size, 0, none⟩ = some (.bool b) ∧ w'.cell? ⟨w1.heap.size, 1, none⟩ = some (.slice a1 n1 k1) ∧ w'.cell? ⟨w1.heap.size, 2, none⟩ = some (.slice a2 n2 k2) ∧ w'.cell? ⟨w2.heap.size, 0, none⟩ = some (.bool c) ∧ w'.cell? ⟨w2.heap.size, 1, none⟩ = some (.slice a3 n3 k3) ∧ w'.cell? ⟨w2.heap.size, 2, none⟩ = some (.slice a4 n4 k4) ∧ PP w')
    (exact KD.out _ (by assumption))
    (first
      | (go_at_call 26; refine (A1.out _ hP0).mono ?_; rintro e x1 ⟨va, rfl, hva, hb1⟩; have hP1 := RK.out _ _ hP0 hb1)
      | (go_at_call 27; refine (A2.out _ hP1).mono ?_; rintro e x2 ⟨vb, rfl, hvb, hb2⟩; have hP2 := RK.out _ _ hP1 hb2; have hva2 := hva.later hb2)
      | (go_at_call_of 21 va; refine (EA.out _ _ _ hva2 hvb).mono ?_; rintro e x3 ⟨rfl, hb3⟩; have hP3 := RK.out _ _ hP2 hb3)
      | (go_at_call 28; refine (S1.out _ hP3).mono ?_; rintro e x4 ⟨vc, rfl, hvc, hb4⟩; have hP4 := RK.out _ _ hP3 hb4)
      | (go_at_call 29; refine (S2.out _ hP4).mono ?_; rintro e x5 ⟨vd, rfl, hvd, hb5⟩; have hP5 := RK.out _ _ hP4 hb5; have hvc2 := hvc.later hb5)
      | (go_at_call_of 21 vc; refine (ES.out _ _ _ hvc2 hvd).mono ?_; rintro e x6 ⟨rfl, hb6⟩; have hP6 := RK.out _ _ hP5 hb6)
      | (go_at_call 30; refine (M1.out _ hP6).mono ?_; rintro e x7 ⟨ve, rfl, hve, hb7⟩; have hP7 := RK.out _ _ hP6 hb7)
      | (go_at_call 31; refine (M2.out _ hP7).mono ?_; rintro e x8 ⟨vf, rfl, hvf, hb8⟩; have hP8 := RK.out _ _ hP7 hb8; have hve2 := hve.later hb8)
      | (go_at_call_of 21 ve; refine (EM.out _ _ _ hve2 hvf).mono ?_; rintro e x9 ⟨rfl, hb9⟩; have hP9 := RK.out _ _ hP8 hb9)
      | (go_at_call 32; refine (CM1.out _ hP9).mono ?_; rintro e x10 ⟨rfl, hb10⟩; have hP10 := RK.out _ _ hP9 hb10)
      | (go_at_call 33; refine (CM2.out _ hP10).mono ?_; rintro e x11 ⟨rfl, hb11⟩; have hP11 := RK.out _ _ hP10 hb11)
      | (go_at_call_of 21 (Value.pointer (some ⟨g3, 0, none⟩)); refine (EP.out _ hP11).mono ?_; rintro e x12 ⟨rfl, hb12⟩; have hP12 := RK.out _ _ hP11 hb12)
      | (go_at_call_of 21 (Value.pointer (some ⟨g4, 0, none⟩)); refine (EQ.out _ hP12).mono ?_; rintro e x13 ⟨rfl, hb13⟩; have hP13 := RK.out _ _ hP12 hb13)
      | (go_at_call 20; refine (HM2.out _ hP13).mono ?_; rintro e x14 ⟨rfl, hb14⟩; have hP14 := RK.out _ _ hP13 hb14))
  have R9 := Lib.hid hP14
  go_wp2
  go_ret
  exact ⟨rfl, RW.out _ R9.out⟩

set_option maxHeartbeats 16000000 in
set_option maxRecDepth 100000 in
theorem computes_some (s t : ByteArray) (p q : Rat) (w : World) (hm : Ml w) (h1 : s.size ≤ 200) (h2 : t.size ≤ 200) (hp : parseQ s.data.toList = some p) (hq : parseQ t.data.toList = some q) (h0 : q ≠ 0) :
    Calls Tryz.prog 5 #[.string s, .string t] w (RetV (.bool true) w) := by
  have HM := Lib.hid (fun w1 (h : Below w.heap.size w w1) => works_any w1 (hm.later h))
  have c1 := fun w1 => parse9_any s w1 (by omega)
  have c2 := fun w1 => parse9_any t w1 (by omega)
  have c3 := fun w1 (h : Below w.heap.size w w1) => parse_any s w1 (by omega) (hm.later h)
  have c4 := fun w1 (h : Below w.heap.size w w1) => parse_any t w1 (by omega) (hm.later h)
  simp only [hp] at c1 c3
  simp only [hq] at c2 c4
  have C1 := Lib.hid c1
  have C2 := Lib.hid c2
  have C3 := Lib.hid c3
  have C4 := Lib.hid c4
  have BP := Lib.hid (parse_bd (K := 200) hp (by rw [lenB]; exact h1))
  have BQ := Lib.hid (parse_bd (K := 200) hq (by rw [lenB]; exact h2))
  have H0 := Lib.hid h0
  have h3 : decide ((200 : Int) < (s.size : Int)) = false := by rw [decide_eq_false_iff_not]; omega
  have h4 : decide ((200 : Int) < (t.size : Int)) = false := by rw [decide_eq_false_iff_not]; omega
  clear hm h1 h2 c1 c2 c3 c4 hp hq h0
  go_enter Tryz.func5, Tryz.ntmps5
  go_wp2_with fail
  refine (C1.out _).mono ?_
  rintro e w1 ⟨v1, rfl, ⟨vn, vd, rfl, hn, hd⟩, hb1⟩
  obtain ⟨a1, n1, k1, rfl, -⟩ := hn.shape (by decide)
  obtain ⟨a2, n2, k2, rfl, -⟩ := hd.shape (by decide)
  obtain ⟨b, hb⟩ : ∃ b, b = qneg p := ⟨_, rfl⟩
  rw [← hb]
  obtain ⟨P, p0, PK, PD, PG⟩ := boxP 28 hb hn hd
  have P0 := Lib.hid p0
  have HB := Lib.hid hb
  have HB1 := Lib.hid hb1
  clear hn hd p0 hb1 C1 hb
  go_wp2_with fail
  refine (C2.out _).mono ?_
  rintro e w2 ⟨v2, rfl, ⟨un, ud, rfl, kn, kd⟩, hb2⟩
  obtain ⟨a3, n3, k3, rfl, -⟩ := kn.shape (by decide)
  obtain ⟨a4, n4, k4, rfl, -⟩ := kd.shape (by decide)
  obtain ⟨c, hc⟩ : ∃ c, c = qneg q := ⟨_, rfl⟩
  rw [← hc]
  obtain ⟨Q, q0, QK, QD, QG⟩ := boxP 28 hc kn kd
  have Q0 := Lib.hid q0
  have HC := Lib.hid hc
  have P2 := Lib.hid (PK.out _ _ (PK.out _ _ P0.out hb2) (below_alloc w2 (.cells #[.bool c, .slice a3 n3 k3, .slice a4 n4 k4] 28)))
  clear kn kd q0 hb2 C2 hc
  go_wp2_with fail
  refine (C3.out _ (below_keep HB1.out (PG.out _ P2.out).2)).mono ?_
  rintro e w3 ⟨v3, rfl, hv3, hb3⟩
  have P3 := Lib.hid (PK.out _ _ P2.out hb3)
  have Q3 := Lib.hid (QK.out _ _ Q0.out hb3)
  have X3 := Lib.hid hv3
  obtain ⟨g3, xn3, xd3, hs3, -⟩ := hv3
  subst hs3
  clear hb3 C3
  go_wp2_with fail
  refine (C4.out _ (below_keep HB1.out (PG.out _ P3.out).2)).mono ?_
  rintro e w4 ⟨v4, rfl, hv4, hb4⟩
  obtain ⟨PP, hPP⟩ : ∃ PP : World → Prop, PP = fun w' => P w' ∧ Q w' ∧ Below w4.heap.size w4 w' := ⟨_, rfl⟩
  have R4 := Lib.hid (show PP w4 from hPP ▸ ⟨PK.out _ _ P3.out hb4, QK.out _ _ Q3.out hb4, Below.refl _ _⟩)
  have RK : Hid (∀ w1 w2, PP w1 → Below w1.heap.size w1 w2 → PP w2) := fun y z h hb => by
    rw [hPP] at h ⊢
    exact ⟨PK.out _ _ h.1 hb, QK.out _ _ h.2.1 hb, below_keep h.2.2 hb⟩
  have RD : Hid (∀ w1, PP w1 → PP w1.drew) := fun y h => by
    rw [hPP] at h ⊢
    exact ⟨PD.out _ h.1, QD.out _ h.2.1, h.2.2.drew⟩
  have RW : Hid (∀ w1, PP w1 → Below w.heap.size w w1) := fun y h => by
    rw [hPP] at h
    exact below_keep HB1.out (PG.out _ h.1).2
  have XP : Hid (∀ w1, PP w1 → IsR w1 (.pointer (some ⟨g3, 0, none⟩)) p) := fun y h => by
    rw [hPP] at h
    exact (X3.out.later hb4).later h.2.2
  have XQ : Hid (∀ w1, PP w1 → IsR w1 v4 q) := fun y h => by
    rw [hPP] at h
    exact hv4.later h.2.2
  have YP : Hid (∀ w1, PP w1 → Q9 w1 (.agg #[.bool b, .slice a1 n1 k1, .slice a2 n2 k2]) p) := fun y h => by
    rw [hPP] at h
    exact ⟨_, _, by rw [HB.out], (PG.out _ h.1).1.isNum, (PG.out _ h.1).1.isDen⟩
  have YQ : Hid (∀ w1, PP w1 → Q9 w1 (.agg #[.bool c, .slice a3 n3 k3, .slice a4 n4 k4]) q) := fun y h => by
    rw [hPP] at h
    exact ⟨_, _, by rw [HC.out], (QG.out _ h.2.1).1.isNum, (QG.out _ h.2.1).1.isDen⟩
  have KD : Hid (∀ y, PP y → y.cell? ⟨w1.heap.size, 0, none⟩ = some (.bool b) ∧ y.cell? ⟨w1.heap.size, 1, none⟩ = some (.slice a1 n1 k1) ∧ y.cell? ⟨w1.heap.size, 2, none⟩ = some (.slice a2 n2 k2) ∧ y.cell? ⟨w2.heap.size, 0, none⟩ = some (.bool c) ∧ y.cell? ⟨w2.heap.size, 1, none⟩ = some (.slice a3 n3 k3) ∧ y.cell? ⟨w2.heap.size, 2, none⟩ = some (.slice a4 n4 k4) ∧ PP y) := fun y h => by
    have h' := h
    rw [hPP] at h'
    obtain ⟨⟨e1, e2, e3, -, -⟩, -⟩ := PG.out _ h'.1
    obtain ⟨⟨e4, e5, e6, -, -⟩, -⟩ := QG.out _ h'.2.1
    exact ⟨e1, e2, e3, e4, e5, e6, h⟩
  obtain ⟨g4, xn4, xd4, hs4, -⟩ := hv4
  subst hs4
  have M : Hid (SmR p ∧ SmR q ∧ SmM p q) := ⟨BP.out.smR (by omega), BQ.out.smR (by omega), BP.out.smM BQ.out (by omega)⟩
  have A1 := Lib.hid (fun y (h : PP y) => addR_any (XP.out y h) (XQ.out y h) M.out.1 M.out.2.1 M.out.2.2)
  have A2 := Lib.hid (fun y (h : PP y) => add9R_any (YP.out y h) (YQ.out y h) BP.out BQ.out (by omega))
  have S1 := Lib.hid (fun y (h : PP y) => subR_any (XP.out y h) (XQ.out y h) M.out.1 M.out.2.1 M.out.2.2)
  have S2 := Lib.hid (fun y (h : PP y) => sub9R_any (YP.out y h) (YQ.out y h) BP.out BQ.out (by omega))
  have M1 := Lib.hid (fun y (h : PP y) => mulR_any (XP.out y h) (XQ.out y h) M.out.1 M.out.2.1 M.out.2.2)
  have M2 := Lib.hid (fun y (h : PP y) => mul9R_any (YP.out y h) (YQ.out y h) BP.out BQ.out (by omega))
  obtain ⟨z, hz⟩ : ∃ z, z = sgnQ (p - q) := ⟨_, rfl⟩
  have CM1 : Hid (∀ y, PP y → Calls Tryz.prog 32 #[.pointer (some ⟨g3, 0, none⟩), .pointer (some ⟨g4, 0, none⟩)] y (RetV (.int .i64 z) y)) := fun y h => hz ▸ cmpR_any (XP.out y h) (XQ.out y h) M.out.1 M.out.2.1 M.out.2.2
  have CM2 : Hid (∀ y, PP y → Calls Tryz.prog 33 #[.agg #[.bool b, .slice a1 n1 k1, .slice a2 n2 k2], .agg #[.bool c, .slice a3 n3 k3, .slice a4 n4 k4]] y (RetV (.int .i64 z) y)) := fun y h => hz ▸ cmp9R_any (YP.out y h) (YQ.out y h) BP.out BQ.out (by omega)
  have EP := Lib.hid (fun y (h : PP y) => same_any (XP.out y h) (YP.out y h) BP.out (by omega))
  have EQ := Lib.hid (fun y (h : PP y) => same_any (XQ.out y h) (YQ.out y h) BQ.out (by omega))
  have EA := Lib.hid (fun y v u (h1 : IsR y v (p + q)) (h2 : Q9 y u (p + q)) => same_any h1 h2 (BP.out.add BQ.out) (by omega))
  have ES := Lib.hid (fun y v u (h1 : IsR y v (p - q)) (h2 : Q9 y u (p - q)) => same_any h1 h2 (BP.out.sub BQ.out) (by omega))
  have EM := Lib.hid (fun y v u (h1 : IsR y v (p * q)) (h2 : Q9 y u (p * q)) => same_any h1 h2 (BP.out.mul BQ.out) (by omega))
  have HM2 := Lib.hid (fun y (h : PP y) => HM.out y (RW.out y h))
  have ez : (z == z) = true := by simp
  have QQ := Lib.hid (fun y (h : PP y) => quoR_any (XP.out y h) (XQ.out y h) M.out.1 M.out.2.1 M.out.2.2 H0.out)
  have Q2 := Lib.hid (fun y (h : PP y) => quo9R_any (YP.out y h) (YQ.out y h) BP.out BQ.out (by omega) H0.out)
  have EQQ := Lib.hid (fun y v u (h1 : IsR y v (p / q)) (h2 : Q9 y u (p / q)) => same_any h1 h2 (BP.out.quo BQ.out H0.out) (by omega))
  clear hPP hb4 hz C4 HM P0 Q0 P2 P3 Q3 X3 HB HC PK PD PG QK QD QG HB1
  go_wp2_with fail
  refine (QQ.out _ R4.out).mono ?_
  rintro e w5 ⟨v5, rfl, hv5, hb5⟩
  have R5 := Lib.hid (RK.out _ _ R4.out hb5)
  obtain ⟨k0, l1, l2, l3, l4, l5, -⟩ := KD.out _ R5.out
  have X5 := Lib.hid hv5
  obtain ⟨g5, xn5, xd5, hs5, -⟩ := hv5
  subst hs5
  clear hb5
  go_wp2_with fail
  refine (Q2.out _ R5.out).mono ?_
  rintro e w6 ⟨v6, rfl, hv6, hb6⟩
  have X6 := Lib.hid (X5.out.later hb6)
  have R6' := Lib.hid (RK.out _ _ R5.out hb6)
  obtain ⟨qn, qd, hs6, hqn, hqd⟩ := hv6
  obtain ⟨a7, n7, k7, hs7, -⟩ := hqn.shape (by decide)
  obtain ⟨a8, n8, k8, hs8, -⟩ := hqd.shape (by decide)
  obtain ⟨d, hd⟩ : ∃ d, d = qneg (p / q) := ⟨_, rfl⟩
  rw [← hd] at hs6
  subst hs7 hs8
  subst hs6
  have hal := below_alloc w6 (.cells #[.bool d, .slice a7 n7 k7, .slice a8 n8 k8] 28)
  have R6 := Lib.hid (RK.out _ _ R6'.out hal)
  have E6 := Lib.hid (EQQ.out _ _ (.agg #[.bool d, .slice a7 n7 k7, .slice a8 n8 k8]) (X6.out.later hal) ⟨_, _, by rw [hd], hqn.later hal, hqd.later hal⟩)
  have HC6 : (w6.alloc (.cells #[.bool d, .slice a7 n7 k7, .slice a8 n8 k8] 28)).cell? ⟨w6.heap.size, 0, none⟩ = some (.bool d) ∧ True := ⟨World.cell?_alloc_at _ _ _ _ rfl, trivial⟩
  clear hb6 k0 l1 l2 l3 l4 l5 hal hqn hqd hd HC6
  go_wp2_with fail
  refine E6.out.mono ?_
  rintro e w7 ⟨rfl, hb7⟩
  have R7 := Lib.hid (RK.out _ _ R6.out hb7)
  clear hb7
  have hP0 := RD.out _ R7.out
  go_wp2_with fail
  go_region_held3 (fun w' => w'.cell? ⟨w1.heap.size, 0, none⟩ = some (.bool b) ∧ w'.cell? ⟨w1.heap.size, 1, none⟩ = some (.slice a1 n1 k1) ∧ w'.cell? ⟨w1.heap.size, 2, none⟩ = some (.slice a2 n2 k2) ∧ w'.cell? ⟨w2.heap.size, 0, none⟩ = some (.bool c) ∧ w'.cell? ⟨w2.heap.size, 1, none⟩ = some (.slice a3 n3 k3) ∧ w'.cell? ⟨w2.heap.size, 2, none⟩ = some (.slice a4 n4 k4) ∧ PP w')
    (exact KD.out _ (by assumption))
    (first
      | (go_at_call 26; refine (A1.out _ hP0).mono ?_; rintro e x1 ⟨va, rfl, hva, hb1⟩; have hP1 := RK.out _ _ hP0 hb1)
      | (go_at_call 27; refine (A2.out _ hP1).mono ?_; rintro e x2 ⟨vb, rfl, hvb, hb2⟩; have hP2 := RK.out _ _ hP1 hb2; have hva2 := hva.later hb2)
      | (go_at_call_of 21 va; refine (EA.out _ _ _ hva2 hvb).mono ?_; rintro e x3 ⟨rfl, hb3⟩; have hP3 := RK.out _ _ hP2 hb3)
      | (go_at_call 28; refine (S1.out _ hP3).mono ?_; rintro e x4 ⟨vc, rfl, hvc, hb4⟩; have hP4 := RK.out _ _ hP3 hb4)
      | (go_at_call 29; refine (S2.out _ hP4).mono ?_; rintro e x5 ⟨vd, rfl, hvd, hb5⟩; have hP5 := RK.out _ _ hP4 hb5; have hvc2 := hvc.later hb5)
      | (go_at_call_of 21 vc; refine (ES.out _ _ _ hvc2 hvd).mono ?_; rintro e x6 ⟨rfl, hb6⟩; have hP6 := RK.out _ _ hP5 hb6)
      | (go_at_call 30; refine (M1.out _ hP6).mono ?_; rintro e x7 ⟨ve, rfl, hve, hb7⟩; have hP7 := RK.out _ _ hP6 hb7)
      | (go_at_call 31; refine (M2.out _ hP7).mono ?_; rintro e x8 ⟨vf, rfl, hvf, hb8⟩; have hP8 := RK.out _ _ hP7 hb8; have hve2 := hve.later hb8)
      | (go_at_call_of 21 ve; refine (EM.out _ _ _ hve2 hvf).mono ?_; rintro e x9 ⟨rfl, hb9⟩; have hP9 := RK.out _ _ hP8 hb9)
      | (go_at_call 32; refine (CM1.out _ hP9).mono ?_; rintro e x10 ⟨rfl, hb10⟩; have hP10 := RK.out _ _ hP9 hb10)
      | (go_at_call 33; refine (CM2.out _ hP10).mono ?_; rintro e x11 ⟨rfl, hb11⟩; have hP11 := RK.out _ _ hP10 hb11)
      | (go_at_call_of 21 (Value.pointer (some ⟨g3, 0, none⟩)); refine (EP.out _ hP11).mono ?_; rintro e x12 ⟨rfl, hb12⟩; have hP12 := RK.out _ _ hP11 hb12)
      | (go_at_call_of 21 (Value.pointer (some ⟨g4, 0, none⟩)); refine (EQ.out _ hP12).mono ?_; rintro e x13 ⟨rfl, hb13⟩; have hP13 := RK.out _ _ hP12 hb13)
      | (go_at_call 20; refine (HM2.out _ hP13).mono ?_; rintro e x14 ⟨rfl, hb14⟩; have hP14 := RK.out _ _ hP13 hb14))
  have R9 := Lib.hid hP14
  go_wp2
  go_ret
  exact ⟨rfl, RW.out _ R9.out⟩

theorem computes_bytes (s t : ByteArray) (w : World) (hm : Ml w) :
    Calls Tryz.prog 5 #[.string s, .string t] w (RetV (.bool true) w) := by
  by_cases h1 : s.size ≤ 200
  · by_cases h2 : t.size ≤ 200
    · cases hp : parseQ s.data.toList with
      | none =>
        refine computes_none s t 7 _ w hm h1 h2 (.inl (by decide)) (fun w1 => ?_) (fun w1 => parse9_form t w1 h2)
        have := parse9_form s w1 h1
        rw [hp] at this
        exact this
      | some p =>
        cases hq : parseQ t.data.toList with
        | none =>
          refine computes_none s t 0 7 w hm h1 h2 (.inr (by decide)) (fun w1 => ?_) (fun w1 => ?_)
          · have := parse9_form s w1 h1
            rw [hp] at this
            exact this
          · have := parse9_form t w1 h2
            rw [hq] at this
            exact this
        | some q =>
          by_cases h0 : q = 0
          · exact computes_zero s t p q w hm h1 h2 hp hq h0
          · exact computes_some s t p q w hm h1 h2 hp hq h0
    · exact computes_big s t w hm (.inr (by omega))
  · exact computes_big s t w hm (.inl (by omega))
theorem computes_any (s t : ByteArray) (w : World) (hm : Ml w) (_ : s.size ≤ maxLen) (_ : t.size ≤ maxLen) :
    Calls Tryz.prog 5 #[.string s, .string t] w (RetV (.bool true) w) := computes_bytes s t w hm
end Go.Proofs.YtemhidlaaommaaaGreatDoor
