/- Lemmas and contracts, each under its own condition: Rational numbers in memory; contracts: valid, reduced, size, Of. Contracts: size, Of, added. Contracts: added, Add, Sub, Sign, Cmp, Whole, Bits, Floor. -/
import Derived.Deep.RegionHeld3
import Derived.Test.YtemhidlaaommaaaGreatDoorN0
import Derived.Test.YtemhidlaaommaaaGreatDoorN4
/- Rational numbers in memory; contracts: valid, reduced, size, Of. -/
namespace Go.Proofs.YtemhidlaaommaaaGreatDoor
open Go.RowKit

/-- the pointer v is the number q -/
structure IsRAt (w : World) (g : Nat) (vn vd : Value) (q : Rat) : Prop where
  neg : w.cell? ⟨g, 0, none⟩ = some (.bool (qneg q))
  num : w.cell? ⟨g, 1, none⟩ = some vn
  den : w.cell? ⟨g, 2, none⟩ = some vd
  isNum : IsN B32 w vn (qnum q)
  isDen : IsN B32 w vd q.den
def IsR (w : World) (v : Value) (q : Rat) : Prop := ∃ g vn vd, v = .pointer (some ⟨g, 0, none⟩) ∧ IsRAt w g vn vd q

theorem IsRAt.later {w w' : World} {g : Nat} {vn vd : Value} {q : Rat} (h : IsRAt w g vn vd q) (hb : Below w.heap.size w w') : IsRAt w' g vn vd q :=
  have hg : g < w.heap.size := World.block_lt_of_cell? w ⟨g, 0, none⟩ h.neg
  ⟨(hb.cell (p := ⟨g, 0, none⟩) hg).trans h.neg, (hb.cell (p := ⟨g, 1, none⟩) hg).trans h.num, (hb.cell (p := ⟨g, 2, none⟩) hg).trans h.den, h.isNum.later hb, h.isDen.later hb⟩
theorem IsR.later {w w' : World} {v : Value} {q : Rat} (h : IsR w v q) (hb : Below w.heap.size w w') : IsR w' v q :=
  let ⟨g, vn, vd, e, h1⟩ := h; ⟨g, vn, vd, e, h1.later hb⟩
theorem IsR.trans {w w1 w' : World} {v : Value} {q : Rat} (h : IsR w v q) (h1 : Below w.heap.size w w1) (h2 : Below w1.heap.size w1 w') : IsR w' v q := (h.later h1).later h2

/-- a result that is a rational number -/
def RetR (q : Rat) (w : World) (e : Ending) (w' : World) : Prop := ∃ v, e = .returned v ∧ IsR w' v q ∧ Below w.heap.size w w'

/-- the shape of a number that is not 0 -/
theorem IsN.shape {B X : Nat} {w : World} {v : Value} (h : IsN B w v X) (hB : 0 < B) : ∃ a n cap, v = .slice a n cap ∧ (n = 0 ↔ X = 0) := by
  obtain ⟨n, D, r, s⟩ := h
  obtain ⟨a, g, cap, rfl, _⟩ := s.shape
  exact ⟨a, n, cap, rfl, r.zero_iff hB⟩

theorem valid_any {q : Rat} {v : Value} {w : World} (h : IsR w v q) :
    Calls Tryz.prog 83 #[v] w fun e w' => e = .returned (.bool true) ∧ w = w' := by
  obtain ⟨g, vn, vd, rfl, h⟩ := h
  obtain ⟨a, n, cap, rfl, hz⟩ := h.isDen.shape (by decide)
  have hn : 0 < n := by have := q.den_nz; omega
  have hd := h.den
  clear h hz
  go_enter Tryz.func83, Tryz.ntmps83
  go_wp2
  go_ret
  exact ⟨rfl, rfl⟩

/-- numbers that are small enough -/
structure SmR (q : Rat) : Prop where
  num : Sm (qnum q)
  den : Sm q.den

theorem gcd_sm {a b : Nat} (hb : b ≠ 0) (s : Sm b) : Sm (Nat.gcd a b) := s.mono (Nat.le_of_dvd (by omega) (Nat.gcd_dvd_right a b))

theorem IsR.made {w : World} {b : Bool} {vn vd : Value} {q : Rat} {t : TypeId} (hb : b = qneg q) (hn : IsN B32 w vn (qnum q)) (hd : IsN B32 w vd q.den) :
    IsR (w.alloc (.cells #[.bool b, vn, vd] t)) (.pointer (some ⟨w.heap.size, 0, none⟩)) q := by
  subst hb
  exact ⟨_, _, _, rfl, by rw [World.cell?_alloc_at _ _ _ _ rfl]; rfl, by rw [World.cell?_alloc_at _ _ _ _ rfl]; rfl, by rw [World.cell?_alloc_at _ _ _ _ rfl]; rfl,
    hn.later (below_alloc _ _), hd.later (below_alloc _ _)⟩

set_option maxHeartbeats 800000 in
theorem reduced_any {neg : Bool} {X Y : Nat} {x y : Value} {w : World} (hx : IsN B32 w x X) (hy : IsN B32 w y Y) (sx : Sm X) (sy : Sm Y) (h0 : Y ≠ 0) :
    Calls Tryz.prog 64 #[.bool neg, x, y] w (RetR (mkRat (sgn neg X) Y) w) := by
  have hgs : Sm (Nat.gcd X Y) := gcd_sm h0 sy
  have hg0 : Nat.gcd X Y ≠ 0 := by intro e; exact h0 (Nat.eq_zero_of_gcd_eq_zero_right e)
  have hG := Lib.hid (gcd_any hx hy sx sy)
  have hQ : Hid (qnum (mkRat (sgn neg X) Y) = X / Nat.gcd X Y ∧ (mkRat (sgn neg X) Y).den = Y / Nat.gcd X Y ∧ qneg (mkRat (sgn neg X) Y) = (neg && decide (X ≠ 0))) :=
    ⟨mk_num neg X Y h0, mk_den neg X Y h0, mk_neg neg X Y h0⟩
  obtain ⟨a, n, cap, hxs, hz⟩ := hx.shape (by decide)
  have hZ : Hid (decide (0 < n) = decide (X ≠ 0)) := by
    show decide (0 < n) = decide (X ≠ 0)
    by_cases e : n = 0
    · simp [e, hz.1 e]
    · have : X ≠ 0 := fun e2 => e (hz.2 e2)
      simp [this]; omega
  obtain ⟨ay, ny, cy, hys, -⟩ := hy.shape (by decide)
  subst hxs hys
  clear hz
  go_enter Tryz.func64, Tryz.ntmps64
  go_wp2_with fail
  refine hG.out.mono ?_
  rintro e w1 ⟨gv, rfl, hgv, hb1⟩
  go_wp2_with fail
  refine (one_any hgv).mono ?_
  rintro e w' ⟨rfl, rfl⟩
  by_cases h1 : Nat.gcd X Y = 1
  · have hd : decide (Nat.gcd X Y = 1) = true := by simp [h1]
    have H1 := Lib.hid h1
    clear h1 hG hgs hg0
    cases neg
    · go_wp2
      go_ret
      refine ⟨_, rfl, IsR.made (by rw [hQ.out.2.2]; rfl) (by rw [hQ.out.1, H1.out, Nat.div_one]; exact hx.later hb1) (by rw [hQ.out.2.1, H1.out, Nat.div_one]; exact hy.later hb1), hb1.alloc hb1.size _⟩
    · go_wp2
      go_ret
      refine ⟨_, rfl, IsR.made (by rw [hQ.out.2.2, ← hZ.out]; simp) (by rw [hQ.out.1, H1.out, Nat.div_one]; exact hx.later hb1) (by rw [hQ.out.2.1, H1.out, Nat.div_one]; exact hy.later hb1), hb1.alloc hb1.size _⟩
  · have hd : decide (Nat.gcd X Y = 1) = false := by simp [h1]
    have HD1 := Lib.hid (div_any (hx.later hb1) hgv sx hg0)
    clear h1 hG
    go_wp2_with fail
    refine HD1.out.mono ?_
    rintro e w2 ⟨v1, u1, rfl, hv1, hu1, hb2⟩
    have HD2 := Lib.hid (div_any ((hy.later hb1).later hb2) (hgv.later hb2) sy hg0)
    clear HD1
    go_wp2_with fail
    refine HD2.out.mono ?_
    rintro e w3 ⟨v2, u2, rfl, hv2, hu2, hb3⟩
    clear HD2
    have hn1 := hv1.later hb3
    obtain ⟨a1, n1, cap1, hs1, hz1⟩ := hn1.shape (by decide)
    have hZ1 : Hid (decide (0 < n1) = decide (X ≠ 0)) := by
      show decide (0 < n1) = decide (X ≠ 0)
      have hXg : X / Nat.gcd X Y = 0 ↔ X = 0 := by
        constructor
        · intro e
          have := Nat.div_mul_cancel (Nat.gcd_dvd_left X Y)
          rw [e, Nat.zero_mul] at this; exact this.symm
        · rintro rfl; simp
      rw [hXg] at hz1
      by_cases e : n1 = 0
      · simp [e, hz1.1 e]
      · have : X ≠ 0 := fun e2 => e (hz1.2 e2)
        simp [this]; omega
    obtain ⟨a2, n2, cap2, hs2, -⟩ := hv2.shape (by decide)
    subst hs1 hs2
    have hb13 : Below w.heap.size w w3 := hb1.trans ((hb2.trans (hb3.mono hb2.size)).mono hb1.size)
    have hf1 : Hid (IsN B32 w3 (.slice a1 n1 cap1) (qnum (mkRat (sgn neg X) Y))) := by show IsN _ _ _ _; rw [hQ.out.1]; exact hn1
    have hf2 : Hid (IsN B32 w3 (.slice a2 n2 cap2) (mkRat (sgn neg X) Y).den) := by show IsN _ _ _ _; rw [hQ.out.2.1]; exact hv2
    clear hn1 hv2 hu1 hu2 hz1 hv1 hgs hg0
    cases neg
    · go_wp2
      go_ret
      exact ⟨_, rfl, IsR.made (by rw [hQ.out.2.2]; rfl) hf1.out hf2.out, hb13.alloc hb13.size _⟩
    · go_wp2
      go_ret
      exact ⟨_, rfl, IsR.made (by rw [hQ.out.2.2, ← hZ1.out]; simp) hf1.out hf2.out, hb13.alloc hb13.size _⟩
end Go.Proofs.YtemhidlaaommaaaGreatDoor
/- Contracts: size, Of, added. -/
namespace Go.Proofs.YtemhidlaaommaaaGreatDoor
open Go.RowKit

theorem neg_u64 {n : Int} (h1 : -9223372036854775808 ≤ n) (h2 : n < 0) : IntKind.u64.wrap (-IntKind.u64.wrap n) = (n.natAbs : Int) := by
  rw [wrap_u64', wrap_u64']; omega
theorem size_neg (n : Int) (w : World) (h1 : -9223372036854775808 ≤ n) (h2 : n < 0) :
    Calls Tryz.prog 65 #[.int .i64 n] w (RetN B32 n.natAbs w) := by
  have e := neg_u64 h1 h2
  have hN := Lib.hid (natOf_any n.natAbs (by omega) w)
  go_enter Tryz.func65, Tryz.ntmps65
  go_wp2_with fail
  refine hN.out.mono ?_
  rintro e w1 ⟨v, rfl, hv, hb⟩
  go_wp2
  go_ret
  exact ⟨_, rfl, hv, hb⟩
theorem size_pos (n : Nat) (w : World) (h2 : n ≤ 9223372036854775807) :
    Calls Tryz.prog 65 #[.int .i64 (n : Int)] w (RetN B32 n w) := by
  have hN := Lib.hid (natOf_any n (by omega) w)
  go_enter Tryz.func65, Tryz.ntmps65
  go_wp2_with fail
  refine hN.out.mono ?_
  rintro e w1 ⟨v, rfl, hv, hb⟩
  go_wp2
  go_ret
  exact ⟨_, rfl, hv, hb⟩
theorem size_any (n : Int) (w : World) (h1 : -9223372036854775808 ≤ n) (h2 : n ≤ 9223372036854775807) :
    Calls Tryz.prog 65 #[.int .i64 n] w (RetN B32 n.natAbs w) := by
  by_cases h : n < 0
  · exact size_neg n w h1 h
  · obtain ⟨k, rfl⟩ := Int.eq_ofNat_of_zero_le (show 0 ≤ n by omega)
    exact size_pos k w (by omega)

theorem Sm.i64 {n : Int} (h1 : -9223372036854775808 ≤ n) (h2 : n ≤ 9223372036854775807) : Sm n.natAbs := Sm.of_bits (k := 64) (by omega) (by decide)

/-- the quotient of two integers -/
def quoQ (n d : Int) : Rat := mkRat (sgn (decide (n < 0) != decide (d < 0)) n.natAbs) d.natAbs

/-- a number and no error -/
def RetRE (q : Rat) (w : World) (e : Ending) (w' : World) : Prop := ∃ v, e = .returned (.tuple #[v, .int .i64 0]) ∧ IsR w' v q ∧ Below w.heap.size w w'

theorem of_zero (n : Int) (w : World) : Calls Tryz.prog 18 #[.int .i64 n, .int .i64 0] w fun e w' => e = .returned (.tuple #[.pointer none, .int .i64 2]) ∧ w = w' := by
  go_enter Tryz.func18, Tryz.ntmps18
  go_wp2
  go_ret2
  exact ⟨rfl, rfl⟩
theorem of_any (n d : Int) (w : World) (h1 : -9223372036854775808 ≤ n) (h2 : n ≤ 9223372036854775807) (h3 : -9223372036854775808 ≤ d) (h4 : d ≤ 9223372036854775807) (h0 : d ≠ 0) :
    Calls Tryz.prog 18 #[.int .i64 n, .int .i64 d] w (RetRE (quoQ n d) w) := by
  have hb0 : (d == 0) = false := by rw [beq_eq_false_iff_ne]; exact h0
  have S1 := Lib.hid (fun w => size_any n w h1 h2)
  have S2 := Lib.hid (fun w => size_any d w h3 h4)
  have hd0 : d.natAbs ≠ 0 := by omega
  go_enter Tryz.func18, Tryz.ntmps18
  go_wp2_with fail
  refine (S1.out _).mono ?_
  rintro e w1 ⟨v1, rfl, hv1, hb1⟩
  go_wp2_with fail
  refine (S2.out _).mono ?_
  rintro e w2 ⟨v2, rfl, hv2, hb2⟩
  have hR := Lib.hid (reduced_any (neg := decide (n < 0) != decide (d < 0)) (hv1.later hb2) hv2 (Sm.i64 h1 h2) (Sm.i64 h3 h4) hd0)
  go_wp2_with fail
  refine hR.out.mono ?_
  rintro e w3 ⟨v3, rfl, hv3, hb3⟩
  clear S1 S2 hR
  go_wp2
  go_ret2
  exact ⟨_, rfl, hv3, hb1.trans ((hb2.trans (hb3.mono hb2.size)).mono hb1.size)⟩

/-- a number, from an earlier world on -/
def RetNB (X : Nat) (w w1 : World) (e : Ending) (w' : World) : Prop := ∃ v, e = .returned v ∧ IsN B32 w' v X ∧ Below w1.heap.size w1 w' ∧ Below w.heap.size w w'
theorem mul_from {X Y : Nat} {x y : Value} {w w1 : World} (hx : IsN B32 w x X) (hy : IsN B32 w y Y) (sx : Sm X) (sy : Sm Y) (hb : Below w.heap.size w w1) :
    Calls Tryz.prog 84 #[x, y] w1 (RetNB (X * Y) w w1) :=
  (mul_any (hx.later hb) (hy.later hb) sx sy).mono fun _ _ ⟨v, he, hv, hb'⟩ => ⟨v, he, hv, hb', hb.trans (hb'.mono hb.size)⟩

/-- the cells of two numbers in a later world -/
theorem cells6 {p q : Rat} {g g' : Nat} {vn vd un ud : Value} {w w' : World} (hp : IsRAt w g vn vd p) (hq : IsRAt w g' un ud q) (hb : Below w.heap.size w w') :
    w'.cell? ⟨g, 0, none⟩ = some (.bool (qneg p)) ∧ w'.cell? ⟨g, 1, none⟩ = some vn ∧ w'.cell? ⟨g, 2, none⟩ = some vd ∧ w'.cell? ⟨g', 0, none⟩ = some (.bool (qneg q)) ∧ w'.cell? ⟨g', 1, none⟩ = some un ∧ w'.cell? ⟨g', 2, none⟩ = some ud ∧
      Below w.heap.size w w' :=
  have h1 := hp.later hb
  have h2 := hq.later hb
  ⟨h1.neg, h1.num, h1.den, h2.neg, h2.num, h2.den, hb⟩

set_option maxHeartbeats 1600000 in
theorem mulR_core {p q : Rat} {g g' : Nat} {vn vd un ud : Value} {w : World} (hp : IsRAt w g vn vd p) (hq : IsRAt w g' un ud q) (sp : SmR p) (sq : SmR q)
    (s1 : Sm (qnum p * qnum q)) (s2 : Sm (p.den * q.den)) :
    Calls Tryz.prog 30 #[.pointer (some ⟨g, 0, none⟩), .pointer (some ⟨g', 0, none⟩)] w (RetR (p * q) w) := by
  have hv1 := Lib.hid (valid_any ⟨g, vn, vd, rfl, hp⟩)
  have hv2 := Lib.hid (valid_any ⟨g', un, ud, rfl, hq⟩)
  have hden : p.den * q.den ≠ 0 := Nat.mul_ne_zero p.den_nz q.den_nz
  have C1 := Lib.hid (fun (w1 : World) hb => mul_from (w1 := w1) hp.isNum hq.isNum sp.num sq.num hb)
  have C2 := Lib.hid (fun (w1 : World) hb => mul_from (w1 := w1) hp.isDen hq.isDen sp.den sq.den hb)
  have K := Lib.hid (fun (w1 : World) hb => cells6 (w' := w1) hp hq hb)
  have HQ := Lib.hid (q_mul p q)
  have HD := Lib.hid hden
  obtain ⟨k1, k2, k3, k4, k5, k6, k7⟩ := K.out w (Below.refl _ _)
  clear hp hq sp sq hden
  go_enter Tryz.func30, Tryz.ntmps30
  go_wp2_with fail
  refine hv1.out.mono ?_
  rintro e w' ⟨rfl, rfl⟩
  go_wp2_with fail
  refine hv2.out.mono ?_
  rintro e w' ⟨rfl, rfl⟩
  clear hv1 hv2
  go_wp2_with fail
  go_region_held3 (fun w' => w'.cell? ⟨g, 0, none⟩ = some (.bool (qneg p)) ∧ w'.cell? ⟨g, 1, none⟩ = some vn ∧ w'.cell? ⟨g, 2, none⟩ = some vd ∧ w'.cell? ⟨g', 0, none⟩ = some (.bool (qneg q)) ∧ w'.cell? ⟨g', 1, none⟩ = some un ∧ w'.cell? ⟨g', 2, none⟩ = some ud ∧ Below w.heap.size w w')
    (first | exact K.out _ (by assumption) | exact K.out _ (Below.drew (Below.refl _ _)))
    (first
      | (go_at_call_of 84 vn; refine (C1.out _ ?_).mono ?_; (simp only [*]); rintro e w2 ⟨v1, rfl, hv1, hb1, hB1⟩)
      | (go_at_call_of 84 vd; refine (C2.out _ ?_).mono ?_; (simp only [*]); rintro e w3 ⟨v2, rfl, hv2, hb2, hB2⟩)
      | (go_at_call 64; refine (reduced_any (hv1.later hb2) hv2 s1 s2 HD.out).mono ?_; rintro e w4 ⟨v3, rfl, hv3, hb3⟩; have hB3 := hB2.trans (hb3.mono hB2.size)))
  go_wp2
  go_ret
  exact ⟨_, rfl, by rw [HQ.out]; exact hv3, hB3⟩

/-- the products that an operation on two numbers makes -/
structure SmM (p q : Rat) : Prop where
  nn : Sm (qnum p * qnum q)
  dd : Sm (p.den * q.den)
  nd : Sm (qnum p * q.den)
  dn : Sm (qnum q * p.den)
  sum : Sm (qnum p * q.den + qnum q * p.den)

theorem mulR_any {p q : Rat} {x y : Value} {w : World} (hp : IsR w x p) (hq : IsR w y q) (sp : SmR p) (sq : SmR q) (sm : SmM p q) :
    Calls Tryz.prog 30 #[x, y] w (RetR (p * q) w) := by
  obtain ⟨g, vn, vd, rfl, hp⟩ := hp
  obtain ⟨g', un, ud, rfl, hq⟩ := hq
  exact mulR_core hp hq sp sq sm.nn sm.dd

set_option maxHeartbeats 1600000 in
theorem quoR_core {p q : Rat} {g g' : Nat} {vn vd un ud : Value} {w : World} (hp : IsRAt w g vn vd p) (hq : IsRAt w g' un ud q) (sp : SmR p) (sq : SmR q)
    (s1 : Sm (qnum p * q.den)) (s2 : Sm (p.den * qnum q)) (h0 : q ≠ 0) :
    Calls Tryz.prog 24 #[.pointer (some ⟨g, 0, none⟩), .pointer (some ⟨g', 0, none⟩)] w (RetRE (p / q) w) := by
  have hv1 := Lib.hid (valid_any ⟨g, vn, vd, rfl, hp⟩)
  have hv2 := Lib.hid (valid_any ⟨g', un, ud, rfl, hq⟩)
  have hqn : qnum q ≠ 0 := fun e => h0 ((q_zero_iff q).1 e)
  have hden : p.den * qnum q ≠ 0 := Nat.mul_ne_zero p.den_nz hqn
  have C1 := Lib.hid (fun (w1 : World) hb => mul_from (w1 := w1) hp.isNum hq.isDen sp.num sq.den hb)
  have C2 := Lib.hid (fun (w1 : World) hb => mul_from (w1 := w1) hp.isDen hq.isNum sp.den sq.num hb)
  have K := Lib.hid (fun (w1 : World) hb => cells6 (w' := w1) hp hq hb)
  have HQ := Lib.hid (q_quo p q h0)
  have HD := Lib.hid hden
  obtain ⟨a, n, cap, hus, hz⟩ := hq.isNum.shape (by decide)
  subst hus
  have hn : ((n : Int) == 0) = false := by rw [beq_eq_false_iff_ne]; omega
  obtain ⟨k1, k2, k3, k4, k5, k6, k7⟩ := K.out w (Below.refl _ _)
  clear hp hq sp sq hden hqn hz h0
  go_enter Tryz.func24, Tryz.ntmps24
  go_wp2_with fail
  refine hv1.out.mono ?_
  rintro e w' ⟨rfl, rfl⟩
  go_wp2_with fail
  refine hv2.out.mono ?_
  rintro e w' ⟨rfl, rfl⟩
  clear hv1 hv2
  go_wp2_with fail
  go_region_held3 (fun w' => w'.cell? ⟨g, 0, none⟩ = some (.bool (qneg p)) ∧ w'.cell? ⟨g, 1, none⟩ = some vn ∧ w'.cell? ⟨g, 2, none⟩ = some vd ∧ w'.cell? ⟨g', 0, none⟩ = some (.bool (qneg q)) ∧ w'.cell? ⟨g', 1, none⟩ = some (.slice a n cap) ∧ w'.cell? ⟨g', 2, none⟩ = some ud ∧ Below w.heap.size w w')
    (first | exact K.out _ (by assumption) | exact K.out _ (Below.drew (Below.refl _ _)))
    (first
      | (go_at_call_of 84 vn; refine (C1.out _ ?_).mono ?_; (simp only [*]); rintro e w2 ⟨v1, rfl, hv1, hb1, hB1⟩)
      | (go_at_call_of 84 vd; refine (C2.out _ ?_).mono ?_; (simp only [*]); rintro e w3 ⟨v2, rfl, hv2, hb2, hB2⟩)
      | (go_at_call 64; refine (reduced_any (hv1.later hb2) hv2 s1 s2 HD.out).mono ?_; rintro e w4 ⟨v3, rfl, hv3, hb3⟩; have hB3 := hB2.trans (hb3.mono hB2.size)))
  go_wp2
  go_ret2
  exact ⟨_, rfl, by rw [HQ.out]; exact hv3, hB3⟩
theorem quoR_any {p q : Rat} {x y : Value} {w : World} (hp : IsR w x p) (hq : IsR w y q) (sp : SmR p) (sq : SmR q) (sm : SmM p q) (h0 : q ≠ 0) :
    Calls Tryz.prog 24 #[x, y] w (RetRE (p / q) w) := by
  obtain ⟨g, vn, vd, rfl, hp⟩ := hp
  obtain ⟨g', un, ud, rfl, hq⟩ := hq
  exact quoR_core hp hq sp sq sm.nd (by rw [Nat.mul_comm]; exact sm.dn) h0
theorem quoR_zero {p : Rat} {x y : Value} {w : World} (hp : IsR w x p) (hq : IsR w y 0) :
    Calls Tryz.prog 24 #[x, y] w fun e w' => e = .returned (.tuple #[.pointer none, .int .i64 2]) ∧ w = w' := by
  have hv1 := Lib.hid (valid_any hp)
  have hv2 := Lib.hid (valid_any hq)
  obtain ⟨g, vn, vd, rfl, hp⟩ := hp
  obtain ⟨g', un, ud, rfl, hq⟩ := hq
  obtain ⟨a, n, cap, hus, hz⟩ := hq.isNum.shape (by decide)
  subst hus
  obtain rfl : n = 0 := hz.2 rfl
  have k := hq.num
  clear hp hq hz
  go_enter Tryz.func24, Tryz.ntmps24
  go_wp2_with fail
  refine hv1.out.mono ?_
  rintro e w' ⟨rfl, rfl⟩
  go_wp2_with fail
  refine hv2.out.mono ?_
  rintro e w' ⟨rfl, rfl⟩
  clear hv1 hv2
  go_wp2
  go_ret2
  exact ⟨rfl, rfl⟩
end Go.Proofs.YtemhidlaaommaaaGreatDoor
/- Contracts: added, Add, Sub, Sign, Cmp, Whole, Bits, Floor. -/
namespace Go.Proofs.YtemhidlaaommaaaGreatDoor
open Go.RowKit

theorem add_from {X Y : Nat} {x y : Value} {w w1 w2 : World} (hx : IsN B32 w1 x X) (hy : IsN B32 w2 y Y) (sx : Sm X) (sy : Sm Y) (hb1 : Below w1.heap.size w1 w) (hb2 : Below w2.heap.size w2 w) :
    Calls Tryz.prog 107 #[x, y] w (RetN B32 (X + Y) w) := add_any (hx.later hb1) (hy.later hb2) sx sy

set_option maxHeartbeats 1600000 in
theorem added_core {p q r : Rat} {minus : Bool} {g g' : Nat} {vn vd un ud : Value} {w : World} (hp : IsRAt w g vn vd p) (hq : IsRAt w g' un ud q) (sp : SmR p) (sq : SmR q) (sm : SmM p q) (hr : r = if minus then p - q else p + q) :
    Calls Tryz.prog 86 #[.pointer (some ⟨g, 0, none⟩), .pointer (some ⟨g', 0, none⟩), .bool minus] w (RetR r w) := by
  have hv1 := Lib.hid (valid_any ⟨g, vn, vd, rfl, hp⟩)
  have hv2 := Lib.hid (valid_any ⟨g', un, ud, rfl, hq⟩)
  have hden : p.den * q.den ≠ 0 := Nat.mul_ne_zero p.den_nz q.den_nz
  have C1 := Lib.hid (fun (w1 : World) hb => mul_from (w1 := w1) hp.isNum hq.isDen sp.num sq.den hb)
  have C2 := Lib.hid (fun (w1 : World) hb => mul_from (w1 := w1) hq.isNum hp.isDen sq.num sp.den hb)
  have C3 := Lib.hid (fun (w1 : World) hb => mul_from (w1 := w1) hp.isDen hq.isDen sp.den sq.den hb)
  have K := Lib.hid (fun (w1 : World) hb => cells6 (w' := w1) hp hq hb)
  have HQ := Lib.hid (hr.trans (q_added p q minus))
  have HD := Lib.hid hden
  obtain ⟨k1, k2, k3, k4, k5, k6, k7⟩ := K.out w (Below.refl _ _)
  clear hp hq sp sq hden hr
  go_enter Tryz.func86, Tryz.ntmps86
  go_wp2_with fail
  refine hv1.out.mono ?_
  rintro e w' ⟨rfl, rfl⟩
  go_wp2_with fail
  refine hv2.out.mono ?_
  rintro e w' ⟨rfl, rfl⟩
  clear hv1 hv2
  go_wp2_with fail
  go_region_held3 (fun w' => w'.cell? ⟨g, 0, none⟩ = some (.bool (qneg p)) ∧ w'.cell? ⟨g, 1, none⟩ = some vn ∧ w'.cell? ⟨g, 2, none⟩ = some vd ∧ w'.cell? ⟨g', 0, none⟩ = some (.bool (qneg q)) ∧ w'.cell? ⟨g', 1, none⟩ = some un ∧ w'.cell? ⟨g', 2, none⟩ = some ud ∧ Below w.heap.size w w')
    (first | exact K.out _ (by assumption) | exact K.out _ (Below.drew (Below.refl _ _)))
    (first
      | (go_at_call_of 84 vn; refine (C1.out _ ?_).mono ?_; (simp only [*]); rintro e w2 ⟨v1, rfl, hv1, hb1, hB1⟩)
      | (go_at_call_of 84 un; refine (C2.out _ ?_).mono ?_; (simp only [*]); rintro e w3 ⟨v2, rfl, hv2, hb2, hB2⟩)
      | (go_at_call_of 84 vd; refine (C3.out _ ?_).mono ?_; (simp only [*]); rintro e w4 ⟨v3, rfl, hv3, hb3, hB3⟩))
  have hA := (hv1.later hb2).later hb3
  have hB := hv2.later hb3
  obtain ⟨j1, j2, j3, j4, j5, j6, j7⟩ := K.out w4 hB3
  clear hv1 hv2 hb1 hb2 hB1 hB2 hb3 C1 C2 C3 k1 k2 k3 k4 k5 k6 k7
  have SS := Lib.hid sm
  have HADD := Lib.hid (add_any hA hB sm.nd sm.dn)
  have HQ2 := HQ
  clear HQ sm
  rcases hpn : qneg p with _ | _ <;> rcases hqn : qneg q with _ | _ <;> rcases minus with _ | _
  · have HF : Hid (r = mkRat (sgn false (qnum p * q.den + qnum q * p.den)) (p.den * q.den)) := by
      show _ = _
      rw [HQ2.out, hpn, hqn]; rfl
    clear HQ2
    go_wp2_with fail
    refine HADD.out.mono ?_
    rintro e w5 ⟨v4, rfl, hv4, hb4⟩
    have HR := Lib.hid (reduced_any (neg := false) hv4 (hv3.later hb4) SS.out.sum SS.out.dd HD.out)
    clear HADD
    go_wp2_with fail
    refine HR.out.mono ?_
    rintro e w6 ⟨v5, rfl, hv5, hb5⟩
    clear HR
    go_wp2
    go_ret
    exact ⟨_, rfl, by rw [HF.out]; exact hv5, hB3.trans ((hb4.trans (hb5.mono hb4.size)).mono hB3.size)⟩
  · skip
    by_cases hge : qnum q * p.den ≤ qnum p * q.den
    · have HF : Hid (r = mkRat (sgn false (qnum p * q.den - qnum q * p.den)) (p.den * q.den)) := by
        show _ = _
        rw [HQ2.out, hpn, hqn, if_neg (by decide), if_pos hge]
      obtain ⟨c, hc0, hc1, hcmp⟩ := cmp_ge hA hB hge
      have HC := Lib.hid hcmp
      have HS := Lib.hid (fun k => sub_any (hA.later (below_drewN' w4 k)) (hB.later (below_drewN' w4 k)) SS.out.nd hge)
      have hcz : decide (0 ≤ c) = true := by simp [hc0]
      have KD := Lib.hid (fun k => (K.out (w4.drewN k) (hB3.trans ((below_drewN' w4 k).mono hB3.size))))
      clear HQ2 hcmp HADD
      go_wp2_with fail
      refine HC.out.mono ?_
      rintro e w' ⟨rfl, k, rfl⟩
      clear HC
      go_wp2_with fail
      have KS := Lib.hid (fun (w1 : World) (hb : Below w.heap.size w w1) => (⟨by rw [← hpn]; exact (K.out w1 hb).1, hb⟩ : w1.cell? ⟨g, 0, none⟩ = some (.bool false) ∧ Below w.heap.size w w1))
      have hBk : Below w.heap.size w (w4.drewN k) := hB3.trans ((below_drewN' w4 k).mono hB3.size)
      have i1 := (KS.out _ hBk).1
      have HSb := Lib.hid (fun (w1 : World) (h1 : Below w4.heap.size w4 w1) => sub_any (hA.later h1) (hB.later h1) SS.out.nd hge)
      have HRb := Lib.hid (fun (w1 w2 : World) (v : Value) (h1 : Below w4.heap.size w4 w1) (h2 : Below w1.heap.size w1 w2) (hv : IsN B32 w2 v (qnum p * q.den - qnum q * p.den)) => reduced_any (neg := false) hv (hv3.later (h1.trans (h2.mono h1.size))) (SS.out.nd.mono (Nat.sub_le _ _)) SS.out.dd HD.out)
      have hb4k : Below w4.heap.size w4 ((w4.drewN k).drew) := (below_drewN' w4 k).drew
      clear HS KD
      go_region_held3 (fun w' => w'.cell? ⟨g, 0, none⟩ = some (.bool false) ∧ Below w.heap.size w w')
        (first | exact KS.out _ (by assumption) | exact KS.out _ (Below.drew (by assumption)))
        (first
          | (go_at_call 127; refine (HSb.out _ hb4k).mono ?_; rintro e w5 ⟨v4, rfl, hv4, hb4⟩; have hB4 := (hBk.drew).trans (hb4.mono hBk.drew.size))
          | (go_at_call 64; refine (HRb.out _ _ _ hb4k hb4 hv4).mono ?_; rintro e w6 ⟨v5, rfl, hv5, hb5⟩; have hB5 := hB4.trans (hb5.mono hB4.size)))
      go_wp2
      go_ret
      exact ⟨_, rfl, by rw [HF.out]; exact hv5, hB5⟩
    · have hlt : qnum p * q.den < qnum q * p.den := by omega
      have HF : Hid (r = mkRat (sgn true (qnum q * p.den - qnum p * q.den)) (p.den * q.den)) := by
        show _ = _
        rw [HQ2.out, hpn, hqn, if_neg (by decide), if_neg hge]; rfl
      have hcmp := cmp_any hA hB
      rw [cmpN, if_pos hlt] at hcmp
      have HC := Lib.hid hcmp
      have HS := Lib.hid (fun k => sub_any (hB.later (below_drewN' w4 k)) (hA.later (below_drewN' w4 k)) SS.out.dn (Nat.le_of_lt hlt))
      clear HQ2 hcmp HADD hge hlt
      go_wp2_with fail
      refine HC.out.mono ?_
      rintro e w' ⟨rfl, k, rfl⟩
      clear HC
      go_wp2_with fail
      refine (HS.out k).mono ?_
      rintro e w5 ⟨v4, rfl, hv4, hb4⟩
      have HR := Lib.hid (reduced_any (neg := true) hv4 (hv3.later ((below_drewN' w4 k).trans hb4)) (SS.out.dn.mono (Nat.sub_le _ _)) SS.out.dd HD.out)
      clear HS
      go_wp2_with fail
      refine HR.out.mono ?_
      rintro e w6 ⟨v5, rfl, hv5, hb5⟩
      clear HR
      go_wp2
      go_ret
      exact ⟨_, rfl, by rw [HF.out]; exact hv5, hB3.trans (((below_drewN' w4 k).trans (hb4.trans (hb5.mono hb4.size))).mono hB3.size)⟩
  · skip
    by_cases hge : qnum q * p.den ≤ qnum p * q.den
    · have HF : Hid (r = mkRat (sgn false (qnum p * q.den - qnum q * p.den)) (p.den * q.den)) := by
        show _ = _
        rw [HQ2.out, hpn, hqn, if_neg (by decide), if_pos hge]
      obtain ⟨c, hc0, hc1, hcmp⟩ := cmp_ge hA hB hge
      have HC := Lib.hid hcmp
      have HS := Lib.hid (fun k => sub_any (hA.later (below_drewN' w4 k)) (hB.later (below_drewN' w4 k)) SS.out.nd hge)
      have hcz : decide (0 ≤ c) = true := by simp [hc0]
      have KD := Lib.hid (fun k => (K.out (w4.drewN k) (hB3.trans ((below_drewN' w4 k).mono hB3.size))))
      clear HQ2 hcmp HADD
      go_wp2_with fail
      refine HC.out.mono ?_
      rintro e w' ⟨rfl, k, rfl⟩
      clear HC
      go_wp2_with fail
      have KS := Lib.hid (fun (w1 : World) (hb : Below w.heap.size w w1) => (⟨by rw [← hpn]; exact (K.out w1 hb).1, hb⟩ : w1.cell? ⟨g, 0, none⟩ = some (.bool false) ∧ Below w.heap.size w w1))
      have hBk : Below w.heap.size w (w4.drewN k) := hB3.trans ((below_drewN' w4 k).mono hB3.size)
      have i1 := (KS.out _ hBk).1
      have HSb := Lib.hid (fun (w1 : World) (h1 : Below w4.heap.size w4 w1) => sub_any (hA.later h1) (hB.later h1) SS.out.nd hge)
      have HRb := Lib.hid (fun (w1 w2 : World) (v : Value) (h1 : Below w4.heap.size w4 w1) (h2 : Below w1.heap.size w1 w2) (hv : IsN B32 w2 v (qnum p * q.den - qnum q * p.den)) => reduced_any (neg := false) hv (hv3.later (h1.trans (h2.mono h1.size))) (SS.out.nd.mono (Nat.sub_le _ _)) SS.out.dd HD.out)
      have hb4k : Below w4.heap.size w4 ((w4.drewN k).drew) := (below_drewN' w4 k).drew
      clear HS KD
      go_region_held3 (fun w' => w'.cell? ⟨g, 0, none⟩ = some (.bool false) ∧ Below w.heap.size w w')
        (first | exact KS.out _ (by assumption) | exact KS.out _ (Below.drew (by assumption)))
        (first
          | (go_at_call 127; refine (HSb.out _ hb4k).mono ?_; rintro e w5 ⟨v4, rfl, hv4, hb4⟩; have hB4 := (hBk.drew).trans (hb4.mono hBk.drew.size))
          | (go_at_call 64; refine (HRb.out _ _ _ hb4k hb4 hv4).mono ?_; rintro e w6 ⟨v5, rfl, hv5, hb5⟩; have hB5 := hB4.trans (hb5.mono hB4.size)))
      go_wp2
      go_ret
      exact ⟨_, rfl, by rw [HF.out]; exact hv5, hB5⟩
    · have hlt : qnum p * q.den < qnum q * p.den := by omega
      have HF : Hid (r = mkRat (sgn true (qnum q * p.den - qnum p * q.den)) (p.den * q.den)) := by
        show _ = _
        rw [HQ2.out, hpn, hqn, if_neg (by decide), if_neg hge]; rfl
      have hcmp := cmp_any hA hB
      rw [cmpN, if_pos hlt] at hcmp
      have HC := Lib.hid hcmp
      have HS := Lib.hid (fun k => sub_any (hB.later (below_drewN' w4 k)) (hA.later (below_drewN' w4 k)) SS.out.dn (Nat.le_of_lt hlt))
      clear HQ2 hcmp HADD hge hlt
      go_wp2_with fail
      refine HC.out.mono ?_
      rintro e w' ⟨rfl, k, rfl⟩
      clear HC
      go_wp2_with fail
      refine (HS.out k).mono ?_
      rintro e w5 ⟨v4, rfl, hv4, hb4⟩
      have HR := Lib.hid (reduced_any (neg := true) hv4 (hv3.later ((below_drewN' w4 k).trans hb4)) (SS.out.dn.mono (Nat.sub_le _ _)) SS.out.dd HD.out)
      clear HS
      go_wp2_with fail
      refine HR.out.mono ?_
      rintro e w6 ⟨v5, rfl, hv5, hb5⟩
      clear HR
      go_wp2
      go_ret
      exact ⟨_, rfl, by rw [HF.out]; exact hv5, hB3.trans (((below_drewN' w4 k).trans (hb4.trans (hb5.mono hb4.size))).mono hB3.size)⟩
  · have HF : Hid (r = mkRat (sgn false (qnum p * q.den + qnum q * p.den)) (p.den * q.den)) := by
      show _ = _
      rw [HQ2.out, hpn, hqn]; rfl
    clear HQ2
    go_wp2_with fail
    refine HADD.out.mono ?_
    rintro e w5 ⟨v4, rfl, hv4, hb4⟩
    have HR := Lib.hid (reduced_any (neg := false) hv4 (hv3.later hb4) SS.out.sum SS.out.dd HD.out)
    clear HADD
    go_wp2_with fail
    refine HR.out.mono ?_
    rintro e w6 ⟨v5, rfl, hv5, hb5⟩
    clear HR
    go_wp2
    go_ret
    exact ⟨_, rfl, by rw [HF.out]; exact hv5, hB3.trans ((hb4.trans (hb5.mono hb4.size)).mono hB3.size)⟩
  · skip
    by_cases hge : qnum q * p.den ≤ qnum p * q.den
    · have HF : Hid (r = mkRat (sgn true (qnum p * q.den - qnum q * p.den)) (p.den * q.den)) := by
        show _ = _
        rw [HQ2.out, hpn, hqn, if_neg (by decide), if_pos hge]
      obtain ⟨c, hc0, hc1, hcmp⟩ := cmp_ge hA hB hge
      have HC := Lib.hid hcmp
      have HS := Lib.hid (fun k => sub_any (hA.later (below_drewN' w4 k)) (hB.later (below_drewN' w4 k)) SS.out.nd hge)
      have hcz : decide (0 ≤ c) = true := by simp [hc0]
      have KD := Lib.hid (fun k => (K.out (w4.drewN k) (hB3.trans ((below_drewN' w4 k).mono hB3.size))))
      clear HQ2 hcmp HADD
      go_wp2_with fail
      refine HC.out.mono ?_
      rintro e w' ⟨rfl, k, rfl⟩
      clear HC
      go_wp2_with fail
      have KS := Lib.hid (fun (w1 : World) (hb : Below w.heap.size w w1) => (⟨by rw [← hpn]; exact (K.out w1 hb).1, hb⟩ : w1.cell? ⟨g, 0, none⟩ = some (.bool true) ∧ Below w.heap.size w w1))
      have hBk : Below w.heap.size w (w4.drewN k) := hB3.trans ((below_drewN' w4 k).mono hB3.size)
      have i1 := (KS.out _ hBk).1
      have HSb := Lib.hid (fun (w1 : World) (h1 : Below w4.heap.size w4 w1) => sub_any (hA.later h1) (hB.later h1) SS.out.nd hge)
      have HRb := Lib.hid (fun (w1 w2 : World) (v : Value) (h1 : Below w4.heap.size w4 w1) (h2 : Below w1.heap.size w1 w2) (hv : IsN B32 w2 v (qnum p * q.den - qnum q * p.den)) => reduced_any (neg := true) hv (hv3.later (h1.trans (h2.mono h1.size))) (SS.out.nd.mono (Nat.sub_le _ _)) SS.out.dd HD.out)
      have hb4k : Below w4.heap.size w4 ((w4.drewN k).drew) := (below_drewN' w4 k).drew
      clear HS KD
      go_region_held3 (fun w' => w'.cell? ⟨g, 0, none⟩ = some (.bool true) ∧ Below w.heap.size w w')
        (first | exact KS.out _ (by assumption) | exact KS.out _ (Below.drew (by assumption)))
        (first
          | (go_at_call 127; refine (HSb.out _ hb4k).mono ?_; rintro e w5 ⟨v4, rfl, hv4, hb4⟩; have hB4 := (hBk.drew).trans (hb4.mono hBk.drew.size))
          | (go_at_call 64; refine (HRb.out _ _ _ hb4k hb4 hv4).mono ?_; rintro e w6 ⟨v5, rfl, hv5, hb5⟩; have hB5 := hB4.trans (hb5.mono hB4.size)))
      go_wp2
      go_ret
      exact ⟨_, rfl, by rw [HF.out]; exact hv5, hB5⟩
    · have hlt : qnum p * q.den < qnum q * p.den := by omega
      have HF : Hid (r = mkRat (sgn false (qnum q * p.den - qnum p * q.den)) (p.den * q.den)) := by
        show _ = _
        rw [HQ2.out, hpn, hqn, if_neg (by decide), if_neg hge]; rfl
      have hcmp := cmp_any hA hB
      rw [cmpN, if_pos hlt] at hcmp
      have HC := Lib.hid hcmp
      have HS := Lib.hid (fun k => sub_any (hB.later (below_drewN' w4 k)) (hA.later (below_drewN' w4 k)) SS.out.dn (Nat.le_of_lt hlt))
      clear HQ2 hcmp HADD hge hlt
      go_wp2_with fail
      refine HC.out.mono ?_
      rintro e w' ⟨rfl, k, rfl⟩
      clear HC
      go_wp2_with fail
      refine (HS.out k).mono ?_
      rintro e w5 ⟨v4, rfl, hv4, hb4⟩
      have HR := Lib.hid (reduced_any (neg := false) hv4 (hv3.later ((below_drewN' w4 k).trans hb4)) (SS.out.dn.mono (Nat.sub_le _ _)) SS.out.dd HD.out)
      clear HS
      go_wp2_with fail
      refine HR.out.mono ?_
      rintro e w6 ⟨v5, rfl, hv5, hb5⟩
      clear HR
      go_wp2
      go_ret
      exact ⟨_, rfl, by rw [HF.out]; exact hv5, hB3.trans (((below_drewN' w4 k).trans (hb4.trans (hb5.mono hb4.size))).mono hB3.size)⟩
  · have HF : Hid (r = mkRat (sgn true (qnum p * q.den + qnum q * p.den)) (p.den * q.den)) := by
      show _ = _
      rw [HQ2.out, hpn, hqn]; rfl
    clear HQ2
    go_wp2_with fail
    refine HADD.out.mono ?_
    rintro e w5 ⟨v4, rfl, hv4, hb4⟩
    have HR := Lib.hid (reduced_any (neg := true) hv4 (hv3.later hb4) SS.out.sum SS.out.dd HD.out)
    clear HADD
    go_wp2_with fail
    refine HR.out.mono ?_
    rintro e w6 ⟨v5, rfl, hv5, hb5⟩
    clear HR
    go_wp2
    go_ret
    exact ⟨_, rfl, by rw [HF.out]; exact hv5, hB3.trans ((hb4.trans (hb5.mono hb4.size)).mono hB3.size)⟩
  · have HF : Hid (r = mkRat (sgn true (qnum p * q.den + qnum q * p.den)) (p.den * q.den)) := by
      show _ = _
      rw [HQ2.out, hpn, hqn]; rfl
    clear HQ2
    go_wp2_with fail
    refine HADD.out.mono ?_
    rintro e w5 ⟨v4, rfl, hv4, hb4⟩
    have HR := Lib.hid (reduced_any (neg := true) hv4 (hv3.later hb4) SS.out.sum SS.out.dd HD.out)
    clear HADD
    go_wp2_with fail
    refine HR.out.mono ?_
    rintro e w6 ⟨v5, rfl, hv5, hb5⟩
    clear HR
    go_wp2
    go_ret
    exact ⟨_, rfl, by rw [HF.out]; exact hv5, hB3.trans ((hb4.trans (hb5.mono hb4.size)).mono hB3.size)⟩
  · skip
    by_cases hge : qnum q * p.den ≤ qnum p * q.den
    · have HF : Hid (r = mkRat (sgn true (qnum p * q.den - qnum q * p.den)) (p.den * q.den)) := by
        show _ = _
        rw [HQ2.out, hpn, hqn, if_neg (by decide), if_pos hge]
      obtain ⟨c, hc0, hc1, hcmp⟩ := cmp_ge hA hB hge
      have HC := Lib.hid hcmp
      have HS := Lib.hid (fun k => sub_any (hA.later (below_drewN' w4 k)) (hB.later (below_drewN' w4 k)) SS.out.nd hge)
      have hcz : decide (0 ≤ c) = true := by simp [hc0]
      have KD := Lib.hid (fun k => (K.out (w4.drewN k) (hB3.trans ((below_drewN' w4 k).mono hB3.size))))
      clear HQ2 hcmp HADD
      go_wp2_with fail
      refine HC.out.mono ?_
      rintro e w' ⟨rfl, k, rfl⟩
      clear HC
      go_wp2_with fail
      have KS := Lib.hid (fun (w1 : World) (hb : Below w.heap.size w w1) => (⟨by rw [← hpn]; exact (K.out w1 hb).1, hb⟩ : w1.cell? ⟨g, 0, none⟩ = some (.bool true) ∧ Below w.heap.size w w1))
      have hBk : Below w.heap.size w (w4.drewN k) := hB3.trans ((below_drewN' w4 k).mono hB3.size)
      have i1 := (KS.out _ hBk).1
      have HSb := Lib.hid (fun (w1 : World) (h1 : Below w4.heap.size w4 w1) => sub_any (hA.later h1) (hB.later h1) SS.out.nd hge)
      have HRb := Lib.hid (fun (w1 w2 : World) (v : Value) (h1 : Below w4.heap.size w4 w1) (h2 : Below w1.heap.size w1 w2) (hv : IsN B32 w2 v (qnum p * q.den - qnum q * p.den)) => reduced_any (neg := true) hv (hv3.later (h1.trans (h2.mono h1.size))) (SS.out.nd.mono (Nat.sub_le _ _)) SS.out.dd HD.out)
      have hb4k : Below w4.heap.size w4 ((w4.drewN k).drew) := (below_drewN' w4 k).drew
      clear HS KD
      go_region_held3 (fun w' => w'.cell? ⟨g, 0, none⟩ = some (.bool true) ∧ Below w.heap.size w w')
        (first | exact KS.out _ (by assumption) | exact KS.out _ (Below.drew (by assumption)))
        (first
          | (go_at_call 127; refine (HSb.out _ hb4k).mono ?_; rintro e w5 ⟨v4, rfl, hv4, hb4⟩; have hB4 := (hBk.drew).trans (hb4.mono hBk.drew.size))
          | (go_at_call 64; refine (HRb.out _ _ _ hb4k hb4 hv4).mono ?_; rintro e w6 ⟨v5, rfl, hv5, hb5⟩; have hB5 := hB4.trans (hb5.mono hB4.size)))
      go_wp2
      go_ret
      exact ⟨_, rfl, by rw [HF.out]; exact hv5, hB5⟩
    · have hlt : qnum p * q.den < qnum q * p.den := by omega
      have HF : Hid (r = mkRat (sgn false (qnum q * p.den - qnum p * q.den)) (p.den * q.den)) := by
        show _ = _
        rw [HQ2.out, hpn, hqn, if_neg (by decide), if_neg hge]; rfl
      have hcmp := cmp_any hA hB
      rw [cmpN, if_pos hlt] at hcmp
      have HC := Lib.hid hcmp
      have HS := Lib.hid (fun k => sub_any (hB.later (below_drewN' w4 k)) (hA.later (below_drewN' w4 k)) SS.out.dn (Nat.le_of_lt hlt))
      clear HQ2 hcmp HADD hge hlt
      go_wp2_with fail
      refine HC.out.mono ?_
      rintro e w' ⟨rfl, k, rfl⟩
      clear HC
      go_wp2_with fail
      refine (HS.out k).mono ?_
      rintro e w5 ⟨v4, rfl, hv4, hb4⟩
      have HR := Lib.hid (reduced_any (neg := false) hv4 (hv3.later ((below_drewN' w4 k).trans hb4)) (SS.out.dn.mono (Nat.sub_le _ _)) SS.out.dd HD.out)
      clear HS
      go_wp2_with fail
      refine HR.out.mono ?_
      rintro e w6 ⟨v5, rfl, hv5, hb5⟩
      clear HR
      go_wp2
      go_ret
      exact ⟨_, rfl, by rw [HF.out]; exact hv5, hB3.trans (((below_drewN' w4 k).trans (hb4.trans (hb5.mono hb4.size))).mono hB3.size)⟩
end Go.Proofs.YtemhidlaaommaaaGreatDoor
