/- The reference's rational numbers, contracts: Mul, Quo, Add, Neg, Sub, Cmp. -/
import Derived.Test.YtemhidlaaommaaaGreatDoorG2
namespace Go.Proofs.YtemhidlaaommaaaGreatDoor
open Go.RowKit

abbrev boxC (b : Bool) (vn vd : Value) : Obj := .cells #[.bool b, vn, vd] 28
abbrev set9 (w : World) (g : Nat) (z0 z1 z2 : Value) : World := ((w.setCell ⟨g, 0, none⟩ z0).setCell ⟨g, 1, none⟩ z1).setCell ⟨g, 2, none⟩ z2
theorem Bx9.later {w w' : World} {g : Nat} {b : Bool} {vn vd : Value} {q : Rat} (h : Bx9 w g b vn vd q) (hb : Below w.heap.size w w') : Bx9 w' g b vn vd q :=
  have hg : g < w.heap.size := World.block_lt_of_cell? w ⟨g, 0, none⟩ h.neg
  ⟨(hb.cell (p := ⟨g, 0, none⟩) hg).trans h.neg, (hb.cell (p := ⟨g, 1, none⟩) hg).trans h.num, (hb.cell (p := ⟨g, 2, none⟩) hg).trans h.den, h.isNum.later hb, h.isDen.later hb⟩

/-- two numbers in boxes, and a result's block: what holds of every later world, as letters: P (nothing is written yet), Q (the result may be written) -/
theorem boxP2 {w : World} {b c : Bool} {vn vd un ud : Value} {p q : Rat} (hp : b = qneg p) (hq : c = qneg q) (hn : IsN B9 w vn (qnum p)) (hd : IsN B9 w vd p.den) (kn : IsN B9 w un (qnum q)) (kd : IsN B9 w ud q.den) :
    ∃ P Q : World → Prop, P (((w.alloc (boxC b vn vd)).alloc (boxC c un ud)).alloc (boxC false (.slice none 0 0) (.slice none 0 0))) ∧
      Hid (∀ w1 w2, P w1 → Below w1.heap.size w1 w2 → P w2) ∧ Hid (∀ w1, P w1 → P w1.drew) ∧ Hid (∀ w1, P w1 → Q w1) ∧ Hid (∀ w1, P w1 → Res9 w1 (w.heap.size + 1 + 1)) ∧
      Hid (∀ w1 z0 z1 z2, Q w1 → Q (set9 w1 (w.heap.size + 1 + 1) z0 z1 z2)) ∧
      Hid (∀ w1, Q w1 → Bx9 w1 w.heap.size b vn vd p ∧ Bx9 w1 (w.heap.size + 1) c un ud q ∧ Below w.heap.size w w1) := by
  obtain ⟨w2, hw2⟩ : ∃ w2, w2 = (w.alloc (boxC b vn vd)).alloc (boxC c un ud) := ⟨_, rfl⟩
  have hsz : w2.heap.size = w.heap.size + 1 + 1 := by rw [hw2]; simp
  have hb2 : Below w.heap.size w w2 := by rw [hw2]; exact (below_alloc _ _).alloc (by simp) _
  have x1 : Bx9 w2 w.heap.size b vn vd p := by
    have h := At9.made (w := w) (t := 28) hn hd
    rw [← hp] at h
    have h2 := h.later (below_alloc _ (boxC c un ud))
    rw [hw2]
    exact ⟨h2.neg.trans (by rw [← hp]), h2.num, h2.den, h2.isNum, h2.isDen⟩
  have x2 : Bx9 w2 (w.heap.size + 1) c un ud q := by
    have h := At9.made (w := w.alloc (boxC b vn vd)) (t := 28) (kn.later (below_alloc _ _)) (kd.later (below_alloc _ _))
    rw [← hq] at h
    rw [hw2]
    have e : (w.alloc (boxC b vn vd)).heap.size = w.heap.size + 1 := by simp
    rw [e] at h
    exact ⟨h.neg.trans (by rw [← hq]), h.num, h.den, h.isNum, h.isDen⟩
  rw [← hw2]
  have hr := Res9.made w2 28
  rw [hsz] at hr
  have hb3 := below_alloc w2 (boxC false (.slice none 0 0) (.slice none 0 0))
  refine ⟨fun w1 => Below w2.heap.size w2 w1 ∧ Res9 w1 (w.heap.size + 1 + 1), fun w1 => Below w2.heap.size w2 w1, ⟨hb3, hr⟩, fun w1 w' h h' => ⟨below_keep h.1 h', h.2.later h' (World.block_lt_of_cell? _ _ h.2.c0)⟩, fun w1 h => ⟨h.1.drew, ⟨h.2.c0, h.2.c1, h.2.c2, h.2.f0, h.2.f1, h.2.f2⟩⟩, fun w1 h => h.1, fun w1 h => h.2, fun w1 z0 z1 z2 h => ?_, fun w1 h => ⟨x1.later h, x2.later h, below_keep hb2 h⟩⟩
  exact ((h.setCell (by rw [hsz]; exact Nat.le_refl _) _).setCell (by rw [hsz]; exact Nat.le_refl _) _).setCell (by rw [hsz]; exact Nat.le_refl _) _

set_option maxHeartbeats 3200000 in
set_option maxRecDepth 100000 in
theorem mul9R_any {p q : Rat} {k : Nat} {x y : Value} {w : World} (hx : Q9 w x p) (hy : Q9 w y q) (bp : Bd k p) (bq : Bd k q) (hk : k ≤ 400000) :
    Calls Tryz.prog 31 #[x, y] w (RetQ9 (p * q) w) := by
  obtain ⟨vn, vd, rfl, hn, hd⟩ := hx
  obtain ⟨un, ud, rfl, kn, kd⟩ := hy
  obtain ⟨a1, n1, c1, rfl, -⟩ := hn.shape (by decide)
  obtain ⟨a2, n2, c2, rfl, -⟩ := hd.shape (by decide)
  obtain ⟨a3, n3, c3, rfl, -⟩ := kn.shape (by decide)
  obtain ⟨a4, n4, c4, rfl, -⟩ := kd.shape (by decide)
  obtain ⟨b, hp⟩ : ∃ b, b = qneg p := ⟨_, rfl⟩
  obtain ⟨c, hq⟩ : ∃ c, c = qneg q := ⟨_, rfl⟩
  obtain ⟨P, Q, p0, PK, PD, PQ, PR, QS, QG⟩ := boxP2 hp hq hn hd kn kd
  rw [← hp, ← hq]
  have C1 := Lib.hid (fun (w1 : World) (h : P w1) => times_any (QG.out _ (PQ.out _ h)).1.isNum (QG.out _ (PQ.out _ h)).2.1.isNum (sm_lt bp.num (by omega)) (sm_lt bq.num (by omega)))
  have C2 := Lib.hid (fun (w1 : World) (h : P w1) => times_any (QG.out _ (PQ.out _ h)).1.isDen (QG.out _ (PQ.out _ h)).2.1.isDen (sm_lt bp.den (by omega)) (sm_lt bq.den (by omega)))
  have C3 : Hid (∀ w1 v1 v2, IsN B9 w1 v1 (qnum p * qnum q) → IsN B9 w1 v2 (p.den * q.den) → Calls Tryz.prog 66 #[.bool (b != c), v1, v2] w1 (RetQ9 (p * q) w1)) := fun w1 v1 v2 h1 h2 => by
    rw [q_mul, hp, hq]
    exact red9_any (k := k + k) h1 h2 (mul_lt_pow bp.num bq.num) (mul_lt_pow bp.den bq.den) (by omega) (Nat.mul_ne_zero p.den_nz q.den_nz)
  have KD := Lib.hid (fun (w1 : World) (h : Q w1) => And.intro (QG.out _ h).1.neg (And.intro (QG.out _ h).1.num (And.intro (QG.out _ h).1.den (And.intro (QG.out _ h).2.1.neg (And.intro (QG.out _ h).2.1.num (And.intro (QG.out _ h).2.1.den h))))))
  have hP := PD.out _ p0
  clear hn hd kn kd hp hq bp bq p0
  go_enter Tryz.func31, Tryz.ntmps31
  go_wp2_with fail
  go_region_held3 (fun w' => w'.cell? ⟨w.heap.size, 0, none⟩ = some (.bool b) ∧ w'.cell? ⟨w.heap.size, 1, none⟩ = some (.slice a1 n1 c1) ∧ w'.cell? ⟨w.heap.size, 2, none⟩ = some (.slice a2 n2 c2) ∧ w'.cell? ⟨w.heap.size + 1, 0, none⟩ = some (.bool c) ∧ w'.cell? ⟨w.heap.size + 1, 1, none⟩ = some (.slice a3 n3 c3) ∧ w'.cell? ⟨w.heap.size + 1, 2, none⟩ = some (.slice a4 n4 c4) ∧ Q w')
    (first | exact KD.out _ (PQ.out _ (by assumption)) | exact KD.out _ (QS.out _ _ _ _ (PQ.out _ (by assumption))))
    (first
      | (go_at_call_of 85 (Value.slice a1 n1 c1); refine (C1.out _ hP).mono ?_; rintro e w1 ⟨v1, rfl, hv1, hb1⟩; have hP1 := PK.out _ _ hP hb1)
      | (go_at_call_of 85 (Value.slice a2 n2 c2); refine (C2.out _ hP1).mono ?_; rintro e w2 ⟨v2, rfl, hv2, hb2⟩; have hP2 := PK.out _ _ hP1 hb2)
      | (go_at_call 66; refine (C3.out _ _ _ (hv1.later hb2) hv2).mono ?_; rintro e w3 ⟨v3, rfl, ⟨rn, rd, rfl, hrn, hrd⟩, hb3⟩; obtain ⟨ar, nr, cr, rfl, -⟩ := hrn.shape (by decide); obtain ⟨ad, nd, cd, rfl, -⟩ := hrd.shape (by decide); have hP3 := PK.out _ _ hP2 hb3; obtain ⟨r0, r1, r2, f0, f1, f2⟩ := PR.out _ hP3))
  have HR := Lib.hid (PR.out _ hP3)
  have HN := Lib.hid hrn
  have HD := Lib.hid hrd
  have HB := Lib.hid (QG.out _ (PQ.out _ hP3)).2.2
  clear hP hP1 hP2 hP3 hb1 hb2 hb3 hv1 hv2 hrn hrd
  go_wp2
  refine bodyPost_ret (by simp [results, Tryz.results31, go_sem, r0, r1, r2]; try rfl) rfl ?_
  exact ⟨_, rfl, ⟨_, _, rfl, HR.out.set3 HN.out _ _ _, HR.out.set3 HD.out _ _ _⟩, below_set3' HB.out (by omega)⟩

theorem quo9R_zero {p : Rat} {x y : Value} {w : World} (hx : Q9 w x p) (hy : Q9 w y 0) :
    Calls Tryz.prog 25 #[x, y] w (RetV (.tuple #[.agg #[.bool false, .slice none 0 0, .slice none 0 0], .int .i64 2]) w) := by
  obtain ⟨q, hq0⟩ : ∃ q : Rat, q = 0 := ⟨_, rfl⟩
  rw [← hq0] at hy
  obtain ⟨vn, vd, rfl, hn, hd⟩ := hx
  obtain ⟨un, ud, rfl, kn, kd⟩ := hy
  obtain ⟨a1, n1, c1, rfl, -⟩ := hn.shape (by decide)
  obtain ⟨a2, n2, c2, rfl, -⟩ := hd.shape (by decide)
  obtain ⟨a3, n3, c3, rfl, hz3⟩ := kn.shape (by decide)
  obtain ⟨a4, n4, c4, rfl, -⟩ := kd.shape (by decide)
  obtain ⟨b, hp⟩ : ∃ b, b = qneg p := ⟨_, rfl⟩
  obtain ⟨c, hq⟩ : ∃ c, c = qneg q := ⟨_, rfl⟩
  obtain ⟨P, Q, p0, PK, PD, PQ, PR, QS, QG⟩ := boxP2 hp hq hn hd kn kd
  rw [← hp, ← hq]
  obtain rfl : n3 = 0 := hz3.2 (by rw [hq0]; rfl)
  have K := QG.out _ (PQ.out _ p0)
  obtain ⟨⟨k0, k1, k2, -, -⟩, ⟨j0, j1, j2, -, -⟩, -⟩ := K
  obtain ⟨r0, r1, r2, f0, f1, f2⟩ := PR.out _ p0
  have HQ := Lib.hid (PQ.out _ p0)
  clear hn hd kn kd hp hq hz3 p0 hq0
  go_enter Tryz.func25, Tryz.ntmps25
  go_wp2
  refine bodyPost_ret (by simp [results, Tryz.results25, go_sem, r0, r1, r2]; try rfl) rfl ?_
  first | exact ⟨rfl, (QG.out _ HQ.out).2.2⟩ | exact ⟨rfl, below_set3' (QG.out _ HQ.out).2.2 (by omega)⟩

set_option maxHeartbeats 3200000 in
set_option maxRecDepth 100000 in
theorem quo9R_any {p q : Rat} {k : Nat} {x y : Value} {w : World} (hx : Q9 w x p) (hy : Q9 w y q) (bp : Bd k p) (bq : Bd k q) (hk : k ≤ 400000) (h0 : q ≠ 0) :
    Calls Tryz.prog 25 #[x, y] w (RetQ9E (p / q) w) := by
  obtain ⟨vn, vd, rfl, hn, hd⟩ := hx
  obtain ⟨un, ud, rfl, kn, kd⟩ := hy
  obtain ⟨a1, n1, c1, rfl, -⟩ := hn.shape (by decide)
  obtain ⟨a2, n2, c2, rfl, -⟩ := hd.shape (by decide)
  obtain ⟨a3, n3, c3, rfl, hz3⟩ := kn.shape (by decide)
  obtain ⟨a4, n4, c4, rfl, -⟩ := kd.shape (by decide)
  obtain ⟨b, hp⟩ : ∃ b, b = qneg p := ⟨_, rfl⟩
  obtain ⟨c, hq⟩ : ∃ c, c = qneg q := ⟨_, rfl⟩
  obtain ⟨P, Q, p0, PK, PD, PQ, PR, QS, QG⟩ := boxP2 hp hq hn hd kn kd
  rw [← hp, ← hq]
  have C1 := Lib.hid (fun (w1 : World) (h : P w1) => times_any (QG.out _ (PQ.out _ h)).1.isNum (QG.out _ (PQ.out _ h)).2.1.isDen (sm_lt bp.num (by omega)) (sm_lt bq.den (by omega)))
  have C2 := Lib.hid (fun (w1 : World) (h : P w1) => times_any (QG.out _ (PQ.out _ h)).1.isDen (QG.out _ (PQ.out _ h)).2.1.isNum (sm_lt bp.den (by omega)) (sm_lt bq.num (by omega)))
  have hqn : qnum q ≠ 0 := fun e => h0 ((q_zero_iff q).1 e)
  have C3 : Hid (∀ w1 v1 v2, IsN B9 w1 v1 (qnum p * q.den) → IsN B9 w1 v2 (p.den * qnum q) → Calls Tryz.prog 66 #[.bool (b != c), v1, v2] w1 (RetQ9 (p / q) w1)) := fun w1 v1 v2 h1 h2 => by
    rw [q_quo _ _ h0, hp, hq]
    exact red9_any (k := k + k) h1 h2 (mul_lt_pow bp.num bq.den) (mul_lt_pow bp.den bq.num) (by omega) (Nat.mul_ne_zero p.den_nz hqn)
  have KD := Lib.hid (fun (w1 : World) (h : Q w1) => And.intro (QG.out _ h).1.neg (And.intro (QG.out _ h).1.num (And.intro (QG.out _ h).1.den (And.intro (QG.out _ h).2.1.neg (And.intro (QG.out _ h).2.1.num (And.intro (QG.out _ h).2.1.den h))))))
  have hn3 : ((n3 : Int) == 0) = false := by rw [beq_eq_false_iff_ne]; intro e; exact hqn (hz3.1 (by omega))
  have hP := PD.out _ p0
  obtain ⟨-, -, -, -, j1, -⟩ := KD.out _ (PQ.out _ p0)
  clear hn hd kn kd hp hq bp bq p0 hqn hz3 h0
  go_enter Tryz.func25, Tryz.ntmps25
  go_wp2_with fail
  clear j1
  go_region_held3 (fun w' => w'.cell? ⟨w.heap.size, 0, none⟩ = some (.bool b) ∧ w'.cell? ⟨w.heap.size, 1, none⟩ = some (.slice a1 n1 c1) ∧ w'.cell? ⟨w.heap.size, 2, none⟩ = some (.slice a2 n2 c2) ∧ w'.cell? ⟨w.heap.size + 1, 0, none⟩ = some (.bool c) ∧ w'.cell? ⟨w.heap.size + 1, 1, none⟩ = some (.slice a3 n3 c3) ∧ w'.cell? ⟨w.heap.size + 1, 2, none⟩ = some (.slice a4 n4 c4) ∧ Q w')
    (first | exact KD.out _ (PQ.out _ (by assumption)) | exact KD.out _ (QS.out _ _ _ _ (PQ.out _ (by assumption))))
    (first
      | (go_at_call_of 85 (Value.slice a1 n1 c1); refine (C1.out _ hP).mono ?_; rintro e w1 ⟨v1, rfl, hv1, hb1⟩; have hP1 := PK.out _ _ hP hb1)
      | (go_at_call_of 85 (Value.slice a2 n2 c2); refine (C2.out _ hP1).mono ?_; rintro e w2 ⟨v2, rfl, hv2, hb2⟩; have hP2 := PK.out _ _ hP1 hb2)
      | (go_at_call 66; refine (C3.out _ _ _ (hv1.later hb2) hv2).mono ?_; rintro e w3 ⟨v3, rfl, ⟨rn, rd, rfl, hrn, hrd⟩, hb3⟩; obtain ⟨ar, nr, cr, rfl, -⟩ := hrn.shape (by decide); obtain ⟨ad, nd, cd, rfl, -⟩ := hrd.shape (by decide); have hP3 := PK.out _ _ hP2 hb3; obtain ⟨r0, r1, r2, f0, f1, f2⟩ := PR.out _ hP3))
  have HR := Lib.hid (PR.out _ hP3)
  have HN := Lib.hid hrn
  have HD := Lib.hid hrd
  have HB := Lib.hid (QG.out _ (PQ.out _ hP3)).2.2
  clear hP hP1 hP2 hP3 hb1 hb2 hb3 hv1 hv2 hrn hrd
  go_wp2
  refine bodyPost_ret (by simp [results, Tryz.results25, go_sem, r0, r1, r2]; try rfl) rfl ?_
  exact ⟨_, rfl, ⟨_, _, rfl, HR.out.set3 HN.out _ _ _, HR.out.set3 HD.out _ _ _⟩, below_set3' HB.out (by omega)⟩

theorem Below.drewn (w : World) : Below w.heap.size w w.drew := (Below.refl _ _).drew
set_option maxHeartbeats 6400000 in
set_option maxRecDepth 100000 in
theorem add9R_any {p q : Rat} {k : Nat} {x y : Value} {w : World} (hx : Q9 w x p) (hy : Q9 w y q) (bp : Bd k p) (bq : Bd k q) (hk : k ≤ 400000) :
    Calls Tryz.prog 27 #[x, y] w (RetQ9 (p + q) w) := by
  obtain ⟨vn, vd, rfl, hn, hd⟩ := hx
  obtain ⟨un, ud, rfl, kn, kd⟩ := hy
  obtain ⟨a1, n1, c1, rfl, -⟩ := hn.shape (by decide)
  obtain ⟨a2, n2, c2, rfl, -⟩ := hd.shape (by decide)
  obtain ⟨a3, n3, c3, rfl, -⟩ := kn.shape (by decide)
  obtain ⟨a4, n4, c4, rfl, -⟩ := kd.shape (by decide)
  obtain ⟨b, hp⟩ : ∃ b, b = qneg p := ⟨_, rfl⟩
  obtain ⟨c, hq⟩ : ∃ c, c = qneg q := ⟨_, rfl⟩
  obtain ⟨P, Q, p0, PK, PD, PQ, PR, QS, QG⟩ := boxP2 hp hq hn hd kn kd
  rw [← hp, ← hq]
  have C1 := Lib.hid (fun (w1 : World) (h : P w1) => times_any (QG.out _ (PQ.out _ h)).1.isNum (QG.out _ (PQ.out _ h)).2.1.isDen (sm_lt bp.num (by omega)) (sm_lt bq.den (by omega)))
  have C2 := Lib.hid (fun (w1 : World) (h : P w1) => times_any (QG.out _ (PQ.out _ h)).2.1.isNum (QG.out _ (PQ.out _ h)).1.isDen (sm_lt bq.num (by omega)) (sm_lt bp.den (by omega)))
  have C3 := Lib.hid (fun (w1 : World) (h : P w1) => times_any (QG.out _ (PQ.out _ h)).1.isDen (QG.out _ (PQ.out _ h)).2.1.isDen (sm_lt bp.den (by omega)) (sm_lt bq.den (by omega)))
  obtain ⟨A, hA⟩ : ∃ A, A = qnum p * q.den := ⟨_, rfl⟩
  obtain ⟨B, hB⟩ : ∃ B, B = qnum q * p.den := ⟨_, rfl⟩
  obtain ⟨D, hD⟩ : ∃ D, D = p.den * q.den := ⟨_, rfl⟩
  have lA : A < 2 ^ (k + k) := hA ▸ mul_lt_pow bp.num bq.den
  have lB : B < 2 ^ (k + k) := hB ▸ mul_lt_pow bq.num bp.den
  have lD : D < 2 ^ (k + k) := hD ▸ mul_lt_pow bp.den bq.den
  have D0 : D ≠ 0 := hD ▸ Nat.mul_ne_zero p.den_nz q.den_nz
  have hsum := q_added p q false
  simp only [Bool.false_eq_true, if_false, Bool.bne_false] at hsum
  rw [← hp, ← hq, ← hA, ← hB, ← hD] at hsum
  rw [← hA] at C1
  rw [← hB] at C2
  rw [← hD] at C3
  have CR : Hid (∀ (neg : Bool) X w1 v1 v2, X < 2 ^ (k + k + 1) → IsN B9 w1 v1 X → IsN B9 w1 v2 D → Calls Tryz.prog 66 #[.bool neg, v1, v2] w1 (RetQ9 (mkRat (sgn neg X) D) w1)) := fun neg X w1 v1 v2 h h1 h2 =>
    red9_any (k := k + k + 1) h1 h2 h (Nat.lt_of_lt_of_le lD (Nat.pow_le_pow_right (by decide) (by omega))) (by omega) D0
  have SA := sm_lt lA (by omega)
  have SB := sm_lt lB (by omega)
  have lA' : A < 2 ^ (k + k + 1) := Nat.lt_of_lt_of_le lA (Nat.pow_le_pow_right (by decide) (by omega))
  have lB' : B < 2 ^ (k + k + 1) := Nat.lt_of_lt_of_le lB (Nat.pow_le_pow_right (by decide) (by omega))
  have lAB := two_lt lA lB
  have KD := Lib.hid (fun (w1 : World) (h : Q w1) => And.intro (QG.out _ h).1.neg (And.intro (QG.out _ h).1.num (And.intro (QG.out _ h).1.den (And.intro (QG.out _ h).2.1.neg (And.intro (QG.out _ h).2.1.num (And.intro (QG.out _ h).2.1.den h))))))
  have hP := PD.out _ p0
  clear hn hd kn kd hp hq bp bq p0 hA hB hD lA lB lD D0 hk
  have HS := Lib.hid hsum
  replace SA := Lib.hid SA
  replace SB := Lib.hid SB
  have LA := Lib.hid lA'
  have LB := Lib.hid lB'
  have LAB := Lib.hid lAB
  clear hsum lA' lB' lAB
  go_enter Tryz.func27, Tryz.ntmps27
  go_wp2_with fail
  go_region_held3 (fun w' => w'.cell? ⟨w.heap.size, 0, none⟩ = some (.bool b) ∧ w'.cell? ⟨w.heap.size, 1, none⟩ = some (.slice a1 n1 c1) ∧ w'.cell? ⟨w.heap.size, 2, none⟩ = some (.slice a2 n2 c2) ∧ w'.cell? ⟨w.heap.size + 1, 0, none⟩ = some (.bool c) ∧ w'.cell? ⟨w.heap.size + 1, 1, none⟩ = some (.slice a3 n3 c3) ∧ w'.cell? ⟨w.heap.size + 1, 2, none⟩ = some (.slice a4 n4 c4) ∧ Q w')
    (first | exact KD.out _ (PQ.out _ (by assumption)) | exact KD.out _ (QS.out _ _ _ _ (PQ.out _ (by assumption))))
    (first
      | (go_at_call_of 85 (Value.slice a1 n1 c1); refine (C1.out _ hP).mono ?_; rintro e w1 ⟨v1, rfl, hv1, hb1⟩; have hP1 := PK.out _ _ hP hb1)
      | (go_at_call_of 85 (Value.slice a3 n3 c3); refine (C2.out _ hP1).mono ?_; rintro e w2 ⟨v2, rfl, hv2, hb2⟩; have hP2 := PK.out _ _ hP1 hb2))
  have P2 := Lib.hid hP2
  have V1 := Lib.hid (hv1.later hb2)
  have V2 := Lib.hid hv2
  clear hP hP1 hP2 hv1 hv2 hb1 hb2
  obtain ⟨j0, j1, j2, j3, j4, j5, -⟩ := KD.out _ (PQ.out _ P2.out)
  go_wp2_with fail
  refine (C3.out _ P2.out).mono ?_
  rintro e w3 ⟨v3, rfl, hv3, hb3⟩
  have P3 := Lib.hid (PK.out _ _ P2.out hb3)
  replace V1 := Lib.hid (V1.out.later hb3)
  replace V2 := Lib.hid (V2.out.later hb3)
  have V3 := Lib.hid hv3
  clear hv3 hb3 j0 j1 j2 j3 j4 j5
  obtain ⟨j0, -, -, j3, -⟩ := KD.out _ (PQ.out _ P3.out)
  obtain ⟨a5, n5, c5, rfl, -⟩ := V1.out.shape (by decide)
  obtain ⟨a6, n6, c6, rfl, -⟩ := V2.out.shape (by decide)
  by_cases hbc : b = c
  · subst hbc
    rw [if_pos rfl] at HS
    have hbb : (b == b) = true := by simp
    have hP := PD.out _ P3.out
    go_wp2_with fail
    clear j0 j3
    go_region_held3 (fun w' => w'.cell? ⟨w.heap.size, 0, none⟩ = some (.bool b) ∧ w'.cell? ⟨w.heap.size, 1, none⟩ = some (.slice a1 n1 c1) ∧ w'.cell? ⟨w.heap.size, 2, none⟩ = some (.slice a2 n2 c2) ∧ w'.cell? ⟨w.heap.size + 1, 0, none⟩ = some (.bool b) ∧ w'.cell? ⟨w.heap.size + 1, 1, none⟩ = some (.slice a3 n3 c3) ∧ w'.cell? ⟨w.heap.size + 1, 2, none⟩ = some (.slice a4 n4 c4) ∧ Q w')
      (first | exact KD.out _ (PQ.out _ (by assumption)) | exact KD.out _ (QS.out _ _ _ _ (PQ.out _ (by assumption))))
      (first
        | (go_at_call 87; refine (plus_any (V1.out.later (Below.drewn _)) (V2.out.later (Below.drewn _)) SA.out SB.out).mono ?_; rintro e w4 ⟨v5, rfl, hv5, hb5⟩; have hP2 := PK.out _ _ hP hb5)
        | (go_at_call 66; refine (CR.out _ _ _ _ _ LAB.out hv5 ((V3.out.later (Below.drewn _)).later hb5)).mono ?_; rintro e w3 ⟨v3, rfl, ⟨rn, rd, rfl, hrn, hrd⟩, hb3⟩; obtain ⟨ar, nr, cr, rfl, -⟩ := hrn.shape (by decide); obtain ⟨ad, nd, cd, rfl, -⟩ := hrd.shape (by decide); have hP3 := PK.out _ _ hP2 hb3; obtain ⟨r0, r1, r2, f0, f1, f2⟩ := PR.out _ hP3))
    rw [← HS.out] at *
    have HR := Lib.hid (PR.out _ hP3)
    have HN := Lib.hid hrn
    have HD := Lib.hid hrd
    have HB := Lib.hid (QG.out _ (PQ.out _ hP3)).2.2
    clear hP hP2 hP3 hb5 hb3 hv5 hrn hrd
    go_wp2
    refine bodyPost_ret (by simp [results, Tryz.results27, go_sem, r0, r1, r2]; try rfl) rfl ?_
    exact ⟨_, rfl, ⟨_, _, rfl, HR.out.set3 HN.out _ _ _, HR.out.set3 HD.out _ _ _⟩, below_set3' HB.out (by omega)⟩
  · rw [if_neg hbc] at HS
    have hbb : (b == c) = false := by simpa using hbc
    have CM := Lib.hid (rcmp_any V1.out V2.out)
    obtain ⟨cm, hcm⟩ : ∃ cm, cm = cmpN A B := ⟨_, rfl⟩
    rw [← hcm] at CM
    clear hbc
    by_cases hle : B ≤ A
    · rw [if_pos hle] at HS
      have hc0 : 0 ≤ cm := by rw [hcm]; unfold cmpN; rw [if_neg (by omega)]; split <;> decide
      have HLE := Lib.hid hle
      clear hcm hle
      go_wp2_with fail
      refine CM.out.mono ?_
      rintro e w4 ⟨rfl, kq, rfl⟩
      have P4 := Lib.hid (PK.out _ _ P3.out (below_drewN' _ kq))
      have hP := PD.out _ P4.out
      replace V1 := Lib.hid (V1.out.later (below_drewN' _ kq))
      replace V2 := Lib.hid (V2.out.later (below_drewN' _ kq))
      replace V3 := Lib.hid (V3.out.later (below_drewN' _ kq))
      clear j0 j3 CM
      go_wp2_with fail
      go_region_held3 (fun w' => w'.cell? ⟨w.heap.size, 0, none⟩ = some (.bool b) ∧ w'.cell? ⟨w.heap.size, 1, none⟩ = some (.slice a1 n1 c1) ∧ w'.cell? ⟨w.heap.size, 2, none⟩ = some (.slice a2 n2 c2) ∧ w'.cell? ⟨w.heap.size + 1, 0, none⟩ = some (.bool c) ∧ w'.cell? ⟨w.heap.size + 1, 1, none⟩ = some (.slice a3 n3 c3) ∧ w'.cell? ⟨w.heap.size + 1, 2, none⟩ = some (.slice a4 n4 c4) ∧ Q w')
        (first | exact KD.out _ (PQ.out _ (by assumption)) | exact KD.out _ (QS.out _ _ _ _ (PQ.out _ (by assumption))))
        (first
          | (go_at_call 89; refine (minus_any (V1.out.later (Below.drewn _)) (V2.out.later (Below.drewn _)) SA.out HLE.out).mono ?_; rintro e w4 ⟨v5, rfl, hv5, hb5⟩; have hP2 := PK.out _ _ hP hb5)
          | (go_at_call 66; refine (CR.out _ _ _ _ _ (Nat.lt_of_le_of_lt (Nat.sub_le _ _) LA.out) hv5 ((V3.out.later (Below.drewn _)).later hb5)).mono ?_; rintro e w3 ⟨v3, rfl, ⟨rn, rd, rfl, hrn, hrd⟩, hb3⟩; obtain ⟨ar, nr, cr, rfl, -⟩ := hrn.shape (by decide); obtain ⟨ad, nd, cd, rfl, -⟩ := hrd.shape (by decide); have hP3 := PK.out _ _ hP2 hb3; obtain ⟨r0, r1, r2, f0, f1, f2⟩ := PR.out _ hP3))
      rw [← HS.out] at *
      have HR := Lib.hid (PR.out _ hP3)
      have HN := Lib.hid hrn
      have HD := Lib.hid hrd
      have HB := Lib.hid (QG.out _ (PQ.out _ hP3)).2.2
      clear hP hP2 hP3 hb5 hb3 hv5 hrn hrd
      go_wp2
      refine bodyPost_ret (by simp [results, Tryz.results27, go_sem, r0, r1, r2]; try rfl) rfl ?_
      exact ⟨_, rfl, ⟨_, _, rfl, HR.out.set3 HN.out _ _ _, HR.out.set3 HD.out _ _ _⟩, below_set3' HB.out (by omega)⟩
    · rw [if_neg hle] at HS
      have hc0 : ¬ (0 ≤ cm) := by rw [hcm]; unfold cmpN; rw [if_pos (by omega)]; decide
      have HLE : Hid (A ≤ B) := by show _ ≤ _; omega
      clear hcm hle
      go_wp2_with fail
      refine CM.out.mono ?_
      rintro e w4 ⟨rfl, kq, rfl⟩
      have P4 := Lib.hid (PK.out _ _ P3.out (below_drewN' _ kq))
      have hP := PD.out _ P4.out
      replace V1 := Lib.hid (V1.out.later (below_drewN' _ kq))
      replace V2 := Lib.hid (V2.out.later (below_drewN' _ kq))
      replace V3 := Lib.hid (V3.out.later (below_drewN' _ kq))
      clear j0 j3 CM
      go_wp2_with fail
      go_region_held3 (fun w' => w'.cell? ⟨w.heap.size, 0, none⟩ = some (.bool b) ∧ w'.cell? ⟨w.heap.size, 1, none⟩ = some (.slice a1 n1 c1) ∧ w'.cell? ⟨w.heap.size, 2, none⟩ = some (.slice a2 n2 c2) ∧ w'.cell? ⟨w.heap.size + 1, 0, none⟩ = some (.bool c) ∧ w'.cell? ⟨w.heap.size + 1, 1, none⟩ = some (.slice a3 n3 c3) ∧ w'.cell? ⟨w.heap.size + 1, 2, none⟩ = some (.slice a4 n4 c4) ∧ Q w')
        (first | exact KD.out _ (PQ.out _ (by assumption)) | exact KD.out _ (QS.out _ _ _ _ (PQ.out _ (by assumption))))
        (first
          | (go_at_call 89; refine (minus_any (V2.out.later (Below.drewn _)) (V1.out.later (Below.drewn _)) SB.out HLE.out).mono ?_; rintro e w4 ⟨v5, rfl, hv5, hb5⟩; have hP2 := PK.out _ _ hP hb5)
          | (go_at_call 66; refine (CR.out _ _ _ _ _ (Nat.lt_of_le_of_lt (Nat.sub_le _ _) LB.out) hv5 ((V3.out.later (Below.drewn _)).later hb5)).mono ?_; rintro e w3 ⟨v3, rfl, ⟨rn, rd, rfl, hrn, hrd⟩, hb3⟩; obtain ⟨ar, nr, cr, rfl, -⟩ := hrn.shape (by decide); obtain ⟨ad, nd, cd, rfl, -⟩ := hrd.shape (by decide); have hP3 := PK.out _ _ hP2 hb3; obtain ⟨r0, r1, r2, f0, f1, f2⟩ := PR.out _ hP3))
      rw [← HS.out] at *
      have HR := Lib.hid (PR.out _ hP3)
      have HN := Lib.hid hrn
      have HD := Lib.hid hrd
      have HB := Lib.hid (QG.out _ (PQ.out _ hP3)).2.2
      clear hP hP2 hP3 hb5 hb3 hv5 hrn hrd
      go_wp2
      refine bodyPost_ret (by simp [results, Tryz.results27, go_sem, r0, r1, r2]; try rfl) rfl ?_
      exact ⟨_, rfl, ⟨_, _, rfl, HR.out.set3 HN.out _ _ _, HR.out.set3 HD.out _ _ _⟩, below_set3' HB.out (by omega)⟩
end Go.Proofs.YtemhidlaaommaaaGreatDoor
