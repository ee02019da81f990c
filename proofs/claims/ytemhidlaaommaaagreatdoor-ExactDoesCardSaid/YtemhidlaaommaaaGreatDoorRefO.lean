/- The reference's rational numbers, contracts: Neg, Sub, Cmp. -/
import Derived.Test.YtemhidlaaommaaaGreatDoorRefN
namespace Go.Proofs.YtemhidlaaommaaaGreatDoor
open Go.RowKit

theorem neg_num (q : Rat) : qnum (-q) = qnum q := by unfold qnum; rw [Rat.neg_num, Int.natAbs_neg]
theorem neg_den (q : Rat) : (-q).den = q.den := Rat.neg_den q
theorem neg_neg' (q : Rat) : qneg (-q) = (!qneg q && decide (qnum q ≠ 0)) := by
  unfold qneg qnum
  rw [Rat.neg_num, Bool.eq_iff_iff]
  simp only [decide_eq_true_eq, Bool.and_eq_true, Bool.not_eq_true', decide_eq_false_iff_not]
  omega
theorem Bd.neg {k : Nat} {q : Rat} (h : Bd k q) : Bd k (-q) := ⟨by rw [neg_num]; exact h.num, by rw [neg_den]; exact h.den⟩

set_option maxHeartbeats 1600000 in
set_option maxRecDepth 100000 in
theorem neg9_any {q : Rat} {v : Value} {w : World} (h : Q9 w v q) :
    Calls Tryz.prog 90 #[v] w (RetQ9 (-q) w) := by
  obtain ⟨vn, vd, rfl, hn, hd⟩ := h
  obtain ⟨a, n1, cap, rfl, hz⟩ := hn.shape (by decide)
  obtain ⟨a', n', cap', rfl, -⟩ := hd.shape (by decide)
  obtain ⟨b, hq⟩ : ∃ b, b = qneg q := ⟨_, rfl⟩
  rw [← hq]
  have HF : Hid (∀ c o1 o2, c = (!b && decide (qnum q ≠ 0)) → Q9 ((w.alloc o1).alloc o2) (.agg #[.bool c, .slice a n1 cap, .slice a' n' cap']) (-q) ∧ Below w.heap.size w ((w.alloc o1).alloc o2)) := fun c o1 o2 h1 =>
    have hb : Below w.heap.size w ((w.alloc o1).alloc o2) := (below_alloc w o1).alloc (by simp) _
    ⟨⟨.slice a n1 cap, .slice a' n' cap', by rw [neg_neg', h1, hq], by rw [neg_num]; exact hn.later hb, by rw [neg_den]; exact hd.later hb⟩, hb⟩
  have hz : Hid (n1 = 0 ↔ qnum q = 0) := hz
  rename_i hz'
  clear hz' hq
  cases b
  · by_cases h0 : n1 = 0
    · subst h0
      have HQ : Hid (qnum q = 0) := hz.out.1 rfl
      clear hn hd
      go_enter Tryz.func90, Tryz.ntmps90
      go_wp2
      go_returns
      exact ⟨_, rfl, HF.out _ _ _ (by simp [HQ.out])⟩
    · have h1 : 0 < n1 := by omega
      have HQ : Hid (qnum q ≠ 0) := fun e => h0 (hz.out.2 e)
      clear h0 hn hd
      go_enter Tryz.func90, Tryz.ntmps90
      go_wp2
      go_returns
      exact ⟨_, rfl, HF.out _ _ _ (by simp [HQ.out])⟩
  · clear hn hd
    go_enter Tryz.func90, Tryz.ntmps90
    go_wp2
    go_returns
    exact ⟨_, rfl, HF.out _ _ _ (by simp)⟩

set_option maxHeartbeats 3200000 in
set_option maxRecDepth 100000 in
theorem sub9R_any {p q : Rat} {k : Nat} {x y : Value} {w : World} (hx : Q9 w x p) (hy : Q9 w y q) (bp : Bd k p) (bq : Bd k q) (hk : k ≤ 400000) :
    Calls Tryz.prog 29 #[x, y] w (RetQ9 (p - q) w) := by
  obtain ⟨vn, vd, rfl, hn, hd⟩ := hx
  obtain ⟨un, ud, rfl, kn, kd⟩ := hy
  obtain ⟨a1, n1, c1, rfl, -⟩ := hn.shape (by decide)
  obtain ⟨a2, n2, c2, rfl, -⟩ := hd.shape (by decide)
  obtain ⟨a3, n3, c3, rfl, -⟩ := kn.shape (by decide)
  obtain ⟨a4, n4, c4, rfl, -⟩ := kd.shape (by decide)
  obtain ⟨b, hp⟩ : ∃ b, b = qneg p := ⟨_, rfl⟩
  obtain ⟨c, hq⟩ : ∃ c, c = qneg q := ⟨_, rfl⟩
  obtain ⟨P, Q, p0, PK, PD, PQ, PR, QS, QG⟩ := boxP2 hp hq hn hd kn kd
  rw [← hp, ← hq]
  have X9 : Hid (∀ w1, P w1 → Q9 w1 (.agg #[.bool b, .slice a1 n1 c1, .slice a2 n2 c2]) p) := fun w1 h => ⟨_, _, by rw [hp], (QG.out _ (PQ.out _ h)).1.isNum, (QG.out _ (PQ.out _ h)).1.isDen⟩
  have C1 := Lib.hid (fun (w1 : World) (h : P w1) => neg9_any (q := q) (v := .agg #[.bool c, .slice a3 n3 c3, .slice a4 n4 c4]) (w := w1) ⟨_, _, by rw [hq], (QG.out _ (PQ.out _ h)).2.1.isNum, (QG.out _ (PQ.out _ h)).2.1.isDen⟩)
  have C2 : Hid (∀ w1 v, P w1 → Q9 w1 v (-q) → Calls Tryz.prog 27 #[.agg #[.bool b, .slice a1 n1 c1, .slice a2 n2 c2], v] w1 (RetQ9 (p - q) w1)) := fun w1 v h hv => by
    rw [Rat.sub_eq_add_neg]
    exact add9R_any (X9.out w1 h) hv bp bq.neg hk
  have KD := Lib.hid (fun (w1 : World) (h : Q w1) => And.intro (QG.out _ h).1.neg (And.intro (QG.out _ h).1.num (And.intro (QG.out _ h).1.den (And.intro (QG.out _ h).2.1.neg (And.intro (QG.out _ h).2.1.num (And.intro (QG.out _ h).2.1.den h))))))
  have hP := PD.out _ p0
  clear hn hd kn kd hp hq bp bq p0
  go_enter Tryz.func29, Tryz.ntmps29
  go_wp2_with fail
  go_region_held3 (fun w' => w'.cell? ⟨w.heap.size, 0, none⟩ = some (.bool b) ∧ w'.cell? ⟨w.heap.size, 1, none⟩ = some (.slice a1 n1 c1) ∧ w'.cell? ⟨w.heap.size, 2, none⟩ = some (.slice a2 n2 c2) ∧ w'.cell? ⟨w.heap.size + 1, 0, none⟩ = some (.bool c) ∧ w'.cell? ⟨w.heap.size + 1, 1, none⟩ = some (.slice a3 n3 c3) ∧ w'.cell? ⟨w.heap.size + 1, 2, none⟩ = some (.slice a4 n4 c4) ∧ Q w')
    (first | exact KD.out _ (PQ.out _ (by assumption)) | exact KD.out _ (QS.out _ _ _ _ (PQ.out _ (by assumption))))
    (first
      | (go_at_call 90; refine (C1.out _ hP).mono ?_; rintro e w2 ⟨v1, rfl, hv1, hb1⟩; have hP2 := PK.out _ _ hP hb1)
      | (go_at_call 27; refine (C2.out _ _ hP2 hv1).mono ?_; rintro e w3 ⟨v3, rfl, ⟨rn, rd, rfl, hrn, hrd⟩, hb3⟩; obtain ⟨ar, nr, cr, rfl, -⟩ := hrn.shape (by decide); obtain ⟨ad, nd, cd, rfl, -⟩ := hrd.shape (by decide); have hP3 := PK.out _ _ hP2 hb3; obtain ⟨r0, r1, r2, f0, f1, f2⟩ := PR.out _ hP3))
  have HR := Lib.hid (PR.out _ hP3)
  have HN := Lib.hid hrn
  have HD := Lib.hid hrd
  have HB := Lib.hid (QG.out _ (PQ.out _ hP3)).2.2
  clear hP hP2 hP3 hb1 hb3 hv1 hrn hrd
  go_wp2
  refine bodyPost_ret (by simp [results, Tryz.results29, go_sem, r0, r1, r2]; try rfl) rfl ?_
  exact ⟨_, rfl, ⟨_, _, rfl, HR.out.set3 HN.out _ _ _, HR.out.set3 HD.out _ _ _⟩, below_set3' HB.out (by omega)⟩

set_option maxHeartbeats 1600000 in
set_option maxRecDepth 100000 in
theorem cmp9R_any {p q : Rat} {k : Nat} {x y : Value} {w : World} (hx : Q9 w x p) (hy : Q9 w y q) (bp : Bd k p) (bq : Bd k q) (hk : k ≤ 400000) :
    Calls Tryz.prog 33 #[x, y] w (RetV (.int .i64 (sgnQ (p - q))) w) := by
  obtain ⟨vn, vd, rfl, hn, hd⟩ := hx
  obtain ⟨un, ud, rfl, kn, kd⟩ := hy
  obtain ⟨a1, n1, c1, rfl, -⟩ := hn.shape (by decide)
  obtain ⟨a2, n2, c2, rfl, -⟩ := hd.shape (by decide)
  obtain ⟨a3, n3, c3, rfl, -⟩ := kn.shape (by decide)
  obtain ⟨a4, n4, c4, rfl, -⟩ := kd.shape (by decide)
  obtain ⟨b, hp⟩ : ∃ b, b = qneg p := ⟨_, rfl⟩
  obtain ⟨c, hq⟩ : ∃ c, c = qneg q := ⟨_, rfl⟩
  rw [← hp, ← hq]
  obtain ⟨w2, hw2⟩ : ∃ w2, w2 = (w.alloc (boxC b (.slice a1 n1 c1) (.slice a2 n2 c2))).alloc (boxC c (.slice a3 n3 c3) (.slice a4 n4 c4)) := ⟨_, rfl⟩
  have hb2 : Below w.heap.size w w2 := by rw [hw2]; exact (below_alloc _ _).alloc (by simp) _
  have x1 : Bx9 w2 w.heap.size b (.slice a1 n1 c1) (.slice a2 n2 c2) p := by
    have h := (At9.made (w := w) (t := 28) hn hd)
    rw [← hp] at h
    have h2 := h.later (below_alloc _ (boxC c (.slice a3 n3 c3) (.slice a4 n4 c4)))
    rw [hw2]
    exact ⟨h2.neg.trans (by rw [← hp]), h2.num, h2.den, h2.isNum, h2.isDen⟩
  have x2 : Bx9 w2 (w.heap.size + 1) c (.slice a3 n3 c3) (.slice a4 n4 c4) q := by
    have h := At9.made (w := w.alloc (boxC b (.slice a1 n1 c1) (.slice a2 n2 c2))) (t := 28) (kn.later (below_alloc _ _)) (kd.later (below_alloc _ _))
    rw [← hq] at h
    rw [hw2]
    have e : (w.alloc (boxC b (.slice a1 n1 c1) (.slice a2 n2 c2))).heap.size = w.heap.size + 1 := by simp
    rw [e] at h
    exact ⟨h.neg.trans (by rw [← hq]), h.num, h.den, h.isNum, h.isDen⟩
  have X9 : Q9 w2 (.agg #[.bool b, .slice a1 n1 c1, .slice a2 n2 c2]) p := ⟨_, _, by rw [hp], x1.isNum, x1.isDen⟩
  have Y9 : Q9 w2 (.agg #[.bool c, .slice a3 n3 c3, .slice a4 n4 c4]) q := ⟨_, _, by rw [hq], x2.isNum, x2.isDen⟩
  have C1 := Lib.hid (sub9R_any X9 Y9 bp bq hk)
  have HB := Lib.hid hb2
  obtain ⟨k0, k1, k2, -, -⟩ := x1
  obtain ⟨j0, j1, j2, -, -⟩ := x2
  clear hn hd kn kd hp hq bp bq X9 Y9 hb2
  go_enter Tryz.func33, Tryz.ntmps33
  rw [hw2] at k0 k1 k2 j0 j1 j2
  go_wp2_with fail
  rw [hw2] at C1
  refine C1.out.mono ?_
  rintro e w3 ⟨v3, rfl, hv3, hb3⟩
  rw [← hw2] at hb3
  have C2 := Lib.hid (sign9_any hv3)
  have HB3 := Lib.hid (below_keep HB.out hb3)
  clear hv3 hb3 hw2 k0 k1 k2 j0 j1 j2 C1 HB
  go_wp2_with fail
  refine C2.out.mono ?_
  rintro e w4 ⟨rfl, hb4⟩
  have HB4 := Lib.hid (below_keep HB3.out hb4)
  clear hb4
  go_wp2
  go_ret
  exact ⟨rfl, HB4.out⟩
end Go.Proofs.YtemhidlaaommaaaGreatDoor
