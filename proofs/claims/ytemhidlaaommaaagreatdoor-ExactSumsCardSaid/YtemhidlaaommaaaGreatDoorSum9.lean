/- The reference's rational numbers, contracts: Zero, Sum; rows of them. -/
import Derived.Test.YtemhidlaaommaaaGreatDoorRefN
import Derived.Test.YtemhidlaaommaaaGreatDoorSumB
namespace Go.Proofs.YtemhidlaaommaaaGreatDoor
open Go.RowKit

/-- three cells that are no integers are written: numbers stay -/
theorem IsN.setNine {w : World} {g B X : Nat} {v : Value} {b : Bool} {a1 a2 : Option Addr} {m1 m2 c1 c2 : Nat} (hv : IsN B w v X) (h0 : w.cell? ⟨g, 0, none⟩ = some (.bool b)) (h1 : w.cell? ⟨g, 1, none⟩ = some (.slice a1 m1 c1)) (h2 : w.cell? ⟨g, 2, none⟩ = some (.slice a2 m2 c2)) (z0 z1 z2 : Value) :
    IsN B (set9 w g z0 z1 z2) v X := by
  have e1 : (w.setCell ⟨g, 0, none⟩ z0).cell? ⟨g, 1, none⟩ = some (.slice a1 m1 c1) := by
    rw [World.cell?_setCell_other w ⟨g, 0, none⟩ ⟨g, 1, none⟩ _ (by simp)]; exact h1
  have e2 : ((w.setCell ⟨g, 0, none⟩ z0).setCell ⟨g, 1, none⟩ z1).cell? ⟨g, 2, none⟩ = some (.slice a2 m2 c2) := by
    rw [World.cell?_setCell_other _ ⟨g, 1, none⟩ ⟨g, 2, none⟩ _ (by simp), World.cell?_setCell_other w ⟨g, 0, none⟩ ⟨g, 2, none⟩ _ (by simp)]; exact h2
  exact ((hv.setFar h0 (fun _ _ => by simp) _).setFar e1 (fun _ _ => by simp) _).setFar e2 (fun _ _ => by simp) _

set_option maxHeartbeats 1600000 in
theorem rzero_any (w : World) : Calls Tryz.prog 110 #[] w (RetQ9 0 w) := by
  have C1 : Hid (∀ w1, Calls Tryz.prog 114 #[.int .u64 1] w1 (RetN B9 1 w1)) := fun w1 => natural_any 1 (by decide) w1
  have HR := Lib.hid (Res9.made w 28)
  have HB0 := Lib.hid (below_alloc w (.cells #[.bool false, .slice none 0 0, .slice none 0 0] 28))
  go_enter Tryz.func110, Tryz.ntmps110
  go_wp2_with fail
  refine (C1.out _).mono ?_
  rintro e w1 ⟨v1, rfl, hv1, hb1⟩
  have HD := Lib.hid hv1
  have HR1 := Lib.hid (HR.out.later hb1 (by simp))
  have HB1 := Lib.hid (below_keep HB0.out hb1)
  obtain ⟨a', n', cap', rfl, -⟩ := HD.out.shape (by decide)
  clear hv1 hb1 HR HB0
  obtain ⟨r0, r1, r2, f0, f1, f2⟩ := HR1.out
  go_wp2
  refine bodyPost_ret (by simp [results, Tryz.results110, go_sem, r0, r1, r2]; try rfl) rfl ?_
  exact ⟨_, rfl, ⟨_, _, rfl, ⟨0, fun _ => 0, Rep.zero _ _, .inl ⟨rfl, rfl⟩⟩, HR1.out.set3 HD.out _ _ _⟩, below_set3 HB1.out⟩

/-- a number in three cells -/
def RtAt (w : World) (g j : Nat) (q : Rat) : Prop :=
  ∃ a n c a' n' c', w.cell? ⟨g, j, none⟩ = some (.bool (qneg q)) ∧ w.cell? ⟨g, j + 1, none⟩ = some (.slice a n c) ∧ w.cell? ⟨g, j + 2, none⟩ = some (.slice a' n' c') ∧ IsN B9 w (.slice a n c) (qnum q) ∧ IsN B9 w (.slice a' n' c') q.den
theorem RtAt.later {w w' : World} {g j : Nat} {q : Rat} (h : RtAt w g j q) (hb : Below w.heap.size w w') : RtAt w' g j q := by
  obtain ⟨a, n, c, a', n', c', h0, h1, h2, h3, h4⟩ := h
  have hg : g < w.heap.size := World.block_lt_of_cell? w ⟨g, j, none⟩ h0
  exact ⟨a, n, c, a', n', c', (hb.cell (p := ⟨g, j, none⟩) hg).trans h0, (hb.cell (p := ⟨g, j + 1, none⟩) hg).trans h1, (hb.cell (p := ⟨g, j + 2, none⟩) hg).trans h2, h3.later hb, h4.later hb⟩
/-- a slice of numbers -/
def RtS (w : World) (v : Value) (n : Nat) (qs : Nat → Rat) : Prop :=
  (v = .slice none 0 0 ∧ n = 0) ∨ ∃ g cap, v = .slice (some ⟨g, 0, none⟩) n cap ∧ n ≤ cap ∧ cap ≤ 9223372036854775807 ∧ ∀ j, j < n → RtAt w g (j * 3) (qs j)
theorem RtS.later {w w' : World} {v : Value} {n : Nat} {qs : Nat → Rat} (h : RtS w v n qs) (hb : Below w.heap.size w w') : RtS w' v n qs := by
  rcases h with h | ⟨g, cap, e, h1, h2, h3⟩
  · exact .inl h
  · exact .inr ⟨g, cap, e, h1, h2, fun j hj => (h3 j hj).later hb⟩

/-- the running sum lies in a block of its own -/
structure BoxS (w : World) (g : Nat) (q : Rat) : Prop where
  at_ : RtAt w g 0 q
  f0 : w.frozen? ⟨g, 0, none⟩ = false
  f1 : w.frozen? ⟨g, 1, none⟩ = false
  f2 : w.frozen? ⟨g, 2, none⟩ = false
theorem BoxS.later {w w' : World} {g : Nat} {q : Rat} (h : BoxS w g q) (hb : Below w.heap.size w w') : BoxS w' g q := by
  have hg : g < w.heap.size := by
    obtain ⟨a, n, c, a', n', c', h0, -⟩ := h.at_
    exact World.block_lt_of_cell? w ⟨g, 0, none⟩ h0
  exact ⟨h.at_.later hb, (hb.frozen (p := ⟨g, 0, none⟩) hg).trans h.f0, (hb.frozen (p := ⟨g, 1, none⟩) hg).trans h.f1, (hb.frozen (p := ⟨g, 2, none⟩) hg).trans h.f2⟩
theorem BoxS.made {w : World} {b : Bool} {a a' : Option Addr} {n c n' c' : Nat} {q : Rat} (t : TypeId) (hb : b = qneg q) (hn : IsN B9 w (.slice a n c) (qnum q)) (hd : IsN B9 w (.slice a' n' c') q.den) :
    BoxS (w.alloc (.cells #[.bool b, .slice a n c, .slice a' n' c'] t)) w.heap.size q := by
  subst hb
  refine ⟨⟨a, n, c, a', n', c', ?_, ?_, ?_, hn.later (below_alloc _ _), hd.later (below_alloc _ _)⟩, World.frozen?_alloc_at _ _ _ _ rfl, World.frozen?_alloc_at _ _ _ _ rfl, World.frozen?_alloc_at _ _ _ _ rfl⟩
  all_goals (rw [World.cell?_alloc_at _ _ _ _ rfl]; rfl)
theorem BoxS.set {w : World} {g : Nat} {p q : Rat} {b : Bool} {a a' : Option Addr} {n c n' c' : Nat} (h : BoxS w g p) (hb : b = qneg q) (hn : IsN B9 w (.slice a n c) (qnum q)) (hd : IsN B9 w (.slice a' n' c') q.den) :
    BoxS (set9 w g (.bool b) (.slice a n c) (.slice a' n' c')) g q := by
  obtain ⟨u1, m1, d1, u2, m2, d2, h0, h1, h2, -, -⟩ := h.at_
  subst hb
  have e1 : (w.setCell ⟨g, 0, none⟩ (.bool (qneg q))).cell? ⟨g, 1, none⟩ = some (.slice u1 m1 d1) := by
    rw [World.cell?_setCell_other w ⟨g, 0, none⟩ ⟨g, 1, none⟩ _ (by simp)]; exact h1
  have e2 : ((w.setCell ⟨g, 0, none⟩ (.bool (qneg q))).setCell ⟨g, 1, none⟩ (.slice a n c)).cell? ⟨g, 2, none⟩ = some (.slice u2 m2 d2) := by
    rw [World.cell?_setCell_other _ ⟨g, 1, none⟩ ⟨g, 2, none⟩ _ (by simp), World.cell?_setCell_other w ⟨g, 0, none⟩ ⟨g, 2, none⟩ _ (by simp)]; exact h2
  refine ⟨⟨a, n, c, a', n', c', ?_, ?_, World.cell?_setCell_same _ _ _ e2, hn.setNine h0 h1 h2 _ _ _, hd.setNine h0 h1 h2 _ _ _⟩, ?_, ?_, ?_⟩
  · rw [World.cell?_setCell_other _ ⟨g, 2, none⟩ ⟨g, 0, none⟩ _ (by simp), World.cell?_setCell_other _ ⟨g, 1, none⟩ ⟨g, 0, none⟩ _ (by simp)]
    exact World.cell?_setCell_same _ _ _ h0
  · rw [World.cell?_setCell_other _ ⟨g, 2, none⟩ ⟨g, 1, none⟩ _ (by simp)]
    exact World.cell?_setCell_same _ _ _ e1
  all_goals simp only [World.frozen?_setCell]
  · exact h.f0
  · exact h.f1
  · exact h.f2

theorem Res9.setNine {w : World} {g r : Nat} (h : Res9 w r) (hne : g ≠ r) (z0 z1 z2 : Value) : Res9 (set9 w g z0 z1 z2) r := by
  have key : ∀ i, (set9 w g z0 z1 z2).cell? ⟨r, i, none⟩ = w.cell? ⟨r, i, none⟩ := fun i => by
    rw [World.cell?_setCell_other _ _ _ _ (fun e => hne (by injection e)), World.cell?_setCell_other _ _ _ _ (fun e => hne (by injection e)), World.cell?_setCell_other _ _ _ _ (fun e => hne (by injection e))]
  exact ⟨(key 0).trans h.c0, (key 1).trans h.c1, (key 2).trans h.c2, by simp only [World.frozen?_setCell]; exact h.f0, by simp only [World.frozen?_setCell]; exact h.f1, by simp only [World.frozen?_setCell]; exact h.f2⟩
theorem below_set9 {n : Nat} {w w1 : World} {g : Nat} {a b c : Value} (h : Below n w w1) (hg : n ≤ g) : Below n w (set9 w1 g a b c) :=
  ((h.setCell (p := ⟨g, 0, none⟩) hg _).setCell (p := ⟨g, 1, none⟩) hg _).setCell (p := ⟨g, 2, none⟩) hg _

set_option maxHeartbeats 6400000 in
set_option maxRecDepth 100000 in
theorem sum9_core (v : Value) (n k : Nat) (qs : Nat → Rat) (w : World) (hn : n ≤ 100) (hk : k ≤ 1000) (h : RtS w v n qs) (hb : ∀ j, Bd k (qs j)) :
    Calls Tryz.prog 54 #[v] w (RetQ9 (sumOf qs (upto n)) w) := by
  have CZ := Lib.hid (fun w1 => rzero_any w1)
  have HR := Lib.hid (Res9.made w 28)
  have HB0 := Lib.hid (below_alloc w (.cells #[.bool false, .slice none 0 0, .slice none 0 0] 28))
  have HS := Lib.hid h
  have HBD := Lib.hid hb
  have CA : Hid (∀ i w1 x y, i < n → Q9 w1 x (sumOf qs (upto i)) → Q9 w1 y (qs i) → Calls Tryz.prog 27 #[x, y] w1 (RetQ9 (sumOf qs (upto (i + 1))) w1)) := fun i w1 x y hi hx hy => by
    rw [upto_succ, sumOf_snoc]
    have b1 := sumOf_bd hb (upto i)
    rw [upto_length] at b1
    have hm : (k + 1) * i ≤ 1001 * 100 := Nat.mul_le_mul (by omega) (by omega)
    exact add9R_any (k := 200000) hx hy (b1.mono (by omega)) ((hb i).mono (by omega)) (by omega)
  obtain ⟨a, cap, rfl⟩ : ∃ a cap, v = .slice a n cap := by
    rcases h with ⟨rfl, rfl⟩ | ⟨g, cap, rfl, -⟩
    · exact ⟨_, _, rfl⟩
    · exact ⟨_, _, rfl⟩
  clear h hb
  go_enter Tryz.func54, Tryz.ntmps54
  go_wp2_with fail
  refine (CZ.out _).mono ?_
  rintro e w1 ⟨v1, rfl, ⟨vn, vd, rfl, hzn, hzd⟩, hb1⟩
  obtain ⟨a1, n1, c1, rfl, -⟩ := hzn.shape (by decide)
  obtain ⟨a2, n2, c2, rfl, -⟩ := hzd.shape (by decide)
  obtain ⟨b, hbq⟩ : ∃ b, b = qneg 0 := ⟨_, rfl⟩
  rw [← hbq]
  have B1 := Lib.hid (BoxS.made 28 hbq hzn hzd)
  have hsz1 : w.heap.size < w1.heap.size := by have := hb1.size; simp at this; omega
  have R1 := Lib.hid ((HR.out.later hb1 (by simp)).later (below_alloc w1 (.cells #[.bool b, .slice a1 n1 c1, .slice a2 n2 c2] 28)) hsz1)
  have W1 := Lib.hid ((below_keep HB0.out hb1).alloc (Nat.le_of_lt hsz1) (.cells #[.bool b, .slice a1 n1 c1, .slice a2 n2 c2] 28))
  have HNE : Hid (w1.heap.size ≠ w.heap.size) := by show _ ≠ _; omega
  have HLE : Hid (w.heap.size ≤ w1.heap.size) := Nat.le_of_lt hsz1
  clear hzn hzd hb1 CZ HR HB0 hbq
  go_wp2
  go_loopw [4] (fun iv wr => ∃ i : Nat, i ≤ n ∧ iv = .int .i64 (i : Nat) ∧ Hid (BoxS wr w1.heap.size (sumOf qs (upto i))) ∧ Hid (Res9 wr w.heap.size) ∧ Hid (Below w.heap.size w wr)) (fun iv _ => n - (intOf iv).toNat)
  case atStart => exact ⟨0, Nat.zero_le _, rfl, B1.out, R1.out, W1.out⟩
  case round =>
    obtain ⟨i, hi, rfl, hbx, hrs, hbw⟩ := hrel
    by_cases hlt : i < n
    · have HA : Hid (∃ g cap, a = some ⟨g, 0, none⟩ ∧ RtAt wr g (i * 3) (qs i) ∧ n ≤ cap) := by
        rcases HS.out.later hbw.out with ⟨_, rfl⟩ | ⟨g, cp, e, h1, h2, h3⟩
        · omega
        · injection e with e1 e2 e3
          exact ⟨g, cp, e1, h3 i hlt, h1⟩
      obtain ⟨g, cap9, rfl, ⟨u1, m1, d1, u2, m2, d2, k0, k1, k2, kn, kd⟩, hcap9⟩ := HA.out
      obtain ⟨⟨p1, r1, s1, p2, r2, s2, b0, b1, b2, bn, bd⟩, f0, f1, f2⟩ := id hbx.out
      obtain ⟨bb, hbb⟩ : ∃ bb, bb = qneg (sumOf qs (upto i)) := ⟨_, rfl⟩
      obtain ⟨bc, hbc⟩ : ∃ bc, bc = qneg (qs i) := ⟨_, rfl⟩
      rw [← hbb] at b0
      rw [← hbc] at k0
      have hdr := (Below.refl wr.heap.size wr).drew
      have C1 := Lib.hid (CA.out i wr.drew (.agg #[.bool bb, .slice p1 r1 s1, .slice p2 r2 s2]) (.agg #[.bool bc, .slice u1 m1 d1, .slice u2 m2 d2]) hlt ⟨_, _, by rw [hbb], bn.later hdr, bd.later hdr⟩ ⟨_, _, by rw [hbc], kn.later hdr, kd.later hdr⟩)
      have HDR := Lib.hid hdr
      have hi0 : (0 : Int) ≤ (i : Int) := by omega
      have hi1 : (i : Int) < (n : Int) := by omega
      clear HA hbb hbc kn kd bn bd hdr
      go_wp2_with fail
      go_region_with (refine C1.out.mono ?_; rintro e w2 ⟨v2, rfl, ⟨vn, vd, rfl, hn, hd⟩, hb2⟩; obtain ⟨a5, n5, c5, rfl, -⟩ := hn.shape (by decide); obtain ⟨a6, n6, c6, rfl, -⟩ := hd.shape (by decide); have hB2 := (hbx.out.later HDR.out).later hb2; obtain ⟨⟨p3, r3, s3, p4, r4, s4, q0, q1, q2, -, -⟩, g0, g1, g2⟩ := id hB2)
      all_goals
        have HN : Hid (BoxS (set9 w2 w1.heap.size (.bool (qneg (sumOf qs (upto (i + 1))))) (.slice a5 n5 c5) (.slice a6 n6 c6)) w1.heap.size (sumOf qs (upto (i + 1)))) := hB2.set rfl hn hd
        have HRS : Hid (Res9 (set9 w2 w1.heap.size (.bool (qneg (sumOf qs (upto (i + 1))))) (.slice a5 n5 c5) (.slice a6 n6 c6)) w.heap.size) := ((hrs.out.later HDR.out (World.block_lt_of_cell? _ _ hrs.out.c0)).later hb2 (World.block_lt_of_cell? _ ⟨w.heap.size, 0, none⟩ (hrs.out.later HDR.out (World.block_lt_of_cell? _ _ hrs.out.c0)).c0)).setNine HNE.out _ _ _
        have HBW2 : Hid (Below w.heap.size w (set9 w2 w1.heap.size (.bool (qneg (sumOf qs (upto (i + 1))))) (.slice a5 n5 c5) (.slice a6 n6 c6))) := below_set9 (below_keep (below_keep hbw.out HDR.out) hb2) HLE.out
        clear hB2 hn hd hb2 q0 q1 q2 g0 g1 g2 b0 b1 b2 f0 f1 f2 k0 k1 k2
        go_wp2
        exact ⟨⟨i + 1, by omega, rfl, HN, HRS, HBW2⟩, by show n - (i + 1) < n - i; omega⟩
    · obtain rfl : i = n := by omega
      obtain ⟨⟨p1, r1, s1, p2, r2, s2, b0, b1, b2, bn, bd⟩, f0, f1, f2⟩ := id hbx.out
      obtain ⟨r0, r1', r2', g0, g1, g2⟩ := id hrs.out
      have BN := Lib.hid bn
      have BD := Lib.hid bd
      have HNE' := HNE.out
      clear bn bd
      go_wp2
      refine bodyPost_ret (by simp [results, Tryz.results54, go_sem, r0, r1', r2']; try rfl) rfl ?_
      exact ⟨_, rfl, ⟨_, _, rfl, hrs.out.set3 BN.out _ _ _, hrs.out.set3 BD.out _ _ _⟩, below_set3 hbw.out⟩
theorem sum9_any (v : Value) (n k : Nat) (qs : Nat → Rat) (w : World) (hn : n ≤ 100) (hk : k ≤ 1000) (h : RtS w v n qs) (hb : ∀ j, Bd k (qs j)) :
    Calls Tryz.prog 54 #[v] w (RetQ9 (sumOf qs (upto n)) w) := sum9_core v n k qs w hn hk h hb
end Go.Proofs.YtemhidlaaommaaaGreatDoor
