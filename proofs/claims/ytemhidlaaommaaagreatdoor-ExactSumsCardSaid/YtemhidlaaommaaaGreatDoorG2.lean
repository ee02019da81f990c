/- Lemmas and contracts, each under its own condition: The reference's rational numbers, contracts: reduced, size, Of. The reference's rational numbers, contracts: Text, Bits, Sign, Whole, Floor. The reference's rational numbers, contracts: Bits, Sign, Whole, Floor, word, Value. The reference's rational numbers, contracts: Floor, word, Missing, Truth, Value. The reference's rational numbers, contract: Value. -/
import Derived.Deep.RegionHeld3
import Derived.Test.YtemhidlaaommaaaGreatDoorG1
import Derived.Test.YtemhidlaaommaaaGreatDoorR2
import Derived.Test.YtemhidlaaommaaaGreatDoorT1
import Derived.Test.YtemhidlaaommaaaGreatDoorV2
/- The reference's rational numbers, contracts: reduced, size, Of. -/
namespace Go.Proofs.YtemhidlaaommaaaGreatDoor
open Go.RowKit

/-- the value v is the number q, as the reference has it -/
def Q9 (w : World) (v : Value) (q : Rat) : Prop := ∃ vn vd, v = .agg #[.bool (qneg q), vn, vd] ∧ IsN B9 w vn (qnum q) ∧ IsN B9 w vd q.den
theorem Q9.later {w w' : World} {v : Value} {q : Rat} (h : Q9 w v q) (hb : Below w.heap.size w w') : Q9 w' v q :=
  let ⟨vn, vd, e, h1, h2⟩ := h; ⟨vn, vd, e, h1.later hb, h2.later hb⟩
def RetQ9 (q : Rat) (w : World) (e : Ending) (w' : World) : Prop := ∃ v, e = .returned v ∧ Q9 w' v q ∧ Below w.heap.size w w'

/-- a cell that is no integer is written: numbers stay -/
theorem IsN.setFar {B X : Nat} {w : World} {v u : Value} {a : Addr} (h : IsN B w v X) (hc : w.cell? a = some u) (hu : ∀ k n, u ≠ .int k n) (z : Value) : IsN B (w.setCell a z) v X := by
  obtain ⟨n, D, r, s⟩ := h
  refine ⟨n, D, r, ?_⟩
  rcases s with s | ⟨g, cap, e, h1, h2, h3⟩
  · exact .inl s
  · refine .inr ⟨g, cap, e, h1, h2, fun i hi => ?_⟩
    have := h3 i hi
    rw [World.cell?_setCell_other w a ⟨g, i, none⟩ _ (fun e => by rw [e, this] at hc; injection hc with hc; exact hu _ _ hc.symm)]
    exact this

/-- the block of a result -/
structure Res9 (w : World) (g : Nat) : Prop where
  c0 : w.cell? ⟨g, 0, none⟩ = some (.bool false)
  c1 : w.cell? ⟨g, 1, none⟩ = some (.slice none 0 0)
  c2 : w.cell? ⟨g, 2, none⟩ = some (.slice none 0 0)
  f0 : w.frozen? ⟨g, 0, none⟩ = false
  f1 : w.frozen? ⟨g, 1, none⟩ = false
  f2 : w.frozen? ⟨g, 2, none⟩ = false
theorem Res9.made (w : World) (t : TypeId) : Res9 (w.alloc (.cells #[.bool false, .slice none 0 0, .slice none 0 0] t)) w.heap.size := by
  constructor
  all_goals first
    | (rw [World.cell?_alloc_at _ _ _ _ rfl]; rfl)
    | exact World.frozen?_alloc_at _ _ _ _ rfl
theorem Res9.later {w w' : World} {B g : Nat} (h : Res9 w g) (hb : Below B w w') (hg : g < B) : Res9 w' g :=
  ⟨(hb.cell (p := ⟨g, 0, none⟩) hg).trans h.c0, (hb.cell (p := ⟨g, 1, none⟩) hg).trans h.c1, (hb.cell (p := ⟨g, 2, none⟩) hg).trans h.c2,
    (hb.frozen (p := ⟨g, 0, none⟩) hg).trans h.f0, (hb.frozen (p := ⟨g, 1, none⟩) hg).trans h.f1, (hb.frozen (p := ⟨g, 2, none⟩) hg).trans h.f2⟩
theorem Res9.set3 {w : World} {g B X : Nat} {v : Value} (h : Res9 w g) (hv : IsN B w v X) (z0 z1 z2 : Value) :
    IsN B (((w.setCell ⟨g, 0, none⟩ z0).setCell ⟨g, 1, none⟩ z1).setCell ⟨g, 2, none⟩ z2) v X := by
  have e1 : (w.setCell ⟨g, 0, none⟩ z0).cell? ⟨g, 1, none⟩ = some (.slice none 0 0) := by
    rw [World.cell?_setCell_other w ⟨g, 0, none⟩ ⟨g, 1, none⟩ _ (by simp)]; exact h.c1
  have e2 : ((w.setCell ⟨g, 0, none⟩ z0).setCell ⟨g, 1, none⟩ z1).cell? ⟨g, 2, none⟩ = some (.slice none 0 0) := by
    rw [World.cell?_setCell_other _ ⟨g, 1, none⟩ ⟨g, 2, none⟩ _ (by simp), World.cell?_setCell_other w ⟨g, 0, none⟩ ⟨g, 2, none⟩ _ (by simp)]; exact h.c2
  exact ((hv.setFar h.c0 (fun _ _ => by simp) _).setFar e1 (fun _ _ => by simp) _).setFar e2 (fun _ _ => by simp) _
theorem below_set3 {w w1 : World} {a b c : Value} (h : Below w.heap.size w w1) :
    Below w.heap.size w (((w1.setCell ⟨w.heap.size, 0, none⟩ a).setCell ⟨w.heap.size, 1, none⟩ b).setCell ⟨w.heap.size, 2, none⟩ c) :=
  ((h.setCell (Nat.le_refl _) _).setCell (Nat.le_refl _) _).setCell (Nat.le_refl _) _

theorem sm_pow {k : Nat} (hk : k ≤ 1000000) : Sm (2 ^ k + 2 ^ k * 1000000000) := Sm.of_bits (k := k + 31) (by rw [Nat.pow_add]; have := Nat.pow_pos (n := k) (show 0 < 2 by decide); omega) (by omega)
theorem sm_lt {X k : Nat} (h : X < 2 ^ k) (hk : k ≤ 1000000) : Sm X := Sm.of_bits h (by omega)
theorem over_from {X Y k : Nat} {x y : Value} {w w1 w2 : World} (hx : IsN B9 w x X) (hy : IsN B9 w2 y Y) (bx : X < 2 ^ k) (by_ : Y ≤ 2 ^ k) (hk : k ≤ 1000000) (h0 : 0 < Y) (hb : Below w.heap.size w w1) (hb2 : Below w2.heap.size w2 w1) :
    Calls Tryz.prog 117 #[x, y] w1 (RetQ2 B9 (X / Y) (X % Y) w1) :=
  over_any (hx.later hb) (hy.later hb2) (sm_lt bx hk) ((sm_pow hk).mono (Nat.add_le_add (Nat.le_of_lt bx) (Nat.mul_le_mul_right _ by_))) h0

set_option maxHeartbeats 1600000 in
theorem red9_any {neg : Bool} {X Y k : Nat} {x y : Value} {w : World} (hx : IsN B9 w x X) (hy : IsN B9 w y Y) (bx : X < 2 ^ k) (by_ : Y < 2 ^ k) (hk : k ≤ 1000000) (h0 : Y ≠ 0) :
    Calls Tryz.prog 66 #[.bool neg, x, y] w (RetQ9 (mkRat (sgn neg X) Y) w) := by
  have hg0 : 0 < Nat.gcd X Y := Nat.gcd_pos_of_pos_right _ (by omega)
  have hgY : Nat.gcd X Y ≤ 2 ^ k := Nat.le_trans (Nat.gcd_le_right X (by omega)) (Nat.le_of_lt by_)
  have CG := Lib.hid (fun (w1 : World) (h : Below w.heap.size w w1) => rcommon_any (hx.later h) (hy.later h) (Nat.le_of_lt bx) (Nat.le_of_lt by_) (sm_pow hk))
  have CX := Lib.hid (fun (w1 w2 : World) (v : Value) (hv : IsN B9 w2 v (Nat.gcd X Y)) (h1 : Below w.heap.size w w1) (h2 : Below w2.heap.size w2 w1) => over_from hx hv bx hgY hk hg0 h1 h2)
  have CY := Lib.hid (fun (w1 w2 : World) (v : Value) (hv : IsN B9 w2 v (Nat.gcd X Y)) (h1 : Below w.heap.size w w1) (h2 : Below w2.heap.size w2 w1) => over_from hy hv by_ hgY hk hg0 h1 h2)
  have HQ : Hid (qnum (mkRat (sgn neg X) Y) = X / Nat.gcd X Y ∧ (mkRat (sgn neg X) Y).den = Y / Nat.gcd X Y ∧ qneg (mkRat (sgn neg X) Y) = (neg && decide (X ≠ 0))) :=
    ⟨mk_num neg X Y h0, mk_den neg X Y h0, mk_neg neg X Y h0⟩
  have HZ : Hid (X / Nat.gcd X Y = 0 ↔ X = 0) := by
    show _ ↔ _
    rw [Nat.div_eq_zero_iff]
    constructor
    · rintro (h | h)
      · omega
      · rcases Nat.eq_zero_or_pos X with h1 | h1
        · exact h1
        · have := Nat.gcd_le_left Y h1; omega
    · intro h; subst h; exact .inr hg0
  have HR := Lib.hid (Res9.made w 28)
  have HB0 := Lib.hid (below_alloc w (.cells #[.bool false, .slice none 0 0, .slice none 0 0] 28))
  clear hx hy bx by_ h0 hg0 hgY
  go_enter Tryz.func66, Tryz.ntmps66
  go_wp2_with fail
  refine (CG.out _ HB0.out).mono ?_
  rintro e w1 ⟨vg, rfl, hvg, hb1⟩
  have HV := Lib.hid hvg
  have HB1 := Lib.hid (below_keep HB0.out hb1)
  have HR1 := Lib.hid (HR.out.later hb1 (by simp))
  clear hvg hb1 HR
  go_wp2_with fail
  refine (CX.out _ _ _ HV.out HB1.out (Below.refl _ _)).mono ?_
  rintro e w2 ⟨vn, v9, rfl, hvn, -, hb2⟩
  have HN := Lib.hid hvn
  have HB2 := Lib.hid (below_keep HB1.out hb2)
  have HV2 := Lib.hid hb2
  have HR2 := Lib.hid (HR1.out.later hb2 (by have := HB1.out.size; have := HB0.out.size; exact World.block_lt_of_cell? _ _ HR1.out.c0))
  clear hvn hb2 HR1
  go_wp2_with fail
  refine (CY.out _ _ _ HV.out HB2.out HV2.out).mono ?_
  rintro e w3 ⟨vd, v8, rfl, hvd, -, hb3⟩
  have HD := Lib.hid hvd
  have HB3 := Lib.hid (below_keep HB2.out hb3)
  have HN3 := Lib.hid (HN.out.later hb3)
  have HR3 := Lib.hid (HR2.out.later hb3 (World.block_lt_of_cell? _ _ HR2.out.c0))
  obtain ⟨a, n, cap, rfl, hz⟩ := HN.out.shape (by decide)
  obtain ⟨a', n', cap', rfl, -⟩ := HD.out.shape (by decide)
  have hz : Hid (n = 0 ↔ X = 0) := hz.trans HZ.out
  rename_i hz'
  clear hz' hvd hb3 HR2 HN HB0 HB1 HB2 HV2
  obtain ⟨r0, r1, r2, f0, f1, f2⟩ := HR3.out
  have fin : Hid (∀ b, b = (neg && decide (X ≠ 0)) → Q9 (((w3.setCell ⟨w.heap.size, 0, none⟩ (.bool b)).setCell ⟨w.heap.size, 1, none⟩ (.slice a n cap)).setCell ⟨w.heap.size, 2, none⟩ (.slice a' n' cap')) (.agg #[.bool b, .slice a n cap, .slice a' n' cap']) (mkRat (sgn neg X) Y)) := fun b hb =>
    ⟨.slice a n cap, .slice a' n' cap', by rw [HQ.out.2.2, hb], by rw [HQ.out.1]; exact HR3.out.set3 HN3.out _ _ _, by rw [HQ.out.2.1]; exact HR3.out.set3 HD.out _ _ _⟩
  cases neg
  · go_wp2
    refine bodyPost_ret (by simp [results, Tryz.results66, go_sem, r0, r1, r2]; try rfl) rfl ?_
    exact ⟨_, rfl, fin.out false (by simp), below_set3 HB3.out⟩
  · by_cases h : n = 0
    · subst h
      have hX := hz.out.1 rfl
      have hX : Hid (X = 0) := hX
      rename_i hX'
      clear hX'
      go_wp2
      refine bodyPost_ret (by simp [results, Tryz.results66, go_sem, r0, r1, r2]; try rfl) rfl ?_
      exact ⟨_, rfl, fin.out false (by simp [hX.out]), below_set3 HB3.out⟩
    · have h1 : 0 < n := by omega
      have hX : Hid (X ≠ 0) := fun e => h (hz.out.2 e)
      clear h
      go_wp2
      refine bodyPost_ret (by simp [results, Tryz.results66, go_sem, r0, r1, r2]; try rfl) rfl ?_
      exact ⟨_, rfl, fin.out true (by simp [hX.out]), below_set3 HB3.out⟩

theorem size9_neg (n : Int) (w : World) (h1 : -9223372036854775808 ≤ n) (h2 : n < 0) :
    Calls Tryz.prog 67 #[.int .i64 n] w (RetN B9 n.natAbs w) := by
  have e := neg_u64 h1 h2
  have e2 : IntKind.u64.wrap (0 - IntKind.u64.wrap n) = (n.natAbs : Int) := by rw [Int.zero_sub]; exact e
  have hN := Lib.hid (natural_any n.natAbs (by omega) w)
  go_enter Tryz.func67, Tryz.ntmps67
  go_wp2_with fail
  refine hN.out.mono ?_
  rintro e w1 ⟨v, rfl, hv, hb⟩
  go_wp2
  go_ret
  exact ⟨_, rfl, hv, hb⟩
theorem size9_pos (n : Nat) (w : World) (h2 : n ≤ 9223372036854775807) :
    Calls Tryz.prog 67 #[.int .i64 (n : Int)] w (RetN B9 n w) := by
  have hN := Lib.hid (natural_any n (by omega) w)
  go_enter Tryz.func67, Tryz.ntmps67
  go_wp2_with fail
  refine hN.out.mono ?_
  rintro e w1 ⟨v, rfl, hv, hb⟩
  go_wp2
  go_ret
  exact ⟨_, rfl, hv, hb⟩
theorem size9_any (n : Int) (w : World) (h1 : -9223372036854775808 ≤ n) (h2 : n ≤ 9223372036854775807) :
    Calls Tryz.prog 67 #[.int .i64 n] w (RetN B9 n.natAbs w) := by
  by_cases h : n < 0
  · exact size9_neg n w h1 h
  · obtain ⟨k, rfl⟩ := Int.eq_ofNat_of_zero_le (show 0 ≤ n by omega)
    exact size9_pos k w (by omega)

/-- a number and no error -/
def RetQ9E (q : Rat) (w : World) (e : Ending) (w' : World) : Prop := ∃ v, e = .returned (.tuple #[v, .int .i64 0]) ∧ Q9 w' v q ∧ Below w.heap.size w w'
theorem of9_zero (n : Int) (w : World) : Calls Tryz.prog 19 #[.int .i64 n, .int .i64 0] w fun e w' => e = .returned (.tuple #[.agg #[.bool false, .slice none 0 0, .slice none 0 0], .int .i64 2]) ∧ Below w.heap.size w w' := by
  have HR := Lib.hid (Res9.made w 28)
  obtain ⟨r0, r1, r2, f0, f1, f2⟩ := HR.out
  have HB := Lib.hid (below_alloc w (.cells #[.bool false, .slice none 0 0, .slice none 0 0] 28))
  go_enter Tryz.func19, Tryz.ntmps19
  go_wp2
  refine bodyPost_ret (by simp [results, Tryz.results19, go_sem, r0, r1, r2]; try rfl) rfl ?_
  exact ⟨rfl, HB.out⟩
set_option maxHeartbeats 1600000 in
theorem of9_any (n d : Int) (w : World) (h1 : -9223372036854775808 ≤ n) (h2 : n ≤ 9223372036854775807) (h3 : -9223372036854775808 ≤ d) (h4 : d ≤ 9223372036854775807) (h0 : d ≠ 0) :
    Calls Tryz.prog 19 #[.int .i64 n, .int .i64 d] w (RetQ9E (quoQ n d) w) := by
  have hb0 : (d == 0) = false := by rw [beq_eq_false_iff_ne]; exact h0
  have S1 := Lib.hid (fun w => size9_any n w h1 h2)
  have S2 := Lib.hid (fun w => size9_any d w h3 h4)
  have hd0 : d.natAbs ≠ 0 := by omega
  have CR := Lib.hid (fun (neg : Bool) (w1 : World) (u v : Value) (hu : IsN B9 w1 u n.natAbs) (hv : IsN B9 w1 v d.natAbs) => red9_any (neg := neg) (k := 64) hu hv (by omega) (by omega) (by omega) hd0)
  have HR := Lib.hid (Res9.made w 28)
  have HB0 := Lib.hid (below_alloc w (.cells #[.bool false, .slice none 0 0, .slice none 0 0] 28))
  clear h1 h2 h3 h4 h0 hd0
  go_enter Tryz.func19, Tryz.ntmps19
  go_wp2_with fail
  refine (S1.out _).mono ?_
  rintro e w1 ⟨v1, rfl, hv1, hb1⟩
  have V1 := Lib.hid hv1
  have HB1 := Lib.hid (below_keep HB0.out hb1)
  have HR1 := Lib.hid (HR.out.later hb1 (by simp))
  clear hv1 hb1 HR
  go_wp2_with fail
  refine (S2.out _).mono ?_
  rintro e w2 ⟨v2, rfl, hv2, hb2⟩
  have V2 := Lib.hid hv2
  have V1' := Lib.hid (V1.out.later hb2)
  have HB2 := Lib.hid (below_keep HB1.out hb2)
  have HR2 := Lib.hid (HR1.out.later hb2 (World.block_lt_of_cell? _ _ HR1.out.c0))
  clear hv2 hb2 HR1
  go_wp2_with fail
  refine (CR.out _ _ _ _ V1'.out V2.out).mono ?_
  rintro e w3 ⟨v3, rfl, ⟨vn, vd, rfl, hn, hd⟩, hb3⟩
  have HN := Lib.hid hn
  have HD := Lib.hid hd
  have HB3 := Lib.hid (below_keep HB2.out hb3)
  have HR3 := Lib.hid (HR2.out.later hb3 (World.block_lt_of_cell? _ _ HR2.out.c0))
  obtain ⟨a, n1, cap, rfl, -⟩ := HN.out.shape (by decide)
  obtain ⟨a', n', cap', rfl, -⟩ := HD.out.shape (by decide)
  clear hn hd hb3 HR2
  obtain ⟨r0, r1, r2, f0, f1, f2⟩ := HR3.out
  go_wp2
  refine bodyPost_ret (by simp [results, Tryz.results19, go_sem, r0, r1, r2]; try rfl) rfl ?_
  exact ⟨_, rfl, ⟨_, _, rfl, HR3.out.set3 HN.out _ _ _, HR3.out.set3 HD.out _ _ _⟩, below_set3 HB3.out⟩
end Go.Proofs.YtemhidlaaommaaaGreatDoor
/- The reference's rational numbers, contracts: Text, Bits, Sign, Whole, Floor. -/
namespace Go.Proofs.YtemhidlaaommaaaGreatDoor
open Go.RowKit

/-- a number in a block of its own -/
structure At9 (w : World) (g : Nat) (vn vd : Value) (q : Rat) : Prop where
  neg : w.cell? ⟨g, 0, none⟩ = some (.bool (qneg q))
  num : w.cell? ⟨g, 1, none⟩ = some vn
  den : w.cell? ⟨g, 2, none⟩ = some vd
  isNum : IsN B9 w vn (qnum q)
  isDen : IsN B9 w vd q.den
theorem At9.made {w : World} {vn vd : Value} {q : Rat} {t : TypeId} (hn : IsN B9 w vn (qnum q)) (hd : IsN B9 w vd q.den) : At9 (w.alloc (.cells #[.bool (qneg q), vn, vd] t)) w.heap.size vn vd q :=
  ⟨by rw [World.cell?_alloc_at _ _ _ _ rfl]; rfl, by rw [World.cell?_alloc_at _ _ _ _ rfl]; rfl, by rw [World.cell?_alloc_at _ _ _ _ rfl]; rfl, hn.later (below_alloc _ _), hd.later (below_alloc _ _)⟩
theorem At9.later {w w' : World} {g : Nat} {vn vd : Value} {q : Rat} (h : At9 w g vn vd q) (hb : Below w.heap.size w w') : At9 w' g vn vd q :=
  have hg : g < w.heap.size := World.block_lt_of_cell? w ⟨g, 0, none⟩ h.neg
  ⟨(hb.cell (p := ⟨g, 0, none⟩) hg).trans h.neg, (hb.cell (p := ⟨g, 1, none⟩) hg).trans h.num, (hb.cell (p := ⟨g, 2, none⟩) hg).trans h.den, h.isNum.later hb, h.isDen.later hb⟩
theorem one9_any (w : World) : Calls Tryz.prog 114 #[.int .u64 1] w (RetN B9 1 w) := natural_any 1 (by decide) w
/-- a number in a block of its own, its sign a letter -/
structure Bx9 (w : World) (g : Nat) (b : Bool) (vn vd : Value) (q : Rat) : Prop where
  neg : w.cell? ⟨g, 0, none⟩ = some (.bool b)
  num : w.cell? ⟨g, 1, none⟩ = some vn
  den : w.cell? ⟨g, 2, none⟩ = some vd
  isNum : IsN B9 w vn (qnum q)
  isDen : IsN B9 w vd q.den
/-- a box, and what is known of it later -/
theorem box9 {w : World} {b : Bool} {vn vd : Value} {q : Rat} {t : TypeId} (hq : b = qneg q) (hn : IsN B9 w vn (qnum q)) (hd : IsN B9 w vd q.den) {w' : World}
    (hb : Below (w.alloc (.cells #[.bool b, vn, vd] t)).heap.size (w.alloc (.cells #[.bool b, vn, vd] t)) w') : Bx9 w' w.heap.size b vn vd q ∧ Below w.heap.size w w' := by
  subst hq
  have h := (At9.made (t := t) hn hd).later hb
  exact ⟨⟨h.neg, h.num, h.den, h.isNum, h.isDen⟩, below_keep (below_alloc _ _) hb⟩
/-- what holds of every later world, as a letter -/
theorem boxP {w : World} {b : Bool} {vn vd : Value} {q : Rat} (t : TypeId) (hq : b = qneg q) (hn : IsN B9 w vn (qnum q)) (hd : IsN B9 w vd q.den) :
    ∃ P : World → Prop, P (w.alloc (.cells #[.bool b, vn, vd] t)) ∧ Hid (∀ w1 w2, P w1 → Below w1.heap.size w1 w2 → P w2) ∧ Hid (∀ w1, P w1 → P w1.drew) ∧ Hid (∀ w1, P w1 → Bx9 w1 w.heap.size b vn vd q ∧ Below w.heap.size w w1) :=
  ⟨fun w1 => Below (w.alloc (.cells #[.bool b, vn, vd] t)).heap.size (w.alloc (.cells #[.bool b, vn, vd] t)) w1, Below.refl _ _, fun _ _ h1 h2 => below_keep h1 h2, fun _ h => h.drew, fun _ h => box9 hq hn hd h⟩
theorem cmpN_ne (x : Nat) : (cmpN x 1 != 0) = decide (x ≠ 1) := by
  unfold cmpN
  rw [Bool.eq_iff_iff]
  by_cases h1 : x < 1
  · rw [if_pos h1]; simp; omega
  · rw [if_neg h1]
    by_cases h2 : 1 < x
    · rw [if_pos h2]; simp; omega
    · rw [if_neg h2]; simp; omega
theorem cmpN_eq1 (x : Nat) : (cmpN x 1 == 0) = decide (x = 1) := by
  have := cmpN_ne x
  rw [bne] at this
  rw [Bool.eq_iff_iff] at this ⊢
  simp at this ⊢
  omega

set_option maxHeartbeats 3200000 in
set_option maxRecDepth 100000 in
theorem text9_any {q : Rat} {k : Nat} {v : Value} {w : World} (h : Q9 w v q) (b : Bd k q) (hk : k ≤ 1000000) :
    Calls Tryz.prog 71 #[v] w (RetV (str (ratS q)) w) := by
  obtain ⟨vn, vd, rfl, hn, hd⟩ := h
  obtain ⟨a, n1, cap, rfl, -⟩ := hn.shape (by decide)
  obtain ⟨a', n', cap', rfl, -⟩ := hd.shape (by decide)
  have sn := sm_lt b.num hk
  have sd := sm_lt b.den hk
  clear b
  obtain ⟨b, hq⟩ : ∃ b, b = qneg q := ⟨_, rfl⟩
  obtain ⟨P, p0, PK, PD, PG⟩ := boxP 28 hq hn hd
  rw [← hq]
  have HQ := Lib.hid hq.symm
  have H1 := Lib.hid (fun (w1 : World) (hb : P w1) => decimal_any (PG.out w1 hb).1.isNum sn)
  have H2 := Lib.hid (fun (w1 : World) (hb : P w1) => decimal_any (PG.out w1 hb).1.isDen sd)
  have H3 := Lib.hid (fun (w2 : World) (v : Value) (hv : IsN B9 w2 v 1) (hb : P w2) => rcmp_any (PG.out w2 hb).1.isDen hv)
  have KD := Lib.hid (fun (w2 : World) (hb : P w2) => And.intro (PG.out w2 hb).1.den hb)
  have L1 := sn.dec_len
  have L2 := sd.dec_len
  have P0 := Lib.hid p0
  obtain ⟨⟨k0, k1, k2, -, -⟩, -⟩ := PG.out _ p0
  clear hn hd sn sd hq p0
  go_enter Tryz.func71, Tryz.ntmps71
  go_wp2_with fail
  refine (H1.out _ P0.out).mono ?_
  rintro e w1 ⟨rfl, hb1⟩
  have HB1 := Lib.hid (PK.out _ _ P0.out hb1)
  clear hb1 k0 k1 k2
  obtain ⟨⟨k0, k1, k2, -, -⟩, -⟩ := PG.out _ HB1.out
  have hbd := PD.out _ HB1.out
  cases b
  all_goals
    by_cases hd1 : q.den = 1
    · have hc : (cmpN q.den 1 != 0) = false := by rw [cmpN_ne]; simpa using hd1
      have HD1 := Lib.hid hd1
      clear hd1
      go_wp2_with fail
      go_region_held3 (fun w' => w'.cell? ⟨w.heap.size, 2, none⟩ = some (.slice a' n' cap') ∧ P w')
        (exact KD.out _ (by assumption))
        (first
          | (go_at_call 114; refine (one9_any _).mono ?_; rintro e w2 ⟨v2, rfl, hv2, hb2⟩; have hB2 := PK.out _ _ hbd hb2)
          | (go_at_call 88; refine (H3.out _ _ hv2 hB2).mono ?_; rintro e w3 ⟨rfl, kq, rfl⟩; have hB3 := PK.out _ _ hB2 (below_drewN' _ kq)))
      have HB3 := Lib.hid hB3
      clear hB2 hB3 hb2 hv2 hbd
      go_wp2
      go_ret
      refine ⟨congrArg (fun b : ByteArray => Ending.returned (.string b)) (bytes_eq ?_), (PG.out _ HB3.out).2⟩
      simp [ratS, HQ.out, HD1.out]
    · have hc : (cmpN q.den 1 != 0) = true := by rw [cmpN_ne]; simpa using hd1
      have HD1 := Lib.hid hd1
      clear hd1
      go_wp2_with fail
      go_region_held3 (fun w' => w'.cell? ⟨w.heap.size, 2, none⟩ = some (.slice a' n' cap') ∧ P w')
        (exact KD.out _ (by assumption))
        (first
          | (go_at_call 114; refine (one9_any _).mono ?_; rintro e w2 ⟨v2, rfl, hv2, hb2⟩; have hB2 := PK.out _ _ hbd hb2)
          | (go_at_call 88; refine (H3.out _ _ hv2 hB2).mono ?_; rintro e w3 ⟨rfl, kq, rfl⟩; have hB3 := PK.out _ _ hB2 (below_drewN' _ kq)))
      have HB3 := Lib.hid hB3
      clear hB2 hB3 hb2 hv2 hbd k0 k1 k2
      obtain ⟨k2, -⟩ := KD.out _ HB3.out
      go_wp2_with fail
      refine (H2.out _ HB3.out).mono ?_
      rintro e w4 ⟨rfl, hb4⟩
      have HB4 := Lib.hid (PK.out _ _ HB3.out hb4)
      clear hb4 k2
      go_wp2
      go_ret
      refine ⟨congrArg (fun b : ByteArray => Ending.returned (.string b)) (bytes_eq ?_), (PG.out _ HB4.out).2⟩
      simp [ratS, HQ.out, HD1.out]
end Go.Proofs.YtemhidlaaommaaaGreatDoor
/- The reference's rational numbers, contracts: Bits, Sign, Whole, Floor, word, Value. -/
namespace Go.Proofs.YtemhidlaaommaaaGreatDoor
open Go.RowKit

theorem sm_two {X k : Nat} (h : X < 2 ^ k) (hk : k ≤ 1000000) : Sm (X + 2000000000) :=
  Sm.of_bits (k := k + 32) (by rw [Nat.pow_add]; have := Nat.pow_pos (n := k) (show 0 < 2 by decide); omega) (by omega)
set_option maxHeartbeats 1600000 in
set_option maxRecDepth 100000 in
theorem bits9_any {q : Rat} {k : Nat} {v : Value} {w : World} (h : Q9 w v q) (b : Bd k q) (hk : k ≤ 1000000) :
    Calls Tryz.prog 72 #[v] w (RetV (.tuple #[.int .i64 (blen (qnum q)), .int .i64 (blen q.den)]) w) := by
  obtain ⟨vn, vd, rfl, hn, hd⟩ := h
  obtain ⟨a, n1, cap, rfl, -⟩ := hn.shape (by decide)
  obtain ⟨a', n', cap', rfl, -⟩ := hd.shape (by decide)
  have sn := sm_two b.num hk
  have sd := sm_two b.den hk
  clear b
  obtain ⟨b, hq⟩ : ∃ b, b = qneg q := ⟨_, rfl⟩
  obtain ⟨P, p0, PK, PD, PG⟩ := boxP 28 hq hn hd
  rw [← hq]
  have H1 := Lib.hid (fun (w1 : World) (hb : P w1) => rlength_any (PG.out w1 hb).1.isNum sn)
  have H2 := Lib.hid (fun (w1 : World) (hb : P w1) => rlength_any (PG.out w1 hb).1.isDen sd)
  have KD := Lib.hid (fun (w2 : World) (hb : P w2) => And.intro (PG.out w2 hb).1.num (And.intro (PG.out w2 hb).1.den hb))
  have hpd := PD.out _ p0
  clear hn hd sn sd hq p0
  go_enter Tryz.func72, Tryz.ntmps72
  go_wp2_with fail
  go_region_held3 (fun w' => w'.cell? ⟨w.heap.size, 1, none⟩ = some (.slice a n1 cap) ∧ w'.cell? ⟨w.heap.size, 2, none⟩ = some (.slice a' n' cap') ∧ P w')
    (exact KD.out _ (by assumption))
    (first
      | (go_at_call_of 118 (Value.slice a n1 cap); refine (H1.out _ hpd).mono ?_; rintro e w2 ⟨rfl, hb2⟩; have hB2 := PK.out _ _ hpd hb2)
      | (go_at_call_of 118 (Value.slice a' n' cap'); refine (H2.out _ hB2).mono ?_; rintro e w3 ⟨rfl, hb3⟩; have hB3 := PK.out _ _ hB2 hb3))
  have HB3 := Lib.hid hB3
  clear hB2 hB3 hb2 hb3 hpd
  go_wp2
  go_ret2
  exact ⟨rfl, (PG.out _ HB3.out).2⟩

theorem sign9_any {q : Rat} {v : Value} {w : World} (h : Q9 w v q) :
    Calls Tryz.prog 73 #[v] w (RetV (.int .i64 (sgnQ q)) w) := by
  obtain ⟨vn, vd, rfl, hn, hd⟩ := h
  obtain ⟨a, n1, cap, rfl, hz⟩ := hn.shape (by decide)
  obtain ⟨a', n', cap', rfl, -⟩ := hd.shape (by decide)
  obtain ⟨b, hq⟩ : ∃ b, b = qneg q := ⟨_, rfl⟩
  obtain ⟨P, p0, PK, PD, PG⟩ := boxP 28 hq hn hd
  rw [← hq]
  obtain ⟨⟨k0, k1, k2, -, -⟩, -⟩ := PG.out _ p0
  have HP := Lib.hid p0
  by_cases h0 : qnum q = 0
  · obtain rfl : n1 = 0 := hz.2 h0
    have HF : Hid (sgnQ q = 0) := by show sgnQ q = 0; rw [sgnQ, if_pos h0]
    clear hn hd hz h0 hq p0
    go_enter Tryz.func73, Tryz.ntmps73
    go_wp2
    go_ret
    exact ⟨ret_int HF.out.symm, (PG.out _ HP.out).2⟩
  · have hn0 : ((n1 : Int) == 0) = false := by rw [beq_eq_false_iff_ne]; intro e; exact h0 (hz.1 (by omega))
    cases b with
    | false =>
      have HF : Hid (sgnQ q = 1) := by show sgnQ q = 1; rw [sgnQ, if_neg h0, ← hq]; rfl
      clear hn hd hz h0 hq p0
      go_enter Tryz.func73, Tryz.ntmps73
      go_wp2
      go_ret
      exact ⟨ret_int HF.out.symm, (PG.out _ HP.out).2⟩
    | true =>
      have HF : Hid (sgnQ q = -1) := by show sgnQ q = -1; rw [sgnQ, if_neg h0, ← hq]; rfl
      clear hn hd hz h0 hq p0
      go_enter Tryz.func73, Tryz.ntmps73
      go_wp2
      go_ret
      exact ⟨ret_int HF.out.symm, (PG.out _ HP.out).2⟩

set_option maxHeartbeats 1600000 in
set_option maxRecDepth 100000 in
theorem whole9_any {q : Rat} {v : Value} {w : World} (h : Q9 w v q) :
    Calls Tryz.prog 74 #[v] w (RetV (.bool (decide (q.den = 1))) w) := by
  obtain ⟨vn, vd, rfl, hn, hd⟩ := h
  obtain ⟨a, n1, cap, rfl, -⟩ := hn.shape (by decide)
  obtain ⟨a', n', cap', rfl, -⟩ := hd.shape (by decide)
  obtain ⟨b, hq⟩ : ∃ b, b = qneg q := ⟨_, rfl⟩
  obtain ⟨P, p0, PK, PD, PG⟩ := boxP 28 hq hn hd
  rw [← hq]
  have H3 := Lib.hid (fun (w2 : World) (v : Value) (hv : IsN B9 w2 v 1) (hb : P w2) => rcmp_any (PG.out w2 hb).1.isDen hv)
  have KD := Lib.hid (fun (w2 : World) (hb : P w2) => And.intro (PG.out w2 hb).1.den hb)
  have hpd := PD.out _ p0
  have HC := Lib.hid (cmpN_eq1 q.den)
  clear hn hd hq p0
  go_enter Tryz.func74, Tryz.ntmps74
  go_wp2_with fail
  go_region_held3 (fun w' => w'.cell? ⟨w.heap.size, 2, none⟩ = some (.slice a' n' cap') ∧ P w')
    (exact KD.out _ (by assumption))
    (first
      | (go_at_call 114; refine (one9_any _).mono ?_; rintro e w2 ⟨v2, rfl, hv2, hb2⟩; have hB2 := PK.out _ _ hpd hb2)
      | (go_at_call 88; refine (H3.out _ _ hv2 hB2).mono ?_; rintro e w3 ⟨rfl, kq, rfl⟩; have hB3 := PK.out _ _ hB2 (below_drewN' _ kq)))
  have HB3 := Lib.hid hB3
  clear hB2 hB3 hb2 hv2 hpd
  go_wp2
  go_ret
  exact ⟨ret_bool HC.out, (PG.out _ HB3.out).2⟩
end Go.Proofs.YtemhidlaaommaaaGreatDoor
/- The reference's rational numbers, contracts: Floor, word, Missing, Truth, Value. -/
namespace Go.Proofs.YtemhidlaaommaaaGreatDoor
open Go.RowKit

theorem below_set3' {w w1 : World} {a b c : Value} {g : Nat} (h : Below w.heap.size w w1) (hg : w.heap.size ≤ g) :
    Below w.heap.size w (((w1.setCell ⟨g, 0, none⟩ a).setCell ⟨g, 1, none⟩ b).setCell ⟨g, 2, none⟩ c) :=
  ((h.setCell hg _).setCell hg _).setCell hg _

set_option maxHeartbeats 3200000 in
set_option maxRecDepth 100000 in
theorem floor9_any {q : Rat} {k : Nat} {v : Value} {w : World} (h : Q9 w v q) (bd : Bd k q) (hk : k ≤ 1000000) :
    Calls Tryz.prog 75 #[v] w (RetQ9 (flQ q) w) := by
  obtain ⟨vn, vd, rfl, hn, hd⟩ := h
  obtain ⟨a, n1, cap, rfl, -⟩ := hn.shape (by decide)
  obtain ⟨a', n', cap', rfl, -⟩ := hd.shape (by decide)
  obtain ⟨b, hq⟩ : ∃ b, b = qneg q := ⟨_, rfl⟩
  obtain ⟨P, p0, PK, PD, PG⟩ := boxP 28 hq hn hd
  rw [← hq]
  have hr := Res9.made (w.alloc (.cells #[.bool b, .slice a n1 cap, .slice a' n' cap'] 28)) 28
  have p1 := PK.out _ _ p0 (below_alloc (w.alloc (.cells #[.bool b, .slice a n1 cap, .slice a' n' cap'] 28)) (.cells #[.bool false, .slice none 0 0, .slice none 0 0] 28))
  rw [World.size_alloc] at hr
  have HR := Lib.hid hr
  have H1 := Lib.hid (fun (w1 : World) (hb : P w1) => over_from (PG.out w1 hb).1.isNum (PG.out w1 hb).1.isDen bd.num (Nat.le_of_lt bd.den) hk (Nat.pos_of_ne_zero q.den_nz) (Below.refl _ _) (Below.refl _ _))
  have H2 := Lib.hid (fun (w1 : World) (u v : Value) (hu : IsN B9 w1 u (qnum q / q.den)) (hv : IsN B9 w1 v 1) => plus_any hu hv (sm_lt (Nat.lt_of_le_of_lt (Nat.div_le_self _ _) bd.num) hk) (Sm.small (n := 1) (by decide)))
  obtain ⟨⟨k0, k1, k2, -, -⟩, -⟩ := PG.out _ p1
  have P1 := Lib.hid p1
  have HFL : Hid (∀ w v u c0, IsN B9 w v (flN q) → IsN B9 w u 1 → c0 = b → Q9 w (.agg #[.bool c0, v, u]) (flQ q)) := fun w v u c0 h1 h2 h3 => by
    obtain ⟨f1, f2, f3⟩ := flQ_parts q
    exact ⟨v, u, by rw [f3, h3, hq], by rw [f1]; exact h1, by rw [f2]; exact h2⟩
  have HN0 : Hid (b = true → qnum q % q.den = 0 → qnum q / q.den ≠ 0) := fun h1 h2 h3 => by
    have h4 := Nat.div_add_mod (qnum q) q.den
    rw [h2, h3] at h4
    have h5 := q_neg_zero (q := q) (by omega)
    rw [← hq, h1] at h5; cases h5
  have HFN : Hid (flN q = qnum q / q.den + (if b = true ∧ qnum q % q.den ≠ 0 then 1 else 0)) := by show _ = _; rw [flN, hq]
  clear hn hd hq p0 p1 hr bd
  go_enter Tryz.func75, Tryz.ntmps75
  go_wp2_with fail
  refine (H1.out _ P1.out).mono ?_
  rintro e w1 ⟨vq, vr, rfl, hvq, hvr, hb1⟩
  have Q1 := Lib.hid (PK.out _ _ P1.out hb1)
  have HR1 := Lib.hid (HR.out.later hb1 (by simp))
  have VQ := Lib.hid hvq
  obtain ⟨ar, nr, cr, rfl, hzr⟩ := hvr.shape (by decide)
  obtain ⟨aq, nq, cq, rfl, hzq⟩ := hvq.shape (by decide)
  clear k0 k1 k2 hb1 hvq HR H1
  obtain ⟨⟨k0, -, -, -, -⟩, -⟩ := PG.out _ Q1.out
  cases b with
  | false =>
    have HF : Hid (flN q = qnum q / q.den) := by show _ = _; rw [HFN.out]; simp
    clear hzr hzq hvr
    go_wp2_with fail
    refine (one9_any _).mono ?_
    rintro e w2 ⟨vo, rfl, hvo, hb2⟩
    have Q2 := Lib.hid (PK.out _ _ Q1.out hb2)
    have HR2 := Lib.hid (HR1.out.later hb2 (World.block_lt_of_cell? _ _ HR1.out.c0))
    have VO := Lib.hid hvo
    have VQ2 := Lib.hid (VQ.out.later hb2)
    obtain ⟨ao, no, co, rfl, -⟩ := hvo.shape (by decide)
    clear hvo hb2 k0
    obtain ⟨r0, r1, r2, f0, f1, f2⟩ := HR2.out
    go_wp2
    refine bodyPost_ret (by simp [results, Tryz.results75, go_sem, r0, r1, r2]; try rfl) rfl ?_
    exact ⟨_, rfl, HFL.out _ _ _ _ (by rw [HF.out]; exact HR2.out.set3 VQ2.out _ _ _) (HR2.out.set3 VO.out _ _ _) rfl, below_set3' (PG.out _ Q2.out).2 (Nat.le_succ _)⟩
  | true =>
    by_cases hr0 : nr = 0
    · subst hr0
      have hm0 := hzr.1 rfl
      have hnq : 0 < nq := Nat.pos_of_ne_zero fun e => HN0.out rfl hm0 (hzq.1 e)
      have HF : Hid (flN q = qnum q / q.den) := by show _ = _; rw [HFN.out]; simp [hm0]
      clear hzr hzq hvr hm0
      go_wp2_with fail
      refine (one9_any _).mono ?_
      rintro e w2 ⟨vo, rfl, hvo, hb2⟩
      have Q2 := Lib.hid (PK.out _ _ Q1.out hb2)
      have HR2 := Lib.hid (HR1.out.later hb2 (World.block_lt_of_cell? _ _ HR1.out.c0))
      have VO := Lib.hid hvo
      have VQ2 := Lib.hid (VQ.out.later hb2)
      obtain ⟨ao, no, co, rfl, -⟩ := hvo.shape (by decide)
      clear hvo hb2 k0
      obtain ⟨r0, r1, r2, f0, f1, f2⟩ := HR2.out
      go_wp2
      refine bodyPost_ret (by simp [results, Tryz.results75, go_sem, r0, r1, r2]; try rfl) rfl ?_
      exact ⟨_, rfl, HFL.out _ _ _ _ (by rw [HF.out]; exact HR2.out.set3 VQ2.out _ _ _) (HR2.out.set3 VO.out _ _ _) rfl, below_set3' (PG.out _ Q2.out).2 (Nat.le_succ _)⟩
    · have hnr : 0 < nr := Nat.pos_of_ne_zero hr0
      have HF : Hid (qnum q / q.den + 1 = flN q) := by
        show _ = _; rw [HFN.out, if_pos ⟨rfl, fun e => hr0 (hzr.2 e)⟩]
      clear hzr hzq hvr hr0
      go_wp2_with fail
      refine (one9_any _).mono ?_
      rintro e w2 ⟨vo, rfl, hvo, hb2⟩
      have Q2 := Lib.hid (PK.out _ _ Q1.out hb2)
      have HR2 := Lib.hid (HR1.out.later hb2 (World.block_lt_of_cell? _ _ HR1.out.c0))
      have HPL := Lib.hid (H2.out _ _ _ (VQ.out.later hb2) hvo)
      clear hvo hb2 k0
      go_wp2_with fail
      refine HPL.out.mono ?_
      rintro e w3 ⟨vp, rfl, hvp, hb3⟩
      rw [HF.out] at hvp
      have Q3 := Lib.hid (PK.out _ _ Q2.out hb3)
      have HR3 := Lib.hid (HR2.out.later hb3 (World.block_lt_of_cell? _ _ HR2.out.c0))
      have VP := Lib.hid hvp
      obtain ⟨ap, np, cp, rfl, hzp⟩ := hvp.shape (by decide)
      have hnp : 0 < np := Nat.pos_of_ne_zero fun e => absurd (HF.out.trans (hzp.1 e)) (Nat.succ_ne_zero _)
      clear hvp hb3 hzp
      obtain ⟨⟨k0, -, -, -, -⟩, -⟩ := PG.out _ Q3.out
      go_wp2_with fail
      refine (one9_any _).mono ?_
      rintro e w4 ⟨vo, rfl, hvo, hb4⟩
      have Q4 := Lib.hid (PK.out _ _ Q3.out hb4)
      have HR4 := Lib.hid (HR3.out.later hb4 (World.block_lt_of_cell? _ _ HR3.out.c0))
      have VO := Lib.hid hvo
      have VP4 := Lib.hid (VP.out.later hb4)
      obtain ⟨ao, no, co, rfl, -⟩ := hvo.shape (by decide)
      clear hvo hb4 k0
      obtain ⟨r0, r1, r2, f0, f1, f2⟩ := HR4.out
      go_wp2
      refine bodyPost_ret (by simp [results, Tryz.results75, go_sem, r0, r1, r2]; try rfl) rfl ?_
      exact ⟨_, rfl, HFL.out _ _ _ _ (HR4.out.set3 VP4.out _ _ _) (HR4.out.set3 VO.out _ _ _) rfl, below_set3' (PG.out _ Q4.out).2 (Nat.le_succ _)⟩

theorem missing9_any (r : Int) (w : World) :
    Calls Tryz.prog 120 #[.int .i64 r] w fun e w' => e = .returned (missV r).v ∧ Below w.heap.size w w' := by
  go_enter Tryz.func120, Tryz.ntmps120
  go_wp2
  go_returns
  exact ⟨rfl, below_alloc _ _⟩
theorem truth9_any (b : Bool) (w : World) :
    Calls Tryz.prog 102 #[.bool b] w fun e w' => e = .returned (truthV b).v ∧ Below w.heap.size w w' := by
  cases b
  all_goals
    go_enter Tryz.func102, Tryz.ntmps102
    go_wp2
    go_returns
    exact ⟨rfl, below_alloc _ _⟩

theorem cmp_over (X Y : Nat) : (decide (0 < cmpN X Y)) = decide (Y < X) := by
  unfold cmpN
  by_cases h : X < Y
  · rw [if_pos h, Bool.eq_iff_iff]; simp; omega
  · rw [if_neg h]
    by_cases h2 : Y < X
    · rw [if_pos h2, Bool.eq_iff_iff]; simp [h2]
    · rw [if_neg h2, Bool.eq_iff_iff]; simp; omega
set_option maxHeartbeats 1600000 in
set_option maxRecDepth 100000 in
theorem word9_any {X : Nat} {x : Value} {w : World} (hx : IsN B9 w x X) :
    Calls Tryz.prog 119 #[x] w (RetV (.tuple #[.int .i64 (if X ≤ T40 then (X : Int) else 0), .bool (decide (X ≤ T40))]) w) := by
  have C1 : Hid (∀ w1, Calls Tryz.prog 114 #[.int .u64 1099511627776] w1 (RetN B9 1099511627776 w1)) := fun w1 => natural_any 1099511627776 (by decide) w1
  have C2 := Lib.hid (fun (w1 : World) (v : Value) (hb : Below w.heap.size w w1) (hv : IsN B9 w1 v 1099511627776) => rcmp_any (hx.later hb) hv)
  have CO := Lib.hid (cmp_over X 1099511627776)
  by_cases h : X ≤ T40
  · rw [if_pos h, decide_eq_true h]
    unfold T40 at h
    obtain ⟨m, D, r1, s1⟩ := hx
    have l1 : m ≤ 2 := r1.len_le (k := 2) (by decide) (show X < 1000000000 ^ 2 by omega)
    have hval := Lib.hid (short_val r1 l1)
    obtain ⟨d, hd⟩ : ∃ d, d = cutD D m 0 := ⟨_, rfl⟩
    obtain ⟨e, he⟩ : ∃ e, e = cutD D m 1 := ⟨_, rfl⟩
    have hd9 : d < 1000000000 := hd ▸ cutD_lt (B := B9) (by decide) r1.dig 0
    have he9 : e < 1000000000 := he ▸ cutD_lt (B := B9) (by decide) r1.dig 1
    have D1 := Lib.hid (fun (w1 : World) (hb : Below w.heap.size w w1) => digit_any 0 (s1.later hb (Nat.le_refl _)) r1.dig (by omega) (by omega))
    have D2 := Lib.hid (fun (w1 : World) (hb : Below w.heap.size w w1) => digit_any 1 (s1.later hb (Nat.le_refl _)) r1.dig (by omega) (by omega))
    rw [← hd] at D1 hval
    rw [← he] at D2 hval
    obtain ⟨a, g, cap, rfl, -⟩ := s1.shape
    obtain ⟨c, hc⟩ : ∃ c, c = cmpN X 1099511627776 := ⟨_, rfl⟩
    rw [← hc] at C2 CO
    have hc0 : decide (0 < c) = false := by rw [CO.out, decide_eq_false_iff_not]; omega
    clear r1 s1 hd he h l1 hc
    go_enter Tryz.func119, Tryz.ntmps119
    go_wp2_with fail
    refine (C1.out _).mono ?_
    rintro e1 w1 ⟨v1, rfl, hv1, hb1⟩
    have HB1 := Lib.hid hb1
    have V1 := Lib.hid hv1
    clear hv1 hb1
    go_wp2_with fail
    refine (C2.out _ _ HB1.out V1.out).mono ?_
    rintro e1 w2 ⟨rfl, kq, rfl⟩
    have HB2 := Lib.hid (below_keep HB1.out (below_drewN' _ kq))
    go_wp2_with fail
    refine (D1.out _ HB2.out).mono ?_
    rintro e1 w3 ⟨rfl, rfl⟩
    go_wp2_with fail
    refine (D2.out _ HB2.out).mono ?_
    rintro e1 w3 ⟨rfl, rfl⟩
    go_wp2
    go_ret2
    exact ⟨congrArg (fun z : Int => Ending.returned (.tuple #[.int .i64 z, .bool true])) (by have := hval.out; omega), HB2.out⟩
  · rw [if_neg h, decide_eq_false h]
    unfold T40 at h
    obtain ⟨a, n, cap, rfl, -⟩ := hx.shape (by decide)
    obtain ⟨c, hc⟩ : ∃ c, c = cmpN X 1099511627776 := ⟨_, rfl⟩
    rw [← hc] at C2 CO
    have hc0 : decide (0 < c) = true := by rw [CO.out, decide_eq_true_eq]; omega
    clear hx h hc
    go_enter Tryz.func119, Tryz.ntmps119
    go_wp2_with fail
    refine (C1.out _).mono ?_
    rintro e1 w1 ⟨v1, rfl, hv1, hb1⟩
    have HB1 := Lib.hid hb1
    have V1 := Lib.hid hv1
    clear hv1 hb1
    go_wp2_with fail
    refine (C2.out _ _ HB1.out V1.out).mono ?_
    rintro e1 w2 ⟨rfl, kq, rfl⟩
    have HB2 := Lib.hid (below_keep HB1.out (below_drewN' _ kq))
    go_wp2
    go_ret2
    exact ⟨rfl, HB2.out⟩
end Go.Proofs.YtemhidlaaommaaaGreatDoor
/- The reference's rational numbers, contract: Value. -/
namespace Go.Proofs.YtemhidlaaommaaaGreatDoor
open Go.RowKit

theorem below_set4' {w w1 : World} {a b c d : Value} {g : Nat} (h : Below w.heap.size w w1) (hg : w.heap.size ≤ g) :
    Below w.heap.size w ((((w1.setCell ⟨g, 0, none⟩ a).setCell ⟨g, 1, none⟩ b).setCell ⟨g, 2, none⟩ c).setCell ⟨g, 3, none⟩ d) :=
  (((h.setCell hg _).setCell hg _).setCell hg _).setCell hg _

set_option maxHeartbeats 3200000 in
set_option maxRecDepth 100000 in
theorem value9_any {q : Rat} {v : Value} {w : World} (h : Q9 w v q) :
    Calls Tryz.prog 76 #[v] w (RetV (valQ q).v w) := by
  obtain ⟨vn, vd, rfl, hn, hd⟩ := h
  obtain ⟨a, n1, cap, rfl, -⟩ := hn.shape (by decide)
  obtain ⟨a', n', cap', rfl, -⟩ := hd.shape (by decide)
  obtain ⟨b, hq⟩ : ∃ b, b = qneg q := ⟨_, rfl⟩
  obtain ⟨P, p0, PK, PD, PG⟩ := boxP 28 hq hn hd
  rw [← hq]
  have hr := ResV.made (w.alloc (.cells #[.bool b, .slice a n1 cap, .slice a' n' cap'] 28)) 45
  have p1 := PK.out _ _ p0 (below_alloc (w.alloc (.cells #[.bool b, .slice a n1 cap, .slice a' n' cap'] 28)) (.cells #[.int .i64 0, .int .i64 0, .int .i64 0, .string ⟨#[]⟩] 45))
  rw [World.size_alloc] at hr
  have HR := Lib.hid hr
  have HM := Lib.hid (fun w1 => missing9_any 2 w1)
  have H1 := Lib.hid (fun (w1 : World) (hb : P w1) => word9_any (PG.out w1 hb).1.isNum)
  have H2 := Lib.hid (fun (w1 : World) (hb : P w1) => word9_any (PG.out w1 hb).1.isDen)
  obtain ⟨⟨k0, k1, k2, -, -⟩, -⟩ := PG.out _ p1
  have P1 := Lib.hid p1
  have HNUM : Hid (q.num = if b = true then -(qnum q : Int) else (qnum q : Int)) := by show _ = _; rw [q_num q, ← hq]; rfl
  obtain ⟨N, hN⟩ : ∃ N : Int, (if qnum q ≤ T40 then (qnum q : Int) else 0) = N := ⟨_, rfl⟩
  obtain ⟨D, hD⟩ : ∃ D : Int, (if q.den ≤ T40 then (q.den : Int) else 0) = D := ⟨_, rfl⟩
  obtain ⟨f, hf⟩ : ∃ f, decide (qnum q ≤ T40) = f := ⟨_, rfl⟩
  obtain ⟨g, hg⟩ : ∃ g, decide (q.den ≤ T40) = g := ⟨_, rfl⟩
  rw [hN, hf] at H1
  rw [hD, hg] at H2
  have HV : Hid (valQ q = if f = true ∧ g = true then ⟨2, if b = true then -N else N, D, []⟩ else missV 2) := by
    show _ = _
    unfold valQ
    rw [← hf, ← hg]
    simp only [decide_eq_true_eq]
    split
    · rename_i h
      rw [← hN, ← hD, if_pos h.1, if_pos h.2, ← HNUM.out]
    · rfl
  have hlim : 0 ≤ N ∧ N ≤ 1099511627776 := by
    rw [← hN]; unfold T40; split <;> omega
  obtain ⟨hl1, hl2⟩ := hlim
  clear hn hd hq p0 p1 hr hN hD hf hg
  have hfg : (f = true ∧ g = true) ∨ f = false ∨ (f = true ∧ g = false) := by cases f <;> cases g <;> simp
  go_enter Tryz.func76, Tryz.ntmps76
  go_wp2_with fail
  refine (H1.out _ P1.out).mono ?_
  rintro e w1 ⟨rfl, hb1⟩
  have Q1 := Lib.hid (PK.out _ _ P1.out hb1)
  have HR1 := Lib.hid (HR.out.later hb1 (by simp))
  clear k0 k1 k2 hb1 HR H1
  obtain ⟨⟨k0, k1, k2, -, -⟩, -⟩ := PG.out _ Q1.out
  go_wp2_with fail
  refine (H2.out _ Q1.out).mono ?_
  rintro e w2 ⟨rfl, hb2⟩
  have Q2 := Lib.hid (PK.out _ _ Q1.out hb2)
  have HR2 := Lib.hid (HR1.out.later hb2 (World.block_lt_of_cell? _ _ HR1.out.box.kind))
  clear k0 k1 k2 hb2 H2
  obtain ⟨⟨k0, -, -, -, -⟩, -⟩ := PG.out _ Q2.out
  rcases hfg with ⟨rfl, rfl⟩ | rfl | ⟨rfl, rfl⟩
  · obtain ⟨⟨r0, r1, r2, r3⟩, f0, f1, f2, f3⟩ := HR2.out
    cases b with
    | false =>
      go_wp2
      refine bodyPost_ret (by simp [results, Tryz.results76, go_sem, r0, r1, r2, r3]; try rfl) rfl ?_
      exact ⟨by rw [HV.out]; rfl, below_set4' (PG.out _ Q2.out).2 (Nat.le_succ _)⟩
    | true =>
      go_wp2
      refine bodyPost_ret (by simp [results, Tryz.results76, go_sem, r0, r1, r2, r3]; try rfl) rfl ?_
      exact ⟨by rw [HV.out]; rfl, below_set4' (PG.out _ Q2.out).2 (Nat.le_succ _)⟩
  all_goals
    go_wp2_with fail
    refine (HM.out _).mono ?_
    rintro e w3 ⟨rfl, hb3⟩
    have Q3 := Lib.hid (PK.out _ _ Q2.out hb3)
    obtain ⟨⟨r0, r1, r2, r3⟩, f0, f1, f2, f3⟩ := HR2.out.later hb3 (World.block_lt_of_cell? _ _ HR2.out.box.kind)
    clear hb3 k0
    go_wp2
    refine bodyPost_ret (by simp [results, Tryz.results76, go_sem, r0, r1, r2, r3]; try rfl) rfl ?_
    exact ⟨by rw [HV.out]; rfl, below_set4' (PG.out _ Q3.out).2 (Nat.le_succ _)⟩
end Go.Proofs.YtemhidlaaommaaaGreatDoor
