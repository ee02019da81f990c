/- The reference's operations: contract of arithmetic. -/
import Derived.Test.YtemhidlaaommaaaGreatDoorRefO
namespace Go.Proofs.YtemhidlaaommaaaGreatDoor
open Go.RowKit

/-- two numbers in boxes, and a value's block for the result -/
theorem boxRRV (o1 o2 : Obj) (w : World) : Below w.heap.size w (((w.alloc o1).alloc o2).alloc (.cells #[.int .i64 0, .int .i64 0, .int .i64 0, .string ⟨#[]⟩] 45)) ∧
    ResV (((w.alloc o1).alloc o2).alloc (.cells #[.int .i64 0, .int .i64 0, .int .i64 0, .string ⟨#[]⟩] 45)) (w.heap.size + 1 + 1) := by
  have h := ResV.made ((w.alloc o1).alloc o2) 45
  simp only [World.size_alloc] at h
  exact ⟨((below_alloc _ _).alloc (by simp) _).alloc (by simp; omega) _, h⟩
theorem below_set4'' {w w1 : World} {a b c d : Value} {g : Nat} (h : Below w.heap.size w w1) (hg : w.heap.size ≤ g) :
    Below w.heap.size w ((((w1.setCell ⟨g, 0, none⟩ a).setCell ⟨g, 1, none⟩ b).setCell ⟨g, 2, none⟩ c).setCell ⟨g, 3, none⟩ d) :=
  (((h.setCell hg _).setCell hg _).setCell hg _).setCell hg _

set_option maxHeartbeats 1600000 in
set_option maxRecDepth 100000 in
theorem rarith_9 {p q : Rat} {k : Nat} {x y : Value} {w : World} (hx : Q9 w x p) (hy : Q9 w y q) (bp : Bd k p) (bq : Bd k q) (hk : k ≤ 400000) :
    Calls Tryz.prog 103 #[.int .i64 9, x, y] w (RetV (valQ (p + q)).v w) := by
  have C := fun (w1 : World) (hb : Below w.heap.size w w1) => add9R_any (hx.later hb) (hy.later hb) bp bq hk
  have D := Lib.hid (fun (w1 : World) (v : Value) (h : Q9 w1 v (p + q)) => value9_any h)
  obtain ⟨⟨y0, y1, y2, y3⟩, hy0⟩ : ∃ y, y = valQ (p + q) := ⟨_, rfl⟩
  rw [← hy0] at D ⊢
  clear hy0
  obtain ⟨vn, vd, rfl, hn, hd⟩ := hx
  obtain ⟨un, ud, rfl, kn, kd⟩ := hy
  obtain ⟨a1, n1, c1, rfl, -⟩ := hn.shape (by decide)
  obtain ⟨a2, n2, c2, rfl, -⟩ := hd.shape (by decide)
  obtain ⟨a3, n3, c3, rfl, -⟩ := kn.shape (by decide)
  obtain ⟨a4, n4, c4, rfl, -⟩ := kd.shape (by decide)
  obtain ⟨b, hp⟩ : ∃ b, b = qneg p := ⟨_, rfl⟩
  obtain ⟨c, hq⟩ : ∃ c, c = qneg q := ⟨_, rfl⟩
  rw [← hp, ← hq] at C ⊢
  obtain ⟨hW, hR⟩ := boxRRV (.cells #[.bool b, .slice a1 n1 c1, .slice a2 n2 c2] 28) (.cells #[.bool c, .slice a3 n3 c3, .slice a4 n4 c4] 28) w
  have HW := Lib.hid hW
  have HR := Lib.hid hR
  have C := Lib.hid C
  rename_i C'
  clear C' hn hd kn kd hp hq bp bq hW hR
  go_enter Tryz.func103, Tryz.ntmps103
  go_wp2_with fail
  refine (C.out _ HW.out).mono ?_
  rintro e w1 ⟨v1, rfl, hv1, hb⟩
  have D1 := Lib.hid (D.out _ _ hv1)
  have HR1 := Lib.hid (HR.out.later hb (World.block_lt_of_cell? _ _ HR.out.box.kind))
  have HB1 := Lib.hid (below_keep HW.out hb)
  obtain ⟨vn, vd, rfl, -⟩ := hv1
  clear hb C D
  go_wp2_with fail
  refine D1.out.mono ?_
  rintro e w2 ⟨rfl, hb⟩
  obtain ⟨⟨r0, r1, r2, r3⟩, f0, f1, f2, f3⟩ := HR1.out.later hb (World.block_lt_of_cell? _ _ HR1.out.box.kind)
  have HB2 := Lib.hid (below_keep HB1.out hb)
  clear hb D1
  go_wp2
  refine bodyPost_ret (by simp [results, Tryz.results103, go_sem, r0, r1, r2, r3]; try rfl) rfl ?_
  exact ⟨rfl, below_set4'' HB2.out (by omega)⟩

set_option maxHeartbeats 1600000 in
set_option maxRecDepth 100000 in
theorem rarith_10 {p q : Rat} {k : Nat} {x y : Value} {w : World} (hx : Q9 w x p) (hy : Q9 w y q) (bp : Bd k p) (bq : Bd k q) (hk : k ≤ 400000) :
    Calls Tryz.prog 103 #[.int .i64 10, x, y] w (RetV (valQ (p - q)).v w) := by
  have C := fun (w1 : World) (hb : Below w.heap.size w w1) => sub9R_any (hx.later hb) (hy.later hb) bp bq hk
  have D := Lib.hid (fun (w1 : World) (v : Value) (h : Q9 w1 v (p - q)) => value9_any h)
  obtain ⟨⟨y0, y1, y2, y3⟩, hy0⟩ : ∃ y, y = valQ (p - q) := ⟨_, rfl⟩
  rw [← hy0] at D ⊢
  clear hy0
  obtain ⟨vn, vd, rfl, hn, hd⟩ := hx
  obtain ⟨un, ud, rfl, kn, kd⟩ := hy
  obtain ⟨a1, n1, c1, rfl, -⟩ := hn.shape (by decide)
  obtain ⟨a2, n2, c2, rfl, -⟩ := hd.shape (by decide)
  obtain ⟨a3, n3, c3, rfl, -⟩ := kn.shape (by decide)
  obtain ⟨a4, n4, c4, rfl, -⟩ := kd.shape (by decide)
  obtain ⟨b, hp⟩ : ∃ b, b = qneg p := ⟨_, rfl⟩
  obtain ⟨c, hq⟩ : ∃ c, c = qneg q := ⟨_, rfl⟩
  rw [← hp, ← hq] at C ⊢
  obtain ⟨hW, hR⟩ := boxRRV (.cells #[.bool b, .slice a1 n1 c1, .slice a2 n2 c2] 28) (.cells #[.bool c, .slice a3 n3 c3, .slice a4 n4 c4] 28) w
  have HW := Lib.hid hW
  have HR := Lib.hid hR
  have C := Lib.hid C
  rename_i C'
  clear C' hn hd kn kd hp hq bp bq hW hR
  go_enter Tryz.func103, Tryz.ntmps103
  go_wp2_with fail
  refine (C.out _ HW.out).mono ?_
  rintro e w1 ⟨v1, rfl, hv1, hb⟩
  have D1 := Lib.hid (D.out _ _ hv1)
  have HR1 := Lib.hid (HR.out.later hb (World.block_lt_of_cell? _ _ HR.out.box.kind))
  have HB1 := Lib.hid (below_keep HW.out hb)
  obtain ⟨vn, vd, rfl, -⟩ := hv1
  clear hb C D
  go_wp2_with fail
  refine D1.out.mono ?_
  rintro e w2 ⟨rfl, hb⟩
  obtain ⟨⟨r0, r1, r2, r3⟩, f0, f1, f2, f3⟩ := HR1.out.later hb (World.block_lt_of_cell? _ _ HR1.out.box.kind)
  have HB2 := Lib.hid (below_keep HB1.out hb)
  clear hb D1
  go_wp2
  refine bodyPost_ret (by simp [results, Tryz.results103, go_sem, r0, r1, r2, r3]; try rfl) rfl ?_
  exact ⟨rfl, below_set4'' HB2.out (by omega)⟩

set_option maxHeartbeats 1600000 in
set_option maxRecDepth 100000 in
theorem rarith_11 {p q : Rat} {k : Nat} {x y : Value} {w : World} (hx : Q9 w x p) (hy : Q9 w y q) (bp : Bd k p) (bq : Bd k q) (hk : k ≤ 400000) :
    Calls Tryz.prog 103 #[.int .i64 11, x, y] w (RetV (valQ (p * q)).v w) := by
  have C := fun (w1 : World) (hb : Below w.heap.size w w1) => mul9R_any (hx.later hb) (hy.later hb) bp bq hk
  have D := Lib.hid (fun (w1 : World) (v : Value) (h : Q9 w1 v (p * q)) => value9_any h)
  obtain ⟨⟨y0, y1, y2, y3⟩, hy0⟩ : ∃ y, y = valQ (p * q) := ⟨_, rfl⟩
  rw [← hy0] at D ⊢
  clear hy0
  obtain ⟨vn, vd, rfl, hn, hd⟩ := hx
  obtain ⟨un, ud, rfl, kn, kd⟩ := hy
  obtain ⟨a1, n1, c1, rfl, -⟩ := hn.shape (by decide)
  obtain ⟨a2, n2, c2, rfl, -⟩ := hd.shape (by decide)
  obtain ⟨a3, n3, c3, rfl, -⟩ := kn.shape (by decide)
  obtain ⟨a4, n4, c4, rfl, -⟩ := kd.shape (by decide)
  obtain ⟨b, hp⟩ : ∃ b, b = qneg p := ⟨_, rfl⟩
  obtain ⟨c, hq⟩ : ∃ c, c = qneg q := ⟨_, rfl⟩
  rw [← hp, ← hq] at C ⊢
  obtain ⟨hW, hR⟩ := boxRRV (.cells #[.bool b, .slice a1 n1 c1, .slice a2 n2 c2] 28) (.cells #[.bool c, .slice a3 n3 c3, .slice a4 n4 c4] 28) w
  have HW := Lib.hid hW
  have HR := Lib.hid hR
  have C := Lib.hid C
  rename_i C'
  clear C' hn hd kn kd hp hq bp bq hW hR
  go_enter Tryz.func103, Tryz.ntmps103
  go_wp2_with fail
  refine (C.out _ HW.out).mono ?_
  rintro e w1 ⟨v1, rfl, hv1, hb⟩
  have D1 := Lib.hid (D.out _ _ hv1)
  have HR1 := Lib.hid (HR.out.later hb (World.block_lt_of_cell? _ _ HR.out.box.kind))
  have HB1 := Lib.hid (below_keep HW.out hb)
  obtain ⟨vn, vd, rfl, -⟩ := hv1
  clear hb C D
  go_wp2_with fail
  refine D1.out.mono ?_
  rintro e w2 ⟨rfl, hb⟩
  obtain ⟨⟨r0, r1, r2, r3⟩, f0, f1, f2, f3⟩ := HR1.out.later hb (World.block_lt_of_cell? _ _ HR1.out.box.kind)
  have HB2 := Lib.hid (below_keep HB1.out hb)
  clear hb D1
  go_wp2
  refine bodyPost_ret (by simp [results, Tryz.results103, go_sem, r0, r1, r2, r3]; try rfl) rfl ?_
  exact ⟨rfl, below_set4'' HB2.out (by omega)⟩

set_option maxHeartbeats 1600000 in
set_option maxRecDepth 100000 in
theorem rarith_12z {p q : Rat} {k : Nat} {x y : Value} {w : World} (hx : Q9 w x p) (hy : Q9 w y q) (_ : Bd k p) (_ : Bd k q) (_ : k ≤ 400000) (h0 : q = 0) :
    Calls Tryz.prog 103 #[.int .i64 12, x, y] w (RetV (missV 3).v w) := by
  have C := fun (w1 : World) (hb : Below w.heap.size w w1) => quo9R_zero (hx.later hb) (h0 ▸ hy.later hb)
  have D := Lib.hid (fun w1 => missing9_any 3 w1)
  clear h0
  obtain ⟨vn, vd, rfl, hn, hd⟩ := hx
  obtain ⟨un, ud, rfl, kn, kd⟩ := hy
  obtain ⟨a1, n1, c1, rfl, -⟩ := hn.shape (by decide)
  obtain ⟨a2, n2, c2, rfl, -⟩ := hd.shape (by decide)
  obtain ⟨a3, n3, c3, rfl, -⟩ := kn.shape (by decide)
  obtain ⟨a4, n4, c4, rfl, -⟩ := kd.shape (by decide)
  obtain ⟨b, hp⟩ : ∃ b, b = qneg p := ⟨_, rfl⟩
  obtain ⟨c, hq⟩ : ∃ c, c = qneg q := ⟨_, rfl⟩
  rw [← hp, ← hq] at C ⊢
  obtain ⟨hW, hR⟩ := boxRRV (.cells #[.bool b, .slice a1 n1 c1, .slice a2 n2 c2] 28) (.cells #[.bool c, .slice a3 n3 c3, .slice a4 n4 c4] 28) w
  have HW := Lib.hid hW
  have HR := Lib.hid hR
  have C := Lib.hid C
  rename_i C'
  clear C' hn hd kn kd hp hq hW hR
  go_enter Tryz.func103, Tryz.ntmps103
  go_wp2_with fail
  refine (C.out _ HW.out).mono ?_
  rintro e w1 ⟨rfl, hb⟩
  have hR1 := HR.out.later hb (World.block_lt_of_cell? _ _ HR.out.box.kind)
  have HR1 := Lib.hid (hR1.later (below_alloc w1 (.cells #[.bool false, .slice none 0 0, .slice none 0 0] 28)) (World.block_lt_of_cell? _ _ hR1.box.kind))
  have hB1 := below_keep HW.out hb
  have HB1 := Lib.hid (hB1.alloc hB1.size (.cells #[.bool false, .slice none 0 0, .slice none 0 0] 28))
  have D1 := Lib.hid (D.out (w1.alloc (.cells #[.bool false, .slice none 0 0, .slice none 0 0] 28)))
  clear hb C D hR1 hB1
  go_wp2_with fail
  refine D1.out.mono ?_
  rintro e w2 ⟨rfl, hb⟩
  obtain ⟨⟨r0, r1, r2, r3⟩, f0, f1, f2, f3⟩ := HR1.out.later hb (World.block_lt_of_cell? _ _ HR1.out.box.kind)
  have HB2 := Lib.hid (below_keep HB1.out hb)
  clear hb D1
  go_wp2
  refine bodyPost_ret (by simp [results, Tryz.results103, go_sem, r0, r1, r2, r3]; try rfl) rfl ?_
  exact ⟨rfl, below_set4'' HB2.out (by omega)⟩

set_option maxHeartbeats 1600000 in
set_option maxRecDepth 100000 in
theorem rarith_12n {p q : Rat} {k : Nat} {x y : Value} {w : World} (hx : Q9 w x p) (hy : Q9 w y q) (bp : Bd k p) (bq : Bd k q) (hk : k ≤ 400000) (h0 : q ≠ 0) :
    Calls Tryz.prog 103 #[.int .i64 12, x, y] w (RetV (valQ (p / q)).v w) := by
  have C := fun (w1 : World) (hb : Below w.heap.size w w1) => quo9R_any (hx.later hb) (hy.later hb) bp bq hk h0
  have D := Lib.hid (fun (w1 : World) (v : Value) (h : Q9 w1 v (p / q)) => value9_any h)
  clear h0
  obtain ⟨⟨y0, y1, y2, y3⟩, hy0⟩ : ∃ y, y = valQ (p / q) := ⟨_, rfl⟩
  rw [← hy0] at D ⊢
  clear hy0
  obtain ⟨vn, vd, rfl, hn, hd⟩ := hx
  obtain ⟨un, ud, rfl, kn, kd⟩ := hy
  obtain ⟨a1, n1, c1, rfl, -⟩ := hn.shape (by decide)
  obtain ⟨a2, n2, c2, rfl, -⟩ := hd.shape (by decide)
  obtain ⟨a3, n3, c3, rfl, -⟩ := kn.shape (by decide)
  obtain ⟨a4, n4, c4, rfl, -⟩ := kd.shape (by decide)
  obtain ⟨b, hp⟩ : ∃ b, b = qneg p := ⟨_, rfl⟩
  obtain ⟨c, hq⟩ : ∃ c, c = qneg q := ⟨_, rfl⟩
  rw [← hp, ← hq] at C ⊢
  obtain ⟨hW, hR⟩ := boxRRV (.cells #[.bool b, .slice a1 n1 c1, .slice a2 n2 c2] 28) (.cells #[.bool c, .slice a3 n3 c3, .slice a4 n4 c4] 28) w
  have HW := Lib.hid hW
  have HR := Lib.hid hR
  have C := Lib.hid C
  rename_i C'
  clear C' hn hd kn kd hp hq bp bq hW hR
  go_enter Tryz.func103, Tryz.ntmps103
  go_wp2_with fail
  refine (C.out _ HW.out).mono ?_
  rintro e w1 ⟨v1, rfl, hv1, hb⟩
  obtain ⟨vn, vd, rfl, hn, hd⟩ := hv1
  obtain ⟨a5, n5, c5, rfl, -⟩ := hn.shape (by decide)
  obtain ⟨a6, n6, c6, rfl, -⟩ := hd.shape (by decide)
  obtain ⟨z, hz⟩ : ∃ z, z = qneg (p / q) := ⟨_, rfl⟩
  rw [← hz]
  have hR1 := HR.out.later hb (World.block_lt_of_cell? _ _ HR.out.box.kind)
  have HR1 := Lib.hid (hR1.later (below_alloc w1 (.cells #[.bool z, .slice a5 n5 c5, .slice a6 n6 c6] 28)) (World.block_lt_of_cell? _ _ hR1.box.kind))
  have hB1 := below_keep HW.out hb
  have HB1 := Lib.hid (hB1.alloc hB1.size (.cells #[.bool z, .slice a5 n5 c5, .slice a6 n6 c6] 28))
  have D1 := Lib.hid (D.out (w1.alloc (.cells #[.bool z, .slice a5 n5 c5, .slice a6 n6 c6] 28)) (.agg #[.bool z, .slice a5 n5 c5, .slice a6 n6 c6]) ⟨_, _, by rw [hz], hn.later (below_alloc _ _), hd.later (below_alloc _ _)⟩)
  clear hb C D hR1 hB1 hn hd hz
  go_wp2_with fail
  refine D1.out.mono ?_
  rintro e w2 ⟨rfl, hb⟩
  obtain ⟨⟨r0, r1, r2, r3⟩, f0, f1, f2, f3⟩ := HR1.out.later hb (World.block_lt_of_cell? _ _ HR1.out.box.kind)
  have HB2 := Lib.hid (below_keep HB1.out hb)
  clear hb D1
  go_wp2
  refine bodyPost_ret (by simp [results, Tryz.results103, go_sem, r0, r1, r2, r3]; try rfl) rfl ?_
  exact ⟨rfl, below_set4'' HB2.out (by omega)⟩

end Go.Proofs.YtemhidlaaommaaaGreatDoor
