/- The reference's operations: contract of special. (printed by gen_rspecial.py) -/
import Derived.Deep.RegionHeld3
import Derived.Test.YtemhidlaaommaaaGreatDoorD9
import Derived.Test.YtemhidlaaommaaaGreatDoorG2
import Derived.Test.YtemhidlaaommaaaGreatDoorRefT
import Derived.Test.YtemhidlaaommaaaGreatDoorRegInv
namespace Go.Proofs.YtemhidlaaommaaaGreatDoor
open Go.RowKit

/-- a value's block that may be written -/
structure RvAt (w : World) (g : Nat) : Prop where
  c0 : ∃ v, w.cell? ⟨g, 0, none⟩ = some v
  c1 : ∃ v, w.cell? ⟨g, 1, none⟩ = some v
  c2 : ∃ v, w.cell? ⟨g, 2, none⟩ = some v
  c3 : ∃ v, w.cell? ⟨g, 3, none⟩ = some v
  f0 : w.frozen? ⟨g, 0, none⟩ = false
  f1 : w.frozen? ⟨g, 1, none⟩ = false
  f2 : w.frozen? ⟨g, 2, none⟩ = false
  f3 : w.frozen? ⟨g, 3, none⟩ = false
theorem RvAt.of {w : World} {g : Nat} (h : ResV w g) : RvAt w g := by
  obtain ⟨⟨r0, r1, r2, r3⟩, f0, f1, f2, f3⟩ := h
  exact ⟨⟨_, r0⟩, ⟨_, r1⟩, ⟨_, r2⟩, ⟨_, r3⟩, f0, f1, f2, f3⟩
theorem RvAt.later {w w' : World} {g : Nat} (h : RvAt w g) (hb : Below w.heap.size w w') : RvAt w' g := by
  obtain ⟨⟨v0, h0⟩, ⟨v1, h1⟩, ⟨v2, h2⟩, ⟨v3, h3⟩, f0, f1, f2, f3⟩ := h
  have hg : g < w.heap.size := World.block_lt_of_cell? w ⟨g, 0, none⟩ h0
  exact ⟨⟨v0, (hb.cell (p := ⟨g, 0, none⟩) hg).trans h0⟩, ⟨v1, (hb.cell (p := ⟨g, 1, none⟩) hg).trans h1⟩, ⟨v2, (hb.cell (p := ⟨g, 2, none⟩) hg).trans h2⟩, ⟨v3, (hb.cell (p := ⟨g, 3, none⟩) hg).trans h3⟩,
    (hb.frozen (p := ⟨g, 0, none⟩) hg).trans f0, (hb.frozen (p := ⟨g, 1, none⟩) hg).trans f1, (hb.frozen (p := ⟨g, 2, none⟩) hg).trans f2, (hb.frozen (p := ⟨g, 3, none⟩) hg).trans f3⟩
abbrev setV (w : World) (g : Nat) (z0 z1 z2 z3 : Value) : World := (((w.setCell ⟨g, 0, none⟩ z0).setCell ⟨g, 1, none⟩ z1).setCell ⟨g, 2, none⟩ z2).setCell ⟨g, 3, none⟩ z3
/-- the four cells of a block -/
def CelV (w : World) (g : Nat) (z0 z1 z2 z3 : Value) : Prop := w.cell? ⟨g, 0, none⟩ = some z0 ∧ w.cell? ⟨g, 1, none⟩ = some z1 ∧ w.cell? ⟨g, 2, none⟩ = some z2 ∧ w.cell? ⟨g, 3, none⟩ = some z3
theorem CelV.later {w w' : World} {g : Nat} {z0 z1 z2 z3 : Value} (h : CelV w g z0 z1 z2 z3) (hb : Below w.heap.size w w') : CelV w' g z0 z1 z2 z3 := by
  have hg : g < w.heap.size := World.block_lt_of_cell? w ⟨g, 0, none⟩ h.1
  exact ⟨(hb.cell (p := ⟨g, 0, none⟩) hg).trans h.1, (hb.cell (p := ⟨g, 1, none⟩) hg).trans h.2.1, (hb.cell (p := ⟨g, 2, none⟩) hg).trans h.2.2.1, (hb.cell (p := ⟨g, 3, none⟩) hg).trans h.2.2.2⟩
theorem RvAt.cells {w : World} {g : Nat} (h : RvAt w g) (z0 z1 z2 z3 : Value) : CelV (setV w g z0 z1 z2 z3) g z0 z1 z2 z3 ∧ RvAt (setV w g z0 z1 z2 z3) g := by
  obtain ⟨⟨v0, h0⟩, ⟨v1, h1⟩, ⟨v2, h2⟩, ⟨v3, h3⟩, f0, f1, f2, f3⟩ := h
  have a1 : (w.setCell ⟨g, 0, none⟩ z0).cell? ⟨g, 1, none⟩ = some v1 := by rw [World.cell?_setCell_other w ⟨g, 0, none⟩ ⟨g, 1, none⟩ _ (by simp)]; exact h1
  have a2 : ((w.setCell ⟨g, 0, none⟩ z0).setCell ⟨g, 1, none⟩ z1).cell? ⟨g, 2, none⟩ = some v2 := by
    rw [World.cell?_setCell_other _ ⟨g, 1, none⟩ ⟨g, 2, none⟩ _ (by simp), World.cell?_setCell_other w ⟨g, 0, none⟩ ⟨g, 2, none⟩ _ (by simp)]; exact h2
  have a3 : (((w.setCell ⟨g, 0, none⟩ z0).setCell ⟨g, 1, none⟩ z1).setCell ⟨g, 2, none⟩ z2).cell? ⟨g, 3, none⟩ = some v3 := by
    rw [World.cell?_setCell_other _ ⟨g, 2, none⟩ ⟨g, 3, none⟩ _ (by simp), World.cell?_setCell_other _ ⟨g, 1, none⟩ ⟨g, 3, none⟩ _ (by simp), World.cell?_setCell_other w ⟨g, 0, none⟩ ⟨g, 3, none⟩ _ (by simp)]; exact h3
  have e0 : (setV w g z0 z1 z2 z3).cell? ⟨g, 0, none⟩ = some z0 := by
    rw [World.cell?_setCell_other _ ⟨g, 3, none⟩ ⟨g, 0, none⟩ _ (by simp), World.cell?_setCell_other _ ⟨g, 2, none⟩ ⟨g, 0, none⟩ _ (by simp), World.cell?_setCell_other _ ⟨g, 1, none⟩ ⟨g, 0, none⟩ _ (by simp)]
    exact World.cell?_setCell_same _ _ _ h0
  have e1 : (setV w g z0 z1 z2 z3).cell? ⟨g, 1, none⟩ = some z1 := by
    rw [World.cell?_setCell_other _ ⟨g, 3, none⟩ ⟨g, 1, none⟩ _ (by simp), World.cell?_setCell_other _ ⟨g, 2, none⟩ ⟨g, 1, none⟩ _ (by simp)]
    exact World.cell?_setCell_same _ _ _ a1
  have e2 : (setV w g z0 z1 z2 z3).cell? ⟨g, 2, none⟩ = some z2 := by
    rw [World.cell?_setCell_other _ ⟨g, 3, none⟩ ⟨g, 2, none⟩ _ (by simp)]
    exact World.cell?_setCell_same _ _ _ a2
  have e3 : (setV w g z0 z1 z2 z3).cell? ⟨g, 3, none⟩ = some z3 := World.cell?_setCell_same _ _ _ a3
  have fz : ∀ i, (setV w g z0 z1 z2 z3).frozen? ⟨g, i, none⟩ = w.frozen? ⟨g, i, none⟩ := fun i => by simp only [setV, World.frozen?_setCell]
  exact ⟨⟨e0, e1, e2, e3⟩, ⟨_, e0⟩, ⟨_, e1⟩, ⟨_, e2⟩, ⟨_, e3⟩, (fz 0).trans f0, (fz 1).trans f1, (fz 2).trans f2, (fz 3).trans f3⟩
theorem eq4 {α : Type} (x : Va) (N : Int) (A B : α) : (if x.kind = 1 then if x.num = N then if x.den = 0 then if x.str = [] then A else B else B else B else B) = if x = ⟨1, N, 0, []⟩ then A else B := by
  obtain ⟨k, n, d, s⟩ := x
  simp only [Va.mk.injEq]
  by_cases h1 : k = 1 <;> by_cases h2 : n = N <;> by_cases h3 : d = 0 <;> by_cases h4 : s = [] <;> simp [h1, h2, h3, h4]
theorem tfv (b : Bool) : truthV b = ⟨1, if b then 1 else 0, 0, []⟩ := rfl
set_option maxHeartbeats 1600000 in
set_option maxRecDepth 100000 in
theorem rspecial_7z (a : Va) (g o cap : Nat) (w : World) (h : VaAt w g o a) (hk : (a.kind == (0 : Int)) = true) :
    Calls Tryz.prog 101 #[.int .i64 7, .slice (some ⟨g, o, none⟩) 1 cap] w (RetV (.tuple #[(truthV true).v, .bool true]) w) := by
  have hg := h.lt
  have hgn : g ≠ w.heap.size := by omega
  obtain ⟨k0, -, -, -⟩ := h
  have C := Lib.hid (fun w1 => truth9_any true w1)
  have HR := Lib.hid (ResV.made w 45)
  have HB := Lib.hid (below_alloc w (.cells #[.int .i64 0, .int .i64 0, .int .i64 0, .string ⟨#[]⟩] 45))
  go_enter Tryz.func101, Tryz.ntmps101
  go_wp2_with fail
  refine (C.out _).mono ?_
  rintro e w1 ⟨rfl, hb⟩
  obtain ⟨⟨r0, r1, r2, r3⟩, f0, f1, f2, f3⟩ := HR.out.later hb (by simp)
  have HB1 := Lib.hid (below_keep HB.out hb)
  clear hb C
  go_wp2
  refine bodyPost_ret (by simp [results, Tryz.results101, go_sem, r0, r1, r2, r3]; try rfl) rfl ?_
  exact ⟨rfl, below_set4 HB1.out⟩
set_option maxHeartbeats 1600000 in
set_option maxRecDepth 100000 in
theorem rspecial_7n (a : Va) (g o cap : Nat) (w : World) (h : VaAt w g o a) (hk : (a.kind == (0 : Int)) = false) :
    Calls Tryz.prog 101 #[.int .i64 7, .slice (some ⟨g, o, none⟩) 1 cap] w (RetV (.tuple #[(truthV false).v, .bool true]) w) := by
  have hg := h.lt
  have hgn : g ≠ w.heap.size := by omega
  obtain ⟨k0, -, -, -⟩ := h
  have C := Lib.hid (fun w1 => truth9_any false w1)
  have HR := Lib.hid (ResV.made w 45)
  have HB := Lib.hid (below_alloc w (.cells #[.int .i64 0, .int .i64 0, .int .i64 0, .string ⟨#[]⟩] 45))
  go_enter Tryz.func101, Tryz.ntmps101
  go_wp2_with fail
  refine (C.out _).mono ?_
  rintro e w1 ⟨rfl, hb⟩
  obtain ⟨⟨r0, r1, r2, r3⟩, f0, f1, f2, f3⟩ := HR.out.later hb (by simp)
  have HB1 := Lib.hid (below_keep HB.out hb)
  clear hb C
  go_wp2
  refine bodyPost_ret (by simp [results, Tryz.results101, go_sem, r0, r1, r2, r3]; try rfl) rfl ?_
  exact ⟨rfl, below_set4 HB1.out⟩
set_option maxHeartbeats 1600000 in
set_option maxRecDepth 100000 in
theorem rspecial_8z (a : Va) (g o cap : Nat) (w : World) (h : VaAt w g o a) (hk : (a.kind == (0 : Int)) = true) :
    Calls Tryz.prog 101 #[.int .i64 8, .slice (some ⟨g, o, none⟩) 1 cap] w (RetV (.tuple #[(⟨2, a.num, 1, []⟩ : Va).v, .bool true]) w) := by
  have hg := h.lt
  have hgn : g ≠ w.heap.size := by omega
  obtain ⟨k0, k1, -, -⟩ := h
  have HB := Lib.hid (below_alloc w (.cells #[.int .i64 2, .int .i64 a.num, .int .i64 1, .string ⟨#[]⟩] 45))
  go_enter Tryz.func101, Tryz.ntmps101
  go_wp2
  refine bodyPost_ret (by simp [results, Tryz.results101, go_sem]; try rfl) rfl ?_
  exact ⟨rfl, HB.out⟩
set_option maxHeartbeats 1600000 in
set_option maxRecDepth 100000 in
theorem rspecial_8n (a : Va) (g o cap : Nat) (w : World) (h : VaAt w g o a) (hk : (a.kind == (0 : Int)) = false) :
    Calls Tryz.prog 101 #[.int .i64 8, .slice (some ⟨g, o, none⟩) 1 cap] w (RetV (.tuple #[(⟨2, 0, 1, []⟩ : Va).v, .bool true]) w) := by
  have hg := h.lt
  have hgn : g ≠ w.heap.size := by omega
  obtain ⟨k0, k1, -, -⟩ := h
  have HB := Lib.hid (below_alloc w (.cells #[.int .i64 2, .int .i64 0, .int .i64 1, .string ⟨#[]⟩] 45))
  go_enter Tryz.func101, Tryz.ntmps101
  go_wp2
  refine bodyPost_ret (by simp [results, Tryz.results101, go_sem]; try rfl) rfl ?_
  exact ⟨rfl, HB.out⟩
set_option maxHeartbeats 1600000 in
set_option maxRecDepth 100000 in
theorem rspecial_21z (a b : Va) (g o cap : Nat) (w : World) (h : VaAt w g o a) (h' : VaAt w g (o + 4) b) (hk : (a.kind == (0 : Int)) = true) :
    Calls Tryz.prog 101 #[.int .i64 21, .slice (some ⟨g, o, none⟩) 2 cap] w (RetV (.tuple #[(b).v, .bool true]) w) := by
  have hg := h.lt
  have hgn : g ≠ w.heap.size := by omega
  obtain ⟨k0, k1, k2, k3⟩ := h
  obtain ⟨j0, j1, j2, j3⟩ := h'
  have HB := Lib.hid (below_alloc w (.cells #[.int .i64 b.kind, .int .i64 b.num, .int .i64 b.den, .string ⟨b.str.toArray⟩] 45))
  go_enter Tryz.func101, Tryz.ntmps101
  go_wp2
  refine bodyPost_ret (by simp [results, Tryz.results101, go_sem]; try rfl) rfl ?_
  exact ⟨rfl, HB.out⟩
set_option maxHeartbeats 1600000 in
set_option maxRecDepth 100000 in
theorem rspecial_21n (a b : Va) (g o cap : Nat) (w : World) (h : VaAt w g o a) (h' : VaAt w g (o + 4) b) (hk : (a.kind == (0 : Int)) = false) :
    Calls Tryz.prog 101 #[.int .i64 21, .slice (some ⟨g, o, none⟩) 2 cap] w (RetV (.tuple #[(a).v, .bool true]) w) := by
  have hg := h.lt
  have hgn : g ≠ w.heap.size := by omega
  obtain ⟨k0, k1, k2, k3⟩ := h
  obtain ⟨j0, j1, j2, j3⟩ := h'
  have HB := Lib.hid (below_alloc w (.cells #[.int .i64 a.kind, .int .i64 a.num, .int .i64 a.den, .string ⟨a.str.toArray⟩] 45))
  go_enter Tryz.func101, Tryz.ntmps101
  go_wp2
  refine bodyPost_ret (by simp [results, Tryz.results101, go_sem]; try rfl) rfl ?_
  exact ⟨rfl, HB.out⟩
set_option maxHeartbeats 1600000 in
set_option maxRecDepth 100000 in
theorem rspecial_22z (a b c : Va) (g o cap : Nat) (w : World) (h : VaAt w g o a) (_ : VaAt w g (o + 4) b) (_ : VaAt w g (o + 8) c) (hk : (a.kind == (0 : Int)) = true) :
    Calls Tryz.prog 101 #[.int .i64 22, .slice (some ⟨g, o, none⟩) 3 cap] w (RetV (.tuple #[(a).v, .bool true]) w) := by
  have hg := h.lt
  have hgn : g ≠ w.heap.size := by omega
  obtain ⟨k0, k1, k2, k3⟩ := h
  have HB := Lib.hid (below_alloc w (.cells #[.int .i64 a.kind, .int .i64 a.num, .int .i64 a.den, .string ⟨a.str.toArray⟩] 45))
  go_enter Tryz.func101, Tryz.ntmps101
  go_wp2
  refine bodyPost_ret (by simp [results, Tryz.results101, go_sem]; try rfl) rfl ?_
  exact ⟨rfl, HB.out⟩
set_option maxHeartbeats 1600000 in
set_option maxRecDepth 100000 in
theorem rspecial_22t (b c : Va) (g o cap : Nat) (w : World) (h : VaAt w g o (truthV true)) (h' : VaAt w g (o + 4) b) (_ : VaAt w g (o + 8) c) :
    Calls Tryz.prog 101 #[.int .i64 22, .slice (some ⟨g, o, none⟩) 3 cap] w (RetV (.tuple #[(b).v, .bool true]) w) := by
  have K : Hid (∀ w', Below w.heap.size w w' → w'.cell? ⟨g, o, none⟩ = some (.int .i64 1) ∧ w'.cell? ⟨g, o + 1, none⟩ = some (.int .i64 1) ∧ w'.cell? ⟨g, o + 2, none⟩ = some (.int .i64 0) ∧ w'.cell? ⟨g, o + 3, none⟩ = some (.string ⟨#[]⟩) ∧ Below w.heap.size w w') := fun w1 hb =>
    let b1 := h.later' hb
    ⟨b1.kind, b1.num, b1.den, b1.str, hb⟩
  have X := Lib.hid h'
  have C := Lib.hid (fun w1 => truth9_any true w1)
  have hr := ResV.made w 45
  obtain ⟨W, hW⟩ : ∃ W, W = w.alloc (.cells #[.int .i64 0, .int .i64 0, .int .i64 0, .string ⟨#[]⟩] 45) := ⟨_, rfl⟩
  rw [← hW] at hr
  have HR := Lib.hid hr
  have hB : Below w.heap.size w W := by rw [hW]; exact below_alloc _ _
  have HBW := Lib.hid hB
  have hbd : Below w.heap.size w W.drew := hB.drew
  obtain ⟨k0, k1, k2, k3, -⟩ := K.out W hB
  have HRD : Hid (ResV W.drew w.heap.size) := ⟨⟨hr.box.kind, hr.box.num, hr.box.den, hr.box.str⟩, hr.f0, hr.f1, hr.f2, hr.f3⟩
  rename_i hx9
  have hg := h.lt
  have hgn : g ≠ w.heap.size := by omega
  obtain ⟨c0, c1, c2, c3⟩ := h
  clear h' hr hB hx9
  go_enter Tryz.func101, Tryz.ntmps101
  go_wp2_with fail
  rw [← hW]
  clear hW c0 c1 c2 c3 hg hgn
  go_region_held3 (fun w' => w'.cell? ⟨g, o, none⟩ = some (.int .i64 1) ∧ w'.cell? ⟨g, o + 1, none⟩ = some (.int .i64 1) ∧ w'.cell? ⟨g, o + 2, none⟩ = some (.int .i64 0) ∧ w'.cell? ⟨g, o + 3, none⟩ = some (.string ⟨#[]⟩) ∧ Below w.heap.size w w')
    (exact K.out _ (by assumption))
    (first | (go_at_call 102; refine (C.out _).mono ?_; rintro e w2 ⟨rfl, hb2⟩; have hB2 := below_keep hbd hb2))
  obtain ⟨⟨r0, r1, r2, r3⟩, f0, f1, f2, f3⟩ := HRD.out.later hb2 (World.block_lt_of_cell? _ _ HRD.out.box.kind)
  obtain ⟨x0, x1, x2, x3⟩ := X.out.later' hB2
  have HB2 := Lib.hid hB2
  clear hb2 hB2 hbd k0 k1 k2 k3
  go_wp2
  refine bodyPost_ret (by simp [results, Tryz.results101, go_sem, r0, r1, r2, r3]; try rfl) rfl ?_
  exact ⟨rfl, below_set4 HB2.out⟩
set_option maxHeartbeats 1600000 in
set_option maxRecDepth 100000 in
theorem rspecial_22f (b c : Va) (g o cap : Nat) (w : World) (h : VaAt w g o (truthV false)) (_ : VaAt w g (o + 4) b) (h9 : VaAt w g (o + 8) c) :
    Calls Tryz.prog 101 #[.int .i64 22, .slice (some ⟨g, o, none⟩) 3 cap] w (RetV (.tuple #[(c).v, .bool true]) w) := by
  have K : Hid (∀ w', Below w.heap.size w w' → w'.cell? ⟨g, o, none⟩ = some (.int .i64 1) ∧ w'.cell? ⟨g, o + 1, none⟩ = some (.int .i64 0) ∧ w'.cell? ⟨g, o + 2, none⟩ = some (.int .i64 0) ∧ w'.cell? ⟨g, o + 3, none⟩ = some (.string ⟨#[]⟩) ∧ Below w.heap.size w w') := fun w1 hb =>
    let b1 := h.later' hb
    ⟨b1.kind, b1.num, b1.den, b1.str, hb⟩
  have X := Lib.hid h9
  have C := Lib.hid (fun w1 => truth9_any true w1)
  have hr := ResV.made w 45
  obtain ⟨W, hW⟩ : ∃ W, W = w.alloc (.cells #[.int .i64 0, .int .i64 0, .int .i64 0, .string ⟨#[]⟩] 45) := ⟨_, rfl⟩
  rw [← hW] at hr
  have HR := Lib.hid hr
  have hB : Below w.heap.size w W := by rw [hW]; exact below_alloc _ _
  have HBW := Lib.hid hB
  have hbd : Below w.heap.size w W.drew := hB.drew
  obtain ⟨k0, k1, k2, k3, -⟩ := K.out W hB
  have HRD : Hid (ResV W.drew w.heap.size) := ⟨⟨hr.box.kind, hr.box.num, hr.box.den, hr.box.str⟩, hr.f0, hr.f1, hr.f2, hr.f3⟩
  rename_i hx9
  have hg := h.lt
  have hgn : g ≠ w.heap.size := by omega
  obtain ⟨c0, c1, c2, c3⟩ := h
  clear h9 hr hB hx9
  go_enter Tryz.func101, Tryz.ntmps101
  go_wp2_with fail
  rw [← hW]
  clear hW c0 c1 c2 c3 hg hgn
  go_region_held3 (fun w' => w'.cell? ⟨g, o, none⟩ = some (.int .i64 1) ∧ w'.cell? ⟨g, o + 1, none⟩ = some (.int .i64 0) ∧ w'.cell? ⟨g, o + 2, none⟩ = some (.int .i64 0) ∧ w'.cell? ⟨g, o + 3, none⟩ = some (.string ⟨#[]⟩) ∧ Below w.heap.size w w')
    (exact K.out _ (by assumption))
    (first | (go_at_call 102; refine (C.out _).mono ?_; rintro e w2 ⟨rfl, hb2⟩; have hB2 := below_keep hbd hb2))
  obtain ⟨⟨r0, r1, r2, r3⟩, f0, f1, f2, f3⟩ := HRD.out.later hb2 (World.block_lt_of_cell? _ _ HRD.out.box.kind)
  obtain ⟨x0, x1, x2, x3⟩ := X.out.later' hB2
  have HB2 := Lib.hid hB2
  clear hb2 hB2 hbd k0 k1 k2 k3
  go_wp2
  refine bodyPost_ret (by simp [results, Tryz.results101, go_sem, r0, r1, r2, r3]; try rfl) rfl ?_
  exact ⟨rfl, below_set4 HB2.out⟩
set_option maxHeartbeats 1600000 in
set_option maxRecDepth 100000 in
theorem rspecial_19t (a b : Va) (g o cap : Nat) (w : World) (h : VaAt w g o a) (h' : VaAt w g (o + 4) b) (ha : a = truthV false) :
    Calls Tryz.prog 101 #[.int .i64 19, .slice (some ⟨g, o, none⟩) 2 cap] w (RetV (.tuple #[(truthV false).v, .bool true]) w) := by
  have HA := Lib.hid h
  have HBb := Lib.hid h'
  have ha := Lib.hid ha

  have C := Lib.hid (fun w1 => truth9_any false w1)
  have hr := ResV.made w 45
  obtain ⟨W, hW⟩ : ∃ W, W = w.alloc (.cells #[.int .i64 0, .int .i64 0, .int .i64 0, .string ⟨#[]⟩] 45) := ⟨_, rfl⟩
  rw [← hW] at hr
  have hB : Below w.heap.size w W := by rw [hW]; exact below_alloc _ _
  have HBW := Lib.hid hB
  have HRD : Hid (ResV W.drew w.heap.size) := ⟨⟨hr.box.kind, hr.box.num, hr.box.den, hr.box.str⟩, hr.f0, hr.f1, hr.f2, hr.f3⟩
  rename_i ha'
  clear h h' hr hB ha'
  go_enter Tryz.func101, Tryz.ntmps101
  go_wp2_with fail
  rw [← hW]
  clear hW
  refine wp_region_list [.val (truthV false).v, .val (.slice (some ⟨g, o, none⟩) 2 cap), .val (.pointer (some ⟨g, o, none⟩)), .val a.v, .val (truthV false).v, .val (.bool true), .val (.bool true), .any, .any, .any, .any, .any, .val (.bool true), .holds (fun _ w' => CelV w' w.heap.size (.int .i64 1) (.int .i64 0) (.int .i64 0) (.string ⟨#[]⟩)), .val (.bool true)]
    [some 30, some 31, some 32, some 33, some 34, some 35, some 36, some 37, some 38, some 39, some 40, some 41, some 42, none, some 5]
    (fun w' => Below w.heap.size w w' ∧ RvAt w' w.heap.size) (fun w1 w2 => CelV w1 w.heap.size (.int .i64 1) (.int .i64 0) (.int .i64 0) (.string ⟨#[]⟩) → CelV w2 w.heap.size (.int .i64 1) (.int .i64 0) (.int .i64 0) (.string ⟨#[]⟩)) rfl (by kernel_rfl) (by kernel_rfl) (by kernel_rfl) (by kernel_rfl) ?_ ?_ ?_ ?_
  · (intro y hy v w1 w2 hs hv; simp only [List.mem_cons, List.not_mem_nil, or_false] at hy; rcases hy with rfl | rfl | rfl | rfl | rfl | rfl | rfl | rfl | rfl | rfl | rfl | rfl | rfl | rfl | rfl; all_goals first | exact hv | exact hs hv)
  · exact ⟨HBW.out.drew, RvAt.of HRD.out⟩
  · intro i9 op9 ho
    have hi : i9 < 15 := (Array.getElem?_eq_some_iff.1 ho).1
    match i9, hi with
    | 0, _ =>
      obtain rfl := Option.some.inj ho
      intro a9 wx hBx hev haf
      rw [if_pos (wanted_none rfl)]
      clear haf hev
      go_simp
      exact (C.out _).mono fun e w' ⟨he, hb⟩ => ⟨_, he, rfl, fun h => h.later hb, below_keep hBx.1 hb, hBx.2.later hb⟩
    | 1, _ =>
      obtain rfl := Option.some.inj ho
      intro a9 wx hBx hev haf
      rw [if_pos (wanted_none rfl)]
      have f1 : (a9.tmps[1]?).getD undef = (.slice (some ⟨g, o, none⟩) 2 cap) := hev 1 (by kernel_rfl)
      clear haf hev
      go_simp
      exact ⟨rfl, fun h => h, hBx⟩
    | 2, _ =>
      obtain rfl := Option.some.inj ho
      intro a9 wx hBx hev haf
      rw [if_pos (wanted_none rfl)]
      have f31 : (a9.tmps[31]?).getD undef = (.slice (some ⟨g, o, none⟩) 2 cap) := haf 0 _ rfl rfl 31 rfl
      clear haf hev
      go_simp
      exact ⟨rfl, fun h => h, hBx⟩
    | 3, _ =>
      obtain rfl := Option.some.inj ho
      intro a9 wx hBx hev haf
      rw [if_pos (wanted_none rfl)]
      have f32 : (a9.tmps[32]?).getD undef = (.pointer (some ⟨g, o, none⟩)) := haf 0 _ rfl rfl 32 rfl
      clear haf hev
      obtain ⟨k0, k1, k2, k3⟩ := (HA.out).later' hBx.1
      go_simp
      exact ⟨rfl, fun h => h, hBx⟩
    | 4, _ =>
      obtain rfl := Option.some.inj ho
      intro a9 wx hBx hev haf
      rw [if_pos (wanted_none rfl)]
      clear haf hev
      go_simp
      exact (C.out _).mono fun e w' ⟨he, hb⟩ => ⟨_, he, rfl, fun h => h.later hb, below_keep hBx.1 hb, hBx.2.later hb⟩
    | 5, _ =>
      obtain rfl := Option.some.inj ho
      intro a9 wx hBx hev haf
      rw [if_pos (wanted_none rfl)]
      have f33 : (a9.tmps[33]?).getD undef = a.v := haf 0 _ rfl rfl 33 rfl
      have f34 : (a9.tmps[34]?).getD undef = (truthV false).v := haf 1 _ rfl rfl 34 rfl
      clear haf hev
      go_simp
      rw [eq4, if_pos (show (_ = (⟨1, 0, 0, []⟩ : Va)) from ha.out)]
      exact ⟨rfl, fun h => h, hBx⟩
    | 6, _ =>
      obtain rfl := Option.some.inj ho
      intro a9 wx hBx hev haf
      rw [if_pos (wanted_none rfl)]
      have f35 : (a9.tmps[35]?).getD undef = (.bool true) := haf 0 _ rfl rfl 35 rfl
      clear haf hev
      go_simp
      exact ⟨rfl, fun h => h, hBx⟩
    | 7, _ =>
      obtain rfl := Option.some.inj ho
      intro a9 wx hBx hev haf
      have fg : (a9.tmps[36]?).getD undef = .bool true := haf 0 _ rfl rfl 36 rfl
      rw [if_neg (by rw [wanted_at (j := 6) (b := false) rfl rfl fg]; decide)]
      trivial
    | 8, _ =>
      obtain rfl := Option.some.inj ho
      intro a9 wx hBx hev haf
      have fg : (a9.tmps[36]?).getD undef = .bool true := haf 1 _ rfl rfl 36 rfl
      rw [if_neg (by rw [wanted_at (j := 6) (b := false) rfl rfl fg]; decide)]
      trivial
    | 9, _ =>
      obtain rfl := Option.some.inj ho
      intro a9 wx hBx hev haf
      have fg : (a9.tmps[36]?).getD undef = .bool true := haf 1 _ rfl rfl 36 rfl
      rw [if_neg (by rw [wanted_at (j := 6) (b := false) rfl rfl fg]; decide)]
      trivial
    | 10, _ =>
      obtain rfl := Option.some.inj ho
      intro a9 wx hBx hev haf
      have fg : (a9.tmps[36]?).getD undef = .bool true := haf 0 _ rfl rfl 36 rfl
      rw [if_neg (by rw [wanted_at (j := 6) (b := false) rfl rfl fg]; decide)]
      trivial
    | 11, _ =>
      obtain rfl := Option.some.inj ho
      intro a9 wx hBx hev haf
      have fg : (a9.tmps[36]?).getD undef = .bool true := haf 2 _ rfl rfl 36 rfl
      rw [if_neg (by rw [wanted_at (j := 6) (b := false) rfl rfl fg]; decide)]
      trivial
    | 12, _ =>
      obtain rfl := Option.some.inj ho
      intro a9 wx hBx hev haf
      rw [if_pos (wanted_none rfl)]
      have f36 : (a9.tmps[36]?).getD undef = (.bool true) := haf 0 _ rfl rfl 36 rfl
      clear haf hev
      go_simp
      exact ⟨rfl, fun h => h, hBx⟩
    | 13, _ =>
      obtain rfl := Option.some.inj ho
      intro a9 wx hBx hev haf
      rw [if_pos (wanted_none rfl)]
      have f4 : (a9.tmps[4]?).getD undef = (.pointer (some ⟨w.heap.size, 0, none⟩)) := hev 4 (by kernel_rfl)
      have f30 : (a9.tmps[30]?).getD undef = (truthV false).v := haf 0 _ rfl rfl 30 rfl
      clear haf hev
      obtain ⟨⟨v0, k0⟩, ⟨v1, k1⟩, ⟨v2, k2⟩, ⟨v3, k3⟩, q0, q1, q2, q3⟩ := hBx.2
      go_simp
      exact ⟨(hBx.2.cells _ _ _ _).1, fun _ => (hBx.2.cells _ _ _ _).1, below_set4' hBx.1 (Nat.le_refl _), (hBx.2.cells _ _ _ _).2⟩
    | 14, _ =>
      obtain rfl := Option.some.inj ho
      intro a9 wx hBx hev haf
      rw [if_pos (wanted_none rfl)]
      have f42 : (a9.tmps[42]?).getD undef = (.bool true) := haf 0 _ rfl rfl 42 rfl
      clear haf hev
      go_simp
      exact ⟨rfl, fun h => h, hBx⟩
  · intro vals wx hBx hG
    have g0 : vals 0 = (truthV false).v := hG 0 (by decide)
    have g1 : vals 1 = (.slice (some ⟨g, o, none⟩) 2 cap) := hG 1 (by decide)
    have g2 : vals 2 = (.pointer (some ⟨g, o, none⟩)) := hG 2 (by decide)
    have g3 : vals 3 = a.v := hG 3 (by decide)
    have g4 : vals 4 = (truthV false).v := hG 4 (by decide)
    have g5 : vals 5 = (.bool true) := hG 5 (by decide)
    have g6 : vals 6 = (.bool true) := hG 6 (by decide)
    have g12 : vals 12 = (.bool true) := hG 12 (by decide)
    have g13 := hG 13 (by decide)
    have g14 : vals 14 = (.bool true) := hG 14 (by decide)
    clear hG
    simp only [putDs, Act.put, Nat.zero_add, Nat.reduceAdd, List.setIfInBounds_toArray, List.set_cons_succ, List.set_cons_zero, g0, g1, g2, g3, g4, g5, g6, g12, g14]
    clear g0 g1 g2 g3 g4 g5 g6 g12 g14
    obtain ⟨r0, r1, r2, r3⟩ := g13
    go_wp2
    refine bodyPost_ret (by simp [results, Tryz.results101, go_sem, r0, r1, r2, r3]; try rfl) rfl ?_
    exact ⟨rfl, hBx.1⟩

set_option maxHeartbeats 1600000 in
set_option maxRecDepth 100000 in
theorem rspecial_19ft (a b : Va) (g o cap : Nat) (w : World) (h : VaAt w g o a) (h' : VaAt w g (o + 4) b) (ha : a ≠ truthV false) (hb9 : b = truthV false) :
    Calls Tryz.prog 101 #[.int .i64 19, .slice (some ⟨g, o, none⟩) 2 cap] w (RetV (.tuple #[(truthV false).v, .bool true]) w) := by
  have HA := Lib.hid h
  have HBb := Lib.hid h'
  have ha := Lib.hid ha
  have hb9 := Lib.hid hb9
  have C := Lib.hid (fun w1 => truth9_any false w1)
  have hr := ResV.made w 45
  obtain ⟨W, hW⟩ : ∃ W, W = w.alloc (.cells #[.int .i64 0, .int .i64 0, .int .i64 0, .string ⟨#[]⟩] 45) := ⟨_, rfl⟩
  rw [← hW] at hr
  have hB : Below w.heap.size w W := by rw [hW]; exact below_alloc _ _
  have HBW := Lib.hid hB
  have HRD : Hid (ResV W.drew w.heap.size) := ⟨⟨hr.box.kind, hr.box.num, hr.box.den, hr.box.str⟩, hr.f0, hr.f1, hr.f2, hr.f3⟩
  rename_i ha' hb9'
  clear h h' hr hB ha' hb9'
  go_enter Tryz.func101, Tryz.ntmps101
  go_wp2_with fail
  rw [← hW]
  clear hW
  refine wp_region_list [.val (truthV false).v, .val (.slice (some ⟨g, o, none⟩) 2 cap), .val (.pointer (some ⟨g, o, none⟩)), .val a.v, .val (truthV false).v, .val (.bool false), .val (.bool false), .val (.slice (some ⟨g, o, none⟩) 2 cap), .val (.pointer (some ⟨g, o + 4, none⟩)), .val b.v, .val (truthV false).v, .val (.bool true), .val (.bool true), .holds (fun _ w' => CelV w' w.heap.size (.int .i64 1) (.int .i64 0) (.int .i64 0) (.string ⟨#[]⟩)), .val (.bool true)]
    [some 30, some 31, some 32, some 33, some 34, some 35, some 36, some 37, some 38, some 39, some 40, some 41, some 42, none, some 5]
    (fun w' => Below w.heap.size w w' ∧ RvAt w' w.heap.size) (fun w1 w2 => CelV w1 w.heap.size (.int .i64 1) (.int .i64 0) (.int .i64 0) (.string ⟨#[]⟩) → CelV w2 w.heap.size (.int .i64 1) (.int .i64 0) (.int .i64 0) (.string ⟨#[]⟩)) rfl (by kernel_rfl) (by kernel_rfl) (by kernel_rfl) (by kernel_rfl) ?_ ?_ ?_ ?_
  · (intro y hy v w1 w2 hs hv; simp only [List.mem_cons, List.not_mem_nil, or_false] at hy; rcases hy with rfl | rfl | rfl | rfl | rfl | rfl | rfl | rfl | rfl | rfl | rfl | rfl | rfl | rfl | rfl; all_goals first | exact hv | exact hs hv)
  · exact ⟨HBW.out.drew, RvAt.of HRD.out⟩
  · intro i9 op9 ho
    have hi : i9 < 15 := (Array.getElem?_eq_some_iff.1 ho).1
    match i9, hi with
    | 0, _ =>
      obtain rfl := Option.some.inj ho
      intro a9 wx hBx hev haf
      rw [if_pos (wanted_none rfl)]
      clear haf hev
      go_simp
      exact (C.out _).mono fun e w' ⟨he, hb⟩ => ⟨_, he, rfl, fun h => h.later hb, below_keep hBx.1 hb, hBx.2.later hb⟩
    | 1, _ =>
      obtain rfl := Option.some.inj ho
      intro a9 wx hBx hev haf
      rw [if_pos (wanted_none rfl)]
      have f1 : (a9.tmps[1]?).getD undef = (.slice (some ⟨g, o, none⟩) 2 cap) := hev 1 (by kernel_rfl)
      clear haf hev
      go_simp
      exact ⟨rfl, fun h => h, hBx⟩
    | 2, _ =>
      obtain rfl := Option.some.inj ho
      intro a9 wx hBx hev haf
      rw [if_pos (wanted_none rfl)]
      have f31 : (a9.tmps[31]?).getD undef = (.slice (some ⟨g, o, none⟩) 2 cap) := haf 0 _ rfl rfl 31 rfl
      clear haf hev
      go_simp
      exact ⟨rfl, fun h => h, hBx⟩
    | 3, _ =>
      obtain rfl := Option.some.inj ho
      intro a9 wx hBx hev haf
      rw [if_pos (wanted_none rfl)]
      have f32 : (a9.tmps[32]?).getD undef = (.pointer (some ⟨g, o, none⟩)) := haf 0 _ rfl rfl 32 rfl
      clear haf hev
      obtain ⟨k0, k1, k2, k3⟩ := (HA.out).later' hBx.1
      go_simp
      exact ⟨rfl, fun h => h, hBx⟩
    | 4, _ =>
      obtain rfl := Option.some.inj ho
      intro a9 wx hBx hev haf
      rw [if_pos (wanted_none rfl)]
      clear haf hev
      go_simp
      exact (C.out _).mono fun e w' ⟨he, hb⟩ => ⟨_, he, rfl, fun h => h.later hb, below_keep hBx.1 hb, hBx.2.later hb⟩
    | 5, _ =>
      obtain rfl := Option.some.inj ho
      intro a9 wx hBx hev haf
      rw [if_pos (wanted_none rfl)]
      have f33 : (a9.tmps[33]?).getD undef = a.v := haf 0 _ rfl rfl 33 rfl
      have f34 : (a9.tmps[34]?).getD undef = (truthV false).v := haf 1 _ rfl rfl 34 rfl
      clear haf hev
      go_simp
      rw [eq4, if_neg (show ¬ (_ = (⟨1, 0, 0, []⟩ : Va)) from ha.out)]
      exact ⟨rfl, fun h => h, hBx⟩
    | 6, _ =>
      obtain rfl := Option.some.inj ho
      intro a9 wx hBx hev haf
      rw [if_pos (wanted_none rfl)]
      have f35 : (a9.tmps[35]?).getD undef = (.bool false) := haf 0 _ rfl rfl 35 rfl
      clear haf hev
      go_simp
      exact ⟨rfl, fun h => h, hBx⟩
    | 7, _ =>
      obtain rfl := Option.some.inj ho
      intro a9 wx hBx hev haf
      have fg : (a9.tmps[36]?).getD undef = .bool false := haf 0 _ rfl rfl 36 rfl
      rw [if_pos (by rw [wanted_at (j := 6) (b := false) rfl rfl fg]; rfl)]
      have f1 : (a9.tmps[1]?).getD undef = (.slice (some ⟨g, o, none⟩) 2 cap) := hev 1 (by kernel_rfl)
      clear haf hev
      go_simp
      exact ⟨rfl, fun h => h, hBx⟩
    | 8, _ =>
      obtain rfl := Option.some.inj ho
      intro a9 wx hBx hev haf
      have fg : (a9.tmps[36]?).getD undef = .bool false := haf 1 _ rfl rfl 36 rfl
      rw [if_pos (by rw [wanted_at (j := 6) (b := false) rfl rfl fg]; rfl)]
      have f37 : (a9.tmps[37]?).getD undef = (.slice (some ⟨g, o, none⟩) 2 cap) := haf 0 _ rfl rfl 37 rfl
      clear haf hev
      go_simp
      exact ⟨rfl, fun h => h, hBx⟩
    | 9, _ =>
      obtain rfl := Option.some.inj ho
      intro a9 wx hBx hev haf
      have fg : (a9.tmps[36]?).getD undef = .bool false := haf 1 _ rfl rfl 36 rfl
      rw [if_pos (by rw [wanted_at (j := 6) (b := false) rfl rfl fg]; rfl)]
      have f38 : (a9.tmps[38]?).getD undef = (.pointer (some ⟨g, o + 4, none⟩)) := haf 0 _ rfl rfl 38 rfl
      clear haf hev
      obtain ⟨k0, k1, k2, k3⟩ := (HBb.out).later' hBx.1
      go_simp
      exact ⟨rfl, fun h => h, hBx⟩
    | 10, _ =>
      obtain rfl := Option.some.inj ho
      intro a9 wx hBx hev haf
      have fg : (a9.tmps[36]?).getD undef = .bool false := haf 0 _ rfl rfl 36 rfl
      rw [if_pos (by rw [wanted_at (j := 6) (b := false) rfl rfl fg]; rfl)]
      clear haf hev
      go_simp
      exact (C.out _).mono fun e w' ⟨he, hb⟩ => ⟨_, he, rfl, fun h => h.later hb, below_keep hBx.1 hb, hBx.2.later hb⟩
    | 11, _ =>
      obtain rfl := Option.some.inj ho
      intro a9 wx hBx hev haf
      have fg : (a9.tmps[36]?).getD undef = .bool false := haf 2 _ rfl rfl 36 rfl
      rw [if_pos (by rw [wanted_at (j := 6) (b := false) rfl rfl fg]; rfl)]
      have f39 : (a9.tmps[39]?).getD undef = b.v := haf 0 _ rfl rfl 39 rfl
      have f40 : (a9.tmps[40]?).getD undef = (truthV false).v := haf 1 _ rfl rfl 40 rfl
      clear haf hev
      go_simp
      rw [eq4, if_pos (show (_ = (⟨1, 0, 0, []⟩ : Va)) from hb9.out)]
      exact ⟨rfl, fun h => h, hBx⟩
    | 12, _ =>
      obtain rfl := Option.some.inj ho
      intro a9 wx hBx hev haf
      rw [if_pos (wanted_none rfl)]
      have f36 : (a9.tmps[36]?).getD undef = (.bool false) := haf 0 _ rfl rfl 36 rfl
      have f41 : (a9.tmps[41]?).getD undef = (.bool true) := haf 1 _ rfl rfl 41 rfl
      clear haf hev
      go_simp
      exact ⟨rfl, fun h => h, hBx⟩
    | 13, _ =>
      obtain rfl := Option.some.inj ho
      intro a9 wx hBx hev haf
      rw [if_pos (wanted_none rfl)]
      have f4 : (a9.tmps[4]?).getD undef = (.pointer (some ⟨w.heap.size, 0, none⟩)) := hev 4 (by kernel_rfl)
      have f30 : (a9.tmps[30]?).getD undef = (truthV false).v := haf 0 _ rfl rfl 30 rfl
      clear haf hev
      obtain ⟨⟨v0, k0⟩, ⟨v1, k1⟩, ⟨v2, k2⟩, ⟨v3, k3⟩, q0, q1, q2, q3⟩ := hBx.2
      go_simp
      exact ⟨(hBx.2.cells _ _ _ _).1, fun _ => (hBx.2.cells _ _ _ _).1, below_set4' hBx.1 (Nat.le_refl _), (hBx.2.cells _ _ _ _).2⟩
    | 14, _ =>
      obtain rfl := Option.some.inj ho
      intro a9 wx hBx hev haf
      rw [if_pos (wanted_none rfl)]
      have f42 : (a9.tmps[42]?).getD undef = (.bool true) := haf 0 _ rfl rfl 42 rfl
      clear haf hev
      go_simp
      exact ⟨rfl, fun h => h, hBx⟩
  · intro vals wx hBx hG
    have g0 : vals 0 = (truthV false).v := hG 0 (by decide)
    have g1 : vals 1 = (.slice (some ⟨g, o, none⟩) 2 cap) := hG 1 (by decide)
    have g2 : vals 2 = (.pointer (some ⟨g, o, none⟩)) := hG 2 (by decide)
    have g3 : vals 3 = a.v := hG 3 (by decide)
    have g4 : vals 4 = (truthV false).v := hG 4 (by decide)
    have g5 : vals 5 = (.bool false) := hG 5 (by decide)
    have g6 : vals 6 = (.bool false) := hG 6 (by decide)
    have g7 : vals 7 = (.slice (some ⟨g, o, none⟩) 2 cap) := hG 7 (by decide)
    have g8 : vals 8 = (.pointer (some ⟨g, o + 4, none⟩)) := hG 8 (by decide)
    have g9 : vals 9 = b.v := hG 9 (by decide)
    have g10 : vals 10 = (truthV false).v := hG 10 (by decide)
    have g11 : vals 11 = (.bool true) := hG 11 (by decide)
    have g12 : vals 12 = (.bool true) := hG 12 (by decide)
    have g13 := hG 13 (by decide)
    have g14 : vals 14 = (.bool true) := hG 14 (by decide)
    clear hG
    simp only [putDs, Act.put, Nat.zero_add, Nat.reduceAdd, List.setIfInBounds_toArray, List.set_cons_succ, List.set_cons_zero, g0, g1, g2, g3, g4, g5, g6, g7, g8, g9, g10, g11, g12, g14]
    clear g0 g1 g2 g3 g4 g5 g6 g7 g8 g9 g10 g11 g12 g14
    obtain ⟨r0, r1, r2, r3⟩ := g13
    go_wp2
    refine bodyPost_ret (by simp [results, Tryz.results101, go_sem, r0, r1, r2, r3]; try rfl) rfl ?_
    exact ⟨rfl, hBx.1⟩

set_option maxHeartbeats 1600000 in
set_option maxRecDepth 100000 in
theorem rspecial_19ff (a b : Va) (g o cap : Nat) (w : World) (h : VaAt w g o a) (h' : VaAt w g (o + 4) b) (ha : a ≠ truthV false) (hb9 : b ≠ truthV false) :
    Calls Tryz.prog 101 #[.int .i64 19, .slice (some ⟨g, o, none⟩) 2 cap] w (RetV (.tuple #[(truthV false).v, .bool false]) w) := by
  have HA := Lib.hid h
  have HBb := Lib.hid h'
  have ha := Lib.hid ha
  have hb9 := Lib.hid hb9
  have C := Lib.hid (fun w1 => truth9_any false w1)
  have hr := ResV.made w 45
  obtain ⟨W, hW⟩ : ∃ W, W = w.alloc (.cells #[.int .i64 0, .int .i64 0, .int .i64 0, .string ⟨#[]⟩] 45) := ⟨_, rfl⟩
  rw [← hW] at hr
  have hB : Below w.heap.size w W := by rw [hW]; exact below_alloc _ _
  have HBW := Lib.hid hB
  have HRD : Hid (ResV W.drew w.heap.size) := ⟨⟨hr.box.kind, hr.box.num, hr.box.den, hr.box.str⟩, hr.f0, hr.f1, hr.f2, hr.f3⟩
  rename_i ha' hb9'
  clear h h' hr hB ha' hb9'
  go_enter Tryz.func101, Tryz.ntmps101
  go_wp2_with fail
  rw [← hW]
  clear hW
  refine wp_region_list [.val (truthV false).v, .val (.slice (some ⟨g, o, none⟩) 2 cap), .val (.pointer (some ⟨g, o, none⟩)), .val a.v, .val (truthV false).v, .val (.bool false), .val (.bool false), .val (.slice (some ⟨g, o, none⟩) 2 cap), .val (.pointer (some ⟨g, o + 4, none⟩)), .val b.v, .val (truthV false).v, .val (.bool false), .val (.bool false), .holds (fun _ w' => CelV w' w.heap.size (.int .i64 1) (.int .i64 0) (.int .i64 0) (.string ⟨#[]⟩)), .val (.bool false)]
    [some 30, some 31, some 32, some 33, some 34, some 35, some 36, some 37, some 38, some 39, some 40, some 41, some 42, none, some 5]
    (fun w' => Below w.heap.size w w' ∧ RvAt w' w.heap.size) (fun w1 w2 => CelV w1 w.heap.size (.int .i64 1) (.int .i64 0) (.int .i64 0) (.string ⟨#[]⟩) → CelV w2 w.heap.size (.int .i64 1) (.int .i64 0) (.int .i64 0) (.string ⟨#[]⟩)) rfl (by kernel_rfl) (by kernel_rfl) (by kernel_rfl) (by kernel_rfl) ?_ ?_ ?_ ?_
  · (intro y hy v w1 w2 hs hv; simp only [List.mem_cons, List.not_mem_nil, or_false] at hy; rcases hy with rfl | rfl | rfl | rfl | rfl | rfl | rfl | rfl | rfl | rfl | rfl | rfl | rfl | rfl | rfl; all_goals first | exact hv | exact hs hv)
  · exact ⟨HBW.out.drew, RvAt.of HRD.out⟩
  · intro i9 op9 ho
    have hi : i9 < 15 := (Array.getElem?_eq_some_iff.1 ho).1
    match i9, hi with
    | 0, _ =>
      obtain rfl := Option.some.inj ho
      intro a9 wx hBx hev haf
      rw [if_pos (wanted_none rfl)]
      clear haf hev
      go_simp
      exact (C.out _).mono fun e w' ⟨he, hb⟩ => ⟨_, he, rfl, fun h => h.later hb, below_keep hBx.1 hb, hBx.2.later hb⟩
    | 1, _ =>
      obtain rfl := Option.some.inj ho
      intro a9 wx hBx hev haf
      rw [if_pos (wanted_none rfl)]
      have f1 : (a9.tmps[1]?).getD undef = (.slice (some ⟨g, o, none⟩) 2 cap) := hev 1 (by kernel_rfl)
      clear haf hev
      go_simp
      exact ⟨rfl, fun h => h, hBx⟩
    | 2, _ =>
      obtain rfl := Option.some.inj ho
      intro a9 wx hBx hev haf
      rw [if_pos (wanted_none rfl)]
      have f31 : (a9.tmps[31]?).getD undef = (.slice (some ⟨g, o, none⟩) 2 cap) := haf 0 _ rfl rfl 31 rfl
      clear haf hev
      go_simp
      exact ⟨rfl, fun h => h, hBx⟩
    | 3, _ =>
      obtain rfl := Option.some.inj ho
      intro a9 wx hBx hev haf
      rw [if_pos (wanted_none rfl)]
      have f32 : (a9.tmps[32]?).getD undef = (.pointer (some ⟨g, o, none⟩)) := haf 0 _ rfl rfl 32 rfl
      clear haf hev
      obtain ⟨k0, k1, k2, k3⟩ := (HA.out).later' hBx.1
      go_simp
      exact ⟨rfl, fun h => h, hBx⟩
    | 4, _ =>
      obtain rfl := Option.some.inj ho
      intro a9 wx hBx hev haf
      rw [if_pos (wanted_none rfl)]
      clear haf hev
      go_simp
      exact (C.out _).mono fun e w' ⟨he, hb⟩ => ⟨_, he, rfl, fun h => h.later hb, below_keep hBx.1 hb, hBx.2.later hb⟩
    | 5, _ =>
      obtain rfl := Option.some.inj ho
      intro a9 wx hBx hev haf
      rw [if_pos (wanted_none rfl)]
      have f33 : (a9.tmps[33]?).getD undef = a.v := haf 0 _ rfl rfl 33 rfl
      have f34 : (a9.tmps[34]?).getD undef = (truthV false).v := haf 1 _ rfl rfl 34 rfl
      clear haf hev
      go_simp
      rw [eq4, if_neg (show ¬ (_ = (⟨1, 0, 0, []⟩ : Va)) from ha.out)]
      exact ⟨rfl, fun h => h, hBx⟩
    | 6, _ =>
      obtain rfl := Option.some.inj ho
      intro a9 wx hBx hev haf
      rw [if_pos (wanted_none rfl)]
      have f35 : (a9.tmps[35]?).getD undef = (.bool false) := haf 0 _ rfl rfl 35 rfl
      clear haf hev
      go_simp
      exact ⟨rfl, fun h => h, hBx⟩
    | 7, _ =>
      obtain rfl := Option.some.inj ho
      intro a9 wx hBx hev haf
      have fg : (a9.tmps[36]?).getD undef = .bool false := haf 0 _ rfl rfl 36 rfl
      rw [if_pos (by rw [wanted_at (j := 6) (b := false) rfl rfl fg]; rfl)]
      have f1 : (a9.tmps[1]?).getD undef = (.slice (some ⟨g, o, none⟩) 2 cap) := hev 1 (by kernel_rfl)
      clear haf hev
      go_simp
      exact ⟨rfl, fun h => h, hBx⟩
    | 8, _ =>
      obtain rfl := Option.some.inj ho
      intro a9 wx hBx hev haf
      have fg : (a9.tmps[36]?).getD undef = .bool false := haf 1 _ rfl rfl 36 rfl
      rw [if_pos (by rw [wanted_at (j := 6) (b := false) rfl rfl fg]; rfl)]
      have f37 : (a9.tmps[37]?).getD undef = (.slice (some ⟨g, o, none⟩) 2 cap) := haf 0 _ rfl rfl 37 rfl
      clear haf hev
      go_simp
      exact ⟨rfl, fun h => h, hBx⟩
    | 9, _ =>
      obtain rfl := Option.some.inj ho
      intro a9 wx hBx hev haf
      have fg : (a9.tmps[36]?).getD undef = .bool false := haf 1 _ rfl rfl 36 rfl
      rw [if_pos (by rw [wanted_at (j := 6) (b := false) rfl rfl fg]; rfl)]
      have f38 : (a9.tmps[38]?).getD undef = (.pointer (some ⟨g, o + 4, none⟩)) := haf 0 _ rfl rfl 38 rfl
      clear haf hev
      obtain ⟨k0, k1, k2, k3⟩ := (HBb.out).later' hBx.1
      go_simp
      exact ⟨rfl, fun h => h, hBx⟩
    | 10, _ =>
      obtain rfl := Option.some.inj ho
      intro a9 wx hBx hev haf
      have fg : (a9.tmps[36]?).getD undef = .bool false := haf 0 _ rfl rfl 36 rfl
      rw [if_pos (by rw [wanted_at (j := 6) (b := false) rfl rfl fg]; rfl)]
      clear haf hev
      go_simp
      exact (C.out _).mono fun e w' ⟨he, hb⟩ => ⟨_, he, rfl, fun h => h.later hb, below_keep hBx.1 hb, hBx.2.later hb⟩
    | 11, _ =>
      obtain rfl := Option.some.inj ho
      intro a9 wx hBx hev haf
      have fg : (a9.tmps[36]?).getD undef = .bool false := haf 2 _ rfl rfl 36 rfl
      rw [if_pos (by rw [wanted_at (j := 6) (b := false) rfl rfl fg]; rfl)]
      have f39 : (a9.tmps[39]?).getD undef = b.v := haf 0 _ rfl rfl 39 rfl
      have f40 : (a9.tmps[40]?).getD undef = (truthV false).v := haf 1 _ rfl rfl 40 rfl
      clear haf hev
      go_simp
      rw [eq4, if_neg (show ¬ (_ = (⟨1, 0, 0, []⟩ : Va)) from hb9.out)]
      exact ⟨rfl, fun h => h, hBx⟩
    | 12, _ =>
      obtain rfl := Option.some.inj ho
      intro a9 wx hBx hev haf
      rw [if_pos (wanted_none rfl)]
      have f36 : (a9.tmps[36]?).getD undef = (.bool false) := haf 0 _ rfl rfl 36 rfl
      have f41 : (a9.tmps[41]?).getD undef = (.bool false) := haf 1 _ rfl rfl 41 rfl
      clear haf hev
      go_simp
      exact ⟨rfl, fun h => h, hBx⟩
    | 13, _ =>
      obtain rfl := Option.some.inj ho
      intro a9 wx hBx hev haf
      rw [if_pos (wanted_none rfl)]
      have f4 : (a9.tmps[4]?).getD undef = (.pointer (some ⟨w.heap.size, 0, none⟩)) := hev 4 (by kernel_rfl)
      have f30 : (a9.tmps[30]?).getD undef = (truthV false).v := haf 0 _ rfl rfl 30 rfl
      clear haf hev
      obtain ⟨⟨v0, k0⟩, ⟨v1, k1⟩, ⟨v2, k2⟩, ⟨v3, k3⟩, q0, q1, q2, q3⟩ := hBx.2
      go_simp
      exact ⟨(hBx.2.cells _ _ _ _).1, fun _ => (hBx.2.cells _ _ _ _).1, below_set4' hBx.1 (Nat.le_refl _), (hBx.2.cells _ _ _ _).2⟩
    | 14, _ =>
      obtain rfl := Option.some.inj ho
      intro a9 wx hBx hev haf
      rw [if_pos (wanted_none rfl)]
      have f42 : (a9.tmps[42]?).getD undef = (.bool false) := haf 0 _ rfl rfl 42 rfl
      clear haf hev
      go_simp
      exact ⟨rfl, fun h => h, hBx⟩
  · intro vals wx hBx hG
    have g0 : vals 0 = (truthV false).v := hG 0 (by decide)
    have g1 : vals 1 = (.slice (some ⟨g, o, none⟩) 2 cap) := hG 1 (by decide)
    have g2 : vals 2 = (.pointer (some ⟨g, o, none⟩)) := hG 2 (by decide)
    have g3 : vals 3 = a.v := hG 3 (by decide)
    have g4 : vals 4 = (truthV false).v := hG 4 (by decide)
    have g5 : vals 5 = (.bool false) := hG 5 (by decide)
    have g6 : vals 6 = (.bool false) := hG 6 (by decide)
    have g7 : vals 7 = (.slice (some ⟨g, o, none⟩) 2 cap) := hG 7 (by decide)
    have g8 : vals 8 = (.pointer (some ⟨g, o + 4, none⟩)) := hG 8 (by decide)
    have g9 : vals 9 = b.v := hG 9 (by decide)
    have g10 : vals 10 = (truthV false).v := hG 10 (by decide)
    have g11 : vals 11 = (.bool false) := hG 11 (by decide)
    have g12 : vals 12 = (.bool false) := hG 12 (by decide)
    have g13 := hG 13 (by decide)
    have g14 : vals 14 = (.bool false) := hG 14 (by decide)
    clear hG
    simp only [putDs, Act.put, Nat.zero_add, Nat.reduceAdd, List.setIfInBounds_toArray, List.set_cons_succ, List.set_cons_zero, g0, g1, g2, g3, g4, g5, g6, g7, g8, g9, g10, g11, g12, g14]
    clear g0 g1 g2 g3 g4 g5 g6 g7 g8 g9 g10 g11 g12 g14
    obtain ⟨r0, r1, r2, r3⟩ := g13
    go_wp2
    refine bodyPost_ret (by simp [results, Tryz.results101, go_sem, r0, r1, r2, r3]; try rfl) rfl ?_
    exact ⟨rfl, hBx.1⟩

set_option maxHeartbeats 1600000 in
set_option maxRecDepth 100000 in
theorem rspecial_20t (a b : Va) (g o cap : Nat) (w : World) (h : VaAt w g o a) (h' : VaAt w g (o + 4) b) (ha : a = truthV true) :
    Calls Tryz.prog 101 #[.int .i64 20, .slice (some ⟨g, o, none⟩) 2 cap] w (RetV (.tuple #[(truthV true).v, .bool true]) w) := by
  have HA := Lib.hid h
  have HBb := Lib.hid h'
  have ha := Lib.hid ha

  have C := Lib.hid (fun w1 => truth9_any true w1)
  have hr := ResV.made w 45
  obtain ⟨W, hW⟩ : ∃ W, W = w.alloc (.cells #[.int .i64 0, .int .i64 0, .int .i64 0, .string ⟨#[]⟩] 45) := ⟨_, rfl⟩
  rw [← hW] at hr
  have hB : Below w.heap.size w W := by rw [hW]; exact below_alloc _ _
  have HBW := Lib.hid hB
  have HRD : Hid (ResV W.drew w.heap.size) := ⟨⟨hr.box.kind, hr.box.num, hr.box.den, hr.box.str⟩, hr.f0, hr.f1, hr.f2, hr.f3⟩
  rename_i ha'
  clear h h' hr hB ha'
  go_enter Tryz.func101, Tryz.ntmps101
  go_wp2_with fail
  rw [← hW]
  clear hW
  refine wp_region_list [.val (truthV true).v, .val (.slice (some ⟨g, o, none⟩) 2 cap), .val (.pointer (some ⟨g, o, none⟩)), .val a.v, .val (truthV true).v, .val (.bool true), .val (.bool true), .any, .any, .any, .any, .any, .val (.bool true), .holds (fun _ w' => CelV w' w.heap.size (.int .i64 1) (.int .i64 1) (.int .i64 0) (.string ⟨#[]⟩)), .val (.bool true)]
    [some 45, some 46, some 47, some 48, some 49, some 50, some 51, some 52, some 53, some 54, some 55, some 56, some 57, none, some 5]
    (fun w' => Below w.heap.size w w' ∧ RvAt w' w.heap.size) (fun w1 w2 => CelV w1 w.heap.size (.int .i64 1) (.int .i64 1) (.int .i64 0) (.string ⟨#[]⟩) → CelV w2 w.heap.size (.int .i64 1) (.int .i64 1) (.int .i64 0) (.string ⟨#[]⟩)) rfl (by kernel_rfl) (by kernel_rfl) (by kernel_rfl) (by kernel_rfl) ?_ ?_ ?_ ?_
  · (intro y hy v w1 w2 hs hv; simp only [List.mem_cons, List.not_mem_nil, or_false] at hy; rcases hy with rfl | rfl | rfl | rfl | rfl | rfl | rfl | rfl | rfl | rfl | rfl | rfl | rfl | rfl | rfl; all_goals first | exact hv | exact hs hv)
  · exact ⟨HBW.out.drew, RvAt.of HRD.out⟩
  · intro i9 op9 ho
    have hi : i9 < 15 := (Array.getElem?_eq_some_iff.1 ho).1
    match i9, hi with
    | 0, _ =>
      obtain rfl := Option.some.inj ho
      intro a9 wx hBx hev haf
      rw [if_pos (wanted_none rfl)]
      clear haf hev
      go_simp
      exact (C.out _).mono fun e w' ⟨he, hb⟩ => ⟨_, he, rfl, fun h => h.later hb, below_keep hBx.1 hb, hBx.2.later hb⟩
    | 1, _ =>
      obtain rfl := Option.some.inj ho
      intro a9 wx hBx hev haf
      rw [if_pos (wanted_none rfl)]
      have f1 : (a9.tmps[1]?).getD undef = (.slice (some ⟨g, o, none⟩) 2 cap) := hev 1 (by kernel_rfl)
      clear haf hev
      go_simp
      exact ⟨rfl, fun h => h, hBx⟩
    | 2, _ =>
      obtain rfl := Option.some.inj ho
      intro a9 wx hBx hev haf
      rw [if_pos (wanted_none rfl)]
      have f46 : (a9.tmps[46]?).getD undef = (.slice (some ⟨g, o, none⟩) 2 cap) := haf 0 _ rfl rfl 46 rfl
      clear haf hev
      go_simp
      exact ⟨rfl, fun h => h, hBx⟩
    | 3, _ =>
      obtain rfl := Option.some.inj ho
      intro a9 wx hBx hev haf
      rw [if_pos (wanted_none rfl)]
      have f47 : (a9.tmps[47]?).getD undef = (.pointer (some ⟨g, o, none⟩)) := haf 0 _ rfl rfl 47 rfl
      clear haf hev
      obtain ⟨k0, k1, k2, k3⟩ := (HA.out).later' hBx.1
      go_simp
      exact ⟨rfl, fun h => h, hBx⟩
    | 4, _ =>
      obtain rfl := Option.some.inj ho
      intro a9 wx hBx hev haf
      rw [if_pos (wanted_none rfl)]
      clear haf hev
      go_simp
      exact (C.out _).mono fun e w' ⟨he, hb⟩ => ⟨_, he, rfl, fun h => h.later hb, below_keep hBx.1 hb, hBx.2.later hb⟩
    | 5, _ =>
      obtain rfl := Option.some.inj ho
      intro a9 wx hBx hev haf
      rw [if_pos (wanted_none rfl)]
      have f48 : (a9.tmps[48]?).getD undef = a.v := haf 0 _ rfl rfl 48 rfl
      have f49 : (a9.tmps[49]?).getD undef = (truthV true).v := haf 1 _ rfl rfl 49 rfl
      clear haf hev
      go_simp
      rw [eq4, if_pos (show (_ = (⟨1, 1, 0, []⟩ : Va)) from ha.out)]
      exact ⟨rfl, fun h => h, hBx⟩
    | 6, _ =>
      obtain rfl := Option.some.inj ho
      intro a9 wx hBx hev haf
      rw [if_pos (wanted_none rfl)]
      have f50 : (a9.tmps[50]?).getD undef = (.bool true) := haf 0 _ rfl rfl 50 rfl
      clear haf hev
      go_simp
      exact ⟨rfl, fun h => h, hBx⟩
    | 7, _ =>
      obtain rfl := Option.some.inj ho
      intro a9 wx hBx hev haf
      have fg : (a9.tmps[51]?).getD undef = .bool true := haf 0 _ rfl rfl 51 rfl
      rw [if_neg (by rw [wanted_at (j := 6) (b := false) rfl rfl fg]; decide)]
      trivial
    | 8, _ =>
      obtain rfl := Option.some.inj ho
      intro a9 wx hBx hev haf
      have fg : (a9.tmps[51]?).getD undef = .bool true := haf 1 _ rfl rfl 51 rfl
      rw [if_neg (by rw [wanted_at (j := 6) (b := false) rfl rfl fg]; decide)]
      trivial
    | 9, _ =>
      obtain rfl := Option.some.inj ho
      intro a9 wx hBx hev haf
      have fg : (a9.tmps[51]?).getD undef = .bool true := haf 1 _ rfl rfl 51 rfl
      rw [if_neg (by rw [wanted_at (j := 6) (b := false) rfl rfl fg]; decide)]
      trivial
    | 10, _ =>
      obtain rfl := Option.some.inj ho
      intro a9 wx hBx hev haf
      have fg : (a9.tmps[51]?).getD undef = .bool true := haf 0 _ rfl rfl 51 rfl
      rw [if_neg (by rw [wanted_at (j := 6) (b := false) rfl rfl fg]; decide)]
      trivial
    | 11, _ =>
      obtain rfl := Option.some.inj ho
      intro a9 wx hBx hev haf
      have fg : (a9.tmps[51]?).getD undef = .bool true := haf 2 _ rfl rfl 51 rfl
      rw [if_neg (by rw [wanted_at (j := 6) (b := false) rfl rfl fg]; decide)]
      trivial
    | 12, _ =>
      obtain rfl := Option.some.inj ho
      intro a9 wx hBx hev haf
      rw [if_pos (wanted_none rfl)]
      have f51 : (a9.tmps[51]?).getD undef = (.bool true) := haf 0 _ rfl rfl 51 rfl
      clear haf hev
      go_simp
      exact ⟨rfl, fun h => h, hBx⟩
    | 13, _ =>
      obtain rfl := Option.some.inj ho
      intro a9 wx hBx hev haf
      rw [if_pos (wanted_none rfl)]
      have f4 : (a9.tmps[4]?).getD undef = (.pointer (some ⟨w.heap.size, 0, none⟩)) := hev 4 (by kernel_rfl)
      have f45 : (a9.tmps[45]?).getD undef = (truthV true).v := haf 0 _ rfl rfl 45 rfl
      clear haf hev
      obtain ⟨⟨v0, k0⟩, ⟨v1, k1⟩, ⟨v2, k2⟩, ⟨v3, k3⟩, q0, q1, q2, q3⟩ := hBx.2
      go_simp
      exact ⟨(hBx.2.cells _ _ _ _).1, fun _ => (hBx.2.cells _ _ _ _).1, below_set4' hBx.1 (Nat.le_refl _), (hBx.2.cells _ _ _ _).2⟩
    | 14, _ =>
      obtain rfl := Option.some.inj ho
      intro a9 wx hBx hev haf
      rw [if_pos (wanted_none rfl)]
      have f57 : (a9.tmps[57]?).getD undef = (.bool true) := haf 0 _ rfl rfl 57 rfl
      clear haf hev
      go_simp
      exact ⟨rfl, fun h => h, hBx⟩
  · intro vals wx hBx hG
    have g0 : vals 0 = (truthV true).v := hG 0 (by decide)
    have g1 : vals 1 = (.slice (some ⟨g, o, none⟩) 2 cap) := hG 1 (by decide)
    have g2 : vals 2 = (.pointer (some ⟨g, o, none⟩)) := hG 2 (by decide)
    have g3 : vals 3 = a.v := hG 3 (by decide)
    have g4 : vals 4 = (truthV true).v := hG 4 (by decide)
    have g5 : vals 5 = (.bool true) := hG 5 (by decide)
    have g6 : vals 6 = (.bool true) := hG 6 (by decide)
    have g12 : vals 12 = (.bool true) := hG 12 (by decide)
    have g13 := hG 13 (by decide)
    have g14 : vals 14 = (.bool true) := hG 14 (by decide)
    clear hG
    simp only [putDs, Act.put, Nat.zero_add, Nat.reduceAdd, List.setIfInBounds_toArray, List.set_cons_succ, List.set_cons_zero, g0, g1, g2, g3, g4, g5, g6, g12, g14]
    clear g0 g1 g2 g3 g4 g5 g6 g12 g14
    obtain ⟨r0, r1, r2, r3⟩ := g13
    go_wp2
    refine bodyPost_ret (by simp [results, Tryz.results101, go_sem, r0, r1, r2, r3]; try rfl) rfl ?_
    exact ⟨rfl, hBx.1⟩

set_option maxHeartbeats 1600000 in
set_option maxRecDepth 100000 in
theorem rspecial_20ft (a b : Va) (g o cap : Nat) (w : World) (h : VaAt w g o a) (h' : VaAt w g (o + 4) b) (ha : a ≠ truthV true) (hb9 : b = truthV true) :
    Calls Tryz.prog 101 #[.int .i64 20, .slice (some ⟨g, o, none⟩) 2 cap] w (RetV (.tuple #[(truthV true).v, .bool true]) w) := by
  have HA := Lib.hid h
  have HBb := Lib.hid h'
  have ha := Lib.hid ha
  have hb9 := Lib.hid hb9
  have C := Lib.hid (fun w1 => truth9_any true w1)
  have hr := ResV.made w 45
  obtain ⟨W, hW⟩ : ∃ W, W = w.alloc (.cells #[.int .i64 0, .int .i64 0, .int .i64 0, .string ⟨#[]⟩] 45) := ⟨_, rfl⟩
  rw [← hW] at hr
  have hB : Below w.heap.size w W := by rw [hW]; exact below_alloc _ _
  have HBW := Lib.hid hB
  have HRD : Hid (ResV W.drew w.heap.size) := ⟨⟨hr.box.kind, hr.box.num, hr.box.den, hr.box.str⟩, hr.f0, hr.f1, hr.f2, hr.f3⟩
  rename_i ha' hb9'
  clear h h' hr hB ha' hb9'
  go_enter Tryz.func101, Tryz.ntmps101
  go_wp2_with fail
  rw [← hW]
  clear hW
  refine wp_region_list [.val (truthV true).v, .val (.slice (some ⟨g, o, none⟩) 2 cap), .val (.pointer (some ⟨g, o, none⟩)), .val a.v, .val (truthV true).v, .val (.bool false), .val (.bool false), .val (.slice (some ⟨g, o, none⟩) 2 cap), .val (.pointer (some ⟨g, o + 4, none⟩)), .val b.v, .val (truthV true).v, .val (.bool true), .val (.bool true), .holds (fun _ w' => CelV w' w.heap.size (.int .i64 1) (.int .i64 1) (.int .i64 0) (.string ⟨#[]⟩)), .val (.bool true)]
    [some 45, some 46, some 47, some 48, some 49, some 50, some 51, some 52, some 53, some 54, some 55, some 56, some 57, none, some 5]
    (fun w' => Below w.heap.size w w' ∧ RvAt w' w.heap.size) (fun w1 w2 => CelV w1 w.heap.size (.int .i64 1) (.int .i64 1) (.int .i64 0) (.string ⟨#[]⟩) → CelV w2 w.heap.size (.int .i64 1) (.int .i64 1) (.int .i64 0) (.string ⟨#[]⟩)) rfl (by kernel_rfl) (by kernel_rfl) (by kernel_rfl) (by kernel_rfl) ?_ ?_ ?_ ?_
  · (intro y hy v w1 w2 hs hv; simp only [List.mem_cons, List.not_mem_nil, or_false] at hy; rcases hy with rfl | rfl | rfl | rfl | rfl | rfl | rfl | rfl | rfl | rfl | rfl | rfl | rfl | rfl | rfl; all_goals first | exact hv | exact hs hv)
  · exact ⟨HBW.out.drew, RvAt.of HRD.out⟩
  · intro i9 op9 ho
    have hi : i9 < 15 := (Array.getElem?_eq_some_iff.1 ho).1
    match i9, hi with
    | 0, _ =>
      obtain rfl := Option.some.inj ho
      intro a9 wx hBx hev haf
      rw [if_pos (wanted_none rfl)]
      clear haf hev
      go_simp
      exact (C.out _).mono fun e w' ⟨he, hb⟩ => ⟨_, he, rfl, fun h => h.later hb, below_keep hBx.1 hb, hBx.2.later hb⟩
    | 1, _ =>
      obtain rfl := Option.some.inj ho
      intro a9 wx hBx hev haf
      rw [if_pos (wanted_none rfl)]
      have f1 : (a9.tmps[1]?).getD undef = (.slice (some ⟨g, o, none⟩) 2 cap) := hev 1 (by kernel_rfl)
      clear haf hev
      go_simp
      exact ⟨rfl, fun h => h, hBx⟩
    | 2, _ =>
      obtain rfl := Option.some.inj ho
      intro a9 wx hBx hev haf
      rw [if_pos (wanted_none rfl)]
      have f46 : (a9.tmps[46]?).getD undef = (.slice (some ⟨g, o, none⟩) 2 cap) := haf 0 _ rfl rfl 46 rfl
      clear haf hev
      go_simp
      exact ⟨rfl, fun h => h, hBx⟩
    | 3, _ =>
      obtain rfl := Option.some.inj ho
      intro a9 wx hBx hev haf
      rw [if_pos (wanted_none rfl)]
      have f47 : (a9.tmps[47]?).getD undef = (.pointer (some ⟨g, o, none⟩)) := haf 0 _ rfl rfl 47 rfl
      clear haf hev
      obtain ⟨k0, k1, k2, k3⟩ := (HA.out).later' hBx.1
      go_simp
      exact ⟨rfl, fun h => h, hBx⟩
    | 4, _ =>
      obtain rfl := Option.some.inj ho
      intro a9 wx hBx hev haf
      rw [if_pos (wanted_none rfl)]
      clear haf hev
      go_simp
      exact (C.out _).mono fun e w' ⟨he, hb⟩ => ⟨_, he, rfl, fun h => h.later hb, below_keep hBx.1 hb, hBx.2.later hb⟩
    | 5, _ =>
      obtain rfl := Option.some.inj ho
      intro a9 wx hBx hev haf
      rw [if_pos (wanted_none rfl)]
      have f48 : (a9.tmps[48]?).getD undef = a.v := haf 0 _ rfl rfl 48 rfl
      have f49 : (a9.tmps[49]?).getD undef = (truthV true).v := haf 1 _ rfl rfl 49 rfl
      clear haf hev
      go_simp
      rw [eq4, if_neg (show ¬ (_ = (⟨1, 1, 0, []⟩ : Va)) from ha.out)]
      exact ⟨rfl, fun h => h, hBx⟩
    | 6, _ =>
      obtain rfl := Option.some.inj ho
      intro a9 wx hBx hev haf
      rw [if_pos (wanted_none rfl)]
      have f50 : (a9.tmps[50]?).getD undef = (.bool false) := haf 0 _ rfl rfl 50 rfl
      clear haf hev
      go_simp
      exact ⟨rfl, fun h => h, hBx⟩
    | 7, _ =>
      obtain rfl := Option.some.inj ho
      intro a9 wx hBx hev haf
      have fg : (a9.tmps[51]?).getD undef = .bool false := haf 0 _ rfl rfl 51 rfl
      rw [if_pos (by rw [wanted_at (j := 6) (b := false) rfl rfl fg]; rfl)]
      have f1 : (a9.tmps[1]?).getD undef = (.slice (some ⟨g, o, none⟩) 2 cap) := hev 1 (by kernel_rfl)
      clear haf hev
      go_simp
      exact ⟨rfl, fun h => h, hBx⟩
    | 8, _ =>
      obtain rfl := Option.some.inj ho
      intro a9 wx hBx hev haf
      have fg : (a9.tmps[51]?).getD undef = .bool false := haf 1 _ rfl rfl 51 rfl
      rw [if_pos (by rw [wanted_at (j := 6) (b := false) rfl rfl fg]; rfl)]
      have f52 : (a9.tmps[52]?).getD undef = (.slice (some ⟨g, o, none⟩) 2 cap) := haf 0 _ rfl rfl 52 rfl
      clear haf hev
      go_simp
      exact ⟨rfl, fun h => h, hBx⟩
    | 9, _ =>
      obtain rfl := Option.some.inj ho
      intro a9 wx hBx hev haf
      have fg : (a9.tmps[51]?).getD undef = .bool false := haf 1 _ rfl rfl 51 rfl
      rw [if_pos (by rw [wanted_at (j := 6) (b := false) rfl rfl fg]; rfl)]
      have f53 : (a9.tmps[53]?).getD undef = (.pointer (some ⟨g, o + 4, none⟩)) := haf 0 _ rfl rfl 53 rfl
      clear haf hev
      obtain ⟨k0, k1, k2, k3⟩ := (HBb.out).later' hBx.1
      go_simp
      exact ⟨rfl, fun h => h, hBx⟩
    | 10, _ =>
      obtain rfl := Option.some.inj ho
      intro a9 wx hBx hev haf
      have fg : (a9.tmps[51]?).getD undef = .bool false := haf 0 _ rfl rfl 51 rfl
      rw [if_pos (by rw [wanted_at (j := 6) (b := false) rfl rfl fg]; rfl)]
      clear haf hev
      go_simp
      exact (C.out _).mono fun e w' ⟨he, hb⟩ => ⟨_, he, rfl, fun h => h.later hb, below_keep hBx.1 hb, hBx.2.later hb⟩
    | 11, _ =>
      obtain rfl := Option.some.inj ho
      intro a9 wx hBx hev haf
      have fg : (a9.tmps[51]?).getD undef = .bool false := haf 2 _ rfl rfl 51 rfl
      rw [if_pos (by rw [wanted_at (j := 6) (b := false) rfl rfl fg]; rfl)]
      have f54 : (a9.tmps[54]?).getD undef = b.v := haf 0 _ rfl rfl 54 rfl
      have f55 : (a9.tmps[55]?).getD undef = (truthV true).v := haf 1 _ rfl rfl 55 rfl
      clear haf hev
      go_simp
      rw [eq4, if_pos (show (_ = (⟨1, 1, 0, []⟩ : Va)) from hb9.out)]
      exact ⟨rfl, fun h => h, hBx⟩
    | 12, _ =>
      obtain rfl := Option.some.inj ho
      intro a9 wx hBx hev haf
      rw [if_pos (wanted_none rfl)]
      have f51 : (a9.tmps[51]?).getD undef = (.bool false) := haf 0 _ rfl rfl 51 rfl
      have f56 : (a9.tmps[56]?).getD undef = (.bool true) := haf 1 _ rfl rfl 56 rfl
      clear haf hev
      go_simp
      exact ⟨rfl, fun h => h, hBx⟩
    | 13, _ =>
      obtain rfl := Option.some.inj ho
      intro a9 wx hBx hev haf
      rw [if_pos (wanted_none rfl)]
      have f4 : (a9.tmps[4]?).getD undef = (.pointer (some ⟨w.heap.size, 0, none⟩)) := hev 4 (by kernel_rfl)
      have f45 : (a9.tmps[45]?).getD undef = (truthV true).v := haf 0 _ rfl rfl 45 rfl
      clear haf hev
      obtain ⟨⟨v0, k0⟩, ⟨v1, k1⟩, ⟨v2, k2⟩, ⟨v3, k3⟩, q0, q1, q2, q3⟩ := hBx.2
      go_simp
      exact ⟨(hBx.2.cells _ _ _ _).1, fun _ => (hBx.2.cells _ _ _ _).1, below_set4' hBx.1 (Nat.le_refl _), (hBx.2.cells _ _ _ _).2⟩
    | 14, _ =>
      obtain rfl := Option.some.inj ho
      intro a9 wx hBx hev haf
      rw [if_pos (wanted_none rfl)]
      have f57 : (a9.tmps[57]?).getD undef = (.bool true) := haf 0 _ rfl rfl 57 rfl
      clear haf hev
      go_simp
      exact ⟨rfl, fun h => h, hBx⟩
  · intro vals wx hBx hG
    have g0 : vals 0 = (truthV true).v := hG 0 (by decide)
    have g1 : vals 1 = (.slice (some ⟨g, o, none⟩) 2 cap) := hG 1 (by decide)
    have g2 : vals 2 = (.pointer (some ⟨g, o, none⟩)) := hG 2 (by decide)
    have g3 : vals 3 = a.v := hG 3 (by decide)
    have g4 : vals 4 = (truthV true).v := hG 4 (by decide)
    have g5 : vals 5 = (.bool false) := hG 5 (by decide)
    have g6 : vals 6 = (.bool false) := hG 6 (by decide)
    have g7 : vals 7 = (.slice (some ⟨g, o, none⟩) 2 cap) := hG 7 (by decide)
    have g8 : vals 8 = (.pointer (some ⟨g, o + 4, none⟩)) := hG 8 (by decide)
    have g9 : vals 9 = b.v := hG 9 (by decide)
    have g10 : vals 10 = (truthV true).v := hG 10 (by decide)
    have g11 : vals 11 = (.bool true) := hG 11 (by decide)
    have g12 : vals 12 = (.bool true) := hG 12 (by decide)
    have g13 := hG 13 (by decide)
    have g14 : vals 14 = (.bool true) := hG 14 (by decide)
    clear hG
    simp only [putDs, Act.put, Nat.zero_add, Nat.reduceAdd, List.setIfInBounds_toArray, List.set_cons_succ, List.set_cons_zero, g0, g1, g2, g3, g4, g5, g6, g7, g8, g9, g10, g11, g12, g14]
    clear g0 g1 g2 g3 g4 g5 g6 g7 g8 g9 g10 g11 g12 g14
    obtain ⟨r0, r1, r2, r3⟩ := g13
    go_wp2
    refine bodyPost_ret (by simp [results, Tryz.results101, go_sem, r0, r1, r2, r3]; try rfl) rfl ?_
    exact ⟨rfl, hBx.1⟩

set_option maxHeartbeats 1600000 in
set_option maxRecDepth 100000 in
theorem rspecial_20ff (a b : Va) (g o cap : Nat) (w : World) (h : VaAt w g o a) (h' : VaAt w g (o + 4) b) (ha : a ≠ truthV true) (hb9 : b ≠ truthV true) :
    Calls Tryz.prog 101 #[.int .i64 20, .slice (some ⟨g, o, none⟩) 2 cap] w (RetV (.tuple #[(truthV true).v, .bool false]) w) := by
  have HA := Lib.hid h
  have HBb := Lib.hid h'
  have ha := Lib.hid ha
  have hb9 := Lib.hid hb9
  have C := Lib.hid (fun w1 => truth9_any true w1)
  have hr := ResV.made w 45
  obtain ⟨W, hW⟩ : ∃ W, W = w.alloc (.cells #[.int .i64 0, .int .i64 0, .int .i64 0, .string ⟨#[]⟩] 45) := ⟨_, rfl⟩
  rw [← hW] at hr
  have hB : Below w.heap.size w W := by rw [hW]; exact below_alloc _ _
  have HBW := Lib.hid hB
  have HRD : Hid (ResV W.drew w.heap.size) := ⟨⟨hr.box.kind, hr.box.num, hr.box.den, hr.box.str⟩, hr.f0, hr.f1, hr.f2, hr.f3⟩
  rename_i ha' hb9'
  clear h h' hr hB ha' hb9'
  go_enter Tryz.func101, Tryz.ntmps101
  go_wp2_with fail
  rw [← hW]
  clear hW
  refine wp_region_list [.val (truthV true).v, .val (.slice (some ⟨g, o, none⟩) 2 cap), .val (.pointer (some ⟨g, o, none⟩)), .val a.v, .val (truthV true).v, .val (.bool false), .val (.bool false), .val (.slice (some ⟨g, o, none⟩) 2 cap), .val (.pointer (some ⟨g, o + 4, none⟩)), .val b.v, .val (truthV true).v, .val (.bool false), .val (.bool false), .holds (fun _ w' => CelV w' w.heap.size (.int .i64 1) (.int .i64 1) (.int .i64 0) (.string ⟨#[]⟩)), .val (.bool false)]
    [some 45, some 46, some 47, some 48, some 49, some 50, some 51, some 52, some 53, some 54, some 55, some 56, some 57, none, some 5]
    (fun w' => Below w.heap.size w w' ∧ RvAt w' w.heap.size) (fun w1 w2 => CelV w1 w.heap.size (.int .i64 1) (.int .i64 1) (.int .i64 0) (.string ⟨#[]⟩) → CelV w2 w.heap.size (.int .i64 1) (.int .i64 1) (.int .i64 0) (.string ⟨#[]⟩)) rfl (by kernel_rfl) (by kernel_rfl) (by kernel_rfl) (by kernel_rfl) ?_ ?_ ?_ ?_
  · (intro y hy v w1 w2 hs hv; simp only [List.mem_cons, List.not_mem_nil, or_false] at hy; rcases hy with rfl | rfl | rfl | rfl | rfl | rfl | rfl | rfl | rfl | rfl | rfl | rfl | rfl | rfl | rfl; all_goals first | exact hv | exact hs hv)
  · exact ⟨HBW.out.drew, RvAt.of HRD.out⟩
  · intro i9 op9 ho
    have hi : i9 < 15 := (Array.getElem?_eq_some_iff.1 ho).1
    match i9, hi with
    | 0, _ =>
      obtain rfl := Option.some.inj ho
      intro a9 wx hBx hev haf
      rw [if_pos (wanted_none rfl)]
      clear haf hev
      go_simp
      exact (C.out _).mono fun e w' ⟨he, hb⟩ => ⟨_, he, rfl, fun h => h.later hb, below_keep hBx.1 hb, hBx.2.later hb⟩
    | 1, _ =>
      obtain rfl := Option.some.inj ho
      intro a9 wx hBx hev haf
      rw [if_pos (wanted_none rfl)]
      have f1 : (a9.tmps[1]?).getD undef = (.slice (some ⟨g, o, none⟩) 2 cap) := hev 1 (by kernel_rfl)
      clear haf hev
      go_simp
      exact ⟨rfl, fun h => h, hBx⟩
    | 2, _ =>
      obtain rfl := Option.some.inj ho
      intro a9 wx hBx hev haf
      rw [if_pos (wanted_none rfl)]
      have f46 : (a9.tmps[46]?).getD undef = (.slice (some ⟨g, o, none⟩) 2 cap) := haf 0 _ rfl rfl 46 rfl
      clear haf hev
      go_simp
      exact ⟨rfl, fun h => h, hBx⟩
    | 3, _ =>
      obtain rfl := Option.some.inj ho
      intro a9 wx hBx hev haf
      rw [if_pos (wanted_none rfl)]
      have f47 : (a9.tmps[47]?).getD undef = (.pointer (some ⟨g, o, none⟩)) := haf 0 _ rfl rfl 47 rfl
      clear haf hev
      obtain ⟨k0, k1, k2, k3⟩ := (HA.out).later' hBx.1
      go_simp
      exact ⟨rfl, fun h => h, hBx⟩
    | 4, _ =>
      obtain rfl := Option.some.inj ho
      intro a9 wx hBx hev haf
      rw [if_pos (wanted_none rfl)]
      clear haf hev
      go_simp
      exact (C.out _).mono fun e w' ⟨he, hb⟩ => ⟨_, he, rfl, fun h => h.later hb, below_keep hBx.1 hb, hBx.2.later hb⟩
    | 5, _ =>
      obtain rfl := Option.some.inj ho
      intro a9 wx hBx hev haf
      rw [if_pos (wanted_none rfl)]
      have f48 : (a9.tmps[48]?).getD undef = a.v := haf 0 _ rfl rfl 48 rfl
      have f49 : (a9.tmps[49]?).getD undef = (truthV true).v := haf 1 _ rfl rfl 49 rfl
      clear haf hev
      go_simp
      rw [eq4, if_neg (show ¬ (_ = (⟨1, 1, 0, []⟩ : Va)) from ha.out)]
      exact ⟨rfl, fun h => h, hBx⟩
    | 6, _ =>
      obtain rfl := Option.some.inj ho
      intro a9 wx hBx hev haf
      rw [if_pos (wanted_none rfl)]
      have f50 : (a9.tmps[50]?).getD undef = (.bool false) := haf 0 _ rfl rfl 50 rfl
      clear haf hev
      go_simp
      exact ⟨rfl, fun h => h, hBx⟩
    | 7, _ =>
      obtain rfl := Option.some.inj ho
      intro a9 wx hBx hev haf
      have fg : (a9.tmps[51]?).getD undef = .bool false := haf 0 _ rfl rfl 51 rfl
      rw [if_pos (by rw [wanted_at (j := 6) (b := false) rfl rfl fg]; rfl)]
      have f1 : (a9.tmps[1]?).getD undef = (.slice (some ⟨g, o, none⟩) 2 cap) := hev 1 (by kernel_rfl)
      clear haf hev
      go_simp
      exact ⟨rfl, fun h => h, hBx⟩
    | 8, _ =>
      obtain rfl := Option.some.inj ho
      intro a9 wx hBx hev haf
      have fg : (a9.tmps[51]?).getD undef = .bool false := haf 1 _ rfl rfl 51 rfl
      rw [if_pos (by rw [wanted_at (j := 6) (b := false) rfl rfl fg]; rfl)]
      have f52 : (a9.tmps[52]?).getD undef = (.slice (some ⟨g, o, none⟩) 2 cap) := haf 0 _ rfl rfl 52 rfl
      clear haf hev
      go_simp
      exact ⟨rfl, fun h => h, hBx⟩
    | 9, _ =>
      obtain rfl := Option.some.inj ho
      intro a9 wx hBx hev haf
      have fg : (a9.tmps[51]?).getD undef = .bool false := haf 1 _ rfl rfl 51 rfl
      rw [if_pos (by rw [wanted_at (j := 6) (b := false) rfl rfl fg]; rfl)]
      have f53 : (a9.tmps[53]?).getD undef = (.pointer (some ⟨g, o + 4, none⟩)) := haf 0 _ rfl rfl 53 rfl
      clear haf hev
      obtain ⟨k0, k1, k2, k3⟩ := (HBb.out).later' hBx.1
      go_simp
      exact ⟨rfl, fun h => h, hBx⟩
    | 10, _ =>
      obtain rfl := Option.some.inj ho
      intro a9 wx hBx hev haf
      have fg : (a9.tmps[51]?).getD undef = .bool false := haf 0 _ rfl rfl 51 rfl
      rw [if_pos (by rw [wanted_at (j := 6) (b := false) rfl rfl fg]; rfl)]
      clear haf hev
      go_simp
      exact (C.out _).mono fun e w' ⟨he, hb⟩ => ⟨_, he, rfl, fun h => h.later hb, below_keep hBx.1 hb, hBx.2.later hb⟩
    | 11, _ =>
      obtain rfl := Option.some.inj ho
      intro a9 wx hBx hev haf
      have fg : (a9.tmps[51]?).getD undef = .bool false := haf 2 _ rfl rfl 51 rfl
      rw [if_pos (by rw [wanted_at (j := 6) (b := false) rfl rfl fg]; rfl)]
      have f54 : (a9.tmps[54]?).getD undef = b.v := haf 0 _ rfl rfl 54 rfl
      have f55 : (a9.tmps[55]?).getD undef = (truthV true).v := haf 1 _ rfl rfl 55 rfl
      clear haf hev
      go_simp
      rw [eq4, if_neg (show ¬ (_ = (⟨1, 1, 0, []⟩ : Va)) from hb9.out)]
      exact ⟨rfl, fun h => h, hBx⟩
    | 12, _ =>
      obtain rfl := Option.some.inj ho
      intro a9 wx hBx hev haf
      rw [if_pos (wanted_none rfl)]
      have f51 : (a9.tmps[51]?).getD undef = (.bool false) := haf 0 _ rfl rfl 51 rfl
      have f56 : (a9.tmps[56]?).getD undef = (.bool false) := haf 1 _ rfl rfl 56 rfl
      clear haf hev
      go_simp
      exact ⟨rfl, fun h => h, hBx⟩
    | 13, _ =>
      obtain rfl := Option.some.inj ho
      intro a9 wx hBx hev haf
      rw [if_pos (wanted_none rfl)]
      have f4 : (a9.tmps[4]?).getD undef = (.pointer (some ⟨w.heap.size, 0, none⟩)) := hev 4 (by kernel_rfl)
      have f45 : (a9.tmps[45]?).getD undef = (truthV true).v := haf 0 _ rfl rfl 45 rfl
      clear haf hev
      obtain ⟨⟨v0, k0⟩, ⟨v1, k1⟩, ⟨v2, k2⟩, ⟨v3, k3⟩, q0, q1, q2, q3⟩ := hBx.2
      go_simp
      exact ⟨(hBx.2.cells _ _ _ _).1, fun _ => (hBx.2.cells _ _ _ _).1, below_set4' hBx.1 (Nat.le_refl _), (hBx.2.cells _ _ _ _).2⟩
    | 14, _ =>
      obtain rfl := Option.some.inj ho
      intro a9 wx hBx hev haf
      rw [if_pos (wanted_none rfl)]
      have f57 : (a9.tmps[57]?).getD undef = (.bool false) := haf 0 _ rfl rfl 57 rfl
      clear haf hev
      go_simp
      exact ⟨rfl, fun h => h, hBx⟩
  · intro vals wx hBx hG
    have g0 : vals 0 = (truthV true).v := hG 0 (by decide)
    have g1 : vals 1 = (.slice (some ⟨g, o, none⟩) 2 cap) := hG 1 (by decide)
    have g2 : vals 2 = (.pointer (some ⟨g, o, none⟩)) := hG 2 (by decide)
    have g3 : vals 3 = a.v := hG 3 (by decide)
    have g4 : vals 4 = (truthV true).v := hG 4 (by decide)
    have g5 : vals 5 = (.bool false) := hG 5 (by decide)
    have g6 : vals 6 = (.bool false) := hG 6 (by decide)
    have g7 : vals 7 = (.slice (some ⟨g, o, none⟩) 2 cap) := hG 7 (by decide)
    have g8 : vals 8 = (.pointer (some ⟨g, o + 4, none⟩)) := hG 8 (by decide)
    have g9 : vals 9 = b.v := hG 9 (by decide)
    have g10 : vals 10 = (truthV true).v := hG 10 (by decide)
    have g11 : vals 11 = (.bool false) := hG 11 (by decide)
    have g12 : vals 12 = (.bool false) := hG 12 (by decide)
    have g13 := hG 13 (by decide)
    have g14 : vals 14 = (.bool false) := hG 14 (by decide)
    clear hG
    simp only [putDs, Act.put, Nat.zero_add, Nat.reduceAdd, List.setIfInBounds_toArray, List.set_cons_succ, List.set_cons_zero, g0, g1, g2, g3, g4, g5, g6, g7, g8, g9, g10, g11, g12, g14]
    clear g0 g1 g2 g3 g4 g5 g6 g7 g8 g9 g10 g11 g12 g14
    obtain ⟨r0, r1, r2, r3⟩ := g13
    go_wp2
    refine bodyPost_ret (by simp [results, Tryz.results101, go_sem, r0, r1, r2, r3]; try rfl) rfl ?_
    exact ⟨rfl, hBx.1⟩

end Go.Proofs.YtemhidlaaommaaaGreatDoor
