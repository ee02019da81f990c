/- Arguments of the laws of space as they are read: boxes, layouts, pairs of lists. -/
import Derived.Test.YtpdhlgkcjakcgaaGreatDoorOpenS
namespace Go.Proofs.YtpdhlgkcjakcgaaGreatDoor
open Go.RowKit Go.Deep Go.WideShapes Go.ChangeShapes

structure BoxW (b : List Int × List Int) : Prop where
  lo : ∀ n ∈ b.1, I64 n
  hi : ∀ n ∈ b.2, I64 n
structure LayW (l : LayT) : Prop where
  sides : ∀ n ∈ l.sides, I64 n
  over : ∀ n ∈ l.over, I64 n
  order : I64 l.order
  tile : I64 l.tile
  form : I64 l.form
  codec : I64 l.codec
section
variable {H : Type} {enc : TypeId × Value → H} {w : World} {base : Nat} {spare : Nat → Bool} {held : Bool}
set_option maxRecDepth 100000 in
theorem open_box {fuel : Nat} {cs : List Value} {x : DataW H × List MemPlace} (h : DataW.trod enc Tryz.prog w base spare held fuel 52 cs = some x) :
    ∃ vl vh, ∃ y : List Int × List Int, cs = [vl, vh] ∧ (Ints w vl y.1 ∧ Ints w vh y.2) ∧ BoxW y := by
  obtain ⟨y0, y1, n, -, hl, f0, f1⟩ := trod_struct2 Tryz.underlying52 h
  have c2 : Tryz.prog.cellsOf 52 = 2 := by kernel_rfl
  have ci : Tryz.prog.cellsOf 38 = 1 := by kernel_rfl
  rw [c2] at hl
  match cs, hl with
  | [v0, v1], _ =>
    simp only [ci, List.drop_zero, List.drop_succ_cons, List.take_succ_cons, List.take_zero] at f0 f1
    obtain ⟨u0, l0, e0, q0, w0⟩ := open_ints f0
    obtain ⟨u1, l1, e1, q1, w1⟩ := open_ints f1
    cases e0
    cases e1
    exact ⟨_, _, (l0, l1), rfl, ⟨q0, q1⟩, w0, w1⟩
set_option maxRecDepth 100000 in
theorem open_layout {fuel : Nat} {cs : List Value} {x : DataW H × List MemPlace} (h : DataW.trod enc Tryz.prog w base spare held fuel 40 cs = some x) :
    ∃ vs vo y, cs = [vs, vo, .int .i64 y.order, .int .i64 y.tile, .int .i64 y.form, .int .i64 y.codec] ∧ LayR w vs vo y ∧ LayW y := by
  obtain ⟨xs, n, -, -, hl, hxl, hf⟩ := DataW.trod_struct Tryz.underlying40 h
  have c6 : Tryz.prog.cellsOf 40 = 6 := by kernel_rfl
  have ci : Tryz.prog.cellsOf 3 = 1 := by kernel_rfl
  have cl : Tryz.prog.cellsOf 38 = 1 := by kernel_rfl
  rw [c6] at hl
  have hx6 : xs.length = 6 := hxl
  match cs, hl with
  | [v0, v1, v2, v3, v4, v5], _ =>
    have f0 := hf 0 ⟨"Sides", 38, 0, false, "", "", 0⟩ rfl
    have f1 := hf 1 ⟨"Overlap", 38, 1, false, "", "", 24⟩ rfl
    have f2 := hf 2 ⟨"Order", 3, 2, false, "", "", 48⟩ rfl
    have f3 := hf 3 ⟨"Tile", 3, 3, false, "", "", 56⟩ rfl
    have f4 := hf 4 ⟨"Form", 3, 4, false, "", "", 64⟩ rfl
    have f5 := hf 5 ⟨"Codec", 3, 5, false, "", "", 72⟩ rfl
    rw [cl] at f0 f1
    rw [ci] at f2 f3 f4 f5
    simp only [List.drop_zero, List.drop_succ_cons, List.take_succ_cons, List.take_zero] at f0 f1 f2 f3 f4 f5
    rw [List.getElem?_eq_getElem (by omega)] at f0 f1 f2 f3 f4 f5
    obtain ⟨u0, l0, e0, q0, w0⟩ := open_ints f0
    obtain ⟨u1, l1, e1, q1, w1⟩ := open_ints f1
    obtain ⟨n2, e2, w2⟩ := open_int' Tryz.underlying3 f2
    obtain ⟨n3, e3, w3⟩ := open_int' Tryz.underlying3 f3
    obtain ⟨n4, e4, w4⟩ := open_int' Tryz.underlying3 f4
    obtain ⟨n5, e5, w5⟩ := open_int' Tryz.underlying3 f5
    cases e0
    cases e1
    cases e2
    cases e3
    cases e4
    cases e5
    exact ⟨_, _, ⟨l0, l1, n2, n3, n4, n5⟩, rfl, ⟨q0, q1⟩, w0, w1, w2, w3, w4, w5⟩
end
end Go.Proofs.YtpdhlgkcjakcgaaGreatDoor
