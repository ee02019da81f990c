/- Arguments of the laws of space as they are read: cubes. -/
import Derived.Test.YtkliekoheeeamaaGreatDoorS32
import Derived.Test.YtkliekoheeeamaaGreatDoorS52
namespace Go.Proofs.YtkliekoheeeamaaGreatDoor
open Go.RowKit Go.Deep Go.WideShapes Go.ChangeShapes

section
variable {H : Type} {enc : TypeId × Value → H} {w : World} {base : Nat} {spare : Nat → Bool} {held : Bool}
theorem open_i8s {fuel : Nat} {cs : List Value} {x : DataW H × List MemPlace} (h : DataW.trod enc Tryz.prog w base spare held fuel 41 cs = some x) :
  ∃ v l, cs = [v] ∧ I8s w v l ∧ ∀ n ∈ l, -128 ≤ n ∧ n ≤ 127 :=
 open_ls Tryz.underlying41 (by kernel_rfl) (fun fuel cs x a h1 h2 => by
  obtain ⟨n, rfl, -, hw⟩ := DataW.trod_int Tryz.underlying94 h2
  obtain ⟨g, o, rfl, -, hc⟩ := cells_at (k := 0) h1
  exact ⟨n, bounds_i8 hw, g, o, rfl, hc 0 (by simp)⟩) h
theorem open_u8' {fuel : Nat} {cs : List Value} {x : DataW H × List MemPlace} (h : DataW.trod enc Tryz.prog w base spare held fuel 5 cs = some x) :
  ∃ n, cs = [.int .u8 n] ∧ 0 ≤ n ∧ n ≤ 255 := by
 obtain ⟨n, rfl, -, hw⟩ := DataW.trod_int Tryz.underlying5 h
 exact ⟨n, rfl, bounds_u8 hw⟩
set_option maxRecDepth 100000 in
theorem open_four {fuel : Nat} {cs : List Value} {x : DataW H × List MemPlace} (h : DataW.trod enc Tryz.prog w base spare held fuel 42 cs = some x) :
  ∃ a b c d, cs = [.int .u8 a, .int .u8 b, .int .u8 c, .int .u8 d] ∧ (0 ≤ a ∧ a ≤ 255) ∧ (0 ≤ b ∧ b ≤ 255) ∧ (0 ≤ c ∧ c ≤ 255) ∧ (0 ≤ d ∧ d ≤ 255) := by
 obtain ⟨xs, m, -, -, hl, hxl, hf⟩ := DataW.trod_array Tryz.underlying42 h
 have c4 : Tryz.prog.cellsOf 42 = 4 := by kernel_rfl
 have ci : Tryz.prog.cellsOf 5 = 1 := by kernel_rfl
 rw [c4] at hl
 match cs, hl with
 | [v0, v1, v2, v3], _ =>
  have f0 := hf 0 (by decide)
  have f1 := hf 1 (by decide)
  have f2 := hf 2 (by decide)
  have f3 := hf 3 (by decide)
  simp only [ci, Nat.mul_one, List.drop_zero, List.drop_succ_cons, List.take_succ_cons, List.take_zero] at f0 f1 f2 f3
  rw [List.getElem?_eq_getElem (by omega)] at f0 f1 f2 f3
  obtain ⟨n0, e0, w0⟩ := open_u8' f0
  obtain ⟨n1, e1, w1⟩ := open_u8' f1
  obtain ⟨n2, e2, w2⟩ := open_u8' f2
  obtain ⟨n3, e3, w3⟩ := open_u8' f3
  cases e0
  cases e1
  cases e2
  cases e3
  exact ⟨_, _, _, _, rfl, w0, w1, w2, w3⟩
set_option maxRecDepth 100000 in
theorem open_cube {fuel : Nat} {cs : List Value} {x : DataW H × List MemPlace} (h : DataW.trod enc Tryz.prog w base spare held fuel 44 cs = some x) :
  ∃ v y, cs = [v, .int .u8 y.s0, .int .u8 y.s1, .int .u8 y.s2, .int .u8 y.s3] ∧ I8s w v y.lo ∧ CubG y := by
 obtain ⟨xs, n, -, -, hl, hxl, hf⟩ := DataW.trod_struct Tryz.underlying44 h
 have c5 : Tryz.prog.cellsOf 44 = 5 := by kernel_rfl
 have ci : Tryz.prog.cellsOf 42 = 4 := by kernel_rfl
 have cl : Tryz.prog.cellsOf 41 = 1 := by kernel_rfl
 rw [c5] at hl
 have hx2 : xs.length = 2 := hxl
 match cs, hl with
 | [v0, v1, v2, v3, v4], _ =>
  have f0 := hf 0 ⟨"Lo", 41, 0, false, "", "", 0⟩ rfl
  have f1 := hf 1 ⟨"Side", 42, 1, false, "", "", 24⟩ rfl
  rw [cl] at f0
  rw [ci] at f1
  simp only [List.drop_zero, List.drop_succ_cons, List.take_succ_cons, List.take_zero] at f0 f1
  rw [List.getElem?_eq_getElem (by omega)] at f0 f1
  obtain ⟨u0, l0, e0, q0, w0⟩ := open_i8s f0
  obtain ⟨a, b, c, d, e1, wa, wb, wc, wd⟩ := open_four f1
  cases e0
  cases e1
  refine ⟨_, ⟨l0, a, b, c, d⟩, rfl, q0, w0, fun s hs => ?_⟩
  simp only [CubT.sd, List.mem_cons, List.not_mem_nil, or_false] at hs
  rcases hs with rfl | rfl | rfl | rfl
  ·exact wa
  ·exact wb
  ·exact wc
  ·exact wd
end
end Go.Proofs.YtkliekoheeeamaaGreatDoor
