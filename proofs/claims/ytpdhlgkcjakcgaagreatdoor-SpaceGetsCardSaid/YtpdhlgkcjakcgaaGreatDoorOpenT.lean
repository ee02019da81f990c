/- Arguments of the laws of space as they are read: a pair of lists. -/
import Derived.Test.YtpdhlgkcjakcgaaGreatDoorOpenS
namespace Go.Proofs.YtpdhlgkcjakcgaaGreatDoor
open Go.RowKit Go.Deep Go.WideShapes Go.ChangeShapes

theorem okWide_array {t e : TypeId} {n : Nat} {P : Program} {W : World} {r : Reach} {base : Nat} {v : Value} (ht : P.underlying t = some (.array n e)) (h : Value.okWide P W r base t v) : ∃ cs, v = .agg cs ∧ cs.size = P.cellsOf t := by
  simp only [Value.okWide, ht] at h
  obtain ⟨cs, h1, h2, _⟩ := h
  exact ⟨cs, h1, h2⟩
section
variable {H : Type} {enc : TypeId × Value → H} {w : World} {base : Nat} {spare : Nat → Bool} {held : Bool}
structure TwoW (b : List Int × List Int) : Prop where
  lo : ∀ n ∈ b.1, I64 n
  hi : ∀ n ∈ b.2, I64 n
set_option maxRecDepth 100000 in
theorem open_two {fuel : Nat} {cs : List Value} {x : DataW H × List MemPlace} (h : DataW.trod enc Tryz.prog w base spare held fuel 41 cs = some x) :
    ∃ vl vh, ∃ y : List Int × List Int, cs = [vl, vh] ∧ (Ints w vl y.1 ∧ Ints w vh y.2) ∧ TwoW y := by
  obtain ⟨xs, m, -, -, hl, hxl, hf⟩ := DataW.trod_array Tryz.underlying41 h
  have c2 : Tryz.prog.cellsOf 41 = 2 := by kernel_rfl
  have ci : Tryz.prog.cellsOf 38 = 1 := by kernel_rfl
  rw [c2] at hl
  match cs, hl with
  | [v0, v1], _ =>
    have f0 := hf 0 (by decide)
    have f1 := hf 1 (by decide)
    simp only [ci, Nat.zero_mul, Nat.one_mul, List.drop_zero, List.drop_succ_cons, List.take_succ_cons, List.take_zero] at f0 f1
    rw [List.getElem?_eq_getElem (by omega)] at f0 f1
    obtain ⟨u0, l0, e0, q0, w0⟩ := open_ints f0
    obtain ⟨u1, l1, e1, q1, w1⟩ := open_ints f1
    cases e0
    cases e1
    exact ⟨_, _, (l0, l1), rfl, ⟨q0, q1⟩, w0, w1⟩
end
end Go.Proofs.YtpdhlgkcjakcgaaGreatDoor
