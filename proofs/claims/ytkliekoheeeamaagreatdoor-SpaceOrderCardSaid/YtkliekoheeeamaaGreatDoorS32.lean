/- Lemmas and contracts, each under its own condition: Arguments of the laws of space as they are read: dimensions, attributes, cells, arrays, layouts, boxes, databases. Arguments of the laws of space as they are read: boxes, layouts, pairs of lists. -/
import Derived.OpenShut
import Derived.Deep.Slices
import Derived.Deep.Strs
import Derived.Test.YtkliekoheeeamaaGreatDoorS5
import Derived.Test.YtkliekoheeeamaaGreatDoorS6
/- Arguments of the laws of space as they are read: dimensions, attributes, cells, arrays, layouts, boxes, databases. -/
namespace Go.Proofs.YtkliekoheeeamaaGreatDoor
open Go.RowKit Go.Deep Go.WideShapes Go.ChangeShapes

structure I64 (n : Int) : Prop where
 lo : -9223372036854775808 ≤ n
 hi : n ≤ 9223372036854775807
theorem I64.of {n : Int} (h : (Lit.int .i64 n).wf = true) : I64 n := ⟨(bounds_i64 h).1, (bounds_i64 h).2⟩
instance : Inhabited Va := ⟨zeroV⟩
instance : Inhabited DimT := ⟨⟨[], 0, 0⟩⟩
instance : Inhabited AttrT := ⟨⟨[], 0⟩⟩
instance : Inhabited CellT := ⟨⟨[], []⟩⟩
theorem spot_none {w : World} {a : Addr} {v : Value} (h : w.cell? a = some v) : a.spot = none := by
 unfold World.cell? at h
 cases hsp : a.spot with
 | none => rfl
 | some x =>
  rw [hsp] at h
  split at h
  ·simp at h
  ·cases h

section
variable {H : Type} {enc : TypeId × Value → H} {w : World} {base : Nat} {spare : Nat → Bool} {held : Bool}

/-- a slice whose elements are read by 'step' -/
theorem open_ls {α : Type} [Inhabited α] {k : Nat} {Rd : World → Nat → Nat → α → Prop} {P : α → Prop} {T E : TypeId} (hu : Tryz.prog.underlying T = some (.slice E)) (hk : Tryz.prog.cellsOf E = k)
  (step : ∀ (fuel : Nat) (cs : List Value) (x : DataW H × List MemPlace) (a : Addr), w.cells? base a k = some cs → DataW.trod enc Tryz.prog w base spare held fuel E cs = some x → ∃ y, P y ∧ ∃ g o, a = ⟨g, o, none⟩ ∧ Rd w g o y)
  {fuel : Nat} {cs : List Value} {x : DataW H × List MemPlace} (h : DataW.trod enc Tryz.prog w base spare held fuel T cs = some x) :
  ∃ v l, cs = [v] ∧ Ls k Rd w v l ∧ (∀ y ∈ l, P y) := by
 rcases open_slice hu h with ⟨rfl, -⟩ | ⟨a, len, cap, m, n, D, Pl, rfl, -, hl, hm, hmm, -, hx⟩
 ·exact ⟨_, [], rfl, Ls.nil _ _ _ (by omega), fun _ h => by simp at h⟩
 ·have hlm : len ≤ m := by rw [hmm]; split <;> omega
  unfold maxLen at hm
  have key : ∀ i, i < len → ∃ y : α, P y ∧ ∃ g o, a.add (i * k) = ⟨g, o, none⟩ ∧ Rd w g o y := by
   intro i hi
   obtain ⟨cs', h1, h2⟩ := hx i (by omega)
   rw [hk] at h1
   exact step _ _ _ _ h1 h2
  by_cases h0 : len = 0
  ·subst h0
   exact ⟨_, [], rfl, Ls.nil _ _ _ hm, fun _ h => by simp at h⟩
  ·obtain ⟨y, hy⟩ := choose_lt (α := α) key
   obtain ⟨g, o, s⟩ := a
   obtain rfl : s = none := by
    obtain ⟨-, g', o', e, -⟩ := hy 0 (by omega)
    rw [Nat.zero_mul] at e
    cases s with
    | none => rfl
    | some s => simp [Addr.add] at e
   refine ⟨_, (List.range len).map y, rfl, ⟨some ⟨g, o, none⟩, cap, by simp, by simpa using hl, hm, fun _ => ⟨g, o, rfl, fun i z hz => ?_⟩⟩, fun z hz => ?_⟩
   ·rw [List.getElem?_map] at hz
    by_cases hi : i < len
    ·rw [List.getElem?_range hi] at hz
     simp only [Option.map_some, Option.some.injEq] at hz
     subst hz
     obtain ⟨-, g', o', e, hr⟩ := hy i hi
     rw [Addr.add_mid] at e
     injection e with e1 e2
     subst e1 e2
     exact hr
    ·rw [List.getElem?_eq_none (by simpa using hi)] at hz; simp at hz
   ·rw [List.mem_map] at hz
    obtain ⟨i, hi, rfl⟩ := hz
    exact (hy i (by simpa using hi)).1

/-- the cells of an element, where they lie -/
theorem cells_at {k : Nat} {a : Addr} {cs : List Value} (h : w.cells? base a (k + 1) = some cs) :
  ∃ g o, a = ⟨g, o, none⟩ ∧ cs.length = k + 1 ∧ ∀ i (hi : i < cs.length), w.cell? ⟨g, o + i, none⟩ = some cs[i] := by
 obtain ⟨_, hlen, hcell⟩ := World.cells?_some h
 have k0 := hcell 0 (by omega)
 obtain ⟨g, o, s⟩ := a
 have hs : (⟨g, o, s⟩ : Addr).spot = none := spot_none (v := cs[0]) (by rw [List.getElem?_eq_getElem (by omega)] at k0; simpa [Addr.add] using k0)
 simp only at hs
 subst hs
 refine ⟨g, o, rfl, hlen, fun i hi => ?_⟩
 have := hcell i (by omega)
 rw [Addr.add_mid] at this
 rw [this, List.getElem?_eq_getElem hi]

theorem open_int' {T : TypeId} (hu : Tryz.prog.underlying T = some (.int .i64)) {fuel : Nat} {cs : List Value} {x : DataW H × List MemPlace} (h : DataW.trod enc Tryz.prog w base spare held fuel T cs = some x) :
  ∃ n, cs = [.int .i64 n] ∧ I64 n := by
 obtain ⟨n, rfl, -, hw⟩ := DataW.trod_int hu h
 exact ⟨n, rfl, I64.of hw⟩
theorem open_ints {fuel : Nat} {cs : List Value} {x : DataW H × List MemPlace} (h : DataW.trod enc Tryz.prog w base spare held fuel 24 cs = some x) :
  ∃ v l, cs = [v] ∧ Ints w v l ∧ ∀ n ∈ l, I64 n :=
 open_ls Tryz.underlying24 (by kernel_rfl) (fun fuel cs x a h1 h2 => by
  obtain ⟨n, rfl, hw⟩ := open_int' Tryz.underlying3 h2
  obtain ⟨g, o, rfl, -, hc⟩ := cells_at (k := 0) h1
  exact ⟨n, hw, g, o, rfl, hc 0 (by simp)⟩) h
end
end Go.Proofs.YtkliekoheeeamaaGreatDoor
/- Arguments of the laws of space as they are read: boxes, layouts, pairs of lists. -/
namespace Go.Proofs.YtkliekoheeeamaaGreatDoor
open Go.RowKit Go.Deep Go.WideShapes Go.ChangeShapes

structure BoxW (b : List Int × List Int) : Prop where
 lo : ∀ n ∈ b.1, I64 n
 hi : ∀ n ∈ b.2, I64 n
structure LayW (l : LayT) : Prop where
 sides : ∀ n ∈ l.sides, I64 n
 over : ∀ n ∈ l.over, I64 n
 order : I64 l.order
 tile : I64 l.tile
 form : I64 l.form
 codec : I64 l.codec
section
variable {H : Type} {enc : TypeId × Value → H} {w : World} {base : Nat} {spare : Nat → Bool} {held : Bool}
set_option maxRecDepth 100000 in
theorem open_box {fuel : Nat} {cs : List Value} {x : DataW H × List MemPlace} (h : DataW.trod enc Tryz.prog w base spare held fuel 26 cs = some x) :
  ∃ vl vh, ∃ y : List Int × List Int, cs = [vl, vh] ∧ (Ints w vl y.1 ∧ Ints w vh y.2) ∧ BoxW y := by
 obtain ⟨y0, y1, n, -, hl, f0, f1⟩ := trod_struct2 Tryz.underlying26 h
 have c2 : Tryz.prog.cellsOf 26 = 2 := by kernel_rfl
 have ci : Tryz.prog.cellsOf 24 = 1 := by kernel_rfl
 rw [c2] at hl
 match cs, hl with
 | [v0, v1], _ =>
  simp only [ci, List.drop_zero, List.drop_succ_cons, List.take_succ_cons, List.take_zero] at f0 f1
  obtain ⟨u0, l0, e0, q0, w0⟩ := open_ints f0
  obtain ⟨u1, l1, e1, q1, w1⟩ := open_ints f1
  cases e0
  cases e1
  exact ⟨_, _, (l0, l1), rfl, ⟨q0, q1⟩, w0, w1⟩
set_option maxRecDepth 100000 in
theorem open_layout {fuel : Nat} {cs : List Value} {x : DataW H × List MemPlace} (h : DataW.trod enc Tryz.prog w base spare held fuel 32 cs = some x) :
  ∃ vs vo y, cs = [vs, vo, .int .i64 y.order, .int .i64 y.tile, .int .i64 y.form, .int .i64 y.codec] ∧ LayR w vs vo y ∧ LayW y := by
 obtain ⟨xs, n, -, -, hl, hxl, hf⟩ := DataW.trod_struct Tryz.underlying32 h
 have c6 : Tryz.prog.cellsOf 32 = 6 := by kernel_rfl
 have ci : Tryz.prog.cellsOf 3 = 1 := by kernel_rfl
 have cl : Tryz.prog.cellsOf 24 = 1 := by kernel_rfl
 rw [c6] at hl
 have hx6 : xs.length = 6 := hxl
 match cs, hl with
 | [v0, v1, v2, v3, v4, v5], _ =>
  have f0 := hf 0 ⟨"Sides", 24, 0, false, "", "", 0⟩ rfl
  have f1 := hf 1 ⟨"Overlap", 24, 1, false, "", "", 24⟩ rfl
  have f2 := hf 2 ⟨"Order", 3, 2, false, "", "", 48⟩ rfl
  have f3 := hf 3 ⟨"Tile", 3, 3, false, "", "", 56⟩ rfl
  have f4 := hf 4 ⟨"Form", 3, 4, false, "", "", 64⟩ rfl
  have f5 := hf 5 ⟨"Codec", 3, 5, false, "", "", 72⟩ rfl
  rw [cl] at f0 f1
  rw [ci] at f2 f3 f4 f5
  simp only [List.drop_zero, List.drop_succ_cons, List.take_succ_cons, List.take_zero] at f0 f1 f2 f3 f4 f5
  rw [List.getElem?_eq_getElem (by omega)] at f0 f1 f2 f3 f4 f5
  obtain ⟨u0, l0, e0, q0, w0⟩ := open_ints f0
  obtain ⟨u1, l1, e1, q1, w1⟩ := open_ints f1
  obtain ⟨n2, e2, w2⟩ := open_int' Tryz.underlying3 f2
  obtain ⟨n3, e3, w3⟩ := open_int' Tryz.underlying3 f3
  obtain ⟨n4, e4, w4⟩ := open_int' Tryz.underlying3 f4
  obtain ⟨n5, e5, w5⟩ := open_int' Tryz.underlying3 f5
  cases e0
  cases e1
  cases e2
  cases e3
  cases e4
  cases e5
  exact ⟨_, _, ⟨l0, l1, n2, n3, n4, n5⟩, rfl, ⟨q0, q1⟩, w0, w1, w2, w3, w4, w5⟩
end
end Go.Proofs.YtkliekoheeeamaaGreatDoor
