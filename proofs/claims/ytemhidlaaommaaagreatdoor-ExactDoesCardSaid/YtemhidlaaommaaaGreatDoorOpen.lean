/- Arguments as they are read: values, slices of values, slices of integers. -/
import Derived.OpenShut
import Derived.Deep.Slices
import Derived.Test.YtemhidlaaommaaaGreatDoorW1
namespace Go.Proofs.YtemhidlaaommaaaGreatDoor
open Go.RowKit Go.Deep Go.WideShapes

structure I64 (n : Int) : Prop where
  lo : -9223372036854775808 ≤ n
  hi : n ≤ 9223372036854775807
theorem I64.of {n : Int} (h : (Lit.int .i64 n).wf = true) : I64 n := ⟨(bounds_i64 h).1, (bounds_i64 h).2⟩
/-- a value whose numbers are of 64 bits and whose string fits into memory -/
structure VaW (x : Va) : Prop where
  kind : I64 x.kind
  num : I64 x.num
  den : I64 x.den
  str : x.str.length ≤ maxLen

instance : Inhabited Va := ⟨zeroV⟩
theorem spot_none {w : World} {a : Addr} {v : Value} (h : w.cell? (a.add 0) = some v) (_ : True) : a.spot = none := by
  have h4 : w.cell? a = some v := by simpa [Addr.add] using h
  unfold World.cell? at h4
  cases hsp : a.spot with
  | none => rfl
  | some x =>
    rw [hsp] at h4
    split at h4
    · simp at h4
    · cases h4

section
variable {H : Type} {enc : TypeId × Value → H} {w : World} {base : Nat} {spare : Nat → Bool} {held : Bool}
set_option maxRecDepth 100000 in
theorem open_valC {fuel : Nat} {cs : List Value} {x : DataW H × List MemPlace} (h : DataW.trod enc Tryz.prog w base spare held fuel 45 cs = some x) :
    ∃ y : Va, cs = [.int .i64 y.kind, .int .i64 y.num, .int .i64 y.den, .string ⟨y.str.toArray⟩] ∧ VaW y := by
  obtain ⟨xs, n, -, -, hl, hxl, hf⟩ := DataW.trod_struct Tryz.underlying45 h
  have c4 : Tryz.prog.cellsOf 45 = 4 := by kernel_rfl
  have ci : Tryz.prog.cellsOf 3 = 1 := by kernel_rfl
  have cl : Tryz.prog.cellsOf 2 = 1 := by kernel_rfl
  have cs1 : Tryz.prog.cellsOf 9 = 1 := by kernel_rfl
  rw [c4] at hl
  have hx4 : xs.length = 4 := hxl
  match cs, hl with
  | [v0, v1, v2, v3], _ =>
    have f0 := hf 0 ⟨"Kind", 3, 0, false, "", "", 0⟩ rfl
    have f1 := hf 1 ⟨"N", 2, 1, false, "", "", 8⟩ rfl
    have f2 := hf 2 ⟨"D", 2, 2, false, "", "", 16⟩ rfl
    have f3 := hf 3 ⟨"S", 9, 3, false, "", "", 24⟩ rfl

    rw [ci] at f0
    rw [cl] at f1 f2
    rw [cs1] at f3
    simp only [List.drop_zero, List.drop_succ_cons, List.take_succ_cons, List.take_zero] at f0 f1 f2 f3
    rw [List.getElem?_eq_getElem (by omega)] at f0 f1 f2 f3
    obtain ⟨k, e0, -, w0⟩ := DataW.trod_int Tryz.underlying3 f0
    obtain ⟨p, e1, -, w1⟩ := DataW.trod_int Tryz.underlying2 f1
    obtain ⟨q, e2, -, w2⟩ := DataW.trod_int Tryz.underlying2 f2
    obtain ⟨s, e3, -, w3⟩ := DataW.trod_string Tryz.underlying9 f3
    cases e0
    cases e1
    cases e2
    cases e3
    exact ⟨⟨k, p, q, s.data.toList⟩, by simp, I64.of w0, I64.of w1, I64.of w2, by simpa using w3⟩

set_option maxRecDepth 100000 in
theorem open_vals {fuel : Nat} {cs : List Value} {x : DataW H × List MemPlace} (h : DataW.trod enc Tryz.prog w base spare held fuel 48 cs = some x) :
    ∃ v l, cs = [v] ∧ VaS w v l ∧ (∀ y ∈ l, VaW y) ∧ l.length ≤ maxLen := by
  rcases open_slice Tryz.underlying48 h with ⟨rfl, -⟩ | ⟨a, len, cap, m, n, D, Pl, rfl, -, hl, hm, hmm, -, hx⟩
  · exact ⟨_, [], rfl, .inl ⟨_, _, rfl, rfl⟩, fun _ h => by simp at h, Nat.zero_le _⟩
  · have hlm : len ≤ m := by rw [hmm]; split <;> omega
    have c4 : Tryz.prog.cellsOf 45 = 4 := by kernel_rfl
    have key : ∀ i, i < len → ∃ y : Va, (w.cell? (a.add (i * 4)) = some (.int .i64 y.kind) ∧ w.cell? (a.add (i * 4 + 1)) = some (.int .i64 y.num) ∧ w.cell? (a.add (i * 4 + 2)) = some (.int .i64 y.den) ∧ w.cell? (a.add (i * 4 + 3)) = some (.string ⟨y.str.toArray⟩)) ∧ VaW y := by
      intro i hi
      obtain ⟨cs', h1, h2⟩ := hx i (by omega)
      rw [c4] at h1
      obtain ⟨_, hlen, hcell⟩ := World.cells?_some h1
      obtain ⟨y, rfl, hw⟩ := open_valC h2
      have k0 := hcell 0 (by decide)
      have k1 := hcell 1 (by decide)
      have k2 := hcell 2 (by decide)
      have k3 := hcell 3 (by decide)
      refine ⟨y, ⟨?_, ?_, ?_, ?_⟩, hw⟩
      · simpa [add_add] using k0
      · simpa [add_add] using k1
      · simpa [add_add] using k2
      · simpa [add_add] using k3
    by_cases h0 : len = 0
    · subst h0
      exact ⟨_, [], rfl, .inl ⟨_, _, rfl, rfl⟩, fun _ h => by simp at h, Nat.zero_le _⟩
    · obtain ⟨y, hy⟩ := choose_lt (α := Va) key
      have hs : a.spot = none := spot_none (v := .int .i64 (y 0).kind) (by simpa using (hy 0 (by omega)).1.1) trivial
      obtain ⟨g, o, s⟩ := a
      simp only at hs
      subst hs
      refine ⟨_, (List.range len).map y, rfl, .inr ⟨g, o, cap, by simp, by simpa using hl, ?_, ?_⟩, ?_, by simp; omega⟩
      · unfold maxLen at hm; omega
      · intro i x hx
        rw [List.getElem?_map] at hx
        by_cases hi : i < len
        · rw [List.getElem?_range hi] at hx
          simp only [Option.map_some, Option.some.injEq] at hx
          subst hx
          obtain ⟨⟨k0, k1, k2, k3⟩, -⟩ := hy i hi
          rw [Addr.add_mid] at k0 k1 k2 k3
          exact ⟨k0, k1, k2, k3⟩
        · rw [List.getElem?_eq_none (by simpa using hi)] at hx; simp at hx
      · intro x hx
        rw [List.mem_map] at hx
        obtain ⟨i, hi, rfl⟩ := hx
        exact (hy i (by simpa using hi)).2
set_option maxRecDepth 100000 in
theorem open_intsl {fuel : Nat} {cs : List Value} {x : DataW H × List MemPlace} (h : DataW.trod enc Tryz.prog w base spare held fuel 51 cs = some x) :
    ∃ v l, cs = [v] ∧ InS w v l ∧ (∀ y ∈ l, I64 y) ∧ l.length ≤ maxLen := by
  rcases open_slice Tryz.underlying51 h with ⟨rfl, -⟩ | ⟨a, len, cap, m, n, D, Pl, rfl, -, hl, hm, hmm, -, hx⟩
  · exact ⟨_, [], rfl, .inl ⟨_, _, rfl, rfl⟩, fun _ h => by simp at h, Nat.zero_le _⟩
  · have hlm : len ≤ m := by rw [hmm]; split <;> omega
    have ci : Tryz.prog.cellsOf 3 = 1 := by kernel_rfl
    have key : ∀ i, i < len → ∃ y : Int, w.cell? (a.add i) = some (.int .i64 y) ∧ I64 y := by
      intro i hi
      obtain ⟨cs', h1, h2⟩ := hx i (by omega)
      rw [ci] at h1
      obtain ⟨_, hlen, hcell⟩ := World.cells?_some h1
      obtain ⟨k, rfl, -, w0⟩ := DataW.trod_int Tryz.underlying3 h2
      have k0 := hcell 0 (by decide)
      exact ⟨k, by simpa [add_add] using k0, I64.of w0⟩
    by_cases h0 : len = 0
    · subst h0
      exact ⟨_, [], rfl, .inl ⟨_, _, rfl, rfl⟩, fun _ h => by simp at h, Nat.zero_le _⟩
    · obtain ⟨y, hy⟩ := choose_lt (α := Int) key
      have hs : a.spot = none := spot_none (v := .int .i64 (y 0)) (by simpa using (hy 0 (by omega)).1) trivial
      obtain ⟨g, o, s⟩ := a
      simp only at hs
      subst hs
      refine ⟨_, (List.range len).map y, rfl, .inr ⟨g, o, cap, by simp, by simpa using hl, ?_, ?_⟩, ?_, by simp; omega⟩
      · unfold maxLen at hm; omega
      · intro i x hx
        rw [List.getElem?_map] at hx
        by_cases hi : i < len
        · rw [List.getElem?_range hi] at hx
          simp only [Option.map_some, Option.some.injEq] at hx
          subst hx
          have k0 := (hy i hi).1
          rw [Addr.add_mid] at k0
          exact k0
        · rw [List.getElem?_eq_none (by simpa using hi)] at hx; simp at hx
      · intro x hx
        rw [List.mem_map] at hx
        obtain ⟨i, hi, rfl⟩ := hx
        exact (hy i (by simpa using hi)).2
end
end Go.Proofs.YtemhidlaaommaaaGreatDoor
