/- Lemmas and contracts, each under its own condition: Contracts: the makers of operations. Contract: operations. -/
import Derived.Laws.EntriesVeiled
import Derived.Deep.MidRow
import Derived.Test.YtemhidlaaommaaaGreatDoorD2
import Derived.Test.YtemhidlaaommaaaGreatDoorD3
import Derived.Test.YtemhidlaaommaaaGreatDoorD4
import Derived.Test.YtemhidlaaommaaaGreatDoorD5
/- Contracts: the makers of operations. -/
namespace Go.Proofs.YtemhidlaaommaaaGreatDoor
open Go.RowKit

/-- a function value that keeps one variable -/
structure Keeps (w : World) (k : Value) (f : Nat) (x : Value) : Prop where
  at' : ∃ c, k = .func (.func f) #[] #[.pointer (some ⟨c, 0, none⟩)] ∧ w.cell? ⟨c, 0, none⟩ = some x
theorem Keeps.later {w w' : World} {k x : Value} {f : Nat} (h : Keeps w k f x) (hb : Below w.heap.size w w') : Keeps w' k f x :=
  let ⟨c, e, hc⟩ := h.at'; ⟨c, e, (hb.cell (p := ⟨c, 0, none⟩) (World.block_lt_of_cell? w _ hc)).trans hc⟩

theorem kinds_any (k : Int) (w : World) :
    Calls Tryz.prog 168 #[.int .i64 k] w fun e w' => ∃ v, e = .returned v ∧ Keeps w' v 205 (.int .i64 k) ∧ Below w.heap.size w w' := by
  go_enter Tryz.func168, Tryz.ntmps168
  go_wp2
  go_ret
  exact ⟨_, rfl, ⟨_, rfl, by simp [go_sem]⟩, below_alloc _ _⟩
theorem alwaysM_any (t : Int) (w : World) :
    Calls Tryz.prog 173 #[.int .i64 t] w fun e w' => ∃ v, e = .returned v ∧ Keeps w' v 206 (.int .i64 t) ∧ Below w.heap.size w w' := by
  go_enter Tryz.func173, Tryz.ntmps173
  go_wp2
  go_ret
  exact ⟨_, rfl, ⟨_, rfl, by simp [go_sem]⟩, below_alloc _ _⟩

/-- the result's cell of an operation, open to be written -/
structure ResO (w : World) (g : Nat) : Prop where
  c0 : w.cell? ⟨g, 0, none⟩ = some (.int .i64 0)
  c1 : w.cell? ⟨g, 1, none⟩ = some .nilFunc
  c2 : w.cell? ⟨g, 2, none⟩ = some .nilFunc
  c3 : w.cell? ⟨g, 3, none⟩ = some (.bool false)
  c4 : w.cell? ⟨g, 4, none⟩ = some .nilFunc
  f0 : w.frozen? ⟨g, 0, none⟩ = false
  f1 : w.frozen? ⟨g, 1, none⟩ = false
  f2 : w.frozen? ⟨g, 2, none⟩ = false
  f3 : w.frozen? ⟨g, 3, none⟩ = false
  f4 : w.frozen? ⟨g, 4, none⟩ = false
theorem ResO.made (w : World) (t : TypeId) : ResO (w.alloc (.cells #[.int .i64 0, .nilFunc, .nilFunc, .bool false, .nilFunc] t)) w.heap.size := by
  constructor <;> first | exact World.frozen?_alloc_at _ _ _ _ rfl | (rw [World.cell?_alloc_at _ _ _ _ rfl]; rfl)
theorem ResO.later {w w' : World} {B g : Nat} (h : ResO w g) (hb : Below B w w') (hg : g < B) : ResO w' g :=
  ⟨(hb.cell (p := ⟨g, 0, none⟩) hg).trans h.c0, (hb.cell (p := ⟨g, 1, none⟩) hg).trans h.c1, (hb.cell (p := ⟨g, 2, none⟩) hg).trans h.c2, (hb.cell (p := ⟨g, 3, none⟩) hg).trans h.c3, (hb.cell (p := ⟨g, 4, none⟩) hg).trans h.c4,
    (hb.frozen (p := ⟨g, 0, none⟩) hg).trans h.f0, (hb.frozen (p := ⟨g, 1, none⟩) hg).trans h.f1, (hb.frozen (p := ⟨g, 2, none⟩) hg).trans h.f2, (hb.frozen (p := ⟨g, 3, none⟩) hg).trans h.f3, (hb.frozen (p := ⟨g, 4, none⟩) hg).trans h.f4⟩

theorem arithM_any (f : Nat) (w : World) :
    Calls Tryz.prog 176 #[.func (.func f) #[] #[]] w fun e w' => ∃ kv dv, e = .returned (.agg #[.int .i64 2, kv, .func (.func 165) #[] #[], .bool false, dv]) ∧ Keeps w' kv 205 (.int .i64 2) ∧ Keeps w' dv 207 (.func (.func f) #[] #[]) ∧ Below w.heap.size w w' := by
  have C := Lib.hid (fun w1 => kinds_any 2 w1)
  have HR := Lib.hid (ResO.made (w.alloc (.cells #[.func (.func f) #[] #[]] 39)) 125)
  go_enter Tryz.func176, Tryz.ntmps176
  go_wp2_with (go_at_call 168; refine (C.out _).mono ?_; rintro e w1 ⟨v, rfl, hv, hb⟩; obtain ⟨c, rfl, hc⟩ := hv.at'; obtain ⟨r0, r1, r2, r3, r4, f0, f1, f2, f3, f4⟩ := HR.out.later hb (by simp); simp only [World.size_alloc] at r0 r1 r2 r3 r4 f0 f1 f2 f3 f4)
  have hcn : c ≠ w.heap.size + 1 := by
    rintro rfl
    rw [r0] at hc
    exact absurd hc (by simp)
  have hb' : Below w.heap.size w w1 := below_al (below_al hb)
  have hx : w1.cell? ⟨w.heap.size, 0, none⟩ = some (.func (.func f) #[] #[]) := by
    have h1 : (w.alloc (.cells #[.func (.func f) #[] #[]] 39)).cell? ⟨w.heap.size, 0, none⟩ = some (.func (.func f) #[] #[]) := by rw [World.cell?_alloc_at _ _ _ _ rfl]; rfl
    have h2 : ((w.alloc (.cells #[.func (.func f) #[] #[]] 39)).alloc (.cells #[.int .i64 0, .nilFunc, .nilFunc, .bool false, .nilFunc] 125)).cell? ⟨w.heap.size, 0, none⟩ = some (.func (.func f) #[] #[]) := ((below_alloc _ _).cell (p := ⟨w.heap.size, 0, none⟩) (by simp)).trans h1
    exact (hb.cell (p := ⟨w.heap.size, 0, none⟩) (by simp; omega)).trans h2
  refine bodyPost_ret (by simp [results, Tryz.results176, go_sem, r0, r1, r2, r3, r4]; try rfl) rfl ?_
  refine ⟨_, _, rfl, ⟨_, rfl, ?_⟩, ⟨_, rfl, ?_⟩, ?_⟩
  · simp [go_sem, hc]
  · simp [go_sem, hx]
  · exact (((((hb'.setCell (by simp) _).setCell (by simp) _).setCell (by simp) _).setCell (by simp) _).setCell (by simp) _)

theorem compM_any (f : Nat) (w : World) :
    Calls Tryz.prog 178 #[.func (.func f) #[] #[]] w fun e w' => ∃ dv, e = .returned (.agg #[.int .i64 2, .func (.func 186) #[] #[], .func (.func 208) #[] #[], .bool false, dv]) ∧ Keeps w' dv 209 (.func (.func f) #[] #[]) ∧ Below w.heap.size w w' := by
  go_enter Tryz.func178, Tryz.ntmps178
  go_wp2
  go_returns
  refine ⟨_, rfl, ⟨_, rfl, ?_⟩, ?_⟩
  · simp [go_sem]
  · exact (below_alloc _ _).trans ((below_alloc _ _).mono (by simp))

theorem logicM_any (d : Bool) (w : World) :
    Calls Tryz.prog 185 #[.bool d] w fun e w' => ∃ kv dv, e = .returned (.agg #[.int .i64 2, kv, .func (.func 210) #[] #[], .bool true, dv]) ∧ Keeps w' kv 205 (.int .i64 1) ∧ Keeps w' dv 211 (.bool d) ∧ Below w.heap.size w w' := by
  have C := Lib.hid (fun w1 => kinds_any 1 w1)
  have HR := Lib.hid (ResO.made (w.alloc (.cells #[.bool d] 4)) 125)
  go_enter Tryz.func185, Tryz.ntmps185
  go_wp2_with (go_at_call 168; refine (C.out _).mono ?_; rintro e w1 ⟨v, rfl, hv, hb⟩; obtain ⟨c, rfl, hc⟩ := hv.at'; obtain ⟨r0, r1, r2, r3, r4, f0, f1, f2, f3, f4⟩ := HR.out.later hb (by simp); simp only [World.size_alloc] at r0 r1 r2 r3 r4 f0 f1 f2 f3 f4)
  have hcn : c ≠ w.heap.size + 1 := by
    rintro rfl
    rw [r0] at hc
    exact absurd hc (by simp)
  have hb' : Below w.heap.size w w1 := below_al (below_al hb)
  have hx : w1.cell? ⟨w.heap.size, 0, none⟩ = some (.bool d) := by
    have h1 : (w.alloc (.cells #[.bool d] 4)).cell? ⟨w.heap.size, 0, none⟩ = some (.bool d) := by rw [World.cell?_alloc_at _ _ _ _ rfl]; rfl
    have h2 : ((w.alloc (.cells #[.bool d] 4)).alloc (.cells #[.int .i64 0, .nilFunc, .nilFunc, .bool false, .nilFunc] 125)).cell? ⟨w.heap.size, 0, none⟩ = some (.bool d) := ((below_alloc _ _).cell (p := ⟨w.heap.size, 0, none⟩) (by simp)).trans h1
    exact (hb.cell (p := ⟨w.heap.size, 0, none⟩) (by simp; omega)).trans h2
  refine bodyPost_ret (by simp [results, Tryz.results185, go_sem, r0, r1, r2, r3, r4]; try rfl) rfl ?_
  refine ⟨_, _, rfl, ⟨_, rfl, ?_⟩, ⟨_, rfl, ?_⟩, ?_⟩
  · simp [go_sem, hc]
  · simp [go_sem, hx]
  · exact (((((hb'.setCell (by simp) _).setCell (by simp) _).setCell (by simp) _).setCell (by simp) _).setCell (by simp) _)
end Go.Proofs.YtemhidlaaommaaaGreatDoor
/- Contract: operations. -/
namespace Go.Proofs.YtemhidlaaommaaaGreatDoor
open Go.RowKit

/-- the cells of the table of operations, by the variables that its functions keep -/
def opsL (m c1 c2 c3 c4 c5 c6 d6 c7 d7 c8 d8 c9 d10 d11 d12 d13 d14 d15 c16 d16 c17 d17 : Nat) : List Value := [
  .int .i64 0, .nilFunc, .nilFunc, .bool false, .nilFunc,
  .int .i64 0, .nilFunc, .nilFunc, .bool false, .nilFunc,
  .int .i64 0, .nilFunc, .nilFunc, .bool false, .nilFunc,
  .int .i64 0, .nilFunc, .nilFunc, .bool false, .nilFunc,
  .int .i64 1, .func (.func 205) #[] #[.pointer (some ⟨c1, 0, none⟩)], .func (.func 163) #[] #[], .bool false, .func (.func 169) #[] #[],
  .int .i64 1, .func (.func 205) #[] #[.pointer (some ⟨c2, 0, none⟩)], .func (.func 160) #[] #[], .bool false, .func (.func 170) #[] #[],
  .int .i64 1, .func (.func 205) #[] #[.pointer (some ⟨c3, 0, none⟩)], .func (.func 162) #[] #[.pointer (some ⟨m, 0, none⟩)], .bool false, .func (.func 171) #[] #[],
  .int .i64 1, .func (.func 172) #[] #[], .func (.func 206) #[] #[.pointer (some ⟨c4, 0, none⟩)], .bool true, .func (.func 174) #[] #[],
  .int .i64 1, .func (.func 172) #[] #[], .func (.func 206) #[] #[.pointer (some ⟨c5, 0, none⟩)], .bool true, .func (.func 175) #[] #[],
  .int .i64 2, .func (.func 205) #[] #[.pointer (some ⟨c6, 0, none⟩)], .func (.func 165) #[] #[], .bool false, .func (.func 207) #[] #[.pointer (some ⟨d6, 0, none⟩)],
  .int .i64 2, .func (.func 205) #[] #[.pointer (some ⟨c7, 0, none⟩)], .func (.func 165) #[] #[], .bool false, .func (.func 207) #[] #[.pointer (some ⟨d7, 0, none⟩)],
  .int .i64 2, .func (.func 205) #[] #[.pointer (some ⟨c8, 0, none⟩)], .func (.func 165) #[] #[], .bool false, .func (.func 207) #[] #[.pointer (some ⟨d8, 0, none⟩)],
  .int .i64 2, .func (.func 205) #[] #[.pointer (some ⟨c9, 0, none⟩)], .func (.func 164) #[] #[], .bool false, .func (.func 177) #[] #[],
  .int .i64 2, .func (.func 186) #[] #[], .func (.func 208) #[] #[], .bool false, .func (.func 209) #[] #[.pointer (some ⟨d10, 0, none⟩)],
  .int .i64 2, .func (.func 186) #[] #[], .func (.func 208) #[] #[], .bool false, .func (.func 209) #[] #[.pointer (some ⟨d11, 0, none⟩)],
  .int .i64 2, .func (.func 186) #[] #[], .func (.func 208) #[] #[], .bool false, .func (.func 209) #[] #[.pointer (some ⟨d12, 0, none⟩)],
  .int .i64 2, .func (.func 186) #[] #[], .func (.func 208) #[] #[], .bool false, .func (.func 209) #[] #[.pointer (some ⟨d13, 0, none⟩)],
  .int .i64 2, .func (.func 186) #[] #[], .func (.func 208) #[] #[], .bool false, .func (.func 209) #[] #[.pointer (some ⟨d14, 0, none⟩)],
  .int .i64 2, .func (.func 186) #[] #[], .func (.func 208) #[] #[], .bool false, .func (.func 209) #[] #[.pointer (some ⟨d15, 0, none⟩)],
  .int .i64 2, .func (.func 205) #[] #[.pointer (some ⟨c16, 0, none⟩)], .func (.func 210) #[] #[], .bool true, .func (.func 211) #[] #[.pointer (some ⟨d16, 0, none⟩)],
  .int .i64 2, .func (.func 205) #[] #[.pointer (some ⟨c17, 0, none⟩)], .func (.func 210) #[] #[], .bool true, .func (.func 211) #[] #[.pointer (some ⟨d17, 0, none⟩)],
  .int .i64 2, .func (.func 186) #[] #[], .func (.func 167) #[] #[], .bool true, .func (.func 187) #[] #[],
  .int .i64 3, .func (.func 188) #[] #[], .func (.func 166) #[] #[], .bool true, .func (.func 190) #[] #[]]
theorem opsL_len (m c1 c2 c3 c4 c5 c6 d6 c7 d7 c8 d8 c9 d10 d11 d12 d13 d14 d15 c16 d16 c17 d17 : Nat) : (opsL m c1 c2 c3 c4 c5 c6 d6 c7 d7 c8 d8 c9 d10 d11 d12 d13 d14 d15 c16 d16 c17 d17).length = 115 := rfl
theorem opsL_one (m c1 c2 c3 c4 c5 c6 d6 c7 d7 c8 d8 c9 d10 d11 d12 d13 d14 d15 c16 d16 c17 d17 : Nat) : ∀ v ∈ opsL m c1 c2 c3 c4 c5 c6 d6 c7 d7 c8 d8 c9 d10 d11 d12 d13 d14 d15 c16 d16 c17 d17, v.oneCell' = true := by
  intro v hv
  simp only [opsL, List.mem_cons, List.not_mem_nil, or_false] at hv
  rcases hv with rfl | rfl | rfl | rfl | rfl | rfl | rfl | rfl | rfl | rfl | rfl | rfl | rfl | rfl | rfl | rfl | rfl | rfl | rfl | rfl | rfl | rfl | rfl | rfl | rfl | rfl | rfl | rfl | rfl | rfl | rfl | rfl | rfl | rfl | rfl | rfl | rfl | rfl | rfl | rfl | rfl | rfl | rfl | rfl | rfl | rfl | rfl | rfl | rfl | rfl | rfl | rfl | rfl | rfl | rfl | rfl | rfl | rfl | rfl | rfl | rfl | rfl | rfl | rfl | rfl | rfl | rfl | rfl | rfl | rfl | rfl | rfl | rfl | rfl | rfl | rfl | rfl | rfl | rfl | rfl | rfl | rfl | rfl | rfl | rfl | rfl | rfl | rfl | rfl | rfl | rfl | rfl | rfl | rfl | rfl | rfl | rfl | rfl | rfl | rfl | rfl | rfl | rfl | rfl | rfl | rfl | rfl | rfl | rfl | rfl | rfl | rfl | rfl | rfl | rfl <;> rfl
theorem opsL_build (m c1 c2 c3 c4 c5 c6 d6 c7 d7 c8 d8 c9 d10 d11 d12 d13 d14 d15 c16 d16 c17 d17 : Nat) (w : World) : (Instr.build 158 #[(4, .agg #[.int .i64 1, .func (.func 205) #[] #[.pointer (some ⟨c1, 0, none⟩)], .func (.func 163) #[] #[], .bool false, .func (.func 169) #[] #[]]), (5, .agg #[.int .i64 1, .func (.func 205) #[] #[.pointer (some ⟨c2, 0, none⟩)], .func (.func 160) #[] #[], .bool false, .func (.func 170) #[] #[]]), (6, .agg #[.int .i64 1, .func (.func 205) #[] #[.pointer (some ⟨c3, 0, none⟩)], .func (.func 162) #[] #[.pointer (some ⟨m, 0, none⟩)], .bool false, .func (.func 171) #[] #[]]), (7, .agg #[.int .i64 1, .func (.func 172) #[] #[], .func (.func 206) #[] #[.pointer (some ⟨c4, 0, none⟩)], .bool true, .func (.func 174) #[] #[]]), (8, .agg #[.int .i64 1, .func (.func 172) #[] #[], .func (.func 206) #[] #[.pointer (some ⟨c5, 0, none⟩)], .bool true, .func (.func 175) #[] #[]]), (9, .agg #[.int .i64 2, .func (.func 205) #[] #[.pointer (some ⟨c6, 0, none⟩)], .func (.func 165) #[] #[], .bool false, .func (.func 207) #[] #[.pointer (some ⟨d6, 0, none⟩)]]), (10, .agg #[.int .i64 2, .func (.func 205) #[] #[.pointer (some ⟨c7, 0, none⟩)], .func (.func 165) #[] #[], .bool false, .func (.func 207) #[] #[.pointer (some ⟨d7, 0, none⟩)]]), (11, .agg #[.int .i64 2, .func (.func 205) #[] #[.pointer (some ⟨c8, 0, none⟩)], .func (.func 165) #[] #[], .bool false, .func (.func 207) #[] #[.pointer (some ⟨d8, 0, none⟩)]]), (12, .agg #[.int .i64 2, .func (.func 205) #[] #[.pointer (some ⟨c9, 0, none⟩)], .func (.func 164) #[] #[], .bool false, .func (.func 177) #[] #[]]), (13, .agg #[.int .i64 2, .func (.func 186) #[] #[], .func (.func 208) #[] #[], .bool false, .func (.func 209) #[] #[.pointer (some ⟨d10, 0, none⟩)]]), (14, .agg #[.int .i64 2, .func (.func 186) #[] #[], .func (.func 208) #[] #[], .bool false, .func (.func 209) #[] #[.pointer (some ⟨d11, 0, none⟩)]]), (15, .agg #[.int .i64 2, .func (.func 186) #[] #[], .func (.func 208) #[] #[], .bool false, .func (.func 209) #[] #[.pointer (some ⟨d12, 0, none⟩)]]), (16, .agg #[.int .i64 2, .func (.func 186) #[] #[], .func (.func 208) #[] #[], .bool false, .func (.func 209) #[] #[.pointer (some ⟨d13, 0, none⟩)]]), (17, .agg #[.int .i64 2, .func (.func 186) #[] #[], .func (.func 208) #[] #[], .bool false, .func (.func 209) #[] #[.pointer (some ⟨d14, 0, none⟩)]]), (18, .agg #[.int .i64 2, .func (.func 186) #[] #[], .func (.func 208) #[] #[], .bool false, .func (.func 209) #[] #[.pointer (some ⟨d15, 0, none⟩)]]), (19, .agg #[.int .i64 2, .func (.func 205) #[] #[.pointer (some ⟨c16, 0, none⟩)], .func (.func 210) #[] #[], .bool true, .func (.func 211) #[] #[.pointer (some ⟨d16, 0, none⟩)]]), (20, .agg #[.int .i64 2, .func (.func 205) #[] #[.pointer (some ⟨c17, 0, none⟩)], .func (.func 210) #[] #[], .bool true, .func (.func 211) #[] #[.pointer (some ⟨d17, 0, none⟩)]]), (21, .agg #[.int .i64 2, .func (.func 186) #[] #[], .func (.func 167) #[] #[], .bool true, .func (.func 187) #[] #[]]), (22, .agg #[.int .i64 3, .func (.func 188) #[] #[], .func (.func 166) #[] #[], .bool true, .func (.func 190) #[] #[]])]).run Tryz.prog w = .ok (.agg (opsL m c1 c2 c3 c4 c5 c6 d6 c7 d7 c8 d8 c9 d10 d11 d12 d13 d14 d15 c16 d16 c17 d17).toArray) w :=
  run_build w _ _ _ (by kernel_rfl)

theorem exec158 (m c1 c2 c3 c4 c5 c6 d6 c7 d7 c8 d8 c9 d10 d11 d12 d13 d14 d15 c16 d16 c17 d17 : Nat) (y0 y1 y2 y3 y4 y5 y6 y7 y8 y10 y11 y13 y14 y16 y18 y23 y24 y35 y37 : Value) (dd : Option Tmp) (tt : TypeId) (pp : String) (aft : Array Edge) (gg : Option (Nat × Bool)) (w : World) :
    (execOp (Act.eval { tmps := #[y0, y1, y2, y3, y4, y5, y6, y7, y8, .agg #[.int .i64 1, .func (.func 205) #[] #[.pointer (some ⟨c1, 0, none⟩)], .func (.func 163) #[] #[], .bool false, .func (.func 169) #[] #[]], y10, y11, .agg #[.int .i64 1, .func (.func 205) #[] #[.pointer (some ⟨c2, 0, none⟩)], .func (.func 160) #[] #[], .bool false, .func (.func 170) #[] #[]], y13, y14, .agg #[.int .i64 1, .func (.func 205) #[] #[.pointer (some ⟨c3, 0, none⟩)], .func (.func 162) #[] #[.pointer (some ⟨m, 0, none⟩)], .bool false, .func (.func 171) #[] #[]], y16, .agg #[.int .i64 1, .func (.func 172) #[] #[], .func (.func 206) #[] #[.pointer (some ⟨c4, 0, none⟩)], .bool true, .func (.func 174) #[] #[]], y18, .agg #[.int .i64 1, .func (.func 172) #[] #[], .func (.func 206) #[] #[.pointer (some ⟨c5, 0, none⟩)], .bool true, .func (.func 175) #[] #[]], .agg #[.int .i64 2, .func (.func 205) #[] #[.pointer (some ⟨c6, 0, none⟩)], .func (.func 165) #[] #[], .bool false, .func (.func 207) #[] #[.pointer (some ⟨d6, 0, none⟩)]], .agg #[.int .i64 2, .func (.func 205) #[] #[.pointer (some ⟨c7, 0, none⟩)], .func (.func 165) #[] #[], .bool false, .func (.func 207) #[] #[.pointer (some ⟨d7, 0, none⟩)]], .agg #[.int .i64 2, .func (.func 205) #[] #[.pointer (some ⟨c8, 0, none⟩)], .func (.func 165) #[] #[], .bool false, .func (.func 207) #[] #[.pointer (some ⟨d8, 0, none⟩)]], y23, y24, .agg #[.int .i64 2, .func (.func 205) #[] #[.pointer (some ⟨c9, 0, none⟩)], .func (.func 164) #[] #[], .bool false, .func (.func 177) #[] #[]], .agg #[.int .i64 2, .func (.func 186) #[] #[], .func (.func 208) #[] #[], .bool false, .func (.func 209) #[] #[.pointer (some ⟨d10, 0, none⟩)]], .agg #[.int .i64 2, .func (.func 186) #[] #[], .func (.func 208) #[] #[], .bool false, .func (.func 209) #[] #[.pointer (some ⟨d11, 0, none⟩)]], .agg #[.int .i64 2, .func (.func 186) #[] #[], .func (.func 208) #[] #[], .bool false, .func (.func 209) #[] #[.pointer (some ⟨d12, 0, none⟩)]], .agg #[.int .i64 2, .func (.func 186) #[] #[], .func (.func 208) #[] #[], .bool false, .func (.func 209) #[] #[.pointer (some ⟨d13, 0, none⟩)]], .agg #[.int .i64 2, .func (.func 186) #[] #[], .func (.func 208) #[] #[], .bool false, .func (.func 209) #[] #[.pointer (some ⟨d14, 0, none⟩)]], .agg #[.int .i64 2, .func (.func 186) #[] #[], .func (.func 208) #[] #[], .bool false, .func (.func 209) #[] #[.pointer (some ⟨d15, 0, none⟩)]], .agg #[.int .i64 2, .func (.func 205) #[] #[.pointer (some ⟨c16, 0, none⟩)], .func (.func 210) #[] #[], .bool true, .func (.func 211) #[] #[.pointer (some ⟨d16, 0, none⟩)]], .agg #[.int .i64 2, .func (.func 205) #[] #[.pointer (some ⟨c17, 0, none⟩)], .func (.func 210) #[] #[], .bool true, .func (.func 211) #[] #[.pointer (some ⟨d17, 0, none⟩)]], .agg #[.int .i64 2, .func (.func 186) #[] #[], .func (.func 167) #[] #[], .bool true, .func (.func 187) #[] #[]], y35, .agg #[.int .i64 3, .func (.func 188) #[] #[], .func (.func 166) #[] #[], .bool true, .func (.func 190) #[] #[]], y37], defers := [] }) ({ dst := dd, op := Op.build 158 #[(4, Operand.tmp 9), (5, Operand.tmp 12), (6, Operand.tmp 15), (7, Operand.tmp 17), (8, Operand.tmp 19), (9, Operand.tmp 20), (10, Operand.tmp 21), (11, Operand.tmp 22), (12, Operand.tmp 25), (13, Operand.tmp 26), (14, Operand.tmp 27), (15, Operand.tmp 28), (16, Operand.tmp 29), (17, Operand.tmp 30), (18, Operand.tmp 31), (19, Operand.tmp 32), (20, Operand.tmp 33), (21, Operand.tmp 34), (22, Operand.tmp 36)], type := tt, pos := pp, after := aft, guard := gg } : Oper)).run Tryz.prog w = .ok (.value (.agg (opsL m c1 c2 c3 c4 c5 c6 d6 c7 d7 c8 d8 c9 d10 d11 d12 d13 d14 d15 c16 d16 c17 d17).toArray)) w := by
  have h := opsL_build m c1 c2 c3 c4 c5 c6 d6 c7 d7 c8 d8 c9 d10 d11 d12 d13 d14 d15 c16 d16 c17 d17 w
  simp only [execOp, Act.eval, List.map_toArray, List.map_cons, List.map_nil]
  rw [Sem.run_bind]
  exact (congrArg (fun r => Result.andThen r (fun v w' => Sem.run Tryz.prog (pure (Next.value v)) w')) h).trans rfl

theorem info158 : (Tryz.prog.info? 158).map (·.size) = some 115 := by kernel_rfl
theorem below_setCells (b : Nat) : ∀ (vs : List Value) (o : Nat) {B : Nat} {w w' : World} (_ : Below B w w') (_ : B ≤ b), Below B w (w'.setCells b o vs)
  | [], _, _, _, _, h, _ => h
  | v :: r, o, _, _, _, h, hb => below_setCells b r (o + 1) (h.setCell hb v) hb
theorem size_setCells (b : Nat) : ∀ (vs : List Value) (o : Nat) (w : World), (w.setCells b o vs).heap.size = w.heap.size
  | [], _, _ => rfl
  | _ :: r, o, _ => (size_setCells b r (o + 1) _).trans (World.size_setCell _ _ _)
theorem keeps_setCells {w : World} {c g : Nat} {x y : Value} (h : w.cell? ⟨c, 0, none⟩ = some x) (h0 : w.cell? ⟨g, 0, none⟩ = some y) (hne : x ≠ y) (vs : List Value) : (w.setCells g 0 vs).cell? ⟨c, 0, none⟩ = some x := by
  rw [World.cell?_setCells_out g vs 0 w ⟨c, 0, none⟩ (fun hb _ => by
    have hb' : c = g := hb
    subst hb'
    rw [h] at h0
    exact absurd (Option.some.inj h0) hne)]
  exact h

/-- what the functions of the table keep -/
structure OpsKept (w : World) (m c1 c2 c3 c4 c5 c6 d6 c7 d7 c8 d8 c9 d10 d11 d12 d13 d14 d15 c16 d16 c17 d17 : Nat) : Prop where
  km : w.cell? ⟨m, 0, none⟩ = some (.func (.func 160) #[] #[])
  k1 : w.cell? ⟨c1, 0, none⟩ = some (.int .i64 1)
  k2 : w.cell? ⟨c2, 0, none⟩ = some (.int .i64 2)
  k3 : w.cell? ⟨c3, 0, none⟩ = some (.int .i64 2)
  k4 : w.cell? ⟨c4, 0, none⟩ = some (.int .i64 1)
  k5 : w.cell? ⟨c5, 0, none⟩ = some (.int .i64 2)
  k6 : w.cell? ⟨c6, 0, none⟩ = some (.int .i64 2)
  e6 : w.cell? ⟨d6, 0, none⟩ = some (.func (.func 26) #[] #[])
  k7 : w.cell? ⟨c7, 0, none⟩ = some (.int .i64 2)
  e7 : w.cell? ⟨d7, 0, none⟩ = some (.func (.func 28) #[] #[])
  k8 : w.cell? ⟨c8, 0, none⟩ = some (.int .i64 2)
  e8 : w.cell? ⟨d8, 0, none⟩ = some (.func (.func 30) #[] #[])
  k9 : w.cell? ⟨c9, 0, none⟩ = some (.int .i64 2)
  e10 : w.cell? ⟨d10, 0, none⟩ = some (.func (.func 179) #[] #[])
  e11 : w.cell? ⟨d11, 0, none⟩ = some (.func (.func 180) #[] #[])
  e12 : w.cell? ⟨d12, 0, none⟩ = some (.func (.func 181) #[] #[])
  e13 : w.cell? ⟨d13, 0, none⟩ = some (.func (.func 182) #[] #[])
  e14 : w.cell? ⟨d14, 0, none⟩ = some (.func (.func 183) #[] #[])
  e15 : w.cell? ⟨d15, 0, none⟩ = some (.func (.func 184) #[] #[])
  k16 : w.cell? ⟨c16, 0, none⟩ = some (.int .i64 1)
  e16 : w.cell? ⟨d16, 0, none⟩ = some (.bool false)
  k17 : w.cell? ⟨c17, 0, none⟩ = some (.int .i64 1)
  e17 : w.cell? ⟨d17, 0, none⟩ = some (.bool true)

attribute [local go_sem ↓] exec158
set_option maxHeartbeats 16000000 in
set_option maxRecDepth 100000 in
theorem operations_any (w : World) :
    Calls Tryz.prog 134 #[] w fun e w' => ∃ m c1 c2 c3 c4 c5 c6 d6 c7 d7 c8 d8 c9 d10 d11 d12 d13 d14 d15 c16 d16 c17 d17, e = .returned (.agg (opsL m c1 c2 c3 c4 c5 c6 d6 c7 d7 c8 d8 c9 d10 d11 d12 d13 d14 d15 c16 d16 c17 d17).toArray) ∧ OpsKept w' m c1 c2 c3 c4 c5 c6 d6 c7 d7 c8 d8 c9 d10 d11 d12 d13 d14 d15 c16 d16 c17 d17 ∧ Below w.heap.size w w' := by
  obtain ⟨W, hW⟩ : ∃ W, W = (w.alloc (.cells Tryz.zeroCells158 158)).alloc (.cells #[.func (.func 160) #[] #[]] 122) := ⟨_, rfl⟩
  have hB : Below w.heap.size w W := by rw [hW]; exact (below_alloc _ _).trans ((below_alloc _ _).mono (by simp))
  have h1 : W.cell? ⟨w.heap.size + 1, 0, none⟩ = some (.func (.func 160) #[] #[]) := by
    rw [hW, World.cell?_alloc_at _ _ _ _ (by simp)]; rfl
  have hz : ∀ j, j < 115 → W.cell? ⟨w.heap.size, j, none⟩ = some (Tryz.zeroCells158.getD j undef) ∧ W.frozen? ⟨w.heap.size, j, none⟩ = false := by
    intro j hj
    have hs : Tryz.zeroCells158.size = 115 := by kernel_rfl
    have e1 : (w.alloc (.cells Tryz.zeroCells158 158)).cell? ⟨w.heap.size, j, none⟩ = some (Tryz.zeroCells158.getD j undef) := by
      rw [World.cell?_alloc_at _ _ _ _ rfl]
      simp [Array.getD, hs, hj]
    have e2 : (w.alloc (.cells Tryz.zeroCells158 158)).frozen? ⟨w.heap.size, j, none⟩ = false := World.frozen?_alloc_at _ _ _ _ rfl
    have hb2 := below_alloc (w.alloc (.cells Tryz.zeroCells158 158)) (.cells #[.func (.func 160) #[] #[]] 122)
    rw [hW]
    exact ⟨(hb2.cell (p := ⟨w.heap.size, j, none⟩) (by simp)).trans e1, (hb2.frozen (p := ⟨w.heap.size, j, none⟩) (by simp)).trans e2⟩
  have h0 : W.cell? ⟨w.heap.size, 0, none⟩ = some (.int .i64 0) := (hz 0 (by decide)).1.trans (by kernel_rfl)
  have h2 : W.there w.heap.size 0 115 := by
    intro j hj
    rw [Nat.zero_add]
    exact ⟨by rw [(hz j hj).1]; rfl, (hz j hj).2⟩
  have hlt : w.heap.size + 1 < W.heap.size := by rw [hW]; simp
  have K : ∀ w' : World, Below W.heap.size W w' → (w'.cell? ⟨w.heap.size + 1, 0, none⟩ = some (.func (.func 160) #[] #[]) ∧ w'.there w.heap.size 0 115 ∧ Below w.heap.size w w') := fun w' hb =>
    ⟨(hb.cell (p := ⟨w.heap.size + 1, 0, none⟩) hlt).trans h1, fun j hj => by
      rw [hb.cell (p := ⟨w.heap.size, 0 + j, none⟩) (by simp; omega), hb.frozen (p := ⟨w.heap.size, 0 + j, none⟩) (by simp; omega)]; exact h2 j hj, hB.trans (hb.mono hB.size)⟩
  have KZ : ∀ w' : World, Below W.heap.size W w' → w'.cell? ⟨w.heap.size, 0, none⟩ = some (.int .i64 0) := fun w' hb => (hb.cell (p := ⟨w.heap.size, 0, none⟩) (by simp; omega)).trans h0
  have KS : ∀ (cs : List Value) (w0 : World), Below W.heap.size W w0 → (fun w' : World => w'.cell? ⟨w.heap.size + 1, 0, none⟩ = some (.func (.func 160) #[] #[]) ∧ w'.there w.heap.size 0 115 ∧ Below w.heap.size w w') (w0.setCells w.heap.size 0 cs) := fun cs w0 hb =>
    ⟨keeps_setCells (K w0 hb).1 (KZ w0 hb) (by simp) cs, World.there_setCells (K w0 hb).2.1 _ _ _, below_setCells _ _ _ (K w0 hb).2.2 (Nat.le_refl _)⟩
  have HB0 : Below W.heap.size W W.drew := (Below.refl _ _).drew
  have KH := Lib.hid K
  have KSH := Lib.hid KS
  have KZH := Lib.hid KZ
  have INF := info158
  clear K KS KZ h2 hB hz h0
  go_enter Tryz.func134, Tryz.ntmps134
  go_wp2_with fail
  rw [← hW]
  clear hW
  go_region_held3 (fun w' => w'.cell? ⟨w.heap.size + 1, 0, none⟩ = some (.func (.func 160) #[] #[]) ∧ w'.there w.heap.size 0 115 ∧ Below w.heap.size w w')
    (first | with_reducible exact KH.out _ (by with_reducible assumption) | with_reducible exact KSH.out _ _ HB17)
    (first
      | (have hZ := HB16; go_at_call 185; refine (logicM_any true _).mono ?_; rintro e w17 ⟨kv17, dv17, rfl, hk17, hd17, hb17⟩; obtain ⟨c17, rfl, hc17⟩ := hk17.at'; obtain ⟨d17, rfl, he17⟩ := hd17.at'; clear hk17 hd17; have HB17 := below_keep HB16 hb17; have hone := opsL_one (w.heap.size + 1) c1 c2 c3 c4 c5 c6 d6 c7 d7 c8 d8 c9 d10 d11 d12 d13 d14 d15 c16 d16 c17 d17; have hlen := opsL_len (w.heap.size + 1) c1 c2 c3 c4 c5 c6 d6 c7 d7 c8 d8 c9 d10 d11 d12 d13 d14 d15 c16 d16 c17 d17)
      | (have hZ := HB15; go_at_call 185; refine (logicM_any false _).mono ?_; rintro e w16 ⟨kv16, dv16, rfl, hk16, hd16, hb16⟩; obtain ⟨c16, rfl, hc16⟩ := hk16.at'; obtain ⟨d16, rfl, he16⟩ := hd16.at'; clear hk16 hd16; have HB16 := below_keep HB15 hb16)
      | (have hZ := HB14; go_at_call 178; refine (compM_any 184 _).mono ?_; rintro e w15 ⟨dv15, rfl, hd15, hb15⟩; obtain ⟨d15, rfl, he15⟩ := hd15.at'; clear hd15; have HB15 := below_keep HB14 hb15)
      | (have hZ := HB13; go_at_call 178; refine (compM_any 183 _).mono ?_; rintro e w14 ⟨dv14, rfl, hd14, hb14⟩; obtain ⟨d14, rfl, he14⟩ := hd14.at'; clear hd14; have HB14 := below_keep HB13 hb14)
      | (have hZ := HB12; go_at_call 178; refine (compM_any 182 _).mono ?_; rintro e w13 ⟨dv13, rfl, hd13, hb13⟩; obtain ⟨d13, rfl, he13⟩ := hd13.at'; clear hd13; have HB13 := below_keep HB12 hb13)
      | (have hZ := HB11; go_at_call 178; refine (compM_any 181 _).mono ?_; rintro e w12 ⟨dv12, rfl, hd12, hb12⟩; obtain ⟨d12, rfl, he12⟩ := hd12.at'; clear hd12; have HB12 := below_keep HB11 hb12)
      | (have hZ := HB10; go_at_call 178; refine (compM_any 180 _).mono ?_; rintro e w11 ⟨dv11, rfl, hd11, hb11⟩; obtain ⟨d11, rfl, he11⟩ := hd11.at'; clear hd11; have HB11 := below_keep HB10 hb11)
      | (have hZ := HB9; go_at_call 178; refine (compM_any 179 _).mono ?_; rintro e w10 ⟨dv10, rfl, hd10, hb10⟩; obtain ⟨d10, rfl, he10⟩ := hd10.at'; clear hd10; have HB10 := below_keep HB9 hb10)
      | (have hZ := HB8; go_at_call 168; refine (kinds_any 2 _).mono ?_; rintro e w9 ⟨v9, rfl, hv9, hb9⟩; obtain ⟨c9, rfl, hc9⟩ := hv9.at'; clear hv9; have HB9 := below_keep HB8 hb9)
      | (have hZ := HB7; go_at_call 176; refine (arithM_any 30 _).mono ?_; rintro e w8 ⟨kv8, dv8, rfl, hk8, hd8, hb8⟩; obtain ⟨c8, rfl, hc8⟩ := hk8.at'; obtain ⟨d8, rfl, he8⟩ := hd8.at'; clear hk8 hd8; have HB8 := below_keep HB7 hb8)
      | (have hZ := HB6; go_at_call 176; refine (arithM_any 28 _).mono ?_; rintro e w7 ⟨kv7, dv7, rfl, hk7, hd7, hb7⟩; obtain ⟨c7, rfl, hc7⟩ := hk7.at'; obtain ⟨d7, rfl, he7⟩ := hd7.at'; clear hk7 hd7; have HB7 := below_keep HB6 hb7)
      | (have hZ := HB5; go_at_call 176; refine (arithM_any 26 _).mono ?_; rintro e w6 ⟨kv6, dv6, rfl, hk6, hd6, hb6⟩; obtain ⟨c6, rfl, hc6⟩ := hk6.at'; obtain ⟨d6, rfl, he6⟩ := hd6.at'; clear hk6 hd6; have HB6 := below_keep HB5 hb6)
      | (have hZ := HB4; go_at_call 173; refine (alwaysM_any 2 _).mono ?_; rintro e w5 ⟨v5, rfl, hv5, hb5⟩; obtain ⟨c5, rfl, hc5⟩ := hv5.at'; clear hv5; have HB5 := below_keep HB4 hb5)
      | (have hZ := HB3; go_at_call 173; refine (alwaysM_any 1 _).mono ?_; rintro e w4 ⟨v4, rfl, hv4, hb4⟩; obtain ⟨c4, rfl, hc4⟩ := hv4.at'; clear hv4; have HB4 := below_keep HB3 hb4)
      | (have hZ := HB2; go_at_call 168; refine (kinds_any 2 _).mono ?_; rintro e w3 ⟨v3, rfl, hv3, hb3⟩; obtain ⟨c3, rfl, hc3⟩ := hv3.at'; clear hv3; have HB3 := below_keep HB2 hb3)
      | (have hZ := HB1; go_at_call 168; refine (kinds_any 2 _).mono ?_; rintro e w2 ⟨v2, rfl, hv2, hb2⟩; obtain ⟨c2, rfl, hc2⟩ := hv2.at'; clear hv2; have HB2 := below_keep HB1 hb2)
      | (have hZ := HB0; go_at_call 168; refine (kinds_any 1 _).mono ?_; rintro e w1 ⟨v1, rfl, hv1, hb1⟩; obtain ⟨c1, rfl, hc1⟩ := hv1.at'; clear hv1; have HB1 := below_keep HB0 hb1))
  have hth := (KH.out w17 HB17).2.1
  have hra := World.rangeAt_setCells_same w17 w.heap.size 0 (opsL (w.heap.size + 1) c1 c2 c3 c4 c5 c6 d6 c7 d7 c8 d8 c9 d10 d11 d12 d13 d14 d15 c16 d16 c17 d17) (by rw [hlen]; exact hth)
  have hLD := run_loadVar_mid (P := Tryz.prog) _ w.heap.size 0 158 (opsL (w.heap.size + 1) c1 c2 c3 c4 c5 c6 d6 c7 d7 c8 d8 c9 d10 d11 d12 d13 d14 d15 c16 d16 c17 d17) _ hra Tryz.underlying158 rfl (by rw [hlen]; exact INF)
  go_wp2
  refine bodyPost_ret (v := .agg (opsL (w.heap.size + 1) c1 c2 c3 c4 c5 c6 d6 c7 d7 c8 d8 c9 d10 d11 d12 d13 d14 d15 c16 d16 c17 d17).toArray) ?_ rfl ?_
  · simp [results, Tryz.results134, asAddr, hLD]
  · have hz0 := KZH.out w17 HB17
    have hD17 := Below.refl w17.heap.size w17
    have hD16 := hb17.trans (hD17.mono hb17.size)
    have hD15 := hb16.trans (hD16.mono hb16.size)
    have hD14 := hb15.trans (hD15.mono hb15.size)
    have hD13 := hb14.trans (hD14.mono hb14.size)
    have hD12 := hb13.trans (hD13.mono hb13.size)
    have hD11 := hb12.trans (hD12.mono hb12.size)
    have hD10 := hb11.trans (hD11.mono hb11.size)
    have hD9 := hb10.trans (hD10.mono hb10.size)
    have hD8 := hb9.trans (hD9.mono hb9.size)
    have hD7 := hb8.trans (hD8.mono hb8.size)
    have hD6 := hb7.trans (hD7.mono hb7.size)
    have hD5 := hb6.trans (hD6.mono hb6.size)
    have hD4 := hb5.trans (hD5.mono hb5.size)
    have hD3 := hb4.trans (hD4.mono hb4.size)
    have hD2 := hb3.trans (hD3.mono hb3.size)
    have hD1 := hb2.trans (hD2.mono hb2.size)
    exact ⟨w.heap.size + 1, c1, c2, c3, c4, c5, c6, d6, c7, d7, c8, d8, c9, d10, d11, d12, d13, d14, d15, c16, d16, c17, d17, rfl, ⟨keeps_setCells (KH.out w17 HB17).1 hz0 (by simp) _,
      keeps_setCells ((hD1.cell (p := ⟨_, 0, none⟩) (World.block_lt_of_cell? _ _ hc1)).trans hc1) hz0 (by simp) _,
      keeps_setCells ((hD2.cell (p := ⟨_, 0, none⟩) (World.block_lt_of_cell? _ _ hc2)).trans hc2) hz0 (by simp) _,
      keeps_setCells ((hD3.cell (p := ⟨_, 0, none⟩) (World.block_lt_of_cell? _ _ hc3)).trans hc3) hz0 (by simp) _,
      keeps_setCells ((hD4.cell (p := ⟨_, 0, none⟩) (World.block_lt_of_cell? _ _ hc4)).trans hc4) hz0 (by simp) _,
      keeps_setCells ((hD5.cell (p := ⟨_, 0, none⟩) (World.block_lt_of_cell? _ _ hc5)).trans hc5) hz0 (by simp) _,
      keeps_setCells ((hD6.cell (p := ⟨_, 0, none⟩) (World.block_lt_of_cell? _ _ hc6)).trans hc6) hz0 (by simp) _,
      keeps_setCells ((hD6.cell (p := ⟨_, 0, none⟩) (World.block_lt_of_cell? _ _ he6)).trans he6) hz0 (by simp) _,
      keeps_setCells ((hD7.cell (p := ⟨_, 0, none⟩) (World.block_lt_of_cell? _ _ hc7)).trans hc7) hz0 (by simp) _,
      keeps_setCells ((hD7.cell (p := ⟨_, 0, none⟩) (World.block_lt_of_cell? _ _ he7)).trans he7) hz0 (by simp) _,
      keeps_setCells ((hD8.cell (p := ⟨_, 0, none⟩) (World.block_lt_of_cell? _ _ hc8)).trans hc8) hz0 (by simp) _,
      keeps_setCells ((hD8.cell (p := ⟨_, 0, none⟩) (World.block_lt_of_cell? _ _ he8)).trans he8) hz0 (by simp) _,
      keeps_setCells ((hD9.cell (p := ⟨_, 0, none⟩) (World.block_lt_of_cell? _ _ hc9)).trans hc9) hz0 (by simp) _,
      keeps_setCells ((hD10.cell (p := ⟨_, 0, none⟩) (World.block_lt_of_cell? _ _ he10)).trans he10) hz0 (by simp) _,
      keeps_setCells ((hD11.cell (p := ⟨_, 0, none⟩) (World.block_lt_of_cell? _ _ he11)).trans he11) hz0 (by simp) _,
      keeps_setCells ((hD12.cell (p := ⟨_, 0, none⟩) (World.block_lt_of_cell? _ _ he12)).trans he12) hz0 (by simp) _,
      keeps_setCells ((hD13.cell (p := ⟨_, 0, none⟩) (World.block_lt_of_cell? _ _ he13)).trans he13) hz0 (by simp) _,
      keeps_setCells ((hD14.cell (p := ⟨_, 0, none⟩) (World.block_lt_of_cell? _ _ he14)).trans he14) hz0 (by simp) _,
      keeps_setCells ((hD15.cell (p := ⟨_, 0, none⟩) (World.block_lt_of_cell? _ _ he15)).trans he15) hz0 (by simp) _,
      keeps_setCells ((hD16.cell (p := ⟨_, 0, none⟩) (World.block_lt_of_cell? _ _ hc16)).trans hc16) hz0 (by simp) _,
      keeps_setCells ((hD16.cell (p := ⟨_, 0, none⟩) (World.block_lt_of_cell? _ _ he16)).trans he16) hz0 (by simp) _,
      keeps_setCells ((hD17.cell (p := ⟨_, 0, none⟩) (World.block_lt_of_cell? _ _ hc17)).trans hc17) hz0 (by simp) _,
      keeps_setCells ((hD17.cell (p := ⟨_, 0, none⟩) (World.block_lt_of_cell? _ _ he17)).trans he17) hz0 (by simp) _⟩, below_setCells _ _ _ (KH.out w17 HB17).2.2 (Nat.le_refl _)⟩
end Go.Proofs.YtemhidlaaommaaaGreatDoor
