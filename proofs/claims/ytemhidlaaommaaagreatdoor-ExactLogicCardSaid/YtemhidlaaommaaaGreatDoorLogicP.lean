/- Plain: the logic with three truth values. -/
import Derived.Test.YtemhidlaaommaaaGreatDoorV1
namespace Go.Proofs.YtemhidlaaommaaaGreatDoor
open Go.RowKit

/-- a truth value, or a missing one with a reason -/
inductive T3 : Va → Prop where
  | b (d : Bool) : T3 (truthV d)
  | m (r : Int) (h1 : 1 ≤ r) (h2 : r ≤ 255) : T3 (missV r)
def and3 (x y : Va) : Va := logicR false [x, y]
def or3 (x y : Va) : Va := logicR true [x, y]
def not3 (x : Va) : Va := if x.kind = 0 then x else truthV (decide (x.num = 0))
theorem T3.right {x : Va} (h : T3 x) : rightV x = true := by
  cases h with
  | b d => exact right_bool d
  | m r h1 h2 => exact right_miss h1 h2
theorem T3.isK {x : Va} (h : T3 x) : isK x 1 = true := by
  cases h <;> simp [Go.Proofs.YtemhidlaaommaaaGreatDoor.isK]
theorem doE_ok {op : Int} {l : List Va} (h1 : knownOp op l.length = true) (h2 : l.all rightV = true) (h3 : (opS op.toNat).kinds l = true) : doE op l = (resE (opS op.toNat) l, 0) := by
  unfold doE
  rw [if_neg (by rw [h1]; decide), if_neg (by rw [h2]; decide), if_neg (by rw [h3]; decide)]
theorem do_and {x y : Va} (hx : T3 x) (hy : T3 y) : doE 19 [x, y] = (and3 x y, 0) :=
  doE_ok (op := 19) (l := [x, y]) (by rfl) (by simp [hx.right, hy.right]) (by show allK 1 [x, y] = true; simp [allK, hx.isK, hy.isK])
theorem do_or {x y : Va} (hx : T3 x) (hy : T3 y) : doE 20 [x, y] = (or3 x y, 0) :=
  doE_ok (op := 20) (l := [x, y]) (by rfl) (by simp [hx.right, hy.right]) (by show allK 1 [x, y] = true; simp [allK, hx.isK, hy.isK])
theorem do_not {x : Va} (hx : T3 x) : doE 4 [x] = (not3 x, 0) := by
  rw [doE_ok (op := 4) (l := [x]) (by rfl) (by simp [hx.right]) (by show allK 1 [x] = true; simp [allK, hx.isK])]
  cases hx with
  | b d => cases d <;> rfl
  | m r h1 h2 => rfl
theorem logicR_2 (d : Bool) (x y : Va) : logicR d [x, y] = if x = truthV d ∨ y = truthV d then truthV d else if x.kind = 0 then x else if y.kind = 0 then y else truthV (!d) := by
  unfold logicR
  show (if x = truthV d ∨ y = truthV d then _ else _) = _
  split
  · rfl
  · simp only [List.find?_cons, List.find?_nil]
    by_cases hx : x.kind = 0
    · simp [hx]
    · by_cases hy : y.kind = 0
      · simp [hx, hy]
      · simp [hx, hy]
theorem miss_ne (r : Int) (d : Bool) : missV r ≠ truthV d := fun h => by have := congrArg Va.kind h; simp at this
theorem bool_ne : truthV false ≠ truthV true := by decide
theorem T3.logic {x y : Va} (d : Bool) (hx : T3 x) (hy : T3 y) : T3 (logicR d [x, y]) := by
  rw [logicR_2]
  split
  · exact .b d
  split
  · exact hx
  split
  · exact hy
  · exact .b _
theorem T3.not {x : Va} (hx : T3 x) : T3 (not3 x) := by
  unfold not3; split
  · exact hx
  · exact .b _
theorem not_b (d : Bool) : not3 (truthV d) = truthV (!d) := by cases d <;> rfl
theorem not_m (r : Int) : not3 (missV r) = missV r := rfl
theorem not_not {x : Va} (hx : T3 x) : not3 (not3 x) = x := by
  cases hx with
  | b d => rw [not_b, not_b]; cases d <;> rfl
  | m r h1 h2 => rfl
theorem de_morgan {x y : Va} (d : Bool) (hx : T3 x) (hy : T3 y) : not3 (logicR d [x, y]) = logicR (!d) [not3 x, not3 y] := by
  rw [logicR_2, logicR_2]
  cases hx with
  | b p =>
    cases hy with
    | b q => rw [not_b, not_b]; cases d <;> cases p <;> cases q <;> decide
    | m r h1 h2 =>
      rw [not_b, not_m]
      have e1 := miss_ne r
      cases d <;> cases p <;> simp [e1, not_b, not_m]
  | m r h1 h2 =>
    have e1 := miss_ne r
    cases hy with
    | b q =>
      rw [not_b, not_m]
      cases d <;> cases q <;> simp [e1, not_b, not_m]
    | m s h3 h4 =>
      have e2 := miss_ne s
      rw [not_m, not_m]
      cases d <;> simp [e1, e2, not_m]

/-- the value that a number from 0 to 255 stands for -/
def val3 (n : Int) : Va := if n < 2 then ⟨1, n, 0, []⟩ else missV n
theorem val3_t3 {n : Int} (h1 : 0 ≤ n) (h2 : n ≤ 255) : T3 (val3 n) := by
  unfold val3
  split
  · rcases (by omega : n = 0 ∨ n = 1) with rfl | rfl
    · exact .b false
    · exact .b true
  · exact .m n (by omega) h2
theorem val3_0 : val3 0 = truthV false := rfl
theorem val3_1 : val3 1 = truthV true := rfl
theorem val3_m {n : Int} (h : 1 < n) : val3 n = missV n := by unfold val3; rw [if_neg (by omega)]
theorem and_zero {a b : Int} (h : a = 0 ∨ b = 0) : and3 (val3 a) (val3 b) = truthV false := by
  unfold and3; rw [logicR_2]
  rcases h with rfl | rfl <;> rw [val3_0] <;> simp
theorem and_one : and3 (val3 1) (val3 1) = truthV true := by decide
theorem or_one : or3 (val3 1) (val3 1) = truthV true := by decide
theorem val3_ne {b : Int} (d : Bool) (h : b ≠ (if d then 1 else 0)) (h0 : 0 ≤ b) : val3 b ≠ truthV d := by
  by_cases h1 : 1 < b
  · rw [val3_m h1]; exact miss_ne _ _
  · rcases (by omega : b = 0 ∨ b = 1) with rfl | rfl
    · cases d
      · simp at h
      · decide
    · cases d
      · decide
      · simp at h
theorem and_left {a b : Int} (ha : 1 < a) (hb : 0 < b) : and3 (val3 a) (val3 b) = val3 a := by
  unfold and3; rw [logicR_2, val3_m ha, if_neg, if_pos rfl]
  intro h
  rcases h with h | h
  · exact miss_ne _ _ h
  · exact val3_ne false (by simp; omega) (by omega) h
theorem or_left {a b : Int} (ha : 1 < a) (hb : 0 < b) (h1 : b ≠ 1) : or3 (val3 a) (val3 b) = val3 a := by
  unfold or3; rw [logicR_2, val3_m ha, if_neg, if_pos rfl]
  intro h
  rcases h with h | h
  · exact miss_ne _ _ h
  · exact val3_ne true (by simp; omega) (by omega) h
theorem and_right {b : Int} (hb : 1 < b) : and3 (val3 1) (val3 b) = val3 b := by
  unfold and3; rw [logicR_2, val3_m hb, val3_1, if_neg, if_neg (by decide), if_pos rfl]
  intro h
  rcases h with h | h
  · exact bool_ne h.symm
  · exact miss_ne _ _ h
end Go.Proofs.YtemhidlaaommaaaGreatDoor
