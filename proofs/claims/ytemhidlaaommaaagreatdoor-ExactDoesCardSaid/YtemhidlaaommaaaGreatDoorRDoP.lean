/- Plain: the results of operations, in the document's order of cases. -/
import Derived.Test.YtemhidlaaommaaaGreatDoorD9
import Derived.Test.YtemhidlaaommaaaGreatDoorRefT
namespace Go.Proofs.YtemhidlaaommaaaGreatDoor
open Go.RowKit

/-- what special gives: a result, and whether it is one -/
def spcE (op : Int) (l : List Va) : Va × Bool :=
  if op = 7 then (missR l, true) else if op = 8 then (reasonR l, true)
  else if op = 19 then (truthV false, decide (vat l 0 = truthV false ∨ vat l 1 = truthV false))
  else if op = 20 then (truthV true, decide (vat l 0 = truthV true ∨ vat l 1 = truthV true))
  else if op = 21 then (elseR l, true) else if op = 22 then (ifR l, true) else (zeroV, false)
/-- the result where special has none and no operand is missing -/
def tailE (op : Int) (l : List Va) : Va := if op = 19 then truthV true else if op = 20 then truthV false else (opS op.toNat).res l
theorem res_special {op : Int} {l : List Va} (hr : 4 ≤ op ∧ op ≤ 22) (h : (spcE op l).2 = true) : resE (opS op.toNat) l = (spcE op l).1 := by
  rcases op_ways hr with rfl | rfl | rfl | rfl | rfl | rfl | rfl | rfl | rfl | rfl | rfl | rfl | rfl | rfl | rfl | rfl | rfl | rfl | rfl
  all_goals first
    | rfl
    | exact absurd (show false = true from h) (by decide)
    | (have h' : decide (vat l 0 = truthV false ∨ vat l 1 = truthV false) = true := h
       rw [decide_eq_true_eq] at h'
       show logicR false l = truthV false
       unfold logicR
       rw [if_pos h'])
    | (have h' : decide (vat l 0 = truthV true ∨ vat l 1 = truthV true) = true := h
       rw [decide_eq_true_eq] at h'
       show logicR true l = truthV true
       unfold logicR
       rw [if_pos h'])
theorem res_missing {op : Int} {l : List Va} {x : Va} (hr : 4 ≤ op ∧ op ≤ 22) (h : (spcE op l).2 = false) (hf : l.find? (fun v => decide (v.kind = 0)) = some x) : resE (opS op.toNat) l = x := by
  rcases op_ways hr with rfl | rfl | rfl | rfl | rfl | rfl | rfl | rfl | rfl | rfl | rfl | rfl | rfl | rfl | rfl | rfl | rfl | rfl | rfl
  all_goals first
    | exact absurd (show true = false from h) (by decide)
    | (have h' : decide (vat l 0 = truthV false ∨ vat l 1 = truthV false) = false := h
       rw [decide_eq_false_iff_not] at h'
       show logicR false l = x
       unfold logicR
       rw [if_neg h', hf])
    | (have h' : decide (vat l 0 = truthV true ∨ vat l 1 = truthV true) = false := h
       rw [decide_eq_false_iff_not] at h'
       show logicR true l = x
       unfold logicR
       rw [if_neg h', hf])
    | (unfold resE; rw [if_neg (by decide), hf])
theorem res_tail {op : Int} {l : List Va} (hr : 4 ≤ op ∧ op ≤ 22) (h : (spcE op l).2 = false) (hf : l.find? (fun v => decide (v.kind = 0)) = none) : resE (opS op.toNat) l = tailE op l := by
  rcases op_ways hr with rfl | rfl | rfl | rfl | rfl | rfl | rfl | rfl | rfl | rfl | rfl | rfl | rfl | rfl | rfl | rfl | rfl | rfl | rfl
  all_goals first
    | exact absurd (show true = false from h) (by decide)
    | (have h' : decide (vat l 0 = truthV false ∨ vat l 1 = truthV false) = false := h
       rw [decide_eq_false_iff_not] at h'
       show logicR false l = truthV true
       unfold logicR
       rw [if_neg h', hf]; rfl)
    | (have h' : decide (vat l 0 = truthV true ∨ vat l 1 = truthV true) = false := h
       rw [decide_eq_false_iff_not] at h'
       show logicR true l = truthV false
       unfold logicR
       rw [if_neg h', hf]; rfl)
    | (unfold resE; rw [if_neg (by decide), hf]; rfl)

theorem ratOf {x : Va} (hx : rightV x = true) (hk : isK x 2 = true) (h0 : x.kind ≠ 0) : ∃ q, FitQ q ∧ x = ratV q := by
  have h2 : x.kind = 2 := by unfold isK at hk; rw [decide_eq_true_eq] at hk; omega
  rcases right_cases hx with ⟨r, _, _, rfl⟩ | ⟨b, rfl⟩ | ⟨q, hq, rfl⟩ | ⟨s, _, _, rfl⟩
  · simp at h2
  · simp at h2
  · exact ⟨q, hq, rfl⟩
  · simp at h2
theorem truthOf {x : Va} (hx : rightV x = true) (hk : isK x 1 = true) (h0 : x.kind ≠ 0) : ∃ b, x = truthV b := by
  have h2 : x.kind = 1 := by unfold isK at hk; rw [decide_eq_true_eq] at hk; omega
  rcases right_cases hx with ⟨r, _, _, rfl⟩ | ⟨b, rfl⟩ | ⟨q, hq, rfl⟩ | ⟨s, _, _, rfl⟩
  · simp at h2
  · exact ⟨b, rfl⟩
  · simp at h2
  · simp at h2
theorem find_kind {l : List Va} (h : l.find? (fun v => decide (v.kind = 0)) = none) {i : Nat} {x : Va} (hx : l[i]? = some x) : x.kind ≠ 0 := by
  rw [List.find?_eq_none] at h
  have := h x (List.mem_of_getElem? hx)
  simpa using this
theorem all_at {l : List Va} {f : Va → Bool} (h : l.all f = true) {i : Nat} {x : Va} (hx : l[i]? = some x) : f x = true := by
  rw [List.all_eq_true] at h
  exact h x (List.mem_of_getElem? hx)
theorem vat_at {l : List Va} {i : Nat} {x : Va} (hx : l[i]? = some x) : vat l i = x := by unfold vat; rw [List.getD_eq_getElem?_getD, hx]; rfl
theorem neg_valQ {q : Rat} (h : FitQ q) : (⟨2, -q.num, q.den, []⟩ : Va) = valQ (-q) := by
  unfold valQ
  have h1 : qnum (-q) = qnum q := by unfold qnum; rw [Rat.neg_num, Int.natAbs_neg]
  rw [h1, Rat.neg_den, if_pos ⟨h.num, h.den⟩]
  show (⟨2, -q.num, q.den, []⟩ : Va) = ⟨2, (-q).num, (-q).den, []⟩
  rw [Rat.neg_num, Rat.neg_den]
end Go.Proofs.YtemhidlaaommaaaGreatDoor
