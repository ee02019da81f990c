/- Plain: the value that a string may denote, as the document's guess has it. No program in sight. -/
import Derived.Test.YtemhidlaaommaaaGreatDoorE1
namespace Go.Proofs.YtemhidlaaommaaaGreatDoor
open Go.RowKit

/-- the text between quotes: byte after byte, one of each pair of quotes; fuel, the next byte's place, what there is -/
def gq (l : List UInt8) : Nat → Nat → List UInt8 → List UInt8
  | 0, _, t => t
  | f + 1, i, t => if i < l.length - 1 ∧ i < 40 then gq l f (if l.getD i 0 = 39 then i + 2 else i + 1) (t ++ [l.getD i 0]) else t
theorem gq_end {l : List UInt8} {i : Nat} (f : Nat) (t : List UInt8) (h : ¬ (i < l.length - 1 ∧ i < 40)) : gq l f i t = t := by
  cases f with
  | zero => rfl
  | succ f => rw [gq, if_neg h]
theorem gq_step {l : List UInt8} {i : Nat} (f : Nat) (t : List UInt8) (h : i < l.length - 1 ∧ i < 40) : gq l (f + 1) i t = gq l f (if l.getD i 0 = 39 then i + 2 else i + 1) (t ++ [l.getD i 0]) := by rw [gq, if_pos h]
theorem gq_dbl (s : List UInt8) : ∀ (pre : List UInt8) (f : Nat) (t : List UInt8), pre.length + (dbl s).length ≤ 40 → (dbl s).length ≤ f → gq (pre ++ (dbl s ++ [39])) f pre.length t = t ++ s := by
  induction s with
  | nil =>
    intro pre f t _ _
    rw [gq_end _ _ (by simp [dbl]), List.append_nil]
  | cons c s ih =>
    intro pre f t h1 h2
    by_cases hc : c = 39
    · subst hc
      rw [show dbl (39 :: s) = 39 :: 39 :: dbl s from by rw [dbl, if_pos rfl]] at h1 h2 ⊢
      simp only [List.length_cons] at h1 h2
      obtain ⟨f, rfl⟩ : ∃ g, f = g + 1 := ⟨f - 1, by omega⟩
      have hg : (pre ++ (39 :: 39 :: dbl s ++ [39])).getD pre.length 0 = 39 := by simp [List.getD_eq_getElem?_getD]
      rw [gq_step _ _ ⟨by simp, by omega⟩, hg, if_pos rfl]
      have := ih (pre ++ [39, 39]) f (t ++ [39]) (by simp; omega) (by omega)
      simpa using this
    · rw [show dbl (c :: s) = c :: dbl s from by rw [dbl, if_neg hc]] at h1 h2 ⊢
      simp only [List.length_cons] at h1 h2
      obtain ⟨f, rfl⟩ : ∃ g, f = g + 1 := ⟨f - 1, by omega⟩
      have hg : (pre ++ (c :: dbl s ++ [39])).getD pre.length 0 = c := by simp [List.getD_eq_getElem?_getD]
      rw [gq_step _ _ ⟨by simp, by omega⟩, hg, if_neg hc]
      have := ih (pre ++ [c]) f (t ++ [c]) (by simp; omega) (by omega)
      simpa using this

def guessV (l : List UInt8) : Va :=
  if l = sTrue ∨ l = sFalse then truthV (decide (l = sTrue))
  else if 1 < l.length ∧ l.length < 5 ∧ l.head? = some 63 then (match parseD (l.drop 1) with | some n => missV n | none => zeroV)
  else if 1 < l.length ∧ l.head? = some 39 then textV (gq l 40 1 [])
  else if l.length < 30 then (match parseQ l with | some q => valQ q | none => zeroV)
  else zeroV

theorem ratS_len30 {q : Rat} (h : FitQ q) : (ratS q).length < 30 := by
  have h1 := dec_len_le (qnum q) 13 (by decide) (Nat.lt_of_le_of_lt h.num (by decide))
  have h2 := dec_len_le q.den 13 (by decide) (Nat.lt_of_le_of_lt h.den (by decide))
  unfold ratS
  simp only [List.length_append]
  split <;> split <;> simp <;> omega
theorem dec_pos (n : Nat) : 0 < (dec n).length := by
  have h := (dec_parts n).1
  exact List.length_pos_iff.2 h
theorem guess_right {x : Va} (hx : rightV x = true) : guessV (printV x) = x := by
  rcases right_cases hx with ⟨r, h1, h2, rfl⟩ | ⟨b, rfl⟩ | ⟨q, hq, rfl⟩ | ⟨s, h1, h2, rfl⟩
  · rw [print_miss]
    unfold guessV
    have h3 := dec3 (n := r.natAbs) (by omega)
    have h4 := dec_pos r.natAbs
    rw [if_neg (by simp), if_pos ⟨by simp only [List.length_cons]; omega, by simp only [List.length_cons]; omega, rfl⟩, List.drop_one, List.tail_cons, parseD_dec]
    show missV ((r.natAbs : Nat) : Int) = _
    rw [show ((r.natAbs : Nat) : Int) = r from by omega]
  · cases b
    · rfl
    · rfl
  · rw [print_rat]
    unfold guessV
    have hh : ∀ c : UInt8, headK [c] ≠ 2 → (ratS q).head? ≠ some c := by
      intro c hc e
      have h := head_rat q
      cases hl : ratS q with
      | nil => rw [hl] at e; simp at e
      | cons a t =>
        rw [hl] at e h
        simp only [List.head?_cons, Option.some.injEq] at e
        subst e
        exact hc h
    rw [if_neg (by rintro (h | h); exact ratS_ne (by decide) h; exact ratS_ne (by decide) h), if_neg (fun h => hh 63 (by decide) h.2.2), if_neg (fun h => hh 39 (by decide) h.2), if_pos (ratS_len30 hq), parseQ_ratS]
    show valQ q = _
    unfold valQ
    rw [if_pos ⟨hq.num, hq.den⟩]
  · rw [print_text]
    unfold guessV
    have hl := dbl_len s
    rw [if_neg (by simp), if_neg (by simp), if_pos ⟨by simp, by simp⟩]
    have := gq_dbl s [39] 40 [] (by simp only [List.length_cons, List.length_nil]; omega) (by omega)
    rw [List.nil_append] at this
    rw [show (39 :: dbl s ++ [39] : List UInt8) = [39] ++ (dbl s ++ [39]) from rfl]
    exact congrArg textV this
theorem guess_eq {l : List UInt8} (h : rightV (readM l) = true) : guessV l = readM l := by
  have := guess_right h
  rwa [readM_print h] at this
theorem guess_iff (l : List UInt8) : (rightV (guessV l) = true ∧ printV (guessV l) = l) ↔ rightV (readM l) = true := by
  constructor
  · rintro ⟨h1, h2⟩
    have := readM_right h1
    rw [h2] at this
    rw [this]; exact h1
  · intro h
    rw [guess_eq h]
    exact ⟨h, readM_print h⟩
end Go.Proofs.YtemhidlaaommaaaGreatDoor
