/- Plain law: where types have a result type, values that fit them have a result, which fits it. No program in sight. -/
import Derived.Test.YtemhidlaaommaaaGreatDoorR2
import Derived.Test.YtemhidlaaommaaaGreatDoorV1
namespace Go.Proofs.YtemhidlaaommaaaGreatDoor
open Go.RowKit

inductive FitC (x : Va) (t : Int) : Prop where
  | miss (r : Int) (h1 : 1 ≤ r) (h2 : r ≤ 255) (h : x = missV r)
  | bool (ht : t = 1) (b : Bool) (h : x = truthV b)
  | rat (ht : t = 2 ∨ t = 3) (q : Rat) (hq : FitQ q) (h : x = ratV q) (h1 : t = 2 → q.den = 1)
  | text (ht : t = 4) (s : List UInt8) (h1 : s.length ≤ 16) (h2 : s.all okB = true) (h : x = textV s)

theorem fits_c {x : Va} {t : Int} (h : fitsV x t = true) : 1 ≤ t ∧ t ≤ 4 ∧ rightV x = true ∧ FitC x t := by
  unfold fitsV at h
  simp only [Bool.and_eq_true, decide_eq_true_eq] at h
  obtain ⟨⟨hr, h1, h2⟩, h3⟩ := h
  refine ⟨h1, h2, hr, ?_⟩
  rcases right_cases hr with ⟨r, k1, k2, rfl⟩ | ⟨b, rfl⟩ | ⟨q, hq, rfl⟩ | ⟨s, k1, k2, rfl⟩
  · exact .miss r k1 k2 rfl
  · exact .bool (by simpa using h3) b rfl
  · have h4 : t = 3 ∨ (t = 2 ∧ (q.den : Int) = 1) := by simpa using h3
    exact .rat (by omega) q hq rfl (by omega)
  · exact .text (by simpa using h3) s k1 k2 rfl
theorem fits_miss {r t : Int} (h1 : 1 ≤ r) (h2 : r ≤ 255) (h3 : 1 ≤ t) (h4 : t ≤ 4) : fitsV (missV r) t = true := by
  unfold fitsV; rw [right_miss h1 h2]; simp [h3, h4]
theorem fits_bool (b : Bool) : fitsV (truthV b) 1 = true := by
  unfold fitsV; rw [right_bool b]; simp
theorem fits_rat {q : Rat} {t : Int} (hq : FitQ q) (ht : t = 3 ∨ (t = 2 ∧ q.den = 1)) : fitsV (ratV q) t = true := by
  unfold fitsV; rw [right_rat hq]
  rcases ht with rfl | ⟨rfl, h⟩
  · simp
  · simp [h]
theorem fits_text {s : List UInt8} (h1 : s.length ≤ 16) (h2 : s.all okB = true) : fitsV (textV s) 4 = true := by
  unfold fitsV; rw [right_text h1 h2]; simp
theorem fits_valQ {q : Rat} {t : Int} (ht : t = 3 ∨ (t = 2 ∧ q.den = 1)) : fitsV (valQ q) t = true := by
  unfold valQ
  split
  · rename_i h; exact fits_rat ⟨h.1, h.2⟩ ht
  · exact fits_miss (by decide) (by decide) (by omega) (by omega)
theorem FitC.fits {x : Va} {t : Int} (h : FitC x t) (h1 : 1 ≤ t) (h2 : t ≤ 4) : fitsV x t = true := by
  cases h with
  | miss r k1 k2 h => subst h; exact fits_miss k1 k2 h1 h2
  | bool ht b h => subst ht h; exact fits_bool b
  | rat ht q hq h k => subst h; exact fits_rat hq (by omega)
  | text ht s k1 k2 h => subst ht h; exact fits_text k1 k2
theorem numT_iff (t : Int) : numT t = true ↔ t = 2 ∨ t = 3 := by simp [numT]

/-- a value that fits a type fits the common type of it and another one -/
theorem common_cases {a b : Int} (h : commonT a b ≠ 0) : (a = b ∧ commonT a b = a) ∨ ((a = 2 ∨ a = 3) ∧ (b = 2 ∨ b = 3) ∧ a ≠ b ∧ commonT a b = 3) := by
  unfold commonT at *
  split at h
  · rename_i e; left; rw [if_pos e]; exact ⟨e, rfl⟩
  · rename_i e
    split at h
    · rename_i k; right; rw [if_neg e, if_pos k]; rw [numT_iff, numT_iff] at k; exact ⟨k.1, k.2, e, rfl⟩
    · exact absurd rfl h
theorem fits_common_l {x : Va} {a b : Int} (h : fitsV x a = true) (hc : commonT a b ≠ 0) : fitsV x (commonT a b) = true := by
  obtain ⟨h1, h2, hr, hf⟩ := fits_c h
  rcases common_cases hc with ⟨e, k⟩ | ⟨k1, k2, k3, k⟩
  · rw [k]; exact h
  · rw [k]
    cases hf with
    | miss r k1 k2 h => subst h; exact fits_miss k1 k2 (by decide) (by decide)
    | bool ht b h => omega
    | rat ht q hq h k => subst h; exact fits_rat hq (.inl rfl)
    | text ht s k1 k2 h => omega
theorem common_comm (a b : Int) : commonT a b = commonT b a := by
  unfold commonT
  by_cases h : a = b
  · rw [if_pos h, if_pos h.symm, h]
  · rw [if_neg h, if_neg (Ne.symm h)]
    by_cases k : numT a = true ∧ numT b = true
    · rw [if_pos k, if_pos ⟨k.2, k.1⟩]
    · rw [if_neg k, if_neg (fun e => k ⟨e.2, e.1⟩)]
theorem fits_common_r {x : Va} {a b : Int} (h : fitsV x b = true) (hc : commonT a b ≠ 0) : fitsV x (commonT a b) = true := by
  rw [common_comm] at *; exact fits_common_l h hc

/-- two values whose types have a common one are of the same kind -/
theorem fits_alike {x y : Va} {a b : Int} (hx : fitsV x a = true) (hy : fitsV y b = true) (hc : commonT a b ≠ 0) : alikeV x y = true := by
  have hfx := (fits_c hx).2.2.2
  have hfy := (fits_c hy).2.2.2
  have hc := common_cases hc
  unfold alikeV isK
  rw [Bool.or_eq_true, decide_eq_true_eq, decide_eq_true_eq]
  cases hfx with
  | miss r k1 k2 h => subst h; exact .inl rfl
  | bool ht b h =>
    subst h
    cases hfy with
    | miss r k1 k2 h => subst h; exact .inr (.inl rfl)
    | bool ht b h => subst h; exact .inr (.inr rfl)
    | rat => omega
    | text => omega
  | rat ht q hq h k =>
    subst h
    cases hfy with
    | miss r k1 k2 h => subst h; exact .inr (.inl rfl)
    | bool => omega
    | rat ht q hq h k => subst h; exact .inr (.inr rfl)
    | text => omega
  | text ht s k1 k2 h =>
    subst h
    cases hfy with
    | miss r k1 k2 h => subst h; exact .inr (.inl rfl)
    | bool => omega
    | rat => omega
    | text ht s k1 k2 h => subst h; exact .inr (.inr rfl)
theorem fits_isBool {x : Va} (h : fitsV x 1 = true) : isK x 1 = true := by
  unfold isK; rw [decide_eq_true_eq]
  cases (fits_c h).2.2.2 with
  | miss r k1 k2 h => subst h; exact .inl rfl
  | bool ht b h => subst h; exact .inr rfl
  | rat => omega
  | text => omega
theorem fits_isNum {x : Va} {t : Int} (h : fitsV x t = true) (ht : t = 2 ∨ t = 3) : isK x 2 = true := by
  unfold isK; rw [decide_eq_true_eq]
  cases (fits_c h).2.2.2 with
  | miss r k1 k2 h => subst h; exact .inl rfl
  | bool => omega
  | rat ht q hq h k => subst h; exact .inr rfl
  | text => omega
/-- a number that fits -/
theorem fits_num {x : Va} {t : Int} (h : fitsV x t = true) (ht : t = 2 ∨ t = 3) (h0 : x.kind ≠ 0) : ∃ q, FitQ q ∧ x = ratV q ∧ (t = 2 → q.den = 1) := by
  cases (fits_c h).2.2.2 with
  | miss r k1 k2 h => subst h; exact absurd rfl h0
  | bool => omega
  | rat ht q hq h k => exact ⟨q, hq, h, k⟩
  | text => omega
theorem fits_boolV {x : Va} (h : fitsV x 1 = true) (h0 : x.kind ≠ 0) : ∃ b, x = truthV b := by
  cases (fits_c h).2.2.2 with
  | miss r k1 k2 h => subst h; exact absurd rfl h0
  | bool ht b h => exact ⟨b, h⟩
  | rat => omega
  | text => omega
theorem fits_of_miss {x : Va} {t : Int} (hr : rightV x = true) (h0 : x.kind = 0) (h1 : 1 ≤ t) (h2 : t ≤ 4) : fitsV x t = true := by
  unfold fitsV; rw [hr]; simp [h0, h1, h2]

theorem resE_fits {S : OpS} {l : List Va} {t : Int} (h1 : 1 ≤ t) (h2 : t ≤ 4) (hf : S.free = false) (hr : ∀ x ∈ l, rightV x = true)
    (h : (∀ x ∈ l, x.kind ≠ 0) → fitsV (S.res l) t = true) : fitsV (resE S l) t = true := by
  unfold resE
  rw [hf, if_neg (by decide)]
  cases hfd : l.find? (fun v => decide (v.kind = 0)) with
  | some v =>
    have hm := List.mem_of_find?_eq_some hfd
    have hk := List.find?_some hfd
    exact fits_of_miss (hr v hm) (by simpa using hk) h1 h2
  | none =>
    rw [List.find?_eq_none] at hfd
    exact h fun x hx e => hfd x hx (by simpa using e)

theorem den1_add {p q : Rat} (hp : p.den = 1) (hq : q.den = 1) : (p + q).den = 1 := by
  have e1 : p = ((p.num : Int) : Rat) := Rat.ext rfl (by rw [hp]; rfl)
  have e2 : q = ((q.num : Int) : Rat) := Rat.ext rfl (by rw [hq]; rfl)
  rw [e1, e2, ← Rat.intCast_add]; rfl
theorem den1_sub {p q : Rat} (hp : p.den = 1) (hq : q.den = 1) : (p - q).den = 1 := by
  have e1 : p = ((p.num : Int) : Rat) := Rat.ext rfl (by rw [hp]; rfl)
  have e2 : q = ((q.num : Int) : Rat) := Rat.ext rfl (by rw [hq]; rfl)
  rw [e1, e2, ← Rat.intCast_sub]; rfl
theorem den1_mul {p q : Rat} (hp : p.den = 1) (hq : q.den = 1) : (p * q).den = 1 := by
  have e1 : p = ((p.num : Int) : Rat) := Rat.ext rfl (by rw [hp]; rfl)
  have e2 : q = ((q.num : Int) : Rat) := Rat.ext rfl (by rw [hq]; rfl)
  rw [e1, e2, ← Rat.intCast_mul]; rfl

/-- what an operation with a result type does with values that fit -/
def Sound (S : OpS) (types : List Int) (l : List Va) : Prop :=
  S.typed types ≠ 0 → S.kinds l = true ∧ fitsV (resE S l) (S.typed types) = true

theorem sound_not {a : Int} {x : Va} (h : fitsV x a = true) : Sound (opS 4) [a] [x] := by
  intro ht
  have ha : a = 1 := by
    apply Classical.byContradiction; intro e; exact ht (by show boolT [a] = 0; simp [boolT, e])
  subst ha
  refine ⟨by show allK 1 [x] = true; simp [allK, fits_isBool h], ?_⟩
  exact resE_fits (by decide) (by decide) rfl (by simp; exact (fits_c h).2.2.1) fun _ => fits_bool _
theorem sound_neg {a : Int} {x : Va} (h : fitsV x a = true) : Sound (opS 5) [a] [x] := by
  intro ht
  have ha : a = 2 ∨ a = 3 := by
    apply Classical.byContradiction; intro e; exact ht (by show number1T [a] = 0; simp [number1T, numT_iff, e])
  have e : (opS 5).typed [a] = a := by show number1T [a] = a; simp [number1T, numT_iff, ha]
  rw [e]
  refine ⟨by show allK 2 [x] = true; simp [allK, fits_isNum h ha], ?_⟩
  refine resE_fits (by omega) (by omega) rfl (by simp; exact (fits_c h).2.2.1) fun h0 => ?_
  obtain ⟨q, hq, rfl, hd⟩ := fits_num h ha (h0 _ (by simp))
  have e2 : (opS 5).res [ratV q] = ratV (-q) := rfl
  rw [e2]
  exact fits_rat ⟨by have := hq.num; unfold qnum at *; rw [Rat.neg_num, Int.natAbs_neg]; exact this, hq.den⟩ (by
    rcases ha with rfl | rfl
    · exact .inr ⟨rfl, hd rfl⟩
    · exact .inl rfl)
theorem sound_floor {a : Int} {x : Va} (h : fitsV x a = true) : Sound (opS 6) [a] [x] := by
  intro ht
  have ha : a = 2 ∨ a = 3 := by
    apply Classical.byContradiction; intro e; exact ht (by show min (number1T [a]) 2 = 0; simp [number1T, numT_iff, e]; decide)
  have e : (opS 6).typed [a] = 2 := by
    show min (number1T [a]) 2 = 2
    rcases ha with rfl | rfl <;> decide
  rw [e]
  refine ⟨by show allK 2 [x] = true; simp [allK, fits_isNum h ha], ?_⟩
  exact resE_fits (by omega) (by omega) rfl (by simp; exact (fits_c h).2.2.1) fun h0 => fits_valQ (.inr ⟨rfl, (flQ_parts _).2.1⟩)
theorem sound_missing {a : Int} {x : Va} (_ : fitsV x a = true) : Sound (opS 7) [a] [x] := fun _ => ⟨rfl, fits_bool _⟩
theorem sound_reason {a : Int} {x : Va} (h : fitsV x a = true) : Sound (opS 8) [a] [x] := fun _ => by
  refine ⟨rfl, ?_⟩
  show fitsV ⟨2, if x.kind = 0 then x.num else 0, 1, []⟩ 2 = true
  have key : ∀ n : Nat, n ≤ 255 → fitsV ⟨2, (n : Int), 1, []⟩ 2 = true := fun n hn => by
    have hq : FitQ ((n : Int) : Rat) := ⟨by show (n : Int).natAbs ≤ T40; unfold T40; omega, by show 1 ≤ T40; decide⟩
    exact fits_rat hq (.inr ⟨rfl, rfl⟩)
  have hr := (fits_c h).2.2.1
  rcases right_cases hr with ⟨r, k1, k2, rfl⟩ | ⟨b, rfl⟩ | ⟨q, hq, rfl⟩ | ⟨s, k1, k2, rfl⟩
  · have := key r.toNat (by omega)
    rw [show ((r.toNat : Nat) : Int) = r from by omega] at this
    exact this
  · exact key 0 (by decide)
  · exact key 0 (by decide)
  · exact key 0 (by decide)

theorem sums_cases {a b : Int} (h : sumsT [a, b] ≠ 0) : (a = 2 ∨ a = 3) ∧ (b = 2 ∨ b = 3) ∧ sumsT [a, b] = if a = 2 ∧ b = 2 then 2 else 3 := by
  have e : sumsT [a, b] = if numT a = true then commonT a b else 0 := rfl
  rw [e] at h ⊢
  by_cases ha : numT a = true
  · rw [if_pos ha] at h ⊢
    rw [numT_iff] at ha
    rcases common_cases h with ⟨rfl, k⟩ | ⟨k1, k2, k3, k⟩
    · refine ⟨ha, ha, ?_⟩
      rw [k]; split <;> omega
    · refine ⟨ha, k2, ?_⟩
      rw [k]; split <;> omega
  · rw [if_neg ha] at h; exact absurd rfl h
theorem sound_arith (f : Rat → Rat → Rat) (hf : ∀ p q : Rat, p.den = 1 → q.den = 1 → (f p q).den = 1) {a b : Int} {x y : Va} (hx : fitsV x a = true) (hy : fitsV y b = true) : Sound (arithS f) [a, b] [x, y] := by
  intro ht
  obtain ⟨ha, hb, e⟩ := sums_cases (a := a) (b := b) ht
  have e : (arithS f).typed [a, b] = if a = 2 ∧ b = 2 then 2 else 3 := e
  rw [e]
  refine ⟨by show allK 2 [x, y] = true; simp [allK, fits_isNum hx ha, fits_isNum hy hb], ?_⟩
  refine resE_fits (by split <;> decide) (by split <;> decide) rfl (by simp; exact ⟨(fits_c hx).2.2.1, (fits_c hy).2.2.1⟩) fun h0 => ?_
  obtain ⟨p, hp, rfl, hdp⟩ := fits_num hx ha (h0 _ (by simp))
  obtain ⟨q, hq, rfl, hdq⟩ := fits_num hy hb (h0 _ (by simp))
  show fitsV (valQ (f (qOf (ratV p)) (qOf (ratV q)))) _ = true
  rw [qOf_ratV, qOf_ratV]
  refine fits_valQ ?_
  split
  · rename_i h; exact .inr ⟨rfl, hf _ _ (hdp h.1) (hdq h.2)⟩
  · exact .inl rfl
theorem sound_div {a b : Int} {x y : Va} (hx : fitsV x a = true) (hy : fitsV y b = true) : Sound (opS 12) [a, b] [x, y] := by
  intro ht
  have hs : sumsT [a, b] ≠ 0 := fun e => ht (by show quoT [a, b] = 0; simp [quoT, e])
  obtain ⟨ha, hb, -⟩ := sums_cases hs
  have e : (opS 12).typed [a, b] = 3 := by show quoT [a, b] = 3; simp [quoT, hs]
  rw [e]
  refine ⟨by show allK 2 [x, y] = true; simp [allK, fits_isNum hx ha, fits_isNum hy hb], ?_⟩
  refine resE_fits (by decide) (by decide) rfl (by simp; exact ⟨(fits_c hx).2.2.1, (fits_c hy).2.2.1⟩) fun h0 => ?_
  show fitsV (if qOf y = 0 then missV 3 else valQ (qOf x / qOf y)) 3 = true
  split
  · exact fits_miss (by decide) (by decide) (by decide) (by decide)
  · exact fits_valQ (.inl rfl)
theorem sound_comp (f : Int → Bool) {a b : Int} {x y : Va} (hx : fitsV x a = true) (hy : fitsV y b = true) : Sound (compS f) [a, b] [x, y] := by
  intro ht
  have hc : commonT a b ≠ 0 := fun e => ht (by show compT [a, b] = 0; unfold compT; rw [if_pos (show lastCommon [a, b] = 0 from e)])
  have e : (compS f).typed [a, b] = 1 := by show compT [a, b] = 1; unfold compT; rw [if_neg (show ¬ lastCommon [a, b] = 0 from hc)]
  rw [e]
  refine ⟨fits_alike hx hy hc, ?_⟩
  exact resE_fits (by decide) (by decide) rfl (by simp; exact ⟨(fits_c hx).2.2.1, (fits_c hy).2.2.1⟩) fun h0 => fits_bool _
theorem choice2 {a b : Int} (h : choiceT [a, b] ≠ 0) : a = 1 ∧ b = 1 ∧ choiceT [a, b] = 1 := by
  have e : choiceT [a, b] = if a = 1 then commonT a b else 0 := rfl
  rw [e] at h ⊢
  by_cases ha : a = 1
  · rw [if_pos ha] at h ⊢
    rcases common_cases h with ⟨k1, k⟩ | ⟨k1, k2, k3, k⟩
    · exact ⟨ha, by omega, by omega⟩
    · omega
  · rw [if_neg ha] at h; exact absurd rfl h
theorem sound_logic (d : Bool) {a b : Int} {x y : Va} (hx : fitsV x a = true) (hy : fitsV y b = true) : Sound (logicS d) [a, b] [x, y] := by
  intro ht
  obtain ⟨rfl, rfl, e⟩ := choice2 (a := a) (b := b) ht
  have e : (logicS d).typed [1, 1] = 1 := e
  rw [e]
  refine ⟨by show allK 1 [x, y] = true; simp [allK, fits_isBool hx, fits_isBool hy], ?_⟩
  show fitsV (logicR d [x, y]) 1 = true
  unfold logicR
  split
  · exact fits_bool d
  · cases hfd : List.find? (fun v => decide (v.kind = 0)) [x, y] with
    | some v =>
      have hm := List.mem_of_find?_eq_some hfd
      simp only [List.mem_cons, List.not_mem_nil, or_false] at hm
      rcases hm with rfl | rfl
      · exact hx
      · exact hy
    | none => exact fits_bool _
theorem sound_else {a b : Int} {x y : Va} (hx : fitsV x a = true) (hy : fitsV y b = true) : Sound (opS 21) [a, b] [x, y] := by
  intro ht
  have hc : commonT a b ≠ 0 := ht
  refine ⟨fits_alike hx hy hc, ?_⟩
  show fitsV (if x.kind = 0 then y else x) (commonT a b) = true
  split
  · exact fits_common_r hy hc
  · exact fits_common_l hx hc
theorem sound_if {a b c : Int} {x y z : Va} (hx : fitsV x a = true) (hy : fitsV y b = true) (hz : fitsV z c = true) : Sound (opS 22) [a, b, c] [x, y, z] := by
  intro ht
  have e : (opS 22).typed [a, b, c] = if a = 1 then commonT b c else 0 := rfl
  rw [e] at ht ⊢
  by_cases ha : a = 1
  · subst ha
    rw [if_pos rfl] at ht ⊢
    refine ⟨?_, ?_⟩
    · show (isK x 1 && alikeV y z) = true
      rw [fits_isBool hx, fits_alike hy hz ht]; rfl
    · show fitsV (if x.kind = 0 then x else if x.num = 1 then y else z) (commonT b c) = true
      split
      · rename_i h0
        have h4 := fits_c (fits_common_l hy ht)
        exact fits_of_miss (fits_c hx).2.2.1 h0 h4.1 h4.2.1
      split
      · exact fits_common_l hy ht
      · exact fits_common_r hz ht
  · rw [if_neg ha] at ht; exact absurd rfl ht

theorem sound1 (S : OpS) (hn : S.n = 1) (types : List Int) (l : List Va) (ht : S.n = types.length) (hl : l.length = types.length) (hf : ∀ i, i < l.length → fitsV (vat l i) (tat types i) = true)
    (h : ∀ a x, fitsV x a = true → Sound S [a] [x]) : Sound S types l := by
  rw [hn] at ht
  match types, l, ht, hl with
  | [a], [x], _, _ => exact h a x (hf 0 (by simp))
theorem sound2 (S : OpS) (hn : S.n = 2) (types : List Int) (l : List Va) (ht : S.n = types.length) (hl : l.length = types.length) (hf : ∀ i, i < l.length → fitsV (vat l i) (tat types i) = true)
    (h : ∀ a b x y, fitsV x a = true → fitsV y b = true → Sound S [a, b] [x, y]) : Sound S types l := by
  rw [hn] at ht
  match types, l, ht, hl with
  | [a, b], [x, y], _, _ => exact h a b x y (hf 0 (by simp)) (hf 1 (by simp))
theorem sound3 (S : OpS) (hn : S.n = 3) (types : List Int) (l : List Va) (ht : S.n = types.length) (hl : l.length = types.length) (hf : ∀ i, i < l.length → fitsV (vat l i) (tat types i) = true)
    (h : ∀ a b c x y z, fitsV x a = true → fitsV y b = true → fitsV z c = true → Sound S [a, b, c] [x, y, z]) : Sound S types l := by
  rw [hn] at ht
  match types, l, ht, hl with
  | [a, b, c], [x, y, z], _, _ => exact h a b c x y z (hf 0 (by simp)) (hf 1 (by simp)) (hf 2 (by simp))
theorem sound_all (op : Nat) (h1 : 4 ≤ op) (h2 : op ≤ 22) (types : List Int) (l : List Va) (ht : (opS op).n = types.length) (hl : l.length = types.length) (hf : ∀ i, i < l.length → fitsV (vat l i) (tat types i) = true) :
    Sound (opS op) types l := by
  obtain rfl | rfl | rfl | rfl | rfl | rfl | rfl | rfl | rfl | rfl | rfl | rfl | rfl | rfl | rfl | rfl | rfl | rfl | rfl :
    op = 4 ∨ op = 5 ∨ op = 6 ∨ op = 7 ∨ op = 8 ∨ op = 9 ∨ op = 10 ∨ op = 11 ∨ op = 12 ∨ op = 13 ∨ op = 14 ∨ op = 15 ∨ op = 16 ∨ op = 17 ∨ op = 18 ∨ op = 19 ∨ op = 20 ∨ op = 21 ∨ op = 22 := by omega
  · exact sound1 _ rfl _ _ ht hl hf fun _ _ => sound_not
  · exact sound1 _ rfl _ _ ht hl hf fun _ _ => sound_neg
  · exact sound1 _ rfl _ _ ht hl hf fun _ _ => sound_floor
  · exact sound1 _ rfl _ _ ht hl hf fun _ _ => sound_missing
  · exact sound1 _ rfl _ _ ht hl hf fun _ _ => sound_reason
  · exact sound2 _ rfl _ _ ht hl hf fun _ _ _ _ => sound_arith _ fun _ _ => den1_add
  · exact sound2 _ rfl _ _ ht hl hf fun _ _ _ _ => sound_arith _ fun _ _ => den1_sub
  · exact sound2 _ rfl _ _ ht hl hf fun _ _ _ _ => sound_arith _ fun _ _ => den1_mul
  · exact sound2 _ rfl _ _ ht hl hf fun _ _ _ _ => sound_div
  · exact sound2 _ rfl _ _ ht hl hf fun _ _ _ _ => sound_comp _
  · exact sound2 _ rfl _ _ ht hl hf fun _ _ _ _ => sound_comp _
  · exact sound2 _ rfl _ _ ht hl hf fun _ _ _ _ => sound_comp _
  · exact sound2 _ rfl _ _ ht hl hf fun _ _ _ _ => sound_comp _
  · exact sound2 _ rfl _ _ ht hl hf fun _ _ _ _ => sound_comp _
  · exact sound2 _ rfl _ _ ht hl hf fun _ _ _ _ => sound_comp _
  · exact sound2 _ rfl _ _ ht hl hf fun _ _ _ _ => sound_logic _
  · exact sound2 _ rfl _ _ ht hl hf fun _ _ _ _ => sound_logic _
  · exact sound2 _ rfl _ _ ht hl hf fun _ _ _ _ => sound_else
  · exact sound3 _ rfl _ _ ht hl hf fun _ _ _ _ _ _ => sound_if

/-- P1.13 -/
theorem typed_law (op : Int) (types : List Int) (l : List Va) (t : Int) (hl : l.length = types.length) (ht : typeE op types = (t, 0))
    (hf : ∀ i, i < l.length → fitsV (vat l i) (tat types i) = true) : ∃ v, doE op l = (v, 0) ∧ fitsV v t = true := by
  unfold typeE at ht
  split at ht
  · exact absurd (congrArg Prod.snd ht) (by simp)
  rename_i hk
  split at ht
  · exact absurd (congrArg Prod.snd ht) (by simp)
  split at ht
  · exact absurd (congrArg Prod.snd ht) (by simp)
  rename_i h0
  have ht : (opS op.toNat).typed types = t := congrArg Prod.fst ht
  have hk' : knownOp op types.length = true := by simpa using hk
  have hk2 := hk'
  unfold knownOp at hk2
  rw [Bool.and_eq_true, decide_eq_true_eq, decide_eq_true_eq] at hk2
  obtain ⟨s1, s2⟩ := sound_all op.toNat (by omega) (by omega) types l hk2.2 hl hf h0
  rw [ht] at s2
  refine ⟨_, ?_, s2⟩
  unfold doE
  rw [if_neg (by rw [hl, hk']; decide), if_neg ?_, if_neg (by rw [s1]; decide)]
  intro e
  have : l.all rightV = true := by
    rw [List.all_eq_true]
    intro x hx
    obtain ⟨i, hi, rfl⟩ := List.getElem_of_mem hx
    have := (fits_c (hf i hi)).2.2.1
    simpa [vat, List.getElem?_eq_getElem hi] using this
  rw [this] at e; cases e
end Go.Proofs.YtemhidlaaommaaaGreatDoor
