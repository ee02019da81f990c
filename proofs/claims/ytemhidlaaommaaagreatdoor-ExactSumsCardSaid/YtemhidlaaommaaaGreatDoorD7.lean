/- Lemmas and contracts, each under its own condition: Contract: find. The operations are what the plain text says. Contract: find. Contract: find. -/
import Derived.Test.YtemhidlaaommaaaGreatDoorD6
/- Contract: find. -/
namespace Go.Proofs.YtemhidlaaommaaaGreatDoor
open Go.RowKit

/-- what an operation's three functions do -/
structure OpOk (w : World) (kv tv dv : Value) (s : OpS) : Prop where
  kinds : ∃ g lb, kv = .func (.func g) #[] lb ∧ (∀ args w1, (callFunc g args).run Tryz.prog w1 = .ok (.enter g args) w1) ∧
    ∀ w1 v l, Below w.heap.size w w1 → VaL w1 v l → l.length = s.n → Calls Tryz.prog g (#[v] ++ lb) w1 fun e w' => e = .returned (.bool (s.kinds l)) ∧ Below w1.heap.size w1 w'
  typed : ∃ g lb, tv = .func (.func g) #[] lb ∧ (∀ args w1, (callFunc g args).run Tryz.prog w1 = .ok (.enter g args) w1) ∧
    ∀ w1 v l, Below w.heap.size w w1 → InL w1 v l → l.length = s.n → l.all (fun t => decide (1 ≤ t ∧ t ≤ 4)) = true → Calls Tryz.prog g (#[v] ++ lb) w1 (RetI (s.typed l) w1)
  res : ∃ g lb, dv = .func (.func g) #[] lb ∧ (∀ args w1, (callFunc g args).run Tryz.prog w1 = .ok (.enter g args) w1) ∧
    ∀ w1 b cap l, Below w.heap.size w w1 → VaL w1 (.slice (some ⟨b, 0, none⟩) l.length cap) l → b < w1.heap.size → w.heap.size ≤ b → (∀ i, w1.frozen? ⟨b, i, none⟩ = false) → l.length = s.n → l.all rightV = true → s.kinds l = true →
      (s.free = false → l.find? (fun v => decide (v.kind = 0)) = none) → Calls Tryz.prog g (#[.slice (some ⟨b, 0, none⟩) l.length cap] ++ lb) w1 (RetX b (s.res l) w1)
theorem OpOk.later {w w' : World} {kv tv dv : Value} {s : OpS} (h : OpOk w kv tv dv s) (hb : Below w.heap.size w w') : OpOk w' kv tv dv s :=
  ⟨let ⟨g, lb, e, h1, h2⟩ := h.kinds; ⟨g, lb, e, h1, fun w1 v l hb1 => h2 w1 v l (hb.trans (hb1.mono hb.size))⟩,
   let ⟨g, lb, e, h1, h2⟩ := h.typed; ⟨g, lb, e, h1, fun w1 v l hb1 => h2 w1 v l (hb.trans (hb1.mono hb.size))⟩,
   let ⟨g, lb, e, h1, h2⟩ := h.res; ⟨g, lb, e, h1, fun w1 b cap l hb1 h3 h4 h5 => h2 w1 b cap l (hb.trans (hb1.mono hb.size)) h3 h4 (Nat.le_trans hb.size h5)⟩⟩

/-! ### the functions of kinds -/
theorem kOk {w w1 : World} {c : Nat} {k : Int} (hc : w.cell? ⟨c, 0, none⟩ = some (.int .i64 k)) (hb : Below w.heap.size w w1) {v : Value} {l : List Va} (hv : VaL w1 v l) (hl : l.length = 1 ∨ l.length = 2) :
    Calls Tryz.prog 205 (#[v] ++ #[.pointer (some ⟨c, 0, none⟩)]) w1 fun e w' => e = .returned (.bool (allK k l)) ∧ Below w1.heap.size w1 w' :=
  kinds1_any l hl v c k w1 hv ((hb.cell (p := ⟨c, 0, none⟩) (World.block_lt_of_cell? _ _ hc)).trans hc)
theorem len1 {α : Type} {l : List α} (h : l.length = 1) : ∃ a, l = [a] := by
  match l, h with
  | [a], _ => exact ⟨a, rfl⟩
theorem len2 {α : Type} {l : List α} (h : l.length = 2) : ∃ a b, l = [a, b] := by
  match l, h with
  | [a, b], _ => exact ⟨a, b, rfl⟩
theorem len3 {α : Type} {l : List α} (h : l.length = 3) : ∃ a b c, l = [a, b, c] := by
  match l, h with
  | [a, b, c], _ => exact ⟨a, b, c, rfl⟩
theorem all1 {a : Va} (h : [a].all rightV = true) : rightV a = true := by simpa using h
theorem all2 {a b : Va} (h : [a, b].all rightV = true) : rightV a = true ∧ rightV b = true := by simpa using h
theorem fnd1 {a : Va} (h : [a].find? (fun v => decide (v.kind = 0)) = none) : a.kind ≠ 0 := by simpa using h
theorem fnd2 {a b : Va} (h : [a, b].find? (fun v => decide (v.kind = 0)) = none) : a.kind ≠ 0 ∧ b.kind ≠ 0 := by simpa using h
theorem kind1_of {a : Va} (h : rightV a = true) (h0 : a.kind ≠ 0) (hk : isK a 1 = true) : ∃ b, a = truthV b := by
  have hk' : a.kind = 1 := by
    unfold isK at hk; rw [decide_eq_true_eq] at hk
    rcases hk with hk | hk
    · exact absurd hk h0
    · exact hk
  rcases right_cases h with ⟨r, h1, h2, rfl⟩ | ⟨b, rfl⟩ | ⟨q, hq, rfl⟩ | ⟨s, h1, h2, rfl⟩
  · cases hk'
  · exact ⟨b, rfl⟩
  · cases hk'
  · cases hk'
theorem kind2_of {a : Va} (h : rightV a = true) (h0 : a.kind ≠ 0) (hk : isK a 2 = true) : ∃ q, FitQ q ∧ a = ratV q := by
  have hk' : a.kind = 2 := by
    unfold isK at hk; rw [decide_eq_true_eq] at hk
    rcases hk with hk | hk
    · exact absurd hk h0
    · exact hk
  rcases right_cases h with ⟨r, h1, h2, rfl⟩ | ⟨b, rfl⟩ | ⟨q, hq, rfl⟩ | ⟨s, h1, h2, rfl⟩
  · cases hk'
  · cases hk'
  · exact ⟨q, hq, rfl⟩
  · cases hk'
theorem kind01_of {a : Va} (h : rightV a = true) (hk : isK a 1 = true) : (∃ r : Int, a = missV r) ∨ ∃ b, a = truthV b := by
  by_cases h0 : a.kind = 0
  · left
    rcases right_cases h with ⟨r, h1, h2, rfl⟩ | ⟨b, rfl⟩ | ⟨q, hq, rfl⟩ | ⟨s, h1, h2, rfl⟩
    · exact ⟨r, rfl⟩
    · cases h0
    · cases h0
    · cases h0
  · right; exact kind1_of h h0 hk
theorem RetX.less {B b : Nat} {x : Va} {w w' : World} {e : Ending} (h : RetX B x w e w') (hb : b ≤ B) : RetX b x w e w' := ⟨h.1, h.2.mono hb⟩
end Go.Proofs.YtemhidlaaommaaaGreatDoor
/- The operations are what the plain text says. -/
namespace Go.Proofs.YtemhidlaaommaaaGreatDoor
open Go.RowKit

theorem ap0 (v : Value) : #[v] ++ (#[] : Array Value) = #[v] := rfl
theorem ap1 (v p : Value) : #[v] ++ (#[p] : Array Value) = #[v, p] := rfl
theorem kAll1 {k : Int} {a : Va} (h : allK k [a] = true) : isK a k = true := by simpa [allK] using h
theorem kAll2 {k : Int} {a b : Va} (h : allK k [a, b] = true) : isK a k = true ∧ isK b k = true := by simpa [allK] using h
theorem common_range {l : List Int} (h : l.all (fun t => decide (1 ≤ t ∧ t ≤ 4)) = true) (h2 : l.length = 2) : 0 ≤ lastCommon l ∧ lastCommon l ≤ 4 := by
  obtain ⟨x, y, rfl⟩ := len2 h2
  simp only [List.all_cons, List.all_nil, Bool.and_true, Bool.and_eq_true, decide_eq_true_eq] at h
  show 0 ≤ commonT x y ∧ commonT x y ≤ 4
  unfold commonT
  split
  · omega
  split
  · omega
  · omega

set_option maxRecDepth 100000 in
theorem op4 {w : World} {c : Nat} (hc : w.cell? ⟨c, 0, none⟩ = some (.int .i64 1)) : OpOk w (.func (.func 205) #[] #[.pointer (some ⟨c, 0, none⟩)]) (.func (.func 163) #[] #[]) (.func (.func 169) #[] #[]) (opS 4) := by
  refine ⟨?_, ?_, ?_⟩
  · exact ⟨_, _, rfl, fun _ _ => rfl, fun w1 v l hb hv hl => kOk hc hb hv (.inl hl)⟩
  · exact ⟨_, _, rfl, fun _ _ => rfl, fun w1 v l hb hv hl ha => by
    obtain ⟨x, rfl⟩ := len1 hl
    rw [ap0]
    exact boolean_any x [] v w1 hv⟩
  · exact ⟨_, _, rfl, fun _ _ => rfl, fun w1 b cap l hb hv hlt hge hf hl hr hk hfree => by
    obtain ⟨a, rfl⟩ := len1 hl
    rw [ap0]
    obtain ⟨t, rfl⟩ := kind1_of (all1 hr) (fnd1 (hfree rfl)) (kAll1 hk)
    exact (notR_any t _ w1 hv).mono fun e w' h => h.less (Nat.le_of_lt hlt)⟩

set_option maxRecDepth 100000 in
theorem op5 {w : World} {c : Nat} (hc : w.cell? ⟨c, 0, none⟩ = some (.int .i64 2)) : OpOk w (.func (.func 205) #[] #[.pointer (some ⟨c, 0, none⟩)]) (.func (.func 160) #[] #[]) (.func (.func 170) #[] #[]) (opS 5) := by
  refine ⟨?_, ?_, ?_⟩
  · exact ⟨_, _, rfl, fun _ _ => rfl, fun w1 v l hb hv hl => kOk hc hb hv (.inl hl)⟩
  · exact ⟨_, _, rfl, fun _ _ => rfl, fun w1 v l hb hv hl ha => by
    obtain ⟨x, rfl⟩ := len1 hl
    rw [ap0]
    exact number1_any x [] v w1 hv⟩
  · exact ⟨_, _, rfl, fun _ _ => rfl, fun w1 b cap l hb hv hlt hge hf hl hr hk hfree => by
    obtain ⟨a, rfl⟩ := len1 hl
    rw [ap0]
    obtain ⟨q, hq, rfl⟩ := kind2_of (all1 hr) (fnd1 (hfree rfl)) (kAll1 hk)
    obtain ⟨g, o, n, cp, he, h0, -, -⟩ := hv.first
    cases he
    exact neg_res q hq b 0 cap w1 ⟨h0.kind, h0.num, h0.den, h0.str⟩ (hf 1)⟩

set_option maxRecDepth 100000 in
theorem op6 {w : World} {c d : Nat} (hc : w.cell? ⟨c, 0, none⟩ = some (.int .i64 2)) (hd : w.cell? ⟨d, 0, none⟩ = some (.func (.func 160) #[] #[])) : OpOk w (.func (.func 205) #[] #[.pointer (some ⟨c, 0, none⟩)]) (.func (.func 162) #[] #[.pointer (some ⟨d, 0, none⟩)]) (.func (.func 171) #[] #[]) (opS 6) := by
  refine ⟨?_, ?_, ?_⟩
  · exact ⟨_, _, rfl, fun _ _ => rfl, fun w1 v l hb hv hl => kOk hc hb hv (.inl hl)⟩
  · exact ⟨_, _, rfl, fun _ _ => rfl, fun w1 v l hb hv hl ha => by
    obtain ⟨x, rfl⟩ := len1 hl
    rw [ap1]
    exact whole_tT x [] d v w1 hv ((hb.cell (p := ⟨d, 0, none⟩) (World.block_lt_of_cell? _ _ hd)).trans hd)⟩
  · exact ⟨_, _, rfl, fun _ _ => rfl, fun w1 b cap l hb hv hlt hge hf hl hr hk hfree => by
    obtain ⟨a, rfl⟩ := len1 hl
    rw [ap0]
    obtain ⟨q, hq, rfl⟩ := kind2_of (all1 hr) (fnd1 (hfree rfl)) (kAll1 hk)
    exact (floor_res q hq _ w1 hv).mono fun e w' h => h.less (Nat.le_of_lt hlt)⟩

set_option maxRecDepth 100000 in
theorem op7 {w : World} {c : Nat} (hc : w.cell? ⟨c, 0, none⟩ = some (.int .i64 1)) : OpOk w (.func (.func 172) #[] #[]) (.func (.func 206) #[] #[.pointer (some ⟨c, 0, none⟩)]) (.func (.func 174) #[] #[]) (opS 7) := by
  refine ⟨?_, ?_, ?_⟩
  · exact ⟨_, _, rfl, fun _ _ => rfl, fun w1 v l hb hv hl => by
    rw [ap0]
    refine (anyKind_any v w1).mono ?_
    rintro e w' ⟨rfl, rfl⟩
    exact ⟨rfl, Below.refl _ _⟩⟩
  · exact ⟨_, _, rfl, fun _ _ => rfl, fun w1 v l hb hv hl ha => by
    rw [ap1]
    exact always_any 1 c v w1 ((hb.cell (p := ⟨c, 0, none⟩) (World.block_lt_of_cell? _ _ hc)).trans hc)⟩
  · exact ⟨_, _, rfl, fun _ _ => rfl, fun w1 b cap l hb hv hlt hge hf hl hr hk hfree => by
    obtain ⟨a, rfl⟩ := len1 hl
    rw [ap0]
    exact (missR_any a _ w1 hv).mono fun e w' h => h.less (Nat.le_of_lt hlt)⟩

set_option maxRecDepth 100000 in
theorem op8 {w : World} {c : Nat} (hc : w.cell? ⟨c, 0, none⟩ = some (.int .i64 2)) : OpOk w (.func (.func 172) #[] #[]) (.func (.func 206) #[] #[.pointer (some ⟨c, 0, none⟩)]) (.func (.func 175) #[] #[]) (opS 8) := by
  refine ⟨?_, ?_, ?_⟩
  · exact ⟨_, _, rfl, fun _ _ => rfl, fun w1 v l hb hv hl => by
    rw [ap0]
    refine (anyKind_any v w1).mono ?_
    rintro e w' ⟨rfl, rfl⟩
    exact ⟨rfl, Below.refl _ _⟩⟩
  · exact ⟨_, _, rfl, fun _ _ => rfl, fun w1 v l hb hv hl ha => by
    rw [ap1]
    exact always_any 2 c v w1 ((hb.cell (p := ⟨c, 0, none⟩) (World.block_lt_of_cell? _ _ hc)).trans hc)⟩
  · exact ⟨_, _, rfl, fun _ _ => rfl, fun w1 b cap l hb hv hlt hge hf hl hr hk hfree => by
    obtain ⟨a, rfl⟩ := len1 hl
    rw [ap0]
    exact (reasonR_any a _ w1 hv).mono fun e w' h => h.less (Nat.le_of_lt hlt)⟩

set_option maxRecDepth 100000 in
theorem op9 {w : World} {c d : Nat} (hc : w.cell? ⟨c, 0, none⟩ = some (.int .i64 2)) (hd : w.cell? ⟨d, 0, none⟩ = some (.func (.func 26) #[] #[])) : OpOk w (.func (.func 205) #[] #[.pointer (some ⟨c, 0, none⟩)]) (.func (.func 165) #[] #[]) (.func (.func 207) #[] #[.pointer (some ⟨d, 0, none⟩)]) (opS 9) := by
  refine ⟨?_, ?_, ?_⟩
  · exact ⟨_, _, rfl, fun _ _ => rfl, fun w1 v l hb hv hl => kOk hc hb hv (.inr hl)⟩
  · exact ⟨_, _, rfl, fun _ _ => rfl, fun w1 v l hb hv hl ha => by
    obtain ⟨x, y, rfl⟩ := len2 hl
    rw [ap0]
    exact sums_any x [y] (by simp) v w1 hv⟩
  · exact ⟨_, _, rfl, fun _ _ => rfl, fun w1 b cap l hb hv hlt hge hf hl hr hk hfree => by
    obtain ⟨x, y, rfl⟩ := len2 hl
    rw [ap1]
    have hk2 := kAll2 (show allK 2 [x, y] = true from hk)
    obtain ⟨p, hp, rfl⟩ := kind2_of (all2 hr).1 (fnd2 (hfree rfl)).1 hk2.1
    obtain ⟨q, hq, rfl⟩ := kind2_of (all2 hr).2 (fnd2 (hfree rfl)).2 hk2.2
    have e : (opS 9).res [ratV p, ratV q] = valQ (p + q) := by
      show valQ (qOf (ratV p) + qOf (ratV q)) = _
      rw [qOf_ratV, qOf_ratV]
    rw [e]
    exact (add_res p q hp hq _ d w1 hv ((hb.cell (p := ⟨d, 0, none⟩) (World.block_lt_of_cell? _ _ hd)).trans hd)).mono fun e w' h => h.less (Nat.le_of_lt hlt)⟩

set_option maxRecDepth 100000 in
theorem op10 {w : World} {c d : Nat} (hc : w.cell? ⟨c, 0, none⟩ = some (.int .i64 2)) (hd : w.cell? ⟨d, 0, none⟩ = some (.func (.func 28) #[] #[])) : OpOk w (.func (.func 205) #[] #[.pointer (some ⟨c, 0, none⟩)]) (.func (.func 165) #[] #[]) (.func (.func 207) #[] #[.pointer (some ⟨d, 0, none⟩)]) (opS 10) := by
  refine ⟨?_, ?_, ?_⟩
  · exact ⟨_, _, rfl, fun _ _ => rfl, fun w1 v l hb hv hl => kOk hc hb hv (.inr hl)⟩
  · exact ⟨_, _, rfl, fun _ _ => rfl, fun w1 v l hb hv hl ha => by
    obtain ⟨x, y, rfl⟩ := len2 hl
    rw [ap0]
    exact sums_any x [y] (by simp) v w1 hv⟩
  · exact ⟨_, _, rfl, fun _ _ => rfl, fun w1 b cap l hb hv hlt hge hf hl hr hk hfree => by
    obtain ⟨x, y, rfl⟩ := len2 hl
    rw [ap1]
    have hk2 := kAll2 (show allK 2 [x, y] = true from hk)
    obtain ⟨p, hp, rfl⟩ := kind2_of (all2 hr).1 (fnd2 (hfree rfl)).1 hk2.1
    obtain ⟨q, hq, rfl⟩ := kind2_of (all2 hr).2 (fnd2 (hfree rfl)).2 hk2.2
    have e : (opS 10).res [ratV p, ratV q] = valQ (p - q) := by
      show valQ (qOf (ratV p) - qOf (ratV q)) = _
      rw [qOf_ratV, qOf_ratV]
    rw [e]
    exact (sub_res p q hp hq _ d w1 hv ((hb.cell (p := ⟨d, 0, none⟩) (World.block_lt_of_cell? _ _ hd)).trans hd)).mono fun e w' h => h.less (Nat.le_of_lt hlt)⟩

set_option maxRecDepth 100000 in
theorem op11 {w : World} {c d : Nat} (hc : w.cell? ⟨c, 0, none⟩ = some (.int .i64 2)) (hd : w.cell? ⟨d, 0, none⟩ = some (.func (.func 30) #[] #[])) : OpOk w (.func (.func 205) #[] #[.pointer (some ⟨c, 0, none⟩)]) (.func (.func 165) #[] #[]) (.func (.func 207) #[] #[.pointer (some ⟨d, 0, none⟩)]) (opS 11) := by
  refine ⟨?_, ?_, ?_⟩
  · exact ⟨_, _, rfl, fun _ _ => rfl, fun w1 v l hb hv hl => kOk hc hb hv (.inr hl)⟩
  · exact ⟨_, _, rfl, fun _ _ => rfl, fun w1 v l hb hv hl ha => by
    obtain ⟨x, y, rfl⟩ := len2 hl
    rw [ap0]
    exact sums_any x [y] (by simp) v w1 hv⟩
  · exact ⟨_, _, rfl, fun _ _ => rfl, fun w1 b cap l hb hv hlt hge hf hl hr hk hfree => by
    obtain ⟨x, y, rfl⟩ := len2 hl
    rw [ap1]
    have hk2 := kAll2 (show allK 2 [x, y] = true from hk)
    obtain ⟨p, hp, rfl⟩ := kind2_of (all2 hr).1 (fnd2 (hfree rfl)).1 hk2.1
    obtain ⟨q, hq, rfl⟩ := kind2_of (all2 hr).2 (fnd2 (hfree rfl)).2 hk2.2
    have e : (opS 11).res [ratV p, ratV q] = valQ (p * q) := by
      show valQ (qOf (ratV p) * qOf (ratV q)) = _
      rw [qOf_ratV, qOf_ratV]
    rw [e]
    exact (mul_res p q hp hq _ d w1 hv ((hb.cell (p := ⟨d, 0, none⟩) (World.block_lt_of_cell? _ _ hd)).trans hd)).mono fun e w' h => h.less (Nat.le_of_lt hlt)⟩

set_option maxRecDepth 100000 in
theorem op12 {w : World} {c : Nat} (hc : w.cell? ⟨c, 0, none⟩ = some (.int .i64 2)) : OpOk w (.func (.func 205) #[] #[.pointer (some ⟨c, 0, none⟩)]) (.func (.func 164) #[] #[]) (.func (.func 177) #[] #[]) (opS 12) := by
  refine ⟨?_, ?_, ?_⟩
  · exact ⟨_, _, rfl, fun _ _ => rfl, fun w1 v l hb hv hl => kOk hc hb hv (.inr hl)⟩
  · exact ⟨_, _, rfl, fun _ _ => rfl, fun w1 v l hb hv hl ha => by
    obtain ⟨x, y, rfl⟩ := len2 hl
    rw [ap0]
    exact quotient_any x [y] (by simp) v w1 hv⟩
  · exact ⟨_, _, rfl, fun _ _ => rfl, fun w1 b cap l hb hv hlt hge hf hl hr hk hfree => by
    obtain ⟨x, y, rfl⟩ := len2 hl
    rw [ap0]
    have hk2 := kAll2 (show allK 2 [x, y] = true from hk)
    obtain ⟨p, hp, rfl⟩ := kind2_of (all2 hr).1 (fnd2 (hfree rfl)).1 hk2.1
    obtain ⟨q, hq, rfl⟩ := kind2_of (all2 hr).2 (fnd2 (hfree rfl)).2 hk2.2
    have e : (opS 12).res [ratV p, ratV q] = if q = 0 then missV 3 else valQ (p / q) := by
      show (if qOf (ratV q) = 0 then missV 3 else valQ (qOf (ratV p) / qOf (ratV q))) = _
      rw [qOf_ratV, qOf_ratV]
    rw [e]
    by_cases h0 : q = 0
    · rw [if_pos h0]; exact (div_res0 p q hp hq h0 _ w1 hv).mono fun e w' h => h.less (Nat.le_of_lt hlt)
    · rw [if_neg h0]; exact (div_res p q hp hq h0 _ w1 hv).mono fun e w' h => h.less (Nat.le_of_lt hlt)⟩

set_option maxRecDepth 100000 in
theorem op13 {w : World} {d : Nat} (hd : w.cell? ⟨d, 0, none⟩ = some (.func (.func 179) #[] #[])) : OpOk w (.func (.func 186) #[] #[]) (.func (.func 208) #[] #[]) (.func (.func 209) #[] #[.pointer (some ⟨d, 0, none⟩)]) (opS 13) := by
  refine ⟨?_, ?_, ?_⟩
  · exact ⟨_, _, rfl, fun _ _ => rfl, fun w1 v l hb hv hl => by rw [ap0]; exact alike_any l (.inl hl) v w1 hv⟩
  · exact ⟨_, _, rfl, fun _ _ => rfl, fun w1 v l hb hv hl ha => by
    rw [ap0]
    exact compT_any l (by rw [hl]; exact Nat.le_refl 2) v w1 hv⟩
  · exact ⟨_, _, rfl, fun _ _ => rfl, fun w1 b cap l hb hv hlt hge hf hl hr hk hfree => by
    obtain ⟨x, y, rfl⟩ := len2 hl
    rw [ap1]
    exact (comp_res10 x y (all2 hr).1 (all2 hr).2 _ d w1 hv ((hb.cell (p := ⟨d, 0, none⟩) (World.block_lt_of_cell? _ _ hd)).trans hd)).mono fun e w' h => h.less (Nat.le_of_lt hlt)⟩

set_option maxRecDepth 100000 in
theorem op14 {w : World} {d : Nat} (hd : w.cell? ⟨d, 0, none⟩ = some (.func (.func 180) #[] #[])) : OpOk w (.func (.func 186) #[] #[]) (.func (.func 208) #[] #[]) (.func (.func 209) #[] #[.pointer (some ⟨d, 0, none⟩)]) (opS 14) := by
  refine ⟨?_, ?_, ?_⟩
  · exact ⟨_, _, rfl, fun _ _ => rfl, fun w1 v l hb hv hl => by rw [ap0]; exact alike_any l (.inl hl) v w1 hv⟩
  · exact ⟨_, _, rfl, fun _ _ => rfl, fun w1 v l hb hv hl ha => by
    rw [ap0]
    exact compT_any l (by rw [hl]; exact Nat.le_refl 2) v w1 hv⟩
  · exact ⟨_, _, rfl, fun _ _ => rfl, fun w1 b cap l hb hv hlt hge hf hl hr hk hfree => by
    obtain ⟨x, y, rfl⟩ := len2 hl
    rw [ap1]
    exact (comp_res11 x y (all2 hr).1 (all2 hr).2 _ d w1 hv ((hb.cell (p := ⟨d, 0, none⟩) (World.block_lt_of_cell? _ _ hd)).trans hd)).mono fun e w' h => h.less (Nat.le_of_lt hlt)⟩

set_option maxRecDepth 100000 in
theorem op15 {w : World} {d : Nat} (hd : w.cell? ⟨d, 0, none⟩ = some (.func (.func 181) #[] #[])) : OpOk w (.func (.func 186) #[] #[]) (.func (.func 208) #[] #[]) (.func (.func 209) #[] #[.pointer (some ⟨d, 0, none⟩)]) (opS 15) := by
  refine ⟨?_, ?_, ?_⟩
  · exact ⟨_, _, rfl, fun _ _ => rfl, fun w1 v l hb hv hl => by rw [ap0]; exact alike_any l (.inl hl) v w1 hv⟩
  · exact ⟨_, _, rfl, fun _ _ => rfl, fun w1 v l hb hv hl ha => by
    rw [ap0]
    exact compT_any l (by rw [hl]; exact Nat.le_refl 2) v w1 hv⟩
  · exact ⟨_, _, rfl, fun _ _ => rfl, fun w1 b cap l hb hv hlt hge hf hl hr hk hfree => by
    obtain ⟨x, y, rfl⟩ := len2 hl
    rw [ap1]
    exact (comp_res12 x y (all2 hr).1 (all2 hr).2 _ d w1 hv ((hb.cell (p := ⟨d, 0, none⟩) (World.block_lt_of_cell? _ _ hd)).trans hd)).mono fun e w' h => h.less (Nat.le_of_lt hlt)⟩

set_option maxRecDepth 100000 in
theorem op16 {w : World} {d : Nat} (hd : w.cell? ⟨d, 0, none⟩ = some (.func (.func 182) #[] #[])) : OpOk w (.func (.func 186) #[] #[]) (.func (.func 208) #[] #[]) (.func (.func 209) #[] #[.pointer (some ⟨d, 0, none⟩)]) (opS 16) := by
  refine ⟨?_, ?_, ?_⟩
  · exact ⟨_, _, rfl, fun _ _ => rfl, fun w1 v l hb hv hl => by rw [ap0]; exact alike_any l (.inl hl) v w1 hv⟩
  · exact ⟨_, _, rfl, fun _ _ => rfl, fun w1 v l hb hv hl ha => by
    rw [ap0]
    exact compT_any l (by rw [hl]; exact Nat.le_refl 2) v w1 hv⟩
  · exact ⟨_, _, rfl, fun _ _ => rfl, fun w1 b cap l hb hv hlt hge hf hl hr hk hfree => by
    obtain ⟨x, y, rfl⟩ := len2 hl
    rw [ap1]
    exact (comp_res13 x y (all2 hr).1 (all2 hr).2 _ d w1 hv ((hb.cell (p := ⟨d, 0, none⟩) (World.block_lt_of_cell? _ _ hd)).trans hd)).mono fun e w' h => h.less (Nat.le_of_lt hlt)⟩

set_option maxRecDepth 100000 in
theorem op17 {w : World} {d : Nat} (hd : w.cell? ⟨d, 0, none⟩ = some (.func (.func 183) #[] #[])) : OpOk w (.func (.func 186) #[] #[]) (.func (.func 208) #[] #[]) (.func (.func 209) #[] #[.pointer (some ⟨d, 0, none⟩)]) (opS 17) := by
  refine ⟨?_, ?_, ?_⟩
  · exact ⟨_, _, rfl, fun _ _ => rfl, fun w1 v l hb hv hl => by rw [ap0]; exact alike_any l (.inl hl) v w1 hv⟩
  · exact ⟨_, _, rfl, fun _ _ => rfl, fun w1 v l hb hv hl ha => by
    rw [ap0]
    exact compT_any l (by rw [hl]; exact Nat.le_refl 2) v w1 hv⟩
  · exact ⟨_, _, rfl, fun _ _ => rfl, fun w1 b cap l hb hv hlt hge hf hl hr hk hfree => by
    obtain ⟨x, y, rfl⟩ := len2 hl
    rw [ap1]
    exact (comp_res14 x y (all2 hr).1 (all2 hr).2 _ d w1 hv ((hb.cell (p := ⟨d, 0, none⟩) (World.block_lt_of_cell? _ _ hd)).trans hd)).mono fun e w' h => h.less (Nat.le_of_lt hlt)⟩

set_option maxRecDepth 100000 in
theorem op18 {w : World} {d : Nat} (hd : w.cell? ⟨d, 0, none⟩ = some (.func (.func 184) #[] #[])) : OpOk w (.func (.func 186) #[] #[]) (.func (.func 208) #[] #[]) (.func (.func 209) #[] #[.pointer (some ⟨d, 0, none⟩)]) (opS 18) := by
  refine ⟨?_, ?_, ?_⟩
  · exact ⟨_, _, rfl, fun _ _ => rfl, fun w1 v l hb hv hl => by rw [ap0]; exact alike_any l (.inl hl) v w1 hv⟩
  · exact ⟨_, _, rfl, fun _ _ => rfl, fun w1 v l hb hv hl ha => by
    rw [ap0]
    exact compT_any l (by rw [hl]; exact Nat.le_refl 2) v w1 hv⟩
  · exact ⟨_, _, rfl, fun _ _ => rfl, fun w1 b cap l hb hv hlt hge hf hl hr hk hfree => by
    obtain ⟨x, y, rfl⟩ := len2 hl
    rw [ap1]
    exact (comp_res15 x y (all2 hr).1 (all2 hr).2 _ d w1 hv ((hb.cell (p := ⟨d, 0, none⟩) (World.block_lt_of_cell? _ _ hd)).trans hd)).mono fun e w' h => h.less (Nat.le_of_lt hlt)⟩

set_option maxRecDepth 100000 in
theorem op19 {w : World} {c d : Nat} (hc : w.cell? ⟨c, 0, none⟩ = some (.int .i64 1)) (hd : w.cell? ⟨d, 0, none⟩ = some (.bool false)) : OpOk w (.func (.func 205) #[] #[.pointer (some ⟨c, 0, none⟩)]) (.func (.func 210) #[] #[]) (.func (.func 211) #[] #[.pointer (some ⟨d, 0, none⟩)]) (opS 19) := by
  refine ⟨?_, ?_, ?_⟩
  · exact ⟨_, _, rfl, fun _ _ => rfl, fun w1 v l hb hv hl => kOk hc hb hv (.inr hl)⟩
  · exact ⟨_, _, rfl, fun _ _ => rfl, fun w1 v l hb hv hl ha => by
    obtain ⟨x, y, rfl⟩ := len2 hl
    rw [ap0]
    exact logicT_any x [y] (by simp) v w1 hv (common_range ha rfl).1 (common_range ha rfl).2⟩
  · exact ⟨_, _, rfl, fun _ _ => rfl, fun w1 b cap l hb hv hlt hge hf hl hr hk hfree => by
    obtain ⟨x, y, rfl⟩ := len2 hl
    rw [ap1]
    have hd := ((hb.cell (p := ⟨d, 0, none⟩) (World.block_lt_of_cell? _ _ hd)).trans hd)
    have hk2 := kAll2 (show allK 1 [x, y] = true from hk)
    rcases kind01_of (all2 hr).1 hk2.1 with ⟨r, rfl⟩ | ⟨s, rfl⟩
    · rcases kind01_of (all2 hr).2 hk2.2 with ⟨q, rfl⟩ | ⟨t, rfl⟩
      · exact (logCMM_false r q _ d w1 hv hd).mono fun e w' h => h.less (Nat.le_of_lt hlt)
      · cases t
        · exact (logBM_false r _ d w1 hv hd).mono fun e w' h => h.less (Nat.le_of_lt hlt)
        · exact (logCMN_false r _ d w1 hv hd).mono fun e w' h => h.less (Nat.le_of_lt hlt)
    · by_cases hs : s = false
      · subst hs
        have e : (opS 19).res [truthV false, y] = truthV false := by
          show logicR false [truthV false, y] = truthV false
          unfold logicR
          rw [if_pos (.inl rfl)]
        rw [e]
        exact (logA_false y _ d w1 hv hd).mono fun e w' h => h.less (Nat.le_of_lt hlt)
      · have hs' : s = true := by cases s <;> first | rfl | exact absurd rfl hs
        subst hs'
        rcases kind01_of (all2 hr).2 hk2.2 with ⟨q, rfl⟩ | ⟨t, rfl⟩
        · exact (logCNM_false q _ d w1 hv hd).mono fun e w' h => h.less (Nat.le_of_lt hlt)
        · cases t
          · exact (logBN_false _ d w1 hv hd).mono fun e w' h => h.less (Nat.le_of_lt hlt)
          · exact (logCNN_false _ d w1 hv hd).mono fun e w' h => h.less (Nat.le_of_lt hlt)⟩

set_option maxRecDepth 100000 in
theorem op20 {w : World} {c d : Nat} (hc : w.cell? ⟨c, 0, none⟩ = some (.int .i64 1)) (hd : w.cell? ⟨d, 0, none⟩ = some (.bool true)) : OpOk w (.func (.func 205) #[] #[.pointer (some ⟨c, 0, none⟩)]) (.func (.func 210) #[] #[]) (.func (.func 211) #[] #[.pointer (some ⟨d, 0, none⟩)]) (opS 20) := by
  refine ⟨?_, ?_, ?_⟩
  · exact ⟨_, _, rfl, fun _ _ => rfl, fun w1 v l hb hv hl => kOk hc hb hv (.inr hl)⟩
  · exact ⟨_, _, rfl, fun _ _ => rfl, fun w1 v l hb hv hl ha => by
    obtain ⟨x, y, rfl⟩ := len2 hl
    rw [ap0]
    exact logicT_any x [y] (by simp) v w1 hv (common_range ha rfl).1 (common_range ha rfl).2⟩
  · exact ⟨_, _, rfl, fun _ _ => rfl, fun w1 b cap l hb hv hlt hge hf hl hr hk hfree => by
    obtain ⟨x, y, rfl⟩ := len2 hl
    rw [ap1]
    have hd := ((hb.cell (p := ⟨d, 0, none⟩) (World.block_lt_of_cell? _ _ hd)).trans hd)
    have hk2 := kAll2 (show allK 1 [x, y] = true from hk)
    rcases kind01_of (all2 hr).1 hk2.1 with ⟨r, rfl⟩ | ⟨s, rfl⟩
    · rcases kind01_of (all2 hr).2 hk2.2 with ⟨q, rfl⟩ | ⟨t, rfl⟩
      · exact (logCMM_true r q _ d w1 hv hd).mono fun e w' h => h.less (Nat.le_of_lt hlt)
      · cases t
        · exact (logCMN_true r _ d w1 hv hd).mono fun e w' h => h.less (Nat.le_of_lt hlt)
        · exact (logBM_true r _ d w1 hv hd).mono fun e w' h => h.less (Nat.le_of_lt hlt)
    · by_cases hs : s = true
      · subst hs
        have e : (opS 20).res [truthV true, y] = truthV true := by
          show logicR true [truthV true, y] = truthV true
          unfold logicR
          rw [if_pos (.inl rfl)]
        rw [e]
        exact (logA_true y _ d w1 hv hd).mono fun e w' h => h.less (Nat.le_of_lt hlt)
      · have hs' : s = false := by cases s <;> first | rfl | exact absurd rfl hs
        subst hs'
        rcases kind01_of (all2 hr).2 hk2.2 with ⟨q, rfl⟩ | ⟨t, rfl⟩
        · exact (logCNM_true q _ d w1 hv hd).mono fun e w' h => h.less (Nat.le_of_lt hlt)
        · cases t
          · exact (logCNN_true _ d w1 hv hd).mono fun e w' h => h.less (Nat.le_of_lt hlt)
          · exact (logBN_true _ d w1 hv hd).mono fun e w' h => h.less (Nat.le_of_lt hlt)⟩

set_option maxRecDepth 100000 in
theorem op21 {w : World}  : OpOk w (.func (.func 186) #[] #[]) (.func (.func 167) #[] #[]) (.func (.func 187) #[] #[]) (opS 21) := by
  refine ⟨?_, ?_, ?_⟩
  · exact ⟨_, _, rfl, fun _ _ => rfl, fun w1 v l hb hv hl => by rw [ap0]; exact alike_any l (.inl hl) v w1 hv⟩
  · exact ⟨_, _, rfl, fun _ _ => rfl, fun w1 v l hb hv hl ha => by
    rw [ap0]
    refine (common_any l (by rw [hl]; exact Nat.le_refl 2) v w1 hv).mono ?_
    rintro e w' ⟨rfl, k, rfl⟩
    exact ⟨rfl, below_drewN' _ _⟩⟩
  · exact ⟨_, _, rfl, fun _ _ => rfl, fun w1 b cap l hb hv hlt hge hf hl hr hk hfree => by
    obtain ⟨x, y, rfl⟩ := len2 hl
    rw [ap0]
    exact (elseR_any x y _ w1 hv).mono fun e w' h => h.less (Nat.le_of_lt hlt)⟩

set_option maxRecDepth 100000 in
theorem op22 {w : World}  : OpOk w (.func (.func 188) #[] #[]) (.func (.func 166) #[] #[]) (.func (.func 190) #[] #[]) (opS 22) := by
  refine ⟨?_, ?_, ?_⟩
  · exact ⟨_, _, rfl, fun _ _ => rfl, fun w1 v l hb hv hl => by
    obtain ⟨x, y, z, rfl⟩ := len3 hl
    rw [ap0]
    obtain ⟨g, o, cap, rfl, h0, -⟩ := hv.three
    exact kinds16_3 g o cap x y z w1 h0 hv⟩
  · exact ⟨_, _, rfl, fun _ _ => rfl, fun w1 v l hb hv hl ha => by
    obtain ⟨x, y, z, rfl⟩ := len3 hl
    rw [ap0]
    exact choice_any x [y, z] (by simp) v w1 hv⟩
  · exact ⟨_, _, rfl, fun _ _ => rfl, fun w1 b cap l hb hv hlt hge hf hl hr hk hfree => by
    obtain ⟨x, y, z, rfl⟩ := len3 hl
    rw [ap0]
    exact (ifR_any x y z _ w1 hv).mono fun e w' h => h.less (Nat.le_of_lt hlt)⟩
end Go.Proofs.YtemhidlaaommaaaGreatDoor
/- Contract: find. -/
namespace Go.Proofs.YtemhidlaaommaaaGreatDoor
open Go.RowKit

/-- the operation with number op in the table T -/
structure OpAt (w : World) (T : Array Value) (op : Int) (s : OpS) (kv tv dv : Value) : Prop where
  idx : ∀ w1, (Instr.index 158 (.agg T) (.int .i64 op)).run Tryz.prog w1 = .ok (.agg #[.int .i64 s.n, kv, tv, .bool s.free, dv]) w1
  ok : OpOk w kv tv dv s
set_option maxRecDepth 100000 in
theorem at4 {w : World} {m c1 c2 c3 c4 c5 c6 d6 c7 d7 c8 d8 c9 d10 d11 d12 d13 d14 d15 c16 d16 c17 d17 : Nat} (hk : OpsKept w m c1 c2 c3 c4 c5 c6 d6 c7 d7 c8 d8 c9 d10 d11 d12 d13 d14 d15 c16 d16 c17 d17) : ∃ kv tv dv, OpAt w (opsL m c1 c2 c3 c4 c5 c6 d6 c7 d7 c8 d8 c9 d10 d11 d12 d13 d14 d15 c16 d16 c17 d17).toArray 4 (opS 4) kv tv dv :=
  ⟨_, _, _, fun w1 => by kernel_rfl, op4 hk.k1⟩
set_option maxRecDepth 100000 in
theorem at5 {w : World} {m c1 c2 c3 c4 c5 c6 d6 c7 d7 c8 d8 c9 d10 d11 d12 d13 d14 d15 c16 d16 c17 d17 : Nat} (hk : OpsKept w m c1 c2 c3 c4 c5 c6 d6 c7 d7 c8 d8 c9 d10 d11 d12 d13 d14 d15 c16 d16 c17 d17) : ∃ kv tv dv, OpAt w (opsL m c1 c2 c3 c4 c5 c6 d6 c7 d7 c8 d8 c9 d10 d11 d12 d13 d14 d15 c16 d16 c17 d17).toArray 5 (opS 5) kv tv dv :=
  ⟨_, _, _, fun w1 => by kernel_rfl, op5 hk.k2⟩
set_option maxRecDepth 100000 in
theorem at6 {w : World} {m c1 c2 c3 c4 c5 c6 d6 c7 d7 c8 d8 c9 d10 d11 d12 d13 d14 d15 c16 d16 c17 d17 : Nat} (hk : OpsKept w m c1 c2 c3 c4 c5 c6 d6 c7 d7 c8 d8 c9 d10 d11 d12 d13 d14 d15 c16 d16 c17 d17) : ∃ kv tv dv, OpAt w (opsL m c1 c2 c3 c4 c5 c6 d6 c7 d7 c8 d8 c9 d10 d11 d12 d13 d14 d15 c16 d16 c17 d17).toArray 6 (opS 6) kv tv dv :=
  ⟨_, _, _, fun w1 => by kernel_rfl, op6 hk.k3 hk.km⟩
set_option maxRecDepth 100000 in
theorem at7 {w : World} {m c1 c2 c3 c4 c5 c6 d6 c7 d7 c8 d8 c9 d10 d11 d12 d13 d14 d15 c16 d16 c17 d17 : Nat} (hk : OpsKept w m c1 c2 c3 c4 c5 c6 d6 c7 d7 c8 d8 c9 d10 d11 d12 d13 d14 d15 c16 d16 c17 d17) : ∃ kv tv dv, OpAt w (opsL m c1 c2 c3 c4 c5 c6 d6 c7 d7 c8 d8 c9 d10 d11 d12 d13 d14 d15 c16 d16 c17 d17).toArray 7 (opS 7) kv tv dv :=
  ⟨_, _, _, fun w1 => by kernel_rfl, op7 hk.k4⟩
set_option maxRecDepth 100000 in
theorem at8 {w : World} {m c1 c2 c3 c4 c5 c6 d6 c7 d7 c8 d8 c9 d10 d11 d12 d13 d14 d15 c16 d16 c17 d17 : Nat} (hk : OpsKept w m c1 c2 c3 c4 c5 c6 d6 c7 d7 c8 d8 c9 d10 d11 d12 d13 d14 d15 c16 d16 c17 d17) : ∃ kv tv dv, OpAt w (opsL m c1 c2 c3 c4 c5 c6 d6 c7 d7 c8 d8 c9 d10 d11 d12 d13 d14 d15 c16 d16 c17 d17).toArray 8 (opS 8) kv tv dv :=
  ⟨_, _, _, fun w1 => by kernel_rfl, op8 hk.k5⟩
set_option maxRecDepth 100000 in
theorem at9 {w : World} {m c1 c2 c3 c4 c5 c6 d6 c7 d7 c8 d8 c9 d10 d11 d12 d13 d14 d15 c16 d16 c17 d17 : Nat} (hk : OpsKept w m c1 c2 c3 c4 c5 c6 d6 c7 d7 c8 d8 c9 d10 d11 d12 d13 d14 d15 c16 d16 c17 d17) : ∃ kv tv dv, OpAt w (opsL m c1 c2 c3 c4 c5 c6 d6 c7 d7 c8 d8 c9 d10 d11 d12 d13 d14 d15 c16 d16 c17 d17).toArray 9 (opS 9) kv tv dv :=
  ⟨_, _, _, fun w1 => by kernel_rfl, op9 hk.k6 hk.e6⟩
set_option maxRecDepth 100000 in
theorem at10 {w : World} {m c1 c2 c3 c4 c5 c6 d6 c7 d7 c8 d8 c9 d10 d11 d12 d13 d14 d15 c16 d16 c17 d17 : Nat} (hk : OpsKept w m c1 c2 c3 c4 c5 c6 d6 c7 d7 c8 d8 c9 d10 d11 d12 d13 d14 d15 c16 d16 c17 d17) : ∃ kv tv dv, OpAt w (opsL m c1 c2 c3 c4 c5 c6 d6 c7 d7 c8 d8 c9 d10 d11 d12 d13 d14 d15 c16 d16 c17 d17).toArray 10 (opS 10) kv tv dv :=
  ⟨_, _, _, fun w1 => by kernel_rfl, op10 hk.k7 hk.e7⟩
set_option maxRecDepth 100000 in
theorem at11 {w : World} {m c1 c2 c3 c4 c5 c6 d6 c7 d7 c8 d8 c9 d10 d11 d12 d13 d14 d15 c16 d16 c17 d17 : Nat} (hk : OpsKept w m c1 c2 c3 c4 c5 c6 d6 c7 d7 c8 d8 c9 d10 d11 d12 d13 d14 d15 c16 d16 c17 d17) : ∃ kv tv dv, OpAt w (opsL m c1 c2 c3 c4 c5 c6 d6 c7 d7 c8 d8 c9 d10 d11 d12 d13 d14 d15 c16 d16 c17 d17).toArray 11 (opS 11) kv tv dv :=
  ⟨_, _, _, fun w1 => by kernel_rfl, op11 hk.k8 hk.e8⟩
set_option maxRecDepth 100000 in
theorem at12 {w : World} {m c1 c2 c3 c4 c5 c6 d6 c7 d7 c8 d8 c9 d10 d11 d12 d13 d14 d15 c16 d16 c17 d17 : Nat} (hk : OpsKept w m c1 c2 c3 c4 c5 c6 d6 c7 d7 c8 d8 c9 d10 d11 d12 d13 d14 d15 c16 d16 c17 d17) : ∃ kv tv dv, OpAt w (opsL m c1 c2 c3 c4 c5 c6 d6 c7 d7 c8 d8 c9 d10 d11 d12 d13 d14 d15 c16 d16 c17 d17).toArray 12 (opS 12) kv tv dv :=
  ⟨_, _, _, fun w1 => by kernel_rfl, op12 hk.k9⟩
set_option maxRecDepth 100000 in
theorem at13 {w : World} {m c1 c2 c3 c4 c5 c6 d6 c7 d7 c8 d8 c9 d10 d11 d12 d13 d14 d15 c16 d16 c17 d17 : Nat} (hk : OpsKept w m c1 c2 c3 c4 c5 c6 d6 c7 d7 c8 d8 c9 d10 d11 d12 d13 d14 d15 c16 d16 c17 d17) : ∃ kv tv dv, OpAt w (opsL m c1 c2 c3 c4 c5 c6 d6 c7 d7 c8 d8 c9 d10 d11 d12 d13 d14 d15 c16 d16 c17 d17).toArray 13 (opS 13) kv tv dv :=
  ⟨_, _, _, fun w1 => by kernel_rfl, op13 hk.e10⟩
set_option maxRecDepth 100000 in
theorem at14 {w : World} {m c1 c2 c3 c4 c5 c6 d6 c7 d7 c8 d8 c9 d10 d11 d12 d13 d14 d15 c16 d16 c17 d17 : Nat} (hk : OpsKept w m c1 c2 c3 c4 c5 c6 d6 c7 d7 c8 d8 c9 d10 d11 d12 d13 d14 d15 c16 d16 c17 d17) : ∃ kv tv dv, OpAt w (opsL m c1 c2 c3 c4 c5 c6 d6 c7 d7 c8 d8 c9 d10 d11 d12 d13 d14 d15 c16 d16 c17 d17).toArray 14 (opS 14) kv tv dv :=
  ⟨_, _, _, fun w1 => by kernel_rfl, op14 hk.e11⟩
set_option maxRecDepth 100000 in
theorem at15 {w : World} {m c1 c2 c3 c4 c5 c6 d6 c7 d7 c8 d8 c9 d10 d11 d12 d13 d14 d15 c16 d16 c17 d17 : Nat} (hk : OpsKept w m c1 c2 c3 c4 c5 c6 d6 c7 d7 c8 d8 c9 d10 d11 d12 d13 d14 d15 c16 d16 c17 d17) : ∃ kv tv dv, OpAt w (opsL m c1 c2 c3 c4 c5 c6 d6 c7 d7 c8 d8 c9 d10 d11 d12 d13 d14 d15 c16 d16 c17 d17).toArray 15 (opS 15) kv tv dv :=
  ⟨_, _, _, fun w1 => by kernel_rfl, op15 hk.e12⟩
set_option maxRecDepth 100000 in
theorem at16 {w : World} {m c1 c2 c3 c4 c5 c6 d6 c7 d7 c8 d8 c9 d10 d11 d12 d13 d14 d15 c16 d16 c17 d17 : Nat} (hk : OpsKept w m c1 c2 c3 c4 c5 c6 d6 c7 d7 c8 d8 c9 d10 d11 d12 d13 d14 d15 c16 d16 c17 d17) : ∃ kv tv dv, OpAt w (opsL m c1 c2 c3 c4 c5 c6 d6 c7 d7 c8 d8 c9 d10 d11 d12 d13 d14 d15 c16 d16 c17 d17).toArray 16 (opS 16) kv tv dv :=
  ⟨_, _, _, fun w1 => by kernel_rfl, op16 hk.e13⟩
set_option maxRecDepth 100000 in
theorem at17 {w : World} {m c1 c2 c3 c4 c5 c6 d6 c7 d7 c8 d8 c9 d10 d11 d12 d13 d14 d15 c16 d16 c17 d17 : Nat} (hk : OpsKept w m c1 c2 c3 c4 c5 c6 d6 c7 d7 c8 d8 c9 d10 d11 d12 d13 d14 d15 c16 d16 c17 d17) : ∃ kv tv dv, OpAt w (opsL m c1 c2 c3 c4 c5 c6 d6 c7 d7 c8 d8 c9 d10 d11 d12 d13 d14 d15 c16 d16 c17 d17).toArray 17 (opS 17) kv tv dv :=
  ⟨_, _, _, fun w1 => by kernel_rfl, op17 hk.e14⟩
set_option maxRecDepth 100000 in
theorem at18 {w : World} {m c1 c2 c3 c4 c5 c6 d6 c7 d7 c8 d8 c9 d10 d11 d12 d13 d14 d15 c16 d16 c17 d17 : Nat} (hk : OpsKept w m c1 c2 c3 c4 c5 c6 d6 c7 d7 c8 d8 c9 d10 d11 d12 d13 d14 d15 c16 d16 c17 d17) : ∃ kv tv dv, OpAt w (opsL m c1 c2 c3 c4 c5 c6 d6 c7 d7 c8 d8 c9 d10 d11 d12 d13 d14 d15 c16 d16 c17 d17).toArray 18 (opS 18) kv tv dv :=
  ⟨_, _, _, fun w1 => by kernel_rfl, op18 hk.e15⟩
set_option maxRecDepth 100000 in
theorem at19 {w : World} {m c1 c2 c3 c4 c5 c6 d6 c7 d7 c8 d8 c9 d10 d11 d12 d13 d14 d15 c16 d16 c17 d17 : Nat} (hk : OpsKept w m c1 c2 c3 c4 c5 c6 d6 c7 d7 c8 d8 c9 d10 d11 d12 d13 d14 d15 c16 d16 c17 d17) : ∃ kv tv dv, OpAt w (opsL m c1 c2 c3 c4 c5 c6 d6 c7 d7 c8 d8 c9 d10 d11 d12 d13 d14 d15 c16 d16 c17 d17).toArray 19 (opS 19) kv tv dv :=
  ⟨_, _, _, fun w1 => by kernel_rfl, op19 hk.k16 hk.e16⟩
set_option maxRecDepth 100000 in
theorem at20 {w : World} {m c1 c2 c3 c4 c5 c6 d6 c7 d7 c8 d8 c9 d10 d11 d12 d13 d14 d15 c16 d16 c17 d17 : Nat} (hk : OpsKept w m c1 c2 c3 c4 c5 c6 d6 c7 d7 c8 d8 c9 d10 d11 d12 d13 d14 d15 c16 d16 c17 d17) : ∃ kv tv dv, OpAt w (opsL m c1 c2 c3 c4 c5 c6 d6 c7 d7 c8 d8 c9 d10 d11 d12 d13 d14 d15 c16 d16 c17 d17).toArray 20 (opS 20) kv tv dv :=
  ⟨_, _, _, fun w1 => by kernel_rfl, op20 hk.k17 hk.e17⟩
set_option maxRecDepth 100000 in
theorem at21 {w : World} {m c1 c2 c3 c4 c5 c6 d6 c7 d7 c8 d8 c9 d10 d11 d12 d13 d14 d15 c16 d16 c17 d17 : Nat} (_hk : OpsKept w m c1 c2 c3 c4 c5 c6 d6 c7 d7 c8 d8 c9 d10 d11 d12 d13 d14 d15 c16 d16 c17 d17) : ∃ kv tv dv, OpAt w (opsL m c1 c2 c3 c4 c5 c6 d6 c7 d7 c8 d8 c9 d10 d11 d12 d13 d14 d15 c16 d16 c17 d17).toArray 21 (opS 21) kv tv dv :=
  ⟨_, _, _, fun w1 => by kernel_rfl, op21 ⟩
set_option maxRecDepth 100000 in
theorem at22 {w : World} {m c1 c2 c3 c4 c5 c6 d6 c7 d7 c8 d8 c9 d10 d11 d12 d13 d14 d15 c16 d16 c17 d17 : Nat} (_hk : OpsKept w m c1 c2 c3 c4 c5 c6 d6 c7 d7 c8 d8 c9 d10 d11 d12 d13 d14 d15 c16 d16 c17 d17) : ∃ kv tv dv, OpAt w (opsL m c1 c2 c3 c4 c5 c6 d6 c7 d7 c8 d8 c9 d10 d11 d12 d13 d14 d15 c16 d16 c17 d17).toArray 22 (opS 22) kv tv dv :=
  ⟨_, _, _, fun w1 => by kernel_rfl, op22 ⟩

theorem ops_at {w : World} {m c1 c2 c3 c4 c5 c6 d6 c7 d7 c8 d8 c9 d10 d11 d12 d13 d14 d15 c16 d16 c17 d17 : Nat} (hk : OpsKept w m c1 c2 c3 c4 c5 c6 d6 c7 d7 c8 d8 c9 d10 d11 d12 d13 d14 d15 c16 d16 c17 d17) (op : Int) (h1 : 4 ≤ op) (h2 : op ≤ 22) : ∃ kv tv dv, OpAt w (opsL m c1 c2 c3 c4 c5 c6 d6 c7 d7 c8 d8 c9 d10 d11 d12 d13 d14 d15 c16 d16 c17 d17).toArray op (opS op.toNat) kv tv dv := by
  have h : op = 4 ∨ op = 5 ∨ op = 6 ∨ op = 7 ∨ op = 8 ∨ op = 9 ∨ op = 10 ∨ op = 11 ∨ op = 12 ∨ op = 13 ∨ op = 14 ∨ op = 15 ∨ op = 16 ∨ op = 17 ∨ op = 18 ∨ op = 19 ∨ op = 20 ∨ op = 21 ∨ op = 22 := by omega
  rcases h with rfl | rfl | rfl | rfl | rfl | rfl | rfl | rfl | rfl | rfl | rfl | rfl | rfl | rfl | rfl | rfl | rfl | rfl | rfl
  · exact at4 hk
  · exact at5 hk
  · exact at6 hk
  · exact at7 hk
  · exact at8 hk
  · exact at9 hk
  · exact at10 hk
  · exact at11 hk
  · exact at12 hk
  · exact at13 hk
  · exact at14 hk
  · exact at15 hk
  · exact at16 hk
  · exact at17 hk
  · exact at18 hk
  · exact at19 hk
  · exact at20 hk
  · exact at21 hk
  · exact at22 hk

theorem OpsKept.move {w w' : World} {m c1 c2 c3 c4 c5 c6 d6 c7 d7 c8 d8 c9 d10 d11 d12 d13 d14 d15 c16 d16 c17 d17 : Nat} (h : OpsKept w m c1 c2 c3 c4 c5 c6 d6 c7 d7 c8 d8 c9 d10 d11 d12 d13 d14 d15 c16 d16 c17 d17) (hm : ∀ c x, x ≠ .int .i64 0 → w.cell? ⟨c, 0, none⟩ = some x → w'.cell? ⟨c, 0, none⟩ = some x) : OpsKept w' m c1 c2 c3 c4 c5 c6 d6 c7 d7 c8 d8 c9 d10 d11 d12 d13 d14 d15 c16 d16 c17 d17 :=
  ⟨hm _ _ (by simp) h.km, hm _ _ (by simp) h.k1, hm _ _ (by simp) h.k2, hm _ _ (by simp) h.k3, hm _ _ (by simp) h.k4, hm _ _ (by simp) h.k5, hm _ _ (by simp) h.k6, hm _ _ (by simp) h.e6, hm _ _ (by simp) h.k7, hm _ _ (by simp) h.e7, hm _ _ (by simp) h.k8, hm _ _ (by simp) h.e8, hm _ _ (by simp) h.k9, hm _ _ (by simp) h.e10, hm _ _ (by simp) h.e11, hm _ _ (by simp) h.e12, hm _ _ (by simp) h.e13, hm _ _ (by simp) h.e14, hm _ _ (by simp) h.e15, hm _ _ (by simp) h.k16, hm _ _ (by simp) h.e16, hm _ _ (by simp) h.k17, hm _ _ (by simp) h.e17⟩

theorem wpList_idx {ops : Array Oper} {rest : List Oper} {o : Oper} {a : Act} {w : World} {Q : Exit → Act → World → Prop} {x y : Operand} {t : TypeId} (T : Array Value) (X : Value) (op : Int)
    (h : ∀ w1, (Instr.index t (.agg T) (.int .i64 op)).run Tryz.prog w1 = .ok X w1) (hgd : o.guard = none) (ho : o.op = .index t x y) (hx : a.eval x = .agg T) (hy : a.eval y = .int .i64 op)
    (hK : wpList Tryz.prog ops Q rest (a.put o.dst X) w) : wpList Tryz.prog ops Q (o :: rest) a w :=
  wpList_plain hgd fun _ hK' => by
    unfold Oper.wp execOp
    simp only [ho, hx, hy, Sem.run_bind, Sem.run_pure, Result.andThen_ok, h]
    exact hK' _ _ hK
end Go.Proofs.YtemhidlaaommaaaGreatDoor
/- Contract: find. -/
namespace Go.Proofs.YtemhidlaaommaaaGreatDoor
open Go.RowKit

abbrev opV (s : OpS) (kv tv dv : Value) : Value := .agg #[.int .i64 s.n, kv, tv, .bool s.free, dv]
abbrev opZ : Value := .agg #[.int .i64 0, .nilFunc, .nilFunc, .bool false, .nilFunc]
theorem find_none (op : Int) (n : Int) (w : World) (h : op < 4 ∨ 22 < op) :
    Calls Tryz.prog 98 #[.int .i64 op, .int .i64 n] w fun e w' => e = .returned (.tuple #[opZ, .bool false]) ∧ Below w.heap.size w w' := by
  have h' : decide (op < 4) = true ∨ (decide (op < 4) = false ∧ decide (22 < op) = true) := by
    by_cases h1 : op < 4
    · exact .inl (by simpa using h1)
    · exact .inr ⟨by simpa using h1, by rw [decide_eq_true_eq]; omega⟩
  clear h
  rcases h' with h1 | ⟨h1, h2⟩
  all_goals
    go_enter Tryz.func98, Tryz.ntmps98
    go_wp2
    go_returns
    exact ⟨rfl, below_alloc _ _⟩

theorem opsL_get (w : World) : Calls Tryz.prog 134 #[] w fun e w' => ∃ T : Array Value, e = .returned (.agg T) ∧ (∀ W : World, (∀ c x, x ≠ .int .i64 0 → w'.cell? ⟨c, 0, none⟩ = some x → W.cell? ⟨c, 0, none⟩ = some x) → ∀ op : Int, 4 ≤ op → op ≤ 22 → ∃ kv tv dv, OpAt W T op (opS op.toNat) kv tv dv) ∧ Below w.heap.size w w' :=
  (operations_any w).mono fun _ _ ⟨_, _, _, _, _, _, _, _, _, _, _, _, _, _, _, _, _, _, _, _, _, _, _, he, hk, hb⟩ => ⟨_, he, fun _ hm op h1 h2 => ops_at (hk.move hm) op h1 h2, hb⟩
theorem kset {w : World} {c g : Nat} {x a0 a1 a2 a3 a4 : Value} {o : Obj} (h0 : w.cell? ⟨g, 0, none⟩ = some (.int .i64 0)) (hne : x ≠ .int .i64 0) (h : w.cell? ⟨c, 0, none⟩ = some x) :
    ((((((w.setCell ⟨g, 0, none⟩ a0).setCell ⟨g, 1, none⟩ a1).setCell ⟨g, 2, none⟩ a2).setCell ⟨g, 3, none⟩ a3).setCell ⟨g, 4, none⟩ a4).alloc o).drew.cell? ⟨c, 0, none⟩ = some x := by
  have hc : c ≠ g := by
    rintro rfl
    rw [h] at h0
    exact hne (Option.some.inj h0)
  have hl : c < w.heap.size := World.block_lt_of_cell? w ⟨c, 0, none⟩ h
  have h1 : (((((w.setCell ⟨g, 0, none⟩ a0).setCell ⟨g, 1, none⟩ a1).setCell ⟨g, 2, none⟩ a2).setCell ⟨g, 3, none⟩ a3).setCell ⟨g, 4, none⟩ a4).cell? ⟨c, 0, none⟩ = some x := by
    rw [World.cell?_setCell_other, World.cell?_setCell_other, World.cell?_setCell_other, World.cell?_setCell_other, World.cell?_setCell_other]
    · exact h
    all_goals (intro e; injection e with e1; exact hc e1.symm)
  refine (Below.cell (B := w.heap.size) (p := ⟨c, 0, none⟩) ?_ hl).trans h1
  refine (Below.alloc (Below.refl _ _) ?_ _).drew
  simp only [World.size_setCell]; exact Nat.le_refl _

set_option maxHeartbeats 1600000 in
theorem find_some (op : Int) (n : Int) (w : World) (h1 : 4 ≤ op) (h2 : op ≤ 22) :
    Calls Tryz.prog 98 #[.int .i64 op, .int .i64 n] w fun e w' => ∃ kv tv dv, e = .returned (.tuple #[opV (opS op.toNat) kv tv dv, .bool (decide (((opS op.toNat).n : Int) = n))]) ∧ OpOk w' kv tv dv (opS op.toNat) ∧ Below w.heap.size w w' := by
  have e1 : decide (op < 4) = false := by rw [decide_eq_false_iff_not]; omega
  have e2 : decide (22 < op) = false := by rw [decide_eq_false_iff_not]; omega
  have HR := Lib.hid (ResO.made w 125)
  have HH := Lib.hid (⟨h1, h2⟩ : 4 ≤ op ∧ op ≤ 22)
  clear h1 h2
  go_enter Tryz.func98, Tryz.ntmps98
  go_wp2_with fail
  refine (opsL_get _).mono ?_
  rintro e w1 ⟨T, rfl, hT, hb⟩
  obtain ⟨kv, tv, dv, hidx, hok⟩ := hT w1 (fun _ _ _ h => h) op HH.out.1 HH.out.2
  have HTT := Lib.hid hT
  have HOK := Lib.hid hok
  obtain ⟨gk, lk, ek, -⟩ := hok.kinds
  obtain ⟨gt, lt, et, -⟩ := hok.typed
  obtain ⟨gd, ld, ed, -⟩ := hok.res
  subst ek et ed
  obtain ⟨r0, r1, r2, r3, r4, f0, f1, f2, f3, f4⟩ := HR.out.later hb (by simp)
  have hlt : w.heap.size < w1.heap.size := by have := hb.size; simp at this; omega
  have hne : w.heap.size ≠ w1.heap.size := by omega
  have HB := Lib.hid (below_al hb)
  obtain ⟨S, hS⟩ : ∃ S, opS op.toNat = S := ⟨_, rfl⟩
  rw [hS] at hidx HOK
  have HS := Lib.hid hS
  have HIDX := Lib.hid hidx
  clear hT hok hS hidx HR hb
  go_wp2_with (refine wpList_idx T _ op HIDX.out rfl rfl rfl rfl ?_)
  go_region
  go_wp2
  refine bodyPost_ret (by simp [results, Tryz.results98, go_sem, r0, r1, r2, r3, r4, hlt]; try rfl) rfl ?_
  obtain ⟨kv', tv', dv', hidx', hok'⟩ := HTT.out _ (fun c x hne' h => kset (g := w.heap.size) (a0 := .int .i64 S.n) (a1 := .func (.func gk) #[] lk) (a2 := .func (.func gt) #[] lt) (a3 := .bool S.free) (a4 := .func (.func gd) #[] ld)
    (o := .cells #[.int .i64 S.n, .func (.func gk) #[] lk, .func (.func gt) #[] lt, .bool S.free, .func (.func gd) #[] ld] 125) r0 hne' h) op HH.out.1 HH.out.2
  rw [HS.out] at hidx' hok'
  have heq := (HIDX.out w).symm.trans (hidx' w)
  simp only [Result.ok.injEq, Value.agg.injEq, and_true] at heq
  have heq2 := congrArg Array.toList heq
  simp only [List.cons.injEq, and_true, true_and] at heq2
  obtain ⟨q1, q2, q3⟩ := heq2
  rw [HS.out]
  refine ⟨_, _, _, ?_, (by rw [← q1, ← q2, ← q3] at hok'; exact hok'), ?_⟩
  · have : (((S.n : Nat) : Int) == n) = decide (((S.n : Nat) : Int) = n) := by rw [Bool.eq_iff_iff]; simp
    rw [this]
  · exact ((((((HB.out.setCell (Nat.le_refl _) _).setCell (Nat.le_refl _) _).setCell (Nat.le_refl _) _).setCell (Nat.le_refl _) _).setCell (Nat.le_refl _) _).alloc (by simp only [World.size_setCell]; exact Nat.le_of_lt hlt) _).drew
end Go.Proofs.YtemhidlaaommaaaGreatDoor
