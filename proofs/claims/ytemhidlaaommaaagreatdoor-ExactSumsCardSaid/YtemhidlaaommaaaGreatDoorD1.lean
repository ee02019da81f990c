/- Lemmas and contracts, each under its own condition: Contracts: is, numeric, common, alike, and the checks of kinds. Contracts: the checks of kinds. Contracts: the functions that give result types. Contracts: the results of operations (1). -/
import Derived.Test.YtemhidlaaommaaaGreatDoorV3
/- Contracts: is, numeric, common, alike, and the checks of kinds. -/
namespace Go.Proofs.YtemhidlaaommaaaGreatDoor
open Go.RowKit

/-- a value lies among others -/
structure VaAt (w : World) (g o : Nat) (x : Va) : Prop where
  kind : w.cell? ⟨g, o, none⟩ = some (.int .i64 x.kind)
  num : w.cell? ⟨g, o + 1, none⟩ = some (.int .i64 x.num)
  den : w.cell? ⟨g, o + 2, none⟩ = some (.int .i64 x.den)
  str : w.cell? ⟨g, o + 3, none⟩ = some (.string ⟨x.str.toArray⟩)
theorem VaAt.later {w w' : World} {B g o : Nat} {x : Va} (h : VaAt w g o x) (hb : Below B w w') (hg : g < B) : VaAt w' g o x :=
  ⟨(hb.cell (p := ⟨g, o, none⟩) hg).trans h.kind, (hb.cell (p := ⟨g, o + 1, none⟩) hg).trans h.num, (hb.cell (p := ⟨g, o + 2, none⟩) hg).trans h.den, (hb.cell (p := ⟨g, o + 3, none⟩) hg).trans h.str⟩
theorem VaAt.lt {w : World} {g o : Nat} {x : Va} (h : VaAt w g o x) : g < w.heap.size := World.block_lt_of_cell? w ⟨g, o, none⟩ h.kind
theorem VaAt.later' {w w' : World} {g o : Nat} {x : Va} (h : VaAt w g o x) (hb : Below w.heap.size w w') : VaAt w' g o x := h.later hb h.lt
theorem VaAt.box {w : World} {g : Nat} {x : Va} (h : BoxAt w g x) : VaAt w g 0 x := ⟨h.kind, h.num, h.den, h.str⟩

/-- a slice holds values -/
def VaL (w : World) (v : Value) (l : List Va) : Prop :=
  ∃ g o cap, v = .slice (some ⟨g, o, none⟩) l.length cap ∧ l.length ≤ cap ∧ cap ≤ 9223372036854775807 ∧ ∀ i x, l[i]? = some x → VaAt w g (o + i * 4) x
theorem VaL.later {w w' : World} {v : Value} {l : List Va} (h : VaL w v l) (hb : Below w.heap.size w w') : VaL w' v l :=
  let ⟨g, o, cap, e, h1, h2, h3⟩ := h; ⟨g, o, cap, e, h1, h2, fun i x hx => (h3 i x hx).later' hb⟩
/-- a slice holds numbers -/
def InL (w : World) (v : Value) (l : List Int) : Prop :=
  ∃ g o cap, v = .slice (some ⟨g, o, none⟩) l.length cap ∧ l.length ≤ cap ∧ cap ≤ 9223372036854775807 ∧ ∀ i x, l[i]? = some x → w.cell? ⟨g, o + i, none⟩ = some (.int .i64 x)
theorem InL.later {w w' : World} {v : Value} {l : List Int} (h : InL w v l) (hb : Below w.heap.size w w') : InL w' v l :=
  let ⟨g, o, cap, e, h1, h2, h3⟩ := h; ⟨g, o, cap, e, h1, h2, fun i x hx => (hb.cell (p := ⟨g, o + i, none⟩) (World.block_lt_of_cell? w ⟨g, o + i, none⟩ (h3 i x hx))).trans (h3 i x hx)⟩

theorem is_any (x : Va) (k : Int) (w : World) :
    Calls Tryz.prog 189 #[x.v, .int .i64 k] w fun e w' => e = .returned (.bool (isK x k)) ∧ Below w.heap.size w w' := by
  by_cases h0 : x.kind = 0
  · have e0 : (x.kind == 0) = true := by simpa using h0
    have HF : Hid (isK x k = true) := by show _ = _; unfold isK; rw [decide_eq_true_eq]; exact .inl h0
    clear h0
    go_enter Tryz.func189, Tryz.ntmps189
    go_wp2
    go_ret
    exact ⟨ret_bool HF.out.symm, below_alloc _ _⟩
  · have e0 : (x.kind == 0) = false := by simpa using h0
    have HF : Hid (isK x k = (x.kind == k)) := by show _ = _; unfold isK; rw [Bool.eq_iff_iff]; simp [h0]
    clear h0
    go_enter Tryz.func189, Tryz.ntmps189
    go_wp2
    go_ret
    exact ⟨ret_bool HF.out.symm, below_alloc _ _⟩

theorem numeric_any (t : Int) (w : World) :
    Calls Tryz.prog 161 #[.int .i64 t] w fun e w' => e = .returned (.bool (numT t)) ∧ w = w' := by
  by_cases h0 : t = 2
  · have e0 : (t == 2) = true := by simpa using h0
    have HF : Hid (numT t = true) := by show _ = _; unfold numT; rw [decide_eq_true_eq]; exact .inl h0
    clear h0
    go_enter Tryz.func161, Tryz.ntmps161
    go_wp2
    go_ret
    exact ⟨ret_bool HF.out.symm, rfl⟩
  · have e0 : (t == 2) = false := by simpa using h0
    have HF : Hid (numT t = (t == 3)) := by show _ = _; unfold numT; rw [Bool.eq_iff_iff]; simp [h0]
    clear h0
    go_enter Tryz.func161, Tryz.ntmps161
    go_wp2
    go_ret
    exact ⟨ret_bool HF.out.symm, rfl⟩

/-- the last two of a slice of numbers -/
theorem common_core (g o cap n : Nat) (a b : Int) (w : World) (hn : n + 2 ≤ cap) (hc : cap ≤ 9223372036854775807)
    (ha : w.cell? ⟨g, o + n, none⟩ = some (.int .i64 a)) (hb : w.cell? ⟨g, o + (n + 1), none⟩ = some (.int .i64 b)) :
    Calls Tryz.prog 167 #[.slice (some ⟨g, o, none⟩) (n + 2) cap] w fun e w' => e = .returned (.int .i64 (commonT a b)) ∧ ∃ k, w' = w.drewN k := by
  have C := Lib.hid (fun (t : Int) w1 => numeric_any t w1)
  by_cases h : a = b
  · have HF : Hid (commonT a b = a) := by show _ = _; unfold commonT; rw [if_pos h]
    have e0 : (a == b) = true := by simpa using h
    clear h
    go_enter Tryz.func167, Tryz.ntmps167
    go_wp2
    go_quiet (fail)
    go_wp2
    go_ret
    exact ⟨ret_int HF.out.symm, nq, rfl⟩
  · have e0 : (a == b) = false := by simpa using h
    have HF : Hid (commonT a b = if numT a = true ∧ numT b = true then 3 else 0) := by show _ = _; unfold commonT; rw [if_neg h]
    obtain ⟨na, hna⟩ : ∃ na, numT a = na := ⟨_, rfl⟩
    obtain ⟨nb, hnb⟩ : ∃ nb, numT b = nb := ⟨_, rfl⟩
    have CA := Lib.hid (fun w1 => numeric_any a w1)
    have CB := Lib.hid (fun w1 => numeric_any b w1)
    rw [hna] at HF CA
    rw [hnb] at HF CB
    clear h hna hnb C
    cases na
    · go_enter Tryz.func167, Tryz.ntmps167
      go_wp2
      go_quiet (fail)
      go_wp2_with (go_at_call 161; refine (CA.out _).mono ?_; rintro e w1 ⟨rfl, rfl⟩)
      go_ret
      exact ⟨ret_int HF.out.symm, nq, rfl⟩
    · cases nb
      all_goals
        go_enter Tryz.func167, Tryz.ntmps167
        go_wp2
        go_quiet (fail)
        go_wp2_with (first | (go_at_call_of 161 (Value.int .i64 a); refine (CA.out _).mono ?_; rintro e w1 ⟨rfl, rfl⟩) | (go_at_call_of 161 (Value.int .i64 b); refine (CB.out _).mono ?_; rintro e w1 ⟨rfl, rfl⟩))
        go_ret
        exact ⟨ret_int HF.out.symm, nq, rfl⟩

theorem common_any (l : List Int) (h2 : 2 ≤ l.length) (v : Value) (w : World) (hv : InL w v l) :
    Calls Tryz.prog 167 #[v] w fun e w' => e = .returned (.int .i64 (lastCommon l)) ∧ ∃ k, w' = w.drewN k := by
  obtain ⟨g, o, cap, rfl, h1, hc, h3⟩ := hv
  obtain ⟨n, hn⟩ : ∃ n, l.length = n + 2 := ⟨l.length - 2, by omega⟩
  have ha : l[n]? = some (tat l n) := by unfold tat; rw [List.getD_eq_getElem?_getD, List.getElem?_eq_getElem (by omega)]; rfl
  have hb : l[n + 1]? = some (tat l (n + 1)) := by unfold tat; rw [List.getD_eq_getElem?_getD, List.getElem?_eq_getElem (by omega)]; rfl
  have e : lastCommon l = commonT (tat l n) (tat l (n + 1)) := by unfold lastCommon; rw [hn]; rfl
  rw [e, hn]
  exact common_core g o cap n _ _ w (by omega) hc (h3 n _ ha) (h3 (n + 1) _ hb)

theorem VaAt.at4 {w : World} {g o : Nat} {x : Va} (h : VaAt w g (o + 4) x) : w.cell? ⟨g, o + 4, none⟩ = some (.int .i64 x.kind) ∧ w.cell? ⟨g, o + 5, none⟩ = some (.int .i64 x.num) ∧ w.cell? ⟨g, o + 6, none⟩ = some (.int .i64 x.den) ∧ w.cell? ⟨g, o + 7, none⟩ = some (.string ⟨x.str.toArray⟩) :=
  ⟨h.kind, h.num, h.den, h.str⟩
theorem VaAt.at8 {w : World} {g o : Nat} {x : Va} (h : VaAt w g (o + 8) x) : w.cell? ⟨g, o + 8, none⟩ = some (.int .i64 x.kind) ∧ w.cell? ⟨g, o + 9, none⟩ = some (.int .i64 x.num) ∧ w.cell? ⟨g, o + 10, none⟩ = some (.int .i64 x.den) ∧ w.cell? ⟨g, o + 11, none⟩ = some (.string ⟨x.str.toArray⟩) :=
  ⟨h.kind, h.num, h.den, h.str⟩
set_option maxHeartbeats 1600000 in
theorem alike_2 (g o cap : Nat) (a b : Va) (w : World) (ha : VaAt w g o a) (hb : VaAt w g (o + 4) b) :
    Calls Tryz.prog 186 #[.slice (some ⟨g, o, none⟩) 2 cap] w fun e w' => e = .returned (.bool (alikeV a b)) ∧ Below w.heap.size w w' := by
  have hg := ha.lt
  have hg1 : g ≠ w.heap.size := by omega
  have hg2 : g ≠ w.heap.size + 1 := by omega
  obtain ⟨a0, a1, a2, a3⟩ := ha
  obtain ⟨b0, b1, b2, b3⟩ := hb.at4
  clear hb
  have C := Lib.hid (fun w1 => is_any b a.kind w1)
  by_cases h0 : a.kind = 0
  · have HF : Hid (alikeV a b = true) := by show _ = _; unfold alikeV; simp [h0]
    have e0 : (a.kind == 0) = true := by simpa using h0
    clear h0
    go_enter Tryz.func186, Tryz.ntmps186
    go_wp2
    go_region
    all_goals
      go_wp2
      go_ret
      exact ⟨ret_bool HF.out.symm, (Below.alloc (Below.alloc (Below.refl _ _) (Nat.le_refl _) _) (by simp) _).drew⟩
  · have HF : Hid (alikeV a b = isK b a.kind) := by show _ = _; unfold alikeV; simp [h0]
    have e0 : (a.kind == 0) = false := by simpa using h0
    clear h0
    go_enter Tryz.func186, Tryz.ntmps186
    go_wp2
    go_region
    all_goals
      go_wp2_with (go_at_call 189; refine (C.out _).mono ?_; rintro e w1 ⟨rfl, hb1⟩)
      go_ret
      exact ⟨ret_bool HF.out.symm, ((Below.alloc (Below.alloc (Below.refl _ _) (Nat.le_refl _) _) (by simp) _).drew).trans (hb1.mono (by simp; omega))⟩
set_option maxHeartbeats 1600000 in
theorem alike_3 (g o cap : Nat) (a b : Va) (w : World) (ha : VaAt w g (o + 4) a) (hb : VaAt w g (o + 8) b) :
    Calls Tryz.prog 186 #[.slice (some ⟨g, o, none⟩) 3 cap] w fun e w' => e = .returned (.bool (alikeV a b)) ∧ Below w.heap.size w w' := by
  have hg := ha.lt
  have hg1 : g ≠ w.heap.size := by omega
  have hg2 : g ≠ w.heap.size + 1 := by omega
  obtain ⟨a0, a1, a2, a3⟩ := ha.at4
  obtain ⟨b0, b1, b2, b3⟩ := hb.at8
  clear ha hb
  have C := Lib.hid (fun w1 => is_any b a.kind w1)
  by_cases h0 : a.kind = 0
  · have HF : Hid (alikeV a b = true) := by show _ = _; unfold alikeV; simp [h0]
    have e0 : (a.kind == 0) = true := by simpa using h0
    clear h0
    go_enter Tryz.func186, Tryz.ntmps186
    go_wp2
    go_region
    all_goals
      go_wp2
      go_ret
      exact ⟨ret_bool HF.out.symm, (Below.alloc (Below.alloc (Below.refl _ _) (Nat.le_refl _) _) (by simp) _).drew⟩
  · have HF : Hid (alikeV a b = isK b a.kind) := by show _ = _; unfold alikeV; simp [h0]
    have e0 : (a.kind == 0) = false := by simpa using h0
    clear h0
    go_enter Tryz.func186, Tryz.ntmps186
    go_wp2
    go_region
    all_goals
      go_wp2_with (go_at_call 189; refine (C.out _).mono ?_; rintro e w1 ⟨rfl, hb1⟩)
      go_ret
      exact ⟨ret_bool HF.out.symm, ((Below.alloc (Below.alloc (Below.refl _ _) (Nat.le_refl _) _) (by simp) _).drew).trans (hb1.mono (by simp; omega))⟩

theorem alike_any (l : List Va) (h2 : l.length = 2 ∨ l.length = 3) (v : Value) (w : World) (hv : VaL w v l) :
    Calls Tryz.prog 186 #[v] w fun e w' => e = .returned (.bool (lastAlike l)) ∧ Below w.heap.size w w' := by
  obtain ⟨g, o, cap, rfl, -, -, h3⟩ := hv
  match l, h2 with
  | [a, b], _ => exact alike_2 g o cap a b w (h3 0 a rfl) (h3 1 b rfl)
  | [x, a, b], _ => exact alike_3 g o cap a b w (h3 1 a rfl) (h3 2 b rfl)
end Go.Proofs.YtemhidlaaommaaaGreatDoor
/- Contracts: the checks of kinds. -/
namespace Go.Proofs.YtemhidlaaommaaaGreatDoor
open Go.RowKit

theorem below_al {w w1 : World} {o : Obj} (h : Below (w.alloc o).heap.size (w.alloc o) w1) : Below w.heap.size w w1 := (below_alloc w o).trans (h.mono (by simp))

set_option maxHeartbeats 1600000 in
theorem kinds1_1 (g o cap c : Nat) (k : Int) (a : Va) (w : World) (ha : VaAt w g o a) (hk : w.cell? ⟨c, 0, none⟩ = some (.int .i64 k)) :
    Calls Tryz.prog 205 #[.slice (some ⟨g, o, none⟩) 1 cap, .pointer (some ⟨c, 0, none⟩)] w fun e w' => e = .returned (.bool (isK a k)) ∧ Below w.heap.size w w' := by
  have C := Lib.hid (fun w1 => is_any a k w1)
  have hg := ha.lt
  have hc1 := World.block_lt_of_cell? w ⟨c, 0, none⟩ hk
  simp only at hc1
  have hc2 : c ≠ w.heap.size := by omega
  obtain ⟨a0, a1, a2, a3⟩ := ha
  obtain ⟨b, hb⟩ : ∃ b, isK a k = b := ⟨_, rfl⟩
  rw [hb] at C ⊢
  clear hb
  cases b
  · go_enter Tryz.func205, Tryz.ntmps205
    go_wp2
    refine wp_loop_rounds 2 ?_
    rw [rounds_succ]
    go_wp2_with (go_at_call 189; refine (C.out _).mono ?_; rintro e w1 ⟨rfl, hb1⟩)
    go_ret
    exact ⟨rfl, below_al hb1⟩
  · go_enter Tryz.func205, Tryz.ntmps205
    go_wp2
    refine wp_loop_rounds 2 ?_
    rw [rounds_succ]
    go_wp2_with (go_at_call 189; refine (C.out _).mono ?_; rintro e w1 ⟨rfl, hb1⟩)
    rw [rounds_succ]
    go_wp2
    go_ret
    exact ⟨rfl, below_al hb1⟩

set_option maxHeartbeats 1600000 in
theorem kinds1_2 (g o cap c : Nat) (k : Int) (a b : Va) (w : World) (ha : VaAt w g o a) (hb : VaAt w g (o + 4) b) (hk : w.cell? ⟨c, 0, none⟩ = some (.int .i64 k)) :
    Calls Tryz.prog 205 #[.slice (some ⟨g, o, none⟩) 2 cap, .pointer (some ⟨c, 0, none⟩)] w fun e w' => e = .returned (.bool (isK a k && isK b k)) ∧ Below w.heap.size w w' := by
  have C := Lib.hid (fun w1 => is_any a k w1)
  have C2 := Lib.hid (fun w1 => is_any b k w1)
  have hg := ha.lt
  have hc1 := World.block_lt_of_cell? w ⟨c, 0, none⟩ hk
  simp only at hc1
  have hc2 : c ≠ w.heap.size := by omega
  have KB := Lib.hid (fun (w1 : World) (h : Below w.heap.size w w1) => (⟨(hb.later h hg).at4, (h.cell (p := ⟨c, 0, none⟩) hc1).trans hk⟩ : (_ ∧ _) ∧ w1.cell? ⟨c, 0, none⟩ = some (.int .i64 k)))
  have HC1 := Lib.hid hc1
  have HG := Lib.hid hg
  obtain ⟨a0, a1, a2, a3⟩ := ha
  obtain ⟨r, hr⟩ : ∃ r, isK a k = r := ⟨_, rfl⟩
  obtain ⟨q, hq⟩ : ∃ r, isK b k = r := ⟨_, rfl⟩
  rw [hr] at C ⊢
  rw [hq] at C2 ⊢
  clear hr hq hb
  cases r
  · go_enter Tryz.func205, Tryz.ntmps205
    go_wp2
    refine wp_loop_rounds 3 ?_
    rw [rounds_succ]
    go_wp2_with (go_at_call 189; refine (C.out _).mono ?_; rintro e w1 ⟨rfl, hb1⟩)
    go_ret
    exact ⟨rfl, below_al hb1⟩
  · cases q
    · go_enter Tryz.func205, Tryz.ntmps205
      go_wp2
      refine wp_loop_rounds 3 ?_
      rw [rounds_succ]
      go_wp2_with (go_at_call 189; refine (C.out _).mono ?_; rintro e w1 ⟨rfl, hb1⟩)
      rw [rounds_succ]
      have hB1 := below_al hb1
      obtain ⟨⟨b0, b1, b2, b3⟩, hk1⟩ := KB.out w1 hB1
      have hs : w.heap.size < w1.heap.size := by have := hb1.size; simp at this; omega
      have hg3 : g ≠ w1.heap.size := by have := HG.out; omega
      have hc3 : c ≠ w1.heap.size := by have := HC1.out; omega
      have hc4 : c < w1.heap.size := by have := HC1.out; omega
      clear C a0 a1 a2 a3 hk
      go_wp2_with (go_at_call 189; refine (C2.out _).mono ?_; rintro e w2 ⟨rfl, hb2⟩)
      go_ret
      exact ⟨rfl, below_keep hB1 (below_al hb2)⟩
    · go_enter Tryz.func205, Tryz.ntmps205
      go_wp2
      refine wp_loop_rounds 3 ?_
      rw [rounds_succ]
      go_wp2_with (go_at_call 189; refine (C.out _).mono ?_; rintro e w1 ⟨rfl, hb1⟩)
      rw [rounds_succ]
      have hB1 := below_al hb1
      obtain ⟨⟨b0, b1, b2, b3⟩, hk1⟩ := KB.out w1 hB1
      have hs : w.heap.size < w1.heap.size := by have := hb1.size; simp at this; omega
      have hg3 : g ≠ w1.heap.size := by have := HG.out; omega
      have hc3 : c ≠ w1.heap.size := by have := HC1.out; omega
      have hc4 : c < w1.heap.size := by have := HC1.out; omega
      clear C a0 a1 a2 a3 hk
      go_wp2_with (go_at_call 189; refine (C2.out _).mono ?_; rintro e w2 ⟨rfl, hb2⟩)
      rw [rounds_succ]
      go_wp2
      go_ret
      exact ⟨rfl, below_keep hB1 (below_al hb2)⟩

theorem kinds1_any (l : List Va) (h2 : l.length = 1 ∨ l.length = 2) (v : Value) (c : Nat) (k : Int) (w : World) (hv : VaL w v l) (hk : w.cell? ⟨c, 0, none⟩ = some (.int .i64 k)) :
    Calls Tryz.prog 205 #[v, .pointer (some ⟨c, 0, none⟩)] w fun e w' => e = .returned (.bool (allK k l)) ∧ Below w.heap.size w w' := by
  obtain ⟨g, o, cap, rfl, -, -, h3⟩ := hv
  match l, h2 with
  | [a], _ =>
    refine (kinds1_1 g o cap c k a w (by simpa using h3 0 a rfl) hk).mono fun e w' ⟨he, hb⟩ => ⟨?_, hb⟩
    rw [he]; exact ret_bool (by simp [allK])
  | [a, b], _ =>
    refine (kinds1_2 g o cap c k a b w (by simpa using h3 0 a rfl) (h3 1 b rfl) hk).mono fun e w' ⟨he, hb⟩ => ⟨?_, hb⟩
    rw [he]; exact ret_bool (by simp [allK])

theorem anyKind_any (v : Value) (w : World) :
    Calls Tryz.prog 172 #[v] w fun e w' => e = .returned (.bool true) ∧ w = w' := by
  go_enter Tryz.func172, Tryz.ntmps172
  go_wp2
  go_ret
  exact ⟨rfl, rfl⟩

set_option maxHeartbeats 1600000 in
theorem kinds16_3 (g o cap : Nat) (x a b : Va) (w : World) (hx : VaAt w g o x) (hv : VaL w (.slice (some ⟨g, o, none⟩) 3 cap) [x, a, b]) :
    Calls Tryz.prog 188 #[.slice (some ⟨g, o, none⟩) 3 cap] w fun e w' => e = .returned (.bool (ifK [x, a, b])) ∧ Below w.heap.size w w' := by
  have C := Lib.hid (fun w1 => is_any x 1 w1)
  have C2 := Lib.hid (fun (w1 : World) (h : Below w.heap.size w w1) => alike_any [x, a, b] (.inr rfl) _ w1 (hv.later h))
  obtain ⟨a0, a1, a2, a3⟩ := hx
  have HF : Hid (ifK [x, a, b] = (isK x 1 && lastAlike [x, a, b])) := rfl
  obtain ⟨r, hr⟩ : ∃ r, isK x 1 = r := ⟨_, rfl⟩
  obtain ⟨q, hq⟩ : ∃ r, lastAlike [x, a, b] = r := ⟨_, rfl⟩
  rw [hr] at C HF
  rw [hq] at C2 HF
  clear hr hq hv
  cases r
  · go_enter Tryz.func188, Tryz.ntmps188
    go_wp2_with (go_at_call 189; refine (C.out _).mono ?_; rintro e w1 ⟨rfl, hb1⟩)
    go_ret
    exact ⟨ret_bool HF.out.symm, hb1⟩
  · go_enter Tryz.func188, Tryz.ntmps188
    go_wp2_with (first | (go_at_call 189; refine (C.out _).mono ?_; rintro e w1 ⟨rfl, hb1⟩) | (go_at_call 186; refine (C2.out _ hb1).mono ?_; rintro e w2 ⟨rfl, hb2⟩))
    go_ret
    exact ⟨ret_bool HF.out.symm, below_keep hb1 hb2⟩
end Go.Proofs.YtemhidlaaommaaaGreatDoor
/- Contracts: the functions that give result types. -/
namespace Go.Proofs.YtemhidlaaommaaaGreatDoor
open Go.RowKit

theorem InL.first {w : World} {v : Value} {x : Int} {r : List Int} (h : InL w v (x :: r)) : ∃ g o n cap, v = .slice (some ⟨g, o, none⟩) (n + 1) cap ∧ w.cell? ⟨g, o, none⟩ = some (.int .i64 x) ∧ n + 1 ≤ cap ∧ cap ≤ 9223372036854775807 := by
  obtain ⟨g, o, cap, e, h1, h2, h3⟩ := h
  exact ⟨g, o, r.length, cap, e, h3 0 x rfl, h1, h2⟩

/-- a function of ours that gives an int, and leaves all as it was -/
def RetI (t : Int) (w : World) (e : Ending) (w' : World) : Prop := e = .returned (.int .i64 t) ∧ Below w.heap.size w w'

theorem number1_any (x : Int) (r : List Int) (v : Value) (w : World) (hv : InL w v (x :: r)) :
    Calls Tryz.prog 160 #[v] w (RetI (number1T (x :: r)) w) := by
  obtain ⟨g, o, n, cap, rfl, hc, h1, h2⟩ := hv.first
  have C := Lib.hid (fun w1 => numeric_any x w1)
  have HF : Hid (number1T (x :: r) = if numT x = true then x else 0) := rfl
  obtain ⟨b, hb⟩ : ∃ b, numT x = b := ⟨_, rfl⟩
  rw [hb] at C HF
  clear hb hv
  cases b
  all_goals
    go_enter Tryz.func160, Tryz.ntmps160
    go_wp2_with (go_at_call 161; refine (C.out _).mono ?_; rintro e w1 ⟨rfl, rfl⟩)
    go_ret
    exact ⟨ret_int HF.out.symm, Below.refl _ _⟩
theorem whole_tT (x : Int) (r : List Int) (c : Nat) (v : Value) (w : World) (hv : InL w v (x :: r)) (hc : w.cell? ⟨c, 0, none⟩ = some (.func (.func 160) #[] #[])) :
    Calls Tryz.prog 162 #[v, .pointer (some ⟨c, 0, none⟩)] w (RetI (min (number1T (x :: r)) 2) w) := by
  have C := Lib.hid (number1_any x r v w hv)
  obtain ⟨g, o, n, cap, rfl, h0, h1, h2⟩ := hv.first
  clear hv
  go_enter Tryz.func162, Tryz.ntmps162
  go_wp2_with (go_at_call 160; refine C.out.mono ?_; rintro e w1 ⟨rfl, hb⟩)
  go_ret
  exact ⟨rfl, hb⟩
theorem boolean_any (x : Int) (r : List Int) (v : Value) (w : World) (hv : InL w v (x :: r)) :
    Calls Tryz.prog 163 #[v] w (RetI (boolT (x :: r)) w) := by
  obtain ⟨g, o, n, cap, rfl, hc, h1, h2⟩ := hv.first
  have HF : Hid (boolT (x :: r) = if x = 1 then 1 else 0) := rfl
  clear hv
  by_cases h : x = 1
  · rw [if_pos h] at HF
    have e0 : (x != 1) = false := by simpa using h
    clear h
    go_enter Tryz.func163, Tryz.ntmps163
    go_wp2
    go_ret
    exact ⟨ret_int HF.out.symm, Below.refl _ _⟩
  · rw [if_neg h] at HF
    have e0 : (x != 1) = true := by simpa using h
    clear h
    go_enter Tryz.func163, Tryz.ntmps163
    go_wp2
    go_ret
    exact ⟨ret_int HF.out.symm, Below.refl _ _⟩
theorem sums_any (x : Int) (r : List Int) (h2 : 1 ≤ r.length) (v : Value) (w : World) (hv : InL w v (x :: r)) :
    Calls Tryz.prog 165 #[v] w (RetI (sumsT (x :: r)) w) := by
  have C2 := Lib.hid (common_any (x :: r) (by simp; omega) v w hv)
  obtain ⟨g, o, n, cap, rfl, hc, h1, h2⟩ := hv.first
  have C := Lib.hid (fun w1 => numeric_any x w1)
  have HF : Hid (sumsT (x :: r) = if numT x = true then lastCommon (x :: r) else 0) := rfl
  obtain ⟨b, hb⟩ : ∃ b, numT x = b := ⟨_, rfl⟩
  rw [hb] at C HF
  clear hb hv
  cases b
  · go_enter Tryz.func165, Tryz.ntmps165
    go_wp2_with (go_at_call 161; refine (C.out _).mono ?_; rintro e w1 ⟨rfl, rfl⟩)
    go_ret
    exact ⟨ret_int HF.out.symm, Below.refl _ _⟩
  · go_enter Tryz.func165, Tryz.ntmps165
    go_wp2_with (first | (go_at_call 161; refine (C.out _).mono ?_; rintro e w1 ⟨rfl, rfl⟩) | (go_at_call 167; refine C2.out.mono ?_; rintro e w2 ⟨rfl, k, rfl⟩))
    go_ret
    exact ⟨ret_int HF.out.symm, below_drewN' _ _⟩
theorem quotient_any (x : Int) (r : List Int) (h2 : 1 ≤ r.length) (v : Value) (w : World) (hv : InL w v (x :: r)) :
    Calls Tryz.prog 164 #[v] w (RetI (quoT (x :: r)) w) := by
  have C := Lib.hid (sums_any x r h2 v w hv)
  obtain ⟨g, o, n, cap, rfl, hc, h1, h2⟩ := hv.first
  have HF : Hid (quoT (x :: r) = if sumsT (x :: r) = 0 then 0 else 3) := rfl
  obtain ⟨s, hs⟩ : ∃ s, sumsT (x :: r) = s := ⟨_, rfl⟩
  rw [hs] at C HF
  clear hs hv
  by_cases h : s = 0
  · rw [if_pos h] at HF
    have e0 : (s == 0) = true := by simpa using h
    clear h
    go_enter Tryz.func164, Tryz.ntmps164
    go_wp2_with (go_at_call 165; refine C.out.mono ?_; rintro e w1 ⟨rfl, hb⟩)
    go_ret
    exact ⟨ret_int HF.out.symm, hb⟩
  · rw [if_neg h] at HF
    have e0 : (s == 0) = false := by simpa using h
    clear h
    go_enter Tryz.func164, Tryz.ntmps164
    go_wp2_with (go_at_call 165; refine C.out.mono ?_; rintro e w1 ⟨rfl, hb⟩)
    go_ret
    exact ⟨ret_int HF.out.symm, hb⟩
theorem compT_any (l : List Int) (h2 : 2 ≤ l.length) (v : Value) (w : World) (hv : InL w v l) :
    Calls Tryz.prog 208 #[v] w (RetI (compT l) w) := by
  have C := Lib.hid (common_any l h2 v w hv)
  obtain ⟨g, o, cap, rfl, h1, h2, h3⟩ := hv
  have HF : Hid (compT l = if lastCommon l = 0 then 0 else 1) := rfl
  obtain ⟨s, hs⟩ : ∃ s, lastCommon l = s := ⟨_, rfl⟩
  rw [hs] at C HF
  clear hs h3
  by_cases h : s = 0
  · rw [if_pos h] at HF
    have e0 : (s == 0) = true := by simpa using h
    clear h
    go_enter Tryz.func208, Tryz.ntmps208
    go_wp2_with (go_at_call 167; refine C.out.mono ?_; rintro e w1 ⟨rfl, k, rfl⟩)
    go_ret
    exact ⟨ret_int HF.out.symm, below_drewN' _ _⟩
  · rw [if_neg h] at HF
    have e0 : (s == 0) = false := by simpa using h
    clear h
    go_enter Tryz.func208, Tryz.ntmps208
    go_wp2_with (go_at_call 167; refine C.out.mono ?_; rintro e w1 ⟨rfl, k, rfl⟩)
    go_ret
    exact ⟨ret_int HF.out.symm, below_drewN' _ _⟩
theorem choice_any (x : Int) (r : List Int) (h2 : 1 ≤ r.length) (v : Value) (w : World) (hv : InL w v (x :: r)) :
    Calls Tryz.prog 166 #[v] w (RetI (choiceT (x :: r)) w) := by
  have C := Lib.hid (common_any (x :: r) (by simp; omega) v w hv)
  obtain ⟨g, o, n, cap, rfl, hc, h1, h2⟩ := hv.first
  have HF : Hid (choiceT (x :: r) = if x = 1 then lastCommon (x :: r) else 0) := rfl
  clear hv
  by_cases h : x = 1
  · rw [if_pos h] at HF
    have e0 : (x != 1) = false := by simpa using h
    clear h
    go_enter Tryz.func166, Tryz.ntmps166
    go_wp2_with (go_at_call 167; refine C.out.mono ?_; rintro e w1 ⟨rfl, k, rfl⟩)
    go_ret
    exact ⟨ret_int HF.out.symm, below_drewN' _ _⟩
  · rw [if_neg h] at HF
    have e0 : (x != 1) = true := by simpa using h
    clear h
    go_enter Tryz.func166, Tryz.ntmps166
    go_wp2
    go_ret
    exact ⟨ret_int HF.out.symm, Below.refl _ _⟩
theorem logicT_any (x : Int) (r : List Int) (h2 : 1 ≤ r.length) (v : Value) (w : World) (hv : InL w v (x :: r)) (hr : 0 ≤ lastCommon (x :: r)) (hr2 : lastCommon (x :: r) ≤ 4) :
    Calls Tryz.prog 210 #[v] w (RetI (choiceT (x :: r)) w) := by
  have C := Lib.hid (common_any (x :: r) (by simp; omega) v w hv)
  obtain ⟨g, o, n, cap, rfl, hc, h1, h2⟩ := hv.first
  have HF : Hid (choiceT (x :: r) = if x = 1 then lastCommon (x :: r) else 0) := rfl
  obtain ⟨s, hs⟩ : ∃ s, lastCommon (x :: r) = s := ⟨_, rfl⟩
  rw [hs] at C HF hr hr2
  clear hs hv
  by_cases h : x = 1
  · rw [if_pos h] at HF
    have e0 : (x != 1) = false := by simpa using h
    clear h
    go_enter Tryz.func210, Tryz.ntmps210
    go_wp2_with (go_at_call 167; refine C.out.mono ?_; rintro e w1 ⟨rfl, k, rfl⟩)
    go_ret
    exact ⟨ret_int (by rw [HF.out]), below_drewN' _ _⟩
  · rw [if_neg h] at HF
    have e0 : (x != 1) = true := by simpa using h
    clear h
    go_enter Tryz.func210, Tryz.ntmps210
    go_wp2
    go_ret
    exact ⟨ret_int HF.out.symm, Below.refl _ _⟩
theorem always_any (t : Int) (c : Nat) (v : Value) (w : World) (hc : w.cell? ⟨c, 0, none⟩ = some (.int .i64 t)) :
    Calls Tryz.prog 206 #[v, .pointer (some ⟨c, 0, none⟩)] w (RetI t w) := by
  go_enter Tryz.func206, Tryz.ntmps206
  go_wp2
  go_ret
  exact ⟨rfl, Below.refl _ _⟩
end Go.Proofs.YtemhidlaaommaaaGreatDoor
/- Contracts: the results of operations (1). -/
namespace Go.Proofs.YtemhidlaaommaaaGreatDoor
open Go.RowKit

/-- a function of ours that gives a value and turns nothing below block B -/
def RetX (B : Nat) (x : Va) (w : World) (e : Ending) (w' : World) : Prop := e = .returned x.v ∧ Below B w w'
theorem VaL.first {w : World} {v : Value} {x : Va} {r : List Va} (h : VaL w v (x :: r)) : ∃ g o n cap, v = .slice (some ⟨g, o, none⟩) (n + 1) cap ∧ VaAt w g o x ∧ n + 1 ≤ cap ∧ cap ≤ 9223372036854775807 := by
  obtain ⟨g, o, cap, e, h1, h2, h3⟩ := h
  exact ⟨g, o, r.length, cap, e, by simpa using h3 0 x rfl, h1, h2⟩
theorem VaL.two {w : World} {v : Value} {x y : Va} (h : VaL w v [x, y]) : ∃ g o cap, v = .slice (some ⟨g, o, none⟩) 2 cap ∧ VaAt w g o x ∧ VaAt w g (o + 4) y ∧ 2 ≤ cap ∧ cap ≤ 9223372036854775807 := by
  obtain ⟨g, o, cap, e, h1, h2, h3⟩ := h
  exact ⟨g, o, cap, e, by simpa using h3 0 x rfl, h3 1 y rfl, h1, h2⟩
theorem VaL.three {w : World} {v : Value} {x y z : Va} (h : VaL w v [x, y, z]) : ∃ g o cap, v = .slice (some ⟨g, o, none⟩) 3 cap ∧ VaAt w g o x ∧ VaAt w g (o + 4) y ∧ VaAt w g (o + 8) z ∧ 3 ≤ cap ∧ cap ≤ 9223372036854775807 := by
  obtain ⟨g, o, cap, e, h1, h2, h3⟩ := h
  exact ⟨g, o, cap, e, by simpa using h3 0 x rfl, h3 1 y rfl, h3 2 z rfl, h1, h2⟩

theorem notR_any (b : Bool) (v : Value) (w : World) (hv : VaL w v [truthV b]) :
    Calls Tryz.prog 169 #[v] w (RetX w.heap.size (notR [truthV b]) w) := by
  obtain ⟨g, o, n, cap, rfl, h0, h1, h2⟩ := hv.first
  have hg := h0.lt
  have hg2 : g ≠ w.heap.size := by omega
  have HR := Lib.hid (ResV.made w 45)
  have C := Lib.hid (fun w1 => truth_any (!b) w1)
  have HF : Hid (notR [truthV b] = truthV (!b)) := by show _ = _; cases b <;> rfl
  clear hv
  obtain ⟨a0, a1, a2, a3⟩ := h0
  cases b
  all_goals
    simp only [if_true, Bool.false_eq_true, if_false] at a1
    go_enter Tryz.func169, Tryz.ntmps169
    go_wp2_with fail
    refine (C.out _).mono ?_
    rintro e w1 ⟨rfl, hb⟩
    obtain ⟨⟨r0, r1, r2, r3⟩, f0, f1, f2, f3⟩ := HR.out.later hb (by simp)
    have HB := below_al hb
    clear C HR hb
    go_wp2
    refine bodyPost_ret (by simp [results, Tryz.results169, go_sem, r0, r1, r2, r3]; try rfl) rfl ?_
    exact ⟨by rw [HF.out]; rfl, below_set4 HB⟩

theorem missR_any (x : Va) (v : Value) (w : World) (hv : VaL w v [x]) :
    Calls Tryz.prog 174 #[v] w (RetX w.heap.size (missR [x]) w) := by
  obtain ⟨g, o, n, cap, rfl, h0, h1, h2⟩ := hv.first
  have hg := h0.lt
  have hg2 : g ≠ w.heap.size := by omega
  have HR := Lib.hid (ResV.made w 45)
  have HF : Hid (missR [x] = truthV (x.kind == 0)) := by
    show truthV (decide (x.kind = 0)) = _
    congr 1
  clear hv
  obtain ⟨a0, a1, a2, a3⟩ := h0
  rcases e0 : (x.kind == 0) with _ | _
  · have C := Lib.hid (fun w1 => truth_any false w1)
    rw [e0] at HF
    go_enter Tryz.func174, Tryz.ntmps174
    go_wp2_with fail
    refine (C.out _).mono ?_
    rintro e w1 ⟨rfl, hb⟩
    obtain ⟨⟨r0, r1, r2, r3⟩, f0, f1, f2, f3⟩ := HR.out.later hb (by simp)
    have HB := below_al hb
    clear C HR hb
    go_wp2
    refine bodyPost_ret (by simp [results, Tryz.results174, go_sem, r0, r1, r2, r3]; try rfl) rfl ?_
    exact ⟨by rw [HF.out]; rfl, below_set4 HB⟩
  · have C := Lib.hid (fun w1 => truth_any true w1)
    rw [e0] at HF
    go_enter Tryz.func174, Tryz.ntmps174
    go_wp2_with fail
    refine (C.out _).mono ?_
    rintro e w1 ⟨rfl, hb⟩
    obtain ⟨⟨r0, r1, r2, r3⟩, f0, f1, f2, f3⟩ := HR.out.later hb (by simp)
    have HB := below_al hb
    clear C HR hb
    go_wp2
    refine bodyPost_ret (by simp [results, Tryz.results174, go_sem, r0, r1, r2, r3]; try rfl) rfl ?_
    exact ⟨by rw [HF.out]; rfl, below_set4 HB⟩

theorem reasonR_any (x : Va) (v : Value) (w : World) (hv : VaL w v [x]) :
    Calls Tryz.prog 175 #[v] w (RetX w.heap.size (reasonR [x]) w) := by
  obtain ⟨g, o, n, cap, rfl, h0, h1, h2⟩ := hv.first
  have hg := h0.lt
  have hg2 : g ≠ w.heap.size := by omega
  have hg3 : g ≠ w.heap.size + 1 := by omega
  have HF : Hid (reasonR [x] = ⟨2, if x.kind = 0 then x.num else 0, 1, []⟩) := rfl
  clear hv
  obtain ⟨a0, a1, a2, a3⟩ := h0
  by_cases h : x.kind = 0
  · rw [if_pos h] at HF
    have e0 : (x.kind == 0) = true := by simpa using h
    clear h
    go_enter Tryz.func175, Tryz.ntmps175
    go_wp2
    go_returns
    exact ⟨by rw [HF.out], (below_alloc _ _).trans ((below_alloc _ _).mono (by simp))⟩
  · rw [if_neg h] at HF
    have e0 : (x.kind == 0) = false := by simpa using h
    clear h
    go_enter Tryz.func175, Tryz.ntmps175
    go_wp2
    go_returns
    exact ⟨by rw [HF.out], (below_alloc _ _).trans ((below_alloc _ _).mono (by simp))⟩

theorem elseR_any (x y : Va) (v : Value) (w : World) (hv : VaL w v [x, y]) :
    Calls Tryz.prog 187 #[v] w (RetX w.heap.size (elseR [x, y]) w) := by
  obtain ⟨g, o, cap, rfl, h0, h3, h1, h2⟩ := hv.two
  have hg := h0.lt
  have hg2 : g ≠ w.heap.size := by omega
  have HF : Hid (elseR [x, y] = if x.kind = 0 then y else x) := rfl
  clear hv
  obtain ⟨a0, a1, a2, a3⟩ := h0
  obtain ⟨b0, b1, b2, b3⟩ := h3.at4
  clear h3
  by_cases h : x.kind = 0
  · rw [if_pos h] at HF
    have e0 : (x.kind == 0) = true := by simpa using h
    clear h
    go_enter Tryz.func187, Tryz.ntmps187
    go_wp2
    go_returns
    exact ⟨by rw [HF.out], below_alloc _ _⟩
  · rw [if_neg h] at HF
    have e0 : (x.kind == 0) = false := by simpa using h
    clear h
    go_enter Tryz.func187, Tryz.ntmps187
    go_wp2
    go_returns
    exact ⟨by rw [HF.out], below_alloc _ _⟩

theorem ifR_any (x y z : Va) (v : Value) (w : World) (hv : VaL w v [x, y, z]) :
    Calls Tryz.prog 190 #[v] w (RetX w.heap.size (ifR [x, y, z]) w) := by
  obtain ⟨g, o, cap, rfl, h0, h3, h4, h1, h2⟩ := hv.three
  have hg := h0.lt
  have hg2 : g ≠ w.heap.size := by omega
  have HF : Hid (ifR [x, y, z] = if x.kind = 0 then x else if x.num = 1 then y else z) := rfl
  clear hv
  obtain ⟨a0, a1, a2, a3⟩ := h0
  obtain ⟨b0, b1, b2, b3⟩ := h3.at4
  obtain ⟨c0, c1, c2, c3⟩ := h4.at8
  clear h3 h4
  by_cases h : x.kind = 0
  · rw [if_pos h] at HF
    have e0 : (x.kind == 0) = true := by simpa using h
    clear h
    go_enter Tryz.func190, Tryz.ntmps190
    go_wp2
    go_returns
    exact ⟨by rw [HF.out], below_alloc _ _⟩
  · rw [if_neg h] at HF
    have e0 : (x.kind == 0) = false := by simpa using h
    clear h
    by_cases h : x.num = 1
    · rw [if_pos h] at HF
      have e1 : (x.num == 1) = true := by simpa using h
      clear h
      go_enter Tryz.func190, Tryz.ntmps190
      go_wp2
      go_returns
      exact ⟨by rw [HF.out], below_alloc _ _⟩
    · rw [if_neg h] at HF
      have e1 : (x.num == 1) = false := by simpa using h
      clear h
      go_enter Tryz.func190, Tryz.ntmps190
      go_wp2
      go_returns
      exact ⟨by rw [HF.out], below_alloc _ _⟩
end Go.Proofs.YtemhidlaaommaaaGreatDoor
