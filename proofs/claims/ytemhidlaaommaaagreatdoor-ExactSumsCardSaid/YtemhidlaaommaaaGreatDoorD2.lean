/- Lemmas and contracts, each under its own condition: Contracts: the results of operations (2). Contracts: the results of operations (4): negation, floor, the logic. -/
import Derived.Test.YtemhidlaaommaaaGreatDoorD1
/- Contracts: the results of operations (2). -/
namespace Go.Proofs.YtemhidlaaommaaaGreatDoor
open Go.RowKit

set_option maxHeartbeats 1600000 in
theorem add_res (p q : Rat) (hp : FitQ p) (hq : FitQ q) (v : Value) (c : Nat) (w : World) (hv : VaL w v [ratV p, ratV q]) (hc : w.cell? ⟨c, 0, none⟩ = some (.func (.func 26) #[] #[])) :
    Calls Tryz.prog 207 #[v, .pointer (some ⟨c, 0, none⟩)] w (RetX w.heap.size (valQ (p + q)) w) := by
  obtain ⟨N, hN⟩ : ∃ N, p.num = N := ⟨_, rfl⟩
  obtain ⟨D, hD⟩ : ∃ D : Int, (p.den : Int) = D := ⟨_, rfl⟩
  obtain ⟨M, hM⟩ : ∃ M, q.num = M := ⟨_, rfl⟩
  obtain ⟨E, hE⟩ : ∃ E : Int, (q.den : Int) = E := ⟨_, rfl⟩
  have C1 : ∀ w1, Calls Tryz.prog 108 #[.agg #[.int .i64 2, .int .i64 N, .int .i64 D, .string ⟨#[]⟩]] w1 (RetR p w1) := by
    rw [← hN, ← hD]; exact fun w1 => number_any p hp w1
  have C2 : ∀ w1, Calls Tryz.prog 108 #[.agg #[.int .i64 2, .int .i64 M, .int .i64 E, .string ⟨#[]⟩]] w1 (RetR q w1) := by
    rw [← hM, ← hE]; exact fun w1 => number_any q hq w1
  have C1 := Lib.hid C1
  have C2 := Lib.hid C2
  have C3 := Lib.hid (fun (w1 : World) (x y : Value) (h1 : IsR w1 x p) (h2 : IsR w1 y q) => addR_any h1 h2 (hp.bd.smR (by decide)) (hq.bd.smR (by decide)) (hp.bd.smM hq.bd (by decide)))
  have C4 := Lib.hid (fun (w1 : World) (x : Value) (h1 : IsR w1 x (p + q)) => value_any h1)
  obtain ⟨g, o, cap, rfl, h0, h3, h1, h2⟩ := hv.two
  have hg := h0.lt
  have hc1 := World.block_lt_of_cell? w ⟨c, 0, none⟩ hc
  simp only at hc1
  have K : ∀ w' : World, Below w.heap.size w w' → (w'.cell? ⟨c, 0, none⟩ = some (.func (.func 26) #[] #[]) ∧ w'.cell? ⟨g, o, none⟩ = some (.int .i64 2) ∧ w'.cell? ⟨g, o + 1, none⟩ = some (.int .i64 N) ∧ w'.cell? ⟨g, o + 2, none⟩ = some (.int .i64 D) ∧ w'.cell? ⟨g, o + 3, none⟩ = some (.string ⟨#[]⟩) ∧ w'.cell? ⟨g, o + 4, none⟩ = some (.int .i64 2) ∧ w'.cell? ⟨g, o + 5, none⟩ = some (.int .i64 M) ∧ w'.cell? ⟨g, o + 6, none⟩ = some (.int .i64 E) ∧ w'.cell? ⟨g, o + 7, none⟩ = some (.string ⟨#[]⟩) ∧ Below w.heap.size w w') := fun w1 hb =>
    let b1 := h0.later hb hg; let b2 := h3.later hb hg
    ⟨(hb.cell (p := ⟨c, 0, none⟩) hc1).trans hc, b1.kind, hN ▸ b1.num, hD ▸ b1.den, b1.str, b2.kind, hM ▸ b2.num, hE ▸ b2.den, b2.str, hb⟩
  have HR := Lib.hid (ResV.made w 45)
  obtain ⟨W, hW⟩ : ∃ W, W = w.alloc (.cells #[.int .i64 0, .int .i64 0, .int .i64 0, .string ⟨#[]⟩] 45) := ⟨_, rfl⟩
  rw [← hW] at HR
  have hB : Below w.heap.size w W := by rw [hW]; exact below_alloc _ _
  have hlt : w.heap.size < W.heap.size := by rw [hW]; simp
  have HLT := Lib.hid hlt
  have hbd : Below w.heap.size w W.drew := hB.drew
  have hbW : Below W.heap.size W W.drew := (Below.refl _ _).drew
  obtain ⟨k8, k0, k1, k2, k3, k4, k5, k6, k7, -⟩ := K W hB
  have K := Lib.hid K
  rename_i C1' C2' K'
  clear C1' C2' K' hN hD hM hE h0 h3 hc hv
  go_enter Tryz.func207, Tryz.ntmps207
  go_wp2_with fail
  rw [← hW]
  clear hW
  go_region_held3 (fun w' => w'.cell? ⟨c, 0, none⟩ = some (.func (.func 26) #[] #[]) ∧ w'.cell? ⟨g, o, none⟩ = some (.int .i64 2) ∧ w'.cell? ⟨g, o + 1, none⟩ = some (.int .i64 N) ∧ w'.cell? ⟨g, o + 2, none⟩ = some (.int .i64 D) ∧ w'.cell? ⟨g, o + 3, none⟩ = some (.string ⟨#[]⟩) ∧ w'.cell? ⟨g, o + 4, none⟩ = some (.int .i64 2) ∧ w'.cell? ⟨g, o + 5, none⟩ = some (.int .i64 M) ∧ w'.cell? ⟨g, o + 6, none⟩ = some (.int .i64 E) ∧ w'.cell? ⟨g, o + 7, none⟩ = some (.string ⟨#[]⟩) ∧ Below w.heap.size w w')
    (first | exact K.out _ (by assumption) | exact K.out _ (below_set4 hB4))
    (first
      | (go_at_call_of 108 (Value.agg #[.int .i64 2, .int .i64 N, .int .i64 D, .string ⟨#[]⟩]); refine (C1.out _).mono ?_; rintro e w2 ⟨v1, rfl, hv1, hb1⟩; have hB1 := below_keep hbd hb1)
      | (go_at_call_of 108 (Value.agg #[.int .i64 2, .int .i64 M, .int .i64 E, .string ⟨#[]⟩]); refine (C2.out _).mono ?_; rintro e w3 ⟨v2, rfl, hv2, hb2⟩; have hB2 := below_keep hB1 hb2)
      | (go_at_call 26; refine (C3.out _ _ _ (hv1.later hb2) hv2).mono ?_; rintro e w4 ⟨v3, rfl, hv3, hb3⟩; have hB3 := below_keep hB2 hb3)
      | (go_at_call 56; refine (C4.out _ _ hv3).mono ?_; rintro e w5 ⟨rfl, hb4⟩; have hB4 := below_keep hB3 hb4; obtain ⟨⟨r0, r1, r2, r3⟩, f0, f1, f2, f3⟩ := HR.out.later (below_keep (below_keep (below_keep (below_keep hbW hb1) hb2) hb3) hb4) HLT.out))
  go_wp2
  refine bodyPost_ret (by simp [results, Tryz.results207, go_sem, r0, r1, r2, r3]; try rfl) rfl ?_
  exact ⟨rfl, below_set4 hB4⟩

set_option maxHeartbeats 1600000 in
theorem sub_res (p q : Rat) (hp : FitQ p) (hq : FitQ q) (v : Value) (c : Nat) (w : World) (hv : VaL w v [ratV p, ratV q]) (hc : w.cell? ⟨c, 0, none⟩ = some (.func (.func 28) #[] #[])) :
    Calls Tryz.prog 207 #[v, .pointer (some ⟨c, 0, none⟩)] w (RetX w.heap.size (valQ (p - q)) w) := by
  obtain ⟨N, hN⟩ : ∃ N, p.num = N := ⟨_, rfl⟩
  obtain ⟨D, hD⟩ : ∃ D : Int, (p.den : Int) = D := ⟨_, rfl⟩
  obtain ⟨M, hM⟩ : ∃ M, q.num = M := ⟨_, rfl⟩
  obtain ⟨E, hE⟩ : ∃ E : Int, (q.den : Int) = E := ⟨_, rfl⟩
  have C1 : ∀ w1, Calls Tryz.prog 108 #[.agg #[.int .i64 2, .int .i64 N, .int .i64 D, .string ⟨#[]⟩]] w1 (RetR p w1) := by
    rw [← hN, ← hD]; exact fun w1 => number_any p hp w1
  have C2 : ∀ w1, Calls Tryz.prog 108 #[.agg #[.int .i64 2, .int .i64 M, .int .i64 E, .string ⟨#[]⟩]] w1 (RetR q w1) := by
    rw [← hM, ← hE]; exact fun w1 => number_any q hq w1
  have C1 := Lib.hid C1
  have C2 := Lib.hid C2
  have C3 := Lib.hid (fun (w1 : World) (x y : Value) (h1 : IsR w1 x p) (h2 : IsR w1 y q) => subR_any h1 h2 (hp.bd.smR (by decide)) (hq.bd.smR (by decide)) (hp.bd.smM hq.bd (by decide)))
  have C4 := Lib.hid (fun (w1 : World) (x : Value) (h1 : IsR w1 x (p - q)) => value_any h1)
  obtain ⟨g, o, cap, rfl, h0, h3, h1, h2⟩ := hv.two
  have hg := h0.lt
  have hc1 := World.block_lt_of_cell? w ⟨c, 0, none⟩ hc
  simp only at hc1
  have K : ∀ w' : World, Below w.heap.size w w' → (w'.cell? ⟨c, 0, none⟩ = some (.func (.func 28) #[] #[]) ∧ w'.cell? ⟨g, o, none⟩ = some (.int .i64 2) ∧ w'.cell? ⟨g, o + 1, none⟩ = some (.int .i64 N) ∧ w'.cell? ⟨g, o + 2, none⟩ = some (.int .i64 D) ∧ w'.cell? ⟨g, o + 3, none⟩ = some (.string ⟨#[]⟩) ∧ w'.cell? ⟨g, o + 4, none⟩ = some (.int .i64 2) ∧ w'.cell? ⟨g, o + 5, none⟩ = some (.int .i64 M) ∧ w'.cell? ⟨g, o + 6, none⟩ = some (.int .i64 E) ∧ w'.cell? ⟨g, o + 7, none⟩ = some (.string ⟨#[]⟩) ∧ Below w.heap.size w w') := fun w1 hb =>
    let b1 := h0.later hb hg; let b2 := h3.later hb hg
    ⟨(hb.cell (p := ⟨c, 0, none⟩) hc1).trans hc, b1.kind, hN ▸ b1.num, hD ▸ b1.den, b1.str, b2.kind, hM ▸ b2.num, hE ▸ b2.den, b2.str, hb⟩
  have HR := Lib.hid (ResV.made w 45)
  obtain ⟨W, hW⟩ : ∃ W, W = w.alloc (.cells #[.int .i64 0, .int .i64 0, .int .i64 0, .string ⟨#[]⟩] 45) := ⟨_, rfl⟩
  rw [← hW] at HR
  have hB : Below w.heap.size w W := by rw [hW]; exact below_alloc _ _
  have hlt : w.heap.size < W.heap.size := by rw [hW]; simp
  have HLT := Lib.hid hlt
  have hbd : Below w.heap.size w W.drew := hB.drew
  have hbW : Below W.heap.size W W.drew := (Below.refl _ _).drew
  obtain ⟨k8, k0, k1, k2, k3, k4, k5, k6, k7, -⟩ := K W hB
  have K := Lib.hid K
  rename_i C1' C2' K'
  clear C1' C2' K' hN hD hM hE h0 h3 hc hv
  go_enter Tryz.func207, Tryz.ntmps207
  go_wp2_with fail
  rw [← hW]
  clear hW
  go_region_held3 (fun w' => w'.cell? ⟨c, 0, none⟩ = some (.func (.func 28) #[] #[]) ∧ w'.cell? ⟨g, o, none⟩ = some (.int .i64 2) ∧ w'.cell? ⟨g, o + 1, none⟩ = some (.int .i64 N) ∧ w'.cell? ⟨g, o + 2, none⟩ = some (.int .i64 D) ∧ w'.cell? ⟨g, o + 3, none⟩ = some (.string ⟨#[]⟩) ∧ w'.cell? ⟨g, o + 4, none⟩ = some (.int .i64 2) ∧ w'.cell? ⟨g, o + 5, none⟩ = some (.int .i64 M) ∧ w'.cell? ⟨g, o + 6, none⟩ = some (.int .i64 E) ∧ w'.cell? ⟨g, o + 7, none⟩ = some (.string ⟨#[]⟩) ∧ Below w.heap.size w w')
    (first | exact K.out _ (by assumption) | exact K.out _ (below_set4 hB4))
    (first
      | (go_at_call_of 108 (Value.agg #[.int .i64 2, .int .i64 N, .int .i64 D, .string ⟨#[]⟩]); refine (C1.out _).mono ?_; rintro e w2 ⟨v1, rfl, hv1, hb1⟩; have hB1 := below_keep hbd hb1)
      | (go_at_call_of 108 (Value.agg #[.int .i64 2, .int .i64 M, .int .i64 E, .string ⟨#[]⟩]); refine (C2.out _).mono ?_; rintro e w3 ⟨v2, rfl, hv2, hb2⟩; have hB2 := below_keep hB1 hb2)
      | (go_at_call 28; refine (C3.out _ _ _ (hv1.later hb2) hv2).mono ?_; rintro e w4 ⟨v3, rfl, hv3, hb3⟩; have hB3 := below_keep hB2 hb3)
      | (go_at_call 56; refine (C4.out _ _ hv3).mono ?_; rintro e w5 ⟨rfl, hb4⟩; have hB4 := below_keep hB3 hb4; obtain ⟨⟨r0, r1, r2, r3⟩, f0, f1, f2, f3⟩ := HR.out.later (below_keep (below_keep (below_keep (below_keep hbW hb1) hb2) hb3) hb4) HLT.out))
  go_wp2
  refine bodyPost_ret (by simp [results, Tryz.results207, go_sem, r0, r1, r2, r3]; try rfl) rfl ?_
  exact ⟨rfl, below_set4 hB4⟩

set_option maxHeartbeats 1600000 in
theorem mul_res (p q : Rat) (hp : FitQ p) (hq : FitQ q) (v : Value) (c : Nat) (w : World) (hv : VaL w v [ratV p, ratV q]) (hc : w.cell? ⟨c, 0, none⟩ = some (.func (.func 30) #[] #[])) :
    Calls Tryz.prog 207 #[v, .pointer (some ⟨c, 0, none⟩)] w (RetX w.heap.size (valQ (p * q)) w) := by
  obtain ⟨N, hN⟩ : ∃ N, p.num = N := ⟨_, rfl⟩
  obtain ⟨D, hD⟩ : ∃ D : Int, (p.den : Int) = D := ⟨_, rfl⟩
  obtain ⟨M, hM⟩ : ∃ M, q.num = M := ⟨_, rfl⟩
  obtain ⟨E, hE⟩ : ∃ E : Int, (q.den : Int) = E := ⟨_, rfl⟩
  have C1 : ∀ w1, Calls Tryz.prog 108 #[.agg #[.int .i64 2, .int .i64 N, .int .i64 D, .string ⟨#[]⟩]] w1 (RetR p w1) := by
    rw [← hN, ← hD]; exact fun w1 => number_any p hp w1
  have C2 : ∀ w1, Calls Tryz.prog 108 #[.agg #[.int .i64 2, .int .i64 M, .int .i64 E, .string ⟨#[]⟩]] w1 (RetR q w1) := by
    rw [← hM, ← hE]; exact fun w1 => number_any q hq w1
  have C1 := Lib.hid C1
  have C2 := Lib.hid C2
  have C3 := Lib.hid (fun (w1 : World) (x y : Value) (h1 : IsR w1 x p) (h2 : IsR w1 y q) => mulR_any h1 h2 (hp.bd.smR (by decide)) (hq.bd.smR (by decide)) (hp.bd.smM hq.bd (by decide)))
  have C4 := Lib.hid (fun (w1 : World) (x : Value) (h1 : IsR w1 x (p * q)) => value_any h1)
  obtain ⟨g, o, cap, rfl, h0, h3, h1, h2⟩ := hv.two
  have hg := h0.lt
  have hc1 := World.block_lt_of_cell? w ⟨c, 0, none⟩ hc
  simp only at hc1
  have K : ∀ w' : World, Below w.heap.size w w' → (w'.cell? ⟨c, 0, none⟩ = some (.func (.func 30) #[] #[]) ∧ w'.cell? ⟨g, o, none⟩ = some (.int .i64 2) ∧ w'.cell? ⟨g, o + 1, none⟩ = some (.int .i64 N) ∧ w'.cell? ⟨g, o + 2, none⟩ = some (.int .i64 D) ∧ w'.cell? ⟨g, o + 3, none⟩ = some (.string ⟨#[]⟩) ∧ w'.cell? ⟨g, o + 4, none⟩ = some (.int .i64 2) ∧ w'.cell? ⟨g, o + 5, none⟩ = some (.int .i64 M) ∧ w'.cell? ⟨g, o + 6, none⟩ = some (.int .i64 E) ∧ w'.cell? ⟨g, o + 7, none⟩ = some (.string ⟨#[]⟩) ∧ Below w.heap.size w w') := fun w1 hb =>
    let b1 := h0.later hb hg; let b2 := h3.later hb hg
    ⟨(hb.cell (p := ⟨c, 0, none⟩) hc1).trans hc, b1.kind, hN ▸ b1.num, hD ▸ b1.den, b1.str, b2.kind, hM ▸ b2.num, hE ▸ b2.den, b2.str, hb⟩
  have HR := Lib.hid (ResV.made w 45)
  obtain ⟨W, hW⟩ : ∃ W, W = w.alloc (.cells #[.int .i64 0, .int .i64 0, .int .i64 0, .string ⟨#[]⟩] 45) := ⟨_, rfl⟩
  rw [← hW] at HR
  have hB : Below w.heap.size w W := by rw [hW]; exact below_alloc _ _
  have hlt : w.heap.size < W.heap.size := by rw [hW]; simp
  have HLT := Lib.hid hlt
  have hbd : Below w.heap.size w W.drew := hB.drew
  have hbW : Below W.heap.size W W.drew := (Below.refl _ _).drew
  obtain ⟨k8, k0, k1, k2, k3, k4, k5, k6, k7, -⟩ := K W hB
  have K := Lib.hid K
  rename_i C1' C2' K'
  clear C1' C2' K' hN hD hM hE h0 h3 hc hv
  go_enter Tryz.func207, Tryz.ntmps207
  go_wp2_with fail
  rw [← hW]
  clear hW
  go_region_held3 (fun w' => w'.cell? ⟨c, 0, none⟩ = some (.func (.func 30) #[] #[]) ∧ w'.cell? ⟨g, o, none⟩ = some (.int .i64 2) ∧ w'.cell? ⟨g, o + 1, none⟩ = some (.int .i64 N) ∧ w'.cell? ⟨g, o + 2, none⟩ = some (.int .i64 D) ∧ w'.cell? ⟨g, o + 3, none⟩ = some (.string ⟨#[]⟩) ∧ w'.cell? ⟨g, o + 4, none⟩ = some (.int .i64 2) ∧ w'.cell? ⟨g, o + 5, none⟩ = some (.int .i64 M) ∧ w'.cell? ⟨g, o + 6, none⟩ = some (.int .i64 E) ∧ w'.cell? ⟨g, o + 7, none⟩ = some (.string ⟨#[]⟩) ∧ Below w.heap.size w w')
    (first | exact K.out _ (by assumption) | exact K.out _ (below_set4 hB4))
    (first
      | (go_at_call_of 108 (Value.agg #[.int .i64 2, .int .i64 N, .int .i64 D, .string ⟨#[]⟩]); refine (C1.out _).mono ?_; rintro e w2 ⟨v1, rfl, hv1, hb1⟩; have hB1 := below_keep hbd hb1)
      | (go_at_call_of 108 (Value.agg #[.int .i64 2, .int .i64 M, .int .i64 E, .string ⟨#[]⟩]); refine (C2.out _).mono ?_; rintro e w3 ⟨v2, rfl, hv2, hb2⟩; have hB2 := below_keep hB1 hb2)
      | (go_at_call 30; refine (C3.out _ _ _ (hv1.later hb2) hv2).mono ?_; rintro e w4 ⟨v3, rfl, hv3, hb3⟩; have hB3 := below_keep hB2 hb3)
      | (go_at_call 56; refine (C4.out _ _ hv3).mono ?_; rintro e w5 ⟨rfl, hb4⟩; have hB4 := below_keep hB3 hb4; obtain ⟨⟨r0, r1, r2, r3⟩, f0, f1, f2, f3⟩ := HR.out.later (below_keep (below_keep (below_keep (below_keep hbW hb1) hb2) hb3) hb4) HLT.out))
  go_wp2
  refine bodyPost_ret (by simp [results, Tryz.results207, go_sem, r0, r1, r2, r3]; try rfl) rfl ?_
  exact ⟨rfl, below_set4 hB4⟩

set_option maxHeartbeats 1600000 in
theorem div_res0 (p q : Rat) (hp : FitQ p) (hq : FitQ q) (h0 : q = 0) (v : Value) (w : World) (hv : VaL w v [ratV p, ratV q]) :
    Calls Tryz.prog 177 #[v] w (RetX w.heap.size (missV 3) w) := by
  obtain ⟨N, hN⟩ : ∃ N, p.num = N := ⟨_, rfl⟩
  obtain ⟨D, hD⟩ : ∃ D : Int, (p.den : Int) = D := ⟨_, rfl⟩
  obtain ⟨M, hM⟩ : ∃ M, q.num = M := ⟨_, rfl⟩
  obtain ⟨E, hE⟩ : ∃ E : Int, (q.den : Int) = E := ⟨_, rfl⟩
  have C1 : ∀ w1, Calls Tryz.prog 108 #[.agg #[.int .i64 2, .int .i64 N, .int .i64 D, .string ⟨#[]⟩]] w1 (RetR p w1) := by
    rw [← hN, ← hD]; exact fun w1 => number_any p hp w1
  have C2 : ∀ w1, Calls Tryz.prog 108 #[.agg #[.int .i64 2, .int .i64 M, .int .i64 E, .string ⟨#[]⟩]] w1 (RetR q w1) := by
    rw [← hM, ← hE]; exact fun w1 => number_any q hq w1
  have C1 := Lib.hid C1
  have C2 := Lib.hid C2
  have C3 := Lib.hid (fun (w1 : World) (x y : Value) (h1 : IsR w1 x p) (h2 : IsR w1 y q) => quoR_zero h1 (h0 ▸ h2 : IsR w1 y 0))
  obtain ⟨g, o, cap, rfl, h0, h3, h1, h2⟩ := hv.two
  have hg := h0.lt
  have K : ∀ w' : World, Below w.heap.size w w' → (w'.cell? ⟨g, o, none⟩ = some (.int .i64 2) ∧ w'.cell? ⟨g, o + 1, none⟩ = some (.int .i64 N) ∧ w'.cell? ⟨g, o + 2, none⟩ = some (.int .i64 D) ∧ w'.cell? ⟨g, o + 3, none⟩ = some (.string ⟨#[]⟩) ∧ w'.cell? ⟨g, o + 4, none⟩ = some (.int .i64 2) ∧ w'.cell? ⟨g, o + 5, none⟩ = some (.int .i64 M) ∧ w'.cell? ⟨g, o + 6, none⟩ = some (.int .i64 E) ∧ w'.cell? ⟨g, o + 7, none⟩ = some (.string ⟨#[]⟩) ∧ Below w.heap.size w w') := fun w1 hb =>
    let b1 := h0.later hb hg; let b2 := h3.later hb hg
    ⟨b1.kind, hN ▸ b1.num, hD ▸ b1.den, b1.str, b2.kind, hM ▸ b2.num, hE ▸ b2.den, b2.str, hb⟩
  have HR := Lib.hid (ResV.made w 45)
  obtain ⟨W, hW⟩ : ∃ W, W = w.alloc (.cells #[.int .i64 0, .int .i64 0, .int .i64 0, .string ⟨#[]⟩] 45) := ⟨_, rfl⟩
  rw [← hW] at HR
  have hB : Below w.heap.size w W := by rw [hW]; exact below_alloc _ _
  have hlt : w.heap.size < W.heap.size := by rw [hW]; simp
  have HLT := Lib.hid hlt
  have hbd : Below w.heap.size w W.drew := hB.drew
  have hbW : Below W.heap.size W W.drew := (Below.refl _ _).drew
  obtain ⟨k0, k1, k2, k3, k4, k5, k6, k7, -⟩ := K W hB
  have K := Lib.hid K
  rename_i C1' C2' K'
  clear C1' C2' K' hN hD hM hE h0 h3 hv
  go_enter Tryz.func177, Tryz.ntmps177
  go_wp2_with fail
  rw [← hW]
  clear hW
  go_region_held3 (fun w' => w'.cell? ⟨g, o, none⟩ = some (.int .i64 2) ∧ w'.cell? ⟨g, o + 1, none⟩ = some (.int .i64 N) ∧ w'.cell? ⟨g, o + 2, none⟩ = some (.int .i64 D) ∧ w'.cell? ⟨g, o + 3, none⟩ = some (.string ⟨#[]⟩) ∧ w'.cell? ⟨g, o + 4, none⟩ = some (.int .i64 2) ∧ w'.cell? ⟨g, o + 5, none⟩ = some (.int .i64 M) ∧ w'.cell? ⟨g, o + 6, none⟩ = some (.int .i64 E) ∧ w'.cell? ⟨g, o + 7, none⟩ = some (.string ⟨#[]⟩) ∧ Below w.heap.size w w')
    (first | exact K.out _ (by assumption))
    (first
      | (go_at_call_of 108 (Value.agg #[.int .i64 2, .int .i64 N, .int .i64 D, .string ⟨#[]⟩]); refine (C1.out _).mono ?_; rintro e w2 ⟨v1, rfl, hv1, hb1⟩; have hB1 := below_keep hbd hb1)
      | (go_at_call_of 108 (Value.agg #[.int .i64 2, .int .i64 M, .int .i64 E, .string ⟨#[]⟩]); refine (C2.out _).mono ?_; rintro e w3 ⟨v2, rfl, hv2, hb2⟩; have hB2 := below_keep hB1 hb2)
      | (go_at_call 24; refine (C3.out _ _ _ (hv1.later hb2) hv2).mono ?_; rintro e w4 ⟨rfl, rfl⟩))
  have HM := Lib.hid (fun w1 => missing_any 3 w1)
  have HRX := Lib.hid (HR.out.later (below_keep (below_keep hbW hb1) hb2) HLT.out)
  have HLT2 := Lib.hid (Nat.lt_of_lt_of_le HLT.out (below_keep (below_keep hbW hb1) hb2).size)
  go_wp2_with (go_at_call 94; refine (HM.out _).mono ?_; rintro e w5 ⟨rfl, hb4⟩; obtain ⟨⟨r0, r1, r2, r3⟩, f0, f1, f2, f3⟩ := HRX.out.later hb4 HLT2.out)
  refine bodyPost_ret (by simp [results, Tryz.results177, go_sem, r0, r1, r2, r3]; try rfl) rfl ?_
  exact ⟨rfl, below_set4 (below_keep hB2 hb4)⟩

set_option maxHeartbeats 1600000 in
theorem div_res (p q : Rat) (hp : FitQ p) (hq : FitQ q) (h0 : q ≠ 0) (v : Value) (w : World) (hv : VaL w v [ratV p, ratV q]) :
    Calls Tryz.prog 177 #[v] w (RetX w.heap.size (valQ (p / q)) w) := by
  obtain ⟨N, hN⟩ : ∃ N, p.num = N := ⟨_, rfl⟩
  obtain ⟨D, hD⟩ : ∃ D : Int, (p.den : Int) = D := ⟨_, rfl⟩
  obtain ⟨M, hM⟩ : ∃ M, q.num = M := ⟨_, rfl⟩
  obtain ⟨E, hE⟩ : ∃ E : Int, (q.den : Int) = E := ⟨_, rfl⟩
  have C1 : ∀ w1, Calls Tryz.prog 108 #[.agg #[.int .i64 2, .int .i64 N, .int .i64 D, .string ⟨#[]⟩]] w1 (RetR p w1) := by
    rw [← hN, ← hD]; exact fun w1 => number_any p hp w1
  have C2 : ∀ w1, Calls Tryz.prog 108 #[.agg #[.int .i64 2, .int .i64 M, .int .i64 E, .string ⟨#[]⟩]] w1 (RetR q w1) := by
    rw [← hM, ← hE]; exact fun w1 => number_any q hq w1
  have C1 := Lib.hid C1
  have C2 := Lib.hid C2
  have C3 := Lib.hid (fun (w1 : World) (x y : Value) (h1 : IsR w1 x p) (h2 : IsR w1 y q) => quoR_any h1 h2 (hp.bd.smR (by decide)) (hq.bd.smR (by decide)) (hp.bd.smM hq.bd (by decide)) h0)
  have C4 := Lib.hid (fun (w1 : World) (x : Value) (h1 : IsR w1 x (p / q)) => value_any h1)
  obtain ⟨g, o, cap, rfl, h0, h3, h1, h2⟩ := hv.two
  have hg := h0.lt
  have K : ∀ w' : World, Below w.heap.size w w' → (w'.cell? ⟨g, o, none⟩ = some (.int .i64 2) ∧ w'.cell? ⟨g, o + 1, none⟩ = some (.int .i64 N) ∧ w'.cell? ⟨g, o + 2, none⟩ = some (.int .i64 D) ∧ w'.cell? ⟨g, o + 3, none⟩ = some (.string ⟨#[]⟩) ∧ w'.cell? ⟨g, o + 4, none⟩ = some (.int .i64 2) ∧ w'.cell? ⟨g, o + 5, none⟩ = some (.int .i64 M) ∧ w'.cell? ⟨g, o + 6, none⟩ = some (.int .i64 E) ∧ w'.cell? ⟨g, o + 7, none⟩ = some (.string ⟨#[]⟩) ∧ Below w.heap.size w w') := fun w1 hb =>
    let b1 := h0.later hb hg; let b2 := h3.later hb hg
    ⟨b1.kind, hN ▸ b1.num, hD ▸ b1.den, b1.str, b2.kind, hM ▸ b2.num, hE ▸ b2.den, b2.str, hb⟩
  have HR := Lib.hid (ResV.made w 45)
  obtain ⟨W, hW⟩ : ∃ W, W = w.alloc (.cells #[.int .i64 0, .int .i64 0, .int .i64 0, .string ⟨#[]⟩] 45) := ⟨_, rfl⟩
  rw [← hW] at HR
  have hB : Below w.heap.size w W := by rw [hW]; exact below_alloc _ _
  have hlt : w.heap.size < W.heap.size := by rw [hW]; simp
  have HLT := Lib.hid hlt
  have hbd : Below w.heap.size w W.drew := hB.drew
  have hbW : Below W.heap.size W W.drew := (Below.refl _ _).drew
  obtain ⟨k0, k1, k2, k3, k4, k5, k6, k7, -⟩ := K W hB
  have K := Lib.hid K
  rename_i C1' C2' K'
  clear C1' C2' K' hN hD hM hE h0 h3 hv
  go_enter Tryz.func177, Tryz.ntmps177
  go_wp2_with fail
  rw [← hW]
  clear hW
  go_region_held3 (fun w' => w'.cell? ⟨g, o, none⟩ = some (.int .i64 2) ∧ w'.cell? ⟨g, o + 1, none⟩ = some (.int .i64 N) ∧ w'.cell? ⟨g, o + 2, none⟩ = some (.int .i64 D) ∧ w'.cell? ⟨g, o + 3, none⟩ = some (.string ⟨#[]⟩) ∧ w'.cell? ⟨g, o + 4, none⟩ = some (.int .i64 2) ∧ w'.cell? ⟨g, o + 5, none⟩ = some (.int .i64 M) ∧ w'.cell? ⟨g, o + 6, none⟩ = some (.int .i64 E) ∧ w'.cell? ⟨g, o + 7, none⟩ = some (.string ⟨#[]⟩) ∧ Below w.heap.size w w')
    (first | exact K.out _ (by assumption))
    (first
      | (go_at_call_of 108 (Value.agg #[.int .i64 2, .int .i64 N, .int .i64 D, .string ⟨#[]⟩]); refine (C1.out _).mono ?_; rintro e w2 ⟨v1, rfl, hv1, hb1⟩; have hB1 := below_keep hbd hb1)
      | (go_at_call_of 108 (Value.agg #[.int .i64 2, .int .i64 M, .int .i64 E, .string ⟨#[]⟩]); refine (C2.out _).mono ?_; rintro e w3 ⟨v2, rfl, hv2, hb2⟩; have hB2 := below_keep hB1 hb2)
      | (go_at_call 24; refine (C3.out _ _ _ (hv1.later hb2) hv2).mono ?_; rintro e w4 ⟨v3, rfl, hv3, hb3⟩; have hB3 := below_keep hB2 hb3))
  have C5 := Lib.hid (C4.out _ _ hv3)
  obtain ⟨g3, vn, vd, hvs, -⟩ := hv3
  subst hvs
  have HRX := Lib.hid (HR.out.later (below_keep (below_keep (below_keep hbW hb1) hb2) hb3) HLT.out)
  have HLT2 := Lib.hid (Nat.lt_of_lt_of_le HLT.out (below_keep (below_keep (below_keep hbW hb1) hb2) hb3).size)
  go_wp2_with (go_at_call 56; refine C5.out.mono ?_; rintro e w5 ⟨rfl, hb4⟩; obtain ⟨⟨r0, r1, r2, r3⟩, f0, f1, f2, f3⟩ := HRX.out.later hb4 HLT2.out)
  refine bodyPost_ret (by simp [results, Tryz.results177, go_sem, r0, r1, r2, r3]; try rfl) rfl ?_
  exact ⟨rfl, below_set4 (below_keep hB3 hb4)⟩
end Go.Proofs.YtemhidlaaommaaaGreatDoor
/- Contracts: the results of operations (4): negation, floor, the logic. -/
namespace Go.Proofs.YtemhidlaaommaaaGreatDoor
open Go.RowKit

set_option maxHeartbeats 1600000 in
theorem neg_res (q : Rat) (hq : FitQ q) (g n cap : Nat) (w : World) (hv : BoxAt w g (ratV q)) (hf : w.frozen? ⟨g, 1, none⟩ = false) :
    Calls Tryz.prog 170 #[.slice (some ⟨g, 0, none⟩) (n + 1) cap] w (RetX g (negR [ratV q]) w) := by
  obtain ⟨a0, a1, a2, a3⟩ := hv
  have hg : g < w.heap.size := World.block_lt_of_cell? w ⟨g, 0, none⟩ a0
  have hg2 : g ≠ w.heap.size := by omega
  have HG := Lib.hid hg
  have HF : Hid (negR [ratV q] = ⟨2, -q.num, q.den, []⟩) := rfl
  obtain ⟨N, hN⟩ : ∃ N, q.num = N := ⟨_, rfl⟩
  have hlim : -1099511627776 ≤ N ∧ N ≤ 1099511627776 := by
    have := hq.num; unfold qnum T40 at this; omega
  obtain ⟨l1, l2⟩ := hlim
  simp only [hN] at a0 a1 a2 a3 HF
  clear hN hq
  go_enter Tryz.func170, Tryz.ntmps170
  go_wp2
  go_returns
  refine ⟨by rw [HF.out], Below.alloc (Below.setCell (Below.refl g w) (Nat.le_refl _) _) ?_ _⟩
  rw [World.size_setCell]; exact Nat.le_of_lt HG.out

set_option maxHeartbeats 1600000 in
theorem floor_res (q : Rat) (hq : FitQ q) (v : Value) (w : World) (hv : VaL w v [ratV q]) :
    Calls Tryz.prog 171 #[v] w (RetX w.heap.size (floorR [ratV q]) w) := by
  have HF : Hid (floorR [ratV q] = valQ (flQ q)) := by
    show valQ (flQ (qOf (ratV q))) = _
    rw [qOf_ratV]
  obtain ⟨g, o, n, cap, rfl, h0, h1, h2⟩ := hv.first
  have hg := h0.lt
  have hg2 : g ≠ w.heap.size := by omega
  have HR := Lib.hid (ResV.made w 45)
  have C1 := Lib.hid (fun w1 => number_any q hq w1)
  have C2 := Lib.hid (fun (w1 : World) (x : Value) (hx : IsR w1 x q) => floor_any hx (hq.bd.smR (by decide)))
  have C3 := Lib.hid (fun (w1 : World) (x : Value) (hx : IsR w1 x (flQ q)) => value_any hx)
  obtain ⟨a0, a1, a2, a3⟩ := h0
  clear hv hq
  go_enter Tryz.func171, Tryz.ntmps171
  go_wp2_with fail
  refine (C1.out _).mono ?_
  rintro e w1 ⟨v1, rfl, hv1, hb1⟩
  have D2 := Lib.hid (C2.out _ _ hv1)
  obtain ⟨g1, vn, vd, hvs, -⟩ := hv1
  subst hvs
  have HR1 := Lib.hid (HR.out.later hb1 (by simp))
  have hl1 := Lib.hid (show w.heap.size < w1.heap.size by have := hb1.size; simp at this; omega)
  have HB1 := Lib.hid (below_al hb1)
  go_wp2_with fail
  refine D2.out.mono ?_
  rintro e w2 ⟨v2, rfl, hv2, hb2⟩
  have D3 := Lib.hid (C3.out _ _ hv2)
  obtain ⟨g2, vn2, vd2, hvs, -⟩ := hv2
  subst hvs
  have HR2 := Lib.hid (HR1.out.later hb2 hl1.out)
  have hl2 := Lib.hid (Nat.lt_of_lt_of_le hl1.out hb2.size)
  have HB2 := Lib.hid (below_keep HB1.out hb2)
  go_wp2_with fail
  refine D3.out.mono ?_
  rintro e w3 ⟨rfl, hb3⟩
  obtain ⟨⟨r0, r1, r2, r3⟩, f0, f1, f2, f3⟩ := HR2.out.later hb3 hl2.out
  have HB3 := Lib.hid (below_keep HB2.out hb3)
  clear C1 C2 C3 D2 D3 HR HR1 HR2 hb1 hb2 hb3
  go_wp2
  refine bodyPost_ret (by simp [results, Tryz.results171, go_sem, r0, r1, r2, r3]; try rfl) rfl ?_
  exact ⟨by rw [HF.out], below_set4 HB3.out⟩
end Go.Proofs.YtemhidlaaommaaaGreatDoor
