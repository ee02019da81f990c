/- Contracts: the results of operations (3). -/
import Derived.Test.YtemhidlaaommaaaGreatDoorD1
namespace Go.Proofs.YtemhidlaaommaaaGreatDoor
open Go.RowKit

theorem cmpf10 (o : Int) (w : World) :
    Calls Tryz.prog 179 #[.int .i64 o] w fun e w' => e = .returned (.bool (decide (o = 0))) ∧ w = w' := by
  go_enter Tryz.func179, Tryz.ntmps179
  go_wp2
  go_ret
  exact ⟨ret_bool (by first | rfl | (rw [Bool.eq_iff_iff]; simp)), rfl⟩

set_option maxHeartbeats 1600000 in
theorem comp_res10 (x y : Va) (hx : rightV x = true) (hy : rightV y = true) (v : Value) (c : Nat) (w : World) (hv : VaL w v [x, y]) (hc : w.cell? ⟨c, 0, none⟩ = some (.func (.func 179) #[] #[])) :
    Calls Tryz.prog 209 #[v, .pointer (some ⟨c, 0, none⟩)] w (RetX w.heap.size (truthV ((fun o : Int => decide (o = 0)) (orderV x y))) w) := by
  have C1 := Lib.hid (fun w1 => order_any x y hx hy w1)
  obtain ⟨O, hO⟩ : ∃ O, orderV x y = O := ⟨_, rfl⟩
  rw [hO] at C1 ⊢
  have C2 := Lib.hid (fun w1 => cmpf10 O w1)
  obtain ⟨b, hb⟩ : ∃ b, (fun o : Int => decide (o = 0)) O = b := ⟨_, rfl⟩
  rw [hb]
  simp only at hb
  rw [hb] at C2
  have C3 := Lib.hid (fun w1 => truth_any b w1)
  obtain ⟨g, o, cap, rfl, h0, h3, h1, h2⟩ := hv.two
  have hg := h0.lt
  have hc1 := World.block_lt_of_cell? w ⟨c, 0, none⟩ hc
  simp only at hc1
  have K : ∀ w' : World, Below w.heap.size w w' → (w'.cell? ⟨c, 0, none⟩ = some (.func (.func 179) #[] #[]) ∧ w'.cell? ⟨g, o, none⟩ = some (.int .i64 x.kind) ∧ w'.cell? ⟨g, o + 1, none⟩ = some (.int .i64 x.num) ∧ w'.cell? ⟨g, o + 2, none⟩ = some (.int .i64 x.den) ∧ w'.cell? ⟨g, o + 3, none⟩ = some (.string ⟨x.str.toArray⟩) ∧ w'.cell? ⟨g, o + 4, none⟩ = some (.int .i64 y.kind) ∧ w'.cell? ⟨g, o + 5, none⟩ = some (.int .i64 y.num) ∧ w'.cell? ⟨g, o + 6, none⟩ = some (.int .i64 y.den) ∧ w'.cell? ⟨g, o + 7, none⟩ = some (.string ⟨y.str.toArray⟩) ∧ Below w.heap.size w w') := fun w1 hb =>
    let b1 := h0.later hb hg; let b2 := h3.later hb hg
    ⟨(hb.cell (p := ⟨c, 0, none⟩) hc1).trans hc, b1.kind, b1.num, b1.den, b1.str, b2.kind, b2.num, b2.den, b2.str, hb⟩
  have HR := Lib.hid (ResV.made w 45)
  obtain ⟨W, hW⟩ : ∃ W, W = w.alloc (.cells #[.int .i64 0, .int .i64 0, .int .i64 0, .string ⟨#[]⟩] 45) := ⟨_, rfl⟩
  rw [← hW] at HR
  have hB : Below w.heap.size w W := by rw [hW]; exact below_alloc _ _
  have hlt : w.heap.size < W.heap.size := by rw [hW]; simp
  have HLT := Lib.hid hlt
  have hbd : Below w.heap.size w W.drew := hB.drew
  have hbW : Below W.heap.size W W.drew := (Below.refl _ _).drew
  obtain ⟨k8, k0, k1, k2, k3, k4, k5, k6, k7, -⟩ := K W hB
  have K := Lib.hid K
  rename_i K'
  clear K' h0 h3 hc hv hb hO hx hy
  cases b
  · go_enter Tryz.func209, Tryz.ntmps209
    go_wp2_with fail
    rw [← hW]
    clear hW
    go_region_held3 (fun w' => w'.cell? ⟨c, 0, none⟩ = some (.func (.func 179) #[] #[]) ∧ w'.cell? ⟨g, o, none⟩ = some (.int .i64 x.kind) ∧ w'.cell? ⟨g, o + 1, none⟩ = some (.int .i64 x.num) ∧ w'.cell? ⟨g, o + 2, none⟩ = some (.int .i64 x.den) ∧ w'.cell? ⟨g, o + 3, none⟩ = some (.string ⟨x.str.toArray⟩) ∧ w'.cell? ⟨g, o + 4, none⟩ = some (.int .i64 y.kind) ∧ w'.cell? ⟨g, o + 5, none⟩ = some (.int .i64 y.num) ∧ w'.cell? ⟨g, o + 6, none⟩ = some (.int .i64 y.den) ∧ w'.cell? ⟨g, o + 7, none⟩ = some (.string ⟨y.str.toArray⟩) ∧ Below w.heap.size w w')
      (first | exact K.out _ (by assumption) | exact K.out _ (below_set4 hB2))
      (first
        | (go_at_call 115; refine (C1.out _).mono ?_; rintro e w2 ⟨rfl, hb1⟩; have hB1 := below_keep hbd hb1)
        | (go_at_call 179; refine (C2.out _).mono ?_; rintro e w3 ⟨rfl, rfl⟩)
        | (go_at_call 91; refine (C3.out _).mono ?_; rintro e w4 ⟨rfl, hb2⟩; have hB2 := below_keep hB1 hb2; obtain ⟨⟨r0, r1, r2, r3⟩, f0, f1, f2, f3⟩ := HR.out.later (below_keep (below_keep hbW hb1) hb2) HLT.out))
    go_wp2
    refine bodyPost_ret (by simp [results, Tryz.results209, go_sem, r0, r1, r2, r3]; try rfl) rfl ?_
    exact ⟨rfl, below_set4 hB2⟩
  · go_enter Tryz.func209, Tryz.ntmps209
    go_wp2_with fail
    rw [← hW]
    clear hW
    go_region_held3 (fun w' => w'.cell? ⟨c, 0, none⟩ = some (.func (.func 179) #[] #[]) ∧ w'.cell? ⟨g, o, none⟩ = some (.int .i64 x.kind) ∧ w'.cell? ⟨g, o + 1, none⟩ = some (.int .i64 x.num) ∧ w'.cell? ⟨g, o + 2, none⟩ = some (.int .i64 x.den) ∧ w'.cell? ⟨g, o + 3, none⟩ = some (.string ⟨x.str.toArray⟩) ∧ w'.cell? ⟨g, o + 4, none⟩ = some (.int .i64 y.kind) ∧ w'.cell? ⟨g, o + 5, none⟩ = some (.int .i64 y.num) ∧ w'.cell? ⟨g, o + 6, none⟩ = some (.int .i64 y.den) ∧ w'.cell? ⟨g, o + 7, none⟩ = some (.string ⟨y.str.toArray⟩) ∧ Below w.heap.size w w')
      (first | exact K.out _ (by assumption) | exact K.out _ (below_set4 hB2))
      (first
        | (go_at_call 115; refine (C1.out _).mono ?_; rintro e w2 ⟨rfl, hb1⟩; have hB1 := below_keep hbd hb1)
        | (go_at_call 179; refine (C2.out _).mono ?_; rintro e w3 ⟨rfl, rfl⟩)
        | (go_at_call 91; refine (C3.out _).mono ?_; rintro e w4 ⟨rfl, hb2⟩; have hB2 := below_keep hB1 hb2; obtain ⟨⟨r0, r1, r2, r3⟩, f0, f1, f2, f3⟩ := HR.out.later (below_keep (below_keep hbW hb1) hb2) HLT.out))
    go_wp2
    refine bodyPost_ret (by simp [results, Tryz.results209, go_sem, r0, r1, r2, r3]; try rfl) rfl ?_
    exact ⟨rfl, below_set4 hB2⟩

theorem cmpf11 (o : Int) (w : World) :
    Calls Tryz.prog 180 #[.int .i64 o] w fun e w' => e = .returned (.bool (decide (o ≠ 0))) ∧ w = w' := by
  go_enter Tryz.func180, Tryz.ntmps180
  go_wp2
  go_ret
  exact ⟨ret_bool (by first | rfl | (rw [Bool.eq_iff_iff]; simp)), rfl⟩

set_option maxHeartbeats 1600000 in
theorem comp_res11 (x y : Va) (hx : rightV x = true) (hy : rightV y = true) (v : Value) (c : Nat) (w : World) (hv : VaL w v [x, y]) (hc : w.cell? ⟨c, 0, none⟩ = some (.func (.func 180) #[] #[])) :
    Calls Tryz.prog 209 #[v, .pointer (some ⟨c, 0, none⟩)] w (RetX w.heap.size (truthV ((fun o : Int => decide (o ≠ 0)) (orderV x y))) w) := by
  have C1 := Lib.hid (fun w1 => order_any x y hx hy w1)
  obtain ⟨O, hO⟩ : ∃ O, orderV x y = O := ⟨_, rfl⟩
  rw [hO] at C1 ⊢
  have C2 := Lib.hid (fun w1 => cmpf11 O w1)
  obtain ⟨b, hb⟩ : ∃ b, (fun o : Int => decide (o ≠ 0)) O = b := ⟨_, rfl⟩
  rw [hb]
  simp only at hb
  rw [hb] at C2
  have C3 := Lib.hid (fun w1 => truth_any b w1)
  obtain ⟨g, o, cap, rfl, h0, h3, h1, h2⟩ := hv.two
  have hg := h0.lt
  have hc1 := World.block_lt_of_cell? w ⟨c, 0, none⟩ hc
  simp only at hc1
  have K : ∀ w' : World, Below w.heap.size w w' → (w'.cell? ⟨c, 0, none⟩ = some (.func (.func 180) #[] #[]) ∧ w'.cell? ⟨g, o, none⟩ = some (.int .i64 x.kind) ∧ w'.cell? ⟨g, o + 1, none⟩ = some (.int .i64 x.num) ∧ w'.cell? ⟨g, o + 2, none⟩ = some (.int .i64 x.den) ∧ w'.cell? ⟨g, o + 3, none⟩ = some (.string ⟨x.str.toArray⟩) ∧ w'.cell? ⟨g, o + 4, none⟩ = some (.int .i64 y.kind) ∧ w'.cell? ⟨g, o + 5, none⟩ = some (.int .i64 y.num) ∧ w'.cell? ⟨g, o + 6, none⟩ = some (.int .i64 y.den) ∧ w'.cell? ⟨g, o + 7, none⟩ = some (.string ⟨y.str.toArray⟩) ∧ Below w.heap.size w w') := fun w1 hb =>
    let b1 := h0.later hb hg; let b2 := h3.later hb hg
    ⟨(hb.cell (p := ⟨c, 0, none⟩) hc1).trans hc, b1.kind, b1.num, b1.den, b1.str, b2.kind, b2.num, b2.den, b2.str, hb⟩
  have HR := Lib.hid (ResV.made w 45)
  obtain ⟨W, hW⟩ : ∃ W, W = w.alloc (.cells #[.int .i64 0, .int .i64 0, .int .i64 0, .string ⟨#[]⟩] 45) := ⟨_, rfl⟩
  rw [← hW] at HR
  have hB : Below w.heap.size w W := by rw [hW]; exact below_alloc _ _
  have hlt : w.heap.size < W.heap.size := by rw [hW]; simp
  have HLT := Lib.hid hlt
  have hbd : Below w.heap.size w W.drew := hB.drew
  have hbW : Below W.heap.size W W.drew := (Below.refl _ _).drew
  obtain ⟨k8, k0, k1, k2, k3, k4, k5, k6, k7, -⟩ := K W hB
  have K := Lib.hid K
  rename_i K'
  clear K' h0 h3 hc hv hb hO hx hy
  cases b
  · go_enter Tryz.func209, Tryz.ntmps209
    go_wp2_with fail
    rw [← hW]
    clear hW
    go_region_held3 (fun w' => w'.cell? ⟨c, 0, none⟩ = some (.func (.func 180) #[] #[]) ∧ w'.cell? ⟨g, o, none⟩ = some (.int .i64 x.kind) ∧ w'.cell? ⟨g, o + 1, none⟩ = some (.int .i64 x.num) ∧ w'.cell? ⟨g, o + 2, none⟩ = some (.int .i64 x.den) ∧ w'.cell? ⟨g, o + 3, none⟩ = some (.string ⟨x.str.toArray⟩) ∧ w'.cell? ⟨g, o + 4, none⟩ = some (.int .i64 y.kind) ∧ w'.cell? ⟨g, o + 5, none⟩ = some (.int .i64 y.num) ∧ w'.cell? ⟨g, o + 6, none⟩ = some (.int .i64 y.den) ∧ w'.cell? ⟨g, o + 7, none⟩ = some (.string ⟨y.str.toArray⟩) ∧ Below w.heap.size w w')
      (first | exact K.out _ (by assumption) | exact K.out _ (below_set4 hB2))
      (first
        | (go_at_call 115; refine (C1.out _).mono ?_; rintro e w2 ⟨rfl, hb1⟩; have hB1 := below_keep hbd hb1)
        | (go_at_call 180; refine (C2.out _).mono ?_; rintro e w3 ⟨rfl, rfl⟩)
        | (go_at_call 91; refine (C3.out _).mono ?_; rintro e w4 ⟨rfl, hb2⟩; have hB2 := below_keep hB1 hb2; obtain ⟨⟨r0, r1, r2, r3⟩, f0, f1, f2, f3⟩ := HR.out.later (below_keep (below_keep hbW hb1) hb2) HLT.out))
    go_wp2
    refine bodyPost_ret (by simp [results, Tryz.results209, go_sem, r0, r1, r2, r3]; try rfl) rfl ?_
    exact ⟨rfl, below_set4 hB2⟩
  · go_enter Tryz.func209, Tryz.ntmps209
    go_wp2_with fail
    rw [← hW]
    clear hW
    go_region_held3 (fun w' => w'.cell? ⟨c, 0, none⟩ = some (.func (.func 180) #[] #[]) ∧ w'.cell? ⟨g, o, none⟩ = some (.int .i64 x.kind) ∧ w'.cell? ⟨g, o + 1, none⟩ = some (.int .i64 x.num) ∧ w'.cell? ⟨g, o + 2, none⟩ = some (.int .i64 x.den) ∧ w'.cell? ⟨g, o + 3, none⟩ = some (.string ⟨x.str.toArray⟩) ∧ w'.cell? ⟨g, o + 4, none⟩ = some (.int .i64 y.kind) ∧ w'.cell? ⟨g, o + 5, none⟩ = some (.int .i64 y.num) ∧ w'.cell? ⟨g, o + 6, none⟩ = some (.int .i64 y.den) ∧ w'.cell? ⟨g, o + 7, none⟩ = some (.string ⟨y.str.toArray⟩) ∧ Below w.heap.size w w')
      (first | exact K.out _ (by assumption) | exact K.out _ (below_set4 hB2))
      (first
        | (go_at_call 115; refine (C1.out _).mono ?_; rintro e w2 ⟨rfl, hb1⟩; have hB1 := below_keep hbd hb1)
        | (go_at_call 180; refine (C2.out _).mono ?_; rintro e w3 ⟨rfl, rfl⟩)
        | (go_at_call 91; refine (C3.out _).mono ?_; rintro e w4 ⟨rfl, hb2⟩; have hB2 := below_keep hB1 hb2; obtain ⟨⟨r0, r1, r2, r3⟩, f0, f1, f2, f3⟩ := HR.out.later (below_keep (below_keep hbW hb1) hb2) HLT.out))
    go_wp2
    refine bodyPost_ret (by simp [results, Tryz.results209, go_sem, r0, r1, r2, r3]; try rfl) rfl ?_
    exact ⟨rfl, below_set4 hB2⟩

theorem cmpf12 (o : Int) (w : World) :
    Calls Tryz.prog 181 #[.int .i64 o] w fun e w' => e = .returned (.bool (decide (o < 0))) ∧ w = w' := by
  go_enter Tryz.func181, Tryz.ntmps181
  go_wp2
  go_ret
  exact ⟨ret_bool (by first | rfl | (rw [Bool.eq_iff_iff]; simp)), rfl⟩

set_option maxHeartbeats 1600000 in
theorem comp_res12 (x y : Va) (hx : rightV x = true) (hy : rightV y = true) (v : Value) (c : Nat) (w : World) (hv : VaL w v [x, y]) (hc : w.cell? ⟨c, 0, none⟩ = some (.func (.func 181) #[] #[])) :
    Calls Tryz.prog 209 #[v, .pointer (some ⟨c, 0, none⟩)] w (RetX w.heap.size (truthV ((fun o : Int => decide (o < 0)) (orderV x y))) w) := by
  have C1 := Lib.hid (fun w1 => order_any x y hx hy w1)
  obtain ⟨O, hO⟩ : ∃ O, orderV x y = O := ⟨_, rfl⟩
  rw [hO] at C1 ⊢
  have C2 := Lib.hid (fun w1 => cmpf12 O w1)
  obtain ⟨b, hb⟩ : ∃ b, (fun o : Int => decide (o < 0)) O = b := ⟨_, rfl⟩
  rw [hb]
  simp only at hb
  rw [hb] at C2
  have C3 := Lib.hid (fun w1 => truth_any b w1)
  obtain ⟨g, o, cap, rfl, h0, h3, h1, h2⟩ := hv.two
  have hg := h0.lt
  have hc1 := World.block_lt_of_cell? w ⟨c, 0, none⟩ hc
  simp only at hc1
  have K : ∀ w' : World, Below w.heap.size w w' → (w'.cell? ⟨c, 0, none⟩ = some (.func (.func 181) #[] #[]) ∧ w'.cell? ⟨g, o, none⟩ = some (.int .i64 x.kind) ∧ w'.cell? ⟨g, o + 1, none⟩ = some (.int .i64 x.num) ∧ w'.cell? ⟨g, o + 2, none⟩ = some (.int .i64 x.den) ∧ w'.cell? ⟨g, o + 3, none⟩ = some (.string ⟨x.str.toArray⟩) ∧ w'.cell? ⟨g, o + 4, none⟩ = some (.int .i64 y.kind) ∧ w'.cell? ⟨g, o + 5, none⟩ = some (.int .i64 y.num) ∧ w'.cell? ⟨g, o + 6, none⟩ = some (.int .i64 y.den) ∧ w'.cell? ⟨g, o + 7, none⟩ = some (.string ⟨y.str.toArray⟩) ∧ Below w.heap.size w w') := fun w1 hb =>
    let b1 := h0.later hb hg; let b2 := h3.later hb hg
    ⟨(hb.cell (p := ⟨c, 0, none⟩) hc1).trans hc, b1.kind, b1.num, b1.den, b1.str, b2.kind, b2.num, b2.den, b2.str, hb⟩
  have HR := Lib.hid (ResV.made w 45)
  obtain ⟨W, hW⟩ : ∃ W, W = w.alloc (.cells #[.int .i64 0, .int .i64 0, .int .i64 0, .string ⟨#[]⟩] 45) := ⟨_, rfl⟩
  rw [← hW] at HR
  have hB : Below w.heap.size w W := by rw [hW]; exact below_alloc _ _
  have hlt : w.heap.size < W.heap.size := by rw [hW]; simp
  have HLT := Lib.hid hlt
  have hbd : Below w.heap.size w W.drew := hB.drew
  have hbW : Below W.heap.size W W.drew := (Below.refl _ _).drew
  obtain ⟨k8, k0, k1, k2, k3, k4, k5, k6, k7, -⟩ := K W hB
  have K := Lib.hid K
  rename_i K'
  clear K' h0 h3 hc hv hb hO hx hy
  cases b
  · go_enter Tryz.func209, Tryz.ntmps209
    go_wp2_with fail
    rw [← hW]
    clear hW
    go_region_held3 (fun w' => w'.cell? ⟨c, 0, none⟩ = some (.func (.func 181) #[] #[]) ∧ w'.cell? ⟨g, o, none⟩ = some (.int .i64 x.kind) ∧ w'.cell? ⟨g, o + 1, none⟩ = some (.int .i64 x.num) ∧ w'.cell? ⟨g, o + 2, none⟩ = some (.int .i64 x.den) ∧ w'.cell? ⟨g, o + 3, none⟩ = some (.string ⟨x.str.toArray⟩) ∧ w'.cell? ⟨g, o + 4, none⟩ = some (.int .i64 y.kind) ∧ w'.cell? ⟨g, o + 5, none⟩ = some (.int .i64 y.num) ∧ w'.cell? ⟨g, o + 6, none⟩ = some (.int .i64 y.den) ∧ w'.cell? ⟨g, o + 7, none⟩ = some (.string ⟨y.str.toArray⟩) ∧ Below w.heap.size w w')
      (first | exact K.out _ (by assumption) | exact K.out _ (below_set4 hB2))
      (first
        | (go_at_call 115; refine (C1.out _).mono ?_; rintro e w2 ⟨rfl, hb1⟩; have hB1 := below_keep hbd hb1)
        | (go_at_call 181; refine (C2.out _).mono ?_; rintro e w3 ⟨rfl, rfl⟩)
        | (go_at_call 91; refine (C3.out _).mono ?_; rintro e w4 ⟨rfl, hb2⟩; have hB2 := below_keep hB1 hb2; obtain ⟨⟨r0, r1, r2, r3⟩, f0, f1, f2, f3⟩ := HR.out.later (below_keep (below_keep hbW hb1) hb2) HLT.out))
    go_wp2
    refine bodyPost_ret (by simp [results, Tryz.results209, go_sem, r0, r1, r2, r3]; try rfl) rfl ?_
    exact ⟨rfl, below_set4 hB2⟩
  · go_enter Tryz.func209, Tryz.ntmps209
    go_wp2_with fail
    rw [← hW]
    clear hW
    go_region_held3 (fun w' => w'.cell? ⟨c, 0, none⟩ = some (.func (.func 181) #[] #[]) ∧ w'.cell? ⟨g, o, none⟩ = some (.int .i64 x.kind) ∧ w'.cell? ⟨g, o + 1, none⟩ = some (.int .i64 x.num) ∧ w'.cell? ⟨g, o + 2, none⟩ = some (.int .i64 x.den) ∧ w'.cell? ⟨g, o + 3, none⟩ = some (.string ⟨x.str.toArray⟩) ∧ w'.cell? ⟨g, o + 4, none⟩ = some (.int .i64 y.kind) ∧ w'.cell? ⟨g, o + 5, none⟩ = some (.int .i64 y.num) ∧ w'.cell? ⟨g, o + 6, none⟩ = some (.int .i64 y.den) ∧ w'.cell? ⟨g, o + 7, none⟩ = some (.string ⟨y.str.toArray⟩) ∧ Below w.heap.size w w')
      (first | exact K.out _ (by assumption) | exact K.out _ (below_set4 hB2))
      (first
        | (go_at_call 115; refine (C1.out _).mono ?_; rintro e w2 ⟨rfl, hb1⟩; have hB1 := below_keep hbd hb1)
        | (go_at_call 181; refine (C2.out _).mono ?_; rintro e w3 ⟨rfl, rfl⟩)
        | (go_at_call 91; refine (C3.out _).mono ?_; rintro e w4 ⟨rfl, hb2⟩; have hB2 := below_keep hB1 hb2; obtain ⟨⟨r0, r1, r2, r3⟩, f0, f1, f2, f3⟩ := HR.out.later (below_keep (below_keep hbW hb1) hb2) HLT.out))
    go_wp2
    refine bodyPost_ret (by simp [results, Tryz.results209, go_sem, r0, r1, r2, r3]; try rfl) rfl ?_
    exact ⟨rfl, below_set4 hB2⟩

theorem cmpf13 (o : Int) (w : World) :
    Calls Tryz.prog 182 #[.int .i64 o] w fun e w' => e = .returned (.bool (decide (o ≤ 0))) ∧ w = w' := by
  go_enter Tryz.func182, Tryz.ntmps182
  go_wp2
  go_ret
  exact ⟨ret_bool (by first | rfl | (rw [Bool.eq_iff_iff]; simp)), rfl⟩

set_option maxHeartbeats 1600000 in
theorem comp_res13 (x y : Va) (hx : rightV x = true) (hy : rightV y = true) (v : Value) (c : Nat) (w : World) (hv : VaL w v [x, y]) (hc : w.cell? ⟨c, 0, none⟩ = some (.func (.func 182) #[] #[])) :
    Calls Tryz.prog 209 #[v, .pointer (some ⟨c, 0, none⟩)] w (RetX w.heap.size (truthV ((fun o : Int => decide (o ≤ 0)) (orderV x y))) w) := by
  have C1 := Lib.hid (fun w1 => order_any x y hx hy w1)
  obtain ⟨O, hO⟩ : ∃ O, orderV x y = O := ⟨_, rfl⟩
  rw [hO] at C1 ⊢
  have C2 := Lib.hid (fun w1 => cmpf13 O w1)
  obtain ⟨b, hb⟩ : ∃ b, (fun o : Int => decide (o ≤ 0)) O = b := ⟨_, rfl⟩
  rw [hb]
  simp only at hb
  rw [hb] at C2
  have C3 := Lib.hid (fun w1 => truth_any b w1)
  obtain ⟨g, o, cap, rfl, h0, h3, h1, h2⟩ := hv.two
  have hg := h0.lt
  have hc1 := World.block_lt_of_cell? w ⟨c, 0, none⟩ hc
  simp only at hc1
  have K : ∀ w' : World, Below w.heap.size w w' → (w'.cell? ⟨c, 0, none⟩ = some (.func (.func 182) #[] #[]) ∧ w'.cell? ⟨g, o, none⟩ = some (.int .i64 x.kind) ∧ w'.cell? ⟨g, o + 1, none⟩ = some (.int .i64 x.num) ∧ w'.cell? ⟨g, o + 2, none⟩ = some (.int .i64 x.den) ∧ w'.cell? ⟨g, o + 3, none⟩ = some (.string ⟨x.str.toArray⟩) ∧ w'.cell? ⟨g, o + 4, none⟩ = some (.int .i64 y.kind) ∧ w'.cell? ⟨g, o + 5, none⟩ = some (.int .i64 y.num) ∧ w'.cell? ⟨g, o + 6, none⟩ = some (.int .i64 y.den) ∧ w'.cell? ⟨g, o + 7, none⟩ = some (.string ⟨y.str.toArray⟩) ∧ Below w.heap.size w w') := fun w1 hb =>
    let b1 := h0.later hb hg; let b2 := h3.later hb hg
    ⟨(hb.cell (p := ⟨c, 0, none⟩) hc1).trans hc, b1.kind, b1.num, b1.den, b1.str, b2.kind, b2.num, b2.den, b2.str, hb⟩
  have HR := Lib.hid (ResV.made w 45)
  obtain ⟨W, hW⟩ : ∃ W, W = w.alloc (.cells #[.int .i64 0, .int .i64 0, .int .i64 0, .string ⟨#[]⟩] 45) := ⟨_, rfl⟩
  rw [← hW] at HR
  have hB : Below w.heap.size w W := by rw [hW]; exact below_alloc _ _
  have hlt : w.heap.size < W.heap.size := by rw [hW]; simp
  have HLT := Lib.hid hlt
  have hbd : Below w.heap.size w W.drew := hB.drew
  have hbW : Below W.heap.size W W.drew := (Below.refl _ _).drew
  obtain ⟨k8, k0, k1, k2, k3, k4, k5, k6, k7, -⟩ := K W hB
  have K := Lib.hid K
  rename_i K'
  clear K' h0 h3 hc hv hb hO hx hy
  cases b
  · go_enter Tryz.func209, Tryz.ntmps209
    go_wp2_with fail
    rw [← hW]
    clear hW
    go_region_held3 (fun w' => w'.cell? ⟨c, 0, none⟩ = some (.func (.func 182) #[] #[]) ∧ w'.cell? ⟨g, o, none⟩ = some (.int .i64 x.kind) ∧ w'.cell? ⟨g, o + 1, none⟩ = some (.int .i64 x.num) ∧ w'.cell? ⟨g, o + 2, none⟩ = some (.int .i64 x.den) ∧ w'.cell? ⟨g, o + 3, none⟩ = some (.string ⟨x.str.toArray⟩) ∧ w'.cell? ⟨g, o + 4, none⟩ = some (.int .i64 y.kind) ∧ w'.cell? ⟨g, o + 5, none⟩ = some (.int .i64 y.num) ∧ w'.cell? ⟨g, o + 6, none⟩ = some (.int .i64 y.den) ∧ w'.cell? ⟨g, o + 7, none⟩ = some (.string ⟨y.str.toArray⟩) ∧ Below w.heap.size w w')
      (first | exact K.out _ (by assumption) | exact K.out _ (below_set4 hB2))
      (first
        | (go_at_call 115; refine (C1.out _).mono ?_; rintro e w2 ⟨rfl, hb1⟩; have hB1 := below_keep hbd hb1)
        | (go_at_call 182; refine (C2.out _).mono ?_; rintro e w3 ⟨rfl, rfl⟩)
        | (go_at_call 91; refine (C3.out _).mono ?_; rintro e w4 ⟨rfl, hb2⟩; have hB2 := below_keep hB1 hb2; obtain ⟨⟨r0, r1, r2, r3⟩, f0, f1, f2, f3⟩ := HR.out.later (below_keep (below_keep hbW hb1) hb2) HLT.out))
    go_wp2
    refine bodyPost_ret (by simp [results, Tryz.results209, go_sem, r0, r1, r2, r3]; try rfl) rfl ?_
    exact ⟨rfl, below_set4 hB2⟩
  · go_enter Tryz.func209, Tryz.ntmps209
    go_wp2_with fail
    rw [← hW]
    clear hW
    go_region_held3 (fun w' => w'.cell? ⟨c, 0, none⟩ = some (.func (.func 182) #[] #[]) ∧ w'.cell? ⟨g, o, none⟩ = some (.int .i64 x.kind) ∧ w'.cell? ⟨g, o + 1, none⟩ = some (.int .i64 x.num) ∧ w'.cell? ⟨g, o + 2, none⟩ = some (.int .i64 x.den) ∧ w'.cell? ⟨g, o + 3, none⟩ = some (.string ⟨x.str.toArray⟩) ∧ w'.cell? ⟨g, o + 4, none⟩ = some (.int .i64 y.kind) ∧ w'.cell? ⟨g, o + 5, none⟩ = some (.int .i64 y.num) ∧ w'.cell? ⟨g, o + 6, none⟩ = some (.int .i64 y.den) ∧ w'.cell? ⟨g, o + 7, none⟩ = some (.string ⟨y.str.toArray⟩) ∧ Below w.heap.size w w')
      (first | exact K.out _ (by assumption) | exact K.out _ (below_set4 hB2))
      (first
        | (go_at_call 115; refine (C1.out _).mono ?_; rintro e w2 ⟨rfl, hb1⟩; have hB1 := below_keep hbd hb1)
        | (go_at_call 182; refine (C2.out _).mono ?_; rintro e w3 ⟨rfl, rfl⟩)
        | (go_at_call 91; refine (C3.out _).mono ?_; rintro e w4 ⟨rfl, hb2⟩; have hB2 := below_keep hB1 hb2; obtain ⟨⟨r0, r1, r2, r3⟩, f0, f1, f2, f3⟩ := HR.out.later (below_keep (below_keep hbW hb1) hb2) HLT.out))
    go_wp2
    refine bodyPost_ret (by simp [results, Tryz.results209, go_sem, r0, r1, r2, r3]; try rfl) rfl ?_
    exact ⟨rfl, below_set4 hB2⟩

theorem cmpf14 (o : Int) (w : World) :
    Calls Tryz.prog 183 #[.int .i64 o] w fun e w' => e = .returned (.bool (decide (0 < o))) ∧ w = w' := by
  go_enter Tryz.func183, Tryz.ntmps183
  go_wp2
  go_ret
  exact ⟨ret_bool (by first | rfl | (rw [Bool.eq_iff_iff]; simp)), rfl⟩

set_option maxHeartbeats 1600000 in
theorem comp_res14 (x y : Va) (hx : rightV x = true) (hy : rightV y = true) (v : Value) (c : Nat) (w : World) (hv : VaL w v [x, y]) (hc : w.cell? ⟨c, 0, none⟩ = some (.func (.func 183) #[] #[])) :
    Calls Tryz.prog 209 #[v, .pointer (some ⟨c, 0, none⟩)] w (RetX w.heap.size (truthV ((fun o : Int => decide (0 < o)) (orderV x y))) w) := by
  have C1 := Lib.hid (fun w1 => order_any x y hx hy w1)
  obtain ⟨O, hO⟩ : ∃ O, orderV x y = O := ⟨_, rfl⟩
  rw [hO] at C1 ⊢
  have C2 := Lib.hid (fun w1 => cmpf14 O w1)
  obtain ⟨b, hb⟩ : ∃ b, (fun o : Int => decide (0 < o)) O = b := ⟨_, rfl⟩
  rw [hb]
  simp only at hb
  rw [hb] at C2
  have C3 := Lib.hid (fun w1 => truth_any b w1)
  obtain ⟨g, o, cap, rfl, h0, h3, h1, h2⟩ := hv.two
  have hg := h0.lt
  have hc1 := World.block_lt_of_cell? w ⟨c, 0, none⟩ hc
  simp only at hc1
  have K : ∀ w' : World, Below w.heap.size w w' → (w'.cell? ⟨c, 0, none⟩ = some (.func (.func 183) #[] #[]) ∧ w'.cell? ⟨g, o, none⟩ = some (.int .i64 x.kind) ∧ w'.cell? ⟨g, o + 1, none⟩ = some (.int .i64 x.num) ∧ w'.cell? ⟨g, o + 2, none⟩ = some (.int .i64 x.den) ∧ w'.cell? ⟨g, o + 3, none⟩ = some (.string ⟨x.str.toArray⟩) ∧ w'.cell? ⟨g, o + 4, none⟩ = some (.int .i64 y.kind) ∧ w'.cell? ⟨g, o + 5, none⟩ = some (.int .i64 y.num) ∧ w'.cell? ⟨g, o + 6, none⟩ = some (.int .i64 y.den) ∧ w'.cell? ⟨g, o + 7, none⟩ = some (.string ⟨y.str.toArray⟩) ∧ Below w.heap.size w w') := fun w1 hb =>
    let b1 := h0.later hb hg; let b2 := h3.later hb hg
    ⟨(hb.cell (p := ⟨c, 0, none⟩) hc1).trans hc, b1.kind, b1.num, b1.den, b1.str, b2.kind, b2.num, b2.den, b2.str, hb⟩
  have HR := Lib.hid (ResV.made w 45)
  obtain ⟨W, hW⟩ : ∃ W, W = w.alloc (.cells #[.int .i64 0, .int .i64 0, .int .i64 0, .string ⟨#[]⟩] 45) := ⟨_, rfl⟩
  rw [← hW] at HR
  have hB : Below w.heap.size w W := by rw [hW]; exact below_alloc _ _
  have hlt : w.heap.size < W.heap.size := by rw [hW]; simp
  have HLT := Lib.hid hlt
  have hbd : Below w.heap.size w W.drew := hB.drew
  have hbW : Below W.heap.size W W.drew := (Below.refl _ _).drew
  obtain ⟨k8, k0, k1, k2, k3, k4, k5, k6, k7, -⟩ := K W hB
  have K := Lib.hid K
  rename_i K'
  clear K' h0 h3 hc hv hb hO hx hy
  cases b
  · go_enter Tryz.func209, Tryz.ntmps209
    go_wp2_with fail
    rw [← hW]
    clear hW
    go_region_held3 (fun w' => w'.cell? ⟨c, 0, none⟩ = some (.func (.func 183) #[] #[]) ∧ w'.cell? ⟨g, o, none⟩ = some (.int .i64 x.kind) ∧ w'.cell? ⟨g, o + 1, none⟩ = some (.int .i64 x.num) ∧ w'.cell? ⟨g, o + 2, none⟩ = some (.int .i64 x.den) ∧ w'.cell? ⟨g, o + 3, none⟩ = some (.string ⟨x.str.toArray⟩) ∧ w'.cell? ⟨g, o + 4, none⟩ = some (.int .i64 y.kind) ∧ w'.cell? ⟨g, o + 5, none⟩ = some (.int .i64 y.num) ∧ w'.cell? ⟨g, o + 6, none⟩ = some (.int .i64 y.den) ∧ w'.cell? ⟨g, o + 7, none⟩ = some (.string ⟨y.str.toArray⟩) ∧ Below w.heap.size w w')
      (first | exact K.out _ (by assumption) | exact K.out _ (below_set4 hB2))
      (first
        | (go_at_call 115; refine (C1.out _).mono ?_; rintro e w2 ⟨rfl, hb1⟩; have hB1 := below_keep hbd hb1)
        | (go_at_call 183; refine (C2.out _).mono ?_; rintro e w3 ⟨rfl, rfl⟩)
        | (go_at_call 91; refine (C3.out _).mono ?_; rintro e w4 ⟨rfl, hb2⟩; have hB2 := below_keep hB1 hb2; obtain ⟨⟨r0, r1, r2, r3⟩, f0, f1, f2, f3⟩ := HR.out.later (below_keep (below_keep hbW hb1) hb2) HLT.out))
    go_wp2
    refine bodyPost_ret (by simp [results, Tryz.results209, go_sem, r0, r1, r2, r3]; try rfl) rfl ?_
    exact ⟨rfl, below_set4 hB2⟩
  · go_enter Tryz.func209, Tryz.ntmps209
    go_wp2_with fail
    rw [← hW]
    clear hW
    go_region_held3 (fun w' => w'.cell? ⟨c, 0, none⟩ = some (.func (.func 183) #[] #[]) ∧ w'.cell? ⟨g, o, none⟩ = some (.int .i64 x.kind) ∧ w'.cell? ⟨g, o + 1, none⟩ = some (.int .i64 x.num) ∧ w'.cell? ⟨g, o + 2, none⟩ = some (.int .i64 x.den) ∧ w'.cell? ⟨g, o + 3, none⟩ = some (.string ⟨x.str.toArray⟩) ∧ w'.cell? ⟨g, o + 4, none⟩ = some (.int .i64 y.kind) ∧ w'.cell? ⟨g, o + 5, none⟩ = some (.int .i64 y.num) ∧ w'.cell? ⟨g, o + 6, none⟩ = some (.int .i64 y.den) ∧ w'.cell? ⟨g, o + 7, none⟩ = some (.string ⟨y.str.toArray⟩) ∧ Below w.heap.size w w')
      (first | exact K.out _ (by assumption) | exact K.out _ (below_set4 hB2))
      (first
        | (go_at_call 115; refine (C1.out _).mono ?_; rintro e w2 ⟨rfl, hb1⟩; have hB1 := below_keep hbd hb1)
        | (go_at_call 183; refine (C2.out _).mono ?_; rintro e w3 ⟨rfl, rfl⟩)
        | (go_at_call 91; refine (C3.out _).mono ?_; rintro e w4 ⟨rfl, hb2⟩; have hB2 := below_keep hB1 hb2; obtain ⟨⟨r0, r1, r2, r3⟩, f0, f1, f2, f3⟩ := HR.out.later (below_keep (below_keep hbW hb1) hb2) HLT.out))
    go_wp2
    refine bodyPost_ret (by simp [results, Tryz.results209, go_sem, r0, r1, r2, r3]; try rfl) rfl ?_
    exact ⟨rfl, below_set4 hB2⟩

theorem cmpf15 (o : Int) (w : World) :
    Calls Tryz.prog 184 #[.int .i64 o] w fun e w' => e = .returned (.bool (decide (0 ≤ o))) ∧ w = w' := by
  go_enter Tryz.func184, Tryz.ntmps184
  go_wp2
  go_ret
  exact ⟨ret_bool (by first | rfl | (rw [Bool.eq_iff_iff]; simp)), rfl⟩

set_option maxHeartbeats 1600000 in
theorem comp_res15 (x y : Va) (hx : rightV x = true) (hy : rightV y = true) (v : Value) (c : Nat) (w : World) (hv : VaL w v [x, y]) (hc : w.cell? ⟨c, 0, none⟩ = some (.func (.func 184) #[] #[])) :
    Calls Tryz.prog 209 #[v, .pointer (some ⟨c, 0, none⟩)] w (RetX w.heap.size (truthV ((fun o : Int => decide (0 ≤ o)) (orderV x y))) w) := by
  have C1 := Lib.hid (fun w1 => order_any x y hx hy w1)
  obtain ⟨O, hO⟩ : ∃ O, orderV x y = O := ⟨_, rfl⟩
  rw [hO] at C1 ⊢
  have C2 := Lib.hid (fun w1 => cmpf15 O w1)
  obtain ⟨b, hb⟩ : ∃ b, (fun o : Int => decide (0 ≤ o)) O = b := ⟨_, rfl⟩
  rw [hb]
  simp only at hb
  rw [hb] at C2
  have C3 := Lib.hid (fun w1 => truth_any b w1)
  obtain ⟨g, o, cap, rfl, h0, h3, h1, h2⟩ := hv.two
  have hg := h0.lt
  have hc1 := World.block_lt_of_cell? w ⟨c, 0, none⟩ hc
  simp only at hc1
  have K : ∀ w' : World, Below w.heap.size w w' → (w'.cell? ⟨c, 0, none⟩ = some (.func (.func 184) #[] #[]) ∧ w'.cell? ⟨g, o, none⟩ = some (.int .i64 x.kind) ∧ w'.cell? ⟨g, o + 1, none⟩ = some (.int .i64 x.num) ∧ w'.cell? ⟨g, o + 2, none⟩ = some (.int .i64 x.den) ∧ w'.cell? ⟨g, o + 3, none⟩ = some (.string ⟨x.str.toArray⟩) ∧ w'.cell? ⟨g, o + 4, none⟩ = some (.int .i64 y.kind) ∧ w'.cell? ⟨g, o + 5, none⟩ = some (.int .i64 y.num) ∧ w'.cell? ⟨g, o + 6, none⟩ = some (.int .i64 y.den) ∧ w'.cell? ⟨g, o + 7, none⟩ = some (.string ⟨y.str.toArray⟩) ∧ Below w.heap.size w w') := fun w1 hb =>
    let b1 := h0.later hb hg; let b2 := h3.later hb hg
    ⟨(hb.cell (p := ⟨c, 0, none⟩) hc1).trans hc, b1.kind, b1.num, b1.den, b1.str, b2.kind, b2.num, b2.den, b2.str, hb⟩
  have HR := Lib.hid (ResV.made w 45)
  obtain ⟨W, hW⟩ : ∃ W, W = w.alloc (.cells #[.int .i64 0, .int .i64 0, .int .i64 0, .string ⟨#[]⟩] 45) := ⟨_, rfl⟩
  rw [← hW] at HR
  have hB : Below w.heap.size w W := by rw [hW]; exact below_alloc _ _
  have hlt : w.heap.size < W.heap.size := by rw [hW]; simp
  have HLT := Lib.hid hlt
  have hbd : Below w.heap.size w W.drew := hB.drew
  have hbW : Below W.heap.size W W.drew := (Below.refl _ _).drew
  obtain ⟨k8, k0, k1, k2, k3, k4, k5, k6, k7, -⟩ := K W hB
  have K := Lib.hid K
  rename_i K'
  clear K' h0 h3 hc hv hb hO hx hy
  cases b
  · go_enter Tryz.func209, Tryz.ntmps209
    go_wp2_with fail
    rw [← hW]
    clear hW
    go_region_held3 (fun w' => w'.cell? ⟨c, 0, none⟩ = some (.func (.func 184) #[] #[]) ∧ w'.cell? ⟨g, o, none⟩ = some (.int .i64 x.kind) ∧ w'.cell? ⟨g, o + 1, none⟩ = some (.int .i64 x.num) ∧ w'.cell? ⟨g, o + 2, none⟩ = some (.int .i64 x.den) ∧ w'.cell? ⟨g, o + 3, none⟩ = some (.string ⟨x.str.toArray⟩) ∧ w'.cell? ⟨g, o + 4, none⟩ = some (.int .i64 y.kind) ∧ w'.cell? ⟨g, o + 5, none⟩ = some (.int .i64 y.num) ∧ w'.cell? ⟨g, o + 6, none⟩ = some (.int .i64 y.den) ∧ w'.cell? ⟨g, o + 7, none⟩ = some (.string ⟨y.str.toArray⟩) ∧ Below w.heap.size w w')
      (first | exact K.out _ (by assumption) | exact K.out _ (below_set4 hB2))
      (first
        | (go_at_call 115; refine (C1.out _).mono ?_; rintro e w2 ⟨rfl, hb1⟩; have hB1 := below_keep hbd hb1)
        | (go_at_call 184; refine (C2.out _).mono ?_; rintro e w3 ⟨rfl, rfl⟩)
        | (go_at_call 91; refine (C3.out _).mono ?_; rintro e w4 ⟨rfl, hb2⟩; have hB2 := below_keep hB1 hb2; obtain ⟨⟨r0, r1, r2, r3⟩, f0, f1, f2, f3⟩ := HR.out.later (below_keep (below_keep hbW hb1) hb2) HLT.out))
    go_wp2
    refine bodyPost_ret (by simp [results, Tryz.results209, go_sem, r0, r1, r2, r3]; try rfl) rfl ?_
    exact ⟨rfl, below_set4 hB2⟩
  · go_enter Tryz.func209, Tryz.ntmps209
    go_wp2_with fail
    rw [← hW]
    clear hW
    go_region_held3 (fun w' => w'.cell? ⟨c, 0, none⟩ = some (.func (.func 184) #[] #[]) ∧ w'.cell? ⟨g, o, none⟩ = some (.int .i64 x.kind) ∧ w'.cell? ⟨g, o + 1, none⟩ = some (.int .i64 x.num) ∧ w'.cell? ⟨g, o + 2, none⟩ = some (.int .i64 x.den) ∧ w'.cell? ⟨g, o + 3, none⟩ = some (.string ⟨x.str.toArray⟩) ∧ w'.cell? ⟨g, o + 4, none⟩ = some (.int .i64 y.kind) ∧ w'.cell? ⟨g, o + 5, none⟩ = some (.int .i64 y.num) ∧ w'.cell? ⟨g, o + 6, none⟩ = some (.int .i64 y.den) ∧ w'.cell? ⟨g, o + 7, none⟩ = some (.string ⟨y.str.toArray⟩) ∧ Below w.heap.size w w')
      (first | exact K.out _ (by assumption) | exact K.out _ (below_set4 hB2))
      (first
        | (go_at_call 115; refine (C1.out _).mono ?_; rintro e w2 ⟨rfl, hb1⟩; have hB1 := below_keep hbd hb1)
        | (go_at_call 184; refine (C2.out _).mono ?_; rintro e w3 ⟨rfl, rfl⟩)
        | (go_at_call 91; refine (C3.out _).mono ?_; rintro e w4 ⟨rfl, hb2⟩; have hB2 := below_keep hB1 hb2; obtain ⟨⟨r0, r1, r2, r3⟩, f0, f1, f2, f3⟩ := HR.out.later (below_keep (below_keep hbW hb1) hb2) HLT.out))
    go_wp2
    refine bodyPost_ret (by simp [results, Tryz.results209, go_sem, r0, r1, r2, r3]; try rfl) rfl ?_
    exact ⟨rfl, below_set4 hB2⟩
end Go.Proofs.YtemhidlaaommaaaGreatDoor
