/- ExactLogic: the walk. (printed by gen_logic3.py) -/
import Derived.Deep.RegionHeld3
import Derived.Test.YtemhidlaaommaaaGreatDoorLogicP
import Derived.Test.YtemhidlaaommaaaGreatDoorRDoB
import Derived.Test.YtemhidlaaommaaaGreatDoorRefW
import Derived.Test.YtemhidlaaommaaaGreatDoorW1
namespace Go.Proofs.YtemhidlaaommaaaGreatDoor
open Go.RowKit

theorem VaL.made1 (x : Va) (w : World) (t : TypeId) : VaL (w.alloc (.cells #[.int .i64 x.kind, .int .i64 x.num, .int .i64 x.den, .string ⟨x.str.toArray⟩] t)) (.slice (some ⟨w.heap.size, 0, none⟩) 1 1) [x] := by
  refine ⟨w.heap.size, 0, 1, rfl, Nat.le_refl _, by decide, fun i v hv => ?_⟩
  have hi : i < 1 := (List.getElem?_eq_some_iff.1 hv).1
  obtain rfl : i = 0 := by omega
  simp only [List.getElem?_cons_zero, Option.some.injEq] at hv
  subst hv
  constructor <;> (rw [World.cell?_alloc_at _ _ _ _ rfl]; rfl)
theorem RvAt.setAny {w : World} {g r : Nat} (h : RvAt w g) (hr : RvAt w r) (z0 z1 z2 z3 : Value) : RvAt (setV w r z0 z1 z2 z3) g := by
  by_cases e : g = r
  · subst e; exact (h.cells z0 z1 z2 z3).2
  · have key : ∀ i, (setV w r z0 z1 z2 z3).cell? ⟨g, i, none⟩ = w.cell? ⟨g, i, none⟩ := fun i => by
      rw [World.cell?_setCell_other _ _ _ _ (fun h => e (by injection h with e1; exact e1.symm)), World.cell?_setCell_other _ _ _ _ (fun h => e (by injection h with e1; exact e1.symm)), World.cell?_setCell_other _ _ _ _ (fun h => e (by injection h with e1; exact e1.symm)), World.cell?_setCell_other _ _ _ _ (fun h => e (by injection h with e1; exact e1.symm))]
    have fz : ∀ i, (setV w r z0 z1 z2 z3).frozen? ⟨g, i, none⟩ = w.frozen? ⟨g, i, none⟩ := fun i => by simp only [setV, World.frozen?_setCell]
    obtain ⟨⟨v0, h0⟩, ⟨v1, h1⟩, ⟨v2, h2⟩, ⟨v3, h3⟩, f0, f1, f2, f3⟩ := h
    exact ⟨⟨v0, (key 0).trans h0⟩, ⟨v1, (key 1).trans h1⟩, ⟨v2, (key 2).trans h2⟩, ⟨v3, (key 3).trans h3⟩, (fz 0).trans f0, (fz 1).trans f1, (fz 2).trans f2, (fz 3).trans f3⟩
theorem CelV.setFar {w : World} {g r : Nat} {y0 y1 y2 y3 : Value} (h : CelV w g y0 y1 y2 y3) (hne : g ≠ r) (z0 z1 z2 z3 : Value) : CelV (setV w r z0 z1 z2 z3) g y0 y1 y2 y3 := by
  have key : ∀ i, (setV w r z0 z1 z2 z3).cell? ⟨g, i, none⟩ = w.cell? ⟨g, i, none⟩ := fun i => by
    rw [World.cell?_setCell_other _ _ _ _ (fun h => hne (by injection h with e1; exact e1.symm)), World.cell?_setCell_other _ _ _ _ (fun h => hne (by injection h with e1; exact e1.symm)), World.cell?_setCell_other _ _ _ _ (fun h => hne (by injection h with e1; exact e1.symm)), World.cell?_setCell_other _ _ _ _ (fun h => hne (by injection h with e1; exact e1.symm))]
  exact ⟨(key 0).trans h.1, (key 1).trans h.2.1, (key 2).trans h.2.2.1, (key 3).trans h.2.2.2⟩
theorem lval_any (n : Int) (w : World) (h0 : 0 ≤ n) (h1 : n ≤ 255) :
    Calls Tryz.prog 46 #[.int .u8 n] w (RetV (val3 n).v w) := by
  have HR := Lib.hid (ResV.made w 45)
  have HB := Lib.hid (below_alloc w (.cells #[.int .i64 0, .int .i64 0, .int .i64 0, .string ⟨#[]⟩] 45))
  have T := Lib.hid (fun w1 => truthL_any n w1)
  have M := Lib.hid (fun w1 => none_any n w1)
  by_cases h : n < 2
  · have e : val3 n = ⟨1, n, 0, []⟩ := by unfold val3; rw [if_pos h]
    rw [e]
    clear e
    go_enter Tryz.func46, Tryz.ntmps46
    go_wp2_with fail
    refine (T.out _).mono ?_
    rintro e w1 ⟨rfl, hb⟩
    obtain ⟨⟨r0, r1, r2, r3⟩, f0, f1, f2, f3⟩ := HR.out.later hb (by simp)
    have HB1 := Lib.hid (below_keep HB.out hb)
    clear hb T M
    go_wp2
    refine bodyPost_ret (by simp [results, Tryz.results46, go_sem, r0, r1, r2, r3]; try rfl) rfl ?_
    exact ⟨rfl, below_set4 HB1.out⟩
  · have e : val3 n = missV n := by unfold val3; rw [if_neg h]
    rw [e]
    clear e
    go_enter Tryz.func46, Tryz.ntmps46
    go_wp2_with fail
    refine (M.out _).mono ?_
    rintro e w1 ⟨rfl, hb⟩
    obtain ⟨⟨r0, r1, r2, r3⟩, f0, f1, f2, f3⟩ := HR.out.later hb (by simp)
    have HB1 := Lib.hid (below_keep HB.out hb)
    clear hb T M
    go_wp2
    refine bodyPost_ret (by simp [results, Tryz.results46, go_sem, r0, r1, r2, r3]; try rfl) rfl ?_
    exact ⟨rfl, below_set4 HB1.out⟩
theorem ldo_any (op : Int) (l : List Va) (r : Va) (h : doE op l = (r, 0)) (v : Value) (w : World) (hv : VaL w v l) :
    Calls Tryz.prog 49 #[.int .i64 op, v] w (RetV r.v w) := by
  have C := Lib.hid (fun w1 (h' : Below w.heap.size w w1) => (show Calls Tryz.prog 36 #[.int .i64 op, v] w1 (RetV (.tuple #[r.v, .int .i64 0]) w1) from by have := do_any op l v w1 (.inr (hv.later h')); rwa [h] at this))
  have HR := Lib.hid (ResV.made w 45)
  have HB := Lib.hid (below_alloc w (.cells #[.int .i64 0, .int .i64 0, .int .i64 0, .string ⟨#[]⟩] 45))
  obtain ⟨g, o, cap, rfl, -⟩ := hv
  clear h
  go_enter Tryz.func49, Tryz.ntmps49
  go_wp2_with fail
  refine (C.out _ HB.out).mono ?_
  rintro e w1 ⟨rfl, hb⟩
  have hr := HR.out.later hb (by simp)
  obtain ⟨⟨r0, r1, r2, r3⟩, f0, f1, f2, f3⟩ := hr
  have hlt1 : w.heap.size < w1.heap.size := World.block_lt_of_cell? _ ⟨w.heap.size, 0, none⟩ r0
  have hlt2 : w.heap.size ≠ w1.heap.size := by omega
  have HB1 := Lib.hid (below_keep HB.out hb)
  clear hb C
  go_wp2
  refine bodyPost_ret (by simp [results, Tryz.results49, go_sem, r0, r1, r2, r3, hlt1]; try rfl) rfl ?_
  exact ⟨rfl, (below_set4 HB1.out).alloc (by simp; omega) _⟩

/-- what is known of the first drawn region's worlds -/
structure LgJ (W0 : World) (x y A O : Va) (dn : Nat → Bool) (vals : Nat → Value) (w : World) : Prop where
  below : Below W0.heap.size W0 w
  f0 : dn 0 = true → vals 0 = .func (.func 49) #[] #[]
  f1 : dn 1 = true → vals 1 = .agg #[.int .i64 x.kind, .int .i64 x.num, .int .i64 x.den, .string ⟨x.str.toArray⟩]
  f2 : dn 2 = true → vals 2 = .agg #[.int .i64 y.kind, .int .i64 y.num, .int .i64 y.den, .string ⟨y.str.toArray⟩]
  f4 : dn 4 = true → vals 4 = .agg #[.int .i64 A.kind, .int .i64 A.num, .int .i64 A.den, .string ⟨A.str.toArray⟩]
  f5 : dn 5 = true → vals 5 = .func (.func 49) #[] #[]
  f6 : dn 6 = true → vals 6 = .agg #[.int .i64 x.kind, .int .i64 x.num, .int .i64 x.den, .string ⟨x.str.toArray⟩]
  f7 : dn 7 = true → vals 7 = .agg #[.int .i64 y.kind, .int .i64 y.num, .int .i64 y.den, .string ⟨y.str.toArray⟩]
  f9 : dn 9 = true → vals 9 = .agg #[.int .i64 O.kind, .int .i64 O.num, .int .i64 O.den, .string ⟨O.str.toArray⟩]
  f3 : dn 3 = true → dn 12 = false → VaL w (vals 3) [x, y]
  f8 : dn 8 = true → dn 12 = false → VaL w (vals 8) [x, y]
  f10 : dn 10 = true → ∃ h, vals 10 = .pointer (some ⟨h, 0, none⟩) ∧ W0.heap.size ≤ h ∧ RvAt w h
  f11 : dn 11 = true → ∃ h, vals 11 = .pointer (some ⟨h, 0, none⟩) ∧ W0.heap.size ≤ h ∧ RvAt w h
  ne : dn 10 = true → dn 11 = true → vals 10 ≠ vals 11
  f12 : dn 12 = true → ∃ h, vals 10 = .pointer (some ⟨h, 0, none⟩) ∧ CelV w h (.int .i64 A.kind) (.int .i64 A.num) (.int .i64 A.den) (.string ⟨A.str.toArray⟩)
  f13 : dn 13 = true → ∃ h, vals 11 = .pointer (some ⟨h, 0, none⟩) ∧ CelV w h (.int .i64 O.kind) (.int .i64 O.num) (.int .i64 O.den) (.string ⟨O.str.toArray⟩)
theorem RvAt.lt {w : World} {g : Nat} (h : RvAt w g) : g < w.heap.size := by
  obtain ⟨v, hv⟩ := h.c0
  exact World.block_lt_of_cell? w ⟨g, 0, none⟩ hv

set_option maxHeartbeats 64000000 in
set_option maxRecDepth 100000 in
theorem logic_core (a b : Int) (x y A O NA NO nx ny : Va) (w : World) (hm : Ml w)
    (V1 : ∀ w1, Calls Tryz.prog 46 #[.int .u8 a] w1 (RetV x.v w1)) (V2 : ∀ w1, Calls Tryz.prog 46 #[.int .u8 b] w1 (RetV y.v w1))
    (DAND : ∀ w1 v, VaL w1 v [x, y] → Calls Tryz.prog 49 #[.int .i64 19, v] w1 (RetV A.v w1)) (DOR : ∀ w1 v, VaL w1 v [x, y] → Calls Tryz.prog 49 #[.int .i64 20, v] w1 (RetV O.v w1))
    (DNA : ∀ w1 v, VaL w1 v [A] → Calls Tryz.prog 49 #[.int .i64 4, v] w1 (RetV NA.v w1)) (DNO : ∀ w1 v, VaL w1 v [O] → Calls Tryz.prog 49 #[.int .i64 4, v] w1 (RetV NO.v w1))
    (DX : ∀ w1 v, VaL w1 v [x] → Calls Tryz.prog 49 #[.int .i64 4, v] w1 (RetV nx.v w1)) (DY : ∀ w1 v, VaL w1 v [y] → Calls Tryz.prog 49 #[.int .i64 4, v] w1 (RetV ny.v w1))
    (DON : ∀ w1 v, VaL w1 v [nx, ny] → Calls Tryz.prog 49 #[.int .i64 20, v] w1 (RetV NA.v w1)) (DAN : ∀ w1 v, VaL w1 v [nx, ny] → Calls Tryz.prog 49 #[.int .i64 19, v] w1 (RetV NO.v w1))
    (DNX : ∀ w1 v, VaL w1 v [nx] → Calls Tryz.prog 49 #[.int .i64 4, v] w1 (RetV x.v w1))
    (hc : ((a == (0 : Int)) = true ∧ A = ⟨1, 0, 0, []⟩) ∨ ((a == (0 : Int)) = false ∧ (b == (0 : Int)) = true ∧ A = ⟨1, 0, 0, []⟩) ∨
      ((a == (0 : Int)) = false ∧ (b == (0 : Int)) = false ∧ (a == (1 : Int)) = true ∧ (b == (1 : Int)) = true ∧ A = ⟨1, 1, 0, []⟩ ∧ O = ⟨1, 1, 0, []⟩) ∨
      ((a == (0 : Int)) = false ∧ (b == (0 : Int)) = false ∧ (a == (1 : Int)) = false ∧ decide ((1 : Int) < a) = true ∧ A = x ∧ ((b == (1 : Int)) = true ∨ ((b == (1 : Int)) = false ∧ O = x))) ∨
      ((a == (0 : Int)) = false ∧ (b == (0 : Int)) = false ∧ (a == (1 : Int)) = true ∧ (b == (1 : Int)) = false ∧ decide ((1 : Int) < a) = false ∧ A = y)) :
    Calls Tryz.prog 11 #[.int .u8 a, .int .u8 b] w (RetV (.bool true) w) := by
  have V1 := Lib.hid V1
  have V2 := Lib.hid V2
  have DAND := Lib.hid DAND
  have DOR := Lib.hid DOR
  have DNA := Lib.hid DNA
  have DNO := Lib.hid DNO
  have DX := Lib.hid DX
  have DY := Lib.hid DY
  have DON := Lib.hid DON
  have DAN := Lib.hid DAN
  have DNX := Lib.hid DNX
  have HM := Lib.hid (fun w1 (h : Below w.heap.size w w1) => works_any w1 (hm.later h))
  have HC := Lib.hid hc
  rename_i s1 s2 s3 s4 s5 s6 s7 s8 s9 s10 s11
  clear s1 s2 s3 s4 s5 s6 s7 s8 s9 s10 s11 hc hm
  go_enter Tryz.func11, Tryz.ntmps11
  go_wp2_with fail
  refine (V1.out _).mono ?_
  rintro e w1 ⟨rfl, hb1⟩
  have HB1 := Lib.hid hb1
  clear hb1 V1
  go_wp2_with fail
  refine (V2.out _).mono ?_
  rintro e w2 ⟨rfl, hb2⟩
  obtain ⟨P, p0, PK, PD, PG⟩ := boxVV x y w2
  obtain ⟨W2, hW2⟩ : ∃ W2, W2 = (w2.alloc (.cells #[.int .i64 x.kind, .int .i64 x.num, .int .i64 x.den, .string ⟨x.str.toArray⟩] 45)).alloc (.cells #[.int .i64 y.kind, .int .i64 y.num, .int .i64 y.den, .string ⟨y.str.toArray⟩] 45) := ⟨_, rfl⟩
  rw [← hW2] at p0
  have HP2 : Hid (∀ y, Below W2.heap.size W2 y → P y) := fun y h => PK.out _ _ p0 h
  have HBW : Hid (Below w.heap.size w W2) := below_keep (below_keep HB1.out hb2) (PG.out _ p0).2.2
  have HB2 := Lib.hid (Below.refl W2.heap.size W2)
  clear hb2 V2 p0 PD HB1
  go_wp2_with fail
  rw [← hW2]
  clear hW2
  go_wp2_with fail
  refine wp_region_inv [some 17, some 18, some 19, some 20, some 21, some 22, some 23, some 24, some 25, some 26, some 9, some 10, none, none] (LgJ W2 x y A O) rfl (by kernel_rfl) (by kernel_rfl) (by kernel_rfl) (by kernel_rfl) ?_ ?_ ?_
  · exact { below := HB2.out.drew, f0 := fun h => Bool.noConfusion h, f1 := fun h => Bool.noConfusion h, f2 := fun h => Bool.noConfusion h, f4 := fun h => Bool.noConfusion h, f5 := fun h => Bool.noConfusion h, f6 := fun h => Bool.noConfusion h, f7 := fun h => Bool.noConfusion h, f9 := fun h => Bool.noConfusion h, f3 := fun h _ => Bool.noConfusion h, f8 := fun h _ => Bool.noConfusion h, f10 := fun h => Bool.noConfusion h, f11 := fun h => Bool.noConfusion h, ne := fun h _ => Bool.noConfusion h, f12 := fun h => Bool.noConfusion h, f13 := fun h => Bool.noConfusion h }
  · intro i9 op9 ho
    have hi : i9 < 14 := (Array.getElem?_eq_some_iff.1 ho).1
    match i9, hi with
    | 0, _ =>
      obtain rfl := Option.some.inj ho
      intro a9 dn vals wx hJ0 hdi hde hdj hev hsl
      have hJ := Lib.hid hJ0
      rw [if_pos (wanted_none rfl)]
      have f6 : (a9.tmps[6]?).getD undef = (.func (.func 49) #[] #[]) := hev 6 (by kernel_rfl)
      clear hde hdj hev hsl hJ0 hdi
      go_simp
      exact { below := hJ.out.below, f0 := fun _ => rfl, f1 := fun h => hJ.out.f1 h, f2 := fun h => hJ.out.f2 h, f4 := fun h => hJ.out.f4 h, f5 := fun h => hJ.out.f5 h, f6 := fun h => hJ.out.f6 h, f7 := fun h => hJ.out.f7 h, f9 := fun h => hJ.out.f9 h, f3 := fun h h2 => hJ.out.f3 h h2, f8 := fun h h2 => hJ.out.f8 h h2, f10 := fun h => hJ.out.f10 h, f11 := fun h => hJ.out.f11 h, ne := fun h h2 => hJ.out.ne h h2, f12 := fun h => hJ.out.f12 h, f13 := fun h => hJ.out.f13 h }
    | 1, _ =>
      obtain rfl := Option.some.inj ho
      intro a9 dn vals wx hJ0 hdi hde hdj hev hsl
      have hJ := Lib.hid hJ0
      rw [if_pos (wanted_none rfl)]
      have f7 : (a9.tmps[7]?).getD undef = (.pointer (some ⟨w2.heap.size, 0, none⟩)) := hev 7 (by kernel_rfl)
      clear hde hdj hev hsl hJ0 hdi
      obtain ⟨⟨k0, k1, k2, k3⟩, -, -⟩ := PG.out _ (HP2.out _ hJ.out.below)
      go_simp
      exact { below := hJ.out.below, f0 := fun h => hJ.out.f0 h, f1 := fun _ => rfl, f2 := fun h => hJ.out.f2 h, f4 := fun h => hJ.out.f4 h, f5 := fun h => hJ.out.f5 h, f6 := fun h => hJ.out.f6 h, f7 := fun h => hJ.out.f7 h, f9 := fun h => hJ.out.f9 h, f3 := fun h h2 => hJ.out.f3 h h2, f8 := fun h h2 => hJ.out.f8 h h2, f10 := fun h => hJ.out.f10 h, f11 := fun h => hJ.out.f11 h, ne := fun h h2 => hJ.out.ne h h2, f12 := fun h => hJ.out.f12 h, f13 := fun h => hJ.out.f13 h }
    | 2, _ =>
      obtain rfl := Option.some.inj ho
      intro a9 dn vals wx hJ0 hdi hde hdj hev hsl
      have hJ := Lib.hid hJ0
      rw [if_pos (wanted_none rfl)]
      have f8 : (a9.tmps[8]?).getD undef = (.pointer (some ⟨w2.heap.size + 1, 0, none⟩)) := hev 8 (by kernel_rfl)
      clear hde hdj hev hsl hJ0 hdi
      obtain ⟨-, ⟨k0, k1, k2, k3⟩, -⟩ := PG.out _ (HP2.out _ hJ.out.below)
      go_simp
      exact { below := hJ.out.below, f0 := fun h => hJ.out.f0 h, f1 := fun h => hJ.out.f1 h, f2 := fun _ => rfl, f4 := fun h => hJ.out.f4 h, f5 := fun h => hJ.out.f5 h, f6 := fun h => hJ.out.f6 h, f7 := fun h => hJ.out.f7 h, f9 := fun h => hJ.out.f9 h, f3 := fun h h2 => hJ.out.f3 h h2, f8 := fun h h2 => hJ.out.f8 h h2, f10 := fun h => hJ.out.f10 h, f11 := fun h => hJ.out.f11 h, ne := fun h h2 => hJ.out.ne h h2, f12 := fun h => hJ.out.f12 h, f13 := fun h => hJ.out.f13 h }
    | 3, _ =>
      obtain rfl := Option.some.inj ho
      intro a9 dn vals wx hJ0 hdi hde hdj hev hsl
      have hJ := Lib.hid hJ0
      rw [if_pos (wanted_none rfl)]
      have f18 : (a9.tmps[18]?).getD undef = .agg #[.int .i64 x.kind, .int .i64 x.num, .int .i64 x.den, .string ⟨x.str.toArray⟩] := (hsl 1 18 (hde 0 _ rfl rfl) rfl).trans (hJ.out.f1 (hde 0 _ rfl rfl))
      have f19 : (a9.tmps[19]?).getD undef = .agg #[.int .i64 y.kind, .int .i64 y.num, .int .i64 y.den, .string ⟨y.str.toArray⟩] := (hsl 2 19 (hde 1 _ rfl rfl) rfl).trans (hJ.out.f2 (hde 1 _ rfl rfl))
      clear hde hdj hev hsl hJ0 hdi
      go_simp
      exact { below := below_keep hJ.out.below (below_alloc _ _), f0 := fun h => hJ.out.f0 h, f1 := fun h => hJ.out.f1 h, f2 := fun h => hJ.out.f2 h, f4 := fun h => hJ.out.f4 h, f5 := fun h => hJ.out.f5 h, f6 := fun h => hJ.out.f6 h, f7 := fun h => hJ.out.f7 h, f9 := fun h => hJ.out.f9 h, f3 := fun _ _ => VaL.made2 x y wx _, f8 := fun h h2 => (hJ.out.f8 h h2).later (below_alloc _ _), f10 := fun h => let ⟨q, q1, q2, q3⟩ := hJ.out.f10 h; ⟨q, q1, q2, q3.later (below_alloc _ _)⟩, f11 := fun h => let ⟨q, q1, q2, q3⟩ := hJ.out.f11 h; ⟨q, q1, q2, q3.later (below_alloc _ _)⟩, ne := fun h h2 => hJ.out.ne h h2, f12 := fun h => let ⟨q, q1, q2⟩ := hJ.out.f12 h; ⟨q, q1, q2.later (below_alloc _ _)⟩, f13 := fun h => let ⟨q, q1, q2⟩ := hJ.out.f13 h; ⟨q, q1, q2.later (below_alloc _ _)⟩ }
    | 4, _ =>
      obtain rfl := Option.some.inj ho
      intro a9 dn vals wx hJ0 hdi hde hdj hev hsl
      have hJ := Lib.hid hJ0
      rw [if_pos (wanted_none rfl)]
      have f17 : (a9.tmps[17]?).getD undef = .func (.func 49) #[] #[] := (hsl 0 17 (hde 0 _ rfl rfl) rfl).trans (hJ.out.f0 (hde 0 _ rfl rfl))
      have v20 : Hid (VaL wx ((a9.tmps[20]?).getD undef) [x, y]) := by
        show VaL _ _ _
        rw [hsl 3 20 (hde 1 _ rfl rfl) rfl]
        exact hJ.out.f3 (hde 1 _ rfl rfl) (hdj 12 1 _ _ rfl rfl rfl rfl)
      clear hde hdj hev hsl hJ0 hdi
      go_simp
      exact (DAND.out _ _ v20.out).mono fun e w' ⟨he, hb⟩ => ⟨_, he, { below := below_keep hJ.out.below hb, f0 := fun h => hJ.out.f0 h, f1 := fun h => hJ.out.f1 h, f2 := fun h => hJ.out.f2 h, f4 := fun _ => rfl, f5 := fun h => hJ.out.f5 h, f6 := fun h => hJ.out.f6 h, f7 := fun h => hJ.out.f7 h, f9 := fun h => hJ.out.f9 h, f3 := fun h h2 => (hJ.out.f3 h h2).later hb, f8 := fun h h2 => (hJ.out.f8 h h2).later hb, f10 := fun h => let ⟨q, q1, q2, q3⟩ := hJ.out.f10 h; ⟨q, q1, q2, q3.later hb⟩, f11 := fun h => let ⟨q, q1, q2, q3⟩ := hJ.out.f11 h; ⟨q, q1, q2, q3.later hb⟩, ne := fun h h2 => hJ.out.ne h h2, f12 := fun h => let ⟨q, q1, q2⟩ := hJ.out.f12 h; ⟨q, q1, q2.later hb⟩, f13 := fun h => let ⟨q, q1, q2⟩ := hJ.out.f13 h; ⟨q, q1, q2.later hb⟩ }⟩
    | 5, _ =>
      obtain rfl := Option.some.inj ho
      intro a9 dn vals wx hJ0 hdi hde hdj hev hsl
      have hJ := Lib.hid hJ0
      rw [if_pos (wanted_none rfl)]
      have f6 : (a9.tmps[6]?).getD undef = (.func (.func 49) #[] #[]) := hev 6 (by kernel_rfl)
      clear hde hdj hev hsl hJ0 hdi
      go_simp
      exact { below := hJ.out.below, f0 := fun h => hJ.out.f0 h, f1 := fun h => hJ.out.f1 h, f2 := fun h => hJ.out.f2 h, f4 := fun h => hJ.out.f4 h, f5 := fun _ => rfl, f6 := fun h => hJ.out.f6 h, f7 := fun h => hJ.out.f7 h, f9 := fun h => hJ.out.f9 h, f3 := fun h h2 => hJ.out.f3 h h2, f8 := fun h h2 => hJ.out.f8 h h2, f10 := fun h => hJ.out.f10 h, f11 := fun h => hJ.out.f11 h, ne := fun h h2 => hJ.out.ne h h2, f12 := fun h => hJ.out.f12 h, f13 := fun h => hJ.out.f13 h }
    | 6, _ =>
      obtain rfl := Option.some.inj ho
      intro a9 dn vals wx hJ0 hdi hde hdj hev hsl
      have hJ := Lib.hid hJ0
      rw [if_pos (wanted_none rfl)]
      have f7 : (a9.tmps[7]?).getD undef = (.pointer (some ⟨w2.heap.size, 0, none⟩)) := hev 7 (by kernel_rfl)
      clear hde hdj hev hsl hJ0 hdi
      obtain ⟨⟨k0, k1, k2, k3⟩, -, -⟩ := PG.out _ (HP2.out _ hJ.out.below)
      go_simp
      exact { below := hJ.out.below, f0 := fun h => hJ.out.f0 h, f1 := fun h => hJ.out.f1 h, f2 := fun h => hJ.out.f2 h, f4 := fun h => hJ.out.f4 h, f5 := fun h => hJ.out.f5 h, f6 := fun _ => rfl, f7 := fun h => hJ.out.f7 h, f9 := fun h => hJ.out.f9 h, f3 := fun h h2 => hJ.out.f3 h h2, f8 := fun h h2 => hJ.out.f8 h h2, f10 := fun h => hJ.out.f10 h, f11 := fun h => hJ.out.f11 h, ne := fun h h2 => hJ.out.ne h h2, f12 := fun h => hJ.out.f12 h, f13 := fun h => hJ.out.f13 h }
    | 7, _ =>
      obtain rfl := Option.some.inj ho
      intro a9 dn vals wx hJ0 hdi hde hdj hev hsl
      have hJ := Lib.hid hJ0
      rw [if_pos (wanted_none rfl)]
      have f8 : (a9.tmps[8]?).getD undef = (.pointer (some ⟨w2.heap.size + 1, 0, none⟩)) := hev 8 (by kernel_rfl)
      clear hde hdj hev hsl hJ0 hdi
      obtain ⟨-, ⟨k0, k1, k2, k3⟩, -⟩ := PG.out _ (HP2.out _ hJ.out.below)
      go_simp
      exact { below := hJ.out.below, f0 := fun h => hJ.out.f0 h, f1 := fun h => hJ.out.f1 h, f2 := fun h => hJ.out.f2 h, f4 := fun h => hJ.out.f4 h, f5 := fun h => hJ.out.f5 h, f6 := fun h => hJ.out.f6 h, f7 := fun _ => rfl, f9 := fun h => hJ.out.f9 h, f3 := fun h h2 => hJ.out.f3 h h2, f8 := fun h h2 => hJ.out.f8 h h2, f10 := fun h => hJ.out.f10 h, f11 := fun h => hJ.out.f11 h, ne := fun h h2 => hJ.out.ne h h2, f12 := fun h => hJ.out.f12 h, f13 := fun h => hJ.out.f13 h }
    | 8, _ =>
      obtain rfl := Option.some.inj ho
      intro a9 dn vals wx hJ0 hdi hde hdj hev hsl
      have hJ := Lib.hid hJ0
      rw [if_pos (wanted_none rfl)]
      have f23 : (a9.tmps[23]?).getD undef = .agg #[.int .i64 x.kind, .int .i64 x.num, .int .i64 x.den, .string ⟨x.str.toArray⟩] := (hsl 6 23 (hde 0 _ rfl rfl) rfl).trans (hJ.out.f6 (hde 0 _ rfl rfl))
      have f24 : (a9.tmps[24]?).getD undef = .agg #[.int .i64 y.kind, .int .i64 y.num, .int .i64 y.den, .string ⟨y.str.toArray⟩] := (hsl 7 24 (hde 1 _ rfl rfl) rfl).trans (hJ.out.f7 (hde 1 _ rfl rfl))
      clear hde hdj hev hsl hJ0 hdi
      go_simp
      exact { below := below_keep hJ.out.below (below_alloc _ _), f0 := fun h => hJ.out.f0 h, f1 := fun h => hJ.out.f1 h, f2 := fun h => hJ.out.f2 h, f4 := fun h => hJ.out.f4 h, f5 := fun h => hJ.out.f5 h, f6 := fun h => hJ.out.f6 h, f7 := fun h => hJ.out.f7 h, f9 := fun h => hJ.out.f9 h, f3 := fun h h2 => (hJ.out.f3 h h2).later (below_alloc _ _), f8 := fun _ _ => VaL.made2 x y wx _, f10 := fun h => let ⟨q, q1, q2, q3⟩ := hJ.out.f10 h; ⟨q, q1, q2, q3.later (below_alloc _ _)⟩, f11 := fun h => let ⟨q, q1, q2, q3⟩ := hJ.out.f11 h; ⟨q, q1, q2, q3.later (below_alloc _ _)⟩, ne := fun h h2 => hJ.out.ne h h2, f12 := fun h => let ⟨q, q1, q2⟩ := hJ.out.f12 h; ⟨q, q1, q2.later (below_alloc _ _)⟩, f13 := fun h => let ⟨q, q1, q2⟩ := hJ.out.f13 h; ⟨q, q1, q2.later (below_alloc _ _)⟩ }
    | 9, _ =>
      obtain rfl := Option.some.inj ho
      intro a9 dn vals wx hJ0 hdi hde hdj hev hsl
      have hJ := Lib.hid hJ0
      rw [if_pos (wanted_none rfl)]
      have f22 : (a9.tmps[22]?).getD undef = .func (.func 49) #[] #[] := (hsl 5 22 (hde 0 _ rfl rfl) rfl).trans (hJ.out.f5 (hde 0 _ rfl rfl))
      have v25 : Hid (VaL wx ((a9.tmps[25]?).getD undef) [x, y]) := by
        show VaL _ _ _
        rw [hsl 8 25 (hde 1 _ rfl rfl) rfl]
        exact hJ.out.f8 (hde 1 _ rfl rfl) (hdj 12 2 _ _ rfl rfl rfl rfl)
      clear hde hdj hev hsl hJ0 hdi
      go_simp
      exact (DOR.out _ _ v25.out).mono fun e w' ⟨he, hb⟩ => ⟨_, he, { below := below_keep hJ.out.below hb, f0 := fun h => hJ.out.f0 h, f1 := fun h => hJ.out.f1 h, f2 := fun h => hJ.out.f2 h, f4 := fun h => hJ.out.f4 h, f5 := fun h => hJ.out.f5 h, f6 := fun h => hJ.out.f6 h, f7 := fun h => hJ.out.f7 h, f9 := fun _ => rfl, f3 := fun h h2 => (hJ.out.f3 h h2).later hb, f8 := fun h h2 => (hJ.out.f8 h h2).later hb, f10 := fun h => let ⟨q, q1, q2, q3⟩ := hJ.out.f10 h; ⟨q, q1, q2, q3.later hb⟩, f11 := fun h => let ⟨q, q1, q2, q3⟩ := hJ.out.f11 h; ⟨q, q1, q2, q3.later hb⟩, ne := fun h h2 => hJ.out.ne h h2, f12 := fun h => let ⟨q, q1, q2⟩ := hJ.out.f12 h; ⟨q, q1, q2.later hb⟩, f13 := fun h => let ⟨q, q1, q2⟩ := hJ.out.f13 h; ⟨q, q1, q2.later hb⟩ }⟩
    | 10, _ =>
      obtain rfl := Option.some.inj ho
      intro a9 dn vals wx hJ0 hdi hde hdj hev hsl
      have hJ := Lib.hid hJ0
      rw [if_pos (wanted_none rfl)]
      have nst : dn 12 = false := hdj 12 0 _ _ rfl rfl rfl rfl
      clear hde hdj hev hsl hJ0 hdi
      have NE : Hid (dn 11 = true → (Value.pointer (some ⟨wx.heap.size, 0, none⟩)) ≠ vals 11) := fun h => by
        obtain ⟨q, q1, -, q3⟩ := hJ.out.f11 h
        have q4 := q3.lt
        rw [q1]
        intro e
        injection e with e3
        injection e3 with e4
        injection e4 with e5
        omega
      go_simp
      exact { below := below_keep hJ.out.below (below_alloc _ _), f0 := fun h => hJ.out.f0 h, f1 := fun h => hJ.out.f1 h, f2 := fun h => hJ.out.f2 h, f4 := fun h => hJ.out.f4 h, f5 := fun h => hJ.out.f5 h, f6 := fun h => hJ.out.f6 h, f7 := fun h => hJ.out.f7 h, f9 := fun h => hJ.out.f9 h, f3 := fun h h2 => (hJ.out.f3 h h2).later (below_alloc _ _), f8 := fun h h2 => (hJ.out.f8 h h2).later (below_alloc _ _), f10 := fun _ => ⟨wx.heap.size, rfl, hJ.out.below.size, RvAt.of (ResV.made wx _)⟩, f11 := fun h => let ⟨q, q1, q2, q3⟩ := hJ.out.f11 h; ⟨q, q1, q2, q3.later (below_alloc _ _)⟩, ne := fun _ h2 => NE.out h2, f12 := fun h => Bool.noConfusion ((show dn 12 = true from h).symm.trans nst), f13 := fun h => let ⟨q, q1, q2⟩ := hJ.out.f13 h; ⟨q, q1, q2.later (below_alloc _ _)⟩ }
    | 11, _ =>
      obtain rfl := Option.some.inj ho
      intro a9 dn vals wx hJ0 hdi hde hdj hev hsl
      have hJ := Lib.hid hJ0
      rw [if_pos (wanted_none rfl)]
      have nst : dn 13 = false := hdj 13 0 _ _ rfl rfl rfl rfl
      clear hde hdj hev hsl hJ0 hdi
      have NE : Hid (dn 10 = true → (Value.pointer (some ⟨wx.heap.size, 0, none⟩)) ≠ vals 10) := fun h => by
        obtain ⟨q, q1, -, q3⟩ := hJ.out.f10 h
        have q4 := q3.lt
        rw [q1]
        intro e
        injection e with e3
        injection e3 with e4
        injection e4 with e5
        omega
      go_simp
      exact { below := below_keep hJ.out.below (below_alloc _ _), f0 := fun h => hJ.out.f0 h, f1 := fun h => hJ.out.f1 h, f2 := fun h => hJ.out.f2 h, f4 := fun h => hJ.out.f4 h, f5 := fun h => hJ.out.f5 h, f6 := fun h => hJ.out.f6 h, f7 := fun h => hJ.out.f7 h, f9 := fun h => hJ.out.f9 h, f3 := fun h h2 => (hJ.out.f3 h h2).later (below_alloc _ _), f8 := fun h h2 => (hJ.out.f8 h h2).later (below_alloc _ _), f10 := fun h => let ⟨q, q1, q2, q3⟩ := hJ.out.f10 h; ⟨q, q1, q2, q3.later (below_alloc _ _)⟩, f11 := fun _ => ⟨wx.heap.size, rfl, hJ.out.below.size, RvAt.of (ResV.made wx _)⟩, ne := fun h _ e => NE.out h e.symm, f12 := fun h => let ⟨q, q1, q2⟩ := hJ.out.f12 h; ⟨q, q1, q2.later (below_alloc _ _)⟩, f13 := fun h => Bool.noConfusion ((show dn 13 = true from h).symm.trans nst) }
    | 12, _ =>
      obtain rfl := Option.some.inj ho
      intro a9 dn vals wx hJ0 hdi hde hdj hev hsl
      have hJ := Lib.hid hJ0
      rw [if_pos (wanted_none rfl)]
      obtain ⟨h10, e10, l10, c10⟩ := hJ.out.f10 (hde 0 _ rfl rfl)
      have f9 : (a9.tmps[9]?).getD undef = .pointer (some ⟨h10, 0, none⟩) := (hsl 10 9 (hde 0 _ rfl rfl) rfl).trans e10
      have f21 : (a9.tmps[21]?).getD undef = .agg #[.int .i64 A.kind, .int .i64 A.num, .int .i64 A.den, .string ⟨A.str.toArray⟩] := (hsl 4 21 (hde 1 _ rfl rfl) rfl).trans (hJ.out.f4 (hde 1 _ rfl rfl))
      have n13 : dn 13 = false := hdj 13 2 _ _ rfl rfl rfl rfl
      clear hde hdj hev hsl hJ0 hdi
      obtain ⟨⟨v0, k0⟩, ⟨v1, k1⟩, ⟨v2, k2⟩, ⟨v3, k3⟩, q0, q1, q2, q3⟩ := c10
      have HC : Hid (RvAt wx h10) := ⟨⟨v0, k0⟩, ⟨v1, k1⟩, ⟨v2, k2⟩, ⟨v3, k3⟩, q0, q1, q2, q3⟩
      go_simp
      exact { below := (((hJ.out.below.setCell (p := ⟨h10, 0, none⟩) l10 _).setCell (p := ⟨h10, 1, none⟩) l10 _).setCell (p := ⟨h10, 2, none⟩) l10 _).setCell (p := ⟨h10, 3, none⟩) l10 _, f0 := fun h => hJ.out.f0 h, f1 := fun h => hJ.out.f1 h, f2 := fun h => hJ.out.f2 h, f4 := fun h => hJ.out.f4 h, f5 := fun h => hJ.out.f5 h, f6 := fun h => hJ.out.f6 h, f7 := fun h => hJ.out.f7 h, f9 := fun h => hJ.out.f9 h, f3 := fun h h2 => Bool.noConfusion h2, f8 := fun h h2 => Bool.noConfusion h2, f10 := fun h => let ⟨q, q1, q2, q3⟩ := hJ.out.f10 h; ⟨q, q1, q2, q3.setAny HC.out _ _ _ _⟩, f11 := fun h => let ⟨q, q1, q2, q3⟩ := hJ.out.f11 h; ⟨q, q1, q2, q3.setAny HC.out _ _ _ _⟩, ne := fun h h2 => hJ.out.ne h h2, f12 := fun _ => ⟨h10, e10, (HC.out.cells _ _ _ _).1⟩, f13 := fun h => Bool.noConfusion ((show dn 13 = true from h).symm.trans n13) }
    | 13, _ =>
      obtain rfl := Option.some.inj ho
      intro a9 dn vals wx hJ0 hdi hde hdj hev hsl
      have hJ := Lib.hid hJ0
      rw [if_pos (wanted_none rfl)]
      obtain ⟨h11, e11, l11, c11⟩ := hJ.out.f11 (hde 0 _ rfl rfl)
      have f10 : (a9.tmps[10]?).getD undef = .pointer (some ⟨h11, 0, none⟩) := (hsl 11 10 (hde 0 _ rfl rfl) rfl).trans e11
      have f26 : (a9.tmps[26]?).getD undef = .agg #[.int .i64 O.kind, .int .i64 O.num, .int .i64 O.den, .string ⟨O.str.toArray⟩] := (hsl 9 26 (hde 1 _ rfl rfl) rfl).trans (hJ.out.f9 (hde 1 _ rfl rfl))
      obtain ⟨h10, e10, q10⟩ := hJ.out.f12 (hde 2 _ rfl rfl)
      have N11 : Hid (dn 11 = true) := hde 0 _ rfl rfl
      have N10 : Hid (dn 10 = true) := hde 13 _ rfl rfl
      have N12 : Hid (dn 12 = true) := hde 2 _ rfl rfl
      clear hde hdj hev hsl hJ0 hdi
      obtain ⟨⟨v0, k0⟩, ⟨v1, k1⟩, ⟨v2, k2⟩, ⟨v3, k3⟩, q0, q1, q2, q3⟩ := c11
      have HC : Hid (RvAt wx h11) := ⟨⟨v0, k0⟩, ⟨v1, k1⟩, ⟨v2, k2⟩, ⟨v3, k3⟩, q0, q1, q2, q3⟩
      go_simp
      exact { below := (((hJ.out.below.setCell (p := ⟨h11, 0, none⟩) l11 _).setCell (p := ⟨h11, 1, none⟩) l11 _).setCell (p := ⟨h11, 2, none⟩) l11 _).setCell (p := ⟨h11, 3, none⟩) l11 _, f0 := fun h => hJ.out.f0 h, f1 := fun h => hJ.out.f1 h, f2 := fun h => hJ.out.f2 h, f4 := fun h => hJ.out.f4 h, f5 := fun h => hJ.out.f5 h, f6 := fun h => hJ.out.f6 h, f7 := fun h => hJ.out.f7 h, f9 := fun h => hJ.out.f9 h, f3 := fun h h2 => Bool.noConfusion ((show dn 12 = true from N12.out).symm.trans h2), f8 := fun h h2 => Bool.noConfusion ((show dn 12 = true from N12.out).symm.trans h2), f10 := fun h => let ⟨q, q1, q2, q3⟩ := hJ.out.f10 h; ⟨q, q1, q2, q3.setAny HC.out _ _ _ _⟩, f11 := fun h => let ⟨q, q1, q2, q3⟩ := hJ.out.f11 h; ⟨q, q1, q2, q3.setAny HC.out _ _ _ _⟩, ne := fun h h2 => hJ.out.ne h h2, f12 := fun _ => ⟨h10, e10, q10.setFar (fun e => hJ.out.ne N10.out N11.out (by rw [e10, e11, e])) _ _ _ _⟩, f13 := fun _ => ⟨h11, e11, (HC.out.cells _ _ _ _).1⟩ }
  · intro dn vals wx hall hJ
    have g0 : vals 0 = .func (.func 49) #[] #[] := hJ.f0 (hall 0 (by decide))
    have g1 : vals 1 = .agg #[.int .i64 x.kind, .int .i64 x.num, .int .i64 x.den, .string ⟨x.str.toArray⟩] := hJ.f1 (hall 1 (by decide))
    have g2 : vals 2 = .agg #[.int .i64 y.kind, .int .i64 y.num, .int .i64 y.den, .string ⟨y.str.toArray⟩] := hJ.f2 (hall 2 (by decide))
    have g4 : vals 4 = .agg #[.int .i64 A.kind, .int .i64 A.num, .int .i64 A.den, .string ⟨A.str.toArray⟩] := hJ.f4 (hall 4 (by decide))
    have g5 : vals 5 = .func (.func 49) #[] #[] := hJ.f5 (hall 5 (by decide))
    have g6 : vals 6 = .agg #[.int .i64 x.kind, .int .i64 x.num, .int .i64 x.den, .string ⟨x.str.toArray⟩] := hJ.f6 (hall 6 (by decide))
    have g7 : vals 7 = .agg #[.int .i64 y.kind, .int .i64 y.num, .int .i64 y.den, .string ⟨y.str.toArray⟩] := hJ.f7 (hall 7 (by decide))
    have g9 : vals 9 = .agg #[.int .i64 O.kind, .int .i64 O.num, .int .i64 O.den, .string ⟨O.str.toArray⟩] := hJ.f9 (hall 9 (by decide))
    obtain ⟨h9, g10, l9, -⟩ := hJ.f10 (hall 10 (by decide))
    obtain ⟨h10, g11, l10, -⟩ := hJ.f11 (hall 11 (by decide))
    obtain ⟨q9, q91, q92⟩ := hJ.f12 (hall 12 (by decide))
    obtain ⟨q10, q101, q102⟩ := hJ.f13 (hall 13 (by decide))
    obtain rfl : q9 = h9 := by rw [g10] at q91; injection q91 with e1; injection e1 with e2; injection e2 with e3; exact e3.symm
    obtain rfl : q10 = h10 := by rw [g11] at q101; injection q101 with e1; injection e1 with e2; injection e2 with e3; exact e3.symm
    have HBx := Lib.hid hJ.below
    have HA := Lib.hid q92
    have HO := Lib.hid q102
    simp only [putDs, Act.put, Nat.zero_add, Nat.reduceAdd, List.setIfInBounds_toArray, List.set_cons_succ, List.set_cons_zero, g0, g1, g2, g4, g5, g6, g7, g9, g10, g11]
    clear g0 g1 g2 g4 g5 g6 g7 g9 g10 g11 q91 q92 q101 q102 hJ hall l9 l10
    obtain ⟨PP, hPP⟩ : ∃ PP : World → Prop, PP = fun y => Below wx.heap.size wx y := ⟨_, rfl⟩
    have PP0 : Hid (PP wx) := by show PP wx; rw [hPP]; exact Below.refl _ _
    have PPD : Hid (∀ y, PP y → PP y.drew) := fun y h => by rw [hPP] at h ⊢; exact h.drew
    have PPK : Hid (∀ y z, PP y → Below y.heap.size y z → PP z) := fun y z h hb => by rw [hPP] at h ⊢; exact below_keep h hb
    have PW : Hid (∀ y, PP y → Below w.heap.size w y) := fun y h => by rw [hPP] at h; exact below_keep (below_keep HBW.out HBx.out) h
    have CA : Hid (∀ y, PP y → CelV y q9 (.int .i64 A.kind) (.int .i64 A.num) (.int .i64 A.den) (.string ⟨A.str.toArray⟩)) := fun y h => by rw [hPP] at h; exact HA.out.later h
    have CO : Hid (∀ y, PP y → CelV y q10 (.int .i64 O.kind) (.int .i64 O.num) (.int .i64 O.den) (.string ⟨O.str.toArray⟩)) := fun y h => by rw [hPP] at h; exact HO.out.later h
    have CX : Hid (∀ z, PP z → CelV z w2.heap.size (.int .i64 x.kind) (.int .i64 x.num) (.int .i64 x.den) (.string ⟨x.str.toArray⟩)) := fun z h => by
      rw [hPP] at h
      obtain ⟨⟨k0, k1, k2, k3⟩, -, -⟩ := PG.out _ (HP2.out _ (below_keep HBx.out h))
      exact ⟨k0, k1, k2, k3⟩
    have CY : Hid (∀ z, PP z → CelV z (w2.heap.size + 1) (.int .i64 y.kind) (.int .i64 y.num) (.int .i64 y.den) (.string ⟨y.str.toArray⟩)) := fun z h => by
      rw [hPP] at h
      obtain ⟨-, ⟨k0, k1, k2, k3⟩, -⟩ := PG.out _ (HP2.out _ (below_keep HBx.out h))
      exact ⟨k0, k1, k2, k3⟩
    have HM2 : Hid (∀ y, PP y → Calls Tryz.prog 20 #[] y (RetV (.bool true) y)) := fun y h => HM.out y (PW.out y h)
    clear hPP HA HO HBx HBW HB2 HP2 PG PK DAND DOR HM
    go_wp2_with fail
    refine wp_region_list [.val (.func (.func 49) #[] #[]), .val (.agg #[.int .i64 A.kind, .int .i64 A.num, .int .i64 A.den, .string ⟨A.str.toArray⟩]), .holds (fun u w' => VaL w' u [A]), .val (.agg #[.int .i64 NA.kind, .int .i64 NA.num, .int .i64 NA.den, .string ⟨NA.str.toArray⟩]), .val (.func (.func 49) #[] #[]), .val (.func (.func 49) #[] #[]), .val (.agg #[.int .i64 x.kind, .int .i64 x.num, .int .i64 x.den, .string ⟨x.str.toArray⟩]), .holds (fun u w' => VaL w' u [x]), .val (.agg #[.int .i64 nx.kind, .int .i64 nx.num, .int .i64 nx.den, .string ⟨nx.str.toArray⟩]), .val (.func (.func 49) #[] #[]), .val (.agg #[.int .i64 y.kind, .int .i64 y.num, .int .i64 y.den, .string ⟨y.str.toArray⟩]), .holds (fun u w' => VaL w' u [y]), .val (.agg #[.int .i64 ny.kind, .int .i64 ny.num, .int .i64 ny.den, .string ⟨ny.str.toArray⟩]), .holds (fun u w' => VaL w' u [nx, ny]), .val (.agg #[.int .i64 NA.kind, .int .i64 NA.num, .int .i64 NA.den, .string ⟨NA.str.toArray⟩]), .val (.bool false), .val (.bool false), .val (.func (.func 49) #[] #[]), .val (.agg #[.int .i64 O.kind, .int .i64 O.num, .int .i64 O.den, .string ⟨O.str.toArray⟩]), .holds (fun u w' => VaL w' u [O]), .val (.agg #[.int .i64 NO.kind, .int .i64 NO.num, .int .i64 NO.den, .string ⟨NO.str.toArray⟩]), .val (.func (.func 49) #[] #[]), .val (.func (.func 49) #[] #[]), .val (.agg #[.int .i64 x.kind, .int .i64 x.num, .int .i64 x.den, .string ⟨x.str.toArray⟩]), .holds (fun u w' => VaL w' u [x]), .val (.agg #[.int .i64 nx.kind, .int .i64 nx.num, .int .i64 nx.den, .string ⟨nx.str.toArray⟩]), .val (.func (.func 49) #[] #[]), .val (.agg #[.int .i64 y.kind, .int .i64 y.num, .int .i64 y.den, .string ⟨y.str.toArray⟩]), .holds (fun u w' => VaL w' u [y]), .val (.agg #[.int .i64 ny.kind, .int .i64 ny.num, .int .i64 ny.den, .string ⟨ny.str.toArray⟩]), .holds (fun u w' => VaL w' u [nx, ny]), .val (.agg #[.int .i64 NO.kind, .int .i64 NO.num, .int .i64 NO.den, .string ⟨NO.str.toArray⟩]), .val (.bool false), .val (.bool false), .val (.bool false), .val (.func (.func 49) #[] #[]), .val (.func (.func 49) #[] #[]), .val (.agg #[.int .i64 x.kind, .int .i64 x.num, .int .i64 x.den, .string ⟨x.str.toArray⟩]), .holds (fun u w' => VaL w' u [x]), .val (.agg #[.int .i64 nx.kind, .int .i64 nx.num, .int .i64 nx.den, .string ⟨nx.str.toArray⟩]), .holds (fun u w' => VaL w' u [nx]), .val (.agg #[.int .i64 x.kind, .int .i64 x.num, .int .i64 x.den, .string ⟨x.str.toArray⟩]), .val (.agg #[.int .i64 x.kind, .int .i64 x.num, .int .i64 x.den, .string ⟨x.str.toArray⟩]), .val (.bool false), .val (.bool false)]
      [some 27, some 28, some 29, some 30, some 31, some 32, some 33, some 34, some 35, some 36, some 37, some 38, some 39, some 40, some 41, some 42, some 43, some 44, some 45, some 46, some 47, some 48, some 49, some 50, some 51, some 52, some 53, some 54, some 55, some 56, some 57, some 58, some 59, some 60, some 61, some 62, some 63, some 64, some 65, some 66, some 67, some 68, some 69, some 70, some 71]
      (fun w' => PP w') (fun w1 w2 => Below w1.heap.size w1 w2) rfl (by kernel_rfl) (by kernel_rfl) (by kernel_rfl) (by kernel_rfl) ?_ ?_ ?_ ?_
    · (intro y9 hy9 v w1 w2 hs hv; simp only [List.mem_cons, List.not_mem_nil, or_false] at hy9; rcases hy9 with rfl | rfl | rfl | rfl | rfl | rfl | rfl | rfl | rfl | rfl | rfl | rfl | rfl | rfl | rfl | rfl | rfl | rfl | rfl | rfl | rfl | rfl | rfl | rfl | rfl | rfl | rfl | rfl | rfl | rfl | rfl | rfl | rfl | rfl | rfl | rfl | rfl | rfl | rfl | rfl | rfl | rfl | rfl | rfl | rfl; all_goals first | exact hv | exact VaL.later hv hs)
    · exact PPD.out _ PP0.out
    · intro i9 op9 ho
      have hi : i9 < 45 := (Array.getElem?_eq_some_iff.1 ho).1
      match i9, hi with
      | 0, _ =>
        obtain rfl := Option.some.inj ho
        intro a9 wx hBx hev haf
        rw [if_pos (wanted_none rfl)]
        have f6 : (a9.tmps[6]?).getD undef = (.func (.func 49) #[] #[]) := hev 6 (by kernel_rfl)
        clear haf hev
        go_simp
        exact ⟨rfl, Below.refl _ _, hBx⟩
      | 1, _ =>
        obtain rfl := Option.some.inj ho
        intro a9 wx hBx hev haf
        rw [if_pos (wanted_none rfl)]
        have f9 : (a9.tmps[9]?).getD undef = (.pointer (some ⟨q9, 0, none⟩)) := hev 9 (by kernel_rfl)
        clear haf hev
        obtain ⟨k0, k1, k2, k3⟩ := CA.out _ hBx
        go_simp
        exact ⟨rfl, Below.refl _ _, hBx⟩
      | 2, _ =>
        obtain rfl := Option.some.inj ho
        intro a9 wx hBx hev haf
        rw [if_pos (wanted_none rfl)]
        have f28 : (a9.tmps[28]?).getD undef = (.agg #[.int .i64 A.kind, .int .i64 A.num, .int .i64 A.den, .string ⟨A.str.toArray⟩]) := haf 0 _ rfl rfl 28 rfl
        clear haf hev
        go_simp
        exact ⟨VaL.made1 A wx _, below_alloc _ _, PPK.out _ _ hBx (below_alloc _ _)⟩
      | 3, _ =>
        obtain rfl := Option.some.inj ho
        intro a9 wx hBx hev haf
        rw [if_pos (wanted_none rfl)]
        have f27 : (a9.tmps[27]?).getD undef = (.func (.func 49) #[] #[]) := haf 0 _ rfl rfl 27 rfl
        have f29 := Lib.hid (haf 1 _ rfl rfl 29 rfl)
        clear haf hev
        go_simp
        exact (DNA.out _ _ f29.out).mono fun e w' ⟨he, hb⟩ => ⟨_, he, rfl, hb, PPK.out _ _ hBx hb⟩
      | 4, _ =>
        obtain rfl := Option.some.inj ho
        intro a9 wx hBx hev haf
        rw [if_pos (wanted_none rfl)]
        have f6 : (a9.tmps[6]?).getD undef = (.func (.func 49) #[] #[]) := hev 6 (by kernel_rfl)
        clear haf hev
        go_simp
        exact ⟨rfl, Below.refl _ _, hBx⟩
      | 5, _ =>
        obtain rfl := Option.some.inj ho
        intro a9 wx hBx hev haf
        rw [if_pos (wanted_none rfl)]
        have f6 : (a9.tmps[6]?).getD undef = (.func (.func 49) #[] #[]) := hev 6 (by kernel_rfl)
        clear haf hev
        go_simp
        exact ⟨rfl, Below.refl _ _, hBx⟩
      | 6, _ =>
        obtain rfl := Option.some.inj ho
        intro a9 wx hBx hev haf
        rw [if_pos (wanted_none rfl)]
        have f7 : (a9.tmps[7]?).getD undef = (.pointer (some ⟨w2.heap.size, 0, none⟩)) := hev 7 (by kernel_rfl)
        clear haf hev
        obtain ⟨k0, k1, k2, k3⟩ := CX.out _ hBx
        go_simp
        exact ⟨rfl, Below.refl _ _, hBx⟩
      | 7, _ =>
        obtain rfl := Option.some.inj ho
        intro a9 wx hBx hev haf
        rw [if_pos (wanted_none rfl)]
        have f33 : (a9.tmps[33]?).getD undef = (.agg #[.int .i64 x.kind, .int .i64 x.num, .int .i64 x.den, .string ⟨x.str.toArray⟩]) := haf 0 _ rfl rfl 33 rfl
        clear haf hev
        go_simp
        exact ⟨VaL.made1 x wx _, below_alloc _ _, PPK.out _ _ hBx (below_alloc _ _)⟩
      | 8, _ =>
        obtain rfl := Option.some.inj ho
        intro a9 wx hBx hev haf
        rw [if_pos (wanted_none rfl)]
        have f32 : (a9.tmps[32]?).getD undef = (.func (.func 49) #[] #[]) := haf 0 _ rfl rfl 32 rfl
        have f34 := Lib.hid (haf 1 _ rfl rfl 34 rfl)
        clear haf hev
        go_simp
        exact (DX.out _ _ f34.out).mono fun e w' ⟨he, hb⟩ => ⟨_, he, rfl, hb, PPK.out _ _ hBx hb⟩
      | 9, _ =>
        obtain rfl := Option.some.inj ho
        intro a9 wx hBx hev haf
        rw [if_pos (wanted_none rfl)]
        have f6 : (a9.tmps[6]?).getD undef = (.func (.func 49) #[] #[]) := hev 6 (by kernel_rfl)
        clear haf hev
        go_simp
        exact ⟨rfl, Below.refl _ _, hBx⟩
      | 10, _ =>
        obtain rfl := Option.some.inj ho
        intro a9 wx hBx hev haf
        rw [if_pos (wanted_none rfl)]
        have f8 : (a9.tmps[8]?).getD undef = (.pointer (some ⟨w2.heap.size + 1, 0, none⟩)) := hev 8 (by kernel_rfl)
        clear haf hev
        obtain ⟨k0, k1, k2, k3⟩ := CY.out _ hBx
        go_simp
        exact ⟨rfl, Below.refl _ _, hBx⟩
      | 11, _ =>
        obtain rfl := Option.some.inj ho
        intro a9 wx hBx hev haf
        rw [if_pos (wanted_none rfl)]
        have f37 : (a9.tmps[37]?).getD undef = (.agg #[.int .i64 y.kind, .int .i64 y.num, .int .i64 y.den, .string ⟨y.str.toArray⟩]) := haf 0 _ rfl rfl 37 rfl
        clear haf hev
        go_simp
        exact ⟨VaL.made1 y wx _, below_alloc _ _, PPK.out _ _ hBx (below_alloc _ _)⟩
      | 12, _ =>
        obtain rfl := Option.some.inj ho
        intro a9 wx hBx hev haf
        rw [if_pos (wanted_none rfl)]
        have f36 : (a9.tmps[36]?).getD undef = (.func (.func 49) #[] #[]) := haf 0 _ rfl rfl 36 rfl
        have f38 := Lib.hid (haf 1 _ rfl rfl 38 rfl)
        clear haf hev
        go_simp
        exact (DY.out _ _ f38.out).mono fun e w' ⟨he, hb⟩ => ⟨_, he, rfl, hb, PPK.out _ _ hBx hb⟩
      | 13, _ =>
        obtain rfl := Option.some.inj ho
        intro a9 wx hBx hev haf
        rw [if_pos (wanted_none rfl)]
        have f35 : (a9.tmps[35]?).getD undef = (.agg #[.int .i64 nx.kind, .int .i64 nx.num, .int .i64 nx.den, .string ⟨nx.str.toArray⟩]) := haf 0 _ rfl rfl 35 rfl
        have f39 : (a9.tmps[39]?).getD undef = (.agg #[.int .i64 ny.kind, .int .i64 ny.num, .int .i64 ny.den, .string ⟨ny.str.toArray⟩]) := haf 1 _ rfl rfl 39 rfl
        clear haf hev
        go_simp
        exact ⟨VaL.made2 nx ny wx _, below_alloc _ _, PPK.out _ _ hBx (below_alloc _ _)⟩
      | 14, _ =>
        obtain rfl := Option.some.inj ho
        intro a9 wx hBx hev haf
        rw [if_pos (wanted_none rfl)]
        have f31 : (a9.tmps[31]?).getD undef = (.func (.func 49) #[] #[]) := haf 0 _ rfl rfl 31 rfl
        have f40 := Lib.hid (haf 1 _ rfl rfl 40 rfl)
        clear haf hev
        go_simp
        exact (DON.out _ _ f40.out).mono fun e w' ⟨he, hb⟩ => ⟨_, he, rfl, hb, PPK.out _ _ hBx hb⟩
      | 15, _ =>
        obtain rfl := Option.some.inj ho
        intro a9 wx hBx hev haf
        rw [if_pos (wanted_none rfl)]
        have f30 : (a9.tmps[30]?).getD undef = (.agg #[.int .i64 NA.kind, .int .i64 NA.num, .int .i64 NA.den, .string ⟨NA.str.toArray⟩]) := haf 0 _ rfl rfl 30 rfl
        have f41 : (a9.tmps[41]?).getD undef = (.agg #[.int .i64 NA.kind, .int .i64 NA.num, .int .i64 NA.den, .string ⟨NA.str.toArray⟩]) := haf 1 _ rfl rfl 41 rfl
        clear haf hev
        go_simp
        exact ⟨rfl, Below.refl _ _, hBx⟩
      | 16, _ =>
        obtain rfl := Option.some.inj ho
        intro a9 wx hBx hev haf
        rw [if_pos (wanted_none rfl)]
        have f42 : (a9.tmps[42]?).getD undef = (.bool false) := haf 0 _ rfl rfl 42 rfl
        clear haf hev
        go_simp
        exact ⟨rfl, Below.refl _ _, hBx⟩
      | 17, _ =>
        obtain rfl := Option.some.inj ho
        intro a9 wx hBx hev haf
        have fg : (a9.tmps[43]?).getD undef = .bool false := haf 0 _ rfl rfl 43 rfl
        rw [if_pos (by rw [wanted_at (j := 16) (b := false) rfl rfl fg]; rfl)]
        have f6 : (a9.tmps[6]?).getD undef = (.func (.func 49) #[] #[]) := hev 6 (by kernel_rfl)
        clear haf hev
        go_simp
        exact ⟨rfl, Below.refl _ _, hBx⟩
      | 18, _ =>
        obtain rfl := Option.some.inj ho
        intro a9 wx hBx hev haf
        have fg : (a9.tmps[43]?).getD undef = .bool false := haf 0 _ rfl rfl 43 rfl
        rw [if_pos (by rw [wanted_at (j := 16) (b := false) rfl rfl fg]; rfl)]
        have f10 : (a9.tmps[10]?).getD undef = (.pointer (some ⟨q10, 0, none⟩)) := hev 10 (by kernel_rfl)
        clear haf hev
        obtain ⟨k0, k1, k2, k3⟩ := CO.out _ hBx
        go_simp
        exact ⟨rfl, Below.refl _ _, hBx⟩
      | 19, _ =>
        obtain rfl := Option.some.inj ho
        intro a9 wx hBx hev haf
        have fg : (a9.tmps[43]?).getD undef = .bool false := haf 1 _ rfl rfl 43 rfl
        rw [if_pos (by rw [wanted_at (j := 16) (b := false) rfl rfl fg]; rfl)]
        have f45 : (a9.tmps[45]?).getD undef = (.agg #[.int .i64 O.kind, .int .i64 O.num, .int .i64 O.den, .string ⟨O.str.toArray⟩]) := haf 0 _ rfl rfl 45 rfl
        clear haf hev
        go_simp
        exact ⟨VaL.made1 O wx _, below_alloc _ _, PPK.out _ _ hBx (below_alloc _ _)⟩
      | 20, _ =>
        obtain rfl := Option.some.inj ho
        intro a9 wx hBx hev haf
        have fg : (a9.tmps[43]?).getD undef = .bool false := haf 2 _ rfl rfl 43 rfl
        rw [if_pos (by rw [wanted_at (j := 16) (b := false) rfl rfl fg]; rfl)]
        have f44 : (a9.tmps[44]?).getD undef = (.func (.func 49) #[] #[]) := haf 0 _ rfl rfl 44 rfl
        have f46 := Lib.hid (haf 1 _ rfl rfl 46 rfl)
        clear haf hev
        go_simp
        exact (DNO.out _ _ f46.out).mono fun e w' ⟨he, hb⟩ => ⟨_, he, rfl, hb, PPK.out _ _ hBx hb⟩
      | 21, _ =>
        obtain rfl := Option.some.inj ho
        intro a9 wx hBx hev haf
        have fg : (a9.tmps[43]?).getD undef = .bool false := haf 0 _ rfl rfl 43 rfl
        rw [if_pos (by rw [wanted_at (j := 16) (b := false) rfl rfl fg]; rfl)]
        have f6 : (a9.tmps[6]?).getD undef = (.func (.func 49) #[] #[]) := hev 6 (by kernel_rfl)
        clear haf hev
        go_simp
        exact ⟨rfl, Below.refl _ _, hBx⟩
      | 22, _ =>
        obtain rfl := Option.some.inj ho
        intro a9 wx hBx hev haf
        have fg : (a9.tmps[43]?).getD undef = .bool false := haf 0 _ rfl rfl 43 rfl
        rw [if_pos (by rw [wanted_at (j := 16) (b := false) rfl rfl fg]; rfl)]
        have f6 : (a9.tmps[6]?).getD undef = (.func (.func 49) #[] #[]) := hev 6 (by kernel_rfl)
        clear haf hev
        go_simp
        exact ⟨rfl, Below.refl _ _, hBx⟩
      | 23, _ =>
        obtain rfl := Option.some.inj ho
        intro a9 wx hBx hev haf
        have fg : (a9.tmps[43]?).getD undef = .bool false := haf 0 _ rfl rfl 43 rfl
        rw [if_pos (by rw [wanted_at (j := 16) (b := false) rfl rfl fg]; rfl)]
        have f7 : (a9.tmps[7]?).getD undef = (.pointer (some ⟨w2.heap.size, 0, none⟩)) := hev 7 (by kernel_rfl)
        clear haf hev
        obtain ⟨k0, k1, k2, k3⟩ := CX.out _ hBx
        go_simp
        exact ⟨rfl, Below.refl _ _, hBx⟩
      | 24, _ =>
        obtain rfl := Option.some.inj ho
        intro a9 wx hBx hev haf
        have fg : (a9.tmps[43]?).getD undef = .bool false := haf 1 _ rfl rfl 43 rfl
        rw [if_pos (by rw [wanted_at (j := 16) (b := false) rfl rfl fg]; rfl)]
        have f50 : (a9.tmps[50]?).getD undef = (.agg #[.int .i64 x.kind, .int .i64 x.num, .int .i64 x.den, .string ⟨x.str.toArray⟩]) := haf 0 _ rfl rfl 50 rfl
        clear haf hev
        go_simp
        exact ⟨VaL.made1 x wx _, below_alloc _ _, PPK.out _ _ hBx (below_alloc _ _)⟩
      | 25, _ =>
        obtain rfl := Option.some.inj ho
        intro a9 wx hBx hev haf
        have fg : (a9.tmps[43]?).getD undef = .bool false := haf 3 _ rfl rfl 43 rfl
        rw [if_pos (by rw [wanted_at (j := 16) (b := false) rfl rfl fg]; rfl)]
        have f49 : (a9.tmps[49]?).getD undef = (.func (.func 49) #[] #[]) := haf 0 _ rfl rfl 49 rfl
        have f51 := Lib.hid (haf 1 _ rfl rfl 51 rfl)
        clear haf hev
        go_simp
        exact (DX.out _ _ f51.out).mono fun e w' ⟨he, hb⟩ => ⟨_, he, rfl, hb, PPK.out _ _ hBx hb⟩
      | 26, _ =>
        obtain rfl := Option.some.inj ho
        intro a9 wx hBx hev haf
        have fg : (a9.tmps[43]?).getD undef = .bool false := haf 0 _ rfl rfl 43 rfl
        rw [if_pos (by rw [wanted_at (j := 16) (b := false) rfl rfl fg]; rfl)]
        have f6 : (a9.tmps[6]?).getD undef = (.func (.func 49) #[] #[]) := hev 6 (by kernel_rfl)
        clear haf hev
        go_simp
        exact ⟨rfl, Below.refl _ _, hBx⟩
      | 27, _ =>
        obtain rfl := Option.some.inj ho
        intro a9 wx hBx hev haf
        have fg : (a9.tmps[43]?).getD undef = .bool false := haf 0 _ rfl rfl 43 rfl
        rw [if_pos (by rw [wanted_at (j := 16) (b := false) rfl rfl fg]; rfl)]
        have f8 : (a9.tmps[8]?).getD undef = (.pointer (some ⟨w2.heap.size + 1, 0, none⟩)) := hev 8 (by kernel_rfl)
        clear haf hev
        obtain ⟨k0, k1, k2, k3⟩ := CY.out _ hBx
        go_simp
        exact ⟨rfl, Below.refl _ _, hBx⟩
      | 28, _ =>
        obtain rfl := Option.some.inj ho
        intro a9 wx hBx hev haf
        have fg : (a9.tmps[43]?).getD undef = .bool false := haf 1 _ rfl rfl 43 rfl
        rw [if_pos (by rw [wanted_at (j := 16) (b := false) rfl rfl fg]; rfl)]
        have f54 : (a9.tmps[54]?).getD undef = (.agg #[.int .i64 y.kind, .int .i64 y.num, .int .i64 y.den, .string ⟨y.str.toArray⟩]) := haf 0 _ rfl rfl 54 rfl
        clear haf hev
        go_simp
        exact ⟨VaL.made1 y wx _, below_alloc _ _, PPK.out _ _ hBx (below_alloc _ _)⟩
      | 29, _ =>
        obtain rfl := Option.some.inj ho
        intro a9 wx hBx hev haf
        have fg : (a9.tmps[43]?).getD undef = .bool false := haf 3 _ rfl rfl 43 rfl
        rw [if_pos (by rw [wanted_at (j := 16) (b := false) rfl rfl fg]; rfl)]
        have f53 : (a9.tmps[53]?).getD undef = (.func (.func 49) #[] #[]) := haf 0 _ rfl rfl 53 rfl
        have f55 := Lib.hid (haf 1 _ rfl rfl 55 rfl)
        clear haf hev
        go_simp
        exact (DY.out _ _ f55.out).mono fun e w' ⟨he, hb⟩ => ⟨_, he, rfl, hb, PPK.out _ _ hBx hb⟩
      | 30, _ =>
        obtain rfl := Option.some.inj ho
        intro a9 wx hBx hev haf
        have fg : (a9.tmps[43]?).getD undef = .bool false := haf 2 _ rfl rfl 43 rfl
        rw [if_pos (by rw [wanted_at (j := 16) (b := false) rfl rfl fg]; rfl)]
        have f52 : (a9.tmps[52]?).getD undef = (.agg #[.int .i64 nx.kind, .int .i64 nx.num, .int .i64 nx.den, .string ⟨nx.str.toArray⟩]) := haf 0 _ rfl rfl 52 rfl
        have f56 : (a9.tmps[56]?).getD undef = (.agg #[.int .i64 ny.kind, .int .i64 ny.num, .int .i64 ny.den, .string ⟨ny.str.toArray⟩]) := haf 1 _ rfl rfl 56 rfl
        clear haf hev
        go_simp
        exact ⟨VaL.made2 nx ny wx _, below_alloc _ _, PPK.out _ _ hBx (below_alloc _ _)⟩
      | 31, _ =>
        obtain rfl := Option.some.inj ho
        intro a9 wx hBx hev haf
        have fg : (a9.tmps[43]?).getD undef = .bool false := haf 3 _ rfl rfl 43 rfl
        rw [if_pos (by rw [wanted_at (j := 16) (b := false) rfl rfl fg]; rfl)]
        have f48 : (a9.tmps[48]?).getD undef = (.func (.func 49) #[] #[]) := haf 0 _ rfl rfl 48 rfl
        have f57 := Lib.hid (haf 1 _ rfl rfl 57 rfl)
        clear haf hev
        go_simp
        exact (DAN.out _ _ f57.out).mono fun e w' ⟨he, hb⟩ => ⟨_, he, rfl, hb, PPK.out _ _ hBx hb⟩
      | 32, _ =>
        obtain rfl := Option.some.inj ho
        intro a9 wx hBx hev haf
        have fg : (a9.tmps[43]?).getD undef = .bool false := haf 2 _ rfl rfl 43 rfl
        rw [if_pos (by rw [wanted_at (j := 16) (b := false) rfl rfl fg]; rfl)]
        have f47 : (a9.tmps[47]?).getD undef = (.agg #[.int .i64 NO.kind, .int .i64 NO.num, .int .i64 NO.den, .string ⟨NO.str.toArray⟩]) := haf 0 _ rfl rfl 47 rfl
        have f58 : (a9.tmps[58]?).getD undef = (.agg #[.int .i64 NO.kind, .int .i64 NO.num, .int .i64 NO.den, .string ⟨NO.str.toArray⟩]) := haf 1 _ rfl rfl 58 rfl
        clear haf hev
        go_simp
        exact ⟨rfl, Below.refl _ _, hBx⟩
      | 33, _ =>
        obtain rfl := Option.some.inj ho
        intro a9 wx hBx hev haf
        rw [if_pos (wanted_none rfl)]
        have f43 : (a9.tmps[43]?).getD undef = (.bool false) := haf 0 _ rfl rfl 43 rfl
        have f59 : (a9.tmps[59]?).getD undef = (.bool false) := haf 1 _ rfl rfl 59 rfl
        clear haf hev
        go_simp
        exact ⟨rfl, Below.refl _ _, hBx⟩
      | 34, _ =>
        obtain rfl := Option.some.inj ho
        intro a9 wx hBx hev haf
        rw [if_pos (wanted_none rfl)]
        have f60 : (a9.tmps[60]?).getD undef = (.bool false) := haf 0 _ rfl rfl 60 rfl
        clear haf hev
        go_simp
        exact ⟨rfl, Below.refl _ _, hBx⟩
      | 35, _ =>
        obtain rfl := Option.some.inj ho
        intro a9 wx hBx hev haf
        have fg : (a9.tmps[61]?).getD undef = .bool false := haf 0 _ rfl rfl 61 rfl
        rw [if_pos (by rw [wanted_at (j := 34) (b := false) rfl rfl fg]; rfl)]
        have f6 : (a9.tmps[6]?).getD undef = (.func (.func 49) #[] #[]) := hev 6 (by kernel_rfl)
        clear haf hev
        go_simp
        exact ⟨rfl, Below.refl _ _, hBx⟩
      | 36, _ =>
        obtain rfl := Option.some.inj ho
        intro a9 wx hBx hev haf
        have fg : (a9.tmps[61]?).getD undef = .bool false := haf 0 _ rfl rfl 61 rfl
        rw [if_pos (by rw [wanted_at (j := 34) (b := false) rfl rfl fg]; rfl)]
        have f6 : (a9.tmps[6]?).getD undef = (.func (.func 49) #[] #[]) := hev 6 (by kernel_rfl)
        clear haf hev
        go_simp
        exact ⟨rfl, Below.refl _ _, hBx⟩
      | 37, _ =>
        obtain rfl := Option.some.inj ho
        intro a9 wx hBx hev haf
        have fg : (a9.tmps[61]?).getD undef = .bool false := haf 0 _ rfl rfl 61 rfl
        rw [if_pos (by rw [wanted_at (j := 34) (b := false) rfl rfl fg]; rfl)]
        have f7 : (a9.tmps[7]?).getD undef = (.pointer (some ⟨w2.heap.size, 0, none⟩)) := hev 7 (by kernel_rfl)
        clear haf hev
        obtain ⟨k0, k1, k2, k3⟩ := CX.out _ hBx
        go_simp
        exact ⟨rfl, Below.refl _ _, hBx⟩
      | 38, _ =>
        obtain rfl := Option.some.inj ho
        intro a9 wx hBx hev haf
        have fg : (a9.tmps[61]?).getD undef = .bool false := haf 1 _ rfl rfl 61 rfl
        rw [if_pos (by rw [wanted_at (j := 34) (b := false) rfl rfl fg]; rfl)]
        have f64 : (a9.tmps[64]?).getD undef = (.agg #[.int .i64 x.kind, .int .i64 x.num, .int .i64 x.den, .string ⟨x.str.toArray⟩]) := haf 0 _ rfl rfl 64 rfl
        clear haf hev
        go_simp
        exact ⟨VaL.made1 x wx _, below_alloc _ _, PPK.out _ _ hBx (below_alloc _ _)⟩
      | 39, _ =>
        obtain rfl := Option.some.inj ho
        intro a9 wx hBx hev haf
        have fg : (a9.tmps[61]?).getD undef = .bool false := haf 2 _ rfl rfl 61 rfl
        rw [if_pos (by rw [wanted_at (j := 34) (b := false) rfl rfl fg]; rfl)]
        have f63 : (a9.tmps[63]?).getD undef = (.func (.func 49) #[] #[]) := haf 0 _ rfl rfl 63 rfl
        have f65 := Lib.hid (haf 1 _ rfl rfl 65 rfl)
        clear haf hev
        go_simp
        exact (DX.out _ _ f65.out).mono fun e w' ⟨he, hb⟩ => ⟨_, he, rfl, hb, PPK.out _ _ hBx hb⟩
      | 40, _ =>
        obtain rfl := Option.some.inj ho
        intro a9 wx hBx hev haf
        have fg : (a9.tmps[61]?).getD undef = .bool false := haf 1 _ rfl rfl 61 rfl
        rw [if_pos (by rw [wanted_at (j := 34) (b := false) rfl rfl fg]; rfl)]
        have f66 : (a9.tmps[66]?).getD undef = (.agg #[.int .i64 nx.kind, .int .i64 nx.num, .int .i64 nx.den, .string ⟨nx.str.toArray⟩]) := haf 0 _ rfl rfl 66 rfl
        clear haf hev
        go_simp
        exact ⟨VaL.made1 nx wx _, below_alloc _ _, PPK.out _ _ hBx (below_alloc _ _)⟩
      | 41, _ =>
        obtain rfl := Option.some.inj ho
        intro a9 wx hBx hev haf
        have fg : (a9.tmps[61]?).getD undef = .bool false := haf 3 _ rfl rfl 61 rfl
        rw [if_pos (by rw [wanted_at (j := 34) (b := false) rfl rfl fg]; rfl)]
        have f62 : (a9.tmps[62]?).getD undef = (.func (.func 49) #[] #[]) := haf 0 _ rfl rfl 62 rfl
        have f67 := Lib.hid (haf 1 _ rfl rfl 67 rfl)
        clear haf hev
        go_simp
        exact (DNX.out _ _ f67.out).mono fun e w' ⟨he, hb⟩ => ⟨_, he, rfl, hb, PPK.out _ _ hBx hb⟩
      | 42, _ =>
        obtain rfl := Option.some.inj ho
        intro a9 wx hBx hev haf
        have fg : (a9.tmps[61]?).getD undef = .bool false := haf 0 _ rfl rfl 61 rfl
        rw [if_pos (by rw [wanted_at (j := 34) (b := false) rfl rfl fg]; rfl)]
        have f7 : (a9.tmps[7]?).getD undef = (.pointer (some ⟨w2.heap.size, 0, none⟩)) := hev 7 (by kernel_rfl)
        clear haf hev
        obtain ⟨k0, k1, k2, k3⟩ := CX.out _ hBx
        go_simp
        exact ⟨rfl, Below.refl _ _, hBx⟩
      | 43, _ =>
        obtain rfl := Option.some.inj ho
        intro a9 wx hBx hev haf
        have fg : (a9.tmps[61]?).getD undef = .bool false := haf 2 _ rfl rfl 61 rfl
        rw [if_pos (by rw [wanted_at (j := 34) (b := false) rfl rfl fg]; rfl)]
        have f68 : (a9.tmps[68]?).getD undef = (.agg #[.int .i64 x.kind, .int .i64 x.num, .int .i64 x.den, .string ⟨x.str.toArray⟩]) := haf 0 _ rfl rfl 68 rfl
        have f69 : (a9.tmps[69]?).getD undef = (.agg #[.int .i64 x.kind, .int .i64 x.num, .int .i64 x.den, .string ⟨x.str.toArray⟩]) := haf 1 _ rfl rfl 69 rfl
        clear haf hev
        go_simp
        exact ⟨rfl, Below.refl _ _, hBx⟩
      | 44, _ =>
        obtain rfl := Option.some.inj ho
        intro a9 wx hBx hev haf
        rw [if_pos (wanted_none rfl)]
        have f61 : (a9.tmps[61]?).getD undef = (.bool false) := haf 0 _ rfl rfl 61 rfl
        have f70 : (a9.tmps[70]?).getD undef = (.bool false) := haf 1 _ rfl rfl 70 rfl
        clear haf hev
        go_simp
        exact ⟨rfl, Below.refl _ _, hBx⟩
    · intro vals wx hBx hG
      have g0 : vals 0 = (.func (.func 49) #[] #[]) := hG 0 (by decide)
      have g1 : vals 1 = (.agg #[.int .i64 A.kind, .int .i64 A.num, .int .i64 A.den, .string ⟨A.str.toArray⟩]) := hG 1 (by decide)
      have g2 := hG 2 (by decide)
      have g3 : vals 3 = (.agg #[.int .i64 NA.kind, .int .i64 NA.num, .int .i64 NA.den, .string ⟨NA.str.toArray⟩]) := hG 3 (by decide)
      have g4 : vals 4 = (.func (.func 49) #[] #[]) := hG 4 (by decide)
      have g5 : vals 5 = (.func (.func 49) #[] #[]) := hG 5 (by decide)
      have g6 : vals 6 = (.agg #[.int .i64 x.kind, .int .i64 x.num, .int .i64 x.den, .string ⟨x.str.toArray⟩]) := hG 6 (by decide)
      have g7 := hG 7 (by decide)
      have g8 : vals 8 = (.agg #[.int .i64 nx.kind, .int .i64 nx.num, .int .i64 nx.den, .string ⟨nx.str.toArray⟩]) := hG 8 (by decide)
      have g9 : vals 9 = (.func (.func 49) #[] #[]) := hG 9 (by decide)
      have g10 : vals 10 = (.agg #[.int .i64 y.kind, .int .i64 y.num, .int .i64 y.den, .string ⟨y.str.toArray⟩]) := hG 10 (by decide)
      have g11 := hG 11 (by decide)
      have g12 : vals 12 = (.agg #[.int .i64 ny.kind, .int .i64 ny.num, .int .i64 ny.den, .string ⟨ny.str.toArray⟩]) := hG 12 (by decide)
      have g13 := hG 13 (by decide)
      have g14 : vals 14 = (.agg #[.int .i64 NA.kind, .int .i64 NA.num, .int .i64 NA.den, .string ⟨NA.str.toArray⟩]) := hG 14 (by decide)
      have g15 : vals 15 = (.bool false) := hG 15 (by decide)
      have g16 : vals 16 = (.bool false) := hG 16 (by decide)
      have g17 : vals 17 = (.func (.func 49) #[] #[]) := hG 17 (by decide)
      have g18 : vals 18 = (.agg #[.int .i64 O.kind, .int .i64 O.num, .int .i64 O.den, .string ⟨O.str.toArray⟩]) := hG 18 (by decide)
      have g19 := hG 19 (by decide)
      have g20 : vals 20 = (.agg #[.int .i64 NO.kind, .int .i64 NO.num, .int .i64 NO.den, .string ⟨NO.str.toArray⟩]) := hG 20 (by decide)
      have g21 : vals 21 = (.func (.func 49) #[] #[]) := hG 21 (by decide)
      have g22 : vals 22 = (.func (.func 49) #[] #[]) := hG 22 (by decide)
      have g23 : vals 23 = (.agg #[.int .i64 x.kind, .int .i64 x.num, .int .i64 x.den, .string ⟨x.str.toArray⟩]) := hG 23 (by decide)
      have g24 := hG 24 (by decide)
      have g25 : vals 25 = (.agg #[.int .i64 nx.kind, .int .i64 nx.num, .int .i64 nx.den, .string ⟨nx.str.toArray⟩]) := hG 25 (by decide)
      have g26 : vals 26 = (.func (.func 49) #[] #[]) := hG 26 (by decide)
      have g27 : vals 27 = (.agg #[.int .i64 y.kind, .int .i64 y.num, .int .i64 y.den, .string ⟨y.str.toArray⟩]) := hG 27 (by decide)
      have g28 := hG 28 (by decide)
      have g29 : vals 29 = (.agg #[.int .i64 ny.kind, .int .i64 ny.num, .int .i64 ny.den, .string ⟨ny.str.toArray⟩]) := hG 29 (by decide)
      have g30 := hG 30 (by decide)
      have g31 : vals 31 = (.agg #[.int .i64 NO.kind, .int .i64 NO.num, .int .i64 NO.den, .string ⟨NO.str.toArray⟩]) := hG 31 (by decide)
      have g32 : vals 32 = (.bool false) := hG 32 (by decide)
      have g33 : vals 33 = (.bool false) := hG 33 (by decide)
      have g34 : vals 34 = (.bool false) := hG 34 (by decide)
      have g35 : vals 35 = (.func (.func 49) #[] #[]) := hG 35 (by decide)
      have g36 : vals 36 = (.func (.func 49) #[] #[]) := hG 36 (by decide)
      have g37 : vals 37 = (.agg #[.int .i64 x.kind, .int .i64 x.num, .int .i64 x.den, .string ⟨x.str.toArray⟩]) := hG 37 (by decide)
      have g38 := hG 38 (by decide)
      have g39 : vals 39 = (.agg #[.int .i64 nx.kind, .int .i64 nx.num, .int .i64 nx.den, .string ⟨nx.str.toArray⟩]) := hG 39 (by decide)
      have g40 := hG 40 (by decide)
      have g41 : vals 41 = (.agg #[.int .i64 x.kind, .int .i64 x.num, .int .i64 x.den, .string ⟨x.str.toArray⟩]) := hG 41 (by decide)
      have g42 : vals 42 = (.agg #[.int .i64 x.kind, .int .i64 x.num, .int .i64 x.den, .string ⟨x.str.toArray⟩]) := hG 42 (by decide)
      have g43 : vals 43 = (.bool false) := hG 43 (by decide)
      have g44 : vals 44 = (.bool false) := hG 44 (by decide)
      clear hG
      simp only [putDs, Act.put, Nat.zero_add, Nat.reduceAdd, List.setIfInBounds_toArray, List.set_cons_succ, List.set_cons_zero, g0, g1, g3, g4, g5, g6, g8, g9, g10, g12, g14, g15, g16, g17, g18, g20, g21, g22, g23, g25, g26, g27, g29, g31, g32, g33, g34, g35, g36, g37, g39, g41, g42, g43, g44]
      clear g0 g1 g3 g4 g5 g6 g8 g9 g10 g12 g14 g15 g16 g17 g18 g20 g21 g22 g23 g25 g26 g27 g29 g31 g32 g33 g34 g35 g36 g37 g39 g41 g42 g43 g44
      have P5 := Lib.hid hBx
      clear hBx
      have hP5 := P5.out
      have hPd := PPD.out _ hP5
      obtain ⟨kA0, kA1, kA2, kA3⟩ := CA.out _ hP5
      obtain ⟨kO0, kO1, kO2, kO3⟩ := CO.out _ hP5
      obtain ⟨kX0, kX1, kX2, kX3⟩ := CX.out _ hP5
      obtain ⟨kY0, kY1, kY2, kY3⟩ := CY.out _ hP5
      clear DNA DNO DX DY DON DAN DNX
      rcases HC.out with ⟨c1, hA⟩ | ⟨c1, c2, hA⟩ | ⟨c1, c2, c3, c4, hA, hO⟩ | ⟨c1, c2, c3, c4, hA, hb⟩ | ⟨c1, c2, c3, c4, c5, hA⟩
      · have A0 : A.kind = _ := congrArg Va.kind hA
        have A1 : A.num = _ := congrArg Va.num hA
        have A2 : A.den = _ := congrArg Va.den hA
        have A3 : A.str = _ := congrArg Va.str hA
        try simp only at A0 A1 A2 A3
        clear hA
        go_wp2_with fail
        go_region_held3 (fun w' => w'.cell? ⟨q9, 0, none⟩ = some (.int .i64 A.kind) ∧ w'.cell? ⟨q9, 1, none⟩ = some (.int .i64 A.num) ∧ w'.cell? ⟨q9, 2, none⟩ = some (.int .i64 A.den) ∧ w'.cell? ⟨q9, 3, none⟩ = some (.string ⟨A.str.toArray⟩) ∧ PP w')
          (exact ⟨(CA.out _ (by assumption)).1, (CA.out _ (by assumption)).2.1, (CA.out _ (by assumption)).2.2.1, (CA.out _ (by assumption)).2.2.2, by assumption⟩)
          (first
            | (go_at_call 47; refine (truthL_any 0 _).mono ?_; rintro e z1 ⟨rfl, hz1⟩; have hP6 := PPK.out _ _ hPd hz1)
            | (go_at_call 20; refine (HM2.out _ hP6).mono ?_; rintro e z2 ⟨rfl, hz2⟩; have hPf := PPK.out _ _ hP6 hz2))
        have HF := Lib.hid (PW.out _ hPf)
        go_wp2
        go_ret
        exact ⟨rfl, HF.out⟩
      · have A0 : A.kind = _ := congrArg Va.kind hA
        have A1 : A.num = _ := congrArg Va.num hA
        have A2 : A.den = _ := congrArg Va.den hA
        have A3 : A.str = _ := congrArg Va.str hA
        try simp only at A0 A1 A2 A3
        clear hA
        go_wp2_with fail
        go_region_held3 (fun w' => w'.cell? ⟨q9, 0, none⟩ = some (.int .i64 A.kind) ∧ w'.cell? ⟨q9, 1, none⟩ = some (.int .i64 A.num) ∧ w'.cell? ⟨q9, 2, none⟩ = some (.int .i64 A.den) ∧ w'.cell? ⟨q9, 3, none⟩ = some (.string ⟨A.str.toArray⟩) ∧ PP w')
          (exact ⟨(CA.out _ (by assumption)).1, (CA.out _ (by assumption)).2.1, (CA.out _ (by assumption)).2.2.1, (CA.out _ (by assumption)).2.2.2, by assumption⟩)
          (first
            | (go_at_call 47; refine (truthL_any 0 _).mono ?_; rintro e z1 ⟨rfl, hz1⟩; have hP6 := PPK.out _ _ hPd hz1)
            | (go_at_call 20; refine (HM2.out _ hP6).mono ?_; rintro e z2 ⟨rfl, hz2⟩; have hPf := PPK.out _ _ hP6 hz2))
        have HF := Lib.hid (PW.out _ hPf)
        go_wp2
        go_ret
        exact ⟨rfl, HF.out⟩
      · have A0 : A.kind = _ := congrArg Va.kind hA
        have A1 : A.num = _ := congrArg Va.num hA
        have A2 : A.den = _ := congrArg Va.den hA
        have A3 : A.str = _ := congrArg Va.str hA
        try simp only at A0 A1 A2 A3
        have O0 : O.kind = _ := congrArg Va.kind hO
        have O1 : O.num = _ := congrArg Va.num hO
        have O2 : O.den = _ := congrArg Va.den hO
        have O3 : O.str = _ := congrArg Va.str hO
        try simp only at O0 O1 O2 O3
        clear hA hO
        go_wp2_with fail
        go_region_held3 (fun w' => w'.cell? ⟨q9, 0, none⟩ = some (.int .i64 A.kind) ∧ w'.cell? ⟨q9, 1, none⟩ = some (.int .i64 A.num) ∧ w'.cell? ⟨q9, 2, none⟩ = some (.int .i64 A.den) ∧ w'.cell? ⟨q9, 3, none⟩ = some (.string ⟨A.str.toArray⟩) ∧ w'.cell? ⟨q10, 0, none⟩ = some (.int .i64 O.kind) ∧ w'.cell? ⟨q10, 1, none⟩ = some (.int .i64 O.num) ∧ w'.cell? ⟨q10, 2, none⟩ = some (.int .i64 O.den) ∧ w'.cell? ⟨q10, 3, none⟩ = some (.string ⟨O.str.toArray⟩) ∧ PP w')
          (exact ⟨(CA.out _ (by assumption)).1, (CA.out _ (by assumption)).2.1, (CA.out _ (by assumption)).2.2.1, (CA.out _ (by assumption)).2.2.2, (CO.out _ (by assumption)).1, (CO.out _ (by assumption)).2.1, (CO.out _ (by assumption)).2.2.1, (CO.out _ (by assumption)).2.2.2, by assumption⟩)
          (first
            | (have hZ := hP7; go_at_call 20; refine (HM2.out _ hP7).mono ?_; rintro e z2 ⟨rfl, hz2⟩; have hPf := PPK.out _ _ hP7 hz2)
            | (have hZ := hP6; go_at_call 47; refine (truthL_any 1 _).mono ?_; rintro e z3 ⟨rfl, hz3⟩; have hP7 := PPK.out _ _ hP6 hz3)
            | (go_at_call 47; refine (truthL_any 1 _).mono ?_; rintro e z1 ⟨rfl, hz1⟩; have hP6 := PPK.out _ _ hPd hz1))
        have HF := Lib.hid (PW.out _ hPf)
        go_wp2
        go_ret
        exact ⟨rfl, HF.out⟩
      · have A0 : A.kind = _ := congrArg Va.kind hA
        have A1 : A.num = _ := congrArg Va.num hA
        have A2 : A.den = _ := congrArg Va.den hA
        have A3 : A.str = _ := congrArg Va.str hA
        try simp only at A0 A1 A2 A3
        clear hA
        rcases hb with c5 | ⟨c5, hO⟩
        · go_wp2_with fail
          refine (HM2.out _ hP5).mono ?_
          rintro e z2 ⟨rfl, hz2⟩
          have hPf := PPK.out _ _ hP5 hz2
          have HF := Lib.hid (PW.out _ hPf)
          go_wp2
          go_ret
          exact ⟨rfl, HF.out⟩
        · have O0 : O.kind = _ := congrArg Va.kind hO
          have O1 : O.num = _ := congrArg Va.num hO
          have O2 : O.den = _ := congrArg Va.den hO
          have O3 : O.str = _ := congrArg Va.str hO
          try simp only at O0 O1 O2 O3
          clear hO
          go_wp2_with fail
          refine (HM2.out _ hP5).mono ?_
          rintro e z2 ⟨rfl, hz2⟩
          have hPf := PPK.out _ _ hP5 hz2
          have HF := Lib.hid (PW.out _ hPf)
          go_wp2
          go_ret
          exact ⟨rfl, HF.out⟩
      · have A0 : A.kind = _ := congrArg Va.kind hA
        have A1 : A.num = _ := congrArg Va.num hA
        have A2 : A.den = _ := congrArg Va.den hA
        have A3 : A.str = _ := congrArg Va.str hA
        try simp only at A0 A1 A2 A3
        clear hA
        go_wp2_with fail
        refine (HM2.out _ hP5).mono ?_
        rintro e z2 ⟨rfl, hz2⟩
        have hPf := PPK.out _ _ hP5 hz2
        have HF := Lib.hid (PW.out _ hPf)
        go_wp2
        go_ret
        exact ⟨rfl, HF.out⟩

theorem logic_any (a b : Int) (w : World) (hm : Ml w) (a0 : 0 ≤ a) (a1 : a ≤ 255) (b0 : 0 ≤ b) (b1 : b ≤ 255) :
    Calls Tryz.prog 11 #[.int .u8 a, .int .u8 b] w (RetV (.bool true) w) := by
  have tx := val3_t3 a0 a1
  have ty := val3_t3 b0 b1
  have tA : T3 (and3 (val3 a) (val3 b)) := tx.logic false ty
  have tO : T3 (or3 (val3 a) (val3 b)) := tx.logic true ty
  refine logic_core a b (val3 a) (val3 b) (and3 (val3 a) (val3 b)) (or3 (val3 a) (val3 b)) (not3 (and3 (val3 a) (val3 b))) (not3 (or3 (val3 a) (val3 b))) (not3 (val3 a)) (not3 (val3 b)) w hm
    (fun w1 => lval_any a w1 a0 a1) (fun w1 => lval_any b w1 b0 b1) (fun w1 v h => ldo_any _ _ _ (do_and tx ty) v w1 h) (fun w1 v h => ldo_any _ _ _ (do_or tx ty) v w1 h)
    (fun w1 v h => ldo_any _ _ _ (do_not tA) v w1 h) (fun w1 v h => ldo_any _ _ _ (do_not tO) v w1 h) (fun w1 v h => ldo_any _ _ _ (do_not tx) v w1 h) (fun w1 v h => ldo_any _ _ _ (do_not ty) v w1 h)
    (fun w1 v h => ldo_any _ _ _ ((do_or tx.not ty.not).trans (by rw [show and3 (val3 a) (val3 b) = logicR false [val3 a, val3 b] from rfl, de_morgan false tx ty]; rfl)) v w1 h)
    (fun w1 v h => ldo_any _ _ _ ((do_and tx.not ty.not).trans (by rw [show or3 (val3 a) (val3 b) = logicR true [val3 a, val3 b] from rfl, de_morgan true tx ty]; rfl)) v w1 h)
    (fun w1 v h => ldo_any _ _ _ ((do_not tx.not).trans (by rw [not_not tx])) v w1 h) ?_
  by_cases ha : a = 0
  · exact .inl ⟨by rw [ha]; rfl, and_zero (.inl ha)⟩
  · have q1 : (a == (0 : Int)) = false := by rw [beq_eq_false_iff_ne]; exact ha
    by_cases hb : b = 0
    · exact .inr (.inl ⟨q1, by rw [hb]; rfl, and_zero (.inr hb)⟩)
    · have q2 : (b == (0 : Int)) = false := by rw [beq_eq_false_iff_ne]; exact hb
      by_cases h1 : a = 1
      · by_cases h2 : b = 1
        · subst h1 h2
          exact .inr (.inr (.inl ⟨q1, q2, rfl, rfl, and_one, or_one⟩))
        · subst h1
          exact .inr (.inr (.inr (.inr ⟨q1, q2, rfl, by rw [beq_eq_false_iff_ne]; exact h2, rfl, and_right (by omega)⟩)))
      · refine .inr (.inr (.inr (.inl ⟨q1, q2, by rw [beq_eq_false_iff_ne]; exact h1, by rw [decide_eq_true_eq]; omega, and_left (by omega) (by omega), ?_⟩)))
        by_cases h2 : b = 1
        · exact .inl (by rw [h2]; rfl)
        · exact .inr ⟨by rw [beq_eq_false_iff_ne]; exact h2, or_left (by omega) (by omega) h2⟩
end Go.Proofs.YtemhidlaaommaaaGreatDoor
