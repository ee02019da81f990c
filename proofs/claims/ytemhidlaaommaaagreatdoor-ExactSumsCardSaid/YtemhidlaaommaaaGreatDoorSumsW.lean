/- ExactSums: the walk. (printed by gen_sums.py) -/
import Derived.Deep.RegionHeld3
import Derived.Outline
import Derived.Test.YtemhidlaaommaaaGreatDoorRefM
import Derived.Test.YtemhidlaaommaaaGreatDoorRegInv
import Derived.Test.YtemhidlaaommaaaGreatDoorSmP
import Derived.Test.YtemhidlaaommaaaGreatDoorW1
namespace Go.Proofs.YtemhidlaaommaaaGreatDoor
open Go.RowKit Go.Shelf

/-- an append as a region's operation -/
theorem does_append {R : Value → World → Prop} {o : Oper} {a : Act} {w w' : World} {s x : Operand} {T : TypeId} {v u r : Value} (ho : o.op = .call { callee := .builtin .append, args := #[s, x], argTypes := #[T, T] })
    (hs : (a.eval s) = v) (hx : (a.eval x) = u) (hrun : (Builtin.append_ #[T, T] o.type #[v, u]).run Tryz.prog w = .ok r w') (h : R r w') : Does Tryz.prog R ((execOp a.eval o).run Tryz.prog w) := by
  unfold execOp
  simp only [ho, resolve, invoke, builtin, Sem.run_bind, Sem.run_pure, Result.andThen_ok, List.map_toArray, List.map_cons, List.map_nil, hs, hx, hrun]
  exact h
/-- a number's block that may be written -/
structure R9At (w : World) (g : Nat) : Prop where
  c0 : ∃ b, w.cell? ⟨g, 0, none⟩ = some (.bool b)
  c1 : ∃ a n c, w.cell? ⟨g, 1, none⟩ = some (.slice a n c)
  c2 : ∃ a n c, w.cell? ⟨g, 2, none⟩ = some (.slice a n c)
  f0 : w.frozen? ⟨g, 0, none⟩ = false
  f1 : w.frozen? ⟨g, 1, none⟩ = false
  f2 : w.frozen? ⟨g, 2, none⟩ = false
theorem R9At.of {w : World} {g : Nat} (h : Res9 w g) : R9At w g := ⟨⟨_, h.c0⟩, ⟨_, _, _, h.c1⟩, ⟨_, _, _, h.c2⟩, h.f0, h.f1, h.f2⟩
theorem R9At.later {w w' : World} {g : Nat} (h : R9At w g) (hb : Below w.heap.size w w') : R9At w' g := by
  obtain ⟨⟨b, h0⟩, ⟨a, n, c, h1⟩, ⟨a', n', c', h2⟩, f0, f1, f2⟩ := h
  have hg : g < w.heap.size := World.block_lt_of_cell? w ⟨g, 0, none⟩ h0
  exact ⟨⟨b, (hb.cell (p := ⟨g, 0, none⟩) hg).trans h0⟩, ⟨a, n, c, (hb.cell (p := ⟨g, 1, none⟩) hg).trans h1⟩, ⟨a', n', c', (hb.cell (p := ⟨g, 2, none⟩) hg).trans h2⟩, (hb.frozen (p := ⟨g, 0, none⟩) hg).trans f0, (hb.frozen (p := ⟨g, 1, none⟩) hg).trans f1, (hb.frozen (p := ⟨g, 2, none⟩) hg).trans f2⟩
theorem Q9.setNine {w : World} {g : Nat} {v : Value} {q : Rat} (h : Q9 w v q) (hr : R9At w g) (z0 z1 z2 : Value) : Q9 (set9 w g z0 z1 z2) v q := by
  obtain ⟨vn, vd, e, h1, h2⟩ := h
  obtain ⟨⟨b, k0⟩, ⟨a, n, c, k1⟩, ⟨a', n', c', k2⟩, -⟩ := hr
  exact ⟨vn, vd, e, h1.setNine k0 k1 k2 _ _ _, h2.setNine k0 k1 k2 _ _ _⟩
/-- the three cells of a block -/
def Cl3 (w : World) (g : Nat) (z0 z1 z2 : Value) : Prop := w.cell? ⟨g, 0, none⟩ = some z0 ∧ w.cell? ⟨g, 1, none⟩ = some z1 ∧ w.cell? ⟨g, 2, none⟩ = some z2
theorem Cl3.later {w w' : World} {g : Nat} {z0 z1 z2 : Value} (h : Cl3 w g z0 z1 z2) (hb : Below w.heap.size w w') : Cl3 w' g z0 z1 z2 := by
  have hg : g < w.heap.size := World.block_lt_of_cell? w ⟨g, 0, none⟩ h.1
  exact ⟨(hb.cell (p := ⟨g, 0, none⟩) hg).trans h.1, (hb.cell (p := ⟨g, 1, none⟩) hg).trans h.2.1, (hb.cell (p := ⟨g, 2, none⟩) hg).trans h.2.2⟩
theorem R9At.cells {w : World} {g : Nat} (h : R9At w g) (z0 z1 z2 : Value) : Cl3 (set9 w g z0 z1 z2) g z0 z1 z2 := by
  obtain ⟨⟨b, h0⟩, ⟨a, n, c, h1⟩, ⟨a', n', c', h2⟩, -⟩ := h
  have a1 : (w.setCell ⟨g, 0, none⟩ z0).cell? ⟨g, 1, none⟩ = some (.slice a n c) := by rw [World.cell?_setCell_other w ⟨g, 0, none⟩ ⟨g, 1, none⟩ _ (by simp)]; exact h1
  have a2 : ((w.setCell ⟨g, 0, none⟩ z0).setCell ⟨g, 1, none⟩ z1).cell? ⟨g, 2, none⟩ = some (.slice a' n' c') := by
    rw [World.cell?_setCell_other _ ⟨g, 1, none⟩ ⟨g, 2, none⟩ _ (by simp), World.cell?_setCell_other w ⟨g, 0, none⟩ ⟨g, 2, none⟩ _ (by simp)]; exact h2
  refine ⟨?_, ?_, World.cell?_setCell_same _ _ _ a2⟩
  · rw [World.cell?_setCell_other _ ⟨g, 2, none⟩ ⟨g, 0, none⟩ _ (by simp), World.cell?_setCell_other _ ⟨g, 1, none⟩ ⟨g, 0, none⟩ _ (by simp)]
    exact World.cell?_setCell_same _ _ _ h0
  · rw [World.cell?_setCell_other _ ⟨g, 2, none⟩ ⟨g, 1, none⟩ _ (by simp)]
    exact World.cell?_setCell_same _ _ _ a1

/-- what is known in the region that makes the document's number -/
structure SoJ (W0 : World) (sl ii p0 p1 nn dd : Value) (ec : Int) (ok : Bool) (q : Rat) (dn : Nat → Bool) (vals : Nat → Value) (w : World) : Prop where
  below : Below W0.heap.size W0 w
  f0 : dn 0 = true → vals 0 = sl
  f1 : dn 1 = true → vals 1 = ii
  f2 : dn 2 = true → vals 2 = p0
  f3 : dn 3 = true → vals 3 = p0
  f4 : dn 4 = true → vals 4 = nn
  f5 : dn 5 = true → vals 5 = sl
  f6 : dn 6 = true → vals 6 = ii
  f7 : dn 7 = true → vals 7 = p0
  f8 : dn 8 = true → vals 8 = p1
  f9 : dn 9 = true → vals 9 = dd
  f13 : dn 13 = true → vals 13 = .int .i64 ec
  f16 : dn 16 = true → vals 16 = .int .i64 ec
  f10 : dn 10 = true → ∃ b a1 n1 c1 a2 n2 c2, vals 10 = .tuple #[.agg #[.bool b, .slice a1 n1 c1, .slice a2 n2 c2], .int .i64 ec] ∧ (ok = true → Q9 w (.agg #[.bool b, .slice a1 n1 c1, .slice a2 n2 c2]) q)
  f11 : dn 11 = true → ∃ b a1 n1 c1 a2 n2 c2, vals 11 = .tuple #[.agg #[.bool b, .slice a1 n1 c1, .slice a2 n2 c2], .int .i64 ec] ∧ (ok = true → Q9 w (.agg #[.bool b, .slice a1 n1 c1, .slice a2 n2 c2]) q)
  f12 : dn 12 = true → ∃ b a1 n1 c1 a2 n2 c2, vals 12 = .agg #[.bool b, .slice a1 n1 c1, .slice a2 n2 c2] ∧ (ok = true → Q9 w (.agg #[.bool b, .slice a1 n1 c1, .slice a2 n2 c2]) q)
  f14 : dn 14 = true → ∃ h, vals 14 = .pointer (some ⟨h, 0, none⟩) ∧ W0.heap.size ≤ h ∧ R9At w h
  f15 : dn 15 = true → ∃ h, vals 14 = .pointer (some ⟨h, 0, none⟩) ∧ W0.heap.size ≤ h ∧ ∃ b a1 n1 c1 a2 n2 c2, Cl3 w h (.bool b) (.slice a1 n1 c1) (.slice a2 n2 c2) ∧ (ok = true → Q9 w (.agg #[.bool b, .slice a1 n1 c1, .slice a2 n2 c2]) q)
/-- what is known in the region of the two appends -/
structure SaJ (w0 : World) (xv rv : Value) (k h : Nat) (es : Nat → Nat) (qs : Nat → Rat) (cs : Nat → Cel3) (dn : Nat → Bool) (vals : Nat → Value) (w : World) : Prop where
  st00 : dn 3 = false → dn 7 = false → SmS w0 w xv rv k k (k + 1) es qs cs
  st10 : dn 3 = true → dn 7 = false → SmS w0 w (vals 3) rv (k + 1) k (k + 1) es qs cs
  st11 : dn 7 = true → SmS w0 w (vals 3) (vals 7) (k + 1) (k + 1) (k + 1) es qs cs
  box : dn 7 = false → Cl3 w h (cs k).1 (cs k).2.1 (cs k).2.2
  f0 : dn 0 = true → vals 0 = xv
  f1 : dn 1 = true → vals 1 = .pointer (some ⟨es k, 0, none⟩)
  f4 : dn 4 = true → vals 4 = rv
  f5 : dn 5 = true → vals 5 = .agg #[(cs k).1, (cs k).2.1, (cs k).2.2]
  f2 : dn 2 = true → dn 3 = false → ∃ b, vals 2 = .slice (some ⟨b, 0, none⟩) 1 1 ∧ w.cell? ⟨b, 0, none⟩ = some (.pointer (some ⟨es k, 0, none⟩))
  f6 : dn 6 = true → dn 7 = false → ∃ b, vals 6 = .slice (some ⟨b, 0, none⟩) 1 1 ∧ Cl3 w b (cs k).1 (cs k).2.1 (cs k).2.2
  f3 : dn 3 = true → ∃ g cap, vals 3 = .slice (some ⟨g, 0, none⟩) (k + 1) cap
  f7 : dn 7 = true → ∃ g cap, vals 7 = .slice (some ⟨g, 0, none⟩) (k + 1) cap
  f8 : dn 8 = true → vals 8 = vals 3
  f9 : dn 9 = true → vals 9 = vals 7
  c76 : dn 7 = true → dn 6 = true
theorem info28 : (Tryz.prog.info? 28).map (fun i => (i.zero, i.size, i.bytes)) = some (some (.agg #[.bool false, .slice none 0 0, .slice none 0 0]), 3, 56) := by kernel_rfl
theorem Cl3.grown {w w' : World} {g : Nat} {z0 z1 z2 : Value} {row : Option Nat} (h : Cl3 w g z0 z1 z2) (hg : w.grownBy w' row) (hb : ∃ b, z0 = .bool b) (hr : ∀ r, row = some r → ∃ p, w.cell? ⟨r, 0, none⟩ = some (.pointer p)) : Cl3 w' g z0 z1 z2 := by
  have hne : some g ≠ row := fun e => by
    obtain ⟨p, hp⟩ := hr g e.symm
    obtain ⟨b, rfl⟩ := hb
    have := h.1
    rw [hp] at this; cases this
  exact ⟨hg.cell h.1 hne, hg.cell h.2.1 hne, hg.cell h.2.2 hne⟩

theorem sums_big (a : Option Addr) (n cap : Nat) (w : World) (hm : Ml w) (h : 40 < n) :
    Calls Tryz.prog 14 #[.slice a n cap] w (RetV (.bool true) w) := by
  have C := Lib.hid (works_any w hm)
  have h1 : decide ((40 : Int) < (n : Int)) = true := by rw [decide_eq_true_eq]; omega
  clear h hm
  go_enter Tryz.func14, Tryz.ntmps14
  go_wp2_with fail
  refine C.out.mono ?_
  rintro e w1 ⟨rfl, hb⟩
  go_wp2
  go_ret
  exact ⟨rfl, hb⟩
/-- what the document's Of gives, whatever it is -/
def RetO9 (q : Rat) (ok : Bool) (ec : Int) (w : World) (e : Ending) (w' : World) : Prop := ∃ b a1 n1 c1 a2 n2 c2, e = .returned (.tuple #[.agg #[.bool b, .slice a1 n1 c1, .slice a2 n2 c2], .int .i64 ec]) ∧ (ok = true → Q9 w' (.agg #[.bool b, .slice a1 n1 c1, .slice a2 n2 c2]) q) ∧ Below w.heap.size w w'

set_option maxHeartbeats 64000000 in
set_option maxRecDepth 100000 in
theorem sums_core (a : Option Addr) (n cap : Nat) (N D : Nat → Int) (w : World) (hm : Ml w) (hn : n ≤ 40) (hc1 : n ≤ cap) (hc2 : cap ≤ 9223372036854775807)
    (hsh : 0 < n → ∃ g o, a = some ⟨g, o, none⟩ ∧ ∀ i, i < n → w.cell? ⟨g, o + i * 2, none⟩ = some (.int .i64 (N i)) ∧ w.cell? ⟨g, o + i * 2 + 1, none⟩ = some (.int .i64 (D i)))
    (hr : ∀ i, i < n → -9223372036854775808 ≤ N i ∧ N i ≤ 9223372036854775807 ∧ -9223372036854775808 ≤ D i ∧ D i ≤ 9223372036854775807) :
    Calls Tryz.prog 14 #[.slice a n cap] w (RetV (.bool true) w) := by
  have HM := Lib.hid (fun w1 (h : Below w.heap.size w w1) => works_any w1 (hm.later h))
  have HSH := Lib.hid hsh
  have HR := Lib.hid hr
  have h1 : decide ((40 : Int) < (n : Int)) = false := by rw [decide_eq_false_iff_not]; omega
  clear hm hsh hr
  go_enter Tryz.func14, Tryz.ntmps14
  go_wp2
  go_loopw [3, 4, 5] (fun xv rv iv wr => ∃ (i k : Nat) (es : Nat → Nat) (qs : Nat → Rat) (cs : Nat → Cel3), i ≤ n ∧ k ≤ i ∧ iv = .int .i64 (i : Nat) ∧ Hid (SmS w wr xv rv k k k es qs cs) ∧ Hid (∀ j, Bd 64 (qs j))) (fun _ _ iv _ => n - (intOf iv).toNat)
  case atStart => exact ⟨0, 0, _, _, _, Nat.zero_le _, Nat.le_refl _, rfl, SmS.start w, fun _ => Bd.zero.mono (by decide)⟩
  case round =>
    obtain ⟨i, k, es, qs, cs, hi, hki, rfl, HS, HBD⟩ := hrel
    by_cases hlt : i < n
    · obtain ⟨g, o, rfl, hcell⟩ := HSH.out (by omega)
      obtain ⟨Ni, hNi⟩ : ∃ z, z = N i := ⟨_, rfl⟩
      obtain ⟨Di, hDi⟩ : ∃ z, z = D i := ⟨_, rfl⟩
      have HCN : Hid (∀ y, Below wr.heap.size wr y → y.cell? ⟨g, o + i * 2, none⟩ = some (.int .i64 Ni) ∧ y.cell? ⟨g, o + i * 2 + 1, none⟩ = some (.int .i64 Di)) := fun y hy => by
        obtain ⟨h1, h2⟩ := hcell i hlt
        rw [← hNi] at h1
        rw [← hDi] at h2
        have hb := below_keep HS.out.below hy
        have hg : g < w.heap.size := World.block_lt_of_cell? w ⟨g, o + i * 2, none⟩ h1
        exact ⟨(hb.cell (p := ⟨g, o + i * 2, none⟩) hg).trans h1, (hb.cell (p := ⟨g, o + i * 2 + 1, none⟩) hg).trans h2⟩
      have hrg := HR.out i hlt
      rw [← hNi, ← hDi] at hrg
      have HRG := Lib.hid hrg
      obtain ⟨q0, hq0⟩ : ∃ q0, q0 = quoQ Ni Di := ⟨_, rfl⟩
      obtain ⟨ok, hok⟩ : ∃ ok, ok = decide (Di ≠ 0) := ⟨_, rfl⟩
      obtain ⟨ec, hec⟩ : ∃ ec : Int, ec = if Di = 0 then 2 else 0 := ⟨_, rfl⟩
      have C8 : Hid (∀ w1, Calls Tryz.prog 19 #[.int .i64 Ni, .int .i64 Di] w1 (RetO9 q0 ok ec w1)) := fun w1 => by
        rw [hq0, hok, hec]
        by_cases hd : Di = 0
        · rw [hd]
          refine (of9_zero Ni w1).mono ?_
          rintro e w' ⟨rfl, hb⟩
          exact ⟨_, _, _, _, _, _, _, rfl, fun h => by simp at h, hb⟩
        · refine (of9_any Ni Di w1 HRG.out.1 HRG.out.2.1 HRG.out.2.2.1 HRG.out.2.2.2 hd).mono ?_
          rintro e w' ⟨v, rfl, ⟨vn, vd, rfl, hn, hd2⟩, hb⟩
          obtain ⟨a1, n1, c1, rfl, -⟩ := hn.shape (by decide)
          obtain ⟨a2, n2, c2, rfl, -⟩ := hd2.shape (by decide)
          exact ⟨_, _, _, _, _, _, _, by rw [if_neg hd], fun _ => ⟨_, _, rfl, hn, hd2⟩, hb⟩
      have hi0 : (0 : Int) ≤ (i : Int) := by omega
      have hi1 : (i : Int) < (n : Int) := by omega
      have HHI := Lib.hid hki
      have HQ0 := Lib.hid hq0
      have HOK := Lib.hid hok
      have HEC := Lib.hid hec
      clear hcell hNi hDi hrg hki hq0 hok hec
      go_wp2_with fail
      refine wp_region_inv [some 21, some 22, some 23, some 24, some 25, some 26, some 27, some 28, some 29, some 30, some 31, some 20, some 32, some 33, some 6, none, some 7] (SoJ wr (.slice (some ⟨g, o, none⟩) n cap) (.int .i64 (i : Nat)) (.pointer (some ⟨g, o + i * 2, none⟩)) (.pointer (some ⟨g, o + i * 2 + 1, none⟩)) (.int .i64 Ni) (.int .i64 Di) ec ok q0) rfl (by kernel_rfl) (by kernel_rfl) (by kernel_rfl) (by kernel_rfl) ?_ ?_ ?_
      · exact { below := (Below.refl _ _).drew, f0 := fun h => Bool.noConfusion h, f1 := fun h => Bool.noConfusion h, f2 := fun h => Bool.noConfusion h, f3 := fun h => Bool.noConfusion h, f4 := fun h => Bool.noConfusion h, f5 := fun h => Bool.noConfusion h, f6 := fun h => Bool.noConfusion h, f7 := fun h => Bool.noConfusion h, f8 := fun h => Bool.noConfusion h, f9 := fun h => Bool.noConfusion h, f13 := fun h => Bool.noConfusion h, f16 := fun h => Bool.noConfusion h, f10 := fun h => Bool.noConfusion h, f11 := fun h => Bool.noConfusion h, f12 := fun h => Bool.noConfusion h, f14 := fun h => Bool.noConfusion h, f15 := fun h => Bool.noConfusion h }
      · intro i9 op9 ho
        have hi : i9 < 17 := (Array.getElem?_eq_some_iff.1 ho).1
        match i9, hi with
        | 0, _ =>
          obtain rfl := Option.some.inj ho
          intro a9 dn vals wx hJ0 hdi hde hdj hev hsl hun
          have hJ := Lib.hid hJ0
          rw [if_pos (wanted_none rfl)]
          have f0 : (a9.tmps[0]?).getD undef = .slice (some ⟨g, o, none⟩) n cap := hev 0 (by kernel_rfl)
          clear hde hdj hev hsl hun hJ0 hdi
          go_simp
          exact { below := hJ.out.below, f0 := fun _ => rfl, f1 := fun h => hJ.out.f1 h, f2 := fun h => hJ.out.f2 h, f3 := fun h => hJ.out.f3 h, f4 := fun h => hJ.out.f4 h, f5 := fun h => hJ.out.f5 h, f6 := fun h => hJ.out.f6 h, f7 := fun h => hJ.out.f7 h, f8 := fun h => hJ.out.f8 h, f9 := fun h => hJ.out.f9 h, f13 := fun h => hJ.out.f13 h, f16 := fun h => hJ.out.f16 h, f10 := fun h => hJ.out.f10 h, f11 := fun h => hJ.out.f11 h, f12 := fun h => hJ.out.f12 h, f14 := fun h => hJ.out.f14 h, f15 := fun h => hJ.out.f15 h }
        | 1, _ =>
          obtain rfl := Option.some.inj ho
          intro a9 dn vals wx hJ0 hdi hde hdj hev hsl hun
          have hJ := Lib.hid hJ0
          rw [if_pos (wanted_none rfl)]
          have f5 : (a9.tmps[5]?).getD undef = .int .i64 (i : Nat) := hev 5 (by kernel_rfl)
          clear hde hdj hev hsl hun hJ0 hdi
          go_simp
          exact { below := hJ.out.below, f0 := fun h => hJ.out.f0 h, f1 := fun _ => rfl, f2 := fun h => hJ.out.f2 h, f3 := fun h => hJ.out.f3 h, f4 := fun h => hJ.out.f4 h, f5 := fun h => hJ.out.f5 h, f6 := fun h => hJ.out.f6 h, f7 := fun h => hJ.out.f7 h, f8 := fun h => hJ.out.f8 h, f9 := fun h => hJ.out.f9 h, f13 := fun h => hJ.out.f13 h, f16 := fun h => hJ.out.f16 h, f10 := fun h => hJ.out.f10 h, f11 := fun h => hJ.out.f11 h, f12 := fun h => hJ.out.f12 h, f14 := fun h => hJ.out.f14 h, f15 := fun h => hJ.out.f15 h }
        | 2, _ =>
          obtain rfl := Option.some.inj ho
          intro a9 dn vals wx hJ0 hdi hde hdj hev hsl hun
          have hJ := Lib.hid hJ0
          rw [if_pos (wanted_none rfl)]
          have f21 : (a9.tmps[21]?).getD undef = .slice (some ⟨g, o, none⟩) n cap := (hsl 0 21 (hde 0 _ rfl rfl) rfl).trans (hJ.out.f0 (hde 0 _ rfl rfl))
          have f22 : (a9.tmps[22]?).getD undef = .int .i64 (i : Nat) := (hsl 1 22 (hde 1 _ rfl rfl) rfl).trans (hJ.out.f1 (hde 1 _ rfl rfl))
          clear hde hdj hev hsl hun hJ0 hdi
          go_simp
          exact { below := hJ.out.below, f0 := fun h => hJ.out.f0 h, f1 := fun h => hJ.out.f1 h, f2 := fun _ => rfl, f3 := fun h => hJ.out.f3 h, f4 := fun h => hJ.out.f4 h, f5 := fun h => hJ.out.f5 h, f6 := fun h => hJ.out.f6 h, f7 := fun h => hJ.out.f7 h, f8 := fun h => hJ.out.f8 h, f9 := fun h => hJ.out.f9 h, f13 := fun h => hJ.out.f13 h, f16 := fun h => hJ.out.f16 h, f10 := fun h => hJ.out.f10 h, f11 := fun h => hJ.out.f11 h, f12 := fun h => hJ.out.f12 h, f14 := fun h => hJ.out.f14 h, f15 := fun h => hJ.out.f15 h }
        | 3, _ =>
          obtain rfl := Option.some.inj ho
          intro a9 dn vals wx hJ0 hdi hde hdj hev hsl hun
          have hJ := Lib.hid hJ0
          rw [if_pos (wanted_none rfl)]
          have f23 : (a9.tmps[23]?).getD undef = .pointer (some ⟨g, o + i * 2, none⟩) := (hsl 2 23 (hde 0 _ rfl rfl) rfl).trans (hJ.out.f2 (hde 0 _ rfl rfl))
          clear hde hdj hev hsl hun hJ0 hdi
          go_simp
          exact { below := hJ.out.below, f0 := fun h => hJ.out.f0 h, f1 := fun h => hJ.out.f1 h, f2 := fun h => hJ.out.f2 h, f3 := fun _ => rfl, f4 := fun h => hJ.out.f4 h, f5 := fun h => hJ.out.f5 h, f6 := fun h => hJ.out.f6 h, f7 := fun h => hJ.out.f7 h, f8 := fun h => hJ.out.f8 h, f9 := fun h => hJ.out.f9 h, f13 := fun h => hJ.out.f13 h, f16 := fun h => hJ.out.f16 h, f10 := fun h => hJ.out.f10 h, f11 := fun h => hJ.out.f11 h, f12 := fun h => hJ.out.f12 h, f14 := fun h => hJ.out.f14 h, f15 := fun h => hJ.out.f15 h }
        | 4, _ =>
          obtain rfl := Option.some.inj ho
          intro a9 dn vals wx hJ0 hdi hde hdj hev hsl hun
          have hJ := Lib.hid hJ0
          rw [if_pos (wanted_none rfl)]
          have f24 : (a9.tmps[24]?).getD undef = .pointer (some ⟨g, o + i * 2, none⟩) := (hsl 3 24 (hde 0 _ rfl rfl) rfl).trans (hJ.out.f3 (hde 0 _ rfl rfl))
          clear hde hdj hev hsl hun hJ0 hdi
          have k0 := (HCN.out _ hJ.out.below).1
          go_simp
          exact { below := hJ.out.below, f0 := fun h => hJ.out.f0 h, f1 := fun h => hJ.out.f1 h, f2 := fun h => hJ.out.f2 h, f3 := fun h => hJ.out.f3 h, f4 := fun _ => rfl, f5 := fun h => hJ.out.f5 h, f6 := fun h => hJ.out.f6 h, f7 := fun h => hJ.out.f7 h, f8 := fun h => hJ.out.f8 h, f9 := fun h => hJ.out.f9 h, f13 := fun h => hJ.out.f13 h, f16 := fun h => hJ.out.f16 h, f10 := fun h => hJ.out.f10 h, f11 := fun h => hJ.out.f11 h, f12 := fun h => hJ.out.f12 h, f14 := fun h => hJ.out.f14 h, f15 := fun h => hJ.out.f15 h }
        | 5, _ =>
          obtain rfl := Option.some.inj ho
          intro a9 dn vals wx hJ0 hdi hde hdj hev hsl hun
          have hJ := Lib.hid hJ0
          rw [if_pos (wanted_none rfl)]
          have f0 : (a9.tmps[0]?).getD undef = .slice (some ⟨g, o, none⟩) n cap := hev 0 (by kernel_rfl)
          clear hde hdj hev hsl hun hJ0 hdi
          go_simp
          exact { below := hJ.out.below, f0 := fun h => hJ.out.f0 h, f1 := fun h => hJ.out.f1 h, f2 := fun h => hJ.out.f2 h, f3 := fun h => hJ.out.f3 h, f4 := fun h => hJ.out.f4 h, f5 := fun _ => rfl, f6 := fun h => hJ.out.f6 h, f7 := fun h => hJ.out.f7 h, f8 := fun h => hJ.out.f8 h, f9 := fun h => hJ.out.f9 h, f13 := fun h => hJ.out.f13 h, f16 := fun h => hJ.out.f16 h, f10 := fun h => hJ.out.f10 h, f11 := fun h => hJ.out.f11 h, f12 := fun h => hJ.out.f12 h, f14 := fun h => hJ.out.f14 h, f15 := fun h => hJ.out.f15 h }
        | 6, _ =>
          obtain rfl := Option.some.inj ho
          intro a9 dn vals wx hJ0 hdi hde hdj hev hsl hun
          have hJ := Lib.hid hJ0
          rw [if_pos (wanted_none rfl)]
          have f5 : (a9.tmps[5]?).getD undef = .int .i64 (i : Nat) := hev 5 (by kernel_rfl)
          clear hde hdj hev hsl hun hJ0 hdi
          go_simp
          exact { below := hJ.out.below, f0 := fun h => hJ.out.f0 h, f1 := fun h => hJ.out.f1 h, f2 := fun h => hJ.out.f2 h, f3 := fun h => hJ.out.f3 h, f4 := fun h => hJ.out.f4 h, f5 := fun h => hJ.out.f5 h, f6 := fun _ => rfl, f7 := fun h => hJ.out.f7 h, f8 := fun h => hJ.out.f8 h, f9 := fun h => hJ.out.f9 h, f13 := fun h => hJ.out.f13 h, f16 := fun h => hJ.out.f16 h, f10 := fun h => hJ.out.f10 h, f11 := fun h => hJ.out.f11 h, f12 := fun h => hJ.out.f12 h, f14 := fun h => hJ.out.f14 h, f15 := fun h => hJ.out.f15 h }
        | 7, _ =>
          obtain rfl := Option.some.inj ho
          intro a9 dn vals wx hJ0 hdi hde hdj hev hsl hun
          have hJ := Lib.hid hJ0
          rw [if_pos (wanted_none rfl)]
          have f26 : (a9.tmps[26]?).getD undef = .slice (some ⟨g, o, none⟩) n cap := (hsl 5 26 (hde 0 _ rfl rfl) rfl).trans (hJ.out.f5 (hde 0 _ rfl rfl))
          have f27 : (a9.tmps[27]?).getD undef = .int .i64 (i : Nat) := (hsl 6 27 (hde 1 _ rfl rfl) rfl).trans (hJ.out.f6 (hde 1 _ rfl rfl))
          clear hde hdj hev hsl hun hJ0 hdi
          go_simp
          exact { below := hJ.out.below, f0 := fun h => hJ.out.f0 h, f1 := fun h => hJ.out.f1 h, f2 := fun h => hJ.out.f2 h, f3 := fun h => hJ.out.f3 h, f4 := fun h => hJ.out.f4 h, f5 := fun h => hJ.out.f5 h, f6 := fun h => hJ.out.f6 h, f7 := fun _ => rfl, f8 := fun h => hJ.out.f8 h, f9 := fun h => hJ.out.f9 h, f13 := fun h => hJ.out.f13 h, f16 := fun h => hJ.out.f16 h, f10 := fun h => hJ.out.f10 h, f11 := fun h => hJ.out.f11 h, f12 := fun h => hJ.out.f12 h, f14 := fun h => hJ.out.f14 h, f15 := fun h => hJ.out.f15 h }
        | 8, _ =>
          obtain rfl := Option.some.inj ho
          intro a9 dn vals wx hJ0 hdi hde hdj hev hsl hun
          have hJ := Lib.hid hJ0
          rw [if_pos (wanted_none rfl)]
          have f28 : (a9.tmps[28]?).getD undef = .pointer (some ⟨g, o + i * 2, none⟩) := (hsl 7 28 (hde 0 _ rfl rfl) rfl).trans (hJ.out.f7 (hde 0 _ rfl rfl))
          clear hde hdj hev hsl hun hJ0 hdi
          go_simp
          exact { below := hJ.out.below, f0 := fun h => hJ.out.f0 h, f1 := fun h => hJ.out.f1 h, f2 := fun h => hJ.out.f2 h, f3 := fun h => hJ.out.f3 h, f4 := fun h => hJ.out.f4 h, f5 := fun h => hJ.out.f5 h, f6 := fun h => hJ.out.f6 h, f7 := fun h => hJ.out.f7 h, f8 := fun _ => rfl, f9 := fun h => hJ.out.f9 h, f13 := fun h => hJ.out.f13 h, f16 := fun h => hJ.out.f16 h, f10 := fun h => hJ.out.f10 h, f11 := fun h => hJ.out.f11 h, f12 := fun h => hJ.out.f12 h, f14 := fun h => hJ.out.f14 h, f15 := fun h => hJ.out.f15 h }
        | 9, _ =>
          obtain rfl := Option.some.inj ho
          intro a9 dn vals wx hJ0 hdi hde hdj hev hsl hun
          have hJ := Lib.hid hJ0
          rw [if_pos (wanted_none rfl)]
          have f29 : (a9.tmps[29]?).getD undef = .pointer (some ⟨g, o + i * 2 + 1, none⟩) := (hsl 8 29 (hde 0 _ rfl rfl) rfl).trans (hJ.out.f8 (hde 0 _ rfl rfl))
          clear hde hdj hev hsl hun hJ0 hdi
          have k1 := (HCN.out _ hJ.out.below).2
          go_simp
          exact { below := hJ.out.below, f0 := fun h => hJ.out.f0 h, f1 := fun h => hJ.out.f1 h, f2 := fun h => hJ.out.f2 h, f3 := fun h => hJ.out.f3 h, f4 := fun h => hJ.out.f4 h, f5 := fun h => hJ.out.f5 h, f6 := fun h => hJ.out.f6 h, f7 := fun h => hJ.out.f7 h, f8 := fun h => hJ.out.f8 h, f9 := fun _ => rfl, f13 := fun h => hJ.out.f13 h, f16 := fun h => hJ.out.f16 h, f10 := fun h => hJ.out.f10 h, f11 := fun h => hJ.out.f11 h, f12 := fun h => hJ.out.f12 h, f14 := fun h => hJ.out.f14 h, f15 := fun h => hJ.out.f15 h }
        | 10, _ =>
          obtain rfl := Option.some.inj ho
          intro a9 dn vals wx hJ0 hdi hde hdj hev hsl hun
          have hJ := Lib.hid hJ0
          rw [if_pos (wanted_none rfl)]
          have f25 : (a9.tmps[25]?).getD undef = .int .i64 Ni := (hsl 4 25 (hde 0 _ rfl rfl) rfl).trans (hJ.out.f4 (hde 0 _ rfl rfl))
          have f30 : (a9.tmps[30]?).getD undef = .int .i64 Di := (hsl 9 30 (hde 1 _ rfl rfl) rfl).trans (hJ.out.f9 (hde 1 _ rfl rfl))
          clear hde hdj hev hsl hun hJ0 hdi
          go_simp
          refine (C8.out wx).mono ?_
          rintro e w' ⟨b, a1, n1, c1, a2, n2, c2, he, hq, hb⟩
          exact ⟨_, he, { below := below_keep hJ.out.below hb, f0 := fun h => hJ.out.f0 h, f1 := fun h => hJ.out.f1 h, f2 := fun h => hJ.out.f2 h, f3 := fun h => hJ.out.f3 h, f4 := fun h => hJ.out.f4 h, f5 := fun h => hJ.out.f5 h, f6 := fun h => hJ.out.f6 h, f7 := fun h => hJ.out.f7 h, f8 := fun h => hJ.out.f8 h, f9 := fun h => hJ.out.f9 h, f13 := fun h => hJ.out.f13 h, f16 := fun h => hJ.out.f16 h, f10 := fun _ => ⟨b, a1, n1, c1, a2, n2, c2, rfl, hq⟩, f11 := fun h => let ⟨b, a1, n1, c1, a2, n2, c2, q1, q2⟩ := hJ.out.f11 h; ⟨b, a1, n1, c1, a2, n2, c2, q1, fun h2 => (q2 h2).later hb⟩, f12 := fun h => let ⟨b, a1, n1, c1, a2, n2, c2, q1, q2⟩ := hJ.out.f12 h; ⟨b, a1, n1, c1, a2, n2, c2, q1, fun h2 => (q2 h2).later hb⟩, f14 := fun h => let ⟨q, q1, q2, q3⟩ := hJ.out.f14 h; ⟨q, q1, q2, q3.later hb⟩, f15 := fun h => let ⟨q, q1, q2, b, a1, n1, c1, a2, n2, c2, q3, q4⟩ := hJ.out.f15 h; ⟨q, q1, q2, b, a1, n1, c1, a2, n2, c2, q3.later hb, fun h2 => (q4 h2).later hb⟩ }⟩
        | 11, _ =>
          obtain rfl := Option.some.inj ho
          intro a9 dn vals wx hJ0 hdi hde hdj hev hsl hun
          have hJ := Lib.hid hJ0
          rw [if_pos (wanted_none rfl)]
          obtain ⟨b, a1, n1, c1, a2, n2, c2, e31, q31⟩ := hJ.out.f10 (hde 0 _ rfl rfl)
          have f31 : (a9.tmps[31]?).getD undef = .tuple #[.agg #[.bool b, .slice a1 n1 c1, .slice a2 n2 c2], .int .i64 ec] := (hsl 10 31 (hde 0 _ rfl rfl) rfl).trans e31
          have Q31 := Lib.hid q31
          clear q31
          clear hde hdj hev hsl hun hJ0 hdi
          go_simp
          exact { below := hJ.out.below, f0 := fun h => hJ.out.f0 h, f1 := fun h => hJ.out.f1 h, f2 := fun h => hJ.out.f2 h, f3 := fun h => hJ.out.f3 h, f4 := fun h => hJ.out.f4 h, f5 := fun h => hJ.out.f5 h, f6 := fun h => hJ.out.f6 h, f7 := fun h => hJ.out.f7 h, f8 := fun h => hJ.out.f8 h, f9 := fun h => hJ.out.f9 h, f13 := fun h => hJ.out.f13 h, f16 := fun h => hJ.out.f16 h, f10 := fun h => hJ.out.f10 h, f11 := fun _ => ⟨b, a1, n1, c1, a2, n2, c2, rfl, Q31.out⟩, f12 := fun h => hJ.out.f12 h, f14 := fun h => hJ.out.f14 h, f15 := fun h => hJ.out.f15 h }
        | 12, _ =>
          obtain rfl := Option.some.inj ho
          intro a9 dn vals wx hJ0 hdi hde hdj hev hsl hun
          have hJ := Lib.hid hJ0
          rw [if_pos (wanted_none rfl)]
          obtain ⟨b, a1, n1, c1, a2, n2, c2, e20, q20⟩ := hJ.out.f11 (hde 0 _ rfl rfl)
          have f20 : (a9.tmps[20]?).getD undef = .tuple #[.agg #[.bool b, .slice a1 n1 c1, .slice a2 n2 c2], .int .i64 ec] := (hsl 11 20 (hde 0 _ rfl rfl) rfl).trans e20
          have Q20 := Lib.hid q20
          clear q20
          clear hde hdj hev hsl hun hJ0 hdi
          go_simp
          exact { below := hJ.out.below, f0 := fun h => hJ.out.f0 h, f1 := fun h => hJ.out.f1 h, f2 := fun h => hJ.out.f2 h, f3 := fun h => hJ.out.f3 h, f4 := fun h => hJ.out.f4 h, f5 := fun h => hJ.out.f5 h, f6 := fun h => hJ.out.f6 h, f7 := fun h => hJ.out.f7 h, f8 := fun h => hJ.out.f8 h, f9 := fun h => hJ.out.f9 h, f13 := fun h => hJ.out.f13 h, f16 := fun h => hJ.out.f16 h, f10 := fun h => hJ.out.f10 h, f11 := fun h => hJ.out.f11 h, f12 := fun _ => ⟨b, a1, n1, c1, a2, n2, c2, rfl, Q20.out⟩, f14 := fun h => hJ.out.f14 h, f15 := fun h => hJ.out.f15 h }
        | 13, _ =>
          obtain rfl := Option.some.inj ho
          intro a9 dn vals wx hJ0 hdi hde hdj hev hsl hun
          have hJ := Lib.hid hJ0
          rw [if_pos (wanted_none rfl)]
          obtain ⟨b, a1, n1, c1, a2, n2, c2, e20, q20⟩ := hJ.out.f11 (hde 0 _ rfl rfl)
          have f20 : (a9.tmps[20]?).getD undef = .tuple #[.agg #[.bool b, .slice a1 n1 c1, .slice a2 n2 c2], .int .i64 ec] := (hsl 11 20 (hde 0 _ rfl rfl) rfl).trans e20
          have Q20 := Lib.hid q20
          clear q20
          clear hde hdj hev hsl hun hJ0 hdi
          go_simp
          exact { below := hJ.out.below, f0 := fun h => hJ.out.f0 h, f1 := fun h => hJ.out.f1 h, f2 := fun h => hJ.out.f2 h, f3 := fun h => hJ.out.f3 h, f4 := fun h => hJ.out.f4 h, f5 := fun h => hJ.out.f5 h, f6 := fun h => hJ.out.f6 h, f7 := fun h => hJ.out.f7 h, f8 := fun h => hJ.out.f8 h, f9 := fun h => hJ.out.f9 h, f13 := fun _ => rfl, f16 := fun h => hJ.out.f16 h, f10 := fun h => hJ.out.f10 h, f11 := fun h => hJ.out.f11 h, f12 := fun h => hJ.out.f12 h, f14 := fun h => hJ.out.f14 h, f15 := fun h => hJ.out.f15 h }
        | 14, _ =>
          obtain rfl := Option.some.inj ho
          intro a9 dn vals wx hJ0 hdi hde hdj hev hsl hun
          have hJ := Lib.hid hJ0
          rw [if_pos (wanted_none rfl)]
          have n15 : dn 15 = false := hdj 15 0 _ _ rfl rfl rfl rfl
          clear hde hdj hev hsl hun hJ0 hdi
          go_simp
          exact { below := below_keep hJ.out.below (below_alloc _ _), f0 := fun h => hJ.out.f0 h, f1 := fun h => hJ.out.f1 h, f2 := fun h => hJ.out.f2 h, f3 := fun h => hJ.out.f3 h, f4 := fun h => hJ.out.f4 h, f5 := fun h => hJ.out.f5 h, f6 := fun h => hJ.out.f6 h, f7 := fun h => hJ.out.f7 h, f8 := fun h => hJ.out.f8 h, f9 := fun h => hJ.out.f9 h, f13 := fun h => hJ.out.f13 h, f16 := fun h => hJ.out.f16 h, f10 := fun h => let ⟨b, a1, n1, c1, a2, n2, c2, q1, q2⟩ := hJ.out.f10 h; ⟨b, a1, n1, c1, a2, n2, c2, q1, fun h2 => (q2 h2).later (below_alloc _ _)⟩, f11 := fun h => let ⟨b, a1, n1, c1, a2, n2, c2, q1, q2⟩ := hJ.out.f11 h; ⟨b, a1, n1, c1, a2, n2, c2, q1, fun h2 => (q2 h2).later (below_alloc _ _)⟩, f12 := fun h => let ⟨b, a1, n1, c1, a2, n2, c2, q1, q2⟩ := hJ.out.f12 h; ⟨b, a1, n1, c1, a2, n2, c2, q1, fun h2 => (q2 h2).later (below_alloc _ _)⟩, f14 := fun _ => ⟨wx.heap.size, rfl, hJ.out.below.size, R9At.of (Res9.made wx _)⟩, f15 := fun h => Bool.noConfusion ((show dn 15 = true from h).symm.trans n15) }
        | 15, _ =>
          obtain rfl := Option.some.inj ho
          intro a9 dn vals wx hJ0 hdi hde hdj hev hsl hun
          have hJ := Lib.hid hJ0
          rw [if_pos (wanted_none rfl)]
          obtain ⟨h14, e14, l14, c14⟩ := hJ.out.f14 (hde 0 _ rfl rfl)
          have f6 : (a9.tmps[6]?).getD undef = .pointer (some ⟨h14, 0, none⟩) := (hsl 14 6 (hde 0 _ rfl rfl) rfl).trans e14
          obtain ⟨b, a1, n1, c1, a2, n2, c2, e32, q32⟩ := hJ.out.f12 (hde 1 _ rfl rfl)
          have f32 : (a9.tmps[32]?).getD undef = .agg #[.bool b, .slice a1 n1 c1, .slice a2 n2 c2] := (hsl 12 32 (hde 1 _ rfl rfl) rfl).trans e32
          have Q32 := Lib.hid q32
          clear q32
          clear hde hdj hev hsl hun hJ0 hdi
          have HC := Lib.hid c14
          obtain ⟨⟨v0, k0⟩, ⟨v1, v2, v3, k1⟩, ⟨v4, v5, v6, k2⟩, q0, q1, q2⟩ := c14
          go_simp
          exact { below := ((hJ.out.below.setCell (p := ⟨h14, 0, none⟩) l14 _).setCell (p := ⟨h14, 1, none⟩) l14 _).setCell (p := ⟨h14, 2, none⟩) l14 _, f0 := fun h => hJ.out.f0 h, f1 := fun h => hJ.out.f1 h, f2 := fun h => hJ.out.f2 h, f3 := fun h => hJ.out.f3 h, f4 := fun h => hJ.out.f4 h, f5 := fun h => hJ.out.f5 h, f6 := fun h => hJ.out.f6 h, f7 := fun h => hJ.out.f7 h, f8 := fun h => hJ.out.f8 h, f9 := fun h => hJ.out.f9 h, f13 := fun h => hJ.out.f13 h, f16 := fun h => hJ.out.f16 h, f10 := fun h => let ⟨b, a1, n1, c1, a2, n2, c2, q1, q2⟩ := hJ.out.f10 h; ⟨b, a1, n1, c1, a2, n2, c2, q1, fun h2 => (q2 h2).setNine HC.out _ _ _⟩, f11 := fun h => let ⟨b, a1, n1, c1, a2, n2, c2, q1, q2⟩ := hJ.out.f11 h; ⟨b, a1, n1, c1, a2, n2, c2, q1, fun h2 => (q2 h2).setNine HC.out _ _ _⟩, f12 := fun h => let ⟨b, a1, n1, c1, a2, n2, c2, q1, q2⟩ := hJ.out.f12 h; ⟨b, a1, n1, c1, a2, n2, c2, q1, fun h2 => (q2 h2).setNine HC.out _ _ _⟩, f14 := fun _ => ⟨h14, e14, l14, ⟨⟨_, (HC.out.cells _ _ _).1⟩, ⟨_, _, _, (HC.out.cells _ _ _).2.1⟩, ⟨_, _, _, (HC.out.cells _ _ _).2.2⟩, by simp only [World.frozen?_setCell]; exact HC.out.f0, by simp only [World.frozen?_setCell]; exact HC.out.f1, by simp only [World.frozen?_setCell]; exact HC.out.f2⟩⟩, f15 := fun _ => ⟨h14, e14, l14, b, a1, n1, c1, a2, n2, c2, HC.out.cells _ _ _, fun h2 => (Q32.out h2).setNine HC.out _ _ _⟩ }
        | 16, _ =>
          obtain rfl := Option.some.inj ho
          intro a9 dn vals wx hJ0 hdi hde hdj hev hsl hun
          have hJ := Lib.hid hJ0
          rw [if_pos (wanted_none rfl)]
          have f33 : (a9.tmps[33]?).getD undef = .int .i64 ec := (hsl 13 33 (hde 0 _ rfl rfl) rfl).trans (hJ.out.f13 (hde 0 _ rfl rfl))
          clear hde hdj hev hsl hun hJ0 hdi
          go_simp
          exact { below := hJ.out.below, f0 := fun h => hJ.out.f0 h, f1 := fun h => hJ.out.f1 h, f2 := fun h => hJ.out.f2 h, f3 := fun h => hJ.out.f3 h, f4 := fun h => hJ.out.f4 h, f5 := fun h => hJ.out.f5 h, f6 := fun h => hJ.out.f6 h, f7 := fun h => hJ.out.f7 h, f8 := fun h => hJ.out.f8 h, f9 := fun h => hJ.out.f9 h, f13 := fun h => hJ.out.f13 h, f16 := fun _ => rfl, f10 := fun h => hJ.out.f10 h, f11 := fun h => hJ.out.f11 h, f12 := fun h => hJ.out.f12 h, f14 := fun h => hJ.out.f14 h, f15 := fun h => hJ.out.f15 h }
      · intro dn vals wx hall hJ
        have g0 : vals 0 = .slice (some ⟨g, o, none⟩) n cap := hJ.f0 (hall 0 (by decide))
        have g1 : vals 1 = .int .i64 (i : Nat) := hJ.f1 (hall 1 (by decide))
        have g2 : vals 2 = .pointer (some ⟨g, o + i * 2, none⟩) := hJ.f2 (hall 2 (by decide))
        have g3 : vals 3 = .pointer (some ⟨g, o + i * 2, none⟩) := hJ.f3 (hall 3 (by decide))
        have g4 : vals 4 = .int .i64 Ni := hJ.f4 (hall 4 (by decide))
        have g5 : vals 5 = .slice (some ⟨g, o, none⟩) n cap := hJ.f5 (hall 5 (by decide))
        have g6 : vals 6 = .int .i64 (i : Nat) := hJ.f6 (hall 6 (by decide))
        have g7 : vals 7 = .pointer (some ⟨g, o + i * 2, none⟩) := hJ.f7 (hall 7 (by decide))
        have g8 : vals 8 = .pointer (some ⟨g, o + i * 2 + 1, none⟩) := hJ.f8 (hall 8 (by decide))
        have g9 : vals 9 = .int .i64 Di := hJ.f9 (hall 9 (by decide))
        have g13 : vals 13 = .int .i64 ec := hJ.f13 (hall 13 (by decide))
        have g16 : vals 16 = .int .i64 ec := hJ.f16 (hall 16 (by decide))
        obtain ⟨h14, g14, l14, b, a1, n1, c1, a2, n2, c2, q14, q15⟩ := hJ.f15 (hall 15 (by decide))
        have HWx := Lib.hid hJ.below
        have HC8 := Lib.hid q14
        have HQ8 := Lib.hid q15
        have HL8 := Lib.hid l14
        simp only [putDs, Act.put, Nat.zero_add, Nat.reduceAdd, List.setIfInBounds_toArray, List.set_cons_succ, List.set_cons_zero, g0, g1, g2, g3, g4, g5, g6, g7, g8, g9, g13, g16, g14]
        clear g0 g1 g2 g3 g4 g5 g6 g7 g8 g9 g13 g16 g14 q14 q15 l14 hJ hall
        by_cases hd : Di = 0
        · have he : ec = 2 := by rw [HEC.out, if_pos hd]
          have he1 : (ec != 0) = true := by rw [he]; rfl
          have HSx := Lib.hid (HS.out.later HWx.out)
          have HKI : Hid (k ≤ i) := HHI.out
          clear he HEC HOK HQ0 C8 HCN HRG hd
          go_wp2
          have hk9 : k ≤ i + 1 := by have := HKI.out; omega
          exact ⟨⟨i + 1, k, es, qs, cs, by omega, hk9, rfl, HSx, HBD⟩, by show n - (i + 1) < n - i; omega⟩
        · have he : ec = 0 := by rw [HEC.out, if_neg hd]
          have he1 : (ec != 0) = false := by rw [he]; rfl
          have hokt : ok = true := by rw [HOK.out, decide_eq_true_eq]; exact hd
          have HQ := Lib.hid (HQ8.out hokt)
          have C10 := Lib.hid (fun w1 => HQ0.out ▸ ofF_any Ni Di w1 HRG.out.1 HRG.out.2.1 HRG.out.2.2.1 HRG.out.2.2.2 hd)
          have HBQ : Hid (Bd 64 q0) := by show Bd _ _; rw [HQ0.out]; exact Bd.i64 HRG.out.1 HRG.out.2.1 HRG.out.2.2.1 HRG.out.2.2.2 hd
          obtain ⟨W9, hW9⟩ : ∃ W9, W9 = wx := ⟨_, rfl⟩
          have HB9 : Hid (Below wr.heap.size wr W9) := hW9 ▸ HWx.out
          rw [← hW9] at HC8 HQ
          rw [← hW9]
          clear he HEC HOK HQ0 C8 hokt hd HQ8 hW9 HRG HWx
          go_wp2_with fail
          refine wp_region_list [.val (.slice (some ⟨g, o, none⟩) n cap), .val (.int .i64 (i : Nat)), .val (.pointer (some ⟨g, o + i * 2, none⟩)), .val (.pointer (some ⟨g, o + i * 2, none⟩)), .val (.int .i64 Ni), .val (.slice (some ⟨g, o, none⟩) n cap), .val (.int .i64 (i : Nat)), .val (.pointer (some ⟨g, o + i * 2, none⟩)), .val (.pointer (some ⟨g, o + i * 2 + 1, none⟩)), .val (.int .i64 Di), .holds (fun u w' => ∃ e9, u = .tuple #[.pointer (some ⟨e9, 0, none⟩), .int .i64 0] ∧ W9.heap.size ≤ e9 ∧ IsR w' (.pointer (some ⟨e9, 0, none⟩)) q0), .holds (fun u w' => ∃ e9, u = .tuple #[.pointer (some ⟨e9, 0, none⟩), .int .i64 0] ∧ W9.heap.size ≤ e9 ∧ IsR w' (.pointer (some ⟨e9, 0, none⟩)) q0), .holds (fun u w' => ∃ e9, u = .pointer (some ⟨e9, 0, none⟩) ∧ W9.heap.size ≤ e9 ∧ IsR w' (.pointer (some ⟨e9, 0, none⟩)) q0), .val (.int .i64 0), .holds (fun u w' => ∃ e9, u = .pointer (some ⟨e9, 0, none⟩) ∧ W9.heap.size ≤ e9 ∧ IsR w' (.pointer (some ⟨e9, 0, none⟩)) q0), .val (.int .i64 0)]
            [some 37, some 38, some 39, some 40, some 41, some 42, some 43, some 44, some 45, some 46, some 47, some 36, some 48, some 49, some 8, some 9]
            (fun w' => Below W9.heap.size W9 w') (fun w1 w2 => Below w1.heap.size w1 w2) rfl (by kernel_rfl) (by kernel_rfl) (by kernel_rfl) (by kernel_rfl) ?_ ?_ ?_ ?_
          · (intro y9 hy9 v w1 w2 hs hv; simp only [List.mem_cons, List.not_mem_nil, or_false] at hy9; rcases hy9 with rfl | rfl | rfl | rfl | rfl | rfl | rfl | rfl | rfl | rfl | rfl | rfl | rfl | rfl | rfl | rfl; all_goals first | exact hv | (obtain ⟨e9, q1, q2, q3⟩ := hv; exact ⟨e9, q1, q2, q3.later hs⟩))
          · exact (Below.refl _ _).drew
          · intro i9 op9 ho
            have hi : i9 < 16 := (Array.getElem?_eq_some_iff.1 ho).1
            match i9, hi with
            | 0, _ =>
              obtain rfl := Option.some.inj ho
              intro a9 wx hBx hev haf
              rw [if_pos (wanted_none rfl)]
              have f0 : (a9.tmps[0]?).getD undef = (.slice (some ⟨g, o, none⟩) n cap) := hev 0 (by kernel_rfl)
              clear haf hev
              go_simp
              exact ⟨rfl, Below.refl _ _, hBx⟩
            | 1, _ =>
              obtain rfl := Option.some.inj ho
              intro a9 wx hBx hev haf
              rw [if_pos (wanted_none rfl)]
              have f5 : (a9.tmps[5]?).getD undef = (.int .i64 (i : Nat)) := hev 5 (by kernel_rfl)
              clear haf hev
              go_simp
              exact ⟨rfl, Below.refl _ _, hBx⟩
            | 2, _ =>
              obtain rfl := Option.some.inj ho
              intro a9 wx hBx hev haf
              rw [if_pos (wanted_none rfl)]
              have f37 : (a9.tmps[37]?).getD undef = (.slice (some ⟨g, o, none⟩) n cap) := haf 0 _ rfl rfl 37 rfl
              have f38 : (a9.tmps[38]?).getD undef = (.int .i64 (i : Nat)) := haf 1 _ rfl rfl 38 rfl
              clear haf hev
              go_simp
              exact ⟨rfl, Below.refl _ _, hBx⟩
            | 3, _ =>
              obtain rfl := Option.some.inj ho
              intro a9 wx hBx hev haf
              rw [if_pos (wanted_none rfl)]
              have f39 : (a9.tmps[39]?).getD undef = (.pointer (some ⟨g, o + i * 2, none⟩)) := haf 0 _ rfl rfl 39 rfl
              clear haf hev
              go_simp
              exact ⟨rfl, Below.refl _ _, hBx⟩
            | 4, _ =>
              obtain rfl := Option.some.inj ho
              intro a9 wx hBx hev haf
              rw [if_pos (wanted_none rfl)]
              have f40 : (a9.tmps[40]?).getD undef = (.pointer (some ⟨g, o + i * 2, none⟩)) := haf 0 _ rfl rfl 40 rfl
              clear haf hev
              have k0 := (HCN.out _ (below_keep HB9.out hBx)).1
              go_simp
              exact ⟨rfl, Below.refl _ _, hBx⟩
            | 5, _ =>
              obtain rfl := Option.some.inj ho
              intro a9 wx hBx hev haf
              rw [if_pos (wanted_none rfl)]
              have f0 : (a9.tmps[0]?).getD undef = (.slice (some ⟨g, o, none⟩) n cap) := hev 0 (by kernel_rfl)
              clear haf hev
              go_simp
              exact ⟨rfl, Below.refl _ _, hBx⟩
            | 6, _ =>
              obtain rfl := Option.some.inj ho
              intro a9 wx hBx hev haf
              rw [if_pos (wanted_none rfl)]
              have f5 : (a9.tmps[5]?).getD undef = (.int .i64 (i : Nat)) := hev 5 (by kernel_rfl)
              clear haf hev
              go_simp
              exact ⟨rfl, Below.refl _ _, hBx⟩
            | 7, _ =>
              obtain rfl := Option.some.inj ho
              intro a9 wx hBx hev haf
              rw [if_pos (wanted_none rfl)]
              have f42 : (a9.tmps[42]?).getD undef = (.slice (some ⟨g, o, none⟩) n cap) := haf 0 _ rfl rfl 42 rfl
              have f43 : (a9.tmps[43]?).getD undef = (.int .i64 (i : Nat)) := haf 1 _ rfl rfl 43 rfl
              clear haf hev
              go_simp
              exact ⟨rfl, Below.refl _ _, hBx⟩
            | 8, _ =>
              obtain rfl := Option.some.inj ho
              intro a9 wx hBx hev haf
              rw [if_pos (wanted_none rfl)]
              have f44 : (a9.tmps[44]?).getD undef = (.pointer (some ⟨g, o + i * 2, none⟩)) := haf 0 _ rfl rfl 44 rfl
              clear haf hev
              go_simp
              exact ⟨rfl, Below.refl _ _, hBx⟩
            | 9, _ =>
              obtain rfl := Option.some.inj ho
              intro a9 wx hBx hev haf
              rw [if_pos (wanted_none rfl)]
              have f45 : (a9.tmps[45]?).getD undef = (.pointer (some ⟨g, o + i * 2 + 1, none⟩)) := haf 0 _ rfl rfl 45 rfl
              clear haf hev
              have k1 := (HCN.out _ (below_keep HB9.out hBx)).2
              go_simp
              exact ⟨rfl, Below.refl _ _, hBx⟩
            | 10, _ =>
              obtain rfl := Option.some.inj ho
              intro a9 wx hBx hev haf
              rw [if_pos (wanted_none rfl)]
              have f41 : (a9.tmps[41]?).getD undef = (.int .i64 Ni) := haf 0 _ rfl rfl 41 rfl
              have f46 : (a9.tmps[46]?).getD undef = (.int .i64 Di) := haf 1 _ rfl rfl 46 rfl
              clear haf hev
              go_simp
              exact (C10.out wx).mono fun e w' ⟨g9, he, hg, hr, hb⟩ => ⟨_, he, ⟨g9, rfl, Nat.le_trans hBx.size hg, hr⟩, hb, below_keep hBx hb⟩
            | 11, _ =>
              obtain rfl := Option.some.inj ho
              intro a9 wx hBx hev haf
              rw [if_pos (wanted_none rfl)]
              have f47 := Lib.hid (haf 0 _ rfl rfl 47 rfl)
              clear haf hev
              obtain ⟨e9, q1, q2, q3⟩ := f47.out
              have Q3 := Lib.hid q3
              clear q3
              go_simp
              exact ⟨⟨e9, rfl, q2, Q3.out⟩, Below.refl _ _, hBx⟩
            | 12, _ =>
              obtain rfl := Option.some.inj ho
              intro a9 wx hBx hev haf
              rw [if_pos (wanted_none rfl)]
              have f36 := Lib.hid (haf 0 _ rfl rfl 36 rfl)
              clear haf hev
              obtain ⟨e9, q1, q2, q3⟩ := f36.out
              have Q3 := Lib.hid q3
              clear q3
              go_simp
              exact ⟨⟨e9, rfl, q2, Q3.out⟩, Below.refl _ _, hBx⟩
            | 13, _ =>
              obtain rfl := Option.some.inj ho
              intro a9 wx hBx hev haf
              rw [if_pos (wanted_none rfl)]
              have f36 := Lib.hid (haf 0 _ rfl rfl 36 rfl)
              clear haf hev
              obtain ⟨e9, q1, q2, q3⟩ := f36.out
              have Q3 := Lib.hid q3
              clear q3
              go_simp
              exact ⟨rfl, Below.refl _ _, hBx⟩
            | 14, _ =>
              obtain rfl := Option.some.inj ho
              intro a9 wx hBx hev haf
              rw [if_pos (wanted_none rfl)]
              have f48 := Lib.hid (haf 0 _ rfl rfl 48 rfl)
              clear haf hev
              obtain ⟨e9, q1, q2, q3⟩ := f48.out
              have Q3 := Lib.hid q3
              clear q3
              go_simp
              exact ⟨⟨e9, rfl, q2, Q3.out⟩, Below.refl _ _, hBx⟩
            | 15, _ =>
              obtain rfl := Option.some.inj ho
              intro a9 wx hBx hev haf
              rw [if_pos (wanted_none rfl)]
              have f49 : (a9.tmps[49]?).getD undef = (.int .i64 0) := haf 0 _ rfl rfl 49 rfl
              clear haf hev
              go_simp
              exact ⟨rfl, Below.refl _ _, hBx⟩
          · intro vals wx hBx hG
            have g0 : vals 0 = (.slice (some ⟨g, o, none⟩) n cap) := hG 0 (by decide)
            have g1 : vals 1 = (.int .i64 (i : Nat)) := hG 1 (by decide)
            have g2 : vals 2 = (.pointer (some ⟨g, o + i * 2, none⟩)) := hG 2 (by decide)
            have g3 : vals 3 = (.pointer (some ⟨g, o + i * 2, none⟩)) := hG 3 (by decide)
            have g4 : vals 4 = (.int .i64 Ni) := hG 4 (by decide)
            have g5 : vals 5 = (.slice (some ⟨g, o, none⟩) n cap) := hG 5 (by decide)
            have g6 : vals 6 = (.int .i64 (i : Nat)) := hG 6 (by decide)
            have g7 : vals 7 = (.pointer (some ⟨g, o + i * 2, none⟩)) := hG 7 (by decide)
            have g8 : vals 8 = (.pointer (some ⟨g, o + i * 2 + 1, none⟩)) := hG 8 (by decide)
            have g9 : vals 9 = (.int .i64 Di) := hG 9 (by decide)
            have g10 := hG 10 (by decide)
            have g11 := hG 11 (by decide)
            have g12 := hG 12 (by decide)
            have g13 : vals 13 = (.int .i64 0) := hG 13 (by decide)
            have g14 := hG 14 (by decide)
            have g15 : vals 15 = (.int .i64 0) := hG 15 (by decide)
            clear hG
            simp only [putDs, Act.put, Nat.zero_add, Nat.reduceAdd, List.setIfInBounds_toArray, List.set_cons_succ, List.set_cons_zero, g0, g1, g2, g3, g4, g5, g6, g7, g8, g9, g13, g15]
            clear g0 g1 g2 g3 g4 g5 g6 g7 g8 g9 g13 g15
            obtain ⟨e9, x9, le9, hr9⟩ := g14
            have HP := Lib.hid (SmS.more (e := e9) (q := q0) (c := (.bool b, .slice a1 n1 c1, .slice a2 n2 c2)) (HS.out.later (below_keep HB9.out hBx)) hr9 (HQ.out.later hBx) (fun h => by
              have := (HS.out.rown.lt _ h).2
              have h3 := HB9.out.size
              omega))
            have HX8 := Lib.hid (HC8.out.later hBx)
            clear g10 g11 g12 hr9 HC8 HQ
            rw [x9]
            clear x9
            go_wp2_with fail
            obtain ⟨es9, hes⟩ : ∃ z, z = putV es k e9 := ⟨_, rfl⟩
            obtain ⟨qs9, hqs⟩ : ∃ z, z = putV qs k q0 := ⟨_, rfl⟩
            obtain ⟨cs9, hcs⟩ : ∃ z : Nat → Cel3, z = putV cs k (.bool b, .slice a1 n1 c1, .slice a2 n2 c2) := ⟨_, rfl⟩
            rw [← hes, ← hqs, ← hcs] at HP
            have HS9 := HP
            have he9 : es9 k = e9 := by rw [hes]; exact putV_same _ _ _
            have HCK : Hid (∃ cb ca1 cn1 cc1 ca2 cn2 cc2, cs9 k = (.bool cb, .slice ca1 cn1 cc1, .slice ca2 cn2 cc2)) := ⟨_, _, _, _, _, _, _, by rw [hcs]; exact putV_same _ _ _⟩
            have HCB : Hid (∃ cb, (cs9 k).1 = .bool cb) := ⟨_, by rw [hcs, putV_same]⟩
            have HX9 : Hid (Cl3 wx h14 (cs9 k).1 (cs9 k).2.1 (cs9 k).2.2) := by show Cl3 _ _ _ _ _; rw [hcs, putV_same]; exact HX8.out
            have HB64 : Hid (∀ j, Bd 64 (qs9 j)) := fun j => by
              rw [hqs]
              by_cases e : j = k
              · subst e; rw [putV_same]; exact HBQ.out
              · rw [putV_other _ _ e]; exact HBD.out j
            rw [← he9]
            clear he9 hes hqs hcs
            have hk40 : k ≤ 40 := by have := HHI.out; omega
            refine wp_region_inv [some 52, some 53, some 54, some 55, some 56, some 57, some 58, some 59, some 3, some 4] (SaJ w u3 u4 k h14 es9 qs9 cs9) rfl (by kernel_rfl) (by kernel_rfl) (by kernel_rfl) (by kernel_rfl) ?_ ?_ ?_
            · exact { st00 := fun _ _ => HS9.out.later (Below.refl _ _).drew, st10 := fun h _ => Bool.noConfusion h, st11 := fun h => Bool.noConfusion h, box := fun _ => HX9.out.later (Below.refl _ _).drew, f0 := fun h => Bool.noConfusion h, f1 := fun h => Bool.noConfusion h, f4 := fun h => Bool.noConfusion h, f5 := fun h => Bool.noConfusion h, f2 := fun h _ => Bool.noConfusion h, f6 := fun h _ => Bool.noConfusion h, f3 := fun h => Bool.noConfusion h, f7 := fun h => Bool.noConfusion h, f8 := fun h => Bool.noConfusion h, f9 := fun h => Bool.noConfusion h, c76 := fun h => Bool.noConfusion h }
            · intro i9 op9 ho
              have hi : i9 < 10 := (Array.getElem?_eq_some_iff.1 ho).1
              match i9, hi with
              | 0, _ =>
                obtain rfl := Option.some.inj ho
                intro a9 dn vals wx hJ0 hdi hde hdj hev hsl hun
                have hJ := Lib.hid hJ0
                rw [if_pos (wanted_none rfl)]
                have f3 : (a9.tmps[3]?).getD undef = u3 := hun 8 3 (hdj 8 2 _ _ rfl rfl rfl rfl) rfl
                clear hde hdj hev hsl hun hJ0
                go_simp
                exact { st00 := fun h h2 => hJ.out.st00 h h2, st10 := fun h h2 => hJ.out.st10 h h2, st11 := fun h => hJ.out.st11 h, box := fun h => hJ.out.box h, f0 := fun _ => rfl, f1 := fun h => hJ.out.f1 h, f4 := fun h => hJ.out.f4 h, f5 := fun h => hJ.out.f5 h, f2 := fun h h2 => hJ.out.f2 h h2, f6 := fun h h2 => hJ.out.f6 h h2, f3 := fun h => hJ.out.f3 h, f7 := fun h => hJ.out.f7 h, f8 := fun h => hJ.out.f8 h, f9 := fun h => hJ.out.f9 h, c76 := fun h => hJ.out.c76 h }
              | 1, _ =>
                obtain rfl := Option.some.inj ho
                intro a9 dn vals wx hJ0 hdi hde hdj hev hsl hun
                have hJ := Lib.hid hJ0
                rw [if_pos (wanted_none rfl)]
                have f8 : (a9.tmps[8]?).getD undef = .pointer (some ⟨es9 k, 0, none⟩) := hev 8 (by kernel_rfl)
                clear hde hdj hev hsl hun hJ0
                go_simp
                exact { st00 := fun h h2 => hJ.out.st00 h h2, st10 := fun h h2 => hJ.out.st10 h h2, st11 := fun h => hJ.out.st11 h, box := fun h => hJ.out.box h, f0 := fun h => hJ.out.f0 h, f1 := fun _ => rfl, f4 := fun h => hJ.out.f4 h, f5 := fun h => hJ.out.f5 h, f2 := fun h h2 => hJ.out.f2 h h2, f6 := fun h h2 => hJ.out.f6 h h2, f3 := fun h => hJ.out.f3 h, f7 := fun h => hJ.out.f7 h, f8 := fun h => hJ.out.f8 h, f9 := fun h => hJ.out.f9 h, c76 := fun h => hJ.out.c76 h }
              | 2, _ =>
                obtain rfl := Option.some.inj ho
                intro a9 dn vals wx hJ0 hdi hde hdj hev hsl hun
                have hJ := Lib.hid hJ0
                rw [if_pos (wanted_none rfl)]
                have f53 : (a9.tmps[53]?).getD undef = .pointer (some ⟨es9 k, 0, none⟩) := (hsl 1 53 (hde 0 _ rfl rfl) rfl).trans (hJ.out.f1 (hde 0 _ rfl rfl))
                clear hde hdj hev hsl hun hJ0
                go_simp
                exact { st00 := fun h h2 => (hJ.out.st00 h h2).later (below_alloc _ _), st10 := fun h h2 => (hJ.out.st10 h h2).later (below_alloc _ _), st11 := fun h => (hJ.out.st11 h).later (below_alloc _ _), box := fun h => (hJ.out.box h).later (below_alloc _ _), f0 := fun h => hJ.out.f0 h, f1 := fun h => hJ.out.f1 h, f4 := fun h => hJ.out.f4 h, f5 := fun h => hJ.out.f5 h, f2 := fun _ _ => ⟨wx.heap.size, rfl, by rw [World.cell?_alloc_at _ _ _ _ rfl]; rfl⟩, f6 := fun h h2 => let ⟨q, q1, q2⟩ := hJ.out.f6 h h2; ⟨q, q1, q2.later (below_alloc _ _)⟩, f3 := fun h => hJ.out.f3 h, f7 := fun h => hJ.out.f7 h, f8 := fun h => hJ.out.f8 h, f9 := fun h => hJ.out.f9 h, c76 := fun h => hJ.out.c76 h }
              | 3, _ =>
                obtain rfl := Option.some.inj ho
                intro a9 dn vals wx hJ0 hdi hde hdj hev hsl hun
                have hJ := Lib.hid hJ0
                rw [if_pos (wanted_none rfl)]
                have N8 : Hid (dn 8 = false) := hdj 8 0 _ _ rfl rfl rfl rfl
                have f52 : (a9.tmps[52]?).getD undef = u3 := (hsl 0 52 (hde 0 _ rfl rfl) rfl).trans (hJ.out.f0 (hde 0 _ rfl rfl))
                obtain ⟨b2, e2, q2⟩ := hJ.out.f2 (hde 1 _ rfl rfl) hdi
                have f54 : (a9.tmps[54]?).getD undef = .slice (some ⟨b2, 0, none⟩) 1 1 := (hsl 2 54 (hde 1 _ rfl rfl) rfl).trans e2
                have n7 : dn 7 = false := hdj 7 2 _ _ rfl rfl rfl rfl
                have hS := hJ.out.st00 hdi n7
                obtain ⟨i0, hi0, hz0, hz1, hz2⟩ := info_parts info22p
                obtain ⟨g9, cap9, w9, hrun, hown, hgr, hat, hlt⟩ := run_append_lies (P := Tryz.prog) (w := wx) 72 72 w.heap.size 22 i0 (.pointer none) 1 8 Tryz.underlying72 hi0 hz0 hz1 hz2 rfl (by decide) u3 k _ hS.xown ⟨b2, 0, none⟩ 1 1 [.pointer (some ⟨es9 k, 0, none⟩)] rfl (fun j u hj => by
                  match j, hj with
                  | 0, hj => simp at hj; subst hj; exact q2) (fun u hu => by simp at hu; subst hu; rfl) (by decide) (by have := hk40; unfold maxLen; omega) (by have := hk40; omega) hS.below.size _ rfl
                have hS2 := hS.putX (xv' := .slice (some ⟨g9, 0, none⟩) (k + 1) cap9) (by omega) hown hgr
                have hbx := (hJ.out.box n7).grown hgr HCB.out hS.xfirst
                have HRUN := Lib.hid hrun
                have HS2 := Lib.hid hS2
                have HBX := Lib.hid hbx
                have HGR := Lib.hid hgr
                have HXF := Lib.hid hS.xfirst
                have N7 := Lib.hid n7
                clear hde hdj hev hsl hun hJ0 hdi hrun hown hgr hat hlt hS hS2 hbx q2 e2 n7
                refine does_append (s := .tmp 52) (x := .tmp 54) (T := 72) rfl (by rw [eval_tmp]; exact f52) (by rw [eval_tmp]; exact f54) HRUN.out ?_
                exact { st00 := fun h _ => Bool.noConfusion h, st10 := fun _ _ => HS2.out, st11 := fun h => Bool.noConfusion ((show dn 7 = true from h).symm.trans N7.out), box := fun _ => HBX.out, f0 := fun h => hJ.out.f0 h, f1 := fun h => hJ.out.f1 h, f4 := fun h => hJ.out.f4 h, f5 := fun h => hJ.out.f5 h, f2 := fun _ h => Bool.noConfusion h, f6 := fun h h2 => let ⟨q, q1, q2⟩ := hJ.out.f6 h h2; ⟨q, q1, q2.grown HGR.out HCB.out HXF.out⟩, f3 := fun _ => ⟨g9, cap9, rfl⟩, f7 := fun h => hJ.out.f7 h, f8 := fun h => absurd (show dn 8 = true from h) (by rw [N8.out]; decide), f9 := fun h => hJ.out.f9 h, c76 := fun h => hJ.out.c76 h }
              | 4, _ =>
                obtain rfl := Option.some.inj ho
                intro a9 dn vals wx hJ0 hdi hde hdj hev hsl hun
                have hJ := Lib.hid hJ0
                rw [if_pos (wanted_none rfl)]
                have f4 : (a9.tmps[4]?).getD undef = u4 := hun 9 4 (hdj 9 6 _ _ rfl rfl rfl rfl) rfl
                clear hde hdj hev hsl hun hJ0
                go_simp
                exact { st00 := fun h h2 => hJ.out.st00 h h2, st10 := fun h h2 => hJ.out.st10 h h2, st11 := fun h => hJ.out.st11 h, box := fun h => hJ.out.box h, f0 := fun h => hJ.out.f0 h, f1 := fun h => hJ.out.f1 h, f4 := fun _ => rfl, f5 := fun h => hJ.out.f5 h, f2 := fun h h2 => hJ.out.f2 h h2, f6 := fun h h2 => hJ.out.f6 h h2, f3 := fun h => hJ.out.f3 h, f7 := fun h => hJ.out.f7 h, f8 := fun h => hJ.out.f8 h, f9 := fun h => hJ.out.f9 h, c76 := fun h => hJ.out.c76 h }
              | 5, _ =>
                obtain rfl := Option.some.inj ho
                intro a9 dn vals wx hJ0 hdi hde hdj hev hsl hun
                have hJ := Lib.hid hJ0
                rw [if_pos (wanted_none rfl)]
                have f6 : (a9.tmps[6]?).getD undef = .pointer (some ⟨h14, 0, none⟩) := hev 6 (by kernel_rfl)
                have n6 : dn 6 = false := hdj 6 0 _ _ rfl rfl rfl rfl
                have n7 : dn 7 = false := by
                  cases h9 : dn 7 with
                  | false => rfl
                  | true => exact absurd (hJ.out.c76 h9) (by rw [n6]; decide)
                obtain ⟨k0, k1, k2⟩ := hJ.out.box n7
                have hdi5 := Lib.hid hdi
                clear hde hdj hev hsl hun hJ0 hdi
                go_simp
                exact { st00 := fun h h2 => hJ.out.st00 h h2, st10 := fun h h2 => hJ.out.st10 h h2, st11 := fun h => hJ.out.st11 h, box := fun h => hJ.out.box h, f0 := fun h => hJ.out.f0 h, f1 := fun h => hJ.out.f1 h, f4 := fun h => hJ.out.f4 h, f5 := fun _ => rfl, f2 := fun h h2 => hJ.out.f2 h h2, f6 := fun h h2 => hJ.out.f6 h h2, f3 := fun h => hJ.out.f3 h, f7 := fun h => hJ.out.f7 h, f8 := fun h => hJ.out.f8 h, f9 := fun h => hJ.out.f9 h, c76 := fun h => hJ.out.c76 h }
              | 6, _ =>
                obtain rfl := Option.some.inj ho
                intro a9 dn vals wx hJ0 hdi hde hdj hev hsl hun
                have hJ := Lib.hid hJ0
                rw [if_pos (wanted_none rfl)]
                have f57 : (a9.tmps[57]?).getD undef = .agg #[(cs9 k).1, (cs9 k).2.1, (cs9 k).2.2] := (hsl 5 57 (hde 0 _ rfl rfl) rfl).trans (hJ.out.f5 (hde 0 _ rfl rfl))
                clear hde hdj hev hsl hun hJ0
                obtain ⟨cb, ca1, cn1, cc1, ca2, cn2, cc2, hc9⟩ := HCK.out
                rw [hc9] at f57
                go_simp
                exact { st00 := fun h h2 => (hJ.out.st00 h h2).later (below_alloc _ _), st10 := fun h h2 => (hJ.out.st10 h h2).later (below_alloc _ _), st11 := fun h => (hJ.out.st11 h).later (below_alloc _ _), box := fun h => (hJ.out.box h).later (below_alloc _ _), f0 := fun h => hJ.out.f0 h, f1 := fun h => hJ.out.f1 h, f4 := fun h => hJ.out.f4 h, f5 := fun h => hJ.out.f5 h, f2 := fun h h2 => let ⟨q, q1, q2⟩ := hJ.out.f2 h h2; ⟨q, q1, ((below_alloc _ _).cell (p := ⟨q, 0, none⟩) (World.block_lt_of_cell? _ ⟨q, 0, none⟩ q2)).trans q2⟩, f6 := fun _ _ => ⟨wx.heap.size, rfl, by rw [hc9]; refine ⟨?_, ?_, ?_⟩ <;> (rw [World.cell?_alloc_at _ _ _ _ rfl]; rfl)⟩, f3 := fun h => hJ.out.f3 h, f7 := fun h => hJ.out.f7 h, f8 := fun h => hJ.out.f8 h, f9 := fun h => hJ.out.f9 h, c76 := fun _ => rfl }
              | 7, _ =>
                obtain rfl := Option.some.inj ho
                intro a9 dn vals wx hJ0 hdi hde hdj hev hsl hun
                have hJ := Lib.hid hJ0
                rw [if_pos (wanted_none rfl)]
                have N9 : Hid (dn 9 = false) := hdj 9 0 _ _ rfl rfl rfl rfl
                have f56 : (a9.tmps[56]?).getD undef = u4 := (hsl 4 56 (hde 0 _ rfl rfl) rfl).trans (hJ.out.f4 (hde 0 _ rfl rfl))
                have d3 : dn 3 = true := hde 2 _ rfl rfl
                obtain ⟨b6, e6, q6⟩ := hJ.out.f6 (hde 1 _ rfl rfl) hdi
                have f58 : (a9.tmps[58]?).getD undef = .slice (some ⟨b6, 0, none⟩) 1 1 := (hsl 6 58 (hde 1 _ rfl rfl) rfl).trans e6
                have hS := hJ.out.st10 d3 hdi
                obtain ⟨i0, hi0, hz0, hz1, hz2⟩ := info_parts info28
                obtain ⟨g9, cap9, w9, hrun, hown, hgr, hat, hlt⟩ := run_append_lies (P := Tryz.prog) (w := wx) 73 73 w.heap.size 28 i0 (.agg #[.bool false, .slice none 0 0, .slice none 0 0]) 3 56 Tryz.underlying73 hi0 hz0 hz1 hz2 rfl (by decide) u4 k _ hS.rown ⟨b6, 0, none⟩ 1 1 [(cs9 k).1, (cs9 k).2.1, (cs9 k).2.2] rfl (fun j u hj => by
                  match j, hj with
                  | 0, hj => simp at hj; subst hj; rw [addP]; exact q6.1
                  | 1, hj => simp at hj; subst hj; rw [addP]; exact q6.2.1
                  | 2, hj => simp at hj; subst hj; rw [addP]; exact q6.2.2) (fun u hu => by
                  obtain ⟨cb, ca1, cn1, cc1, ca2, cn2, cc2, hc9⟩ := HCK.out
                  rw [hc9] at hu
                  simp at hu; rcases hu with rfl | rfl | rfl <;> rfl) (by decide) (by have := hk40; unfold maxLen; omega) (by have := hk40; omega) hS.below.size _ rfl
                have hS2 := hS.putR (rv' := .slice (some ⟨g9, 0, none⟩) (k + 1) cap9) (by omega) hown hgr (by rcases hat with h | h; exact .inl h; exact .inr (by rw [h]; rfl))
                have HRUN := Lib.hid hrun
                have HS2 := Lib.hid hS2
                have D3 := Lib.hid d3
                have D6 : Hid (dn 6 = true) := hde 1 _ rfl rfl
                clear hde hdj hev hsl hun hJ0 hdi hrun hown hgr hat hlt hS hS2 q6 e6 d3
                refine does_append (s := .tmp 56) (x := .tmp 58) (T := 73) rfl (by rw [eval_tmp]; exact f56) (by rw [eval_tmp]; exact f58) HRUN.out ?_
                exact { st00 := fun _ h => Bool.noConfusion h, st10 := fun _ h => Bool.noConfusion h, st11 := fun _ => HS2.out, box := fun h => Bool.noConfusion h, f0 := fun h => hJ.out.f0 h, f1 := fun h => hJ.out.f1 h, f4 := fun h => hJ.out.f4 h, f5 := fun h => hJ.out.f5 h, f2 := fun _ h => Bool.noConfusion ((show dn 3 = false from h).symm.trans D3.out), f6 := fun _ h => Bool.noConfusion h, f3 := fun h => hJ.out.f3 h, f7 := fun _ => ⟨g9, cap9, rfl⟩, f8 := fun h => hJ.out.f8 h, f9 := fun h => absurd (show dn 9 = true from h) (by rw [N9.out]; decide), c76 := fun _ => D6.out }
              | 8, _ =>
                obtain rfl := Option.some.inj ho
                intro a9 dn vals wx hJ0 hdi hde hdj hev hsl hun
                have hJ := Lib.hid hJ0
                rw [if_pos (wanted_none rfl)]
                have f55 : (a9.tmps[55]?).getD undef = vals 3 := hsl 3 55 (hde 0 _ rfl rfl) rfl
                clear hde hdj hev hsl hun hJ0
                go_simp
                exact { st00 := fun h h2 => hJ.out.st00 h h2, st10 := fun h h2 => hJ.out.st10 h h2, st11 := fun h => hJ.out.st11 h, box := fun h => hJ.out.box h, f0 := fun h => hJ.out.f0 h, f1 := fun h => hJ.out.f1 h, f4 := fun h => hJ.out.f4 h, f5 := fun h => hJ.out.f5 h, f2 := fun h h2 => hJ.out.f2 h h2, f6 := fun h h2 => hJ.out.f6 h h2, f3 := fun h => hJ.out.f3 h, f7 := fun h => hJ.out.f7 h, f8 := fun _ => rfl, f9 := fun h => hJ.out.f9 h, c76 := fun h => hJ.out.c76 h }
              | 9, _ =>
                obtain rfl := Option.some.inj ho
                intro a9 dn vals wx hJ0 hdi hde hdj hev hsl hun
                have hJ := Lib.hid hJ0
                rw [if_pos (wanted_none rfl)]
                have f59 : (a9.tmps[59]?).getD undef = vals 7 := hsl 7 59 (hde 0 _ rfl rfl) rfl
                clear hde hdj hev hsl hun hJ0
                go_simp
                exact { st00 := fun h h2 => hJ.out.st00 h h2, st10 := fun h h2 => hJ.out.st10 h h2, st11 := fun h => hJ.out.st11 h, box := fun h => hJ.out.box h, f0 := fun h => hJ.out.f0 h, f1 := fun h => hJ.out.f1 h, f4 := fun h => hJ.out.f4 h, f5 := fun h => hJ.out.f5 h, f2 := fun h h2 => hJ.out.f2 h h2, f6 := fun h h2 => hJ.out.f6 h h2, f3 := fun h => hJ.out.f3 h, f7 := fun h => hJ.out.f7 h, f8 := fun h => hJ.out.f8 h, f9 := fun _ => rfl, c76 := fun h => hJ.out.c76 h }
            · intro dn vals wx hall hJ
              have hS := hJ.st11 (hall 7 (by decide))
              have g0 := hJ.f0 (hall 0 (by decide))
              have g1 := hJ.f1 (hall 1 (by decide))
              have g4 := hJ.f4 (hall 4 (by decide))
              have g5 := hJ.f5 (hall 5 (by decide))
              obtain ⟨x9, xc9, g3⟩ := hJ.f3 (hall 3 (by decide))
              obtain ⟨r9, rc9, g7⟩ := hJ.f7 (hall 7 (by decide))
              have g8 := hJ.f8 (hall 8 (by decide))
              have g9 := hJ.f9 (hall 9 (by decide))
              rw [g3] at g8 hS
              rw [g7] at g9 hS
              have HSx := Lib.hid hS
              simp only [putDs, Act.put, Nat.zero_add, Nat.reduceAdd, List.setIfInBounds_toArray, List.set_cons_succ, List.set_cons_zero, g0, g1, g3, g4, g5, g7, g8, g9]
              clear g0 g1 g3 g4 g5 g7 g8 g9 hS hJ hall
              have hk9 : k + 1 ≤ i + 1 := by have := HHI.out; omega
              go_wp2
              exact ⟨⟨i + 1, k + 1, es9, qs9, cs9, by omega, hk9, rfl, HSx, HB64⟩, by show n - (i + 1) < n - i; omega⟩
    · obtain rfl : i = n := by omega
      have hk40 : k ≤ 40 := by omega
      have S1 := Lib.hid (sum_any u3 k 64 _ qs wr (by omega) (by omega) HS.out.pts HS.out.num (fun j _ => HBD.out j))
      have S2 := Lib.hid (fun w1 (hb : Below wr.heap.size wr w1) => sum9_any u4 k 64 qs w1 (by omega) (by omega) ((HS.out.later hb).rts) HBD.out)
      have SB : Hid (Bd 100000 (sumOf qs (upto k))) := by
        show Bd _ _
        have := sumOf_bd HBD.out (upto k)
        rw [upto_length] at this
        exact this.mono (by have : (64 + 1) * k ≤ 65 * 40 := Nat.mul_le_mul (by omega) hk40; omega)
      have SM := Lib.hid (fun w1 x y (h1 : IsR w1 x (sumOf qs (upto k))) (h2 : Q9 w1 y (sumOf qs (upto k))) => same_any h1 h2 SB.out (by omega))
      have HB := Lib.hid HS.out.below
      clear HS HBD hki hk40 SB
      go_wp2_with fail
      refine S1.out.mono ?_
      rintro e w1 ⟨x1, rfl, hx1, hb1⟩
      have X1 := Lib.hid hx1
      have B1 := Lib.hid hb1
      clear hb1 S1
      obtain ⟨gx, vnx, vdx, rfl, -⟩ := hx1
      go_wp2_with fail
      refine (S2.out _ B1.out).mono ?_
      rintro e w2 ⟨x2, rfl, hx2, hb2⟩
      have C3 := Lib.hid (SM.out _ _ _ (X1.out.later hb2) hx2)
      have B2 := Lib.hid (below_keep (below_keep HB.out B1.out) hb2)
      obtain ⟨vn, vd, rfl, hn, hd⟩ := hx2
      clear hb2 S2 SM hn hd
      go_wp2_with fail
      refine C3.out.mono ?_
      rintro e w3 ⟨rfl, hb3⟩
      have B3 := Lib.hid (below_keep B2.out hb3)
      have C4 := Lib.hid (HM.out _ B3.out)
      clear hb3 C3
      go_wp2_with fail
      refine C4.out.mono ?_
      rintro e w4 ⟨rfl, hb4⟩
      have B4 := Lib.hid (below_keep B3.out hb4)
      clear hb4
      go_wp2
      go_ret
      exact ⟨rfl, B4.out⟩
theorem sumsDoc_any (a : Option Addr) (n cap : Nat) (N D : Nat → Int) (w : World) (hm : Ml w) (h1 : n ≤ cap) (l1 : cap ≤ maxLen) (pa : PairsAt w a n N D) :
    Calls Tryz.prog 14 #[.slice a n cap] w (RetV (.bool true) w) := by
  unfold maxLen at l1
  by_cases hs : n ≤ 40
  · refine sums_core a n cap N D w hm hs h1 l1 (fun h0 => ?_) (fun i hi => let ⟨_, _, _, _, h7⟩ := pa i hi; h7)
    obtain ⟨ad, rfl, h3, -⟩ := pa 0 h0
    have hsp : ad.spot = none := by
      have h4 : w.cell? ad = some (.int .i64 (N 0)) := by simpa [Addr.add] using h3
      unfold World.cell? at h4
      cases hsp : ad.spot with
      | none => rfl
      | some x =>
        rw [hsp] at h4
        split at h4
        · simp at h4
        · cases h4
    obtain ⟨g, o, s⟩ := ad
    simp only at hsp
    subst hsp
    refine ⟨g, o, rfl, fun i hi => ?_⟩
    obtain ⟨ad', e, h5, h6, -⟩ := pa i hi
    cases e
    rw [Addr.add_mid] at h5 h6
    exact ⟨h5, by rw [Nat.add_assoc]; exact h6⟩
  · exact sums_big a n cap w hm (by omega)
end Go.Proofs.YtemhidlaaommaaaGreatDoor
