/- Lemmas and contracts, each under its own condition: Boxes: Has, of the program and of the reference. Boxes: the common part in plain words. -/
import Derived.BigQuiet
import Derived.Test.YtkliekoheeeamaaGreatDoorS10
import Derived.Test.YtkliekoheeeamaaGreatDoorS11
/- Boxes: Has, of the program and of the reference. -/
namespace Go.Proofs.YtkliekoheeeamaaGreatDoor
open Go.RowKit

/-- whether a coordinate is not above an upper bound -/
def upB (x h : Int) : Bool := decide (x ≤ h ∨ 1073741825 ≤ h)
theorem upTo_any (x h : Int) (w : World) : Calls Tryz.prog 61 #[.int .i64 x, .int .i64 h] w (fun e w' => e = .returned (.bool (upB x h)) ∧ w' = w) := by
 unfold upB
 by_cases h1 : x ≤ h
 ·rw [decide_eq_true (.inl h1)]
  go_enter Tryz.func61, Tryz.ntmps61
  go_wp2
  go_ret
  exact ⟨rfl, rfl⟩
 ·rw [show decide (x ≤ h ∨ 1073741825 ≤ h) = decide (1073741825 ≤ h) from by rw [decide_eq_decide]; exact ⟨fun h => h.resolve_left h1, .inr⟩]
  go_enter Tryz.func61, Tryz.ntmps61
  go_wp2
  go_ret
  exact ⟨rfl, rfl⟩
/-- whether coordinates are in a box -/
def hasL : List Int → List Int → List Int → Bool
 | l :: ls, h :: hs, x :: xs => if x < l ∨ upB x h = false then false else hasL ls hs xs
 | _, _, _ => true
def hasB (lo hi c : List Int) : Bool := formedB lo hi && decide (c.length = lo.length) && hasL lo hi c
theorem hasL_drop {lo hi c : List Int} {i : Nat} {a b x : Int} (ha : lo[i]? = some a) (hb : hi[i]? = some b) (hx : c[i]? = some x) :
  hasL (lo.drop i) (hi.drop i) (c.drop i) = if x < a ∨ upB x b = false then false else hasL (lo.drop (i + 1)) (hi.drop (i + 1)) (c.drop (i + 1)) := by
 rw [drop_cons ha, drop_cons hb, drop_cons hx, hasL]
theorem box_at (w : World) (v1 v2 : Value) : ∃ W1, W1 = w.alloc (.cells #[v1, v2] 26) ∧ Below w.heap.size w W1 ∧ ∀ w', Below W1.heap.size W1 w' → w'.cell? ⟨w.heap.size, 0, none⟩ = some v1 ∧ w'.cell? ⟨w.heap.size, 1, none⟩ = some v2 ∧ Below W1.heap.size W1 w' := by
 refine ⟨_, rfl, below_alloc _ _, fun w' hb => ?_⟩
 have hc : ∀ j, w'.cell? ⟨w.heap.size, j, none⟩ = (w.alloc (.cells #[v1, v2] 26)).cell? ⟨w.heap.size, j, none⟩ := fun j => hb.cell (p := ⟨w.heap.size, j, none⟩) (by simp)
 refine ⟨?_, ?_, hb⟩ <;> (rw [hc, World.cell?_alloc_at _ _ _ _ rfl]; rfl)
theorem has_bad (vlo vhi u : Value) (lo hi c : List Int) (w : World) (hlo : Ints w vlo lo) (hhi : Ints w vhi hi) (hc : Ints w u c) (h : formedB lo hi = false ∨ c.length ≠ lo.length) :
  Calls Tryz.prog 46 #[.agg #[vlo, vhi], u] w (RetV' (.bool false) w) := by
 have CF := Lib.hid (fun w1 (hb : Below w.heap.size w w1) => formed_any vlo vhi lo hi w1 (hlo.later IntR.lasts hb) (hhi.later IntR.lasts hb))
 obtain ⟨a1, c1, rfl, -⟩ := hlo.shape
 obtain ⟨a2, c2, rfl, -⟩ := hhi.shape
 obtain ⟨a3, c3, rfl, -⟩ := hc.shape
 obtain ⟨W1, hW1, hb1, hbx⟩ := box_at w (.slice a1 lo.length c1) (.slice a2 hi.length c2)
 have HB1 := Lib.hid hb1
 have HBX := Lib.hid hbx
 clear hlo hhi hc hb1 hbx
 cases hf : formedB lo hi with
 | false =>
  rw [hf] at CF
  clear hf h
  go_enter Tryz.func46, Tryz.ntmps46
  go_wp2_with fail
  refine (CF.out _ (below_alloc _ _)).mono ?_
  rintro e w2 ⟨rfl, hb⟩
  rw [← hW1] at hb
  have HB2 := Lib.hid hb
  clear hb hW1 CF
  go_wp2
  go_ret
  exact ⟨rfl, below_keep HB1.out HB2.out⟩
 | true =>
  have h2 : ((c.length : Int) != lo.length) = true := by
   rw [bne_iff_ne]
   rcases h with h | h
   ·rw [hf] at h; cases h
   ·omega
  rw [hf] at CF
  clear hf h
  go_enter Tryz.func46, Tryz.ntmps46
  go_wp2_with fail
  refine (CF.out _ (below_alloc _ _)).mono ?_
  rintro e w2 ⟨rfl, hb⟩
  rw [← hW1] at hb
  have HB2 := Lib.hid hb
  obtain ⟨d0, d1, -⟩ := HBX.out w2 hb
  clear hb hW1 CF
  go_wp2
  go_ret
  exact ⟨rfl, below_keep HB1.out HB2.out⟩
set_option maxHeartbeats 3200000 in
set_option maxRecDepth 100000 in
theorem has_core (vlo vhi u : Value) (lo hi c : List Int) (w : World) (hlo : Ints w vlo lo) (hhi : Ints w vhi hi) (hc : Ints w u c) (hf : formedB lo hi = true) (h : c.length = lo.length) :
  Calls Tryz.prog 46 #[.agg #[vlo, vhi], u] w (RetV' (.bool (hasL lo hi c)) w) := by
 have CF := Lib.hid (fun w1 (hb : Below w.heap.size w w1) => formed_any vlo vhi lo hi w1 (hlo.later IntR.lasts hb) (hhi.later IntR.lasts hb))
 rw [hf] at CF
 have hl2 : hi.length = lo.length := by
  unfold formedB at hf
  simp only [Bool.and_eq_true, decide_eq_true_eq] at hf
  exact hf.1.1.symm
 have HLO := Lib.hid hlo
 have HHI := Lib.hid hhi
 have HC := Lib.hid hc
 have HL := Lib.hid h
 have HL2 := Lib.hid hl2
 obtain ⟨a1, c1, rfl, k1, k1'⟩ := hlo.shape
 obtain ⟨a2, c2, rfl, -⟩ := hhi.shape
 obtain ⟨a3, c3, rfl, -⟩ := hc.shape
 simp only [h, hl2] at CF HHI HC ⊢
 obtain ⟨R, hR⟩ : ∃ R, R = hasL lo hi c := ⟨_, rfl⟩
 rw [← hR]
 have HR0 := Lib.hid hR
 obtain ⟨W1, hW1, hb1, hbx⟩ := box_at w (.slice a1 lo.length c1) (.slice a2 lo.length c2)
 have HB1 := Lib.hid hb1
 have HBX := Lib.hid hbx
 clear hlo hhi hc hb1 hbx h hl2 hR hf
 go_enter Tryz.func46, Tryz.ntmps46
 go_wp2_with fail
 refine (CF.out _ (below_alloc _ _)).mono ?_
 rintro e w2 ⟨rfl, hb⟩
 rw [← hW1] at hb
 have HB2 := Lib.hid hb
 obtain ⟨d0, d1, -⟩ := HBX.out w2 hb
 clear hb hW1 CF
 go_wp2
 clear d0 d1
 go_loopw [20] (fun iv wr => ∃ i : Nat, i ≤ lo.length ∧ iv = .int .i64 (i : Nat) ∧ Hid (hasL (lo.drop i) (hi.drop i) (c.drop i) = R) ∧ Below W1.heap.size W1 wr) (fun iv _ => lo.length - (intOf iv).toNat)
 case atStart => exact ⟨0, Nat.zero_le _, rfl, HR0.out.symm, HB2.out⟩
 case round =>
  obtain ⟨i, hi0, rfl, HN, hb⟩ := hrel
  have HBR := Lib.hid hb
  obtain ⟨d0, d1, -⟩ := HBX.out wr hb
  have HBW := Lib.hid (below_keep HB1.out hb)
  clear hb
  by_cases hlt : i < lo.length
  ·obtain ⟨g1, o1, x, ea1, hx, hr1⟩ := (HLO.out.later IntR.lasts HBW.out).at i hlt
   obtain ⟨g2, o2, y, ea2, hy, hr2⟩ := (HHI.out.later IntR.lasts HBW.out).at i (by rw [HL2.out]; exact hlt)
   obtain ⟨g3, o3, z, ea3, hz, hr3⟩ := (HC.out.later IntR.lasts HBW.out).at i (by rw [HL.out]; exact hlt)
   subst ea1 ea2 ea3
   rw [Nat.mul_one] at hr1 hr2 hr3
   unfold IntR at hr1 hr2 hr3
   have hn := HN.out
   rw [hasL_drop hx hy hz] at hn
   have HNN := Lib.hid hn
   have HI1 : Hid (i + 1 ≤ lo.length) := hlt
   have HI2 : Hid (lo.length - (i + 1) < lo.length - i) := by show _ < _; omega
   have ib0 : (0 : Int) ≤ (i : Int) := by omega
   have ib1 : (i : Int) < (lo.length : Int) := by omega
   have CU := Lib.hid (fun w1 => upTo_any z y w1)
   obtain ⟨U, hU⟩ : ∃ U, U = upB z y := ⟨_, rfl⟩
   rw [← hU] at CU HNN
   clear hx hy hz hn HN hU
   by_cases h1 : z < x
   ·have HR : Hid (R = false) := by show _ = _; rw [← HNN.out, if_pos (.inl h1)]
    go_wp2
    go_ret
    rw [HR.out]
    exact ⟨rfl, HBW.out⟩
   ·have H1 := Lib.hid h1
    go_wp2_with fail
    refine (CU.out _).mono ?_
    rintro e w3 ⟨rfl, rfl⟩
    cases U with
    | false =>
     have HR : Hid (R = false) := by show _ = _; rw [← HNN.out, if_pos (.inr rfl)]
     go_wp2
     go_ret
     rw [HR.out]
     exact ⟨rfl, HBW.out⟩
    | true =>
     have HR : Hid (hasL (lo.drop (i + 1)) (hi.drop (i + 1)) (c.drop (i + 1)) = R) := by show _ = _; rw [← HNN.out, if_neg (fun hh => hh.elim (fun h9 => by have := H1.out; omega) (fun h => by cases h))]
     go_wp2
     exact ⟨⟨i + 1, HI1.out, by go_num, HR.out, HBR.out⟩, HI2.out⟩
  ·obtain rfl : i = lo.length := by omega
   have hn := HN.out
   rw [List.drop_length, hasL] at hn
   ·have HNN := Lib.hid hn
    clear hn HN
    go_wp2
    go_ret
    rw [← HNN.out]
    exact ⟨rfl, HBW.out⟩
   ·intro _ _ _ _ _ _ h; cases h
theorem has_any (vlo vhi u : Value) (lo hi c : List Int) (w : World) (hlo : Ints w vlo lo) (hhi : Ints w vhi hi) (hc : Ints w u c) :
  Calls Tryz.prog 46 #[.agg #[vlo, vhi], u] w (RetV' (.bool (hasB lo hi c)) w) := by
 unfold hasB
 cases hf : formedB lo hi with
 | false =>
  rw [Bool.false_and, Bool.false_and]
  exact has_bad vlo vhi u lo hi c w hlo hhi hc (.inl hf)
 | true =>
  by_cases h : c.length = lo.length
  ·rw [decide_eq_true h, Bool.true_and, Bool.true_and]
   exact has_core vlo vhi u lo hi c w hlo hhi hc hf h
  ·rw [decide_eq_false h, Bool.and_false, Bool.false_and]
   exact has_bad vlo vhi u lo hi c w hlo hhi hc (.inr h)
end Go.Proofs.YtkliekoheeeamaaGreatDoor
/- Boxes: the common part in plain words. -/
namespace Go.Proofs.YtkliekoheeeamaaGreatDoor
open Go.RowKit

/-- the least of two numbers and Open -/
def min3 (c e : Int) : Int := if (1073741825 : Int) < (if e < c then e else c) then 1073741825 else if e < c then e else c
/-- the bounds of the common part, from here on; none: it is empty -/
def interL : List Int → List Int → List Int → List Int → List Int → List Int → Option (List Int × List Int)
 | lo, hi, a :: al, c :: ah, b :: bl, e :: bh => if upB (max a b) (min3 c e) = true then interL (lo ++ [max a b]) (hi ++ [min3 c e]) al ah bl bh else none
 | lo, hi, _, _, _, _ => some (lo, hi)
def interB (al ah bl bh : List Int) : Option (List Int × List Int) :=
 if formedB al ah = true ∧ formedB bl bh = true ∧ al.length = bl.length then interL [] [] al ah bl bh else none
theorem interL_drop {lo hi al ah bl bh : List Int} {i : Nat} {a c b e : Int} (ha : al[i]? = some a) (hc : ah[i]? = some c) (hb : bl[i]? = some b) (he : bh[i]? = some e) :
  interL lo hi (al.drop i) (ah.drop i) (bl.drop i) (bh.drop i) = if upB (max a b) (min3 c e) = true then interL (lo ++ [max a b]) (hi ++ [min3 c e]) (al.drop (i + 1)) (ah.drop (i + 1)) (bl.drop (i + 1)) (bh.drop (i + 1)) else none := by
 rw [drop_cons ha, drop_cons hc, drop_cons hb, drop_cons he, interL]
def RetBxB (b : Option (List Int × List Int)) (w : World) (e : Ending) (w' : World) : Prop := ∃ v1 v2, e = .returned (.tuple #[.agg #[v1, v2], .bool b.isSome]) ∧ IntsO w' v1 (b.getD ([], [])).1 ∧ IntsO w' v2 (b.getD ([], [])).2 ∧ Below w.heap.size w w'
theorem box3_at (w : World) (v1 v2 u1 u2 : Value) : ∃ W1, W1 = ((w.alloc (.cells #[v1, v2] 26)).alloc (.cells #[u1, u2] 26)).alloc (.cells #[.slice none 0 0, .slice none 0 0] 26) ∧ Below w.heap.size w W1 ∧ W1.heap.size = w.heap.size + 3 ∧
  ∀ w', Below W1.heap.size W1 w' → w'.cell? ⟨w.heap.size, 0, none⟩ = some v1 ∧ w'.cell? ⟨w.heap.size, 1, none⟩ = some v2 ∧ w'.cell? ⟨w.heap.size + 1, 0, none⟩ = some u1 ∧ w'.cell? ⟨w.heap.size + 1, 1, none⟩ = some u2 ∧ ResB w' (w.heap.size + 2) (.slice none 0 0) (.slice none 0 0) := by
 refine ⟨_, rfl, ((below_alloc _ _).trans ((below_alloc _ _).mono (by simp))).trans ((below_alloc _ _).mono (by simp; omega)), by simp, fun w' hb => ?_⟩
 have h1 : ∀ j, w'.cell? ⟨w.heap.size, j, none⟩ = (w.alloc (.cells #[v1, v2] 26)).cell? ⟨w.heap.size, j, none⟩ := fun j => by
  rw [hb.cell (p := ⟨w.heap.size, j, none⟩) (by simp; omega), World.cell?_alloc_lt _ _ _ (by simp; omega), World.cell?_alloc_lt _ _ _ (by simp)]
 have h2 : ∀ j, w'.cell? ⟨w.heap.size + 1, j, none⟩ = ((w.alloc (.cells #[v1, v2] 26)).alloc (.cells #[u1, u2] 26)).cell? ⟨w.heap.size + 1, j, none⟩ := fun j => by
  rw [hb.cell (p := ⟨w.heap.size + 1, j, none⟩) (by simp), World.cell?_alloc_lt _ _ _ (by simp)]
 have hr := (ResB.made ((w.alloc (.cells #[v1, v2] 26)).alloc (.cells #[u1, u2] 26)) 26).later hb (by simp)
 simp only [World.size_alloc] at hr
 refine ⟨?_, ?_, ?_, ?_, hr⟩
 ·rw [h1, World.cell?_alloc_at _ _ _ _ rfl]; rfl
 ·rw [h1, World.cell?_alloc_at _ _ _ _ rfl]; rfl
 ·rw [h2, World.cell?_alloc_at _ _ _ _ (by simp)]; rfl
 ·rw [h2, World.cell?_alloc_at _ _ _ _ (by simp)]; rfl
end Go.Proofs.YtkliekoheeeamaaGreatDoor
