/- Lemmas and contracts, each under its own condition: slices.SortStableFunc at cells: insertion. (turned from SpT by wip/gen/srtc.py) slices.swapRangeCmpFunc and slices.rotateCmpFunc at cells: contracts. (turned from SymA by wip/gen/srtc.py) slices.symMergeCmpFunc at cells: where one part has one element. (turned from SymB by wip/gen/srtc.py) -/
import Derived.Deep.RegionHeld3
import Derived.IntWalk
import Derived.Deep.DeepCutAuto
import Derived.Deep.CutBlock
import Derived.Test.YthlkcppbljpooaaGreatDoorS44
import Derived.Test.YthlkcppbljpooaaGreatDoorS7
/- slices.SortStableFunc at cells: insertion. (turned from SpT by wip/gen/srtc.py) -/
namespace Go.Proofs.YthlkcppbljpooaaGreatDoor
open Go.RowKit

/-- a cell to be sorted: its two slices, and what they say -/
abbrev ElC := (Value × Value) × CellT
abbrev aggC (x : ElC) : Value := .agg #[x.1.1, x.1.2]
def ShC (x : ElC) : Prop := ∃ p m c p' m' c', x.1 = (.slice p m c, .slice p' m' c')
/-- the row that is sorted -/
structure RowC (w : World) (g : Nat) (l : List ElC) : Prop where
 cell : ∀ i x, l[i]? = some x → w.cell? ⟨g, i * 2, none⟩ = some x.1.1 ∧ w.cell? ⟨g, i * 2 + 1, none⟩ = some x.1.2
 free : ∀ i, w.frozen? ⟨g, i, none⟩ = false
theorem RowC.kept {w w' : World} {g : Nat} {l : List ElC} (h : RowC w g l) (hb : w'.heap[g]? = w.heap[g]?) : RowC w' g l :=
 ⟨fun i x hx => ⟨(World.cell?_of_block (a := ⟨g, i * 2, none⟩) hb).trans (h.cell i x hx).1, (World.cell?_of_block (a := ⟨g, i * 2 + 1, none⟩) hb).trans (h.cell i x hx).2⟩, fun i => (World.frozen?_of_block (a := ⟨g, i, none⟩) hb).trans (h.free i)⟩
abbrev setC (w : World) (g i : Nat) (y : ElC) : World := (w.setCell ⟨g, i * 2, none⟩ y.1.1).setCell ⟨g, i * 2 + 1, none⟩ y.1.2
theorem cell_setC {w : World} {g o p : Nat} {v u : Value} (h : w.cell? ⟨g, p, none⟩ = some u) (hne : p ≠ o) : (w.setCell ⟨g, o, none⟩ v).cell? ⟨g, p, none⟩ = some u := by
 rw [World.cell?_setCell_other w ⟨g, o, none⟩ ⟨g, p, none⟩ _ (fun h' => hne (by injection h' with _ h2; exact h2.symm))]
 exact h
theorem RowC.set {w : World} {g : Nat} {l : List ElC} (h : RowC w g l) (i : Nat) (y : ElC) (hi : i < l.length) : RowC (setC w g i y) g (l.set i y) := by
 refine ⟨fun k x hx => ?_, fun k => by rw [World.frozen?_setCell, World.frozen?_setCell]; exact h.free k⟩
 by_cases e : k = i
 ·subst e
  rw [List.getElem?_set_self hi] at hx
  cases hx
  obtain ⟨c0, c1⟩ := h.cell k _ (List.getElem?_eq_getElem hi)
  exact ⟨cell_setC (World.cell?_setCell_same w ⟨g, k * 2, none⟩ _ c0) (by omega), World.cell?_setCell_same _ ⟨g, k * 2 + 1, none⟩ _ (cell_setC c1 (by omega))⟩
 ·rw [List.getElem?_set_ne (Ne.symm e)] at hx
  obtain ⟨c0, c1⟩ := h.cell k x hx
  exact ⟨cell_setC (cell_setC c0 (by omega)) (by omega), cell_setC (cell_setC c1 (by omega)) (by omega)⟩
theorem RowC.swap {w : World} {g : Nat} {l : List ElC} {j : Nat} {x y : ElC} (h : RowC w g l) (hj : 0 < j) (hl : j < l.length) : RowC (setC (setC w g j y) g (j - 1) x) g (swapL l j x y) :=
 (h.set j y hl).set (j - 1) x (by simp; omega)
/-- what the function that compares two elements does -/
def CmpC (fc : Nat) (lb : Array Value) (K : ElC → List Int) (xs : List ElC) (g : Nat) (W0 : World) : Prop :=
 ∀ W x y, W0.grownBy W (some g) → x ∈ xs → y ∈ xs → Calls Tryz.prog fc (#[aggC x, aggC y] ++ lb) W fun e w' => e = .returned (.int .i64 (cmpI (K x) (K y))) ∧ Below W.heap.size W w'
theorem grown_setC (A : World) (g i : Nat) (y : ElC) : A.grownBy (setC A g i y) (some g) := (grown_setG A g (i * 2) _).trans (grown_setG _ g (i * 2 + 1) _)
structure SrtC (xs zs : List ElC) (a b : Nat) : Prop where
 perm : zs.Perm xs
 pre : zs.take a = xs.take a
 suf : zs.drop b = xs.drop b

set_option maxHeartbeats 8000000 in
set_option maxRecDepth 100000 in
theorem insertionC_any (fc : Nat) (lb : Array Value) (K : ElC → List Int) (xs : List ElC) (g n cap a b : Nat) (w : World) (eg : ∀ args w, (callFunc fc args).run Tryz.prog w = .ok (.enter fc args) w)
  (hr : RowC w g xs) (hsl : ∀ x ∈ xs, ShC x) (hc : CmpC fc lb K xs g w) (hn : xs.length = n) (ha : a < b) (hb : b ≤ n) (hnl : n ≤ 1000000) :
  Calls Tryz.prog 127 #[.slice (some ⟨g, 0, none⟩) n cap, .int .i64 a, .int .i64 b, .func (.func fc) #[] lb] w fun e w' => e = .returned (.tuple #[]) ∧ ∃ zs, SrtC xs zs a b ∧ SegS K a b zs ∧ RowC w' g zs ∧ w.grownBy w' (some g) := by
 have HR := Lib.hid hr
 have HSL := Lib.hid hsl
 have HC := Lib.hid hc
 have HN := Lib.hid hn
 clear hr hsl hc hn
 go_enter Tryz.func127, Tryz.ntmps127
 go_wp2
 go_loopw [8] (fun iv wr => ∃ (i : Nat) (zs : List ElC), a < i ∧ i ≤ b ∧ iv = .int .i64 (i : Nat) ∧ SrtC xs zs a b ∧ SegS K a i zs ∧ RowC wr g zs ∧ w.grownBy wr (some g)) (fun iv _ => b - (intOf iv).toNat)
 case atStart => exact ⟨a + 1, xs, by omega, by omega, by go_num, ⟨List.Perm.refl _, rfl, rfl⟩, SegS.one (by rw [HN.out]; omega), HR.out, grown_of_below (Below.refl _ _) _⟩
 case round =>
  obtain ⟨i, zs, hai, hib, rfl, hso, hsg, hrw, hgr⟩ := hrel
  have HSO := Lib.hid hso
  have HSG := Lib.hid hsg
  have HRW := Lib.hid hrw
  have HGR := Lib.hid hgr
  have HZL : Hid (zs.length = n) := by show _ = _; rw [hso.perm.length_eq, HN.out]
  clear hso hsg hrw hgr
  by_cases hlt : i < b
  ·go_wp2
   obtain ⟨w0, hw0⟩ : ∃ w0, w0 = wr := ⟨_, rfl⟩
   rw [← hw0] at HRW HGR ⊢
   clear hw0
   go_loopw [9] (fun jv wy => ∃ (j : Nat) (zs : List ElC), a ≤ j ∧ j ≤ i ∧ jv = .int .i64 (j : Nat) ∧ SrtC xs zs a b ∧ InsAt K a j i zs ∧ RowC wy g zs ∧ w.grownBy wy (some g)) (fun jv _ => (intOf jv).toNat)
   case atStart => exact ⟨i, zs, by omega, Nat.le_refl _, rfl, HSO.out, InsAt.start HSG.out (by rw [HZL.out]; omega), HRW.out, HGR.out⟩
   case round =>
    clear HSO HSG HRW HGR HZL zs
    obtain ⟨j, zs, haj, hji, rfl, hso, hin, hrw, hgr⟩ := hrel
    have HSO := Lib.hid hso
    have HIN := Lib.hid hin
    have HRW := Lib.hid hrw
    have HGR := Lib.hid hgr
    have HZL : Hid (zs.length = n) := by show _ = _; rw [hso.perm.length_eq, HN.out]
    clear hso hin hrw hgr
    by_cases hja : a < j
    ·obtain ⟨x, hx⟩ : ∃ x, zs[j]? = some x := ⟨_, List.getElem?_eq_getElem (by rw [HZL.out]; omega)⟩
     obtain ⟨y, hy⟩ : ∃ y, zs[j - 1]? = some y := ⟨_, List.getElem?_eq_getElem (by rw [HZL.out]; omega)⟩
     have HX := Lib.hid hx
     have HY := Lib.hid hy
     have hxm : x ∈ xs := HSO.out.perm.mem_iff.1 (List.mem_of_getElem? hx)
     have hym : y ∈ xs := HSO.out.perm.mem_iff.1 (List.mem_of_getElem? hy)
     have HCC := Lib.hid (fun w1 (h1 : w.grownBy w1 (some g)) => HC.out w1 x y h1 hxm hym)
     obtain ⟨hcx, hcx'⟩ := HRW.out.cell j x hx
     obtain ⟨hcy, hcy'⟩ := HRW.out.cell (j - 1) y hy
     obtain ⟨p1, m1, c1, p1', m1', c1', e1⟩ := HSL.out x hxm
     obtain ⟨p2, m2, c2, p2', m2', c2', e2⟩ := HSL.out y hym
     have E1 := Lib.hid e1
     have E2 := Lib.hid e2
     rw [e1] at hcx hcx'
     rw [e2] at hcy hcy'
     rw [show aggC x = .agg #[.slice p1 m1 c1, .slice p1' m1' c1'] from by rw [aggC, e1], show aggC y = .agg #[.slice p2 m2 c2, .slice p2' m2' c2'] from by rw [aggC, e2]] at HCC
     clear hx hy hxm hym e1 e2
     obtain ⟨q, rfl⟩ : ∃ q, j = q + 1 := ⟨j - 1, by omega⟩
     rw [Nat.add_sub_cancel] at hcy hcy' HY
     have K1 : Hid (∀ w', Below wr.heap.size wr w' → w'.cell? ⟨g, (q + 1) * 2, none⟩ = some (.slice p1 m1 c1) ∧ w'.cell? ⟨g, (q + 1) * 2 + 1, none⟩ = some (.slice p1' m1' c1') ∧ w'.cell? ⟨g, q * 2, none⟩ = some (.slice p2 m2 c2) ∧ w'.cell? ⟨g, q * 2 + 1, none⟩ = some (.slice p2' m2' c2') ∧ Below wr.heap.size wr w') := fun w' hb' => ⟨cell_later hcx hb', cell_later hcx' hb', cell_later hcy hb', cell_later hcy' hb', hb'⟩
     go_wp2
     have b0 : (0 : Int) ≤ (q : Int) := by omega
     have b1 : (q : Int) < (n : Int) := by omega
     have b2 : (q : Int) + 1 < (n : Int) := by omega
     have b3 : IntKind.i64.wrap ((q : Int) + 1 - 1) = (q : Int) := by rw [Int.add_sub_cancel]; exact IntWalk.i64_in _ (by omega)
     have b4 : IntKind.i64.wrap (q : Int) = (q : Int) := IntWalk.i64_in _ (by omega)
     have b5 : (a : Int) < (q : Int) + 1 := by omega
     have b6 : decide ((a : Int) < (q : Int) + 1) = true := decide_eq_true b5
     have b7 : ((q : Int) + 1).toNat = q + 1 := by omega
     have b8 : (0 : Int) ≤ (q : Int) + 1 := by omega
     generalize hcm : cmpI (K x) (K y) = cv at HCC
     go_region_held3 (fun w' => w'.cell? ⟨g, (q + 1) * 2, none⟩ = some (.slice p1 m1 c1) ∧ w'.cell? ⟨g, (q + 1) * 2 + 1, none⟩ = some (.slice p1' m1' c1') ∧ w'.cell? ⟨g, q * 2, none⟩ = some (.slice p2 m2 c2) ∧ w'.cell? ⟨g, q * 2 + 1, none⟩ = some (.slice p2' m2' c2') ∧ Below wr.heap.size wr w')
      (first | exact K1.out _ (Below.refl _ _).drew | exact K1.out _ (by assumption))
      ((refine (HCC.out _ (HGR.out.trans (grown_of_below (Below.refl _ _).drew _))).mono ?_; rintro e w2 ⟨rfl, hb2⟩; have hb3 : Below wr.heap.size wr w2 := below_keep (Below.refl _ _).drew hb2))
     have HG2 := Lib.hid ((HGR.out.trans (grown_of_below hb3 (some g))))
     have HR2 := Lib.hid (HRW.out.kept (hb3.block g (World.block_lt_of_cell? _ _ hcx)))
     have HCM := Lib.hid hcm
     obtain ⟨hcx2, hcx2', hcy2, hcy2', -⟩ := K1.out w2 hb3
     have hfx := HR2.out.free ((q + 1) * 2)
     have hfx' := HR2.out.free ((q + 1) * 2 + 1)
     have hfy := HR2.out.free (q * 2)
     have hfy' := HR2.out.free (q * 2 + 1)
     clear hb2 hb3 hcm HCC K1 hcx hcy hcx' hcy'
     rcases cmpI_cases (K x) (K y) with hv | hv | hv
     ·have hlt2 : Hid (ltK K x y) := hv
      rw [HCM.out] at hv
      subst hv
      have b9 : ((q : Int) - 0).toNat = q := by omega
      go_wp2
      go_region
      have hsw := HR2.out.swap (j := q + 1) (x := x) (y := y) (by omega) (by rw [HZL.out]; omega)
      rw [Nat.add_sub_cancel, setC, setC, E1.out, E2.out] at hsw
      have HSW := Lib.hid hsw
      have HSO2 : Hid (SrtC xs (swapL zs (q + 1) x y) a b) := ⟨(swapL_perm (by omega) HX.out (by rw [Nat.add_sub_cancel]; exact HY.out)).trans HSO.out.perm, (swapL_take _ (by omega) _ _).trans HSO.out.pre, (swapL_drop _ (by omega) _ _).trans HSO.out.suf⟩
      have HIN2 : Hid (InsAt K a q i (swapL zs (q + 1) x y)) := HIN.out.down (by omega) HX.out (by rw [Nat.add_sub_cancel]; exact HY.out) hlt2.out
      clear hsw
      go_wp2
      exact ⟨⟨q, _, by omega, by omega, rfl, HSO2.out, HIN2.out, HSW.out.kept rfl, (HG2.out.trans (grown_setC w2 g (q + 1) ((.slice p2 m2 c2, .slice p2' m2' c2'), ⟨[], []⟩))).trans ((grown_setC _ g q ((.slice p1 m1 c1, .slice p1' m1' c1'), ⟨[], []⟩)).trans (grown_of_below (Below.refl _ _).drew _))⟩, by show _ < _; simp [intOf]⟩
     ·have hst : Hid (SegS K a (i + 1) zs) := HIN.out.stop (.inr ⟨x, y, HX.out, HY.out, by unfold ltK; rw [hv]; decide⟩)
      rw [HCM.out] at hv
      subst hv
      go_wp2
      exact ⟨⟨i + 1, zs, by omega, by omega, by go_num, HSO.out, hst.out, HR2.out, HG2.out⟩, by show b - _ < b - _; simp [intOf]; omega⟩
     ·have hst : Hid (SegS K a (i + 1) zs) := HIN.out.stop (.inr ⟨x, y, HX.out, HY.out, by unfold ltK; rw [hv]; decide⟩)
      rw [HCM.out] at hv
      subst hv
      go_wp2
      exact ⟨⟨i + 1, zs, by omega, by omega, by go_num, HSO.out, hst.out, HR2.out, HG2.out⟩, by show b - _ < b - _; simp [intOf]; omega⟩
    ·obtain rfl : j = a := by omega
     have b6 : decide ((j : Int) < (j : Int)) = false := by simp
     have HSG2 := Lib.hid (HIN.out.stop (.inl rfl))
     go_wp2
     go_quiet (fail)
     go_wp2
     exact ⟨⟨i + 1, zs, by omega, by omega, by go_num, HSO.out, HSG2.out, HRW.out.kept rfl, HGR.out.trans (grown_of_below (below_drewN' _ _) _)⟩, by show b - _ < b - _; simp [intOf]; omega⟩
  ·obtain rfl : i = b := by omega
   go_wp2
   go_end0
   exact ⟨rfl, zs, HSO.out, HSG.out, HRW.out, HGR.out⟩
end Go.Proofs.YthlkcppbljpooaaGreatDoor
/- slices.swapRangeCmpFunc and slices.rotateCmpFunc at cells: contracts. (turned from SymA by wip/gen/srtc.py) -/
namespace Go.Proofs.YthlkcppbljpooaaGreatDoor
open Go.RowKit

/-- the row is turned into R, nothing else is changed -/
def RetSwC (R : List ElC → Prop) (g : Nat) (w : World) (e : Ending) (w' : World) : Prop := e = .returned (.tuple #[]) ∧ ∃ zs, R zs ∧ RowC w' g zs ∧ w.grownBy w' (some g)

set_option maxHeartbeats 8000000 in
set_option maxRecDepth 100000 in
theorem swapRangeC_any (xs : List ElC) (fv : Value) (g n cap a b m : Nat) (w : World) (hr : RowC w g xs) (hsl : ∀ x ∈ xs, ShC x) (hn : xs.length = n) (hab : a + m ≤ b) (hb : b + m ≤ n) (hnl : n ≤ 1000000) :
  Calls Tryz.prog 164 #[.slice (some ⟨g, 0, none⟩) n cap, .int .i64 a, .int .i64 b, .int .i64 m, fv] w (RetSwC (fun zs => SwpR xs zs a b m) g w) := by
 have HR := Lib.hid hr
 have HSL := Lib.hid hsl
 have HN := Lib.hid hn
 clear hr hsl hn
 go_enter Tryz.func164, Tryz.ntmps164
 go_wp2
 go_loopw [10] (fun iv wr => ∃ (i : Nat) (zs : List ElC), i ≤ m ∧ iv = .int .i64 (i : Nat) ∧ SwpR xs zs a b i ∧ RowC wr g zs ∧ w.grownBy wr (some g)) (fun iv _ => m - (intOf iv).toNat)
 case atStart => exact ⟨0, xs, Nat.zero_le _, rfl, SwpR.start _ _ _, HR.out, grown_of_below (Below.refl _ _) _⟩
 case round =>
  obtain ⟨i, zs, hi, rfl, hsw, hrw, hgr⟩ := hrel
  have HSW := Lib.hid hsw
  have HRW := Lib.hid hrw
  have HGR := Lib.hid hgr
  have HZL : Hid (zs.length = n) := by show _ = _; rw [hsw.len (by omega) (by rw [HN.out]; omega), HN.out]
  clear hsw hrw hgr
  by_cases hlt : i < m
  ·obtain ⟨x, hx⟩ : ∃ x, zs[a + i]? = some x := ⟨_, List.getElem?_eq_getElem (by rw [HZL.out]; omega)⟩
   obtain ⟨y, hy⟩ : ∃ y, zs[b + i]? = some y := ⟨_, List.getElem?_eq_getElem (by rw [HZL.out]; omega)⟩
   obtain ⟨hcx, hcx'⟩ := HRW.out.cell (a + i) x hx
   obtain ⟨hcy, hcy'⟩ := HRW.out.cell (b + i) y hy
   obtain ⟨p1, m1, c1, p1', m1', c1', e1⟩ := HSL.out x (HSW.out.mem (List.mem_of_getElem? hx))
   obtain ⟨p2, m2, c2, p2', m2', c2', e2⟩ := HSL.out y (HSW.out.mem (List.mem_of_getElem? hy))
   have HS2 := Lib.hid (HSW.out.step (by omega) (by rw [HN.out]; omega) hx hy)
   have HR2 := Lib.hid ((HRW.out.set (a + i) y (by rw [HZL.out]; omega)).set (b + i) x (by simp; rw [HZL.out]; omega))
   have hfx := HRW.out.free ((a + i) * 2)
   have hfx' := HRW.out.free ((a + i) * 2 + 1)
   have hfy := HRW.out.free ((b + i) * 2)
   have hfy' := HRW.out.free ((b + i) * 2 + 1)
   rw [e1] at hcx hcx'
   rw [e2] at hcy hcy'
   simp only [setC, e1, e2] at HR2
   clear hx hy e1 e2
   go_wp2
   have b0 : (0 : Int) ≤ (a : Int) + (i : Int) := by omega
   have b1 : (0 : Int) ≤ (b : Int) + (i : Int) := by omega
   have b2 : (a : Int) + (i : Int) < (n : Int) := by omega
   have b3 : (b : Int) + (i : Int) < (n : Int) := by omega
   have b4 : ((a : Int) + (i : Int)).toNat = a + i := by omega
   have b5 : ((b : Int) + (i : Int)).toNat = b + i := by omega
   have b6 : IntKind.i64.wrap ((a : Int) + (i : Int)) = (a : Int) + (i : Int) := IntWalk.i64_in _ (by omega)
   have b7 : IntKind.i64.wrap ((b : Int) + (i : Int)) = (b : Int) + (i : Int) := IntWalk.i64_in _ (by omega)
   go_region
   clear b6 b7
   go_wp2
   exact ⟨⟨i + 1, _, by omega, by go_num, HS2.out, HR2.out.kept rfl, (HGR.out.trans (grown_setC wr g (a + i) ((.slice p2 m2 c2, .slice p2' m2' c2'), ⟨[], []⟩))).trans ((grown_setC _ g (b + i) ((.slice p1 m1 c1, .slice p1' m1' c1'), ⟨[], []⟩)).trans (grown_of_below (Below.refl _ _).drew _))⟩, by show m - _ < m - _; simp [intOf]; omega⟩
  ·obtain rfl : i = m := by omega
   go_wp2
   go_end0
   exact ⟨rfl, zs, HSW.out, HRW.out, HGR.out⟩

set_option maxHeartbeats 8000000 in
set_option maxRecDepth 100000 in
theorem rotateC_any (xs Z : List ElC) (fv : Value) (hfv : ∃ f a b, fv = .func f a b) (g n cap a m b : Nat) (w : World) (hr : RowC w g xs) (hsl : ∀ x ∈ xs, ShC x) (hn : xs.length = n) (ham : a < m) (hmb : m < b) (hb : b ≤ n) (hnl : n ≤ 1000000) (hro : RotAt m (m - a) (b - m) xs Z) :
  Calls Tryz.prog 147 #[.slice (some ⟨g, 0, none⟩) n cap, .int .i64 a, .int .i64 m, .int .i64 b, fv] w (RetSwC (fun zs => zs = Z) g w) := by
 obtain ⟨f1, f2, f3, rfl⟩ := hfv
 have HR := Lib.hid hr
 have HSL := Lib.hid hsl
 have HN := Lib.hid hn
 have HRO := Lib.hid hro
 obtain ⟨i0, hi0⟩ : ∃ i0, i0 = m - a := ⟨_, rfl⟩
 obtain ⟨j0, hj0⟩ : ∃ j0, j0 = b - m := ⟨_, rfl⟩
 rw [← hi0, ← hj0] at HRO
 have c1 : (m : Int) - (a : Int) = (i0 : Int) := by omega
 have c2 : (b : Int) - (m : Int) = (j0 : Int) := by omega
 have c3 : 1 ≤ i0 ∧ 1 ≤ j0 ∧ i0 ≤ m ∧ m + j0 ≤ n := by omega
 clear hr hsl hn hro hi0 hj0
 go_enter Tryz.func147, Tryz.ntmps147
 go_wp2
 clear c1 c2
 go_loopw [10, 11] (fun iv jv wr => ∃ (i j : Nat) (zs : List ElC), 1 ≤ i ∧ 1 ≤ j ∧ i + j ≤ n ∧ i ≤ m ∧ m + j ≤ n ∧ iv = .int .i64 (i : Nat) ∧ jv = .int .i64 (j : Nat) ∧ RotAt m i j zs Z ∧ Hid (zs.length = n) ∧ (∀ x ∈ zs, x ∈ xs) ∧ RowC wr g zs ∧ w.grownBy wr (some g)) (fun iv jv _ => (intOf iv).toNat + (intOf jv).toNat)
 case atStart => exact ⟨i0, j0, xs, by omega, by omega, by omega, by omega, by omega, rfl, rfl, HRO.out, HN.out, fun x h => h, HR.out, grown_of_below (Below.refl _ _) _⟩
 case round =>
  obtain ⟨i, j, zs, hi1, hj1, hij, him, hjm, rfl, rfl, hro, HZL, hme, hrw, hgr⟩ := hrel
  have HRO2 := Lib.hid hro
  have HME := Lib.hid hme
  have HRW := Lib.hid hrw
  have HGR := Lib.hid hgr
  have HS : Hid (∀ x ∈ zs, ShC x) := fun x hx => HSL.out x (HME.out x hx)
  clear hro hme hrw hgr
  have b1 : ((m : Int) - (i : Int)) = ((m - i : Nat) : Int) := by omega
  rcases Nat.lt_trichotomy i j with hc | hc | hc
  ·have t1 : ((i : Int) != (j : Int)) = true := by rw [bne_iff_ne]; omega
   have t2 : ¬ (j : Int) < (i : Int) := by omega
   have b2 : ((m : Int) + (j : Int) - (i : Int)) = ((m + j - i : Nat) : Int) := by omega
   have C := Lib.hid (swapRangeC_any zs (.func f1 f2 f3) g n cap (m - i) (m + j - i) i wr HRW.out HS.out HZL.out (by omega) (by omega) hnl)
   have HIJ := Lib.hid hc
   clear hc
   go_wp2_with fail
   refine C.out.mono ?_
   rintro e w1 ⟨rfl, z2, hs2, hr2, hg2⟩
   have hij := HIJ.out
   have HL2 : Hid (z2.length = n) := by show _ = _; rw [hs2.len (by omega) (by rw [HZL.out]; omega), HZL.out]
   have HRN := Lib.hid (HRO2.out.down (by omega) hs2)
   have HR2 := Lib.hid hr2
   have HG2 := Lib.hid (HGR.out.trans hg2)
   have HM2 : Hid (∀ x ∈ z2, x ∈ xs) := fun x hx => HME.out x (hs2.mem hx)
   clear hs2 hr2 hg2 C hij
   go_wp2
   have hij := HIJ.out
   exact ⟨⟨i, j - i, z2, hi1, by omega, by omega, him, by omega, rfl, by go_num, HRN.out, HL2.out, HM2.out, HR2.out, HG2.out⟩, by simp [intOf]; omega⟩
  ·subst hc
   have t1 : ((i : Int) != (i : Int)) = false := by simp
   have C := Lib.hid (swapRangeC_any zs (.func f1 f2 f3) g n cap (m - i) m i wr HRW.out HS.out HZL.out (by omega) (by omega) hnl)
   go_wp2_with fail
   refine C.out.mono ?_
   rintro e w1 ⟨rfl, z2, hs2, hr2, hg2⟩
   have HRN := Lib.hid (HRO2.out.last hs2)
   have HR2 := Lib.hid hr2
   have HG2 := Lib.hid (HGR.out.trans hg2)
   clear hs2 hr2 hg2 C
   go_wp2
   go_end0
   exact ⟨rfl, z2, HRN.out, HR2.out, HG2.out⟩
  ·have t1 : ((i : Int) != (j : Int)) = true := by rw [bne_iff_ne]; omega
   have t2 : (j : Int) < (i : Int) := by omega
   have C := Lib.hid (swapRangeC_any zs (.func f1 f2 f3) g n cap (m - i) m j wr HRW.out HS.out HZL.out (by omega) (by omega) hnl)
   have HIJ := Lib.hid hc
   clear hc
   go_wp2_with fail
   refine C.out.mono ?_
   rintro e w1 ⟨rfl, z2, hs2, hr2, hg2⟩
   have hij := HIJ.out
   have HL2 : Hid (z2.length = n) := by show _ = _; rw [hs2.len (by omega) (by rw [HZL.out]; omega), HZL.out]
   have HRN := Lib.hid (HRO2.out.up (by omega) hs2)
   have HR2 := Lib.hid hr2
   have HG2 := Lib.hid (HGR.out.trans hg2)
   have HM2 : Hid (∀ x ∈ z2, x ∈ xs) := fun x hx => HME.out x (hs2.mem hx)
   clear hs2 hr2 hg2 C hij
   go_wp2
   have hij := HIJ.out
   exact ⟨⟨i - j, j, z2, by omega, hj1, by omega, by omega, hjm, by go_num, rfl, HRN.out, HL2.out, HM2.out, HR2.out, HG2.out⟩, by simp [intOf]; omega⟩
end Go.Proofs.YthlkcppbljpooaaGreatDoor
/- slices.symMergeCmpFunc at cells: where one part has one element. (turned from SymB by wip/gen/srtc.py) -/
namespace Go.Proofs.YthlkcppbljpooaaGreatDoor
open Go.RowKit

set_option maxHeartbeats 8000000 in
set_option maxRecDepth 100000 in
theorem symLeftC_any (fc : Nat) (lb : Array Value) (K : ElC → List Int) (xs zs : List ElC) (g n cap a m b : Nat) (W0 w : World) (eg : ∀ args w, (callFunc fc args).run Tryz.prog w = .ok (.enter fc args) w)
  (hg : W0.grownBy w (some g)) (hr : RowC w g zs) (hme : ∀ x ∈ zs, x ∈ xs) (hsl : ∀ x ∈ xs, ShC x) (hc : CmpC fc lb K xs g W0) (hn : zs.length = n) (hma : m = a + 1) (hmb : m < b) (hb : b ≤ n) (hnl : n ≤ 1000000) (hm : MrgS K a m b zs) :
  Calls Tryz.prog 128 #[.slice (some ⟨g, 0, none⟩) n cap, .int .i64 a, .int .i64 m, .int .i64 b, .func (.func fc) #[] lb] w (RetSwC (fun z => MrgE K a b zs z) g w) := by
 have HR := Lib.hid hr
 have HG := Lib.hid hg
 have HSL := Lib.hid (fun x hx => hsl x (hme x hx))
 have HME := Lib.hid hme
 have HC := Lib.hid hc
 have HN := Lib.hid hn
 have HM := Lib.hid hm
 have HMA := Lib.hid hma
 have t0 : ((m : Int) - (a : Int) == 1) = true := by rw [beq_iff_eq]; omega
 obtain ⟨x, hx⟩ : ∃ x, zs[a]? = some x := ⟨_, List.getElem?_eq_getElem (by omega)⟩
 have HX := Lib.hid hx
 have HD := Lib.hid (hm.downBelow x)
 obtain ⟨p1, m1, c1, p1', m1', c1', e1⟩ := HSL.out x (List.mem_of_getElem? hx)
 have E1 := Lib.hid e1
 have b0 : a < n := by omega
 clear hr hg hsl hme hc hn hm hma hx e1
 go_enter Tryz.func128, Tryz.ntmps128
 go_wp2
 clear t0
 go_loopw [10, 11] (fun iv jv wr => ∃ i j : Nat, m ≤ i ∧ i ≤ j ∧ j ≤ b ∧ iv = .int .i64 (i : Nat) ∧ jv = .int .i64 (j : Nat) ∧ Bis (BelowK K zs x) m b i j ∧ RowC wr g zs ∧ w.grownBy wr (some g)) (fun iv jv _ => (intOf jv).toNat - (intOf iv).toNat)
 case atStart => exact ⟨m, b, Nat.le_refl _, by omega, Nat.le_refl _, rfl, rfl, Bis.start (by omega), HR.out, grown_of_below (Below.refl _ _) _⟩
 case round =>
  obtain ⟨i, j, h1, h2, h3, rfl, rfl, hbi, hrw, hgr⟩ := hrel
  have HBI := Lib.hid hbi
  have HRW := Lib.hid hrw
  have HGR := Lib.hid hgr
  clear hbi hrw hgr
  by_cases hlt : i < j
  ·obtain ⟨c, hc⟩ : ∃ c, c = (i + j) / 2 := ⟨_, rfl⟩
   have M3 : Hid (((i : Int) + (j : Int)) / 2 = (c : Int)) := by show _ = _; omega
   have ci1 : i ≤ c := by omega
   have ci2 : c < j := by omega
   clear hc
   obtain ⟨y, hy⟩ : ∃ y, zs[c]? = some y := ⟨_, List.getElem?_eq_getElem (by rw [HN.out]; omega)⟩
   have HY := Lib.hid hy
   obtain ⟨hcx, hcx'⟩ := HRW.out.cell a x HX.out
   obtain ⟨hcy, hcy'⟩ := HRW.out.cell c y hy
   obtain ⟨p2, m2, c2, p2', m2', c2', e2⟩ := HSL.out y (List.mem_of_getElem? hy)
   have HCC := Lib.hid (fun w1 (h1 : W0.grownBy w1 (some g)) => HC.out w1 y x h1 (HME.out y (List.mem_of_getElem? hy)) (HME.out x (List.mem_of_getElem? HX.out)))
   rw [E1.out] at hcx hcx'
   rw [e2] at hcy hcy'
   rw [show aggC x = .agg #[.slice p1 m1 c1, .slice p1' m1' c1'] from by rw [aggC, E1.out], show aggC y = .agg #[.slice p2 m2 c2, .slice p2' m2' c2'] from by rw [aggC, e2]] at HCC
   clear hy e2
   have K1 : Hid (∀ w', Below wr.heap.size wr w' → w'.cell? ⟨g, c * 2, none⟩ = some (.slice p2 m2 c2) ∧ w'.cell? ⟨g, c * 2 + 1, none⟩ = some (.slice p2' m2' c2') ∧ w'.cell? ⟨g, a * 2, none⟩ = some (.slice p1 m1 c1) ∧ w'.cell? ⟨g, a * 2 + 1, none⟩ = some (.slice p1' m1' c1') ∧ Below wr.heap.size wr w') := fun w' hb' => ⟨cell_later hcy hb', cell_later hcy' hb', cell_later hcx hb', cell_later hcx' hb', hb'⟩
   have HIS : Hid (g < wr.heap.size) := World.block_lt_of_cell? _ _ hcx
   have hd3 : IntKind.i64.wrap ((i : Int) + (j : Int)) = (i : Int) + (j : Int) := IntWalk.i64_in _ (by omega)
   have hd4 : IntKind.u64.wrap ((i : Int) + (j : Int)) = (i : Int) + (j : Int) := by rw [IntKind.wrap_u64]; omega
   generalize hcm : cmpI (K y) (K x) = cv at HCC
   have HCM := Lib.hid hcm
   have HCI := Lib.hid (And.intro ci1 ci2)
   have b1 : (0 : Int) ≤ (c : Int) := by omega
   have b2 : (c : Int) < (n : Int) := by omega
   have b3 : (0 : Int) ≤ (a : Int) := by omega
   have b4 : (a : Int) < (n : Int) := by omega
   clear hcm hcx hcy hcx' hcy'
   go_upto_region 5 with (fail)
   rw [M3.out]
   clear hd3 hd4
   obtain ⟨hcy, hcy', hcx, hcx', -⟩ := K1.out wr (Below.refl _ _)
   go_region_held3 (fun w' => w'.cell? ⟨g, c * 2, none⟩ = some (.slice p2 m2 c2) ∧ w'.cell? ⟨g, c * 2 + 1, none⟩ = some (.slice p2' m2' c2') ∧ w'.cell? ⟨g, a * 2, none⟩ = some (.slice p1 m1 c1) ∧ w'.cell? ⟨g, a * 2 + 1, none⟩ = some (.slice p1' m1' c1') ∧ Below wr.heap.size wr w')
    (first | exact K1.out _ (Below.refl _ _).drew | exact K1.out _ (by assumption))
    ((refine (HCC.out _ ((HG.out.trans HGR.out).trans (grown_of_below (Below.refl _ _).drew _))).mono ?_; rintro e w2 ⟨rfl, hb2⟩; have hb3 : Below wr.heap.size wr w2 := below_keep (Below.refl _ _).drew hb2))
   have HG2 := Lib.hid ((HGR.out.trans (grown_of_below hb3 (some g))))
   have HR2 := Lib.hid (HRW.out.kept (hb3.block g HIS.out))
   clear hb2 hb3 HCC K1 hcx hcy hcx' hcy'
   rcases cmpI_cases (K y) (K x) with hv | hv | hv
   ·have HB2 := Lib.hid (HBI.out.up HD.out HCI.out.1 HCI.out.2 ⟨y, HY.out, hv⟩)
    rw [HCM.out] at hv
    subst hv
    go_wp2
    exact ⟨⟨c + 1, j, by omega, by omega, h3, by go_num, rfl, HB2.out, HR2.out, HG2.out⟩, by show (intOf _).toNat - _ < _ - _; simp [intOf]; omega⟩
   ·have HB2 := Lib.hid (HBI.out.down HD.out HCI.out.1 HCI.out.2 (by
     rintro ⟨y', hy', hl⟩
     rw [HY.out] at hy'
     cases hy'
     unfold ltK at hl
     rw [hv] at hl
     cases hl))
    rw [HCM.out] at hv
    subst hv
    go_wp2
    exact ⟨⟨i, c, h1, by omega, by omega, rfl, rfl, HB2.out, HR2.out, HG2.out⟩, by show (intOf _).toNat - _ < _ - _; simp [intOf]; omega⟩
   ·have HB2 := Lib.hid (HBI.out.down HD.out HCI.out.1 HCI.out.2 (by
     rintro ⟨y', hy', hl⟩
     rw [HY.out] at hy'
     cases hy'
     unfold ltK at hl
     rw [hv] at hl
     cases hl))
    rw [HCM.out] at hv
    subst hv
    go_wp2
    exact ⟨⟨i, c, h1, by omega, by omega, rfl, rfl, HB2.out, HR2.out, HG2.out⟩, by show (intOf _).toNat - _ < _ - _; simp [intOf]; omega⟩
  ·obtain rfl : i = j := by omega
   go_wp2
   obtain ⟨w0, hw0⟩ : ∃ w0, w0 = wr := ⟨_, rfl⟩
   rw [← hw0] at HRW HGR ⊢
   clear hw0
   go_loopw [13] (fun kv wy => ∃ (k : Nat) (zz : List ElC), a ≤ k ∧ k + 1 ≤ i ∧ kv = .int .i64 (k : Nat) ∧ MovU zs zz a (k - a) ∧ RowC wy g zz ∧ w.grownBy wy (some g)) (fun kv _ => i - (intOf kv).toNat)
   case atStart => exact ⟨a, zs, Nat.le_refl _, by have := HMA.out; omega, rfl, by rw [Nat.sub_self]; exact MovU.start _ _, HRW.out, HGR.out⟩
   case round =>
    clear HRW HGR
    obtain ⟨k, zz, k1, k2, rfl, hmv, hrw, hgr⟩ := hrel
    have HMV := Lib.hid hmv
    have HRW := Lib.hid hrw
    have HGR := Lib.hid hgr
    have HZL : Hid (zz.length = n) := by show _ = _; rw [hmv.len (by rw [HN.out]; omega), HN.out]
    clear hmv hrw hgr
    by_cases hkk : k + 1 < i
    ·have hki : (k : Int) < (i : Int) - 1 := by omega
     obtain ⟨u, hu⟩ : ∃ u, zz[k]? = some u := ⟨_, List.getElem?_eq_getElem (by rw [HZL.out]; omega)⟩
     obtain ⟨v, hv⟩ : ∃ v, zz[k + 1]? = some v := ⟨_, List.getElem?_eq_getElem (by rw [HZL.out]; omega)⟩
     obtain ⟨hcx, hcx'⟩ := HRW.out.cell k u hu
     obtain ⟨hcy, hcy'⟩ := HRW.out.cell (k + 1) v hv
     obtain ⟨p3, m3, c3, p3', m3', c3', e3⟩ := HSL.out u (HMV.out.mem (List.mem_of_getElem? hu))
     obtain ⟨p4, m4, c4, p4', m4', c4', e4⟩ := HSL.out v (HMV.out.mem (List.mem_of_getElem? hv))
     have hs2 := HMV.out.step (t := k - a) (x := u) (y := v) (by rw [HN.out]; omega) (by rw [show a + (k - a) = k from by omega]; exact hu) (by rw [show a + (k - a) = k from by omega]; exact hv)
     rw [show a + (k - a) = k from by omega, show k - a + 1 = k + 1 - a from by omega] at hs2
     have HS2 := Lib.hid hs2
     have HR2 := Lib.hid ((HRW.out.set k v (by rw [HZL.out]; omega)).set (k + 1) u (by simp; rw [HZL.out]; omega))
     have hfx := HRW.out.free (k * 2)
     have hfx' := HRW.out.free (k * 2 + 1)
     have hfy := HRW.out.free ((k + 1) * 2)
     have hfy' := HRW.out.free ((k + 1) * 2 + 1)
     rw [e3] at hcx hcx'
     rw [e4] at hcy hcy'
     simp only [setC, e3, e4] at HR2
     clear hu hv e3 e4 hs2 hkk
     go_wp2
     have b5 : (0 : Int) ≤ (k : Int) := by omega
     have b6 : (k : Int) < (n : Int) := by omega
     have b7 : (0 : Int) ≤ (k : Int) + 1 := by omega
     have b8 : (k : Int) + 1 < (n : Int) := by omega
     have b9 : ((k : Int) + 1).toNat = k + 1 := by omega
     have b10 : IntKind.i64.wrap ((k : Int) + 1) = (k : Int) + 1 := IntWalk.i64_in _ (by omega)
     go_region
     clear b10
     go_wp2
     exact ⟨⟨k + 1, _, by omega, by omega, by go_num, HS2.out, HR2.out.kept rfl, (HGR.out.trans (grown_setC wr g k ((.slice p4 m4 c4, .slice p4' m4' c4'), ⟨[], []⟩))).trans ((grown_setC _ g (k + 1) ((.slice p3 m3 c3, .slice p3' m3' c3'), ⟨[], []⟩)).trans (grown_of_below (Below.refl _ _).drew _))⟩, by show i - _ < i - _; simp [intOf]; omega⟩
    ·have hki : ¬ (k : Int) < (i : Int) - 1 := by omega
     have HF := Lib.hid (HM.out.one_left HMA.out HX.out HBI.out (by rw [show i - m = k - a from by have := HMA.out; omega]; exact HMV.out))
     clear hkk
     go_wp2
     go_end0
     exact ⟨rfl, zz, HF.out, HRW.out, HGR.out⟩

set_option maxHeartbeats 8000000 in
set_option maxRecDepth 100000 in
theorem symRightC_any (fc : Nat) (lb : Array Value) (K : ElC → List Int) (xs zs : List ElC) (g n cap a m b : Nat) (W0 w : World) (eg : ∀ args w, (callFunc fc args).run Tryz.prog w = .ok (.enter fc args) w)
  (hg : W0.grownBy w (some g)) (hr : RowC w g zs) (hme : ∀ x ∈ zs, x ∈ xs) (hsl : ∀ x ∈ xs, ShC x) (hc : CmpC fc lb K xs g W0) (hn : zs.length = n) (hma : a + 1 < m) (hmb : b = m + 1) (hb : b ≤ n) (hnl : n ≤ 1000000) (hm : MrgS K a m b zs) :
  Calls Tryz.prog 128 #[.slice (some ⟨g, 0, none⟩) n cap, .int .i64 a, .int .i64 m, .int .i64 b, .func (.func fc) #[] lb] w (RetSwC (fun z => MrgE K a b zs z) g w) := by
 have HR := Lib.hid hr
 have HG := Lib.hid hg
 have HSL := Lib.hid (fun x hx => hsl x (hme x hx))
 have HME := Lib.hid hme
 have HC := Lib.hid hc
 have HN := Lib.hid hn
 have HM := Lib.hid hm
 have HMB := Lib.hid hmb
 have t0 : ((m : Int) - (a : Int) == 1) = false := by rw [beq_eq_false_iff_ne]; omega
 have t1 : ((b : Int) - (m : Int) == 1) = true := by rw [beq_iff_eq]; omega
 obtain ⟨x, hx⟩ : ∃ x, zs[m]? = some x := ⟨_, List.getElem?_eq_getElem (by omega)⟩
 have HX := Lib.hid hx
 have HD := Lib.hid (hm.downUpTo x)
 obtain ⟨p1, m1, c1, p1', m1', c1', e1⟩ := HSL.out x (List.mem_of_getElem? hx)
 have E1 := Lib.hid e1
 have b0 : m < n := by omega
 clear hr hg hsl hme hc hn hm hmb hx e1
 go_enter Tryz.func128, Tryz.ntmps128
 go_wp2
 clear t0 t1
 go_loopw [14, 15] (fun iv jv wr => ∃ i j : Nat, a ≤ i ∧ i ≤ j ∧ j ≤ m ∧ iv = .int .i64 (i : Nat) ∧ jv = .int .i64 (j : Nat) ∧ Bis (UpToK K zs x) a m i j ∧ RowC wr g zs ∧ w.grownBy wr (some g)) (fun iv jv _ => (intOf jv).toNat - (intOf iv).toNat)
 case atStart => exact ⟨a, m, Nat.le_refl _, by omega, Nat.le_refl _, rfl, rfl, Bis.start (by omega), HR.out, grown_of_below (Below.refl _ _) _⟩
 case round =>
  obtain ⟨i, j, h1, h2, h3, rfl, rfl, hbi, hrw, hgr⟩ := hrel
  have HBI := Lib.hid hbi
  have HRW := Lib.hid hrw
  have HGR := Lib.hid hgr
  clear hbi hrw hgr
  by_cases hlt : i < j
  ·obtain ⟨c, hc⟩ : ∃ c, c = (i + j) / 2 := ⟨_, rfl⟩
   have M3 : Hid (((i : Int) + (j : Int)) / 2 = (c : Int)) := by show _ = _; omega
   have ci1 : i ≤ c := by omega
   have ci2 : c < j := by omega
   clear hc
   obtain ⟨y, hy⟩ : ∃ y, zs[c]? = some y := ⟨_, List.getElem?_eq_getElem (by rw [HN.out]; omega)⟩
   have HY := Lib.hid hy
   obtain ⟨hcx, hcx'⟩ := HRW.out.cell m x HX.out
   obtain ⟨hcy, hcy'⟩ := HRW.out.cell c y hy
   obtain ⟨p2, m2, c2, p2', m2', c2', e2⟩ := HSL.out y (List.mem_of_getElem? hy)
   have HCC := Lib.hid (fun w1 (h1 : W0.grownBy w1 (some g)) => HC.out w1 x y h1 (HME.out x (List.mem_of_getElem? HX.out)) (HME.out y (List.mem_of_getElem? hy)))
   rw [E1.out] at hcx hcx'
   rw [e2] at hcy hcy'
   rw [show aggC x = .agg #[.slice p1 m1 c1, .slice p1' m1' c1'] from by rw [aggC, E1.out], show aggC y = .agg #[.slice p2 m2 c2, .slice p2' m2' c2'] from by rw [aggC, e2]] at HCC
   clear hy e2
   have K1 : Hid (∀ w', Below wr.heap.size wr w' → w'.cell? ⟨g, c * 2, none⟩ = some (.slice p2 m2 c2) ∧ w'.cell? ⟨g, c * 2 + 1, none⟩ = some (.slice p2' m2' c2') ∧ w'.cell? ⟨g, m * 2, none⟩ = some (.slice p1 m1 c1) ∧ w'.cell? ⟨g, m * 2 + 1, none⟩ = some (.slice p1' m1' c1') ∧ Below wr.heap.size wr w') := fun w' hb' => ⟨cell_later hcy hb', cell_later hcy' hb', cell_later hcx hb', cell_later hcx' hb', hb'⟩
   have HIS : Hid (g < wr.heap.size) := World.block_lt_of_cell? _ _ hcx
   have hd3 : IntKind.i64.wrap ((i : Int) + (j : Int)) = (i : Int) + (j : Int) := IntWalk.i64_in _ (by omega)
   have hd4 : IntKind.u64.wrap ((i : Int) + (j : Int)) = (i : Int) + (j : Int) := by rw [IntKind.wrap_u64]; omega
   generalize hcm : cmpI (K x) (K y) = cv at HCC
   have HCM := Lib.hid hcm
   have HCI := Lib.hid (And.intro ci1 ci2)
   have b1 : (0 : Int) ≤ (c : Int) := by omega
   have b2 : (c : Int) < (n : Int) := by omega
   have b3 : (0 : Int) ≤ (m : Int) := by omega
   have b4 : (m : Int) < (n : Int) := by omega
   clear hcm hcx hcy hcx' hcy'
   go_upto_region 17 with (fail)
   rw [M3.out]
   clear hd3 hd4
   obtain ⟨hcy, hcy', hcx, hcx', -⟩ := K1.out wr (Below.refl _ _)
   go_region_held3 (fun w' => w'.cell? ⟨g, c * 2, none⟩ = some (.slice p2 m2 c2) ∧ w'.cell? ⟨g, c * 2 + 1, none⟩ = some (.slice p2' m2' c2') ∧ w'.cell? ⟨g, m * 2, none⟩ = some (.slice p1 m1 c1) ∧ w'.cell? ⟨g, m * 2 + 1, none⟩ = some (.slice p1' m1' c1') ∧ Below wr.heap.size wr w')
    (first | exact K1.out _ (Below.refl _ _).drew | exact K1.out _ (by assumption))
    ((refine (HCC.out _ ((HG.out.trans HGR.out).trans (grown_of_below (Below.refl _ _).drew _))).mono ?_; rintro e w2 ⟨rfl, hb2⟩; have hb3 : Below wr.heap.size wr w2 := below_keep (Below.refl _ _).drew hb2))
   have HG2 := Lib.hid ((HGR.out.trans (grown_of_below hb3 (some g))))
   have HR2 := Lib.hid (HRW.out.kept (hb3.block g HIS.out))
   clear hb2 hb3 HCC K1 hcx hcy hcx' hcy'
   rcases cmpI_cases (K x) (K y) with hv | hv | hv
   ·have HB2 := Lib.hid (HBI.out.down HD.out HCI.out.1 HCI.out.2 (by
     rintro ⟨y', hy', hl⟩
     rw [HY.out] at hy'
     cases hy'
     exact hl hv))
    rw [HCM.out] at hv
    subst hv
    go_wp2
    exact ⟨⟨i, c, h1, by omega, by omega, rfl, rfl, HB2.out, HR2.out, HG2.out⟩, by show (intOf _).toNat - _ < _ - _; simp [intOf]; omega⟩
   ·have HB2 := Lib.hid (HBI.out.up HD.out HCI.out.1 HCI.out.2 ⟨y, HY.out, by unfold ltK; rw [hv]; decide⟩)
    rw [HCM.out] at hv
    subst hv
    go_wp2
    exact ⟨⟨c + 1, j, by omega, by omega, h3, by go_num, rfl, HB2.out, HR2.out, HG2.out⟩, by show (intOf _).toNat - _ < _ - _; simp [intOf]; omega⟩
   ·have HB2 := Lib.hid (HBI.out.up HD.out HCI.out.1 HCI.out.2 ⟨y, HY.out, by unfold ltK; rw [hv]; decide⟩)
    rw [HCM.out] at hv
    subst hv
    go_wp2
    exact ⟨⟨c + 1, j, by omega, by omega, h3, by go_num, rfl, HB2.out, HR2.out, HG2.out⟩, by show (intOf _).toNat - _ < _ - _; simp [intOf]; omega⟩
  ·obtain rfl : i = j := by omega
   go_wp2
   obtain ⟨w0, hw0⟩ : ∃ w0, w0 = wr := ⟨_, rfl⟩
   rw [← hw0] at HRW HGR ⊢
   clear hw0
   go_loopw [17] (fun kv wy => ∃ (k : Nat) (zz : List ElC), i ≤ k ∧ k ≤ m ∧ kv = .int .i64 (k : Nat) ∧ MovD zs zz m (m - k) ∧ RowC wy g zz ∧ w.grownBy wy (some g)) (fun kv _ => (intOf kv).toNat)
   case atStart => exact ⟨m, zs, by omega, Nat.le_refl _, rfl, by rw [Nat.sub_self]; exact MovD.start _ _, HRW.out, HGR.out⟩
   case round =>
    clear HRW HGR
    obtain ⟨k, zz, k1, k2, rfl, hmv, hrw, hgr⟩ := hrel
    have HMV := Lib.hid hmv
    have HRW := Lib.hid hrw
    have HGR := Lib.hid hgr
    have HZL : Hid (zz.length = n) := by show _ = _; rw [hmv.len (by rw [HN.out]; omega) (by omega), HN.out]
    clear hmv hrw hgr
    by_cases hkk : i < k
    ·obtain ⟨q, rfl⟩ : ∃ q, k = q + 1 := ⟨k - 1, by omega⟩
     obtain ⟨u, hu⟩ : ∃ u, zz[q + 1]? = some u := ⟨_, List.getElem?_eq_getElem (by rw [HZL.out]; omega)⟩
     obtain ⟨v, hv⟩ : ∃ v, zz[q]? = some v := ⟨_, List.getElem?_eq_getElem (by rw [HZL.out]; omega)⟩
     obtain ⟨hcx, hcx'⟩ := HRW.out.cell (q + 1) u hu
     obtain ⟨hcy, hcy'⟩ := HRW.out.cell q v hv
     obtain ⟨p3, m3, c3, p3', m3', c3', e3⟩ := HSL.out u (HMV.out.mem (List.mem_of_getElem? hu))
     obtain ⟨p4, m4, c4, p4', m4', c4', e4⟩ := HSL.out v (HMV.out.mem (List.mem_of_getElem? hv))
     have hs2 := HMV.out.step (j := q) (x := u) (y := v) (by rw [HN.out]; omega) (by omega) hu hv
     rw [show m - (q + 1) + 1 = m - q from by omega] at hs2
     have HS2 := Lib.hid hs2
     have HR2 := Lib.hid ((HRW.out.set (q + 1) v (by rw [HZL.out]; omega)).set q u (by simp; rw [HZL.out]; omega))
     have hfx := HRW.out.free ((q + 1) * 2)
     have hfx' := HRW.out.free ((q + 1) * 2 + 1)
     have hfy := HRW.out.free (q * 2)
     have hfy' := HRW.out.free (q * 2 + 1)
     rw [e3] at hcx hcx'
     rw [e4] at hcy hcy'
     simp only [setC, e3, e4] at HR2
     have hki : (i : Int) < (q : Int) + 1 := by omega
     clear hu hv e3 e4 hs2 hkk
     go_wp2
     have b5 : (0 : Int) ≤ (q : Int) := by omega
     have b6 : (q : Int) < (n : Int) := by omega
     have b7 : (0 : Int) ≤ (q : Int) + 1 := by omega
     have b8 : (q : Int) + 1 < (n : Int) := by omega
     have b9 : ((q : Int) + 1).toNat = q + 1 := by omega
     have b10 : IntKind.i64.wrap ((q : Int) + 1 - 1) = (q : Int) := by rw [Int.add_sub_cancel]; exact IntWalk.i64_in _ (by omega)
     have b11 : IntKind.i64.wrap (q : Int) = (q : Int) := IntWalk.i64_in _ (by omega)
     go_region
     clear b10 b11
     go_wp2
     exact ⟨⟨q, _, by omega, by omega, rfl, HS2.out, HR2.out.kept rfl, (HGR.out.trans (grown_setC wr g (q + 1) ((.slice p4 m4 c4, .slice p4' m4' c4'), ⟨[], []⟩))).trans ((grown_setC _ g q ((.slice p3 m3 c3, .slice p3' m3' c3'), ⟨[], []⟩)).trans (grown_of_below (Below.refl _ _).drew _))⟩, by show _ < _; simp [intOf]⟩
    ·obtain rfl : k = i := by omega
     have HF := Lib.hid (HM.out.one_right HMB.out HX.out HBI.out HMV.out)
     clear hkk
     go_wp2
     go_end0
     exact ⟨rfl, zz, HF.out, HRW.out, HGR.out⟩
end Go.Proofs.YthlkcppbljpooaaGreatDoor
