/- Lemmas and contracts, each under its own condition: Cut: plain words; space.Cut: the contract. The reference's Cut: the contract. (printed by rcut.py) The walk of SpaceCut. -/
import Derived.BigQuiet
import Derived.Deep.DeepCutAuto
import Derived.Deep.CutBlock
import Derived.Test.YtebpfbgaafchjaaGreatDoorS15
import Derived.Test.YtebpfbgaafchjaaGreatDoorS17
import Derived.Test.YtebpfbgaafchjaaGreatDoorS22
import Derived.Test.YtebpfbgaafchjaaGreatDoorS36
import Derived.Test.YtebpfbgaafchjaaGreatDoorS40
import Derived.Test.YtebpfbgaafchjaaGreatDoorS41
/- Cut: plain words; space.Cut: the contract. -/
namespace Go.Proofs.YtebpfbgaafchjaaGreatDoor
open Go.RowKit Go.Shelf
attribute [local go_sem] Oper.semAt_some

def cutL (lo hi : List Int) (l : List CellT) : List CellT := l.filter fun c => hasB lo hi c.co
def cutE (x : ArrT) (lo hi : List Int) : Int := if checkE x ≠ 0 then 2 else if formedB lo hi = false ∨ lo.length ≠ x.dims.length then 13 else 0
def cutQ (x : ArrT) (lo hi : List Int) : ArrT := if cutE x lo hi ≠ 0 then ⟨[], [], []⟩ else ⟨x.dims, x.attrs, cutL lo hi x.cells⟩
/-- a result: an array, and an error -/
def RetAe (x : ArrT) (r : Int) (w : World) (e : Ending) (w' : World) : Prop := ∃ v1 v2 v3, e = .returned (.tuple #[.agg #[v1, v2, v3], .int .i64 r]) ∧ ArrR w' v1 v2 v3 x ∧ Below w.heap.size w w'
theorem cutL_snoc {lo hi : List Int} {l : List CellT} {i : Nat} {c : CellT} (h : l[i]? = some c) : cutL lo hi (l.take (i + 1)) = if hasB lo hi c.co = true then cutL lo hi (l.take i) ++ [c] else cutL lo hi (l.take i) := by
 rw [take_snoc' h]
 unfold cutL
 rw [List.filter_append]
 split
 ·rename_i h1; simp [h1]
 ·rename_i h1; simp [h1]
theorem cutL_len (lo hi : List Int) (l : List CellT) : (cutL lo hi l).length ≤ l.length := List.length_filter_le _ _
theorem check_short {x : ArrT} (h : checkE x = 0) : ShortC x.cells ∧ x.attrs.length ≤ 6 := by
 have h1 := (check_parts h).1
 have h6 : x.attrs.length ≤ 6 := by
  unfold schemaE at h1
  split at h1
  ·rename_i h2; exact absurd h1 h2
  ·split at h1
   ·cases h1
   ·omega
 refine ⟨fun c hc => ?_, h6⟩
 have h2 := cellsL_mem _ _ (check_parts h).2.2 c hc
 have h4 := (check_dims h).2
 unfold cellE at h2
 split at h2
 ·cases h2
 ·rename_i h3
  have h5 : c.co.length = x.dims.length := Classical.byContradiction fun h => h3 (.inl h)
  have h7 : c.vals.length = x.attrs.length := Classical.byContradiction fun h => h3 (.inr h)
  omega
/-- a list of cells that was made here, the parts of the cells being those of an older world -/
structure CutO (n₀ : Nat) (w0 w : World) (v : Value) (l : List CellT) : Prop where
 ex : ∃ us : List (Value × Value), us.length = l.length ∧ w.ownsRow n₀ 48 2 v l.length (us.flatMap fun u => [u.1, u.2]) ∧ ∀ (i : Nat) (c : CellT) (u : Value × Value), l[i]? = some c → us[i]? = some u → Ints w0 u.1 c.co ∧ Vals w0 u.2 c.vals
theorem CutO.nil (n₀ : Nat) (w0 w : World) : CutO n₀ w0 w (.slice none 0 0) [] := ⟨[], rfl, World.ownsRow_nil _ _ _ _, fun i x u h => by simp at h⟩
theorem CutO.later {n₀ : Nat} {w0 w w' : World} {v : Value} {l : List CellT} (h : CutO n₀ w0 w v l) (hb : Below w.heap.size w w') : CutO n₀ w0 w' v l := by
 obtain ⟨us, h1, h2, h3⟩ := h
 exact ⟨us, h1, h2.kept (row := none) (grown_of_below hb none) (by cases v.ownBlock <;> simp), h3⟩
theorem CutO.snoc {n₀ : Nat} {w0 w' : World} {v' u1 u2 : Value} {l : List CellT} {c : CellT} {us : List (Value × Value)} (hl : us.length = l.length) (hx : ∀ (i : Nat) (c : CellT) (u : Value × Value), l[i]? = some c → us[i]? = some u → Ints w0 u.1 c.co ∧ Vals w0 u.2 c.vals)
  (hn : w'.ownsRow n₀ 48 2 v' (l.length + 1) ((us.flatMap fun u => [u.1, u.2]) ++ [u1, u2])) (h1 : Ints w0 u1 c.co) (h2 : Vals w0 u2 c.vals) : CutO n₀ w0 w' v' (l ++ [c]) := by
 refine ⟨us ++ [(u1, u2)], by simp [hl], by simpa using hn, fun i y z hi hz => ?_⟩
 by_cases hlt : i < l.length
 ·rw [List.getElem?_append_left hlt] at hi
  rw [List.getElem?_append_left (by omega)] at hz
  exact hx i y z hi hz
 ·rw [List.getElem?_append_right (by omega)] at hi hz
  rw [hl] at hz
  have h0 : i - l.length = 0 := by
   have := (List.getElem?_eq_some_iff.1 hi).1
   simp at this; omega
  rw [h0] at hi hz
  simp only [List.getElem?_cons_zero, Option.some.injEq] at hi hz
  subst hi hz
  exact ⟨h1, h2⟩
theorem CutO.cells {n₀ : Nat} {w0 w : World} {v : Value} {l : List CellT} (h : CutO n₀ w0 w v l) (hb : Below w0.heap.size w0 w) : CellsA w v l := by
 obtain ⟨us, hl, ho, hx⟩ := h
 have hc : ∀ {g : Nat}, v.ownBlock = some g → ∀ j u, (us.flatMap fun u => [u.1, u.2])[j]? = some u → w.cell? ((⟨g, 0, none⟩ : Addr).add j) = some u := fun hg => ho.cells hg
 rcases ho.2 with ⟨rfl, h0⟩ | ⟨g, cap, cur, rfl, h1, h2, h3, h4, h5, h6⟩
 ·have : l = [] := List.length_eq_zero_iff.1 h0
  subst this
  exact Ls.nil _ _ _ (by omega)
 ·unfold maxLen at h4
  refine ⟨_, cap, rfl, h3, h4, fun h0 => ⟨g, 0, rfl, fun i x hi => ?_⟩⟩
  have hlt : i < us.length := by rw [hl]; exact (List.getElem?_eq_some_iff.1 hi).1
  have hu := List.getElem?_eq_getElem hlt
  have f0 := flat_at (k := 2) (f := fun u : Value × Value => [u.1, u.2]) (fun _ => rfl) us i us[i] 0 us[i].1 hu rfl
  have f1 := flat_at (k := 2) (f := fun u : Value × Value => [u.1, u.2]) (fun _ => rfl) us i us[i] 1 us[i].2 hu rfl
  have e0 := hc (g := g) rfl _ _ f0
  have e1 := hc (g := g) rfl _ _ f1
  rw [show (⟨g, 0, none⟩ : Addr).add (i * 2 + 0) = ⟨g, 0 + i * 2, none⟩ from by unfold Addr.add; split <;> simp_all] at e0
  rw [show (⟨g, 0, none⟩ : Addr).add (i * 2 + 1) = ⟨g, 0 + i * 2 + 1, none⟩ from by unfold Addr.add; split <;> simp_all] at e1
  have hce := hx i x us[i] hi hu
  exact ⟨us[i].1, us[i].2, e0, e1, hce.1.later IntR.lasts hb, hce.2.later ValR.lasts hb⟩
theorem arrR_nil (w : World) : ArrR w (.slice none 0 0) (.slice none 0 0) (.slice none 0 0) ⟨[], [], []⟩ := ⟨Ls.nil _ _ _ (by omega), Ls.nil _ _ _ (by omega), Ls.nil _ _ _ (by omega)⟩
theorem cut_at (w : World) (v1 v2 v3 b1 b2 : Value) : ∃ W1, W1 = ((w.alloc (.cells #[v1, v2, v3] 41)).alloc (.cells #[b1, b2] 26)).alloc (.cells #[.slice none 0 0, .slice none 0 0, .slice none 0 0] 41) ∧ Below w.heap.size w W1 ∧ W1.heap.size = w.heap.size + 3 ∧
  ∀ w', Below W1.heap.size W1 w' → (w'.cell? ⟨w.heap.size, 0, none⟩ = some v1 ∧ w'.cell? ⟨w.heap.size, 1, none⟩ = some v2 ∧ w'.cell? ⟨w.heap.size, 2, none⟩ = some v3) ∧ (w'.cell? ⟨w.heap.size + 1, 0, none⟩ = some b1 ∧ w'.cell? ⟨w.heap.size + 1, 1, none⟩ = some b2) ∧
   (w'.cell? ⟨w.heap.size + 2, 0, none⟩ = some (.slice none 0 0) ∧ w'.cell? ⟨w.heap.size + 2, 1, none⟩ = some (.slice none 0 0) ∧ w'.cell? ⟨w.heap.size + 2, 2, none⟩ = some (.slice none 0 0)) ∧ (w'.frozen? ⟨w.heap.size + 2, 0, none⟩ = false ∧ w'.frozen? ⟨w.heap.size + 2, 1, none⟩ = false ∧ w'.frozen? ⟨w.heap.size + 2, 2, none⟩ = false) ∧ TagB w' (w.heap.size + 2) 41 := by
 have hb1 : Below w.heap.size w (w.alloc (.cells #[v1, v2, v3] 41)) := below_alloc _ _
 have hb2 : Below (w.alloc (.cells #[v1, v2, v3] 41)).heap.size (w.alloc (.cells #[v1, v2, v3] 41)) ((w.alloc (.cells #[v1, v2, v3] 41)).alloc (.cells #[b1, b2] 26)) := below_alloc _ _
 obtain ⟨W3, hW3, hb3, hx3⟩ := arr_zero ((w.alloc (.cells #[v1, v2, v3] 41)).alloc (.cells #[b1, b2] 26))
 have hsz : ((w.alloc (.cells #[v1, v2, v3] 41)).alloc (.cells #[b1, b2] 26)).heap.size = w.heap.size + 2 := by simp
 refine ⟨W3, hW3, below_keep (below_keep hb1 hb2) hb3, by rw [hW3]; simp, fun w' hb => ?_⟩
 have h1 : ∀ j, w'.cell? ⟨w.heap.size, j, none⟩ = (w.alloc (.cells #[v1, v2, v3] 41)).cell? ⟨w.heap.size, j, none⟩ := fun j => (below_keep (below_keep hb2 hb3) hb).cell (p := ⟨w.heap.size, j, none⟩) (by simp)
 have h2 : ∀ j, w'.cell? ⟨w.heap.size + 1, j, none⟩ = ((w.alloc (.cells #[v1, v2, v3] 41)).alloc (.cells #[b1, b2] 26)).cell? ⟨w.heap.size + 1, j, none⟩ := fun j => (below_keep hb3 hb).cell (p := ⟨w.heap.size + 1, j, none⟩) (by simp)
 have hr := hx3 w' hb
 rw [hsz] at hr
 refine ⟨⟨?_, ?_, ?_⟩, ⟨?_, ?_⟩, hr⟩
 ·rw [h1, World.cell?_alloc_at _ _ _ _ rfl]; rfl
 ·rw [h1, World.cell?_alloc_at _ _ _ _ rfl]; rfl
 ·rw [h1, World.cell?_alloc_at _ _ _ _ rfl]; rfl
 ·rw [h2, World.cell?_alloc_at _ _ _ _ (by simp)]; rfl
 ·rw [h2, World.cell?_alloc_at _ _ _ _ (by simp)]; rfl
theorem two_new (w : World) (u1 u2 : Value) (t : TypeId) : ∀ j u, [u1, u2][j]? = some u → (w.alloc (.cells #[u1, u2] t)).cell? ((⟨w.heap.size, 0, none⟩ : Addr).add j) = some u := fun j u h => by
 have e : ((⟨w.heap.size, 0, none⟩ : Addr).add j) = ⟨w.heap.size, j, none⟩ := by unfold Addr.add; split <;> simp_all
 rw [e, World.cell?_alloc_at _ _ _ _ rfl]
 simpa using h
theorem below3 {w w1 : World} (h : Below w.heap.size w w1) (g : Nat) (hg : w.heap.size ≤ g) (x y t : Value) : Below w.heap.size w (((w1.setCell ⟨g, 0, none⟩ x).setCell ⟨g, 1, none⟩ y).setCell ⟨g, 2, none⟩ t) := ((h.setCell (p := ⟨g, 0, none⟩) hg _).setCell (p := ⟨g, 1, none⟩) hg _).setCell (p := ⟨g, 2, none⟩) hg _
set_option maxHeartbeats 3200000 in
theorem cut_bad (x : ArrT) (lo hi : List Int) (vd va vc vl vh : Value) (w : World) (hx : ArrR w vd va vc x) (hlo : Ints w vl lo) (hhi : Ints w vh hi) (hs : StrD x.dims) (hsa : StrA x.attrs) (h : checkE x ≠ 0) :
  Calls Tryz.prog 34 #[.agg #[vd, va, vc], .agg #[vl, vh]] w (RetAe ⟨[], [], []⟩ 2 w) := by
 have C := Lib.hid (fun w1 (hb : Below w.heap.size w w1) => checkA_any x vd va vc w1 (hx.later hb) hs hsa)
 obtain ⟨p1, k1, rfl, -⟩ := hx.dims.shape
 obtain ⟨p2, k2, rfl, -⟩ := hx.attrs.shape
 obtain ⟨p3, k3, rfl, -⟩ := hx.cells.shape
 obtain ⟨p4, k4, rfl, -⟩ := hlo.shape
 obtain ⟨p5, k5, rfl, -⟩ := hhi.shape
 have hne : (checkE x != 0) = true := by rw [bne_iff_ne]; exact h
 generalize checkE x = r at *
 obtain ⟨W1, hW1, hb1, -, hbx⟩ := cut_at w (.slice p1 x.dims.length k1) (.slice p2 x.attrs.length k2) (.slice p3 x.cells.length k3) (.slice p4 lo.length k4) (.slice p5 hi.length k5)
 have HB1 := Lib.hid hb1
 have HBX := Lib.hid hbx
 obtain ⟨⟨z0, z1, z2⟩, -⟩ := hbx W1 (Below.refl _ _)
 clear hx hs hsa h hb1 hbx hlo hhi
 go_enter Tryz.func34, Tryz.ntmps34
 go_upto_region 1 with (fail)
 rw [← hW1]
 clear hW1
 go_wp2_with fail
 refine (C.out _ HB1.out).mono ?_
 rintro e w2 ⟨rfl, hb⟩
 have HB2 := Lib.hid (below_keep HB1.out hb)
 obtain ⟨-, -, ⟨r0, r1, r2⟩, ⟨f0, f1, f2⟩, -⟩ := HBX.out w2 hb
 clear hb C z0 z1 z2
 go_wp2
 refine bodyPost_ret (by simp [results, Tryz.results34, go_sem, r0, r1, r2]; try rfl) rfl ?_
 exact ⟨_, _, _, rfl, arrR_nil _, below3 HB2.out _ (by omega) _ _ _⟩
set_option maxHeartbeats 3200000 in
theorem cut_shape (x : ArrT) (lo hi : List Int) (vd va vc vl vh : Value) (w : World) (hx : ArrR w vd va vc x) (hlo : Ints w vl lo) (hhi : Ints w vh hi) (hs : StrD x.dims) (hsa : StrA x.attrs) (h : checkE x = 0) (h2 : formedB lo hi = false ∨ lo.length ≠ x.dims.length) :
  Calls Tryz.prog 34 #[.agg #[vd, va, vc], .agg #[vl, vh]] w (RetAe ⟨[], [], []⟩ 13 w) := by
 have C := Lib.hid (fun w1 (hb : Below w.heap.size w w1) => checkA_any x vd va vc w1 (hx.later hb) hs hsa)
 rw [h] at C
 have CF := Lib.hid (fun w1 (hb : Below w.heap.size w w1) => formed_any vl vh lo hi w1 (hlo.later IntR.lasts hb) (hhi.later IntR.lasts hb))
 obtain ⟨p1, k1, rfl, -⟩ := hx.dims.shape
 obtain ⟨p2, k2, rfl, -⟩ := hx.attrs.shape
 obtain ⟨p3, k3, rfl, -⟩ := hx.cells.shape
 obtain ⟨p4, k4, rfl, -⟩ := hlo.shape
 obtain ⟨p5, k5, rfl, -⟩ := hhi.shape
 obtain ⟨W1, hW1, hb1, -, hbx⟩ := cut_at w (.slice p1 x.dims.length k1) (.slice p2 x.attrs.length k2) (.slice p3 x.cells.length k3) (.slice p4 lo.length k4) (.slice p5 hi.length k5)
 have HB1 := Lib.hid hb1
 have HBX := Lib.hid hbx
 obtain ⟨⟨z0, z1, z2⟩, -⟩ := hbx W1 (Below.refl _ _)
 clear hx hs hsa h hb1 hbx hlo hhi
 go_enter Tryz.func34, Tryz.ntmps34
 go_upto_region 1 with (fail)
 rw [← hW1]
 clear hW1
 go_wp2_with fail
 refine (C.out _ HB1.out).mono ?_
 rintro e w2 ⟨rfl, hb⟩
 have HB2 := Lib.hid (below_keep HB1.out hb)
 have HC2 := Lib.hid hb
 obtain ⟨⟨d0, d1, d2⟩, ⟨y0, y1⟩, -⟩ := HBX.out w2 hb
 clear hb C z0 z1 z2
 cases hf : formedB lo hi with
 | false =>
  rw [hf] at CF
  clear h2 hf
  go_wp2_with fail
  refine (CF.out _ HB2.out).mono ?_
  rintro e w3 ⟨rfl, hb⟩
  have HB3 := Lib.hid (below_keep HB2.out hb)
  obtain ⟨-, -, ⟨r0, r1, r2⟩, ⟨f0, f1, f2⟩, -⟩ := HBX.out w3 (below_keep HC2.out hb)
  clear hb CF d0 d1 d2 y0 y1
  go_wp2
  refine bodyPost_ret (by simp [results, Tryz.results34, go_sem, r0, r1, r2]; try rfl) rfl ?_
  exact ⟨_, _, _, rfl, arrR_nil _, below3 HB3.out _ (by omega) _ _ _⟩
 | true =>
  rw [hf] at CF
  have h5 : ((lo.length : Int) != x.dims.length) = true := by
   rw [bne_iff_ne]
   rcases h2 with h | h
   ·rw [hf] at h; cases h
   ·omega
  clear h2 hf
  go_wp2_with fail
  refine (CF.out _ HB2.out).mono ?_
  rintro e w3 ⟨rfl, hb⟩
  have HB3 := Lib.hid (below_keep HB2.out hb)
  clear d0 d1 d2 y0 y1
  obtain ⟨⟨d0, d1, d2⟩, ⟨y0, y1⟩, ⟨r0, r1, r2⟩, ⟨f0, f1, f2⟩, -⟩ := HBX.out w3 (below_keep HC2.out hb)
  clear hb CF
  go_wp2
  refine bodyPost_ret (by simp [results, Tryz.results34, go_sem, r0, r1, r2]; try rfl) rfl ?_
  exact ⟨_, _, _, rfl, arrR_nil _, below3 HB3.out _ (by omega) _ _ _⟩
set_option maxHeartbeats 16000000 in
set_option maxRecDepth 100000 in
theorem cut_core (x : ArrT) (lo hi : List Int) (vd va vc vl vh : Value) (w : World) (hx : ArrR w vd va vc x) (hlo : Ints w vl lo) (hhi : Ints w vh hi) (hs : StrD x.dims) (hsa : StrA x.attrs) (h : checkE x = 0) (h2 : formedB lo hi = true) (h3 : lo.length = x.dims.length) :
  Calls Tryz.prog 34 #[.agg #[vd, va, vc], .agg #[vl, vh]] w (RetAe ⟨x.dims, x.attrs, cutL lo hi x.cells⟩ 0 w) := by
 have C := Lib.hid (fun w1 (hb : Below w.heap.size w w1) => checkA_any x vd va vc w1 (hx.later hb) hs hsa)
 rw [h] at C
 have CF := Lib.hid (fun w1 (hb : Below w.heap.size w w1) => formed_any vl vh lo hi w1 (hlo.later IntR.lasts hb) (hhi.later IntR.lasts hb))
 rw [h2] at CF
 have CH := Lib.hid (fun (c : List Int) (u : Value) w1 (hb : Below w.heap.size w w1) (hc : Ints w1 u c) => has_any vl vh u lo hi c w1 (hlo.later IntR.lasts hb) (hhi.later IntR.lasts hb) hc)
 have HD := Lib.hid hx.dims
 have HA := Lib.hid hx.attrs
 have HL := Lib.hid hx.cells
 have HSH := Lib.hid (check_short h)
 have HD4 := Lib.hid (check_dims h).2
 have HN4 := Lib.hid (check_parts h).2.1
 obtain ⟨p1, k1, rfl, -⟩ := hx.dims.shape
 obtain ⟨p2, k2, rfl, -⟩ := hx.attrs.shape
 obtain ⟨p3, k3, rfl, -⟩ := hx.cells.shape
 obtain ⟨p4, k4, rfl, -⟩ := hlo.shape
 obtain ⟨p5, k5, rfl, -⟩ := hhi.shape
 have h5 : ((lo.length : Int) != x.dims.length) = false := by rw [bne_eq_false_iff_eq]; omega
 obtain ⟨D, hDD⟩ : ∃ D, D = x.dims := ⟨_, rfl⟩
 obtain ⟨A, hAA⟩ : ∃ A, A = x.attrs := ⟨_, rfl⟩
 obtain ⟨L, hLL⟩ : ∃ L, L = x.cells := ⟨_, rfl⟩
 rw [← hDD, ← hAA, ← hLL] at C ⊢
 rw [← hDD] at HD HD4 h5
 rw [← hAA] at HA
 rw [← hLL] at HL HN4
 rw [← hAA, ← hLL] at HSH
 obtain ⟨j0, hj0, hy0, hy1, hy2⟩ := info_parts infoCell
 obtain ⟨W1, hW1, hb1, hs1, hbx⟩ := cut_at w (.slice p1 D.length k1) (.slice p2 A.length k2) (.slice p3 L.length k3) (.slice p4 lo.length k4) (.slice p5 hi.length k5)
 have HB1 := Lib.hid hb1
 have HBX := Lib.hid hbx
 obtain ⟨⟨z0, z1, z2⟩, -⟩ := hbx W1 (Below.refl _ _)
 clear hx hs hsa h hb1 hbx hlo hhi h2 h3 hDD hAA hLL hs1
 go_enter Tryz.func34, Tryz.ntmps34
 go_upto_region 1 with (fail)
 rw [← hW1]
 clear hW1
 go_wp2_with fail
 refine (C.out _ HB1.out).mono ?_
 rintro e w2 ⟨rfl, hb⟩
 have HB2 := Lib.hid (below_keep HB1.out hb)
 have HC2 := Lib.hid hb
 obtain ⟨⟨d0, d1, d2⟩, ⟨y0, y1⟩, -⟩ := HBX.out w2 hb
 clear hb C z0 z1 z2
 go_wp2_with fail
 refine (CF.out _ HB2.out).mono ?_
 rintro e w3 ⟨rfl, hb⟩
 have HB3 := Lib.hid (below_keep HB2.out hb)
 have HC3 := Lib.hid (below_keep HC2.out hb)
 clear d0 d1 d2 y0 y1
 obtain ⟨⟨d0, d1, d2⟩, ⟨y0, y1⟩, -⟩ := HBX.out w3 HC3.out
 clear hb CF
 go_wp2
 clear d0 d1 d2 y0 y1 h5
 go_loopw [6, 29] (fun lv iv wr => ∃ i : Nat, i ≤ L.length ∧ iv = .int .i64 (i : Nat) ∧ CutO w3.heap.size w wr lv (cutL lo hi (L.take i)) ∧ Below w3.heap.size w3 wr) (fun _ iv _ => L.length - (intOf iv).toNat)
 case atStart => exact ⟨0, Nat.zero_le _, rfl, CutO.nil _ _ _, Below.refl _ _⟩
 case round =>
  obtain ⟨i, hi', rfl, hco, hb⟩ := hrel
  have HCU := Lib.hid hco
  have HBR := Lib.hid hb
  have HBW := Lib.hid (below_keep HB3.out hb)
  obtain ⟨⟨d0, d1, d2⟩, ⟨y0, y1⟩, ⟨r0, r1, r2⟩, ⟨f0, f1, f2⟩, htg⟩ := HBX.out wr (below_keep HC3.out hb)
  obtain ⟨pv, kv, ev, -⟩ := (hco.cells HBW.out).shape
  clear hco hb
  by_cases hlt : i < L.length
  ·clear d0 d1 d2 r0 r1 r2 f0 f1 f2 htg
   obtain ⟨gq, oq, c, eq, hc, hr⟩ := HL.out.at i hlt
   subst eq
   obtain ⟨u1, u2, e1, e2, hi1, hv1⟩ := hr
   have e1 := cell_later e1 HBW.out
   have e2 := cell_later e2 HBW.out
   have HI1 := Lib.hid hi1
   have HV1 := Lib.hid hv1
   have HSN := Lib.hid (cutL_snoc (lo := lo) (hi := hi) hc)
   have HLN := Lib.hid (cutL_len lo hi (L.take i))
   have HLT : Hid ((L.take i).length ≤ L.length) := by show _ ≤ _; rw [List.length_take]; omega
   have CHC := Lib.hid (CH.out c.co u1)
   obtain ⟨l, hl⟩ : ∃ l, l = cutL lo hi (L.take i) := ⟨_, rfl⟩
   rw [← hl] at HCU HSN HLN ev
   obtain ⟨q1, m1, rfl, -⟩ := hi1.shape
   obtain ⟨q2, m2, rfl, -⟩ := hv1.shape
   have HI2 : Hid (i + 1 ≤ L.length ∧ L.length - (i + 1) < L.length - i) := by show _ ∧ _; omega
   have ib0 : (0 : Int) ≤ (i : Int) := by omega
   have ib1 : (i : Int) < (L.length : Int) := by omega
   obtain ⟨W5, hW5⟩ : ∃ W5, W5 = wr.alloc (.cells #[.slice q1 c.co.length m1, .slice q2 c.vals.length m2] 48) := ⟨_, rfl⟩
   have HB5 : Hid (Below wr.heap.size wr W5) := by rw [hW5]; exact below_alloc _ _
   have s1 : W5.cell? ⟨wr.heap.size, 0, none⟩ = some (.slice q1 c.co.length m1) := by rw [hW5, World.cell?_alloc_at _ _ _ _ rfl]; rfl
   have s2 : W5.cell? ⟨wr.heap.size, 1, none⟩ = some (.slice q2 c.vals.length m2) := by rw [hW5, World.cell?_alloc_at _ _ _ _ rfl]; rfl
   have HS := Lib.hid (And.intro s1 s2)
   have HY := Lib.hid (And.intro y0 y1)
   clear hc hl hi1 hv1 hi' hlt s1 s2 y0 y1
   subst ev
   have HIB : Hid (L.length ≤ 4096) := HN4.out
   go_upto_region 9 with (fail)
   rw [← hW5]
   clear hW5 e1 e2
   have y0 := cell_later HY.out.1 HB5.out
   have y1 := cell_later HY.out.2 HB5.out
   have s1 := HS.out.1
   obtain ⟨hb9, hhb9⟩ : ∃ b, b = hasB lo hi c.co := ⟨_, rfl⟩
   rw [← hhb9] at HSN
   have CHX := Lib.hid (CHC.out W5 (below_keep HBW.out HB5.out) (HI1.out.later IntR.lasts (below_keep HBW.out HB5.out)))
   rw [← hhb9] at CHX
   clear hhb9
   cases hb9 with
   | false =>
    have HE : Hid (cutL lo hi (L.take (i + 1)) = l) := by have := HSN.out; rwa [if_neg (by decide)] at this
    go_wp2_with fail
    refine CHX.out.mono ?_
    rintro e w6 ⟨rfl, hb⟩
    have HB6 := Lib.hid (below_keep HB5.out hb)
    have hn4 : L.length ≤ 4096 := HIB.out
    clear hb y0 y1 s1
    go_wp2
    exact ⟨⟨i + 1, HI2.out.1, by go_num, by rw [HE.out]; exact HCU.out.later HB6.out, below_keep HBR.out HB6.out⟩, HI2.out.2⟩
   | true =>
    have HE : Hid (cutL lo hi (L.take (i + 1)) = l ++ [c]) := by have := HSN.out; rwa [if_pos rfl] at this
    go_wp2_with fail
    refine CHX.out.mono ?_
    rintro e w6 ⟨rfl, hb⟩
    have HB6 := Lib.hid (below_keep HB5.out hb)
    clear y0 y1 s1
    have s1 := cell_later HS.out.1 hb
    have s2 := cell_later HS.out.2 hb
    obtain ⟨us, hul, hus, hux⟩ := (HCU.out.later HB6.out).ex
    have HUX := Lib.hid hux
    have HUL := Lib.hid hul
    have hl4 : l.length ≤ 4096 := Nat.le_trans HLN.out (Nat.le_trans HLT.out HIB.out)
    have hge : w3.heap.size ≤ w6.heap.size := Nat.le_trans HBR.out.size HB6.out.size
    clear hb hul hux
    go_wp2_with (at_builtin; refine wpList_append_lies _ (by rfl) _ _ 37 (by rfl) w3.heap.size 48 j0 (.agg #[.slice none 0 0, .slice none 0 0]) 2 48 Tryz.underlying37 hj0 hy0 hy1 hy2 rfl (by decide) (.slice pv l.length kv) l.length (us.flatMap fun u => [u.1, u.2]) (by rfl) (hus.alloc _) ⟨w6.heap.size, 0, none⟩ 1 1 [.slice q1 c.co.length m1, .slice q2 c.vals.length m2] (by rfl) (by rfl) (two_new _ _ _ _) (by simp [Value.oneCell']) (by omega) (by unfold maxLen; omega) (by omega) (by simp; omega) (w6.heap.size + 1) (by simp) ?_)
    intro g1 cp1 w7 hown hgrow hat hlt6
    have HE7 := Lib.hid (CutO.snoc (c := c) HUL.out HUX.out hown HI1.out HV1.out)
    have hbd : Below w6.heap.size w6 (w6.alloc (.cells #[.slice q1 c.co.length m1, .slice q2 c.vals.length m2] 48)) := below_alloc _ _
    have HB7 := Lib.hid ((below_keep HBR.out HB6.out).trans ((hbd.mono hge).grown hgrow (Nat.le_trans hge hbd.size) (fun k e => (hus.lt k e).1)))
    have hn4 : L.length ≤ 4096 := HIB.out
    clear hus hown hgrow hat hlt6 hbd s1 s2 hge hl4
    go_wp2
    exact ⟨⟨i + 1, HI2.out.1, by go_num, by rw [HE.out]; exact HE7.out, HB7.out⟩, HI2.out.2⟩
  ·obtain rfl : i = L.length := by omega
   rw [List.take_length] at HCU ev
   have hcl := HCU.out.cells HBW.out
   have HLN := Lib.hid (cutL_len lo hi L)
   have HSC : Hid (ShortC (cutL lo hi L)) := fun c hc => HSH.out.1 c (List.mem_filter.1 hc).1
   have CR := Lib.hid (fresh_any D A (cutL lo hi L) (.slice p1 D.length k1) (.slice p2 A.length k2) _ wr (HD.out.later DimR.lasts HBW.out) (HA.out.later AttrR.lasts HBW.out) hcl (by have := HD4.out; omega) (by have := HSH.out.2; omega) (by have := HLN.out; have := HN4.out; omega) HSC.out)
   subst ev
   obtain ⟨R, hR⟩ : ∃ R, R = cutL lo hi L := ⟨_, rfl⟩
   rw [← hR] at CR ⊢
   have HRR := Lib.hid hR
   clear hcl hR hlt hi' y0 y1 r0 r1 r2 f0 f1 f2 htg d2
   go_wp2_with fail
   refine CR.out.mono ?_
   rintro e w9 ⟨v1, v2, v3, rfl, n1, n2, n3, n4, n5, hb⟩
   have HB9 := Lib.hid (below_keep HBW.out hb)
   obtain ⟨-, -, ⟨r0, r1, r2⟩, ⟨f0, f1, f2⟩, htg⟩ := HBX.out w9 (below_keep HC3.out (below_keep HBR.out hb))
   have HDN := Lib.hid (fun t1 t2 t3 => arr_done (w := w) (X := ⟨D, A, R⟩) (x := t1) (y := t2) (t := t3) n1 n2 n3 n4 n5 htg HB9.out (by omega) HBW.out.size)
   obtain ⟨a1, b1, rfl, -⟩ := n1.shape
   obtain ⟨a2, b2, rfl, -⟩ := n3.shape
   obtain ⟨a3, b3, rfl, -⟩ := n5.cells.shape
   clear n1 n2 n3 n4 n5 hb htg d0 d1 CR
   go_wp2
   refine bodyPost_ret (by simp [results, Tryz.results34, go_sem, r0, r1, r2]; try rfl) rfl ?_
   obtain ⟨m1, -, m3, -, m5, m6⟩ := HDN.out (.slice a1 D.length b1) (.slice a2 A.length b2) (.slice a3 R.length b3)
   refine ⟨_, _, _, rfl, ?_, m6⟩
   rw [← HRR.out]
   exact ⟨m1, m3, m5.cells⟩
theorem cut_any (x : ArrT) (lo hi : List Int) (vd va vc vl vh : Value) (w : World) (hx : ArrR w vd va vc x) (hlo : Ints w vl lo) (hhi : Ints w vh hi) (hs : StrD x.dims) (hsa : StrA x.attrs) :
  Calls Tryz.prog 34 #[.agg #[vd, va, vc], .agg #[vl, vh]] w (RetAe (cutQ x lo hi) (cutE x lo hi) w) := by
 unfold cutQ cutE
 by_cases h : checkE x = 0
 ·rw [if_neg (show ¬ (checkE x ≠ 0) from fun h' => h' h)]
  by_cases h2 : formedB lo hi = false ∨ lo.length ≠ x.dims.length
  ·rw [if_pos h2]; exact cut_shape x lo hi vd va vc vl vh w hx hlo hhi hs hsa h h2
  ·rw [if_neg h2]
   exact cut_core x lo hi vd va vc vl vh w hx hlo hhi hs hsa h (by cases hf : formedB lo hi with | true => rfl | false => exact absurd (.inl hf) h2) (Classical.byContradiction fun h' => h2 (.inr h'))
 ·rw [if_pos (show checkE x ≠ 0 from h)]; exact cut_bad x lo hi vd va vc vl vh w hx hlo hhi hs hsa h
end Go.Proofs.YtebpfbgaafchjaaGreatDoor
/- The reference's Cut: the contract. (printed by rcut.py) -/
namespace Go.Proofs.YtebpfbgaafchjaaGreatDoor
open Go.RowKit Go.Shelf
attribute [local go_sem] Oper.semAt_some

set_option maxHeartbeats 3200000 in
theorem rcut_bad (x : ArrT) (lo hi : List Int) (vd va vc vl vh : Value) (w : World) (hx : ArrR w vd va vc x) (hlo : Ints w vl lo) (hhi : Ints w vh hi) (hs : StrD x.dims) (hsa : StrA x.attrs) (hsc : StrC x.cells) (h : checkE x ≠ 0) :
  Calls Tryz.prog 35 #[.agg #[vd, va, vc], .agg #[vl, vh]] w (RetAe ⟨[], [], []⟩ 2 w) := by
 have C := Lib.hid (fun w1 (hb : Below w.heap.size w w1) => rarr_any x vd va vc w1 (hx.later hb) hs hsa hsc)
 obtain ⟨p1, k1, rfl, -⟩ := hx.dims.shape
 obtain ⟨p2, k2, rfl, -⟩ := hx.attrs.shape
 obtain ⟨p3, k3, rfl, -⟩ := hx.cells.shape
 obtain ⟨p4, k4, rfl, -⟩ := hlo.shape
 obtain ⟨p5, k5, rfl, -⟩ := hhi.shape
 have hne : (checkE x != 0) = true := by rw [bne_iff_ne]; exact h
 generalize checkE x = r at *
 obtain ⟨W1, hW1, hb1, -, hbx⟩ := cut_at w (.slice p1 x.dims.length k1) (.slice p2 x.attrs.length k2) (.slice p3 x.cells.length k3) (.slice p4 lo.length k4) (.slice p5 hi.length k5)
 have HB1 := Lib.hid hb1
 have HBX := Lib.hid hbx
 obtain ⟨⟨z0, z1, z2⟩, -⟩ := hbx W1 (Below.refl _ _)
 clear hx hs hsa hsc h hb1 hbx hlo hhi
 go_enter Tryz.func35, Tryz.ntmps35
 go_upto_region 1 with (fail)
 rw [← hW1]
 clear hW1
 go_wp2_with fail
 refine (C.out _ HB1.out).mono ?_
 rintro e w2 ⟨rfl, hb⟩
 have HB2 := Lib.hid (below_keep HB1.out hb)
 obtain ⟨-, -, ⟨r0, r1, r2⟩, ⟨f0, f1, f2⟩, -⟩ := HBX.out w2 hb
 clear hb C z0 z1 z2
 go_wp2
 refine bodyPost_ret (by simp [results, Tryz.results35, go_sem, r0, r1, r2]; try rfl) rfl ?_
 exact ⟨_, _, _, rfl, arrR_nil _, below3 HB2.out _ (by omega) _ _ _⟩
set_option maxHeartbeats 3200000 in
theorem rcut_shape (x : ArrT) (lo hi : List Int) (vd va vc vl vh : Value) (w : World) (hx : ArrR w vd va vc x) (hlo : Ints w vl lo) (hhi : Ints w vh hi) (hs : StrD x.dims) (hsa : StrA x.attrs) (hsc : StrC x.cells) (h : checkE x = 0) (h2 : formedB lo hi = false ∨ lo.length ≠ x.dims.length) :
  Calls Tryz.prog 35 #[.agg #[vd, va, vc], .agg #[vl, vh]] w (RetAe ⟨[], [], []⟩ 13 w) := by
 have C := Lib.hid (fun w1 (hb : Below w.heap.size w w1) => rarr_any x vd va vc w1 (hx.later hb) hs hsa hsc)
 rw [h] at C
 have CF := Lib.hid (fun w1 (hb : Below w.heap.size w w1) => rformed_any vl vh lo hi w1 (hlo.later IntR.lasts hb) (hhi.later IntR.lasts hb))
 obtain ⟨p1, k1, rfl, -⟩ := hx.dims.shape
 obtain ⟨p2, k2, rfl, -⟩ := hx.attrs.shape
 obtain ⟨p3, k3, rfl, -⟩ := hx.cells.shape
 obtain ⟨p4, k4, rfl, -⟩ := hlo.shape
 obtain ⟨p5, k5, rfl, -⟩ := hhi.shape
 obtain ⟨W1, hW1, hb1, -, hbx⟩ := cut_at w (.slice p1 x.dims.length k1) (.slice p2 x.attrs.length k2) (.slice p3 x.cells.length k3) (.slice p4 lo.length k4) (.slice p5 hi.length k5)
 have HB1 := Lib.hid hb1
 have HBX := Lib.hid hbx
 obtain ⟨⟨z0, z1, z2⟩, -⟩ := hbx W1 (Below.refl _ _)
 clear hx hs hsa hsc h hb1 hbx hlo hhi
 go_enter Tryz.func35, Tryz.ntmps35
 go_upto_region 1 with (fail)
 rw [← hW1]
 clear hW1
 go_wp2_with fail
 refine (C.out _ HB1.out).mono ?_
 rintro e w2 ⟨rfl, hb⟩
 have HB2 := Lib.hid (below_keep HB1.out hb)
 have HC2 := Lib.hid hb
 obtain ⟨⟨d0, d1, d2⟩, ⟨y0, y1⟩, -⟩ := HBX.out w2 hb
 clear hb C z0 z1 z2
 cases hf : formedB lo hi with
 | false =>
  rw [hf] at CF
  clear h2 hf
  go_wp2_with fail
  refine (CF.out _ HB2.out).mono ?_
  rintro e w3 ⟨rfl, hb⟩
  have HB3 := Lib.hid (below_keep HB2.out hb)
  obtain ⟨-, -, ⟨r0, r1, r2⟩, ⟨f0, f1, f2⟩, -⟩ := HBX.out w3 (below_keep HC2.out hb)
  clear hb CF d0 d1 d2 y0 y1
  go_wp2
  refine bodyPost_ret (by simp [results, Tryz.results35, go_sem, r0, r1, r2]; try rfl) rfl ?_
  exact ⟨_, _, _, rfl, arrR_nil _, below3 HB3.out _ (by omega) _ _ _⟩
 | true =>
  rw [hf] at CF
  have h5 : ((lo.length : Int) != x.dims.length) = true := by
   rw [bne_iff_ne]
   rcases h2 with h | h
   ·rw [hf] at h; cases h
   ·omega
  clear h2 hf
  go_wp2_with fail
  refine (CF.out _ HB2.out).mono ?_
  rintro e w3 ⟨rfl, hb⟩
  have HB3 := Lib.hid (below_keep HB2.out hb)
  clear d0 d1 d2 y0 y1
  obtain ⟨⟨d0, d1, d2⟩, ⟨y0, y1⟩, ⟨r0, r1, r2⟩, ⟨f0, f1, f2⟩, -⟩ := HBX.out w3 (below_keep HC2.out hb)
  clear hb CF
  go_wp2
  refine bodyPost_ret (by simp [results, Tryz.results35, go_sem, r0, r1, r2]; try rfl) rfl ?_
  exact ⟨_, _, _, rfl, arrR_nil _, below3 HB3.out _ (by omega) _ _ _⟩
set_option maxHeartbeats 16000000 in
set_option maxRecDepth 100000 in
theorem rcut_core (x : ArrT) (lo hi : List Int) (vd va vc vl vh : Value) (w : World) (hx : ArrR w vd va vc x) (hlo : Ints w vl lo) (hhi : Ints w vh hi) (hs : StrD x.dims) (hsa : StrA x.attrs) (hsc : StrC x.cells) (h : checkE x = 0) (h2 : formedB lo hi = true) (h3 : lo.length = x.dims.length) :
  Calls Tryz.prog 35 #[.agg #[vd, va, vc], .agg #[vl, vh]] w (RetAe ⟨x.dims, x.attrs, cutL lo hi x.cells⟩ 0 w) := by
 have C := Lib.hid (fun w1 (hb : Below w.heap.size w w1) => rarr_any x vd va vc w1 (hx.later hb) hs hsa hsc)
 rw [h] at C
 have CF := Lib.hid (fun w1 (hb : Below w.heap.size w w1) => rformed_any vl vh lo hi w1 (hlo.later IntR.lasts hb) (hhi.later IntR.lasts hb))
 rw [h2] at CF
 have CH := Lib.hid (fun (c : List Int) (u : Value) w1 (hb : Below w.heap.size w w1) (hc : Ints w1 u c) => rhas_any vl vh u lo hi c w1 (hlo.later IntR.lasts hb) (hhi.later IntR.lasts hb) hc)
 have HD := Lib.hid hx.dims
 have HA := Lib.hid hx.attrs
 have HL := Lib.hid hx.cells
 have HSH := Lib.hid (check_short h)
 have HD4 := Lib.hid (check_dims h).2
 have HN4 := Lib.hid (check_parts h).2.1
 obtain ⟨p1, k1, rfl, -⟩ := hx.dims.shape
 obtain ⟨p2, k2, rfl, -⟩ := hx.attrs.shape
 obtain ⟨p3, k3, rfl, -⟩ := hx.cells.shape
 obtain ⟨p4, k4, rfl, -⟩ := hlo.shape
 obtain ⟨p5, k5, rfl, -⟩ := hhi.shape
 have h5 : ((lo.length : Int) != x.dims.length) = false := by rw [bne_eq_false_iff_eq]; omega
 obtain ⟨D, hDD⟩ : ∃ D, D = x.dims := ⟨_, rfl⟩
 obtain ⟨A, hAA⟩ : ∃ A, A = x.attrs := ⟨_, rfl⟩
 obtain ⟨L, hLL⟩ : ∃ L, L = x.cells := ⟨_, rfl⟩
 rw [← hDD, ← hAA, ← hLL] at C ⊢
 rw [← hDD] at HD HD4 h5
 rw [← hAA] at HA
 rw [← hLL] at HL HN4
 rw [← hAA, ← hLL] at HSH
 obtain ⟨j0, hj0, hy0, hy1, hy2⟩ := info_parts infoCell
 obtain ⟨W1, hW1, hb1, hs1, hbx⟩ := cut_at w (.slice p1 D.length k1) (.slice p2 A.length k2) (.slice p3 L.length k3) (.slice p4 lo.length k4) (.slice p5 hi.length k5)
 have HB1 := Lib.hid hb1
 have HBX := Lib.hid hbx
 obtain ⟨⟨z0, z1, z2⟩, -⟩ := hbx W1 (Below.refl _ _)
 clear hx hs hsa hsc h hb1 hbx hlo hhi h2 h3 hDD hAA hLL hs1
 go_enter Tryz.func35, Tryz.ntmps35
 go_upto_region 1 with (fail)
 rw [← hW1]
 clear hW1
 go_wp2_with fail
 refine (C.out _ HB1.out).mono ?_
 rintro e w2 ⟨rfl, hb⟩
 have HB2 := Lib.hid (below_keep HB1.out hb)
 have HC2 := Lib.hid hb
 obtain ⟨⟨d0, d1, d2⟩, ⟨y0, y1⟩, -⟩ := HBX.out w2 hb
 clear hb C z0 z1 z2
 go_wp2_with fail
 refine (CF.out _ HB2.out).mono ?_
 rintro e w3 ⟨rfl, hb⟩
 have HB3 := Lib.hid (below_keep HB2.out hb)
 have HC3 := Lib.hid (below_keep HC2.out hb)
 clear d0 d1 d2 y0 y1
 obtain ⟨⟨d0, d1, d2⟩, ⟨y0, y1⟩, -⟩ := HBX.out w3 HC3.out
 clear hb CF
 have CE := Lib.hid (empty_any D A (.slice p1 D.length k1) (.slice p2 A.length k2) w3 (HD.out.later DimR.lasts HB3.out) (HA.out.later AttrR.lasts HB3.out) (by have := HD4.out; omega) (by have := HSH.out.2; omega))
 go_wp2_with fail
 refine CE.out.mono ?_
 rintro e w4 ⟨t1, t2, rfl, n1, n2, n3, n4, hb⟩
 have HB4 := Lib.hid (below_keep HB3.out hb)
 have HC4 := Lib.hid (below_keep HC3.out hb)
 have HOM := Lib.hid (out_made w4 t1 t2 D A n1 n2 n3 n4)
 obtain ⟨a1, b1, rfl, -⟩ := n1.shape
 obtain ⟨a2, b2, rfl, -⟩ := n3.shape
 obtain ⟨W7, hW7⟩ : ∃ W7, W7 = w4.alloc (.cells #[.slice a1 D.length b1, .slice a2 A.length b2, .slice none 0 0] 41) := ⟨_, rfl⟩
 have HBA : Hid (Below w4.heap.size w4 W7) := by show Below _ _ _; rw [hW7]; exact below_alloc _ _
 rw [← hW7] at HOM
 clear hb n1 n2 n3 n4 CE d0 d1 d2 y0 y1 h5
 go_upto_region 6 with (fail)
 rw [← hW7]
 clear hW7
 go_wp2
 go_loopw [7] (fun iv wr => ∃ (i : Nat) (v : Value), i ≤ L.length ∧ iv = .int .i64 (i : Nat) ∧ OutB w4.heap.size w4.heap.size wr (.slice a1 D.length b1) (.slice a2 A.length b2) v v D A (cutL lo hi (L.take i)) ∧ Below w4.heap.size w4 wr) (fun iv _ => L.length - (intOf iv).toNat)
 case atStart => exact ⟨0, _, Nat.zero_le _, rfl, HOM.out, HBA.out⟩
 case round =>
  obtain ⟨i, v, hi', rfl, ho, hb⟩ := hrel
  have HO9 := Lib.hid ho
  have HBR := Lib.hid hb
  have HBW := Lib.hid (below_keep HB4.out hb)
  obtain ⟨⟨d0, d1, d2⟩, ⟨y0, y1⟩, ⟨r0, r1, r2⟩, ⟨f0, f1, f2⟩, htg⟩ := HBX.out wr (below_keep HC4.out hb)
  by_cases hlt : i < L.length
  ·clear d0 d1 r0 r1 r2 f0 f1 f2 htg
   obtain ⟨gc, oc, c, eq, hc, hr⟩ := HL.out.at i hlt
   subst eq
   obtain ⟨u1, u2, e1, e2, hi1, hv1⟩ := hr
   have hgc : gc < w.heap.size := World.block_lt_of_cell? _ _ e1
   have HE := Lib.hid (fun w9 (hb9 : Below w.heap.size w w9) => And.intro (cell_later e1 hb9) (cell_later e2 hb9))
   have e1 := cell_later e1 HBW.out
   have HI1 := Lib.hid hi1
   have HV1 := Lib.hid hv1
   have HSC := Lib.hid (HSH.out.1 c (List.mem_of_getElem? hc))
   have HSN := Lib.hid (cutL_snoc (lo := lo) (hi := hi) hc)
   have HLN := Lib.hid (cutL_len lo hi (L.take i))
   have HLT : Hid ((L.take i).length ≤ L.length) := by show _ ≤ _; rw [List.length_take]; omega
   have CHX := Lib.hid (fun w9 (hb9 : Below wr.heap.size wr w9) => CH.out c.co u1 w9 (below_keep HBW.out hb9) (HI1.out.later IntR.lasts (below_keep HBW.out hb9)))
   have CC0 := Lib.hid (fun w9 (hb9 : Below w.heap.size w w9) => copyCell_any c u1 u2 w9 (HI1.out.later IntR.lasts hb9) (HV1.out.later ValR.lasts hb9) HSC.out.1 HSC.out.2)
   obtain ⟨l9, hl⟩ : ∃ l, l = cutL lo hi (L.take i) := ⟨_, rfl⟩
   rw [← hl] at HO9 HSN HLN
   obtain ⟨q1, r1, rfl, -⟩ := hi1.shape
   obtain ⟨q2, r2, rfl, -⟩ := hv1.shape
   have HI2 : Hid (i + 1 ≤ L.length ∧ L.length - (i + 1) < L.length - i) := by show _ ∧ _; omega
   have ib0 : (0 : Int) ≤ (i : Int) := by omega
   have ib1 : (i : Int) < (L.length : Int) := by omega
   have hn4 : L.length ≤ 4096 := HN4.out
   have HHS : Hid (w.heap.size < W1.heap.size ∧ w.heap.size < w4.heap.size) := by
    have h1 : w.heap.size < W1.heap.size := World.block_lt_of_cell? _ _ (HBX.out W1 (Below.refl _ _)).1.2.2
    have := HC4.out.size
    exact ⟨h1, by omega⟩
   have HGC : Hid (gc < w4.heap.size) := by have := HHS.out.2; show _ < _; omega
   obtain ⟨hb9, hhb9⟩ : ∃ b, b = hasB lo hi c.co := ⟨_, rfl⟩
   rw [← hhb9] at HSN CHX
   have KQ : Hid (∀ w', Below wr.heap.size wr w' → w'.cell? ⟨w.heap.size + 1, 0, none⟩ = some (.slice p4 lo.length k4) ∧ w'.cell? ⟨w.heap.size + 1, 1, none⟩ = some (.slice p5 hi.length k5) ∧ w'.cell? ⟨w.heap.size, 2, none⟩ = some (.slice (some ⟨gc, oc, none⟩) L.length k3) ∧ w'.cell? ⟨gc, oc + i * 2, none⟩ = some (.slice q1 c.co.length r1)) := fun w' h => ⟨cell_later y0 h, cell_later y1 h, cell_later d2 h, cell_later e1 h⟩
   clear hc hl hi1 hv1 hi' hlt hhb9 ho hb e2 hgc
   cases hb9 with
   | false =>
    have HEE : Hid (cutL lo hi (L.take (i + 1)) = l9) := by have := HSN.out; rwa [if_neg (by decide)] at this
    go_upto_region 9 with (fail)
    refine wp_region_list [.val (.agg #[.slice p4 lo.length k4, .slice p5 hi.length k5]), .val (.pointer (some ⟨w.heap.size, 2, none⟩)), .val (.slice (some ⟨gc, oc, none⟩) L.length k3), .val (.int .i64 (i : Nat)), .val (.pointer (some ⟨gc, oc + i * 2, none⟩)), .val (.pointer (some ⟨gc, oc + i * 2, none⟩)), .val (.slice q1 c.co.length r1), .val (.bool false)]
     [some 37, some 38, some 39, some 40, some 41, some 42, some 43, some 44]
     (fun w' => Below wr.heap.size wr w') (fun _ _ => Hid True) rfl (by kernel_rfl) (by kernel_rfl) (by kernel_rfl) (by kernel_rfl) ?_ ?_ ?_ ?_
    ·(intro y hy v w1 w2 hs hv; simp only [List.mem_cons, List.not_mem_nil, or_false] at hy; rcases hy with rfl | rfl | rfl | rfl | rfl | rfl | rfl | rfl; all_goals exact hv)
    ·exact (Below.refl _ _).drew
    ·intro i9 op9 ho
     have hi9 : i9 < 8 := (Array.getElem?_eq_some_iff.1 ho).1
     match i9, hi9 with
     | 0, _ =>
      obtain rfl := Option.some.inj ho
      intro a9 wx hBx hev haf
      rw [if_pos (wanted_none rfl)]
      have f3 : (a9.tmps[3]?).getD undef = .pointer (some ⟨w.heap.size + 1, 0, none⟩) := hev 3 (by kernel_rfl)
      clear haf hev
      obtain ⟨s0, s1, s2, s3⟩ := KQ.out _ hBx
      go_simp
      exact ⟨rfl, trivial, hBx⟩
     | 1, _ =>
      obtain rfl := Option.some.inj ho
      intro a9 wx hBx hev haf
      rw [if_pos (wanted_none rfl)]
      have f2 : (a9.tmps[2]?).getD undef = .pointer (some ⟨w.heap.size, 0, none⟩) := hev 2 (by kernel_rfl)
      clear haf hev
      go_simp
      exact ⟨rfl, trivial, hBx⟩
     | 2, _ =>
      obtain rfl := Option.some.inj ho
      intro a9 wx hBx hev haf
      rw [if_pos (wanted_none rfl)]
      have f38 : (a9.tmps[38]?).getD undef = (.pointer (some ⟨w.heap.size, 2, none⟩)) := haf 0 _ rfl rfl 38 rfl
      clear haf hev
      obtain ⟨s0, s1, s2, s3⟩ := KQ.out _ hBx
      go_simp
      exact ⟨rfl, trivial, hBx⟩
     | 3, _ =>
      obtain rfl := Option.some.inj ho
      intro a9 wx hBx hev haf
      rw [if_pos (wanted_none rfl)]
      have f7 : (a9.tmps[7]?).getD undef = .int .i64 (i : Nat) := hev 7 (by kernel_rfl)
      clear haf hev
      go_simp
      exact ⟨rfl, trivial, hBx⟩
     | 4, _ =>
      obtain rfl := Option.some.inj ho
      intro a9 wx hBx hev haf
      rw [if_pos (wanted_none rfl)]
      have f39 : (a9.tmps[39]?).getD undef = (.slice (some ⟨gc, oc, none⟩) L.length k3) := haf 0 _ rfl rfl 39 rfl
      have f40 : (a9.tmps[40]?).getD undef = (.int .i64 (i : Nat)) := haf 1 _ rfl rfl 40 rfl
      clear haf hev
      go_simp
      exact ⟨rfl, trivial, hBx⟩
     | 5, _ =>
      obtain rfl := Option.some.inj ho
      intro a9 wx hBx hev haf
      rw [if_pos (wanted_none rfl)]
      have f41 : (a9.tmps[41]?).getD undef = (.pointer (some ⟨gc, oc + i * 2, none⟩)) := haf 0 _ rfl rfl 41 rfl
      clear haf hev
      go_simp
      exact ⟨rfl, trivial, hBx⟩
     | 6, _ =>
      obtain rfl := Option.some.inj ho
      intro a9 wx hBx hev haf
      rw [if_pos (wanted_none rfl)]
      have f42 : (a9.tmps[42]?).getD undef = (.pointer (some ⟨gc, oc + i * 2, none⟩)) := haf 0 _ rfl rfl 42 rfl
      clear haf hev
      obtain ⟨s0, s1, s2, s3⟩ := KQ.out _ hBx
      go_simp
      exact ⟨rfl, trivial, hBx⟩
     | 7, _ =>
      obtain rfl := Option.some.inj ho
      intro a9 wx hBx hev haf
      rw [if_pos (wanted_none rfl)]
      have f37 : (a9.tmps[37]?).getD undef = (.agg #[.slice p4 lo.length k4, .slice p5 hi.length k5]) := haf 0 _ rfl rfl 37 rfl
      have f43 : (a9.tmps[43]?).getD undef = (.slice q1 c.co.length r1) := haf 1 _ rfl rfl 43 rfl
      clear haf hev
      go_simp
      exact (CHX.out _ hBx).mono fun e w' ⟨he, hb⟩ => ⟨_, he, rfl, trivial, below_keep hBx hb⟩
    ·intro vals wx hBx hG
     have g0 : vals 0 = (.agg #[.slice p4 lo.length k4, .slice p5 hi.length k5]) := hG 0 (by decide)
     have g1 : vals 1 = (.pointer (some ⟨w.heap.size, 2, none⟩)) := hG 1 (by decide)
     have g2 : vals 2 = (.slice (some ⟨gc, oc, none⟩) L.length k3) := hG 2 (by decide)
     have g3 : vals 3 = (.int .i64 (i : Nat)) := hG 3 (by decide)
     have g4 : vals 4 = (.pointer (some ⟨gc, oc + i * 2, none⟩)) := hG 4 (by decide)
     have g5 : vals 5 = (.pointer (some ⟨gc, oc + i * 2, none⟩)) := hG 5 (by decide)
     have g6 : vals 6 = (.slice q1 c.co.length r1) := hG 6 (by decide)
     have g7 : vals 7 = (.bool false) := hG 7 (by decide)
     clear hG
     simp only [putDs, Act.put, Nat.zero_add, Nat.reduceAdd, List.setIfInBounds_toArray, List.set_cons_succ, List.set_cons_zero, g0, g1, g2, g3, g4, g5, g6, g7]
     clear g0 g1 g2 g3 g4 g5 g6 g7
     obtain ⟨w6, hw6⟩ : ∃ w6, w6 = wx := ⟨_, rfl⟩
     subst hw6
     have hb := hBx
     clear hBx
     have HB6 := Lib.hid hb
     clear hb y0 y1 e1 d2
     go_wp2
     exact ⟨⟨i + 1, v, HI2.out.1, by go_num, by rw [HEE.out]; exact HO9.out.later HB6.out, below_keep HBR.out HB6.out⟩, HI2.out.2⟩
   | true =>
    have HEE : Hid (cutL lo hi (L.take (i + 1)) = l9 ++ [c]) := by have := HSN.out; rwa [if_pos rfl] at this
    go_upto_region 9 with (fail)
    refine wp_region_list [.val (.agg #[.slice p4 lo.length k4, .slice p5 hi.length k5]), .val (.pointer (some ⟨w.heap.size, 2, none⟩)), .val (.slice (some ⟨gc, oc, none⟩) L.length k3), .val (.int .i64 (i : Nat)), .val (.pointer (some ⟨gc, oc + i * 2, none⟩)), .val (.pointer (some ⟨gc, oc + i * 2, none⟩)), .val (.slice q1 c.co.length r1), .val (.bool true)]
     [some 37, some 38, some 39, some 40, some 41, some 42, some 43, some 44]
     (fun w' => Below wr.heap.size wr w') (fun _ _ => Hid True) rfl (by kernel_rfl) (by kernel_rfl) (by kernel_rfl) (by kernel_rfl) ?_ ?_ ?_ ?_
    ·(intro y hy v w1 w2 hs hv; simp only [List.mem_cons, List.not_mem_nil, or_false] at hy; rcases hy with rfl | rfl | rfl | rfl | rfl | rfl | rfl | rfl; all_goals exact hv)
    ·exact (Below.refl _ _).drew
    ·intro i9 op9 ho
     have hi9 : i9 < 8 := (Array.getElem?_eq_some_iff.1 ho).1
     match i9, hi9 with
     | 0, _ =>
      obtain rfl := Option.some.inj ho
      intro a9 wx hBx hev haf
      rw [if_pos (wanted_none rfl)]
      have f3 : (a9.tmps[3]?).getD undef = .pointer (some ⟨w.heap.size + 1, 0, none⟩) := hev 3 (by kernel_rfl)
      clear haf hev
      obtain ⟨s0, s1, s2, s3⟩ := KQ.out _ hBx
      go_simp
      exact ⟨rfl, trivial, hBx⟩
     | 1, _ =>
      obtain rfl := Option.some.inj ho
      intro a9 wx hBx hev haf
      rw [if_pos (wanted_none rfl)]
      have f2 : (a9.tmps[2]?).getD undef = .pointer (some ⟨w.heap.size, 0, none⟩) := hev 2 (by kernel_rfl)
      clear haf hev
      go_simp
      exact ⟨rfl, trivial, hBx⟩
     | 2, _ =>
      obtain rfl := Option.some.inj ho
      intro a9 wx hBx hev haf
      rw [if_pos (wanted_none rfl)]
      have f38 : (a9.tmps[38]?).getD undef = (.pointer (some ⟨w.heap.size, 2, none⟩)) := haf 0 _ rfl rfl 38 rfl
      clear haf hev
      obtain ⟨s0, s1, s2, s3⟩ := KQ.out _ hBx
      go_simp
      exact ⟨rfl, trivial, hBx⟩
     | 3, _ =>
      obtain rfl := Option.some.inj ho
      intro a9 wx hBx hev haf
      rw [if_pos (wanted_none rfl)]
      have f7 : (a9.tmps[7]?).getD undef = .int .i64 (i : Nat) := hev 7 (by kernel_rfl)
      clear haf hev
      go_simp
      exact ⟨rfl, trivial, hBx⟩
     | 4, _ =>
      obtain rfl := Option.some.inj ho
      intro a9 wx hBx hev haf
      rw [if_pos (wanted_none rfl)]
      have f39 : (a9.tmps[39]?).getD undef = (.slice (some ⟨gc, oc, none⟩) L.length k3) := haf 0 _ rfl rfl 39 rfl
      have f40 : (a9.tmps[40]?).getD undef = (.int .i64 (i : Nat)) := haf 1 _ rfl rfl 40 rfl
      clear haf hev
      go_simp
      exact ⟨rfl, trivial, hBx⟩
     | 5, _ =>
      obtain rfl := Option.some.inj ho
      intro a9 wx hBx hev haf
      rw [if_pos (wanted_none rfl)]
      have f41 : (a9.tmps[41]?).getD undef = (.pointer (some ⟨gc, oc + i * 2, none⟩)) := haf 0 _ rfl rfl 41 rfl
      clear haf hev
      go_simp
      exact ⟨rfl, trivial, hBx⟩
     | 6, _ =>
      obtain rfl := Option.some.inj ho
      intro a9 wx hBx hev haf
      rw [if_pos (wanted_none rfl)]
      have f42 : (a9.tmps[42]?).getD undef = (.pointer (some ⟨gc, oc + i * 2, none⟩)) := haf 0 _ rfl rfl 42 rfl
      clear haf hev
      obtain ⟨s0, s1, s2, s3⟩ := KQ.out _ hBx
      go_simp
      exact ⟨rfl, trivial, hBx⟩
     | 7, _ =>
      obtain rfl := Option.some.inj ho
      intro a9 wx hBx hev haf
      rw [if_pos (wanted_none rfl)]
      have f37 : (a9.tmps[37]?).getD undef = (.agg #[.slice p4 lo.length k4, .slice p5 hi.length k5]) := haf 0 _ rfl rfl 37 rfl
      have f43 : (a9.tmps[43]?).getD undef = (.slice q1 c.co.length r1) := haf 1 _ rfl rfl 43 rfl
      clear haf hev
      go_simp
      exact (CHX.out _ hBx).mono fun e w' ⟨he, hb⟩ => ⟨_, he, rfl, trivial, below_keep hBx hb⟩
    ·intro vals wx hBx hG
     have g0 : vals 0 = (.agg #[.slice p4 lo.length k4, .slice p5 hi.length k5]) := hG 0 (by decide)
     have g1 : vals 1 = (.pointer (some ⟨w.heap.size, 2, none⟩)) := hG 1 (by decide)
     have g2 : vals 2 = (.slice (some ⟨gc, oc, none⟩) L.length k3) := hG 2 (by decide)
     have g3 : vals 3 = (.int .i64 (i : Nat)) := hG 3 (by decide)
     have g4 : vals 4 = (.pointer (some ⟨gc, oc + i * 2, none⟩)) := hG 4 (by decide)
     have g5 : vals 5 = (.pointer (some ⟨gc, oc + i * 2, none⟩)) := hG 5 (by decide)
     have g6 : vals 6 = (.slice q1 c.co.length r1) := hG 6 (by decide)
     have g7 : vals 7 = (.bool true) := hG 7 (by decide)
     clear hG
     simp only [putDs, Act.put, Nat.zero_add, Nat.reduceAdd, List.setIfInBounds_toArray, List.set_cons_succ, List.set_cons_zero, g0, g1, g2, g3, g4, g5, g6, g7]
     clear g0 g1 g2 g3 g4 g5 g6 g7
     obtain ⟨w6, hw6⟩ : ∃ w6, w6 = wx := ⟨_, rfl⟩
     subst hw6
     have hb := hBx
     clear hBx
     have HB6 := Lib.hid (below_keep HBR.out hb)
     have HBW6 := Lib.hid (below_keep HBW.out hb)
     have HO := Lib.hid (HO9.out.later hb)
     have HX6 := Lib.hid (HBX.out w6 (below_keep HC4.out HB6.out)).1.2.2
     have CC : Hid (∀ w9, Below w4.heap.size w6 w9 → Calls Tryz.prog 68 #[.agg #[.slice q1 c.co.length r1, .slice q2 c.vals.length r2]] w9 (RetCe c w9)) := fun w9 h9 =>
      CC0.out w9 (HBW6.out.trans (h9.mono HB4.out.size))
     have HN : Hid (∀ wx, Below w4.heap.size w6 wx → w4.heap.size ≤ wx.heap.size) := fun wx h => Nat.le_trans HB6.out.size h.size
     have HGN : Hid (w4.heap.size ≤ w4.heap.size) := Nat.le_refl _
     have KP : Hid (∀ (wx : World), Below w4.heap.size w6 wx → wx.cell? ⟨w.heap.size, 2, none⟩ = some (.slice (some ⟨gc, oc, none⟩) L.length k3) ∧ wx.cell? ⟨gc, oc + i * 2, none⟩ = some (.slice q1 c.co.length r1) ∧ wx.cell? ⟨gc, oc + i * 2 + 1, none⟩ = some (.slice q2 c.vals.length r2)) := fun wx h =>
      ⟨(h.cell (p := ⟨w.heap.size, 2, none⟩) HHS.out.2).trans HX6.out, (h.cell (p := ⟨gc, oc + i * 2, none⟩) HGC.out).trans (HE.out w6 HBW6.out).1, (h.cell (p := ⟨gc, oc + i * 2 + 1, none⟩) HGC.out).trans (HE.out w6 HBW6.out).2⟩
     have HLL : Hid (l9.length ≤ 1000000) := Nat.le_trans HLN.out (Nat.le_trans HLT.out (Nat.le_trans HN4.out (by decide)))
     clear hb y0 y1 e1 d2
     go_upto_region 10 with (fail)
     refine wp_region_inv [some 45, some 46, some 47, some 48, some 49, some 50, some 51, some 52, some 53, some 54, some 55, none] (CoJ [some (.pointer (some ⟨w4.heap.size, 2, none⟩)), some (v), some (.pointer (some ⟨w.heap.size, 2, none⟩)), some (.slice (some ⟨gc, oc, none⟩) L.length k3), some (.int .i64 (i : Nat)), some (.pointer (some ⟨gc, oc + i * 2, none⟩)), some (.agg #[.slice q1 c.co.length r1, .slice q2 c.vals.length r2]), none, none, none, some (.pointer (some ⟨w4.heap.size, 2, none⟩)), none] 7 8 9 11 w4.heap.size w4.heap.size w6 (.slice a1 D.length b1) (.slice a2 A.length b2) v D A l9 c) rfl (by kernel_rfl) (by kernel_rfl) (by kernel_rfl) (by kernel_rfl) ?_ ?_ ?_
     ·exact CoJ.start HO.out
     ·intro i9 op9 ho
      have hi9 : i9 < 12 := (Array.getElem?_eq_some_iff.1 ho).1
      match i9, hi9 with
      | 0, _ =>
       obtain rfl := Option.some.inj ho
       intro a9 dn vals wx hJ0 hdi hde hdj hev hsl hun
       have hJ := Lib.hid hJ0
       rw [if_pos (wanted_none rfl)]
       have f6 : (a9.tmps[6]?).getD undef = .pointer (some ⟨w4.heap.size, 0, none⟩) := hev 6 (by kernel_rfl)
       clear hde hdj hev hsl hun hJ0 hdi
       go_simp
       exact hJ.out.step (HN.out wx hJ.out.below) (by decide) (by decide) (by decide) (by decide) (.inl rfl) (Below.refl _ _)
      | 1, _ =>
       obtain rfl := Option.some.inj ho
       intro a9 dn vals wx hJ0 hdi hde hdj hev hsl hun
       have hJ := Lib.hid hJ0
       rw [if_pos (wanted_none rfl)]
       have f45 : (a9.tmps[45]?).getD undef = .pointer (some ⟨w4.heap.size, 2, none⟩) := (hsl 0 45 (hde 0 _ rfl rfl) rfl).trans (hJ.out.fv 0 _ rfl (hde 0 _ rfl rfl))
       have n9 : Hid (dn 9 = false) := hdj 9 0 _ _ rfl rfl rfl rfl
       have n11 : Hid (dn 11 = false) := hdj 11 4 _ _ rfl rfl rfl rfl
       have hS := hJ.out.s0 n9.out n11.out
       have c2 := hS.c2
       clear hde hdj hev hsl hun hJ0 hdi
       clear n9 n11 hS
       go_simp
       exact hJ.out.step (HN.out wx hJ.out.below) (by decide) (by decide) (by decide) (by decide) (.inl rfl) (Below.refl _ _)
      | 2, _ =>
       obtain rfl := Option.some.inj ho
       intro a9 dn vals wx hJ0 hdi hde hdj hev hsl hun
       have hJ := Lib.hid hJ0
       rw [if_pos (wanted_none rfl)]
       have f2 : (a9.tmps[2]?).getD undef = .pointer (some ⟨w.heap.size, 0, none⟩) := hev 2 (by kernel_rfl)
       clear hde hdj hev hsl hun hJ0 hdi
       go_simp
       exact hJ.out.step (HN.out wx hJ.out.below) (by decide) (by decide) (by decide) (by decide) (.inl rfl) (Below.refl _ _)
      | 3, _ =>
       obtain rfl := Option.some.inj ho
       intro a9 dn vals wx hJ0 hdi hde hdj hev hsl hun
       have hJ := Lib.hid hJ0
       rw [if_pos (wanted_none rfl)]
       have f47 : (a9.tmps[47]?).getD undef = .pointer (some ⟨w.heap.size, 2, none⟩) := (hsl 2 47 (hde 0 _ rfl rfl) rfl).trans (hJ.out.fv 2 _ rfl (hde 0 _ rfl rfl))
       obtain ⟨e1, e2, e3⟩ := KP.out wx hJ.out.below
       clear hde hdj hev hsl hun hJ0 hdi
       go_simp
       exact hJ.out.step (HN.out wx hJ.out.below) (by decide) (by decide) (by decide) (by decide) (.inl rfl) (Below.refl _ _)
      | 4, _ =>
       obtain rfl := Option.some.inj ho
       intro a9 dn vals wx hJ0 hdi hde hdj hev hsl hun
       have hJ := Lib.hid hJ0
       rw [if_pos (wanted_none rfl)]
       have f7 : (a9.tmps[7]?).getD undef = .int .i64 (i : Nat) := hev 7 (by kernel_rfl)
       clear hde hdj hev hsl hun hJ0 hdi
       go_simp
       exact hJ.out.step (HN.out wx hJ.out.below) (by decide) (by decide) (by decide) (by decide) (.inl rfl) (Below.refl _ _)
      | 5, _ =>
       obtain rfl := Option.some.inj ho
       intro a9 dn vals wx hJ0 hdi hde hdj hev hsl hun
       have hJ := Lib.hid hJ0
       rw [if_pos (wanted_none rfl)]
       have f48 : (a9.tmps[48]?).getD undef = .slice (some ⟨gc, oc, none⟩) L.length k3 := (hsl 3 48 (hde 0 _ rfl rfl) rfl).trans (hJ.out.fv 3 _ rfl (hde 0 _ rfl rfl))
       have f49 : (a9.tmps[49]?).getD undef = .int .i64 (i : Nat) := (hsl 4 49 (hde 1 _ rfl rfl) rfl).trans (hJ.out.fv 4 _ rfl (hde 1 _ rfl rfl))
       clear hde hdj hev hsl hun hJ0 hdi
       go_simp
       exact hJ.out.step (HN.out wx hJ.out.below) (by decide) (by decide) (by decide) (by decide) (.inl rfl) (Below.refl _ _)
      | 6, _ =>
       obtain rfl := Option.some.inj ho
       intro a9 dn vals wx hJ0 hdi hde hdj hev hsl hun
       have hJ := Lib.hid hJ0
       rw [if_pos (wanted_none rfl)]
       have f50 : (a9.tmps[50]?).getD undef = .pointer (some ⟨gc, oc + i * 2, none⟩) := (hsl 5 50 (hde 0 _ rfl rfl) rfl).trans (hJ.out.fv 5 _ rfl (hde 0 _ rfl rfl))
       obtain ⟨e1, e2, e3⟩ := KP.out wx hJ.out.below
       clear hde hdj hev hsl hun hJ0 hdi
       go_simp
       exact hJ.out.step (HN.out wx hJ.out.below) (by decide) (by decide) (by decide) (by decide) (.inl rfl) (Below.refl _ _)
      | 7, _ =>
       obtain rfl := Option.some.inj ho
       intro a9 dn vals wx hJ0 hdi hde hdj hev hsl hun
       have hJ := Lib.hid hJ0
       rw [if_pos (wanted_none rfl)]
       have f51 : (a9.tmps[51]?).getD undef = .agg #[.slice q1 c.co.length r1, .slice q2 c.vals.length r2] := (hsl 6 51 (hde 0 _ rfl rfl) rfl).trans (hJ.out.fv 6 _ rfl (hde 0 _ rfl rfl))
       have n8 : Hid (dn 8 = false) := hdj 8 0 _ _ rfl rfl rfl rfl
       clear hde hdj hev hsl hun hJ0 hdi
       go_simp
       exact (CC.out wx hJ.out.below).mono fun e w9 ⟨u1, u2, he, q1, q2, q3, q4, hb9⟩ => ⟨_, he, hJ.out.call (HN.out wx hJ.out.below) (by decide) (by decide) (by decide) n8.out rfl hb9 ⟨q1, q2, q3, q4⟩⟩
      | 8, _ =>
       obtain rfl := Option.some.inj ho
       intro a9 dn vals wx hJ0 hdi hde hdj hev hsl hun
       have hJ := Lib.hid hJ0
       rw [if_pos (wanted_none rfl)]
       have f52 : (a9.tmps[52]?).getD undef = vals 7 := hsl 7 52 (hde 0 _ rfl rfl) rfl
       have d7 : Hid (dn 7 = true) := hde 0 _ rfl rfl
       have n9 : Hid (dn 9 = false) := hdj 9 1 _ _ rfl rfl rfl rfl
       obtain ⟨u1, u2, ec, hce⟩ := hJ.out.fc d7.out n9.out
       obtain ⟨a1, b1, e1, -⟩ := hce.i.shape
       obtain ⟨a2, b2, e2, -⟩ := hce.v.shape
       rw [ec, e1, e2] at f52
       rw [e1, e2] at hce
       have HCE := Lib.hid hce
       clear hde hdj hev hsl hun hJ0 hdi
       clear e1 e2 ec hce
       go_simp
       exact hJ.out.build (HN.out wx hJ.out.below) (by decide) (by decide) (by decide) rfl HCE.out
      | 9, _ =>
       obtain rfl := Option.some.inj ho
       intro a9 dn vals wx hJ0 hdi hde hdj hev hsl hun
       have hJ := Lib.hid hJ0
       rw [if_pos (wanted_none rfl)]
       have f46 : (a9.tmps[46]?).getD undef = v := (hsl 1 46 (hde 0 _ rfl rfl) rfl).trans (hJ.out.fv 1 _ rfl (hde 0 _ rfl rfl))
       have f53 : (a9.tmps[53]?).getD undef = vals 8 := hsl 8 53 (hde 1 _ rfl rfl) rfl
       have n11 : Hid (dn 11 = false) := hdj 11 1 _ _ rfl rfl rfl rfl
       have d8 : Hid (dn 8 = true) := hde 1 _ rfl rfl
       obtain ⟨b9, u1, u2, eb, k1, k2, hce⟩ := hJ.out.fb d8.out hdi
       rw [eb] at f53
       have hS := hJ.out.s0 hdi n11.out
       obtain ⟨us, hul, hus, hux⟩ := hS.own.ex
       obtain ⟨a1, b1, e1, -⟩ := hce.i.shape
       obtain ⟨a2, b2, e2, -⟩ := hce.v.shape
       obtain ⟨g9, cap9, w9, hrun, hown, hgr, hat, hlt9⟩ := run_append_lies (P := Tryz.prog) (w := wx) 37 37 w4.heap.size 48 j0 (.agg #[.slice none 0 0, .slice none 0 0]) 2 48 Tryz.underlying37 hj0 hy0 hy1 hy2 rfl (by decide) v l9.length _ hus ⟨b9, 0, none⟩ 1 1 [u1, u2] rfl (fun t x ht => by
          match t, ht with
          | 0, ht => simp at ht; subst ht; exact k1
          | 1, ht => simp at ht; subst ht; exact k2) (fun x hx => by simp at hx; rcases hx with h | h <;> subst h <;> first | (rw [e1]; rfl) | (rw [e2]; rfl)) (by decide) (by have := HLL.out; unfold maxLen; omega) (by have := HLL.out; omega) (HN.out wx hJ.out.below) _ rfl
       have HF := Lib.hid (hJ.out.append (HN.out wx hJ.out.below) (by decide) rfl hdi n11.out hgr (CellsO.snoc hul hus hux hown hgr hce))
       have HRUN := Lib.hid hrun
       clear hde hdj hev hsl hun hJ0 hdi
       clear hrun hown hgr hat hlt9 hS hul hus hux hce e1 e2 k1 k2 eb
       refine does_append2 (s := .tmp 46) (x := .tmp 53) (T := 37) rfl (by rw [eval_tmp]; exact f46) (by rw [eval_tmp]; exact f53) HRUN.out HF.out
      | 10, _ =>
       obtain rfl := Option.some.inj ho
       intro a9 dn vals wx hJ0 hdi hde hdj hev hsl hun
       have hJ := Lib.hid hJ0
       rw [if_pos (wanted_none rfl)]
       have f6 : (a9.tmps[6]?).getD undef = .pointer (some ⟨w4.heap.size, 0, none⟩) := hev 6 (by kernel_rfl)
       clear hde hdj hev hsl hun hJ0 hdi
       go_simp
       exact hJ.out.step (HN.out wx hJ.out.below) (by decide) (by decide) (by decide) (by decide) (.inl rfl) (Below.refl _ _)
      | 11, _ =>
       obtain rfl := Option.some.inj ho
       intro a9 dn vals wx hJ0 hdi hde hdj hev hsl hun
       have hJ := Lib.hid hJ0
       rw [if_pos (wanted_none rfl)]
       have f55 : (a9.tmps[55]?).getD undef = .pointer (some ⟨w4.heap.size, 2, none⟩) := (hsl 10 55 (hde 0 _ rfl rfl) rfl).trans (hJ.out.fv 10 _ rfl (hde 0 _ rfl rfl))
       have f54 : (a9.tmps[54]?).getD undef = vals 9 := hsl 9 54 (hde 1 _ rfl rfl) rfl
       have d9 : Hid (dn 9 = true) := hde 1 _ rfl rfl
       have hS := hJ.out.s1 d9.out hdi
       have c2 := hS.c2
       have cf := hS.f2
       have HF := Lib.hid (fun x => hJ.out.store (x := x) HGN.out (by decide) rfl d9.out hdi)
       obtain ⟨av, cv, ev, -⟩ := hS.own.cells.shape
       obtain ⟨nv, ev⟩ : ∃ n, vals 9 = .slice av n cv := ⟨_, ev⟩
       rw [ev] at f54
       simp only [ev] at HF
       clear hde hdj hev hsl hun hJ0 hdi
       clear hS ev
       go_simp
       exact HF.out _
     ·intro dn vals wx hall hJ
      have hS := hJ.s2 (hall 11 (by decide))
      have hb9 := hJ.below
      have g0 := hJ.fv 0 _ rfl (hall 0 (by decide))
      have g1 := hJ.fv 1 _ rfl (hall 1 (by decide))
      have g2 := hJ.fv 2 _ rfl (hall 2 (by decide))
      have g3 := hJ.fv 3 _ rfl (hall 3 (by decide))
      have g4 := hJ.fv 4 _ rfl (hall 4 (by decide))
      have g5 := hJ.fv 5 _ rfl (hall 5 (by decide))
      have g6 := hJ.fv 6 _ rfl (hall 6 (by decide))
      have g10 := hJ.fv 10 _ rfl (hall 10 (by decide))
      obtain ⟨x3, hx3⟩ : ∃ x, x = vals 9 := ⟨_, rfl⟩
      rw [← hx3] at hS
      have HS9 := Lib.hid hS
      have HB9 := Lib.hid hb9
      simp only [putDs, Act.put, Nat.zero_add, Nat.reduceAdd, List.setIfInBounds_toArray, List.set_cons_succ, List.set_cons_zero, g0, g1, g2, g3, g4, g5, g6, g10]
      clear g0 g1 g2 g3 g4 g5 g6 g10 hS hb9 hJ hall hx3
      rw [← HEE.out] at HS9
      have HBE := Lib.hid (HB6.out.trans HB9.out)
      clear HB9
      go_wp2
      exact ⟨⟨i + 1, _, HI2.out.1, by go_num, HS9.out, HBE.out⟩, HI2.out.2⟩
  ·obtain rfl : i = L.length := by omega
   rw [List.take_length] at ho
   have HOE := Lib.hid ho
   obtain ⟨c0, c1, c2, -, -, -, -, -, ow, -⟩ := ho
   obtain ⟨av, cv, rfl, -⟩ := ow.cells.shape
   obtain ⟨R, hR⟩ : ∃ R, R = cutL lo hi L := ⟨_, rfl⟩
   rw [← hR] at HOE c2 ⊢
   have HRR := Lib.hid hR
   have HDN := Lib.hid (fun t1 t2 t3 => arr_done (w := w) (X := ⟨D, A, R⟩) (x := t1) (y := t2) (t := t3) HOE.out.dm HOE.out.td HOE.out.at' HOE.out.ta HOE.out.own htg HBW.out (by omega) HB4.out.size)
   clear hb hi' hlt htg ow hR y0 y1 d0 d1
   go_wp2
   refine bodyPost_ret (by simp [results, Tryz.results35, go_sem, r0, r1, r2]; try rfl) rfl ?_
   obtain ⟨m1, -, m3, -, m5, m6⟩ := HDN.out (.slice a1 D.length b1) (.slice a2 A.length b2) (.slice av R.length cv)
   refine ⟨_, _, _, rfl, ?_, m6⟩
   rw [← HRR.out]
   exact ⟨m1, m3, m5.cells⟩
theorem rcut_any (x : ArrT) (lo hi : List Int) (vd va vc vl vh : Value) (w : World) (hx : ArrR w vd va vc x) (hlo : Ints w vl lo) (hhi : Ints w vh hi) (hs : StrD x.dims) (hsa : StrA x.attrs) (hsc : StrC x.cells) :
  Calls Tryz.prog 35 #[.agg #[vd, va, vc], .agg #[vl, vh]] w (RetAe (cutQ x lo hi) (cutE x lo hi) w) := by
 unfold cutQ cutE
 by_cases h : checkE x = 0
 ·rw [if_neg (show ¬ (checkE x ≠ 0) from fun h' => h' h)]
  by_cases h2 : formedB lo hi = false ∨ lo.length ≠ x.dims.length
  ·rw [if_pos h2]; exact rcut_shape x lo hi vd va vc vl vh w hx hlo hhi hs hsa hsc h h2
  ·rw [if_neg h2]
   exact rcut_core x lo hi vd va vc vl vh w hx hlo hhi hs hsa hsc h (by cases hf : formedB lo hi with | true => rfl | false => exact absurd (.inl hf) h2) (Classical.byContradiction fun h' => h2 (.inr h'))
 ·rw [if_pos (show checkE x ≠ 0 from h)]; exact rcut_bad x lo hi vd va vc vl vh w hx hlo hhi hs hsa hsc h
end Go.Proofs.YtebpfbgaafchjaaGreatDoor
/- The walk of SpaceCut. -/
namespace Go.Proofs.YtebpfbgaafchjaaGreatDoor
open Go.RowKit

theorem arrc_at (w : World) (v1 v2 v3 : Value) : ∃ W1, W1 = w.alloc (.cells #[v1, v2, v3] 41) ∧ Below w.heap.size w W1 ∧ ∀ w', Below W1.heap.size W1 w' → w'.cell? ⟨w.heap.size, 0, none⟩ = some v1 ∧ w'.cell? ⟨w.heap.size, 1, none⟩ = some v2 ∧ w'.cell? ⟨w.heap.size, 2, none⟩ = some v3 := by
 refine ⟨_, rfl, below_alloc _ _, fun w' hb => ?_⟩
 have h1 : ∀ j, w'.cell? ⟨w.heap.size, j, none⟩ = (w.alloc (.cells #[v1, v2, v3] 41)).cell? ⟨w.heap.size, j, none⟩ := fun j => hb.cell (p := ⟨w.heap.size, j, none⟩) (by simp)
 refine ⟨?_, ?_, ?_⟩ <;> (rw [h1, World.cell?_alloc_at _ _ _ _ rfl]; rfl)
theorem arg_at (w : World) (v1 v2 v3 b1 b2 : Value) : ∃ W1, W1 = (w.alloc (.cells #[v1, v2, v3] 41)).alloc (.cells #[b1, b2] 26) ∧ Below w.heap.size w W1 ∧
  ∀ w', Below W1.heap.size W1 w' → (w'.cell? ⟨w.heap.size, 0, none⟩ = some v1 ∧ w'.cell? ⟨w.heap.size, 1, none⟩ = some v2 ∧ w'.cell? ⟨w.heap.size, 2, none⟩ = some v3) ∧ w'.cell? ⟨w.heap.size + 1, 0, none⟩ = some b1 ∧ w'.cell? ⟨w.heap.size + 1, 1, none⟩ = some b2 := by
 obtain ⟨W2, hW2, hb2, hx2⟩ := arrc_at w v1 v2 v3
 obtain ⟨W3, hW3, hb3, hx3⟩ := boxm_at' W2 b1 b2
 refine ⟨W3, by rw [hW3, hW2], below_keep hb2 hb3, fun w' hb => ⟨hx2 w' (below_keep hb3 hb), ?_⟩⟩
 have := hx3 w' hb
 rw [show W2.heap.size = w.heap.size + 1 by rw [hW2]; simp] at this
 exact this
theorem sameBox_self (a1 a2 : List Int) (v1 v2 u1 u2 : Value) (w : World) (h1 : Ints w v1 a1) (h2 : Ints w v2 a2) (k1 : Ints w u1 a1) (k2 : Ints w u2 a2) :
  Calls Tryz.prog 36 #[.agg #[v1, v2], .agg #[u1, u2]] w (RetV' (.bool true) w) := by
 have := sameBox_any a1 a2 a1 a2 v1 v2 u1 u2 w h1 h2 k1 k2
 simpa using this
theorem equal_self (x : ArrT) (vd va vc ud ua uc : Value) (w : World) (hx : ArrR w vd va vc x) (hy : ArrR w ud ua uc x) :
  Calls Tryz.prog 20 #[.agg #[vd, va, vc], .agg #[ud, ua, uc]] w (RetV' (.bool true) w) := by
 have := equal_any x x vd va vc ud ua uc w hx hy
 rwa [show eqA x x = true by unfold eqA; simp] at this
set_option maxHeartbeats 16000000 in
set_option maxRecDepth 100000 in
theorem spaceCut_any (x : ArrT) (lo hi : List Int) (vd va vc vl vh : Value) (w : World) (hm : Ml w) (hx : ArrR w vd va vc x) (hlo : Ints w vl lo) (hhi : Ints w vh hi) (hs : StrD x.dims) (hsa : StrA x.attrs) (hsc : StrC x.cells) :
  Calls Tryz.prog 7 #[.agg #[vd, va, vc], .agg #[vl, vh]] w (RetV' (.bool true) w) := by
 have CW := Lib.hid (fun w1 (hb : Below w.heap.size w w1) => works_any w1 (hm.later hb))
 have CFW := Lib.hid (fun w1 (hb : Below w.heap.size w w1) => few_any x 60 vd va vc w1 (hx.later hb))
 have C1 := Lib.hid (fun w1 (hb : Below w.heap.size w w1) => wholeBox_any x.dims vd w1 (hx.dims.later DimR.lasts hb) hs)
 have C2 := Lib.hid (fun w1 (hb : Below w.heap.size w w1) => rwholeBox_any x.dims vd w1 (hx.dims.later DimR.lasts hb) hs)
 have C3 := Lib.hid (fun w1 (hb : Below w.heap.size w w1) => hull_any x vd va vc w1 (hx.later hb) hs hsa)
 have C4 := Lib.hid (fun w1 (hb : Below w.heap.size w w1) => rhull_any x vd va vc w1 (hx.later hb) hs hsa hsc)
 have C5 := Lib.hid (fun w1 (hb : Below w.heap.size w w1) => cut_any x lo hi vd va vc vl vh w1 (hx.later hb) (hlo.later IntR.lasts hb) (hhi.later IntR.lasts hb) hs hsa)
 have C6 := Lib.hid (fun w1 (hb : Below w.heap.size w w1) => rcut_any x lo hi vd va vc vl vh w1 (hx.later hb) (hlo.later IntR.lasts hb) (hhi.later IntR.lasts hb) hs hsa hsc)
 obtain ⟨p1, k1, rfl, -⟩ := hx.dims.shape
 obtain ⟨p2, k2, rfl, -⟩ := hx.attrs.shape
 obtain ⟨p3, k3, rfl, -⟩ := hx.cells.shape
 obtain ⟨p4, k4, rfl, -⟩ := hlo.shape
 obtain ⟨p5, k5, rfl, -⟩ := hhi.shape
 obtain ⟨WB, hWB⟩ : ∃ q, q = wholeB x.dims := ⟨_, rfl⟩
 obtain ⟨E, hE⟩ : ∃ q, q = dimsE x.dims := ⟨_, rfl⟩
 obtain ⟨HQ, hHQ⟩ : ∃ q, q = hullQ x := ⟨_, rfl⟩
 obtain ⟨X, hX⟩ : ∃ q, q = cutQ x lo hi := ⟨_, rfl⟩
 obtain ⟨G, hG⟩ : ∃ q, q = cutE x lo hi := ⟨_, rfl⟩
 rw [← hWB, ← hE] at C1 C2
 rw [← hHQ] at C3 C4
 rw [← hX, ← hG] at C5 C6
 have tE : (E == E) = true := beq_iff_eq.2 rfl
 have tG : (G == G) = true := beq_iff_eq.2 rfl
 obtain ⟨W1, hW1, hb1, hbx⟩ := arg_at w (.slice p1 x.dims.length k1) (.slice p2 x.attrs.length k2) (.slice p3 x.cells.length k3) (.slice p4 lo.length k4) (.slice p5 hi.length k5)
 have HB1 := Lib.hid hb1
 have HBX := Lib.hid hbx
 obtain ⟨⟨z0, z1, z2⟩, z3, z4⟩ := hbx W1 (Below.refl _ _)
 clear hm hx hlo hhi hs hsa hsc hWB hE hHQ hX hG hb1 hbx
 go_enter Tryz.func7, Tryz.ntmps7
 go_upto_region 1 with (fail)
 rw [← hW1]
 clear hW1
 by_cases hl1 : 10 < lo.length
 ·have s1 : decide ((10 : Int) < lo.length) = true := decide_eq_true (by omega)
  clear hl1
  go_wp2_with fail
  refine (CFW.out _ HB1.out).mono ?_
  rintro e w2 ⟨b, rfl, -, hb⟩
  have HB2 := Lib.hid (below_keep HB1.out hb)
  obtain ⟨⟨d0, d1, d2⟩, d3, d4⟩ := HBX.out w2 hb
  clear hb z0 z1 z2 z3 z4
  cases b <;>
  ·go_wp2_with fail
   refine (CW.out _ HB2.out).mono ?_
   rintro e z1 ⟨rfl, hb⟩
   have HBE := Lib.hid (below_keep HB2.out hb)
   clear hb CW
   go_wp2
   go_ret
   exact ⟨rfl, HBE.out⟩
 ·have s1 : decide ((10 : Int) < lo.length) = false := decide_eq_false (by omega)
  clear hl1
  by_cases hl2 : 10 < hi.length
  ·have s2 : decide ((10 : Int) < hi.length) = true := decide_eq_true (by omega)
   clear hl2
   go_wp2_with fail
   refine (CFW.out _ HB1.out).mono ?_
   rintro e w2 ⟨b, rfl, -, hb⟩
   have HB2 := Lib.hid (below_keep HB1.out hb)
   obtain ⟨⟨d0, d1, d2⟩, d3, d4⟩ := HBX.out w2 hb
   clear hb z0 z1 z2 z3 z4
   cases b <;>
   ·go_wp2_with fail
    refine (CW.out _ HB2.out).mono ?_
    rintro e z1 ⟨rfl, hb⟩
    have HBE := Lib.hid (below_keep HB2.out hb)
    clear hb CW
    go_wp2
    go_ret
    exact ⟨rfl, HBE.out⟩
  ·have s2 : decide ((10 : Int) < hi.length) = false := decide_eq_false (by omega)
   clear hl2
   go_wp2_with fail
   refine (CFW.out _ HB1.out).mono ?_
   rintro e w2 ⟨b, rfl, -, hb⟩
   have HB2 := Lib.hid (below_keep HB1.out hb)
   have HC2 := Lib.hid hb
   obtain ⟨⟨d0, d1, d2⟩, d3, d4⟩ := HBX.out w2 hb
   clear hb z0 z1 z2 z3 z4
   cases b with
   | false =>
    go_wp2_with fail
    refine (CW.out _ HB2.out).mono ?_
    rintro e z1 ⟨rfl, hb⟩
    have HBE := Lib.hid (below_keep HB2.out hb)
    clear hb CW
    go_wp2
    go_ret
    exact ⟨rfl, HBE.out⟩
   | true =>
    -- Whole
    go_wp2_with fail
    refine (C1.out _ HB2.out).mono ?_
    rintro e w3 ⟨t1, t2, rfl, n1, n2, hb⟩
    obtain ⟨A1, hA1, hba, hxa⟩ := boxm_at' w3 t1 t2
    have N1 := Lib.hid (And.intro (n1.ints.later IntR.lasts hba) (n2.ints.later IntR.lasts hba))
    obtain ⟨a1, b1, rfl, -⟩ := n1.ints.shape
    obtain ⟨a2, b2, rfl, -⟩ := n2.ints.shape
    have HB3 := Lib.hid (below_keep (below_keep HB2.out hb) hba)
    have HC3 := Lib.hid (below_keep (below_keep HC2.out hb) hba)
    have KA := Lib.hid hxa
    have hq1 : w3.heap.size < A1.heap.size := World.block_lt_of_cell? _ _ (hxa A1 (Below.refl _ _)).1
    clear hb hba hxa n1 n2 C1 d0 d1 d2 d3 d4
    go_upto_region 4 with (fail)
    rw [← hA1]
    clear hA1 hq1
    obtain ⟨⟨d0, d1, d2⟩, d3, d4⟩ := HBX.out A1 HC3.out
    go_wp2_with fail
    refine (C2.out _ HB3.out).mono ?_
    rintro e w4 ⟨t1, t2, rfl, n1, n2, hb⟩
    obtain ⟨A2, hA2, hba, hxa⟩ := boxm_at' w4 t1 t2
    have N2 := Lib.hid (And.intro (n1.ints.later IntR.lasts hba) (n2.ints.later IntR.lasts hba))
    obtain ⟨a3, b3, rfl, -⟩ := n1.ints.shape
    obtain ⟨a4, b4, rfl, -⟩ := n2.ints.shape
    have D4 := Lib.hid (below_keep hb hba)
    have HB4 := Lib.hid (below_keep HB3.out D4.out)
    have HC4 := Lib.hid (below_keep HC3.out D4.out)
    have KB := Lib.hid hxa
    clear hb hba hxa n1 n2 C2 d0 d1 d2 d3 d4
    go_upto_region 5 with (fail)
    rw [← hA2]
    clear hA2
    obtain ⟨⟨d0, d1, d2⟩, d3, d4⟩ := HBX.out A2 HC4.out
    -- Hull
    go_wp2_with fail
    refine (C3.out _ HB4.out).mono ?_
    rintro e w5 ⟨t1, t2, rfl, n1, n2, hb⟩
    obtain ⟨A3, hA3, hba, hxa⟩ := boxm_at' w5 t1 t2
    have N3 := Lib.hid (And.intro (n1.ints.later IntR.lasts hba) (n2.ints.later IntR.lasts hba))
    obtain ⟨a5, b5, rfl, -⟩ := n1.ints.shape
    obtain ⟨a6, b6, rfl, -⟩ := n2.ints.shape
    have D5 := Lib.hid (below_keep D4.out (below_keep hb hba))
    have D5' := Lib.hid (below_keep hb hba)
    have HB5 := Lib.hid (below_keep HB4.out D5'.out)
    have HC5 := Lib.hid (below_keep HC4.out D5'.out)
    have KC := Lib.hid hxa
    clear hb hba hxa n1 n2 C3 d0 d1 d2 d3 d4
    go_upto_region 6 with (fail)
    rw [← hA3]
    clear hA3
    obtain ⟨⟨d0, d1, d2⟩, d3, d4⟩ := HBX.out A3 HC5.out
    go_wp2_with fail
    refine (C4.out _ HB5.out).mono ?_
    rintro e w6 ⟨t1, t2, rfl, n1, n2, hb⟩
    obtain ⟨A4, hA4, hba, hxa⟩ := boxm_at' w6 t1 t2
    have N4 := Lib.hid (And.intro (n1.ints.later IntR.lasts hba) (n2.ints.later IntR.lasts hba))
    obtain ⟨a7, b7, rfl, -⟩ := n1.ints.shape
    obtain ⟨a8, b8, rfl, -⟩ := n2.ints.shape
    have D6' := Lib.hid (below_keep hb hba)
    have HB6 := Lib.hid (below_keep HB5.out D6'.out)
    have HC6 := Lib.hid (below_keep HC5.out D6'.out)
    have KD := Lib.hid hxa
    clear hb hba hxa n1 n2 C4 d0 d1 d2 d3 d4
    go_upto_region 7 with (fail)
    rw [← hA4]
    clear hA4
    obtain ⟨⟨d0, d1, d2⟩, d3, d4⟩ := HBX.out A4 HC6.out
    -- Cut
    go_wp2_with fail
    refine (C5.out _ HB6.out).mono ?_
    rintro e w7 ⟨t1, t2, t3, rfl, n1, hb⟩
    obtain ⟨A5, hA5, hba, hxa⟩ := arrc_at w7 t1 t2 t3
    have N5 := Lib.hid (n1.later hba)
    obtain ⟨m1, l1, rfl, -⟩ := n1.dims.shape
    obtain ⟨m2, l2, rfl, -⟩ := n1.attrs.shape
    obtain ⟨m3, l3, rfl, -⟩ := n1.cells.shape
    have D7' := Lib.hid (below_keep hb hba)
    have HB7 := Lib.hid (below_keep HB6.out D7'.out)
    have HC7 := Lib.hid (below_keep HC6.out D7'.out)
    have KE := Lib.hid hxa
    clear hb hba hxa n1 C5 d0 d1 d2 d3 d4
    go_upto_region 8 with (fail)
    rw [← hA5]
    clear hA5
    obtain ⟨⟨d0, d1, d2⟩, d3, d4⟩ := HBX.out A5 HC7.out
    go_wp2_with fail
    refine (C6.out _ HB7.out).mono ?_
    rintro e w8 ⟨t1, t2, t3, rfl, n1, hb⟩
    obtain ⟨A6, hA6, hba, hxa⟩ := arrc_at w8 t1 t2 t3
    have N6 := Lib.hid (n1.later hba)
    obtain ⟨m4, l4, rfl, -⟩ := n1.dims.shape
    obtain ⟨m5, l5, rfl, -⟩ := n1.attrs.shape
    obtain ⟨m6, l6, rfl, -⟩ := n1.cells.shape
    have D8' := Lib.hid (below_keep hb hba)
    have HB8 := Lib.hid (below_keep HB7.out D8'.out)
    have KF := Lib.hid hxa
    clear hb hba hxa n1 C6 d0 d1 d2 d3 d4
    go_upto_region 9 with (fail)
    rw [← hA6]
    clear hA6
    have F6 := Lib.hid (below_keep D6'.out (below_keep D7'.out D8'.out))
    have F5 := Lib.hid (below_keep D5'.out F6.out)
    have F4 := Lib.hid (below_keep D4.out F5.out)
    have F7 := Lib.hid (below_keep D7'.out D8'.out)
    have KZ : Hid (∀ w', Below A6.heap.size A6 w' → (w'.cell? ⟨w3.heap.size, 0, none⟩ = some (.slice a1 WB.1.length b1) ∧ w'.cell? ⟨w3.heap.size, 1, none⟩ = some (.slice a2 WB.2.length b2)) ∧ (w'.cell? ⟨w4.heap.size, 0, none⟩ = some (.slice a3 WB.1.length b3) ∧ w'.cell? ⟨w4.heap.size, 1, none⟩ = some (.slice a4 WB.2.length b4)) ∧ (w'.cell? ⟨w5.heap.size, 0, none⟩ = some (.slice a5 (HQ.getD ([], [])).1.length b5) ∧ w'.cell? ⟨w5.heap.size, 1, none⟩ = some (.slice a6 (HQ.getD ([], [])).2.length b6)) ∧ (w'.cell? ⟨w6.heap.size, 0, none⟩ = some (.slice a7 (HQ.getD ([], [])).1.length b7) ∧ w'.cell? ⟨w6.heap.size, 1, none⟩ = some (.slice a8 (HQ.getD ([], [])).2.length b8)) ∧ (w'.cell? ⟨w7.heap.size, 0, none⟩ = some (.slice m1 X.dims.length l1) ∧ w'.cell? ⟨w7.heap.size, 1, none⟩ = some (.slice m2 X.attrs.length l2) ∧ w'.cell? ⟨w7.heap.size, 2, none⟩ = some (.slice m3 X.cells.length l3)) ∧ (w'.cell? ⟨w8.heap.size, 0, none⟩ = some (.slice m4 X.dims.length l4) ∧ w'.cell? ⟨w8.heap.size, 1, none⟩ = some (.slice m5 X.attrs.length l5) ∧ w'.cell? ⟨w8.heap.size, 2, none⟩ = some (.slice m6 X.cells.length l6))) := fun w' h =>
     ⟨KA.out w' (below_keep F4.out h), KB.out w' (below_keep F5.out h), KC.out w' (below_keep F6.out h), KD.out w' (below_keep F7.out h), KE.out w' (below_keep D8'.out h), KF.out w' h⟩
    have S1 := Lib.hid (fun w9 (h : Below A6.heap.size A6 w9) => sameBox_self WB.1 WB.2 _ _ _ _ w9 (N1.out.1.later IntR.lasts (below_keep F4.out h)) (N1.out.2.later IntR.lasts (below_keep F4.out h)) (N2.out.1.later IntR.lasts (below_keep F5.out h)) (N2.out.2.later IntR.lasts (below_keep F5.out h)))
    have S2 := Lib.hid (fun w9 (h : Below A6.heap.size A6 w9) => sameBox_self (HQ.getD ([], [])).1 (HQ.getD ([], [])).2 _ _ _ _ w9 (N3.out.1.later IntR.lasts (below_keep F6.out h)) (N3.out.2.later IntR.lasts (below_keep F6.out h)) (N4.out.1.later IntR.lasts (below_keep F7.out h)) (N4.out.2.later IntR.lasts (below_keep F7.out h)))
    have S3 := Lib.hid (fun w9 (h : Below A6.heap.size A6 w9) => equal_self X _ _ _ _ _ _ w9 (N5.out.later (below_keep D8'.out h)) (N6.out.later h))
    obtain ⟨qb, hqb⟩ : ∃ qb, qb = HQ.isSome := ⟨_, rfl⟩
    rw [← hqb]
    have tq : (qb == qb) = true := beq_self_eq_true qb
    obtain ⟨e0, ⟨f0, f0'⟩, ⟨f1, f1'⟩, ⟨f2, f2'⟩, ⟨f3, f3', f3''⟩, f4, f4', f4''⟩ := KZ.out A6 (Below.refl _ _)
    obtain ⟨e0, e0'⟩ := e0
    clear hqb
    go_wp2_with fail
    refine (S1.out _ (Below.refl _ _)).mono ?_
    rintro e y1 ⟨rfl, hb⟩
    have Y1 := Lib.hid hb
    clear hb e0 e0' f0 f0' f1 f1' f2 f2' f3 f3' f3'' f4 f4' f4''
    obtain ⟨-, -, ⟨f1, f1'⟩, ⟨f2, f2'⟩, -⟩ := KZ.out y1 Y1.out
    go_wp2_with fail
    refine (S2.out _ Y1.out).mono ?_
    rintro e y2 ⟨rfl, hb⟩
    have Y2 := Lib.hid (below_keep Y1.out hb)
    clear hb f1 f1' f2 f2'
    obtain ⟨-, -, -, -, ⟨f3, f3', f3''⟩, f4, f4', f4''⟩ := KZ.out y2 Y2.out
    go_wp2_with fail
    refine (S3.out _ Y2.out).mono ?_
    rintro e y3 ⟨rfl, hb⟩
    have Y3 := Lib.hid (below_keep Y2.out hb)
    clear hb f3 f3' f3'' f4 f4' f4''
    go_wp2_with fail
    refine (CW.out _ (below_keep HB8.out Y3.out)).mono ?_
    rintro e z1 ⟨rfl, hb⟩
    have HBE := Lib.hid (below_keep (below_keep HB8.out Y3.out) hb)
    clear hb CW
    go_wp2
    go_ret
    exact ⟨rfl, HBE.out⟩
end Go.Proofs.YtebpfbgaafchjaaGreatDoor
