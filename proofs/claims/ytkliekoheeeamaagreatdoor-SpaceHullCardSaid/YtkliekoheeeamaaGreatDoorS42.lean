/- Lemmas and contracts, each under its own condition: Cut: plain words; space.Cut: the contract. The reference's Cut: the contract. (printed by rcut.py) The walk of SpaceCut. -/
import Derived.BigQuiet
import Derived.Deep.DeepCutAuto
import Derived.Deep.CutBlock
import Derived.Test.YtkliekoheeeamaaGreatDoorS15
import Derived.Test.YtkliekoheeeamaaGreatDoorS17
import Derived.Test.YtkliekoheeeamaaGreatDoorS22
import Derived.Test.YtkliekoheeeamaaGreatDoorS36
import Derived.Test.YtkliekoheeeamaaGreatDoorS40
import Derived.Test.YtkliekoheeeamaaGreatDoorS41
/- Cut: plain words; space.Cut: the contract. -/
namespace Go.Proofs.YtkliekoheeeamaaGreatDoor
open Go.RowKit Go.Shelf
attribute [local go_sem] Oper.semAt_some

def cutL (lo hi : List Int) (l : List CellT) : List CellT := l.filter fun c => hasB lo hi c.co
def cutE (x : ArrT) (lo hi : List Int) : Int := if checkE x ≠ 0 then 2 else if formedB lo hi = false ∨ lo.length ≠ x.dims.length then 13 else 0
def cutQ (x : ArrT) (lo hi : List Int) : ArrT := if cutE x lo hi ≠ 0 then ⟨[], [], []⟩ else ⟨x.dims, x.attrs, cutL lo hi x.cells⟩
/-- a result: an array, and an error -/
def RetAe (x : ArrT) (r : Int) (w : World) (e : Ending) (w' : World) : Prop := ∃ v1 v2 v3, e = .returned (.tuple #[.agg #[v1, v2, v3], .int .i64 r]) ∧ ArrR w' v1 v2 v3 x ∧ Below w.heap.size w w'
/-- the same, the array's memory being the call's own -/
def RetAeO (x : ArrT) (r : Int) (w : World) (e : Ending) (w' : World) : Prop := ∃ v1 v2 v3, e = .returned (.tuple #[.agg #[v1, v2, v3], .int .i64 r]) ∧ Dims w' v1 x.dims ∧ TagV w' v1 102 ∧ Attrs w' v2 x.attrs ∧ TagV w' v2 105 ∧ CellsO w.heap.size w' v3 x.cells ∧ Below w.heap.size w w'
theorem RetAeO.weak {x : ArrT} {r : Int} {w : World} {e : Ending} {w' : World} (h : RetAeO x r w e w') : RetAe x r w e w' := by
 obtain ⟨v1, v2, v3, he, h1, -, h2, -, h3, hb⟩ := h
 exact ⟨v1, v2, v3, he, ⟨h1, h2, h3.cells⟩, hb⟩
theorem cutL_snoc {lo hi : List Int} {l : List CellT} {i : Nat} {c : CellT} (h : l[i]? = some c) : cutL lo hi (l.take (i + 1)) = if hasB lo hi c.co = true then cutL lo hi (l.take i) ++ [c] else cutL lo hi (l.take i) := by
 rw [take_snoc' h]
 unfold cutL
 rw [List.filter_append]
 split
 ·rename_i h1; simp [h1]
 ·rename_i h1; simp [h1]
theorem cutL_len (lo hi : List Int) (l : List CellT) : (cutL lo hi l).length ≤ l.length := List.length_filter_le _ _
theorem check_short {x : ArrT} (h : checkE x = 0) : ShortC x.cells ∧ x.attrs.length ≤ 6 := by
 have h1 := (check_parts h).1
 have h6 : x.attrs.length ≤ 6 := by
  unfold schemaE at h1
  split at h1
  ·rename_i h2; exact absurd h1 h2
  ·split at h1
   ·cases h1
   ·omega
 refine ⟨fun c hc => ?_, h6⟩
 have h2 := cellsL_mem _ _ (check_parts h).2.2 c hc
 have h4 := (check_dims h).2
 unfold cellE at h2
 split at h2
 ·cases h2
 ·rename_i h3
  have h5 : c.co.length = x.dims.length := Classical.byContradiction fun h => h3 (.inl h)
  have h7 : c.vals.length = x.attrs.length := Classical.byContradiction fun h => h3 (.inr h)
  omega
/-- a list of cells that was made here, the parts of the cells being those of an older world -/
structure CutO (n₀ : Nat) (w0 w : World) (v : Value) (l : List CellT) : Prop where
 ex : ∃ us : List (Value × Value), us.length = l.length ∧ w.ownsRow n₀ 62 2 v l.length (us.flatMap fun u => [u.1, u.2]) ∧ ∀ (i : Nat) (c : CellT) (u : Value × Value), l[i]? = some c → us[i]? = some u → Ints w0 u.1 c.co ∧ Vals w0 u.2 c.vals
theorem CutO.nil (n₀ : Nat) (w0 w : World) : CutO n₀ w0 w (.slice none 0 0) [] := ⟨[], rfl, World.ownsRow_nil _ _ _ _, fun i x u h => by simp at h⟩
theorem CutO.later {n₀ : Nat} {w0 w w' : World} {v : Value} {l : List CellT} (h : CutO n₀ w0 w v l) (hb : Below w.heap.size w w') : CutO n₀ w0 w' v l := by
 obtain ⟨us, h1, h2, h3⟩ := h
 exact ⟨us, h1, h2.kept (row := none) (grown_of_below hb none) (by cases v.ownBlock <;> simp), h3⟩
theorem CutO.snoc {n₀ : Nat} {w0 w' : World} {v' u1 u2 : Value} {l : List CellT} {c : CellT} {us : List (Value × Value)} (hl : us.length = l.length) (hx : ∀ (i : Nat) (c : CellT) (u : Value × Value), l[i]? = some c → us[i]? = some u → Ints w0 u.1 c.co ∧ Vals w0 u.2 c.vals)
  (hn : w'.ownsRow n₀ 62 2 v' (l.length + 1) ((us.flatMap fun u => [u.1, u.2]) ++ [u1, u2])) (h1 : Ints w0 u1 c.co) (h2 : Vals w0 u2 c.vals) : CutO n₀ w0 w' v' (l ++ [c]) := by
 refine ⟨us ++ [(u1, u2)], by simp [hl], by simpa using hn, fun i y z hi hz => ?_⟩
 by_cases hlt : i < l.length
 ·rw [List.getElem?_append_left hlt] at hi
  rw [List.getElem?_append_left (by omega)] at hz
  exact hx i y z hi hz
 ·rw [List.getElem?_append_right (by omega)] at hi hz
  rw [hl] at hz
  have h0 : i - l.length = 0 := by
   have := (List.getElem?_eq_some_iff.1 hi).1
   simp at this; omega
  rw [h0] at hi hz
  simp only [List.getElem?_cons_zero, Option.some.injEq] at hi hz
  subst hi hz
  exact ⟨h1, h2⟩
theorem CutO.cells {n₀ : Nat} {w0 w : World} {v : Value} {l : List CellT} (h : CutO n₀ w0 w v l) (hb : Below w0.heap.size w0 w) : CellsA w v l := by
 obtain ⟨us, hl, ho, hx⟩ := h
 have hc : ∀ {g : Nat}, v.ownBlock = some g → ∀ j u, (us.flatMap fun u => [u.1, u.2])[j]? = some u → w.cell? ((⟨g, 0, none⟩ : Addr).add j) = some u := fun hg => ho.cells hg
 rcases ho.2 with ⟨rfl, h0⟩ | ⟨g, cap, cur, rfl, h1, h2, h3, h4, h5, h6⟩
 ·have : l = [] := List.length_eq_zero_iff.1 h0
  subst this
  exact Ls.nil _ _ _ (by omega)
 ·unfold maxLen at h4
  refine ⟨_, cap, rfl, h3, h4, fun h0 => ⟨g, 0, rfl, fun i x hi => ?_⟩⟩
  have hlt : i < us.length := by rw [hl]; exact (List.getElem?_eq_some_iff.1 hi).1
  have hu := List.getElem?_eq_getElem hlt
  have f0 := flat_at (k := 2) (f := fun u : Value × Value => [u.1, u.2]) (fun _ => rfl) us i us[i] 0 us[i].1 hu rfl
  have f1 := flat_at (k := 2) (f := fun u : Value × Value => [u.1, u.2]) (fun _ => rfl) us i us[i] 1 us[i].2 hu rfl
  have e0 := hc (g := g) rfl _ _ f0
  have e1 := hc (g := g) rfl _ _ f1
  rw [show (⟨g, 0, none⟩ : Addr).add (i * 2 + 0) = ⟨g, 0 + i * 2, none⟩ from by unfold Addr.add; split <;> simp_all] at e0
  rw [show (⟨g, 0, none⟩ : Addr).add (i * 2 + 1) = ⟨g, 0 + i * 2 + 1, none⟩ from by unfold Addr.add; split <;> simp_all] at e1
  have hce := hx i x us[i] hi hu
  exact ⟨us[i].1, us[i].2, e0, e1, hce.1.later IntR.lasts hb, hce.2.later ValR.lasts hb⟩
theorem arrR_nil (w : World) : ArrR w (.slice none 0 0) (.slice none 0 0) (.slice none 0 0) ⟨[], [], []⟩ := ⟨Ls.nil _ _ _ (by omega), Ls.nil _ _ _ (by omega), Ls.nil _ _ _ (by omega)⟩
theorem cut_at (w : World) (v1 v2 v3 b1 b2 : Value) : ∃ W1, W1 = ((w.alloc (.cells #[v1, v2, v3] 52)).alloc (.cells #[b1, b2] 26)).alloc (.cells #[.slice none 0 0, .slice none 0 0, .slice none 0 0] 52) ∧ Below w.heap.size w W1 ∧ W1.heap.size = w.heap.size + 3 ∧
  ∀ w', Below W1.heap.size W1 w' → (w'.cell? ⟨w.heap.size, 0, none⟩ = some v1 ∧ w'.cell? ⟨w.heap.size, 1, none⟩ = some v2 ∧ w'.cell? ⟨w.heap.size, 2, none⟩ = some v3) ∧ (w'.cell? ⟨w.heap.size + 1, 0, none⟩ = some b1 ∧ w'.cell? ⟨w.heap.size + 1, 1, none⟩ = some b2) ∧
   (w'.cell? ⟨w.heap.size + 2, 0, none⟩ = some (.slice none 0 0) ∧ w'.cell? ⟨w.heap.size + 2, 1, none⟩ = some (.slice none 0 0) ∧ w'.cell? ⟨w.heap.size + 2, 2, none⟩ = some (.slice none 0 0)) ∧ (w'.frozen? ⟨w.heap.size + 2, 0, none⟩ = false ∧ w'.frozen? ⟨w.heap.size + 2, 1, none⟩ = false ∧ w'.frozen? ⟨w.heap.size + 2, 2, none⟩ = false) ∧ TagB w' (w.heap.size + 2) 52 := by
 have hb1 : Below w.heap.size w (w.alloc (.cells #[v1, v2, v3] 52)) := below_alloc _ _
 have hb2 : Below (w.alloc (.cells #[v1, v2, v3] 52)).heap.size (w.alloc (.cells #[v1, v2, v3] 52)) ((w.alloc (.cells #[v1, v2, v3] 52)).alloc (.cells #[b1, b2] 26)) := below_alloc _ _
 obtain ⟨W3, hW3, hb3, hx3⟩ := arr_zero ((w.alloc (.cells #[v1, v2, v3] 52)).alloc (.cells #[b1, b2] 26))
 have hsz : ((w.alloc (.cells #[v1, v2, v3] 52)).alloc (.cells #[b1, b2] 26)).heap.size = w.heap.size + 2 := by simp
 refine ⟨W3, hW3, below_keep (below_keep hb1 hb2) hb3, by rw [hW3]; simp, fun w' hb => ?_⟩
 have h1 : ∀ j, w'.cell? ⟨w.heap.size, j, none⟩ = (w.alloc (.cells #[v1, v2, v3] 52)).cell? ⟨w.heap.size, j, none⟩ := fun j => (below_keep (below_keep hb2 hb3) hb).cell (p := ⟨w.heap.size, j, none⟩) (by simp)
 have h2 : ∀ j, w'.cell? ⟨w.heap.size + 1, j, none⟩ = ((w.alloc (.cells #[v1, v2, v3] 52)).alloc (.cells #[b1, b2] 26)).cell? ⟨w.heap.size + 1, j, none⟩ := fun j => (below_keep hb3 hb).cell (p := ⟨w.heap.size + 1, j, none⟩) (by simp)
 have hr := hx3 w' hb
 rw [hsz] at hr
 refine ⟨⟨?_, ?_, ?_⟩, ⟨?_, ?_⟩, hr⟩
 ·rw [h1, World.cell?_alloc_at _ _ _ _ rfl]; rfl
 ·rw [h1, World.cell?_alloc_at _ _ _ _ rfl]; rfl
 ·rw [h1, World.cell?_alloc_at _ _ _ _ rfl]; rfl
 ·rw [h2, World.cell?_alloc_at _ _ _ _ (by simp)]; rfl
 ·rw [h2, World.cell?_alloc_at _ _ _ _ (by simp)]; rfl
theorem two_new (w : World) (u1 u2 : Value) (t : TypeId) : ∀ j u, [u1, u2][j]? = some u → (w.alloc (.cells #[u1, u2] t)).cell? ((⟨w.heap.size, 0, none⟩ : Addr).add j) = some u := fun j u h => by
 have e : ((⟨w.heap.size, 0, none⟩ : Addr).add j) = ⟨w.heap.size, j, none⟩ := by unfold Addr.add; split <;> simp_all
 rw [e, World.cell?_alloc_at _ _ _ _ rfl]
 simpa using h
theorem below3 {w w1 : World} (h : Below w.heap.size w w1) (g : Nat) (hg : w.heap.size ≤ g) (x y t : Value) : Below w.heap.size w (((w1.setCell ⟨g, 0, none⟩ x).setCell ⟨g, 1, none⟩ y).setCell ⟨g, 2, none⟩ t) := ((h.setCell (p := ⟨g, 0, none⟩) hg _).setCell (p := ⟨g, 1, none⟩) hg _).setCell (p := ⟨g, 2, none⟩) hg _
set_option maxHeartbeats 3200000 in
theorem cut_bad (x : ArrT) (lo hi : List Int) (vd va vc vl vh : Value) (w : World) (hx : ArrR w vd va vc x) (hlo : Ints w vl lo) (hhi : Ints w vh hi) (hs : StrD x.dims) (hsa : StrA x.attrs) (h : checkE x ≠ 0) :
  Calls Tryz.prog 20 #[.agg #[vd, va, vc], .agg #[vl, vh]] w (RetAe ⟨[], [], []⟩ 2 w) := by
 have C := Lib.hid (fun w1 (hb : Below w.heap.size w w1) => checkA_any x vd va vc w1 (hx.later hb) hs hsa)
 obtain ⟨p1, k1, rfl, -⟩ := hx.dims.shape
 obtain ⟨p2, k2, rfl, -⟩ := hx.attrs.shape
 obtain ⟨p3, k3, rfl, -⟩ := hx.cells.shape
 obtain ⟨p4, k4, rfl, -⟩ := hlo.shape
 obtain ⟨p5, k5, rfl, -⟩ := hhi.shape
 have hne : (checkE x != 0) = true := by rw [bne_iff_ne]; exact h
 generalize checkE x = r at *
 obtain ⟨W1, hW1, hb1, -, hbx⟩ := cut_at w (.slice p1 x.dims.length k1) (.slice p2 x.attrs.length k2) (.slice p3 x.cells.length k3) (.slice p4 lo.length k4) (.slice p5 hi.length k5)
 have HB1 := Lib.hid hb1
 have HBX := Lib.hid hbx
 obtain ⟨⟨z0, z1, z2⟩, -⟩ := hbx W1 (Below.refl _ _)
 clear hx hs hsa h hb1 hbx hlo hhi
 go_enter Tryz.func20, Tryz.ntmps20
 go_upto_region 1 with (fail)
 rw [← hW1]
 clear hW1
 go_wp2_with fail
 refine (C.out _ HB1.out).mono ?_
 rintro e w2 ⟨rfl, hb⟩
 have HB2 := Lib.hid (below_keep HB1.out hb)
 obtain ⟨-, -, ⟨r0, r1, r2⟩, ⟨f0, f1, f2⟩, -⟩ := HBX.out w2 hb
 clear hb C z0 z1 z2
 go_wp2
 refine bodyPost_ret (by simp [results, Tryz.results20, go_sem, r0, r1, r2]; try rfl) rfl ?_
 exact ⟨_, _, _, rfl, arrR_nil _, below3 HB2.out _ (by omega) _ _ _⟩
set_option maxHeartbeats 3200000 in
theorem cut_shape (x : ArrT) (lo hi : List Int) (vd va vc vl vh : Value) (w : World) (hx : ArrR w vd va vc x) (hlo : Ints w vl lo) (hhi : Ints w vh hi) (hs : StrD x.dims) (hsa : StrA x.attrs) (h : checkE x = 0) (h2 : formedB lo hi = false ∨ lo.length ≠ x.dims.length) :
  Calls Tryz.prog 20 #[.agg #[vd, va, vc], .agg #[vl, vh]] w (RetAe ⟨[], [], []⟩ 13 w) := by
 have C := Lib.hid (fun w1 (hb : Below w.heap.size w w1) => checkA_any x vd va vc w1 (hx.later hb) hs hsa)
 rw [h] at C
 have CF := Lib.hid (fun w1 (hb : Below w.heap.size w w1) => formed_any vl vh lo hi w1 (hlo.later IntR.lasts hb) (hhi.later IntR.lasts hb))
 obtain ⟨p1, k1, rfl, -⟩ := hx.dims.shape
 obtain ⟨p2, k2, rfl, -⟩ := hx.attrs.shape
 obtain ⟨p3, k3, rfl, -⟩ := hx.cells.shape
 obtain ⟨p4, k4, rfl, -⟩ := hlo.shape
 obtain ⟨p5, k5, rfl, -⟩ := hhi.shape
 obtain ⟨W1, hW1, hb1, -, hbx⟩ := cut_at w (.slice p1 x.dims.length k1) (.slice p2 x.attrs.length k2) (.slice p3 x.cells.length k3) (.slice p4 lo.length k4) (.slice p5 hi.length k5)
 have HB1 := Lib.hid hb1
 have HBX := Lib.hid hbx
 obtain ⟨⟨z0, z1, z2⟩, -⟩ := hbx W1 (Below.refl _ _)
 clear hx hs hsa h hb1 hbx hlo hhi
 go_enter Tryz.func20, Tryz.ntmps20
 go_upto_region 1 with (fail)
 rw [← hW1]
 clear hW1
 go_wp2_with fail
 refine (C.out _ HB1.out).mono ?_
 rintro e w2 ⟨rfl, hb⟩
 have HB2 := Lib.hid (below_keep HB1.out hb)
 have HC2 := Lib.hid hb
 obtain ⟨⟨d0, d1, d2⟩, ⟨y0, y1⟩, -⟩ := HBX.out w2 hb
 clear hb C z0 z1 z2
 cases hf : formedB lo hi with
 | false =>
  rw [hf] at CF
  clear h2 hf
  go_wp2_with fail
  refine (CF.out _ HB2.out).mono ?_
  rintro e w3 ⟨rfl, hb⟩
  have HB3 := Lib.hid (below_keep HB2.out hb)
  obtain ⟨-, -, ⟨r0, r1, r2⟩, ⟨f0, f1, f2⟩, -⟩ := HBX.out w3 (below_keep HC2.out hb)
  clear hb CF d0 d1 d2 y0 y1
  go_wp2
  refine bodyPost_ret (by simp [results, Tryz.results20, go_sem, r0, r1, r2]; try rfl) rfl ?_
  exact ⟨_, _, _, rfl, arrR_nil _, below3 HB3.out _ (by omega) _ _ _⟩
 | true =>
  rw [hf] at CF
  have h5 : ((lo.length : Int) != x.dims.length) = true := by
   rw [bne_iff_ne]
   rcases h2 with h | h
   ·rw [hf] at h; cases h
   ·omega
  clear h2 hf
  go_wp2_with fail
  refine (CF.out _ HB2.out).mono ?_
  rintro e w3 ⟨rfl, hb⟩
  have HB3 := Lib.hid (below_keep HB2.out hb)
  clear d0 d1 d2 y0 y1
  obtain ⟨⟨d0, d1, d2⟩, ⟨y0, y1⟩, ⟨r0, r1, r2⟩, ⟨f0, f1, f2⟩, -⟩ := HBX.out w3 (below_keep HC2.out hb)
  clear hb CF
  go_wp2
  refine bodyPost_ret (by simp [results, Tryz.results20, go_sem, r0, r1, r2]; try rfl) rfl ?_
  exact ⟨_, _, _, rfl, arrR_nil _, below3 HB3.out _ (by omega) _ _ _⟩
set_option maxHeartbeats 16000000 in
set_option maxRecDepth 100000 in
theorem cut_coreO (x : ArrT) (lo hi : List Int) (vd va vc vl vh : Value) (w : World) (hx : ArrR w vd va vc x) (hlo : Ints w vl lo) (hhi : Ints w vh hi) (hs : StrD x.dims) (hsa : StrA x.attrs) (h : checkE x = 0) (h2 : formedB lo hi = true) (h3 : lo.length = x.dims.length) :
  Calls Tryz.prog 20 #[.agg #[vd, va, vc], .agg #[vl, vh]] w (RetAeO ⟨x.dims, x.attrs, cutL lo hi x.cells⟩ 0 w) := by
 have C := Lib.hid (fun w1 (hb : Below w.heap.size w w1) => checkA_any x vd va vc w1 (hx.later hb) hs hsa)
 rw [h] at C
 have CF := Lib.hid (fun w1 (hb : Below w.heap.size w w1) => formed_any vl vh lo hi w1 (hlo.later IntR.lasts hb) (hhi.later IntR.lasts hb))
 rw [h2] at CF
 have CH := Lib.hid (fun (c : List Int) (u : Value) w1 (hb : Below w.heap.size w w1) (hc : Ints w1 u c) => has_any vl vh u lo hi c w1 (hlo.later IntR.lasts hb) (hhi.later IntR.lasts hb) hc)
 have HD := Lib.hid hx.dims
 have HA := Lib.hid hx.attrs
 have HL := Lib.hid hx.cells
 have HSH := Lib.hid (check_short h)
 have HD4 := Lib.hid (check_dims h).2
 have HN4 := Lib.hid (check_parts h).2.1
 obtain ⟨p1, k1, rfl, -⟩ := hx.dims.shape
 obtain ⟨p2, k2, rfl, -⟩ := hx.attrs.shape
 obtain ⟨p3, k3, rfl, -⟩ := hx.cells.shape
 obtain ⟨p4, k4, rfl, -⟩ := hlo.shape
 obtain ⟨p5, k5, rfl, -⟩ := hhi.shape
 have h5 : ((lo.length : Int) != x.dims.length) = false := by rw [bne_eq_false_iff_eq]; omega
 obtain ⟨D, hDD⟩ : ∃ D, D = x.dims := ⟨_, rfl⟩
 obtain ⟨A, hAA⟩ : ∃ A, A = x.attrs := ⟨_, rfl⟩
 obtain ⟨L, hLL⟩ : ∃ L, L = x.cells := ⟨_, rfl⟩
 rw [← hDD, ← hAA, ← hLL] at C ⊢
 rw [← hDD] at HD HD4 h5
 rw [← hAA] at HA
 rw [← hLL] at HL HN4
 rw [← hAA, ← hLL] at HSH
 obtain ⟨j0, hj0, hy0, hy1, hy2⟩ := info_parts infoCell
 obtain ⟨W1, hW1, hb1, hs1, hbx⟩ := cut_at w (.slice p1 D.length k1) (.slice p2 A.length k2) (.slice p3 L.length k3) (.slice p4 lo.length k4) (.slice p5 hi.length k5)
 have HB1 := Lib.hid hb1
 have HBX := Lib.hid hbx
 obtain ⟨⟨z0, z1, z2⟩, -⟩ := hbx W1 (Below.refl _ _)
 clear hx hs hsa h hb1 hbx hlo hhi h2 h3 hDD hAA hLL hs1
 go_enter Tryz.func20, Tryz.ntmps20
 go_upto_region 1 with (fail)
 rw [← hW1]
 clear hW1
 go_wp2_with fail
 refine (C.out _ HB1.out).mono ?_
 rintro e w2 ⟨rfl, hb⟩
 have HB2 := Lib.hid (below_keep HB1.out hb)
 have HC2 := Lib.hid hb
 obtain ⟨⟨d0, d1, d2⟩, ⟨y0, y1⟩, -⟩ := HBX.out w2 hb
 clear hb C z0 z1 z2
 go_wp2_with fail
 refine (CF.out _ HB2.out).mono ?_
 rintro e w3 ⟨rfl, hb⟩
 have HB3 := Lib.hid (below_keep HB2.out hb)
 have HC3 := Lib.hid (below_keep HC2.out hb)
 clear d0 d1 d2 y0 y1
 obtain ⟨⟨d0, d1, d2⟩, ⟨y0, y1⟩, -⟩ := HBX.out w3 HC3.out
 clear hb CF
 go_wp2
 clear d0 d1 d2 y0 y1 h5
 go_loopw [6, 29] (fun lv iv wr => ∃ i : Nat, i ≤ L.length ∧ iv = .int .i64 (i : Nat) ∧ CutO w3.heap.size w wr lv (cutL lo hi (L.take i)) ∧ Below w3.heap.size w3 wr) (fun _ iv _ => L.length - (intOf iv).toNat)
 case atStart => exact ⟨0, Nat.zero_le _, rfl, CutO.nil _ _ _, Below.refl _ _⟩
 case round =>
  obtain ⟨i, hi', rfl, hco, hb⟩ := hrel
  have HCU := Lib.hid hco
  have HBR := Lib.hid hb
  have HBW := Lib.hid (below_keep HB3.out hb)
  obtain ⟨⟨d0, d1, d2⟩, ⟨y0, y1⟩, ⟨r0, r1, r2⟩, ⟨f0, f1, f2⟩, htg⟩ := HBX.out wr (below_keep HC3.out hb)
  obtain ⟨pv, kv, ev, -⟩ := (hco.cells HBW.out).shape
  clear hco hb
  by_cases hlt : i < L.length
  ·clear d0 d1 d2 r0 r1 r2 f0 f1 f2 htg
   obtain ⟨gq, oq, c, eq, hc, hr⟩ := HL.out.at i hlt
   subst eq
   obtain ⟨u1, u2, e1, e2, hi1, hv1⟩ := hr
   have e1 := cell_later e1 HBW.out
   have e2 := cell_later e2 HBW.out
   have HI1 := Lib.hid hi1
   have HV1 := Lib.hid hv1
   have HSN := Lib.hid (cutL_snoc (lo := lo) (hi := hi) hc)
   have HLN := Lib.hid (cutL_len lo hi (L.take i))
   have HLT : Hid ((L.take i).length ≤ L.length) := by show _ ≤ _; rw [List.length_take]; omega
   have CHC := Lib.hid (CH.out c.co u1)
   obtain ⟨l, hl⟩ : ∃ l, l = cutL lo hi (L.take i) := ⟨_, rfl⟩
   rw [← hl] at HCU HSN HLN ev
   obtain ⟨q1, m1, rfl, -⟩ := hi1.shape
   obtain ⟨q2, m2, rfl, -⟩ := hv1.shape
   have HI2 : Hid (i + 1 ≤ L.length ∧ L.length - (i + 1) < L.length - i) := by show _ ∧ _; omega
   have ib0 : (0 : Int) ≤ (i : Int) := by omega
   have ib1 : (i : Int) < (L.length : Int) := by omega
   obtain ⟨W5, hW5⟩ : ∃ W5, W5 = wr.alloc (.cells #[.slice q1 c.co.length m1, .slice q2 c.vals.length m2] 62) := ⟨_, rfl⟩
   have HB5 : Hid (Below wr.heap.size wr W5) := by rw [hW5]; exact below_alloc _ _
   have s1 : W5.cell? ⟨wr.heap.size, 0, none⟩ = some (.slice q1 c.co.length m1) := by rw [hW5, World.cell?_alloc_at _ _ _ _ rfl]; rfl
   have s2 : W5.cell? ⟨wr.heap.size, 1, none⟩ = some (.slice q2 c.vals.length m2) := by rw [hW5, World.cell?_alloc_at _ _ _ _ rfl]; rfl
   have HS := Lib.hid (And.intro s1 s2)
   have HY := Lib.hid (And.intro y0 y1)
   clear hc hl hi1 hv1 hi' hlt s1 s2 y0 y1
   subst ev
   have HIB : Hid (L.length ≤ 4096) := HN4.out
   go_upto_region 9 with (fail)
   rw [← hW5]
   clear hW5 e1 e2
   have y0 := cell_later HY.out.1 HB5.out
   have y1 := cell_later HY.out.2 HB5.out
   have s1 := HS.out.1
   obtain ⟨hb9, hhb9⟩ : ∃ b, b = hasB lo hi c.co := ⟨_, rfl⟩
   rw [← hhb9] at HSN
   have CHX := Lib.hid (CHC.out W5 (below_keep HBW.out HB5.out) (HI1.out.later IntR.lasts (below_keep HBW.out HB5.out)))
   rw [← hhb9] at CHX
   clear hhb9
   cases hb9 with
   | false =>
    have HE : Hid (cutL lo hi (L.take (i + 1)) = l) := by have := HSN.out; rwa [if_neg (by decide)] at this
    go_wp2_with fail
    refine CHX.out.mono ?_
    rintro e w6 ⟨rfl, hb⟩
    have HB6 := Lib.hid (below_keep HB5.out hb)
    have hn4 : L.length ≤ 4096 := HIB.out
    clear hb y0 y1 s1
    go_wp2
    exact ⟨⟨i + 1, HI2.out.1, by go_num, by rw [HE.out]; exact HCU.out.later HB6.out, below_keep HBR.out HB6.out⟩, HI2.out.2⟩
   | true =>
    have HE : Hid (cutL lo hi (L.take (i + 1)) = l ++ [c]) := by have := HSN.out; rwa [if_pos rfl] at this
    go_wp2_with fail
    refine CHX.out.mono ?_
    rintro e w6 ⟨rfl, hb⟩
    have HB6 := Lib.hid (below_keep HB5.out hb)
    clear y0 y1 s1
    have s1 := cell_later HS.out.1 hb
    have s2 := cell_later HS.out.2 hb
    obtain ⟨us, hul, hus, hux⟩ := (HCU.out.later HB6.out).ex
    have HUX := Lib.hid hux
    have HUL := Lib.hid hul
    have hl4 : l.length ≤ 4096 := Nat.le_trans HLN.out (Nat.le_trans HLT.out HIB.out)
    have hge : w3.heap.size ≤ w6.heap.size := Nat.le_trans HBR.out.size HB6.out.size
    clear hb hul hux
    go_wp2_with (at_builtin; refine wpList_append_lies _ (by rfl) _ _ 50 (by rfl) w3.heap.size 62 j0 (.agg #[.slice none 0 0, .slice none 0 0]) 2 48 Tryz.underlying50 hj0 hy0 hy1 hy2 rfl (by decide) (.slice pv l.length kv) l.length (us.flatMap fun u => [u.1, u.2]) (by rfl) (hus.alloc _) ⟨w6.heap.size, 0, none⟩ 1 1 [.slice q1 c.co.length m1, .slice q2 c.vals.length m2] (by rfl) (by rfl) (two_new _ _ _ _) (by simp [Value.oneCell']) (by omega) (by unfold maxLen; omega) (by omega) (by simp; omega) (w6.heap.size + 1) (by simp) ?_)
    intro g1 cp1 w7 hown hgrow hat hlt6
    have HE7 := Lib.hid (CutO.snoc (c := c) HUL.out HUX.out hown HI1.out HV1.out)
    have hbd : Below w6.heap.size w6 (w6.alloc (.cells #[.slice q1 c.co.length m1, .slice q2 c.vals.length m2] 62)) := below_alloc _ _
    have HB7 := Lib.hid ((below_keep HBR.out HB6.out).trans ((hbd.mono hge).grown hgrow (Nat.le_trans hge hbd.size) (fun k e => (hus.lt k e).1)))
    have hn4 : L.length ≤ 4096 := HIB.out
    clear hus hown hgrow hat hlt6 hbd s1 s2 hge hl4
    go_wp2
    exact ⟨⟨i + 1, HI2.out.1, by go_num, by rw [HE.out]; exact HE7.out, HB7.out⟩, HI2.out.2⟩
  ·obtain rfl : i = L.length := by omega
   rw [List.take_length] at HCU ev
   have hcl := HCU.out.cells HBW.out
   have HLN := Lib.hid (cutL_len lo hi L)
   have HSC : Hid (ShortC (cutL lo hi L)) := fun c hc => HSH.out.1 c (List.mem_filter.1 hc).1
   have CR := Lib.hid (fresh_any D A (cutL lo hi L) (.slice p1 D.length k1) (.slice p2 A.length k2) _ wr (HD.out.later DimR.lasts HBW.out) (HA.out.later AttrR.lasts HBW.out) hcl (by have := HD4.out; omega) (by have := HSH.out.2; omega) (by have := HLN.out; have := HN4.out; omega) HSC.out)
   subst ev
   obtain ⟨R, hR⟩ : ∃ R, R = cutL lo hi L := ⟨_, rfl⟩
   rw [← hR] at CR ⊢
   have HRR := Lib.hid hR
   clear hcl hR hlt hi' y0 y1 r0 r1 r2 f0 f1 f2 htg d2
   go_wp2_with fail
   refine CR.out.mono ?_
   rintro e w9 ⟨v1, v2, v3, rfl, n1, n2, n3, n4, n5, hb⟩
   have HB9 := Lib.hid (below_keep HBW.out hb)
   obtain ⟨-, -, ⟨r0, r1, r2⟩, ⟨f0, f1, f2⟩, htg⟩ := HBX.out w9 (below_keep HC3.out (below_keep HBR.out hb))
   have HDN := Lib.hid (fun t1 t2 t3 => arr_done (w := w) (X := ⟨D, A, R⟩) (x := t1) (y := t2) (t := t3) n1 n2 n3 n4 n5 htg HB9.out (by omega) HBW.out.size)
   obtain ⟨a1, b1, rfl, -⟩ := n1.shape
   obtain ⟨a2, b2, rfl, -⟩ := n3.shape
   obtain ⟨a3, b3, rfl, -⟩ := n5.cells.shape
   clear n1 n2 n3 n4 n5 hb htg d0 d1 CR
   go_wp2
   refine bodyPost_ret (by simp [results, Tryz.results20, go_sem, r0, r1, r2]; try rfl) rfl ?_
   obtain ⟨m1, m2, m3, m4, m5, m6⟩ := HDN.out (.slice a1 D.length b1) (.slice a2 A.length b2) (.slice a3 R.length b3)
   refine ⟨_, _, _, rfl, m1, m2, m3, m4, ?_, m6⟩
   rw [← HRR.out]
   exact m5
theorem cut_core (x : ArrT) (lo hi : List Int) (vd va vc vl vh : Value) (w : World) (hx : ArrR w vd va vc x) (hlo : Ints w vl lo) (hhi : Ints w vh hi) (hs : StrD x.dims) (hsa : StrA x.attrs) (h : checkE x = 0) (h2 : formedB lo hi = true) (h3 : lo.length = x.dims.length) :
  Calls Tryz.prog 20 #[.agg #[vd, va, vc], .agg #[vl, vh]] w (RetAe ⟨x.dims, x.attrs, cutL lo hi x.cells⟩ 0 w) :=
 (cut_coreO x lo hi vd va vc vl vh w hx hlo hhi hs hsa h h2 h3).mono fun _ _ h => h.weak
theorem cut_any (x : ArrT) (lo hi : List Int) (vd va vc vl vh : Value) (w : World) (hx : ArrR w vd va vc x) (hlo : Ints w vl lo) (hhi : Ints w vh hi) (hs : StrD x.dims) (hsa : StrA x.attrs) :
  Calls Tryz.prog 20 #[.agg #[vd, va, vc], .agg #[vl, vh]] w (RetAe (cutQ x lo hi) (cutE x lo hi) w) := by
 unfold cutQ cutE
 by_cases h : checkE x = 0
 ·rw [if_neg (show ¬ (checkE x ≠ 0) from fun h' => h' h)]
  by_cases h2 : formedB lo hi = false ∨ lo.length ≠ x.dims.length
  ·rw [if_pos h2]; exact cut_shape x lo hi vd va vc vl vh w hx hlo hhi hs hsa h h2
  ·rw [if_neg h2]
   exact cut_core x lo hi vd va vc vl vh w hx hlo hhi hs hsa h (by cases hf : formedB lo hi with | true => rfl | false => exact absurd (.inl hf) h2) (Classical.byContradiction fun h' => h2 (.inr h'))
 ·rw [if_pos (show checkE x ≠ 0 from h)]; exact cut_bad x lo hi vd va vc vl vh w hx hlo hhi hs hsa h
end Go.Proofs.YtkliekoheeeamaaGreatDoor
/- The reference's Cut: the contract. (printed by rcut.py) -/
namespace Go.Proofs.YtkliekoheeeamaaGreatDoor
open Go.RowKit Go.Shelf
attribute [local go_sem] Oper.semAt_some

end Go.Proofs.YtkliekoheeeamaaGreatDoor
/- The walk of SpaceCut. -/
namespace Go.Proofs.YtkliekoheeeamaaGreatDoor
open Go.RowKit

theorem arrc_at (w : World) (v1 v2 v3 : Value) : ∃ W1, W1 = w.alloc (.cells #[v1, v2, v3] 52) ∧ Below w.heap.size w W1 ∧ ∀ w', Below W1.heap.size W1 w' → w'.cell? ⟨w.heap.size, 0, none⟩ = some v1 ∧ w'.cell? ⟨w.heap.size, 1, none⟩ = some v2 ∧ w'.cell? ⟨w.heap.size, 2, none⟩ = some v3 := by
 refine ⟨_, rfl, below_alloc _ _, fun w' hb => ?_⟩
 have h1 : ∀ j, w'.cell? ⟨w.heap.size, j, none⟩ = (w.alloc (.cells #[v1, v2, v3] 52)).cell? ⟨w.heap.size, j, none⟩ := fun j => hb.cell (p := ⟨w.heap.size, j, none⟩) (by simp)
 refine ⟨?_, ?_, ?_⟩ <;> (rw [h1, World.cell?_alloc_at _ _ _ _ rfl]; rfl)
theorem arg_at (w : World) (v1 v2 v3 b1 b2 : Value) : ∃ W1, W1 = (w.alloc (.cells #[v1, v2, v3] 52)).alloc (.cells #[b1, b2] 26) ∧ Below w.heap.size w W1 ∧
  ∀ w', Below W1.heap.size W1 w' → (w'.cell? ⟨w.heap.size, 0, none⟩ = some v1 ∧ w'.cell? ⟨w.heap.size, 1, none⟩ = some v2 ∧ w'.cell? ⟨w.heap.size, 2, none⟩ = some v3) ∧ w'.cell? ⟨w.heap.size + 1, 0, none⟩ = some b1 ∧ w'.cell? ⟨w.heap.size + 1, 1, none⟩ = some b2 := by
 obtain ⟨W2, hW2, hb2, hx2⟩ := arrc_at w v1 v2 v3
 obtain ⟨W3, hW3, hb3, hx3⟩ := boxm_at' W2 b1 b2
 refine ⟨W3, by rw [hW3, hW2], below_keep hb2 hb3, fun w' hb => ⟨hx2 w' (below_keep hb3 hb), ?_⟩⟩
 have := hx3 w' hb
 rw [show W2.heap.size = w.heap.size + 1 by rw [hW2]; simp] at this
 exact this
end Go.Proofs.YtkliekoheeeamaaGreatDoor
