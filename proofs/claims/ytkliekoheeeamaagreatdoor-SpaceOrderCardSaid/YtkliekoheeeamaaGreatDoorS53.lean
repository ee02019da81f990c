/- Lemmas and contracts, each under its own condition: Two sorted lists as one, in plain words. The reference's keyed lists: what lies in memory; lists that a call makes of them. The reference's joined: two sorted lists as one. The reference's sorted. (printed by joc.py) -/
import Derived.Deep.AppendLies
import Derived.Deep.Upon
import Derived.Lib.SliceRun
import Derived.Lib.AppendZeros
import Derived.BigQuiet
import Derived.IntWalk
import Derived.Deep.RegionHeld3
import Derived.Deep.DeepCutAuto
import Derived.Deep.CutBlock
import Derived.Test.YtkliekoheeeamaaGreatDoorS13
import Derived.Test.YtkliekoheeeamaaGreatDoorS44
import Derived.Test.YtkliekoheeeamaaGreatDoorS52
import Derived.Test.YtkliekoheeeamaaGreatDoorS57
import Derived.Test.YtkliekoheeeamaaGreatDoorS58
/- Two sorted lists as one, in plain words. -/
namespace Go.Proofs.YtkliekoheeeamaaGreatDoor

/-- D is done, X and Y are left of A and B -/
structure MgAt {α : Type} (K : α → List Int) (A B D X Y : List α) : Prop where
 perm : (D ++ (X ++ Y)).Perm (A ++ B)
 sD : SortK K D
 sX : SortK K X
 sY : SortK K Y
 le : ∀ u ∈ D, ∀ v ∈ X ++ Y, leK K u v
theorem MgAt.start {α : Type} {K : α → List Int} {A B : List α} (hA : SortK K A) (hB : SortK K B) : MgAt K A B [] A B :=
 ⟨List.Perm.refl _, List.Pairwise.nil, hA, hB, fun u hu => by cases hu⟩
theorem sort_snoc {α : Type} {K : α → List Int} {D : List α} {x : α} (h : SortK K D) (hx : ∀ u ∈ D, leK K u x) : SortK K (D ++ [x]) :=
 List.pairwise_append.2 ⟨h, List.pairwise_singleton _ _, fun u hu v hv => by simp at hv; subst hv; exact hx u hu⟩
theorem MgAt.right {α : Type} {K : α → List Int} {A B D X Y : List α} {x y : α} (h : MgAt K A B D (x :: X) (y :: Y)) (hl : ltK K y x) : MgAt K A B (D ++ [y]) (x :: X) Y := by
 have hx := List.pairwise_cons.1 h.sX
 have hy := List.pairwise_cons.1 h.sY
 refine ⟨?_, sort_snoc h.sD fun u hu => h.le u hu y (by simp), h.sX, hy.2, fun u hu v hv => ?_⟩
 ·refine List.Perm.trans ?_ h.perm
  rw [List.append_assoc]
  refine List.Perm.append_left D ?_
  rw [List.singleton_append]
  exact List.perm_middle.symm
 ·rcases List.mem_append.1 hu with hu | hu
  ·exact h.le u hu v (by
    rcases List.mem_append.1 hv with hv | hv
    ·exact List.mem_append_left _ hv
    ·exact List.mem_append_right _ (List.mem_cons_of_mem _ hv))
  ·simp at hu
   subst hu
   rcases List.mem_append.1 hv with hv | hv
   ·rcases List.mem_cons.1 hv with rfl | hv
    ·exact hl.le
    ·exact hl.le.trans (hx.1 v hv)
   ·exact hy.1 v hv
theorem MgAt.left {α : Type} {K : α → List Int} {A B D X Y : List α} {x y : α} (h : MgAt K A B D (x :: X) (y :: Y)) (hl : ¬ ltK K y x) : MgAt K A B (D ++ [x]) X (y :: Y) := by
 have hx := List.pairwise_cons.1 h.sX
 have hy := List.pairwise_cons.1 h.sY
 refine ⟨?_, sort_snoc h.sD fun u hu => h.le u hu x (by simp), hx.2, h.sY, fun u hu v hv => ?_⟩
 ·refine List.Perm.trans ?_ h.perm
  rw [List.append_assoc]
  exact List.Perm.refl _
 ·rcases List.mem_append.1 hu with hu | hu
  ·exact h.le u hu v (by
    rcases List.mem_append.1 hv with hv | hv
    ·exact List.mem_append_left _ (List.mem_cons_of_mem _ hv)
    ·exact List.mem_append_right _ hv)
  ·simp at hu
   subst hu
   rcases List.mem_append.1 hv with hv | hv
   ·exact hx.1 v hv
   ·rcases List.mem_cons.1 hv with rfl | hv
    ·exact not_ltK hl
    ·exact (not_ltK hl).trans (hy.1 v hv)
theorem MgAt.done {α : Type} {K : α → List Int} {A B D X Y : List α} (h : MgAt K A B D X Y) (he : X = [] ∨ Y = []) : (D ++ X ++ Y).Perm (A ++ B) ∧ SortK K (D ++ X ++ Y) := by
 refine ⟨by rw [List.append_assoc]; exact h.perm, ?_⟩
 rw [List.append_assoc]
 refine List.pairwise_append.2 ⟨h.sD, ?_, fun u hu v hv => h.le u hu v hv⟩
 rcases he with rfl | rfl
 ·simpa using h.sY
 ·simpa using h.sX
end Go.Proofs.YtkliekoheeeamaaGreatDoor
/- The reference's keyed lists: what lies in memory; lists that a call makes of them. -/
namespace Go.Proofs.YtkliekoheeeamaaGreatDoor
open Go.RowKit

/-- a key, and the coordinates whose key it is -/
abbrev KyT := List Int × List Int
structure KyR (w : World) (g o : Nat) (c : KyT) : Prop where
 ex : ∃ v1 v2, w.cell? ⟨g, o, none⟩ = some v1 ∧ w.cell? ⟨g, o + 1, none⟩ = some v2 ∧ Ints w v1 c.1 ∧ Ints w v2 c.2
theorem KyR.lasts : Lasts KyR := fun _ _ _ _ _ ⟨v1, v2, h1, h2, h3, h4⟩ hb => ⟨v1, v2, cell_later h1 hb, cell_later h2 hb, h3.later IntR.lasts hb, h4.later IntR.lasts hb⟩
abbrev KyS := Ls 2 KyR
theorem infoKy : (Tryz.prog.info? 91).map (fun i => (i.zero, i.size, i.bytes)) = some (some (.agg #[.slice none 0 0, .slice none 0 0]), 2, 48) := by kernel_rfl
theorem two_at (w : World) (u1 u2 : Value) (t : TypeId) : ∀ j u, [u1, u2][j]? = some u → (w.alloc (.cells #[u1, u2] t)).cell? ((⟨w.heap.size, 0, none⟩ : Addr).add j) = some u := fun j u h => by
 have e : ((⟨w.heap.size, 0, none⟩ : Addr).add j) = ⟨w.heap.size, j, none⟩ := by unfold Addr.add; split <;> simp_all
 rw [e, World.cell?_alloc_at _ _ _ _ rfl]
 simpa using h
/-- what is left behind the first elements -/
theorem Ls.behind {α : Type} {k : Nat} {Rd : World → Nat → Nat → α → Prop} {w : World} {g o n cap m : Nat} {l : List α} (h : Ls k Rd w (.slice (some ⟨g, o, none⟩) n cap) l) (hm : m ≤ l.length) : Ls k Rd w (.slice (some ⟨g, o + m * k, none⟩) (l.length - m) (cap - m)) (l.drop m) := by
 obtain ⟨a, cap', e, h1, h2, h3⟩ := h
 injection e with e1 e2 e3
 subst e1 e2 e3
 refine ⟨_, _, by rw [List.length_drop], by rw [List.length_drop]; omega, by omega, fun h0 => ?_⟩
 rw [List.length_drop] at h0
 obtain ⟨g', o', e, hx⟩ := h3 (by omega)
 injection e with e
 injection e with e1 e2
 subst e1 e2
 refine ⟨_, _, rfl, fun i x hi => ?_⟩
 rw [List.getElem?_drop] at hi
 have := hx _ x hi
 rw [Nat.add_mul, ← Nat.add_assoc] at this
 exact this
theorem Ls.front {α : Type} {k : Nat} {Rd : World → Nat → Nat → α → Prop} {w : World} {a : Option Addr} {n cap m : Nat} {l : List α} (h : Ls k Rd w (.slice a n cap) l) (hm : m ≤ l.length) : Ls k Rd w (.slice a m cap) (l.take m) := by
 obtain ⟨a', cap', e, h1, h2, h3⟩ := h
 injection e with e1 e2 e3
 subst e1 e2 e3
 refine ⟨_, _, by rw [List.length_take, Nat.min_eq_left hm], by rw [List.length_take]; omega, by omega, fun h0 => ?_⟩
 rw [List.length_take] at h0
 obtain ⟨g', o', e, hx⟩ := h3 (by omega)
 refine ⟨_, _, e, fun i x hi => ?_⟩
 rw [List.getElem?_take] at hi
 split at hi
 ·exact hx i x hi
 ·cases hi
theorem pairs_of {P : Nat → Value × Value → Prop} : ∀ (n : Nat), (∀ i, i < n → ∃ p, P i p) → ∃ us : List (Value × Value), us.length = n ∧ ∀ i u, us[i]? = some u → P i u
 | 0, _ => ⟨[], rfl, fun i u h => by simp at h⟩
 | n + 1, h => by
  obtain ⟨us, h1, h2⟩ := pairs_of n fun i hi => h i (by omega)
  obtain ⟨p, hp⟩ := h n (by omega)
  refine ⟨us ++ [p], by simp [h1], fun i u hi => ?_⟩
  by_cases hlt : i < us.length
  ·rw [List.getElem?_append_left hlt] at hi
   exact h2 i u hi
  ·have he : i = n := by
    have := (List.getElem?_eq_some_iff.1 hi).1
    simp at this; omega
   rw [List.getElem?_append_right (by omega), he, h1, Nat.sub_self] at hi
   simp only [List.getElem?_cons_zero, Option.some.injEq] at hi
   rw [← hi, he]; exact hp
/-- a list of keyed coordinates that was made here, the parts being those of an older world -/
structure KyO (n₀ : Nat) (w0 w : World) (v : Value) (l : List KyT) : Prop where
 ex : ∃ us : List (Value × Value), us.length = l.length ∧ w.ownsRow n₀ 91 2 v l.length (us.flatMap fun u => [u.1, u.2]) ∧ ∀ (i : Nat) (c : KyT) (u : Value × Value), l[i]? = some c → us[i]? = some u → Ints w0 u.1 c.1 ∧ Ints w0 u.2 c.2
theorem KyO.nil (n₀ : Nat) (w0 w : World) : KyO n₀ w0 w (.slice none 0 0) [] := ⟨[], rfl, World.ownsRow_nil _ _ _ _, fun i x u h => by simp at h⟩
theorem KyO.later {n₀ : Nat} {w0 w w' : World} {v : Value} {l : List KyT} (h : KyO n₀ w0 w v l) (hb : Below w.heap.size w w') : KyO n₀ w0 w' v l := by
 obtain ⟨us, h1, h2, h3⟩ := h
 exact ⟨us, h1, h2.kept (row := none) (grown_of_below hb none) (by cases v.ownBlock <;> simp), h3⟩
theorem KyO.more {n₀ : Nat} {w0 w' : World} {v' : Value} {l l2 : List KyT} {us us2 : List (Value × Value)} (hl : us.length = l.length) (hx : ∀ (i : Nat) (c : KyT) (u : Value × Value), l[i]? = some c → us[i]? = some u → Ints w0 u.1 c.1 ∧ Ints w0 u.2 c.2)
  (hl2 : us2.length = l2.length) (hx2 : ∀ (i : Nat) (c : KyT) (u : Value × Value), l2[i]? = some c → us2[i]? = some u → Ints w0 u.1 c.1 ∧ Ints w0 u.2 c.2)
  (hn : w'.ownsRow n₀ 91 2 v' (l.length + l2.length) ((us.flatMap fun u => [u.1, u.2]) ++ (us2.flatMap fun u => [u.1, u.2]))) : KyO n₀ w0 w' v' (l ++ l2) := by
 refine ⟨us ++ us2, by simp [hl, hl2], by simpa using hn, fun i y z hi hz => ?_⟩
 by_cases hlt : i < l.length
 ·rw [List.getElem?_append_left hlt] at hi
  rw [List.getElem?_append_left (by omega)] at hz
  exact hx i y z hi hz
 ·rw [List.getElem?_append_right (by omega)] at hi hz
  rw [hl] at hz
  exact hx2 _ y z hi hz
theorem KyO.list {n₀ : Nat} {w0 w : World} {v : Value} {l : List KyT} (h : KyO n₀ w0 w v l) (hb : Below w0.heap.size w0 w) : KyS w v l := by
 obtain ⟨us, hl, ho, hx⟩ := h
 have hc : ∀ {g : Nat}, v.ownBlock = some g → ∀ j u, (us.flatMap fun u => [u.1, u.2])[j]? = some u → w.cell? ((⟨g, 0, none⟩ : Addr).add j) = some u := fun hg => ho.cells hg
 rcases ho.2 with ⟨rfl, h0⟩ | ⟨g, cap, cur, rfl, h1, h2, h3, h4, h5, h6⟩
 ·have : l = [] := List.length_eq_zero_iff.1 h0
  subst this
  exact Ls.nil _ _ _ (by omega)
 ·unfold maxLen at h4
  refine ⟨_, cap, rfl, h3, h4, fun h0 => ⟨g, 0, rfl, fun i x hi => ?_⟩⟩
  have hlt : i < us.length := by rw [hl]; exact (List.getElem?_eq_some_iff.1 hi).1
  have hu := List.getElem?_eq_getElem hlt
  have f0 := flat_at (k := 2) (f := fun u : Value × Value => [u.1, u.2]) (fun _ => rfl) us i us[i] 0 us[i].1 hu rfl
  have f1 := flat_at (k := 2) (f := fun u : Value × Value => [u.1, u.2]) (fun _ => rfl) us i us[i] 1 us[i].2 hu rfl
  have e0 := hc (g := g) rfl _ _ f0
  have e1 := hc (g := g) rfl _ _ f1
  rw [show (⟨g, 0, none⟩ : Addr).add (i * 2 + 0) = ⟨g, 0 + i * 2, none⟩ from by unfold Addr.add; split <;> simp_all] at e0
  rw [show (⟨g, 0, none⟩ : Addr).add (i * 2 + 1) = ⟨g, 0 + i * 2 + 1, none⟩ from by unfold Addr.add; split <;> simp_all] at e1
  have hce := hx i x us[i] hi hu
  exact ⟨us[i].1, us[i].2, e0, e1, hce.1.later IntR.lasts hb, hce.2.later IntR.lasts hb⟩
/-- an older list behind what was made here -/
theorem append_ky (w0 w : World) (hb0 : Below w0.heap.size w0 w) (v : Value) (l : List KyT) (hown : KyO w0.heap.size w0 w v l) (u : Value) (l2 : List KyT) (hu : KyS w0 u l2) (hlen : l.length + l2.length ≤ 1000000) (ty : TypeId) :
  ∃ v' w', (Builtin.append_ #[88, 88] ty #[v, u]).run Tryz.prog w = .ok v' w' ∧ KyO w0.heap.size w0 w' v' (l ++ l2) ∧ w.grownBy w' v.ownBlock := by
 obtain ⟨i0, hi0, hz0, hz1, hz2⟩ := info_parts infoKy
 obtain ⟨us, hul, ho, hux⟩ := hown
 obtain ⟨a, cap, rfl, hlc, hcm, hx0⟩ := hu
 rcases Nat.eq_zero_or_pos l2.length with h0 | h0
 ·obtain rfl : l2 = [] := List.length_eq_zero_iff.1 h0
  refine ⟨v, w, ?_, by rw [List.append_nil]; exact ⟨us, hul, ho, hux⟩, ⟨rfl, rfl, rfl, Nat.le_refl _, fun _ _ _ => rfl⟩⟩
  have hs : Src Tryz.prog i0.size 88 (.slice a 0 cap) 0 [] w := ⟨.inl ⟨_, Tryz.underlying88⟩, fun w' => rfl, by cases a <;> simp [Builtin.firstCells, loadCells, loadCellsFrom], by cases a <;> simp [Builtin.firstCells, loadCells, loadCellsFrom], by simp, fun u hu => by cases hu⟩
  rcases ho.2 with ⟨rfl, h9⟩ | ⟨g, c9, cur, rfl, k1, k2, k3, -⟩
  ·exact run_append_nothing w _ _ _ _ i0 Tryz.underlying88 hi0 none 0 0 (Nat.le_refl _) _ hs
  ·exact run_append_nothing w _ _ _ _ i0 Tryz.underlying88 hi0 _ _ _ k3 _ hs
 ·obtain ⟨g, o, rfl, hx⟩ := hx0 h0
  obtain ⟨us2, hl2, hx2⟩ := pairs_of (P := fun i p => ∃ c, l2[i]? = some c ∧ w.cell? ⟨g, o + i * 2, none⟩ = some p.1 ∧ w.cell? ⟨g, o + i * 2 + 1, none⟩ = some p.2 ∧ Ints w0 p.1 c.1 ∧ Ints w0 p.2 c.2) l2.length fun i hi => by
   have hc := List.getElem?_eq_getElem hi
   obtain ⟨v1, v2, k1, k2, k3, k4⟩ := (hx i _ hc).ex
   exact ⟨(v1, v2), _, hc, cell_later k1 hb0, cell_later k2 hb0, k3, k4⟩
  obtain ⟨g1, cp1, w', hrun, hn, hgr, -, -⟩ := run_append_lies (P := Tryz.prog) w 88 ty w0.heap.size 91 i0 (.agg #[.slice none 0 0, .slice none 0 0]) 2 48 Tryz.underlying88 hi0 hz0 hz1 hz2 rfl (by decide) v l.length _ ho ⟨g, o, none⟩ l2.length cap (us2.flatMap fun u => [u.1, u.2]) (by rw [flat_len (k := 2) (fun _ => rfl), hl2]) (fun j u hj => by
   obtain ⟨i, p, t, h1, h2, rfl⟩ := flat_get (k := 2) (f := fun u : Value × Value => [u.1, u.2]) (fun _ => rfl) us2 j u hj
   obtain ⟨c, -, k1, k2, -, -⟩ := hx2 i p h1
   rw [show (⟨g, o, none⟩ : Addr).add (i * 2 + t) = ⟨g, o + i * 2 + t, none⟩ from by unfold Addr.add; split <;> simp_all; omega]
   match t, h2 with
   | 0, h2 => simp only [List.getElem?_cons_zero, Option.some.injEq] at h2; subst h2; exact k1
   | 1, h2 => simp only [List.getElem?_cons_succ, List.getElem?_cons_zero, Option.some.injEq] at h2; subst h2; exact k2) (fun u hu => by
   obtain ⟨p, hp, hm⟩ := List.mem_flatMap.1 hu
   obtain ⟨i, hi⟩ := List.mem_iff_getElem?.1 hp
   obtain ⟨c, -, -, -, k3, k4⟩ := hx2 i p hi
   obtain ⟨a3, b3, e3, -⟩ := k3.shape
   obtain ⟨a4, b4, e4, -⟩ := k4.shape
   simp only [List.mem_cons, List.not_mem_nil, or_false] at hm
   rcases hm with rfl | rfl
   ·rw [e3]; rfl
   ·rw [e4]; rfl) h0 (by unfold maxLen; omega) (by omega) hb0.size _ rfl
  exact ⟨_, w', hrun, KyO.more hul hux hl2 (fun i c u hi hu => by
   obtain ⟨c', hc', -, -, k3, k4⟩ := hx2 i u hu
   rw [hi] at hc'
   obtain rfl := Option.some.inj hc'
   exact ⟨k3, k4⟩) hn, hgr⟩
end Go.Proofs.YtkliekoheeeamaaGreatDoor
/- The reference's joined: two sorted lists as one. -/
namespace Go.Proofs.YtkliekoheeeamaaGreatDoor
open Go.RowKit

def lenV : Value → Nat
 | .slice _ n _ => n
 | _ => 0
/-- what is left behind the first element, as the model writes it -/
theorem Ls.tail1 {α : Type} {Rd : World → Nat → Nat → α → Prop} {w : World} {g o n cap : Nat} {x : α} {l : List α} (h : Ls 2 Rd w (.slice (some ⟨g, o, none⟩) n cap) (x :: l)) : Ls 2 Rd w (.slice (if cap = 1 then some ⟨g, o, none⟩ else some ⟨g, o + 2, none⟩) (n - 1) (cap - 1)) l := by
 have hb := h.behind (m := 1) (by simp)
 obtain ⟨a, cap', e, h1, h2, -⟩ := h
 injection e with e1 e2 e3
 subst e1 e2 e3
 rw [List.drop_succ_cons, List.drop_zero, Nat.one_mul] at hb
 split
 ·rename_i hc
  have hl : l = [] := List.length_eq_zero_iff.1 (by simp at h1; omega)
  subst hl
  exact Ls.nil _ _ _ (by omega)
 ·exact hb
theorem KyO.below {n₀ : Nat} {w0 w : World} {v : Value} {l : List KyT} (h : KyO n₀ w0 w v l) : ∀ k, v.ownBlock = some k → n₀ ≤ k := by
 obtain ⟨us, -, ho, -⟩ := h.ex
 exact fun k e => (ho.lt k e).1
def RetKy (P : List KyT → Prop) (w : World) (e : Ending) (w' : World) : Prop := ∃ v l, e = .returned v ∧ P l ∧ KyS w' v l ∧ Below w.heap.size w w'
set_option maxHeartbeats 16000000 in
set_option maxRecDepth 100000 in
theorem joined_any (A B : List KyT) (va vb : Value) (w : World) (ha : KyS w va A) (hb : KyS w vb B) (hsA : SortK Prod.fst A) (hsB : SortK Prod.fst B) (hn : A.length + B.length ≤ 1000000) :
  Calls Tryz.prog 84 #[va, vb] w (RetKy (fun l => l.Perm (A ++ B) ∧ SortK Prod.fst l) w) := by
 have HM0 : Hid (MgAt Prod.fst A B [] A B) := MgAt.start hsA hsB
 have HA := Lib.hid ha
 have HB := Lib.hid hb
 have HN : Hid (∀ D X Y : List KyT, MgAt Prod.fst A B D X Y → D.length + X.length + Y.length ≤ 1000000) := fun D X Y h => by
  have := h.perm.length_eq
  simp only [List.length_append] at this
  omega
 obtain ⟨j0, hj0, hy0, hy1, hy2⟩ := info_parts infoKy
 clear ha hb hsA hsB hn
 go_enter Tryz.func84, Tryz.ntmps84
 let KF : (Ending → World → Prop) → Exit → Act → World → Prop := bodyPost Tryz.prog Tryz.f84
 go_wp2
 go_loopw [0, 1, 5] (fun xv yv sv wr => ∃ (D X Y : List KyT), MgAt Prod.fst A B D X Y ∧ KyS w xv X ∧ KyS w yv Y ∧ KyO w.heap.size w wr sv D ∧ Below w.heap.size w wr) (fun xv yv _ _ => lenV xv + lenV yv)
 case atStart => exact ⟨[], A, B, HM0.out, HA.out, HB.out, KyO.nil _ _ _, Below.refl _ _⟩
 case round =>
  obtain ⟨D, X, Y, hm, hx, hy, ho, hb⟩ := hrel
  have HM := Lib.hid hm
  have HX := Lib.hid hx
  have HY := Lib.hid hy
  have HO := Lib.hid ho
  have HBR := Lib.hid hb
  have hle := HN.out D X Y hm
  have hxl := hx.len
  have hyl := hy.len
  obtain ⟨q1, k1, rfl, -⟩ := hx.shape
  obtain ⟨q2, k2, rfl, -⟩ := hy.shape
  clear hm hx hy hb HM0 HA HB
  by_cases hX : 0 < X.length
  ·by_cases hY : 0 < Y.length
   ·obtain ⟨g1, o1, x, e1, hx0, hr1⟩ := HX.out.at 0 hX
    obtain ⟨g2, o2, y, e2, hy0', hr2⟩ := HY.out.at 0 hY
    subst e1 e2
    obtain ⟨u1, u2, x0, x1, i1, i2⟩ := hr1.ex
    obtain ⟨u3, u4, y0, y1, i3, i4⟩ := hr2.ex
    rw [Nat.zero_mul, Nat.add_zero] at x0 x1 y0 y1
    have I12 := Lib.hid (And.intro i1 i2)
    have I34 := Lib.hid (And.intro i3 i4)
    obtain ⟨m1, c1, rfl, -⟩ := i1.shape
    obtain ⟨m2, c2, rfl, -⟩ := i2.shape
    obtain ⟨m3, c3, rfl, -⟩ := i3.shape
    obtain ⟨m4, c4, rfl, -⟩ := i4.shape
    have t1 : decide ((0 : Int) < (X.length : Int)) = true := decide_eq_true (by omega)
    have t2 : decide ((0 : Int) < (Y.length : Int)) = true := decide_eq_true (by omega)
    have t3 : (0 : Int) < (X.length : Int) := by omega
    have t4 : (0 : Int) < (Y.length : Int) := by omega
    have hb := HBR.out
    have KX : Hid (∀ wz, Below w.heap.size w wz → wz.cell? ⟨g1, o1, none⟩ = some (.slice m1 x.1.length c1) ∧ wz.cell? ⟨g1, o1 + 1, none⟩ = some (.slice m2 x.2.length c2) ∧ wz.cell? ⟨g2, o2, none⟩ = some (.slice m3 y.1.length c3) ∧ wz.cell? ⟨g2, o2 + 1, none⟩ = some (.slice m4 y.2.length c4)) := fun wz h => ⟨cell_later x0 h, cell_later x1 h, cell_later y0 h, cell_later y1 h⟩
    clear hr1 hr2 i1 i2 i3 i4 x0 x1 y0 y1
    obtain ⟨x0, x1, y0, y1⟩ := KX.out wr hb
    clear hb
    have KX3 : Hid (∀ wz, Below wr.heap.size wr wz → (wz.cell? ⟨g1, o1, none⟩ = some (.slice m1 x.1.length c1) ∧ wz.cell? ⟨g2, o2, none⟩ = some (.slice m3 y.1.length c3) ∧ Below wr.heap.size wr wz)) := fun wz h => ⟨(KX.out wz (below_keep HBR.out h)).1, (KX.out wz (below_keep HBR.out h)).2.2.1, h⟩
    have CP := Lib.hid (fun wz (h : Below wr.heap.size wr wz) => rcompare_any y.1 x.1 (.slice m3 y.1.length c3) (.slice m1 x.1.length c1) wz (I34.out.1.later IntR.lasts (below_keep HBR.out h)) (I12.out.1.later IntR.lasts (below_keep HBR.out h)))
    obtain ⟨M, hM⟩ : ∃ M, M = cmpI y.1 x.1 := ⟨_, rfl⟩
    rw [← hM] at CP
    have HMM := Lib.hid hM
    clear hM
    go_upto_region 3 with (fail)
    go_cut [23] (fun a wx => a = .bool (decide (M < 0)) ∧ Below wr.heap.size wr wx)
    case first =>
     clear ho HO HM
     go_wp2_with fail
     go_region_held3 (fun wz => (wz.cell? ⟨g1, o1, none⟩ = some (.slice m1 x.1.length c1) ∧ wz.cell? ⟨g2, o2, none⟩ = some (.slice m3 y.1.length c3) ∧ Below wr.heap.size wr wz))
      (first | exact KX3.out _ (Below.refl _ _).drew | exact KX3.out _ (by assumption))
      ((go_at_call 48; refine (CP.out _ (Below.refl _ _).drew).mono ?_; rintro e wy ⟨rfl, hb2⟩; have hb3 : Below wr.heap.size wr wy := below_keep (Below.refl _ _).drew hb2))
     go_wp2
     go_meet
     exact ⟨rfl, hb3⟩
    case rest =>
    obtain ⟨rfl, hbc⟩ := hcut
    have HBC := Lib.hid (below_keep HBR.out hbc)
    have hoc := HO.out.later hbc
    obtain ⟨us, hul, hus, hux⟩ := hoc.ex
    obtain ⟨x0, x1, y0, y1⟩ := KX.out wc HBC.out
    have HUX := Lib.hid hux
    have HUL := Lib.hid hul
    have hge : w.heap.size ≤ wc.heap.size := HBC.out.size
    clear hbc hoc hul hux ho
    obtain ⟨X', hX'⟩ : ∃ X', X = x :: X' := by
     cases X with
     | nil => simp at hX
     | cons a X' => simp only [List.getElem?_cons_zero, Option.some.injEq] at hx0; exact ⟨X', by rw [hx0]⟩
    obtain ⟨Y', hY'⟩ : ∃ Y', Y = y :: Y' := by
     cases Y with
     | nil => simp at hY
     | cons a Y' => simp only [List.getElem?_cons_zero, Option.some.injEq] at hy0'; exact ⟨Y', by rw [hy0']⟩
    by_cases hlt : M < 0
    ·have hl : ltK Prod.fst y x := show cmpI y.1 x.1 = -1 from of_decide_eq_true ((cmpI_neg _ _).symm.trans (decide_eq_true (by rw [← HMM.out]; exact hlt)))
     have hm := HM.out
     rw [hX', hY'] at hm
     have hm := hm.right hl
     rw [← hX'] at hm
     have HMN := Lib.hid hm
     have hyb := HY.out
     have hyl2 : Y.length = Y'.length + 1 := by rw [hY']; rfl
     have HYB : Hid (KyS w (.slice (if k2 = 1 then some ⟨g2, o2, none⟩ else some ⟨g2, o2 + 2, none⟩) (Y.length - 1) (k2 - 1)) Y') := by
      have h9 := HY.out
      rw [hY'] at h9 ⊢
      exact h9.tail1
     have HYL := Lib.hid hyl2
     clear hyb
     rw [decide_eq_true hlt]
     clear hl hm hX' hY' hlt hx0 hy0' hX hY hyl2
     go_wp2_with (at_builtin; refine wpList_append_lies _ (by rfl) _ _ 88 (by rfl) w.heap.size 91 j0 (.agg #[.slice none 0 0, .slice none 0 0]) 2 48 Tryz.underlying88 hj0 hy0 hy1 hy2 rfl (by decide) _ D.length (us.flatMap fun u => [u.1, u.2]) (by rfl) (hus.alloc _) ⟨wc.heap.size, 0, none⟩ 1 1 [.slice m3 y.1.length c3, .slice m4 y.2.length c4] (by rfl) (by rfl) (two_at _ _ _ _) (by simp [Value.oneCell']) (by omega) (by unfold maxLen; omega) (by omega) (by simp; omega) (wc.heap.size + 1) (by simp) ?_)
     intro g7 cp7 w7 hown hgrow hat hlt6
     have HE7 := Lib.hid (KyO.more (l2 := [y]) (us2 := [(.slice m3 y.1.length c3, .slice m4 y.2.length c4)]) HUL.out HUX.out rfl (fun i c u hi hu => by
      match i, hi, hu with
      | 0, hi, hu =>
       simp only [List.getElem?_cons_zero, Option.some.injEq] at hi hu
       subst hi hu
       exact I34.out) hown)
     have hbd : Below wc.heap.size wc (wc.alloc (.cells #[.slice m3 y.1.length c3, .slice m4 y.2.length c4] 91)) := below_alloc _ _
     have HB7 := Lib.hid (HBC.out.trans ((hbd.mono hge).grown hgrow (Nat.le_trans hge hbd.size) (fun k e => (hus.lt k e).1)))
     clear hus hown hgrow hat hlt6 hbd hge
     go_wp2
     exact ⟨⟨D ++ [y], X, Y', HMN.out, HX.out, HYB.out, HE7.out, HB7.out⟩, by show _ + _ < _ + _; have := HYL.out; simp only [lenV]; omega⟩
    ·have hl : ¬ ltK Prod.fst y x := fun h => hlt (by rw [HMM.out]; exact of_decide_eq_true ((cmpI_neg _ _).trans (decide_eq_true h)))
     have hm := HM.out
     rw [hX', hY'] at hm
     have hm := hm.left hl
     rw [← hY'] at hm
     have HMN := Lib.hid hm
     have hyb := HX.out
     have hyl2 : X.length = X'.length + 1 := by rw [hX']; rfl
     have HYB : Hid (KyS w (.slice (if k1 = 1 then some ⟨g1, o1, none⟩ else some ⟨g1, o1 + 2, none⟩) (X.length - 1) (k1 - 1)) X') := by
      have h9 := HX.out
      rw [hX'] at h9 ⊢
      exact h9.tail1
     have HYL := Lib.hid hyl2
     clear hyb
     rw [decide_eq_false hlt]
     clear hl hm hX' hY' hlt hx0 hy0' hX hY hyl2
     go_wp2_with (at_builtin; refine wpList_append_lies _ (by rfl) _ _ 88 (by rfl) w.heap.size 91 j0 (.agg #[.slice none 0 0, .slice none 0 0]) 2 48 Tryz.underlying88 hj0 hy0 hy1 hy2 rfl (by decide) _ D.length (us.flatMap fun u => [u.1, u.2]) (by rfl) (hus.alloc _) ⟨wc.heap.size, 0, none⟩ 1 1 [.slice m1 x.1.length c1, .slice m2 x.2.length c2] (by rfl) (by rfl) (two_at _ _ _ _) (by simp [Value.oneCell']) (by omega) (by unfold maxLen; omega) (by omega) (by simp; omega) (wc.heap.size + 1) (by simp) ?_)
     intro g7 cp7 w7 hown hgrow hat hlt6
     have HE7 := Lib.hid (KyO.more (l2 := [x]) (us2 := [(.slice m1 x.1.length c1, .slice m2 x.2.length c2)]) HUL.out HUX.out rfl (fun i c u hi hu => by
      match i, hi, hu with
      | 0, hi, hu =>
       simp only [List.getElem?_cons_zero, Option.some.injEq] at hi hu
       subst hi hu
       exact I12.out) hown)
     have hbd : Below wc.heap.size wc (wc.alloc (.cells #[.slice m1 x.1.length c1, .slice m2 x.2.length c2] 91)) := below_alloc _ _
     have HB7 := Lib.hid (HBC.out.trans ((hbd.mono hge).grown hgrow (Nat.le_trans hge hbd.size) (fun k e => (hus.lt k e).1)))
     clear hus hown hgrow hat hlt6 hbd hge
     go_wp2
     exact ⟨⟨D ++ [x], X', Y, HMN.out, HYB.out, HY.out, HE7.out, HB7.out⟩, by show _ + _ < _ + _; have := HYL.out; simp only [lenV]; omega⟩
   ·have HDN := Lib.hid (HM.out.done (.inr (List.length_eq_zero_iff.1 (by omega))))
    have t1 : decide ((0 : Int) < (X.length : Int)) = true := decide_eq_true (by omega)
    have t2 : decide ((0 : Int) < (Y.length : Int)) = false := decide_eq_false (by omega)
    have t3 : (0 : Int) < (X.length : Int) := by omega
    have t4 : ¬ (0 : Int) < (Y.length : Int) := by omega
    obtain ⟨v1, w1, hrun1, ko1, hgr1⟩ := append_ky w wr HBR.out _ D HO.out _ X HX.out (by omega) 88
    have hb1 : Below w.heap.size w w1 := HBR.out.grown hgr1 HBR.out.size HO.out.below
    obtain ⟨v2, w2, hrun2, ko2, hgr2⟩ := append_ky w w1 hb1 _ (D ++ X) ko1 _ Y HY.out (by rw [List.length_append]; omega) 88
    have HB2 := Lib.hid (hb1.grown hgr2 hb1.size ko1.below)
    have HK2 := Lib.hid (ko2.list HB2.out)
    have HR1 := Lib.hid hrun1
    have HR2 := Lib.hid hrun2
    clear hrun1 ko1 hgr1 hb1 hrun2 ko2 hgr2 ho hle hX hY
    go_wp2_with (at_builtin; first | (refine Lib.wpList_append_run _ rfl _ _ _ _ rfl _ _ rfl rfl _ _ HR1.out ?_) | (refine Lib.wpList_append_run _ rfl _ _ _ _ rfl _ _ rfl rfl _ _ HR2.out ?_))
    go_wp2
    go_ret
    exact ⟨_, _, rfl, HDN.out, HK2.out, HB2.out⟩
  ·have HDN := Lib.hid (HM.out.done (.inl (List.length_eq_zero_iff.1 (by omega))))
   have t1 : decide ((0 : Int) < (X.length : Int)) = false := decide_eq_false (by omega)
   have t3 : ¬ (0 : Int) < (X.length : Int) := by omega
   obtain ⟨v1, w1, hrun1, ko1, hgr1⟩ := append_ky w wr HBR.out _ D HO.out _ X HX.out (by omega) 88
   have hb1 : Below w.heap.size w w1 := HBR.out.grown hgr1 HBR.out.size HO.out.below
   obtain ⟨v2, w2, hrun2, ko2, hgr2⟩ := append_ky w w1 hb1 _ (D ++ X) ko1 _ Y HY.out (by rw [List.length_append]; omega) 88
   have HB2 := Lib.hid (hb1.grown hgr2 hb1.size ko1.below)
   have HK2 := Lib.hid (ko2.list HB2.out)
   have HR1 := Lib.hid hrun1
   have HR2 := Lib.hid hrun2
   clear hrun1 ko1 hgr1 hb1 hrun2 ko2 hgr2 ho hle hX
   go_wp2_with (at_builtin; first | (refine Lib.wpList_append_run _ rfl _ _ _ _ rfl _ _ rfl rfl _ _ HR1.out ?_) | (refine Lib.wpList_append_run _ rfl _ _ _ _ rfl _ _ rfl rfl _ _ HR2.out ?_))
   go_wp2
   go_ret
   exact ⟨_, _, rfl, HDN.out, HK2.out, HB2.out⟩
end Go.Proofs.YtkliekoheeeamaaGreatDoor
/- The reference's sorted. (printed by joc.py) -/
namespace Go.Proofs.YtkliekoheeeamaaGreatDoor
open Go.RowKit

/-- a value that lies: the list in its order -/
def SrtK (A : List KyT) (u : Value) (w : World) : Prop := ∃ l, KyS w u l ∧ l.Perm A ∧ SortK Prod.fst l
theorem SrtK.later {A : List KyT} {u : Value} {w w' : World} (h : SrtK A u w) (hb : Below w.heap.size w w') : SrtK A u w' := by
 obtain ⟨l, h1, h2, h3⟩ := h
 exact ⟨l, h1.later KyR.lasts hb, h2, h3⟩
set_option maxHeartbeats 16000000 in
set_option maxRecDepth 100000 in
theorem sorted_from : ∀ (n : Nat) (A : List KyT) (v : Value) (w : World), A.length ≤ n → KyS w v A → A.length ≤ 1000000 →
  Calls Tryz.prog 45 #[v] w (RetKy (fun l => l.Perm A ∧ SortK Prod.fst l) w) := by
 intro n
 induction n with
 | zero =>
  intro A v w hn ha hl
  obtain rfl : A = [] := List.length_eq_zero_iff.1 (by omega)
  have HA := Lib.hid ha
  obtain ⟨q1, k1, rfl, -⟩ := ha.shape
  clear ha
  go_enter Tryz.func45, Tryz.ntmps45
  go_wp2
  go_ret
  exact ⟨_, _, rfl, ⟨List.Perm.refl _, List.Pairwise.nil⟩, HA.out, Below.refl _ _⟩
 | succ n ih =>
  intro A v w hn ha hl
  have HA := Lib.hid ha
  have HLN := Lib.hid hl
  by_cases h2 : A.length < 2
  ·have hs : SortK Prod.fst A := by
    match A, h2 with
    | [], _ => exact List.Pairwise.nil
    | [x], _ => exact List.pairwise_singleton _ _
   have HS := Lib.hid hs
   obtain ⟨q1, k1, rfl, -⟩ := ha.shape
   have t2 : (A.length : Int) < 2 := by omega
   clear ha hn h2 ih hs
   go_enter Tryz.func45, Tryz.ntmps45
   go_wp2
   go_ret
   exact ⟨_, _, rfl, ⟨List.Perm.refl _, HS.out⟩, HA.out, Below.refl _ _⟩
  obtain ⟨g, o, c0, e1, -, -⟩ : ∃ g o, ∃ c0 : KyT, (∃ k, v = .slice (some ⟨g, o, none⟩) A.length k) ∧ A[0]? = some c0 ∧ True := by
   obtain ⟨q1, k1, rfl, -⟩ := ha.shape
   obtain ⟨g, o, c0, e, h0, -⟩ := ha.at 0 (by omega)
   exact ⟨g, o, c0, ⟨k1, by rw [e]⟩, h0, trivial⟩
  obtain ⟨k1, rfl⟩ := e1
  obtain ⟨h, hh⟩ : ∃ h, h = A.length / 2 := ⟨_, rfl⟩
  have hk : A.length ≤ k1 := by
   obtain ⟨a, cap', e, h1, -, -⟩ := ha
   injection e with e1 e2 e3
   omega
  have t2 : ¬ (A.length : Int) < 2 := by omega
  have td : (A.length : Int).tdiv 2 = (h : Int) := by rw [Int.tdiv_eq_ediv_of_nonneg (by omega)]; omega
  have wd : IntKind.i64.wrap (h : Int) = (h : Int) := IntWalk.i64_in _ (by omega)
  have b0 : (0 : Int) ≤ (h : Int) := by omega
  have b1 : (h : Int) ≤ (A.length : Int) := by omega
  have b2 : (h : Int) ≤ (k1 : Int) := by omega
  have b3 : (A.length : Int) ≤ (k1 : Int) := by omega
  have hle : h ≤ A.length := by omega
  have hne : ¬ k1 = h := by omega
  have CI1 := Lib.hid (fun w9 (hb : Below w.heap.size w w9) => ih (A.take h) _ w9 (by rw [List.length_take]; omega) ((ha.front hle).later KyR.lasts hb) (by rw [List.length_take]; omega))
  have CI2 := Lib.hid (fun w9 (hb : Below w.heap.size w w9) => ih (A.drop h) _ w9 (by rw [List.length_drop]; omega) ((ha.behind hle).later KyR.lasts hb) (by rw [List.length_drop]; omega))
  clear ha hn h2 ih hh hl
  go_enter Tryz.func45, Tryz.ntmps45
  go_wp2_with fail
  refine wp_region_list [.val (.slice (some ⟨g, o, none⟩) A.length k1), .val (.int .i64 (h : Nat)), .val (.slice (some ⟨g, o, none⟩) h k1), .holds (fun u w9 => SrtK (A.take h) u w9), .val (.slice (some ⟨g, o, none⟩) A.length k1), .val (.int .i64 (h : Nat)), .val (.slice (some ⟨g, o + h * 2, none⟩) (A.length - h) (k1 - h)), .holds (fun u w9 => SrtK (A.drop h) u w9), .holds (fun u w9 => SrtK A u w9), .holds (fun u w9 => SrtK A u w9)]
   [some 11, some 12, some 13, some 14, some 15, some 16, some 17, some 18, some 19, some 2]
   (fun w9 => Below w.heap.size w w9) (fun a9 b9 => Below a9.heap.size a9 b9) rfl (by kernel_rfl) (by kernel_rfl) (by kernel_rfl) (by kernel_rfl) ?_ ?_ ?_ ?_
  ·(intro y hy v w1 w2 hs hv; simp only [List.mem_cons, List.not_mem_nil, or_false] at hy; rcases hy with rfl | rfl | rfl | rfl | rfl | rfl | rfl | rfl | rfl | rfl; all_goals first | exact hv | exact hv.later hs)
  ·exact (Below.refl _ _).drew
  ·intro i9 op9 ho
   have hi9 : i9 < 10 := (Array.getElem?_eq_some_iff.1 ho).1
   match i9, hi9 with
   | 0, _ =>
    obtain rfl := Option.some.inj ho
    intro a9 wx hBx hev haf
    rw [if_pos (wanted_none rfl)]
    have f0 : (a9.tmps[0]?).getD undef = .slice (some ⟨g, o, none⟩) A.length k1 := hev 0 (by kernel_rfl)
    clear haf hev
    go_simp
    exact ⟨rfl, Below.refl _ _, hBx⟩
   | 1, _ =>
    obtain rfl := Option.some.inj ho
    intro a9 wx hBx hev haf
    rw [if_pos (wanted_none rfl)]
    have f3 : (a9.tmps[3]?).getD undef = .int .i64 (h : Nat) := hev 3 (by kernel_rfl)
    clear haf hev
    go_simp
    exact ⟨rfl, Below.refl _ _, hBx⟩
   | 2, _ =>
    obtain rfl := Option.some.inj ho
    intro a9 wx hBx hev haf
    rw [if_pos (wanted_none rfl)]
    have f11 : (a9.tmps[11]?).getD undef = (.slice (some ⟨g, o, none⟩) A.length k1) := haf 0 _ rfl rfl 11 rfl
    have f12 : (a9.tmps[12]?).getD undef = (.int .i64 (h : Nat)) := haf 1 _ rfl rfl 12 rfl
    clear haf hev
    go_simp
    exact ⟨rfl, Below.refl _ _, hBx⟩
   | 3, _ =>
    obtain rfl := Option.some.inj ho
    intro a9 wx hBx hev haf
    rw [if_pos (wanted_none rfl)]
    have f13 : (a9.tmps[13]?).getD undef = (.slice (some ⟨g, o, none⟩) h k1) := haf 0 _ rfl rfl 13 rfl
    clear haf hev
    go_simp
    exact (CI1.out wx hBx).mono fun e w9 ⟨u, l, he, hp, hk, hb⟩ => ⟨u, he, ⟨l, hk, hp.1, hp.2⟩, hb, below_keep hBx hb⟩
   | 4, _ =>
    obtain rfl := Option.some.inj ho
    intro a9 wx hBx hev haf
    rw [if_pos (wanted_none rfl)]
    have f0 : (a9.tmps[0]?).getD undef = .slice (some ⟨g, o, none⟩) A.length k1 := hev 0 (by kernel_rfl)
    clear haf hev
    go_simp
    exact ⟨rfl, Below.refl _ _, hBx⟩
   | 5, _ =>
    obtain rfl := Option.some.inj ho
    intro a9 wx hBx hev haf
    rw [if_pos (wanted_none rfl)]
    have f3 : (a9.tmps[3]?).getD undef = .int .i64 (h : Nat) := hev 3 (by kernel_rfl)
    clear haf hev
    go_simp
    exact ⟨rfl, Below.refl _ _, hBx⟩
   | 6, _ =>
    obtain rfl := Option.some.inj ho
    intro a9 wx hBx hev haf
    rw [if_pos (wanted_none rfl)]
    have f15 : (a9.tmps[15]?).getD undef = (.slice (some ⟨g, o, none⟩) A.length k1) := haf 0 _ rfl rfl 15 rfl
    have f16 : (a9.tmps[16]?).getD undef = (.int .i64 (h : Nat)) := haf 1 _ rfl rfl 16 rfl
    clear haf hev
    go_simp
    exact ⟨rfl, Below.refl _ _, hBx⟩
   | 7, _ =>
    obtain rfl := Option.some.inj ho
    intro a9 wx hBx hev haf
    rw [if_pos (wanted_none rfl)]
    have f17 : (a9.tmps[17]?).getD undef = (.slice (some ⟨g, o + h * 2, none⟩) (A.length - h) (k1 - h)) := haf 0 _ rfl rfl 17 rfl
    clear haf hev
    go_simp
    exact (CI2.out wx hBx).mono fun e w9 ⟨u, l, he, hp, hk, hb⟩ => ⟨u, he, ⟨l, hk, hp.1, hp.2⟩, hb, below_keep hBx hb⟩
   | 8, _ =>
    obtain rfl := Option.some.inj ho
    intro a9 wx hBx hev haf
    rw [if_pos (wanted_none rfl)]
    have f14 := Lib.hid (haf 0 _ rfl rfl 14 rfl)
    have f18 := Lib.hid (haf 1 _ rfl rfl 18 rfl)
    clear haf hev
    obtain ⟨l1, kk1, pp1, ss1⟩ := f14.out
    obtain ⟨l2, kk2, pp2, ss2⟩ := f18.out
    have HJ := Lib.hid (joined_any l1 l2 _ _ wx kk1 kk2 ss1 ss2 (by rw [pp1.length_eq, pp2.length_eq, List.length_take, List.length_drop]; have := HLN.out; omega))
    have HPP := Lib.hid (And.intro pp1 pp2)
    clear kk1 kk2 pp1 pp2 ss1 ss2
    go_simp
    exact HJ.out.mono fun e w9 ⟨u, l, he, hp, hk, hb⟩ => ⟨u, he, ⟨l, hk, (hp.1.trans (List.Perm.append HPP.out.1 HPP.out.2)).trans (List.Perm.of_eq (List.take_append_drop h A)), hp.2⟩, hb, below_keep hBx hb⟩
   | 9, _ =>
    obtain rfl := Option.some.inj ho
    intro a9 wx hBx hev haf
    rw [if_pos (wanted_none rfl)]
    have f19 := Lib.hid (haf 0 _ rfl rfl 19 rfl)
    clear haf hev
    go_simp
    exact ⟨f19.out, Below.refl _ _, hBx⟩
  ·intro vals wx hBx hG
   have g0 : vals 0 = (.slice (some ⟨g, o, none⟩) A.length k1) := hG 0 (by decide)
   have g1 : vals 1 = (.int .i64 (h : Nat)) := hG 1 (by decide)
   have g2 : vals 2 = (.slice (some ⟨g, o, none⟩) h k1) := hG 2 (by decide)
   have g3 := hG 3 (by decide)
   have g4 : vals 4 = (.slice (some ⟨g, o, none⟩) A.length k1) := hG 4 (by decide)
   have g5 : vals 5 = (.int .i64 (h : Nat)) := hG 5 (by decide)
   have g6 : vals 6 = (.slice (some ⟨g, o + h * 2, none⟩) (A.length - h) (k1 - h)) := hG 6 (by decide)
   have g7 := hG 7 (by decide)
   have g8 := hG 8 (by decide)
   have g9 := hG 9 (by decide)
   clear hG
   simp only [putDs, Act.put, Nat.zero_add, Nat.reduceAdd, List.setIfInBounds_toArray, List.set_cons_succ, List.set_cons_zero, g0, g1, g2, g4, g5, g6]
   clear g0 g1 g2 g4 g5 g6
   have HG := Lib.hid g9
   clear g3 g7 g8 g9
   obtain ⟨y3, hy3⟩ : ∃ y, vals 3 = y := ⟨_, rfl⟩
   obtain ⟨y7, hy7⟩ : ∃ y, vals 7 = y := ⟨_, rfl⟩
   obtain ⟨y8, hy8⟩ : ∃ y, vals 8 = y := ⟨_, rfl⟩
   obtain ⟨y9, hy9⟩ : ∃ y, vals 9 = y := ⟨_, rfl⟩
   rw [hy9] at HG
   rw [hy3, hy7, hy8, hy9]
   clear hy3 hy7 hy8 hy9
   have HBX := Lib.hid hBx
   clear hBx
   go_wp2
   go_ret
   obtain ⟨l, k, p, s⟩ := HG.out
   exact ⟨_, l, rfl, ⟨p, s⟩, k, HBX.out⟩
theorem sorted_any (A : List KyT) (v : Value) (w : World) (ha : KyS w v A) (hl : A.length ≤ 1000000) : Calls Tryz.prog 45 #[v] w (RetKy (fun l => l.Perm A ∧ SortK Prod.fst l) w) :=
 sorted_from A.length A v w (Nat.le_refl _) ha hl
end Go.Proofs.YtkliekoheeeamaaGreatDoor
