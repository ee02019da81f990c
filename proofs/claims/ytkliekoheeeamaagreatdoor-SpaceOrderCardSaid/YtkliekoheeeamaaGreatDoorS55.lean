/- Lemmas and contracts, each under its own condition: The reference's Seq in plain words; keyed lists that grow. The reference's Seq. (printed by rsb.py) The reference's Rank. (printed by rta.py) -/
import Derived.IntWalk
import Derived.BigQuiet
import Derived.Deep.AppendLies
import Derived.Deep.DeepCutAuto
import Derived.Lib.SliceRun
import Derived.Lib.AppendZeros
import Derived.Test.YtkliekoheeeamaaGreatDoorS11
import Derived.Test.YtkliekoheeeamaaGreatDoorS28
import Derived.Test.YtkliekoheeeamaaGreatDoorS46
import Derived.Test.YtkliekoheeeamaaGreatDoorS52
import Derived.Test.YtkliekoheeeamaaGreatDoorS53
import Derived.Test.YtkliekoheeeamaaGreatDoorS54
import Derived.Test.YtkliekoheeeamaaGreatDoorS58
/- The reference's Seq in plain words; keyed lists that grow. -/
namespace Go.Proofs.YtkliekoheeeamaaGreatDoor
open Go.RowKit

def rmL : List Int → List (List Int)
 | [] => [[]]
 | m :: ms => (List.range m.toNat).flatMap fun (x : Nat) => (rmL ms).map fun z => (x : Int) :: z
theorem rmF_rmL : ∀ (ms : List Int) (R : List (List Int)), rmF R ms = R.flatMap fun y => (rmL ms).map fun z => y ++ z
 | [], R => by
  rw [rmF]
  simp [rmL]
 | m :: ms, R => by
  rw [rmF, rmF_rmL ms, rmL]
  unfold rmS rmR
  simp only [List.flatMap_assoc, List.flatMap_map, List.map_flatMap, List.map_map, List.append_assoc, List.singleton_append, Function.comp_def]
theorem rmF_one (ms : List Int) : rmF [[]] ms = rmL ms := by
 rw [rmF_rmL]
 simp
def addL (y lo : List Int) : List Int := List.zipWith (fun a b => a + b) y lo
theorem rmL_pts : ∀ {lo hi : List Int}, lo.length = hi.length → (rmL (extI lo hi)).map (fun y => addL y lo) = ptsL lo hi
 | [], [], _ => rfl
 | [], _ :: _, h => by simp at h
 | _ :: _, [], h => by simp at h
 | l :: ls, h :: hs, hl => by
  have ih := rmL_pts (lo := ls) (hi := hs) (by simpa using hl)
  have e : extI (l :: ls) (h :: hs) = (h - l + 1) :: extI ls hs := rfl
  rw [e, rmL, ptsL, List.map_flatMap]
  congr 1
  funext k
  rw [← ih, List.map_map, List.map_map]
  congr 1
  funext z
  show ((k : Int) + l) :: addL z ls = (l + (k : Int)) :: addL z ls
  rw [Int.add_comm]
/-- what is known of a list of offsets -/
structure OffP (lo hi y : List Int) : Prop where
 len : y.length = lo.length
 each : ∀ c ∈ y, 0 ≤ c ∧ c ≤ 4095
 sub : subL (addL y lo) lo = y
theorem rmL_off : ∀ {lo hi : List Int}, lo.length = hi.length → (∀ (i : Nat) (a b : Int), lo[i]? = some a → hi[i]? = some b → a ≤ b ∧ b - a < 4096) → ∀ y ∈ rmL (extI lo hi), OffP lo hi y
 | [], [], _, _, y, hy => by
  simp only [extI, List.zipWith_nil_left, rmL, List.mem_singleton] at hy
  subst hy
  exact ⟨rfl, fun c hc => by simp at hc, rfl⟩
 | [], _ :: _, h, _, _, _ => by simp at h
 | _ :: _, [], h, _, _, _ => by simp at h
 | l :: ls, h :: hs, hl, hb, y, hy => by
  have e : extI (l :: ls) (h :: hs) = (h - l + 1) :: extI ls hs := rfl
  rw [e, rmL] at hy
  obtain ⟨k, hk, hy⟩ := List.mem_flatMap.1 hy
  obtain ⟨z, hz, rfl⟩ := List.mem_map.1 hy
  have ih := rmL_off (lo := ls) (hi := hs) (by simpa using hl) (fun i a b ha hb' => hb (i + 1) a b ha hb') z hz
  have h0 := hb 0 l h rfl rfl
  have hkl := List.mem_range.1 hk
  refine ⟨by simp [ih.len], fun c hc => ?_, ?_⟩
  ·rcases List.mem_cons.1 hc with rfl | hc
   ·omega
   ·exact ih.each c hc
  ·show ((k : Int) + l - l) :: subL (addL z ls) ls = (k : Int) :: z
   rw [ih.sub, Int.add_sub_cancel]
theorem prodI_ext : ∀ {lo hi : List Int}, lo.length = hi.length → prodI (extI lo hi) = ptsN lo hi
 | [], [], _ => rfl
 | [], _ :: _, h => by simp at h
 | _ :: _, [], h => by simp at h
 | l :: ls, h :: hs, hl => by
  have e : extI (l :: ls) (h :: hs) = (h - l + 1) :: extI ls hs := rfl
  rw [e, prodI, ptsN, prodI_ext (by simpa using hl)]
theorem extI_each : ∀ {lo hi : List Int}, (∀ (i : Nat) (a b : Int), lo[i]? = some a → hi[i]? = some b → a ≤ b ∧ b - a < 4096) → ∀ c ∈ extI lo hi, 1 ≤ c ∧ c ≤ 4096
 | [], _, _, c, hc => by simp [extI] at hc
 | _ :: _, [], _, c, hc => by simp [extI] at hc
 | l :: ls, h :: hs, hb, c, hc => by
  have h0 := hb 0 l h rfl rfl
  have hc : c ∈ (h - l + 1) :: extI ls hs := hc
  rcases List.mem_cons.1 hc with e | hc
  ·omega
  ·exact extI_each (lo := ls) (hi := hs) (fun i a b ha hb' => hb (i + 1) a b ha hb') c hc
theorem addL_snoc {y lo : List Int} {j : Nat} {a l : Int} (ha : y[j]? = some a) (hl : lo[j]? = some l) : (addL y lo)[j]? = some (a + l) := by
 unfold addL; rw [List.getElem?_zipWith, ha, hl]
/-- the pair of some offsets -/
def keyP (l : LayT) (k : Nat) (lo : List Int) (y : List Int) : KyT := (rkeyF l.order l.tile k y, addL y lo)
theorem seq_plain {l : LayT} {lo hi : List Int} {L : List KyT} (hb : BoxS lo hi) (hp : L.Perm ((rmF [[]] (extI lo hi)).map (keyP l (bitsL 0 lo hi) lo))) (hs : SortK Prod.fst L) : SortedBy l lo hi (L.map Prod.snd) := by
 have hoff := rmL_off hb.len hb.wide
 rw [rmF_one] at hp
 have hmem : ∀ c ∈ L, c.1 = rkeyF l.order l.tile (bitsL 0 lo hi) (subL c.2 lo) := fun c hc => by
  obtain ⟨y, hy, rfl⟩ := List.mem_map.1 (hp.mem_iff.1 hc)
  unfold keyP
  rw [(hoff y hy).sub]
 refine sorted_ref hb ?_ ?_
 ·have h1 := hp.map Prod.snd
  rw [List.map_map] at h1
  rw [← rmL_pts hb.len]
  exact h1
 ·unfold SortK at hs ⊢
  rw [List.pairwise_map]
  refine hs.imp_of_mem fun {a b} ha hb' hab => ?_
  unfold leK at hab ⊢
  show cmpI (rkeyF l.order l.tile (bitsL 0 lo hi) (subL b.2 lo)) (rkeyF l.order l.tile (bitsL 0 lo hi) (subL a.2 lo)) ≠ -1
  rw [← hmem a ha, ← hmem b hb']
  exact hab
/-- a keyed list that the call makes, with parts that it made too -/
structure KyW (n₀ : Nat) (w : World) (v : Value) (l : List KyT) : Prop where
 ex : ∃ us : List (Value × Value), us.length = l.length ∧ w.ownsRow n₀ 91 2 v l.length (us.flatMap fun u => [u.1, u.2]) ∧ ∀ (i : Nat) (c : KyT) (u : Value × Value), l[i]? = some c → us[i]? = some u → IntsO w u.1 c.1 ∧ IntsO w u.2 c.2
theorem KyW.nil (n₀ : Nat) (w : World) : KyW n₀ w (.slice none 0 0) [] := ⟨[], rfl, World.ownsRow_nil _ _ _ _, fun i x u h => by simp at h⟩
theorem KyW.later {n₀ : Nat} {w w' : World} {v : Value} {l : List KyT} (h : KyW n₀ w v l) (hb : Below w.heap.size w w') : KyW n₀ w' v l := by
 obtain ⟨us, h1, h2, h3⟩ := h
 exact ⟨us, h1, h2.kept (row := none) (grown_of_below hb none) (by cases v.ownBlock <;> simp), fun i c u hc hu => ⟨(h3 i c u hc hu).1.later hb, (h3 i c u hc hu).2.later hb⟩⟩
theorem KyW.snoc {n₀ : Nat} {w w' : World} {v v' u1 u2 : Value} {l : List KyT} {c : KyT} {us : List (Value × Value)} (hl : us.length = l.length) (ho : w.ownsRow n₀ 91 2 v l.length (us.flatMap fun u => [u.1, u.2])) (hx : ∀ (i : Nat) (c : KyT) (u : Value × Value), l[i]? = some c → us[i]? = some u → IntsO w u.1 c.1 ∧ IntsO w u.2 c.2)
  (hn : w'.ownsRow n₀ 91 2 v' (l.length + 1) ((us.flatMap fun u => [u.1, u.2]) ++ [u1, u2])) (hg : w.grownBy w' v.ownBlock) (h1 : IntsO w u1 c.1) (h2 : IntsO w u2 c.2) : KyW n₀ w' v' (l ++ [c]) := by
 have hk : ∀ u x, IntsO w u x → IntsO w' u x := fun u x h => h.grown hg fun r e e2 => (ownsRow_tag ho r e).ne (h.tag r e2) (by decide) rfl
 refine ⟨us ++ [(u1, u2)], by simp [hl], by simpa using hn, fun i y z hi hz => ?_⟩
 by_cases hlt : i < l.length
 ·rw [List.getElem?_append_left hlt] at hi
  rw [List.getElem?_append_left (by omega)] at hz
  exact ⟨hk _ _ (hx i y z hi hz).1, hk _ _ (hx i y z hi hz).2⟩
 ·rw [List.getElem?_append_right (by omega)] at hi hz
  rw [hl] at hz
  have h0 : i - l.length = 0 := by
   have := (List.getElem?_eq_some_iff.1 hi).1
   simp at this; omega
  rw [h0] at hi hz
  simp only [List.getElem?_cons_zero, Option.some.injEq] at hi hz
  subst hi hz
  exact ⟨hk _ _ h1, hk _ _ h2⟩
theorem KyW.list {n₀ : Nat} {w : World} {v : Value} {l : List KyT} (h : KyW n₀ w v l) : KyS w v l := by
 obtain ⟨us, hl, ho, hx⟩ := h
 exact KyO.list (n₀ := n₀) (w0 := w) ⟨us, hl, ho, fun i c u hc hu => ⟨(hx i c u hc hu).1.ints, (hx i c u hc hu).2.ints⟩⟩ (Below.refl _ _)
theorem KyW.below {n₀ : Nat} {w : World} {v : Value} {l : List KyT} (h : KyW n₀ w v l) : ∀ k, v.ownBlock = some k → n₀ ≤ k := by
 obtain ⟨us, -, ho, -⟩ := h.ex
 exact fun k e => (ho.lt k e).1
end Go.Proofs.YtkliekoheeeamaaGreatDoor
/- The reference's Seq. (printed by rsb.py) -/
namespace Go.Proofs.YtkliekoheeeamaaGreatDoor
open Go.RowKit
attribute [local go_sem] Oper.semAt_some

/-- a copy of a row that may be written -/
theorem row_copy (w : World) (u : Value) (y : List Int) (hu : Ints w u y) (h1 : 1 ≤ y.length) (h4 : y.length ≤ 4) :
  ∃ g cap w1, (Builtin.append_ #[24, 24] 24 #[.slice (some ⟨w.heap.size, 0, none⟩) 0 0, u]).run Tryz.prog (w.alloc (.cells #[] 3)) = .ok (.slice (some ⟨g, 0, none⟩) y.length cap) w1 ∧ w.heap.size ≤ g ∧ RowZ w1 g y ∧ Below w.heap.size w w1 ∧ y.length ≤ cap ∧ cap ≤ 9223372036854775807 := by
 have hba : Below w.heap.size w (w.alloc (.cells #[] 3)) := below_alloc _ _
 obtain ⟨v1, w1, hr1, ho1, hg1⟩ := append_ints (w.alloc (.cells #[] 3)) w.heap.size hba.size (.slice (some ⟨w.heap.size, 0, none⟩) 0 0) [] (World.ownsRow_made w #[] 0 (Nat.le_refl _) (by decide) (by simp)) u y (hu.later IntR.lasts hba) (by simp; omega) 24
 simp only [List.length_nil, Nat.zero_add, List.nil_append] at ho1
 have hb1 : Below w.heap.size w w1 := hba.grown hg1 hba.size (fun k e => by simp only [Value.ownBlock, Option.some.injEq] at e; omega)
 rcases ho1.2 with ⟨-, h0⟩ | ⟨g, cap, cur, e, -⟩
 ·omega
 ·subst e
  obtain ⟨h1, h2, h3, h4⟩ := RowZ.of_owns ho1
  exact ⟨g, cap, w1, hr1, h2, h1, hb1, h3, h4⟩
def addI (y lo : List Int) (j : Nat) : List Int := (addL y lo).take j ++ y.drop j
theorem addI_zero (y lo : List Int) : addI y lo 0 = y := by simp [addI]
theorem addL_length {y lo : List Int} (h : y.length = lo.length) : (addL y lo).length = lo.length := by simp [addL, h]
theorem addI_at {y lo : List Int} {j : Nat} {a : Int} (h : y.length = lo.length) (ha : y[j]? = some a) : (addI y lo j)[j]? = some a := by
 have hi := (List.getElem?_eq_some_iff.1 ha).1
 unfold addI
 rw [List.getElem?_append_right (by rw [List.length_take]; omega), List.length_take, addL_length h, Nat.min_eq_left (by omega), Nat.sub_self, List.getElem?_drop, Nat.add_zero]
 exact ha
theorem addI_step {y lo : List Int} {j : Nat} {a l : Int} (ha : y[j]? = some a) (hl : lo[j]? = some l) : (addI y lo j).set j (a + l) = addI y lo (j + 1) := take_set (addL_snoc ha hl) ha
theorem addI_end {y lo : List Int} (h : y.length = lo.length) : addI y lo lo.length = addL y lo := by
 unfold addI
 rw [← h, List.drop_length, List.append_nil, List.take_of_length_le (by rw [addL_length h, h]; exact Nat.le_refl _)]
theorem addI_length {y lo : List Int} {j : Nat} (h : y.length = lo.length) : (addI y lo j).length = lo.length := by
 unfold addI
 rw [List.length_append, List.length_take, List.length_drop, addL_length h, h]; omega
/-- rows that were made here of older lists -/
structure RowsF (n₀ : Nat) (w0 w : World) (v : Value) (l : List (List Int)) : Prop where
 ex : ∃ vals : List Value, w.ownsRow n₀ 24 1 v l.length vals ∧ ∀ (i : Nat) (x : List Int) (u : Value), l[i]? = some x → vals[i]? = some u → Ints w0 u x
theorem RowsF.snoc {n₀ : Nat} {w0 w' : World} {v' u : Value} {l : List (List Int)} {x : List Int} {vals : List Value} (hl : vals.length = l.length) (hv : ∀ (i : Nat) (x : List Int) (u : Value), l[i]? = some x → vals[i]? = some u → Ints w0 u x)
  (hn : w'.ownsRow n₀ 24 1 v' (l.length + 1) (vals ++ [u])) (hu : Ints w0 u x) : RowsF n₀ w0 w' v' (l ++ [x]) := by
 refine ⟨vals ++ [u], by simpa using hn, fun i y z hi hz => ?_⟩
 by_cases hlt : i < l.length
 ·rw [List.getElem?_append_left hlt] at hi
  rw [List.getElem?_append_left (by omega)] at hz
  exact hv i y z hi hz
 ·rw [List.getElem?_append_right (by omega)] at hi hz
  rw [hl] at hz
  have h0 : i - l.length = 0 := by
   have := (List.getElem?_eq_some_iff.1 hi).1
   simp at this; omega
  rw [h0] at hi hz
  simp only [List.getElem?_cons_zero, Option.some.injEq] at hi hz
  subst hi hz
  exact hu
theorem RowsF.rows {n₀ : Nat} {w0 w : World} {v : Value} {l : List (List Int)} (h : RowsF n₀ w0 w v l) (hb : Below w0.heap.size w0 w) : RowsI w v l := by
 obtain ⟨vals, ho, hx⟩ := h
 have hl : vals.length = l.length := by have := ho.1; rwa [Nat.mul_one] at this
 have hc : ∀ {g : Nat}, v.ownBlock = some g → ∀ j u, vals[j]? = some u → w.cell? ((⟨g, 0, none⟩ : Addr).add j) = some u := fun hg => ho.cells hg
 rcases ho.2 with ⟨rfl, h0⟩ | ⟨g, cap, cur, rfl, h1, h2, h3, h4, h5, h6⟩
 ·have : l = [] := List.length_eq_zero_iff.1 h0
  subst this
  exact Ls.nil _ _ _ (by omega)
 ·unfold maxLen at h4
  refine ⟨_, cap, rfl, h3, h4, fun h0 => ⟨g, 0, rfl, fun i x hi => ?_⟩⟩
  have hlt : i < vals.length := by rw [hl]; exact (List.getElem?_eq_some_iff.1 hi).1
  have hu := List.getElem?_eq_getElem hlt
  have e0 := hc (g := g) rfl _ _ hu
  rw [show (⟨g, 0, none⟩ : Addr).add i = ⟨g, 0 + i * 1, none⟩ from by unfold Addr.add; split <;> simp_all] at e0
  exact ⟨vals[i], e0, (hx i x _ hi hu).later IntR.lasts hb⟩
set_option maxHeartbeats 16000000 in
set_option maxRecDepth 100000 in
theorem rseq_bad (vs vo vlo vhi : Value) (l : LayT) (lo hi : List Int) (w : World) (hl : LayR w vs vo l) (hlo : Ints w vlo lo) (hhi : Ints w vhi hi) (h : orderedB l.order l.tile = false) :
  Calls Tryz.prog 12 #[layV vs vo l, .agg #[vlo, vhi]] w (RetRows (· = []) 2 w) := by
 have CO := Lib.hid (fun w1 (hb : Below w.heap.size w w1) => rordered_any vs vo l w1 (hl.later hb))
 rw [h] at CO
 have CF := Lib.hid (fun w1 (hb : Below w.heap.size w w1) => rformed_any vlo vhi lo hi w1 (hlo.later IntR.lasts hb) (hhi.later IntR.lasts hb))
 have HL := Lib.hid hl
 have HLO := Lib.hid hlo
 obtain ⟨p1, k1, rfl, -⟩ := hl.sides.shape
 obtain ⟨p2, k2, rfl, -⟩ := hl.over.shape
 obtain ⟨p3, k3, rfl, -⟩ := hlo.shape
 obtain ⟨p4, k4, rfl, -⟩ := hhi.shape
 obtain ⟨W0, hW0⟩ : ∃ W0, W0 = w.alloc (.cells #[.slice p1 l.sides.length k1, .slice p2 l.over.length k2, .int .i64 l.order, .int .i64 l.tile, .int .i64 l.form, .int .i64 l.codec] 32) := ⟨_, rfl⟩
 have hsz0 : W0.heap.size = w.heap.size + 1 := by rw [hW0]; simp
 have HLB := Lib.hid (fun w' hb => LayB.made w (.slice p1 l.sides.length k1) (.slice p2 l.over.length k2) l 32 w' hb)
 have hb0 : Below w.heap.size w W0 := by rw [hW0]; exact below_alloc _ _
 rw [← hW0] at HLB
 obtain ⟨W1, hW1, hb1, hbx⟩ := box_at W0 (.slice p3 lo.length k3) (.slice p4 hi.length k4)
 rw [hsz0] at hbx
 have HB1 := Lib.hid (below_keep hb0 hb1)
 have HBX := Lib.hid hbx
 have HLB1 : Hid (∀ w', Below W1.heap.size W1 w' → LayB w' w.heap.size (.slice p1 l.sides.length k1) (.slice p2 l.over.length k2) l) := fun w' hb => HLB.out w' (by
  have h9 := below_keep hb1 hb
  rw [hsz0] at h9
  exact h9)
 obtain ⟨ss, oo, o, t, f, c'⟩ := l
 simp only at hW0 hW1 HLB1
 obtain ⟨l0, l1, l2, l3, l4, l5⟩ := HLB1.out W1 (Below.refl _ _)
 obtain ⟨d0, d1, -⟩ := HBX.out W1 (Below.refl _ _)
 clear hb0 hb1 hsz0 HLB hbx hl hlo hhi h CF
 go_enter Tryz.func12, Tryz.ntmps12
 go_upto_region 1 with (fail)
 rw [← hW0]
 rw [← hW1]
 clear hW0 hW1
 go_wp2_with fail
 refine (CO.out _ HB1.out).mono ?_
 rintro e w2 ⟨rfl, hb⟩
 have HC2 := Lib.hid hb
 have HB2 := Lib.hid (below_keep HB1.out hb)
 clear hb CO d0 d1 l0 l1 l2 l3 l4 l5
 obtain ⟨d0, d1, -⟩ := HBX.out w2 HC2.out
 go_wp2
 go_ret2
 exact ⟨_, [], rfl, rfl, RowsI.nil _, HB2.out⟩
set_option maxHeartbeats 16000000 in
set_option maxRecDepth 100000 in
theorem rseq_shape (vs vo vlo vhi : Value) (l : LayT) (lo hi : List Int) (w : World) (hl : LayR w vs vo l) (hlo : Ints w vlo lo) (hhi : Ints w vhi hi) (h : orderedB l.order l.tile = true) (h2 : formedB lo hi = false) :
  Calls Tryz.prog 12 #[layV vs vo l, .agg #[vlo, vhi]] w (RetRows (· = []) 13 w) := by
 have CO := Lib.hid (fun w1 (hb : Below w.heap.size w w1) => rordered_any vs vo l w1 (hl.later hb))
 have CF := Lib.hid (fun w1 (hb : Below w.heap.size w w1) => rformed_any vlo vhi lo hi w1 (hlo.later IntR.lasts hb) (hhi.later IntR.lasts hb))
 rw [h] at CO
 rw [h2] at CF
 have HL := Lib.hid hl
 have HLO := Lib.hid hlo
 obtain ⟨p1, k1, rfl, -⟩ := hl.sides.shape
 obtain ⟨p2, k2, rfl, -⟩ := hl.over.shape
 obtain ⟨p3, k3, rfl, -⟩ := hlo.shape
 obtain ⟨p4, k4, rfl, -⟩ := hhi.shape
 obtain ⟨W0, hW0⟩ : ∃ W0, W0 = w.alloc (.cells #[.slice p1 l.sides.length k1, .slice p2 l.over.length k2, .int .i64 l.order, .int .i64 l.tile, .int .i64 l.form, .int .i64 l.codec] 32) := ⟨_, rfl⟩
 have hsz0 : W0.heap.size = w.heap.size + 1 := by rw [hW0]; simp
 have HLB := Lib.hid (fun w' hb => LayB.made w (.slice p1 l.sides.length k1) (.slice p2 l.over.length k2) l 32 w' hb)
 have hb0 : Below w.heap.size w W0 := by rw [hW0]; exact below_alloc _ _
 rw [← hW0] at HLB
 obtain ⟨W1, hW1, hb1, hbx⟩ := box_at W0 (.slice p3 lo.length k3) (.slice p4 hi.length k4)
 rw [hsz0] at hbx
 have HB1 := Lib.hid (below_keep hb0 hb1)
 have HBX := Lib.hid hbx
 have HLB1 : Hid (∀ w', Below W1.heap.size W1 w' → LayB w' w.heap.size (.slice p1 l.sides.length k1) (.slice p2 l.over.length k2) l) := fun w' hb => HLB.out w' (by
  have h9 := below_keep hb1 hb
  rw [hsz0] at h9
  exact h9)
 obtain ⟨ss, oo, o, t, f, c'⟩ := l
 simp only at hW0 hW1 HLB1
 obtain ⟨l0, l1, l2, l3, l4, l5⟩ := HLB1.out W1 (Below.refl _ _)
 obtain ⟨d0, d1, -⟩ := HBX.out W1 (Below.refl _ _)
 clear hb0 hb1 hsz0 HLB hbx hl hlo hhi h h2
 go_enter Tryz.func12, Tryz.ntmps12
 go_upto_region 1 with (fail)
 rw [← hW0]
 rw [← hW1]
 clear hW0 hW1
 go_wp2_with fail
 refine (CO.out _ HB1.out).mono ?_
 rintro e w2 ⟨rfl, hb⟩
 have HC2 := Lib.hid hb
 have HB2 := Lib.hid (below_keep HB1.out hb)
 clear hb CO d0 d1 l0 l1 l2 l3 l4 l5
 obtain ⟨d0, d1, -⟩ := HBX.out w2 HC2.out
 go_wp2_with fail
 refine (CF.out _ HB2.out).mono ?_
 rintro e w3 ⟨rfl, hb⟩
 have HC3 := Lib.hid (below_keep HC2.out hb)
 have HB3 := Lib.hid (below_keep HB2.out hb)
 clear hb CF d0 d1
 obtain ⟨d0, d1, -⟩ := HBX.out w3 HC3.out
 go_wp2
 go_ret2
 exact ⟨_, [], rfl, rfl, RowsI.nil _, HB3.out⟩
set_option maxHeartbeats 16000000 in
set_option maxRecDepth 100000 in
theorem rseq_lim (vs vo vlo vhi : Value) (l : LayT) (lo hi : List Int) (w : World) (hl : LayR w vs vo l) (hlo : Ints w vlo lo) (hhi : Ints w vhi hi) (hmin : ∀ x ∈ lo, -9223372036854775808 ≤ x) (h : orderedB l.order l.tile = true) (h2 : formedB lo hi = true) (h3 : limE lo hi ≠ 0) :
  Calls Tryz.prog 12 #[layV vs vo l, .agg #[vlo, vhi]] w (RetRows (· = []) (limE lo hi) w) := by
 have CO := Lib.hid (fun w1 (hb : Below w.heap.size w w1) => rordered_any vs vo l w1 (hl.later hb))
 have CF := Lib.hid (fun w1 (hb : Below w.heap.size w w1) => rformed_any vlo vhi lo hi w1 (hlo.later IntR.lasts hb) (hhi.later IntR.lasts hb))
 have hfm := h2
 unfold formedB at hfm
 simp only [Bool.and_eq_true, decide_eq_true_eq] at hfm
 have HFM := Lib.hid hfm
 have CE := Lib.hid (fun w1 (hb : Below w.heap.size w w1) => rextents_any vlo vhi lo hi w1 (hlo.later IntR.lasts hb) (hhi.later IntR.lasts hb) hfm.1.1.symm hfm.2 hmin)
 rw [h] at CO
 rw [h2] at CF
 rw [if_neg h3] at CE
 obtain ⟨E, hE⟩ : ∃ E, E = limE lo hi := ⟨_, rfl⟩
 rw [← hE] at CE h3 ⊢
 have tE : (E != 0) = true := by rw [bne_iff_ne]; exact h3
 have HL := Lib.hid hl
 have HLO := Lib.hid hlo
 obtain ⟨p1, k1, rfl, -⟩ := hl.sides.shape
 obtain ⟨p2, k2, rfl, -⟩ := hl.over.shape
 obtain ⟨p3, k3, rfl, -⟩ := hlo.shape
 obtain ⟨p4, k4, rfl, -⟩ := hhi.shape
 obtain ⟨W0, hW0⟩ : ∃ W0, W0 = w.alloc (.cells #[.slice p1 l.sides.length k1, .slice p2 l.over.length k2, .int .i64 l.order, .int .i64 l.tile, .int .i64 l.form, .int .i64 l.codec] 32) := ⟨_, rfl⟩
 have hsz0 : W0.heap.size = w.heap.size + 1 := by rw [hW0]; simp
 have HLB := Lib.hid (fun w' hb => LayB.made w (.slice p1 l.sides.length k1) (.slice p2 l.over.length k2) l 32 w' hb)
 have hb0 : Below w.heap.size w W0 := by rw [hW0]; exact below_alloc _ _
 rw [← hW0] at HLB
 obtain ⟨W1, hW1, hb1, hbx⟩ := box_at W0 (.slice p3 lo.length k3) (.slice p4 hi.length k4)
 rw [hsz0] at hbx
 have HB1 := Lib.hid (below_keep hb0 hb1)
 have HBX := Lib.hid hbx
 have HLB1 : Hid (∀ w', Below W1.heap.size W1 w' → LayB w' w.heap.size (.slice p1 l.sides.length k1) (.slice p2 l.over.length k2) l) := fun w' hb => HLB.out w' (by
  have h9 := below_keep hb1 hb
  rw [hsz0] at h9
  exact h9)
 obtain ⟨ss, oo, o, t, f, c'⟩ := l
 simp only at hW0 hW1 HLB1
 obtain ⟨l0, l1, l2, l3, l4, l5⟩ := HLB1.out W1 (Below.refl _ _)
 obtain ⟨d0, d1, -⟩ := HBX.out W1 (Below.refl _ _)
 clear hb0 hb1 hsz0 HLB hbx hl hlo hhi h h2 h3 hE hfm hmin
 go_enter Tryz.func12, Tryz.ntmps12
 go_upto_region 1 with (fail)
 rw [← hW0]
 rw [← hW1]
 clear hW0 hW1
 go_wp2_with fail
 refine (CO.out _ HB1.out).mono ?_
 rintro e w2 ⟨rfl, hb⟩
 have HC2 := Lib.hid hb
 have HB2 := Lib.hid (below_keep HB1.out hb)
 clear hb CO d0 d1 l0 l1 l2 l3 l4 l5
 obtain ⟨d0, d1, -⟩ := HBX.out w2 HC2.out
 go_wp2_with fail
 refine (CF.out _ HB2.out).mono ?_
 rintro e w3 ⟨rfl, hb⟩
 have HC3 := Lib.hid (below_keep HC2.out hb)
 have HB3 := Lib.hid (below_keep HB2.out hb)
 clear hb CF d0 d1
 obtain ⟨d0, d1, -⟩ := HBX.out w3 HC3.out
 go_wp2_with fail
 refine (CE.out _ HB3.out).mono ?_
 rintro e w4 ⟨u, rfl, hu, hb⟩
 have HB4 := Lib.hid (below_keep HB3.out hb)
 obtain ⟨q1, j1, rfl, -⟩ := hu.shape
 clear hb hu CE d0 d1
 go_wp2
 go_ret2
 exact ⟨_, [], rfl, rfl, RowsI.nil _, HB4.out⟩
set_option maxHeartbeats 16000000 in
set_option maxRecDepth 100000 in
theorem rseq_good (vs vo vlo vhi : Value) (l : LayT) (lo hi : List Int) (w : World) (hl : LayR w vs vo l) (hlo : Ints w vlo lo) (hhi : Ints w vhi hi) (hmin : ∀ x ∈ lo, -9223372036854775808 ≤ x) (h : orderedB l.order l.tile = true) (h2 : formedB lo hi = true) (h3 : limE lo hi = 0) :
  Calls Tryz.prog 12 #[layV vs vo l, .agg #[vlo, vhi]] w (RetRows (SortedBy l lo hi) 0 w) := by
 have CO := Lib.hid (fun w1 (hb : Below w.heap.size w w1) => rordered_any vs vo l w1 (hl.later hb))
 have CF := Lib.hid (fun w1 (hb : Below w.heap.size w w1) => rformed_any vlo vhi lo hi w1 (hlo.later IntR.lasts hb) (hhi.later IntR.lasts hb))
 have hfm := h2
 unfold formedB at hfm
 simp only [Bool.and_eq_true, decide_eq_true_eq] at hfm
 have HFM := Lib.hid hfm
 have CE := Lib.hid (fun w1 (hb : Below w.heap.size w w1) => rextents_any vlo vhi lo hi w1 (hlo.later IntR.lasts hb) (hhi.later IntR.lasts hb) hfm.1.1.symm hfm.2 hmin)
 rw [h] at CO
 rw [h2] at CF
 rw [h3] at CE
 rw [if_pos rfl] at CE
 have hbs := boxS_of h2 h3
 have HBS := Lib.hid hbs
 obtain ⟨M, hM⟩ : ∃ M, M = extI lo hi := ⟨_, rfl⟩
 have HM := Lib.hid hM
 rw [← hM] at CE
 have hMe : ∀ c ∈ M, 1 ≤ c ∧ c ≤ 4096 := by rw [hM]; exact extI_each hbs.wide
 have hMl : M.length = lo.length := by rw [hM]; simp [extI, hbs.len]
 have hMp : prodI M ≤ 4096 := by
  obtain ⟨hA, nB, hB, hB2⟩ := limE_zero h3
  have := ptsN_lim (lim_wide hfm.1.1 hA) hB
  rw [hM, prodI_ext hbs.len]
  omega
 obtain ⟨K, hK⟩ : ∃ K, K = bitsL 0 lo hi := ⟨_, rfl⟩
 have HK := Lib.hid hK
 have hK12 : K ≤ 12 := by rw [hK]; exact hbs.bits
 have hKE : bitsE 0 M = K := by rw [hM, bitsE_ext, hK]
 obtain ⟨U, hU⟩ : ∃ U, U = rmF [[]] M := ⟨_, rfl⟩
 have HU := Lib.hid hU
 have CRM := Lib.hid (fun (v : Value) (w1 : World) (hv : Ints w1 v M) => rrowMajor_any M v w1 hv hMe (by have := hfm.2; omega) hMp)
 rw [← hU] at CRM
 have CBI := Lib.hid (fun (v : Value) (w1 : World) (hv : Ints w1 v M) => rbits_any M v w1 hv hMe (by have := hfm.2; omega))
 rw [hKE] at CBI
 have HOF : Hid (∀ y ∈ U, OffP lo hi y) := by
  show ∀ y ∈ U, OffP lo hi y
  rw [hU, hM, rmF_one]
  exact rmL_off hbs.len hbs.wide
 have HUL : Hid (U.length ≤ 4096) := by
  have h1 := congrArg List.length (rmL_pts hbs.len)
  rw [List.length_map, ptsL_length, ← prodI_ext hbs.len, ← hM] at h1
  show _ ≤ _
  rw [hU, rmF_one, h1]; exact hMp
 have HSP : Hid (∀ L : List KyT, L.Perm (U.map (keyP l K lo)) → SortK Prod.fst L → SortedBy l lo hi (L.map Prod.snd)) := fun L h1 h2 => by
  rw [hU, hM, hK] at h1
  exact seq_plain hbs h1 h2
 have HORD := Lib.hid h
 have CSK := Lib.hid (fun (y : List Int) (vy : Value) (w1 : World) (hb : Below w.heap.size w w1) (hv : Ints w1 vy y) (hy : OffP lo hi y) => rsortKey_any vs vo l y K vy w1 (hl.later hb) hv hy.each (by rw [hy.len]; exact hfm.1.2) (by rw [hy.len]; exact hfm.2) hK12 h)
 have HMN : Hid (∀ c ∈ lo, -9223372036854775808 ≤ c ∧ c ≤ 1073741824) := fun c hc => by
  refine ⟨hmin c hc, ?_⟩
  obtain ⟨j, hj⟩ := List.mem_iff_getElem?.1 hc
  have hjl := (List.getElem?_eq_some_iff.1 hj).1
  obtain ⟨b, hb⟩ : ∃ b, hi[j]? = some b := ⟨_, List.getElem?_eq_getElem (by rw [← hbs.len]; exact hjl)⟩
  obtain ⟨hA, -⟩ := limE_zero h3
  have := limA_get hA hj hb
  omega
 have HL := Lib.hid hl
 have HLO := Lib.hid hlo
 obtain ⟨p1, k1, rfl, -⟩ := hl.sides.shape
 obtain ⟨p2, k2, rfl, -⟩ := hl.over.shape
 obtain ⟨p3, k3, rfl, -⟩ := hlo.shape
 obtain ⟨p4, k4, rfl, -⟩ := hhi.shape
 obtain ⟨W0, hW0⟩ : ∃ W0, W0 = w.alloc (.cells #[.slice p1 l.sides.length k1, .slice p2 l.over.length k2, .int .i64 l.order, .int .i64 l.tile, .int .i64 l.form, .int .i64 l.codec] 32) := ⟨_, rfl⟩
 have hsz0 : W0.heap.size = w.heap.size + 1 := by rw [hW0]; simp
 have HLB := Lib.hid (fun w' hb => LayB.made w (.slice p1 l.sides.length k1) (.slice p2 l.over.length k2) l 32 w' hb)
 have hb0 : Below w.heap.size w W0 := by rw [hW0]; exact below_alloc _ _
 rw [← hW0] at HLB
 obtain ⟨W1, hW1, hb1, hbx⟩ := box_at W0 (.slice p3 lo.length k3) (.slice p4 hi.length k4)
 rw [hsz0] at hbx
 have HB1 := Lib.hid (below_keep hb0 hb1)
 have HBX := Lib.hid hbx
 have HLB1 : Hid (∀ w', Below W1.heap.size W1 w' → LayB w' w.heap.size (.slice p1 l.sides.length k1) (.slice p2 l.over.length k2) l) := fun w' hb => HLB.out w' (by
  have h9 := below_keep hb1 hb
  rw [hsz0] at h9
  exact h9)
 obtain ⟨ss, oo, o, t, f, c'⟩ := l
 simp only at hW0 hW1 HLB1 HSP CSK
 obtain ⟨l0, l1, l2, l3, l4, l5⟩ := HLB1.out W1 (Below.refl _ _)
 obtain ⟨d0, d1, -⟩ := HBX.out W1 (Below.refl _ _)
 clear hb0 hb1 hsz0 HLB hbx hl hlo hhi h h2 h3 hfm hmin hbs hM hMe hMl hMp hK hK12 hKE hU
 go_enter Tryz.func12, Tryz.ntmps12
 go_upto_region 1 with (fail)
 rw [← hW0]
 rw [← hW1]
 clear hW0 hW1
 go_wp2_with fail
 refine (CO.out _ HB1.out).mono ?_
 rintro e w2 ⟨rfl, hb⟩
 have HC2 := Lib.hid hb
 have HB2 := Lib.hid (below_keep HB1.out hb)
 clear hb CO d0 d1 l0 l1 l2 l3 l4 l5
 obtain ⟨d0, d1, -⟩ := HBX.out w2 HC2.out
 go_wp2_with fail
 refine (CF.out _ HB2.out).mono ?_
 rintro e w3 ⟨rfl, hb⟩
 have HC3 := Lib.hid (below_keep HC2.out hb)
 have HB3 := Lib.hid (below_keep HB2.out hb)
 clear hb CF d0 d1
 obtain ⟨d0, d1, -⟩ := HBX.out w3 HC3.out
 go_wp2_with fail
 refine (CE.out _ HB3.out).mono ?_
 rintro e w4 ⟨um, rfl, hu, hb⟩
 have HC4 := Lib.hid (below_keep HC3.out hb)
 have HB4 := Lib.hid (below_keep HB3.out hb)
 have HMI := Lib.hid hu
 obtain ⟨pm, km, rfl, -⟩ := hu.shape
 clear hb hu CE d0 d1
 go_wp2_with fail
 refine (CRM.out (.slice pm M.length km) w4 HMI.out).mono ?_
 rintro e w5 ⟨ur, rfl, hr, hb⟩
 have HC5 := Lib.hid (below_keep HC4.out hb)
 have HB5 := Lib.hid (below_keep HB4.out hb)
 have HRI := Lib.hid hr
 have HMI5 := Lib.hid (HMI.out.later IntR.lasts hb)
 obtain ⟨pr, kr, rfl, -⟩ := hr.shape
 clear hb hr CRM HMI
 go_wp2_with fail
 refine (CBI.out _ w5 HMI5.out).mono ?_
 rintro e w6 ⟨rfl, hb⟩
 have HC6 := Lib.hid (below_keep HC5.out hb)
 have HB6 := Lib.hid (below_keep HB5.out hb)
 have HRW := Lib.hid (HRI.out.later RowR.lasts hb)
 clear hb CBI HMI5 HRI
 obtain ⟨KP, hKP⟩ : ∃ KP : List Int → KyT, KP = keyP ⟨ss, oo, o, t, f, c'⟩ K lo := ⟨_, rfl⟩
 rw [← hKP] at HSP
 have HKP : Hid (∀ y, KP y = (rkeyF o t K y, addL y lo)) := fun y => by rw [hKP]; rfl
 obtain ⟨n, hn⟩ : ∃ n, n = lo.length := ⟨_, rfl⟩
 have HN : Hid (n = lo.length ∧ 1 ≤ n ∧ n ≤ 4) := by
  have h1 := HFM.out.1.2
  have h2 := HFM.out.2
  show _ ∧ _ ∧ _; omega
 obtain ⟨j0, hj0, hy0, hy1, hy2⟩ := info_parts infoKy
 obtain ⟨i0, hi0, hz0, hz1, hz2⟩ := info_parts infoIs
 have ub : (U.length : Int) ≤ 4096 := by have := HUL.out; omega
 clear hKP hn
 go_wp2
 go_loopw [10, 11] (fun sv iv wr => ∃ (i : Nat) (s : Value), s = sv ∧ i ≤ U.length ∧ iv = .int .i64 (i : Nat) ∧ KyW w6.heap.size wr s ((U.take i).map KP) ∧ Below w6.heap.size w6 wr) (fun _ iv _ => U.length - (intOf iv).toNat)
 case atStart => exact ⟨0, _, rfl, Nat.zero_le _, rfl, KyW.nil _ _, Below.refl _ _⟩
 case round =>
  obtain ⟨i, s, rfl, hi, rfl, hkw, hb⟩ := hrel
  obtain ⟨Wo, hWo⟩ : ∃ Wo, Wo = wr := ⟨_, rfl⟩
  rw [← hWo] at hkw hb ⊢
  clear hWo
  have HBR := Lib.hid hb
  have HKW := Lib.hid hkw
  by_cases hlt : i < U.length
  ·obtain ⟨gr, or', y, ea, hy, hry⟩ := HRW.out.at i hlt
   subst ea
   obtain ⟨vy, z0, hyi⟩ := hry.ex
   rw [Nat.mul_one] at z0
   have hof := HOF.out y (List.mem_of_getElem? hy)
   have z1 := cell_later z0 hb
   have hyr := hyi.later IntR.lasts hb
   obtain ⟨g, cap, wa, hrun, hg, hrow, hba, hc1, hc2⟩ := row_copy Wo vy y hyr (by rw [hof.len, ← HN.out.1]; exact HN.out.2.1) (by rw [hof.len, ← HN.out.1]; exact HN.out.2.2)
   have hyn : y.length = n := by rw [hof.len]; exact HN.out.1.symm
   have HYN := Lib.hid (And.intro hyn hof.len)
   rw [hyn] at hrun
   have HRUN := Lib.hid hrun
   have HROW := Lib.hid hrow
   have HBA := Lib.hid hba
   have HG := Lib.hid hg
   have HCP := Lib.hid (And.intro hc1 hc2)
   obtain ⟨la, hla⟩ : ∃ la, la = (U.take i).map KP := ⟨_, rfl⟩
   rw [← hla] at HKW
   have HTK : Hid ((U.take (i + 1)).map KP = la ++ [KP y]) := by show _ = _; rw [take_snoc' hy, List.map_append, hla]; rfl
   have HYI := Lib.hid hyi
   have CKY := Lib.hid (fun w9 (h9 : Below w6.heap.size w6 w9) => CSK.out y vy w9 (below_keep HB6.out h9) (HYI.out.later IntR.lasts h9) hof)
   have KZ : Hid (∀ w9, Below w6.heap.size w6 w9 → w9.cell? ⟨gr, or' + i, none⟩ = some vy) := fun w9 h => cell_later z0 h
   have HOFY := Lib.hid hof
   obtain ⟨py, ky, rfl, -⟩ := hyi.shape
   rw [hyn] at HRUN CKY KZ z1
   have hgr : gr < Wo.heap.size := World.block_lt_of_cell? _ _ z1
   have hgr2 : gr ≠ Wo.heap.size := Nat.ne_of_lt hgr
   have HI1 : Hid (i + 1 ≤ U.length ∧ U.length - (i + 1) < U.length - i) := by show _ ∧ _; omega
   have ib0 : (0 : Int) ≤ (i : Int) := by omega
   have ib1 : (i : Int) < (U.length : Int) := by omega
   have hkl : la.length ≤ 4096 := by rw [hla, List.length_map, List.length_take]; have := HUL.out; omega
   have HKL := Lib.hid hkl
   clear hy hry z0 hyi hof hyr hrun hrow hba hg hc1 hc2 hkw hb hlt hi hyn hkl hla
   go_wp2_with (at_builtin; refine Lib.wpList_append_run _ rfl _ _ _ _ rfl _ _ rfl rfl _ _ HRUN.out ?_)
   go_wp2
   clear z1 hgr hgr2
   go_loopw [13] (fun jv wz => ∃ (j : Nat), j ≤ n ∧ jv = .int .i64 (j : Nat) ∧ RowZ wz g (addI y lo j) ∧ Below Wo.heap.size Wo wz) (fun jv _ => n - (intOf jv).toNat)
   case atStart => exact ⟨0, Nat.zero_le _, rfl, (by rw [addI_zero]; exact HROW.out), HBA.out⟩
   case round =>
    obtain ⟨j, hj, rfl, hrz, hbz⟩ := hrel
    have HBZ := Lib.hid hbz
    have HRZ := Lib.hid hrz
    have HC9 : Hid (Below W1.heap.size W1 wr) := below_keep (below_keep HC6.out HBR.out) hbz
    obtain ⟨d0, d1, -⟩ := HBX.out wr HC9.out
    by_cases hjl : j < n
    ·obtain ⟨a, ha⟩ : ∃ a, y[j]? = some a := ⟨_, List.getElem?_eq_getElem (by rw [HYN.out.1]; exact hjl)⟩
     obtain ⟨gl, ol, lv, el, hlv, hrl⟩ := HLO.out.at j (by rw [← HN.out.1]; exact hjl)
     subst el
     rw [Nat.mul_one] at hrl
     have hrl : w.cell? ⟨gl, ol + j, none⟩ = some (.int .i64 lv) := hrl
     have hrl := cell_later hrl (below_keep (below_keep HB6.out HBR.out) hbz)
     have hca := hrz.cell j a (addI_at HYN.out.2 ha)
     have hfa := hrz.free j
     have hab := HOFY.out.each a (List.mem_of_getElem? ha)
     have hlb := HMN.out lv (List.mem_of_getElem? hlv)
     have ws : IntKind.i64.wrap (a + lv) = a + lv := IntWalk.i64_in _ (by omega)
     have HST : Hid (RowZ (wr.setCell ⟨g, j, none⟩ (.int .i64 (a + lv))).drew g (addI y lo (j + 1))) := by
      have h9 := hrz.set j (a + lv) (by rw [addI_length HYN.out.2, ← HN.out.1]; exact hjl) rfl
      rw [addI_step ha hlv] at h9
      exact h9.kept rfl
     have HBT : Hid (Below Wo.heap.size Wo (wr.setCell ⟨g, j, none⟩ (.int .i64 (a + lv))).drew) := (hbz.setCell (p := ⟨g, j, none⟩) HG.out _).drew
     have HJ1 : Hid (j + 1 ≤ n ∧ n - (j + 1) < n - j) := by show _ ∧ _; omega
     have jb0 : (0 : Int) ≤ (j : Int) := by omega
     have jb1 : (j : Int) < (n : Int) := by omega
     have jb2 : (j : Int) < (lo.length : Int) := by have := HN.out.1; omega
     have nb4 : (n : Int) ≤ 4 := by have := HN.out.2.2; omega
     clear ha hlv hab hlb hrz hbz hjl hj
     go_wp2_with fail
     go_region
     clear ws
     go_wp2
     exact ⟨⟨j + 1, HJ1.out.1, by go_num, HST.out, HBT.out⟩, HJ1.out.2⟩
    ·have hjn : j = n := by omega
     have hji : ¬ (j : Int) < (n : Int) := by omega
     rw [hjn, HN.out.1, addI_end HYN.out.2] at hrz
     have HAT : Hid (IntsO wr (.slice (some ⟨g, 0, none⟩) n cap) (addL y lo)) := hrz.ints (by rw [addL_length HYN.out.2]; exact HN.out.1.symm) (by rw [← HYN.out.1]; exact HCP.out.1) HCP.out.2
     obtain ⟨l0, l1, l2, l3, l4, l5⟩ := HLB1.out wr HC9.out
     have HB9 : Hid (Below w6.heap.size w6 wr) := below_keep HBR.out hbz
     have z1 := KZ.out wr HB9.out
     have hkl := HKL.out
     have hw6 : w6.heap.size ≤ wr.heap.size := HB9.out.size
     clear hjn hrz hbz hjl hj d0 d1
     go_wp2_with fail
     go_region_law ((first
      | (refine step_append_lies _ (by rfl) _ _ 88 (by rfl) w6.heap.size 91 j0 (.agg #[.slice none 0 0, .slice none 0 0]) 2 48 Tryz.underlying88 hj0 hy0 hy1 hy2 rfl (by decide) s la.length (us.flatMap fun u => [u.1, u.2]) (by rfl) (hus.alloc _) ⟨wq.heap.size, 0, none⟩ 1 1 [.slice ua un uc, .slice (some ⟨g, 0, none⟩) n cap] (by rfl) (by rfl) (two_at _ _ _ _) (by simp [Value.oneCell']) (by omega) (by unfold maxLen; omega) (by omega) (by simp; omega) (wq.heap.size + 1) (by simp) ?_; intro g2 cp2 w8 hown hgrow hat hlt9; have hbd := below_alloc wq (.cells #[.slice ua un uc, .slice (some ⟨g, 0, none⟩) n cap] 91); have HF3 := Lib.hid (And.intro (KyW.snoc (c := (rkeyF o t K y, addL y lo)) HUL.out (hus.alloc _) (fun i c u hc hu => ⟨(HUX.out i c u hc hu).1.later hbd, (HUX.out i c u hc hu).2.later hbd⟩) hown hgrow (HUQ.out.later hbd) ((HAT.out.later HBQ.out).later hbd)) (((HB9.out.trans (HBQ.out.mono hw6)).trans (hbd.mono (Nat.le_trans hw6 HBQ.out.size))).grown hgrow (Nat.le_trans (Nat.le_trans hw6 HBQ.out.size) hbd.size) (fun k e => (hus.lt k e).1))); clear hown hgrow hat hlt9 hbd)
      | (refine step_wp rfl ?_; unfold Oper.wp; go_simp; go_at_call 44; refine (CKY.out _ (below_keep HB9.out (Below.refl _ _).drew)).mono ?_; rintro e wq ⟨u, rfl, hu, hb5⟩; have HBQ : Hid (Below wr.heap.size wr wq) := below_keep (Below.refl _ _).drew hb5; have HUQ := Lib.hid hu; obtain ⟨ua, uc, e9, -⟩ := hu.ints.shape; obtain ⟨un, hun⟩ : ∃ un, un = (rkeyF o t K y).length := ⟨_, rfl⟩; rw [← hun] at e9; subst e9; obtain ⟨us, hul, hus, hux⟩ := (HKW.out.later (below_keep HBZ.out HBQ.out)).ex; have HUL := Lib.hid hul; have HUX := Lib.hid hux; have hsq : wr.heap.size ≤ wq.heap.size := HBQ.out.size; clear hu hb5 hun hul hux)))
     all_goals
      have hke := HF3.out.1
      rw [← HKP.out y, ← HTK.out] at hke
      have HKE := Lib.hid hke
      clear hke hkl hw6 hus hsq z1
      go_wp2
      exact ⟨⟨i + 1, _, rfl, HI1.out.1, by go_num, HKE.out, HF3.out.2⟩, HI1.out.2⟩
  ·have hin : i = U.length := by omega
   have hni : ¬ (i : Int) < (U.length : Int) := by omega
   rw [hin, List.take_length] at hkw
   obtain ⟨ps, ks, rfl, -⟩ := hkw.list.shape
   have CS := Lib.hid (sorted_any (U.map KP) _ Wo hkw.list (by rw [List.length_map]; have := HUL.out; omega))
   rw [List.length_map] at CS
   simp only [List.length_map] at hkw ⊢
   have HBW := Lib.hid (below_keep HB6.out hb)
   clear hin hkw hb hlt hi
   go_wp2_with fail
   refine CS.out.mono ?_
   rintro e w8 ⟨v8, L, rfl, ⟨hp, hs⟩, hk, hb⟩
   have hLl : L.length ≤ 4096 := by rw [hp.length_eq, List.length_map]; exact HUL.out
   have HLL := Lib.hid hLl
   have HFIN := Lib.hid (HSP.out L hp hs)
   have HK8 := Lib.hid hk
   have HB8 := Lib.hid (below_keep HBW.out hb)
   obtain ⟨q8, j8, rfl, -⟩ := hk.shape
   have lb : (L.length : Int) ≤ 4096 := by omega
   clear hp hs hk hb hLl CS
   go_wp2
   go_loopw [14, 15] (fun ov iv wr => ∃ (i : Nat), i ≤ L.length ∧ iv = .int .i64 (i : Nat) ∧ RowsF w8.heap.size w8 wr ov ((L.take i).map Prod.snd) ∧ Below w8.heap.size w8 wr) (fun _ iv _ => L.length - (intOf iv).toNat)
   case atStart => exact ⟨0, Nat.zero_le _, rfl, ⟨[], World.ownsRow_nil _ _ _ _, fun i x u h => by simp at h⟩, Below.refl _ _⟩
   case round =>
    obtain ⟨i, hi, rfl, hrf, hb⟩ := hrel
    have HRF := Lib.hid hrf
    have HBR9 := Lib.hid hb
    by_cases hlt : i < L.length
    ·obtain ⟨gs, os, c, ea, hc, hr⟩ := HK8.out.at i hlt
     subst ea
     obtain ⟨u1, u2, x0, x1, hi1, hi2⟩ := hr.ex
     have x1 := cell_later x1 hb
     have HI2 := Lib.hid hi2
     obtain ⟨pa, ka, rfl, -⟩ := hi2.shape
     obtain ⟨lc, hlc⟩ : ∃ lc, lc = (L.take i).map Prod.snd := ⟨_, rfl⟩
     rw [← hlc] at hrf
     obtain ⟨vs9, hvs, hx9⟩ := hrf.ex
     have hvl : vs9.length = lc.length := by have := hvs.1; rw [Nat.mul_one] at this; exact this
     have HVL := Lib.hid hvl
     have HX9 := Lib.hid hx9
     have HVS := Lib.hid hvs
     have HTK : Hid ((L.take (i + 1)).map Prod.snd = lc ++ [c.2]) := by show _ = _; rw [take_snoc' hc, List.map_append, hlc]; rfl
     have hll : lc.length ≤ 4096 := by rw [hlc, List.length_map, List.length_take]; have := HLL.out; omega
     have hge : w8.heap.size ≤ wr.heap.size := hb.size
     have HI1 : Hid (i + 1 ≤ L.length ∧ L.length - (i + 1) < L.length - i) := by show _ ∧ _; omega
     have ib0 : (0 : Int) ≤ (i : Int) := by omega
     have ib1 : (i : Int) < (L.length : Int) := by omega
     clear hc hr x0 hi1 hi2 hrf hx9 hvl hb hlt hi hlc
     go_wp2_with (at_builtin; refine wpList_append_lies _ (by rfl) _ _ 27 (by rfl) w8.heap.size 24 i0 (.slice none 0 0) 1 24 Tryz.underlying27 hi0 hz0 hz1 hz2 rfl (by decide) _ lc.length vs9 (by rfl) (hvs.alloc _) ⟨wr.heap.size, 0, none⟩ 1 1 [.slice pa c.2.length ka] (by rfl) (by rfl) (cell_one_new _ _ _) (by simp [Value.oneCell']) (by omega) (by unfold maxLen; omega) (by omega) (by simp; omega) (wr.heap.size + 1) (by simp) ?_)
     intro g7 cp7 w9 hown hgrow hat hlt9
     have hbd := below_alloc wr (.cells #[.slice pa c.2.length ka] 24)
     have HF9 := Lib.hid (RowsF.snoc HVL.out HX9.out hown HI2.out)
     rw [← HTK.out] at HF9
     have HB9 := Lib.hid (HBR9.out.trans ((hbd.mono hge).grown hgrow (Nat.le_trans hge hbd.size) (fun k e => (HVS.out.lt k e).1)))
     clear hown hgrow hat hlt9 hbd hvs hge hll x1
     go_wp2
     exact ⟨⟨i + 1, HI1.out.1, by go_num, HF9.out, HB9.out⟩, HI1.out.2⟩
    ·have hin : i = L.length := by omega
     have hni9 : ¬ (i : Int) < (L.length : Int) := by omega
     rw [hin, List.take_length] at hrf
     have HRR := Lib.hid (hrf.rows hb)
     have HBE := Lib.hid (below_keep HB8.out hb)
     clear hin hrf hb hlt hi
     go_wp2
     go_ret2
     exact ⟨_, _, rfl, HFIN.out, HRR.out, HBE.out⟩
end Go.Proofs.YtkliekoheeeamaaGreatDoor
/- The reference's Rank. (printed by rta.py) -/
namespace Go.Proofs.YtkliekoheeeamaaGreatDoor
open Go.RowKit
attribute [local go_sem] Oper.semAt_some

theorem has_in {lo hi c : List Int} (hf : formedB lo hi = true) (hE : limE lo hi = 0) (hl : c.length = lo.length) (h : hasB lo hi c = true) : InBox lo hi c := by
 refine ⟨hl, fun i a b y ha hb hy => ?_⟩
 unfold hasB at h
 rw [hf, decide_eq_true hl, Bool.true_and, Bool.true_and] at h
 obtain ⟨hA, -⟩ := limE_zero hE
 have hg := limA_get hA ha hb
 have hd : ∀ j, hasL (lo.drop j) (hi.drop j) (c.drop j) = true := by
  intro j
  induction j with
  | zero => exact h
  | succ j ih =>
   by_cases hj : j < lo.length
   ·have hfm := hf
    unfold formedB at hfm
    simp only [Bool.and_eq_true, decide_eq_true_eq] at hfm
    obtain ⟨a', ha'⟩ : ∃ a', lo[j]? = some a' := ⟨_, List.getElem?_eq_getElem hj⟩
    obtain ⟨b', hb'⟩ : ∃ b', hi[j]? = some b' := ⟨_, List.getElem?_eq_getElem (by omega)⟩
    obtain ⟨y', hy'⟩ : ∃ y', c[j]? = some y' := ⟨_, List.getElem?_eq_getElem (by omega)⟩
    rw [hasL_drop ha' hb' hy'] at ih
    split at ih
    ·cases ih
    ·exact ih
   ·rw [List.drop_eq_nil_of_le (show lo.length ≤ j + 1 by omega)]
    simp [hasL]
 have h1 := hd i
 rw [hasL_drop ha hb hy] at h1
 split at h1
 ·cases h1
 ·rename_i h2
  have h3 : ¬ y < a := fun h => h2 (.inl h)
  have h4 : upB y b = true := by
   cases h5 : upB y b with
   | true => rfl
   | false => exact absurd (.inr h5) h2
  unfold upB at h4
  simp at h4
  omega
set_option maxHeartbeats 16000000 in
set_option maxRecDepth 100000 in
theorem rrank_bad (vs vo vlo vhi va : Value) (l : LayT) (lo hi c : List Int) (w : World) (hl : LayR w vs vo l) (hlo : Ints w vlo lo) (hhi : Ints w vhi hi) (hca : Ints w va c) (h : orderedB l.order l.tile = false) :
  Calls Tryz.prog 14 #[layV vs vo l, .agg #[vlo, vhi], va] w (RetV' (.tuple #[.int .i64 0, .int .i64 2]) w) := by
 have CO := Lib.hid (fun w1 (hb : Below w.heap.size w w1) => rordered_any vs vo l w1 (hl.later hb))
 have CF := Lib.hid (fun w1 (hb : Below w.heap.size w w1) => rformed_any vlo vhi lo hi w1 (hlo.later IntR.lasts hb) (hhi.later IntR.lasts hb))
 rw [h] at CO
 have HL := Lib.hid hl
 have HLO := Lib.hid hlo
 have HCA := Lib.hid hca
 obtain ⟨p5, k5, rfl, -⟩ := hca.shape
 obtain ⟨p1, k1, rfl, -⟩ := hl.sides.shape
 obtain ⟨p2, k2, rfl, -⟩ := hl.over.shape
 obtain ⟨p3, k3, rfl, -⟩ := hlo.shape
 obtain ⟨p4, k4, rfl, -⟩ := hhi.shape
 obtain ⟨W0, hW0⟩ : ∃ W0, W0 = w.alloc (.cells #[.slice p1 l.sides.length k1, .slice p2 l.over.length k2, .int .i64 l.order, .int .i64 l.tile, .int .i64 l.form, .int .i64 l.codec] 32) := ⟨_, rfl⟩
 have hsz0 : W0.heap.size = w.heap.size + 1 := by rw [hW0]; simp
 have HLB := Lib.hid (fun w' hb => LayB.made w (.slice p1 l.sides.length k1) (.slice p2 l.over.length k2) l 32 w' hb)
 have hb0 : Below w.heap.size w W0 := by rw [hW0]; exact below_alloc _ _
 rw [← hW0] at HLB
 obtain ⟨W1, hW1, hb1, hbx⟩ := box_at W0 (.slice p3 lo.length k3) (.slice p4 hi.length k4)
 rw [hsz0] at hbx
 have HB1 := Lib.hid (below_keep hb0 hb1)
 have HBX := Lib.hid hbx
 have HLB1 : Hid (∀ w', Below W1.heap.size W1 w' → LayB w' w.heap.size (.slice p1 l.sides.length k1) (.slice p2 l.over.length k2) l) := fun w' hb => HLB.out w' (by
  have h9 := below_keep hb1 hb
  rw [hsz0] at h9
  exact h9)
 obtain ⟨ss, oo, o, t, f, c'⟩ := l
 simp only at hW0 hW1 HLB1
 obtain ⟨l0, l1, l2, l3, l4, l5⟩ := HLB1.out W1 (Below.refl _ _)
 obtain ⟨d0, d1, -⟩ := HBX.out W1 (Below.refl _ _)
 clear hb0 hb1 hsz0 HLB hbx hl hlo hhi hca h CF
 go_enter Tryz.func14, Tryz.ntmps14
 go_upto_region 1 with (fail)
 rw [← hW0]
 rw [← hW1]
 clear hW0 hW1
 go_wp2_with fail
 refine (CO.out _ HB1.out).mono ?_
 rintro e w2 ⟨rfl, hb⟩
 have HC2 := Lib.hid hb
 have HB2 := Lib.hid (below_keep HB1.out hb)
 clear hb CO d0 d1 l0 l1 l2 l3 l4 l5
 obtain ⟨d0, d1, -⟩ := HBX.out w2 HC2.out
 go_wp2
 go_ret2
 exact ⟨rfl, HB2.out⟩
set_option maxHeartbeats 16000000 in
set_option maxRecDepth 100000 in
theorem rrank_form (vs vo vlo vhi va : Value) (l : LayT) (lo hi c : List Int) (w : World) (hl : LayR w vs vo l) (hlo : Ints w vlo lo) (hhi : Ints w vhi hi) (hca : Ints w va c) (h : orderedB l.order l.tile = true) (h2 : formedB lo hi = false) :
  Calls Tryz.prog 14 #[layV vs vo l, .agg #[vlo, vhi], va] w (RetV' (.tuple #[.int .i64 0, .int .i64 13]) w) := by
 have CO := Lib.hid (fun w1 (hb : Below w.heap.size w w1) => rordered_any vs vo l w1 (hl.later hb))
 have CF := Lib.hid (fun w1 (hb : Below w.heap.size w w1) => rformed_any vlo vhi lo hi w1 (hlo.later IntR.lasts hb) (hhi.later IntR.lasts hb))
 rw [h] at CO
 rw [h2] at CF
 have HL := Lib.hid hl
 have HLO := Lib.hid hlo
 have HCA := Lib.hid hca
 obtain ⟨p5, k5, rfl, -⟩ := hca.shape
 obtain ⟨p1, k1, rfl, -⟩ := hl.sides.shape
 obtain ⟨p2, k2, rfl, -⟩ := hl.over.shape
 obtain ⟨p3, k3, rfl, -⟩ := hlo.shape
 obtain ⟨p4, k4, rfl, -⟩ := hhi.shape
 obtain ⟨W0, hW0⟩ : ∃ W0, W0 = w.alloc (.cells #[.slice p1 l.sides.length k1, .slice p2 l.over.length k2, .int .i64 l.order, .int .i64 l.tile, .int .i64 l.form, .int .i64 l.codec] 32) := ⟨_, rfl⟩
 have hsz0 : W0.heap.size = w.heap.size + 1 := by rw [hW0]; simp
 have HLB := Lib.hid (fun w' hb => LayB.made w (.slice p1 l.sides.length k1) (.slice p2 l.over.length k2) l 32 w' hb)
 have hb0 : Below w.heap.size w W0 := by rw [hW0]; exact below_alloc _ _
 rw [← hW0] at HLB
 obtain ⟨W1, hW1, hb1, hbx⟩ := box_at W0 (.slice p3 lo.length k3) (.slice p4 hi.length k4)
 rw [hsz0] at hbx
 have HB1 := Lib.hid (below_keep hb0 hb1)
 have HBX := Lib.hid hbx
 have HLB1 : Hid (∀ w', Below W1.heap.size W1 w' → LayB w' w.heap.size (.slice p1 l.sides.length k1) (.slice p2 l.over.length k2) l) := fun w' hb => HLB.out w' (by
  have h9 := below_keep hb1 hb
  rw [hsz0] at h9
  exact h9)
 obtain ⟨ss, oo, o, t, f, c'⟩ := l
 simp only at hW0 hW1 HLB1
 obtain ⟨l0, l1, l2, l3, l4, l5⟩ := HLB1.out W1 (Below.refl _ _)
 obtain ⟨d0, d1, -⟩ := HBX.out W1 (Below.refl _ _)
 clear hb0 hb1 hsz0 HLB hbx hl hlo hhi hca h h2
 go_enter Tryz.func14, Tryz.ntmps14
 go_upto_region 1 with (fail)
 rw [← hW0]
 rw [← hW1]
 clear hW0 hW1
 go_wp2_with fail
 refine (CO.out _ HB1.out).mono ?_
 rintro e w2 ⟨rfl, hb⟩
 have HC2 := Lib.hid hb
 have HB2 := Lib.hid (below_keep HB1.out hb)
 clear hb CO d0 d1 l0 l1 l2 l3 l4 l5
 obtain ⟨d0, d1, -⟩ := HBX.out w2 HC2.out
 go_wp2_with fail
 refine (CF.out _ HB2.out).mono ?_
 rintro e w3 ⟨rfl, hb⟩
 have HC3 := Lib.hid (below_keep HC2.out hb)
 have HB3 := Lib.hid (below_keep HB2.out hb)
 clear hb CF d0 d1
 obtain ⟨d0, d1, -⟩ := HBX.out w3 HC3.out
 go_wp2
 go_ret2
 exact ⟨rfl, HB3.out⟩
set_option maxHeartbeats 16000000 in
set_option maxRecDepth 100000 in
theorem rrank_len (vs vo vlo vhi va : Value) (l : LayT) (lo hi c : List Int) (w : World) (hl : LayR w vs vo l) (hlo : Ints w vlo lo) (hhi : Ints w vhi hi) (hca : Ints w va c) (h : orderedB l.order l.tile = true) (h2 : formedB lo hi = true) (hn : c.length ≠ lo.length) :
  Calls Tryz.prog 14 #[layV vs vo l, .agg #[vlo, vhi], va] w (RetV' (.tuple #[.int .i64 0, .int .i64 13]) w) := by
 have CO := Lib.hid (fun w1 (hb : Below w.heap.size w w1) => rordered_any vs vo l w1 (hl.later hb))
 have CF := Lib.hid (fun w1 (hb : Below w.heap.size w w1) => rformed_any vlo vhi lo hi w1 (hlo.later IntR.lasts hb) (hhi.later IntR.lasts hb))
 rw [h] at CO
 rw [h2] at CF
 have hnn : (((c.length : Nat) : Int) != ((lo.length : Nat) : Int)) = true := by rw [bne_iff_ne]; omega
 have HL := Lib.hid hl
 have HLO := Lib.hid hlo
 have HCA := Lib.hid hca
 obtain ⟨p5, k5, rfl, -⟩ := hca.shape
 obtain ⟨p1, k1, rfl, -⟩ := hl.sides.shape
 obtain ⟨p2, k2, rfl, -⟩ := hl.over.shape
 obtain ⟨p3, k3, rfl, -⟩ := hlo.shape
 obtain ⟨p4, k4, rfl, -⟩ := hhi.shape
 obtain ⟨W0, hW0⟩ : ∃ W0, W0 = w.alloc (.cells #[.slice p1 l.sides.length k1, .slice p2 l.over.length k2, .int .i64 l.order, .int .i64 l.tile, .int .i64 l.form, .int .i64 l.codec] 32) := ⟨_, rfl⟩
 have hsz0 : W0.heap.size = w.heap.size + 1 := by rw [hW0]; simp
 have HLB := Lib.hid (fun w' hb => LayB.made w (.slice p1 l.sides.length k1) (.slice p2 l.over.length k2) l 32 w' hb)
 have hb0 : Below w.heap.size w W0 := by rw [hW0]; exact below_alloc _ _
 rw [← hW0] at HLB
 obtain ⟨W1, hW1, hb1, hbx⟩ := box_at W0 (.slice p3 lo.length k3) (.slice p4 hi.length k4)
 rw [hsz0] at hbx
 have HB1 := Lib.hid (below_keep hb0 hb1)
 have HBX := Lib.hid hbx
 have HLB1 : Hid (∀ w', Below W1.heap.size W1 w' → LayB w' w.heap.size (.slice p1 l.sides.length k1) (.slice p2 l.over.length k2) l) := fun w' hb => HLB.out w' (by
  have h9 := below_keep hb1 hb
  rw [hsz0] at h9
  exact h9)
 obtain ⟨ss, oo, o, t, f, c'⟩ := l
 simp only at hW0 hW1 HLB1
 obtain ⟨l0, l1, l2, l3, l4, l5⟩ := HLB1.out W1 (Below.refl _ _)
 obtain ⟨d0, d1, -⟩ := HBX.out W1 (Below.refl _ _)
 clear hb0 hb1 hsz0 HLB hbx hl hlo hhi hca h h2 hn
 go_enter Tryz.func14, Tryz.ntmps14
 go_upto_region 1 with (fail)
 rw [← hW0]
 rw [← hW1]
 clear hW0 hW1
 go_wp2_with fail
 refine (CO.out _ HB1.out).mono ?_
 rintro e w2 ⟨rfl, hb⟩
 have HC2 := Lib.hid hb
 have HB2 := Lib.hid (below_keep HB1.out hb)
 clear hb CO d0 d1 l0 l1 l2 l3 l4 l5
 obtain ⟨d0, d1, -⟩ := HBX.out w2 HC2.out
 go_wp2_with fail
 refine (CF.out _ HB2.out).mono ?_
 rintro e w3 ⟨rfl, hb⟩
 have HC3 := Lib.hid (below_keep HC2.out hb)
 have HB3 := Lib.hid (below_keep HB2.out hb)
 clear hb CF d0 d1
 obtain ⟨d0, d1, -⟩ := HBX.out w3 HC3.out
 go_wp2
 go_ret2
 exact ⟨rfl, HB3.out⟩
set_option maxHeartbeats 16000000 in
set_option maxRecDepth 100000 in
theorem rrank_lim (vs vo vlo vhi va : Value) (l : LayT) (lo hi c : List Int) (w : World) (hl : LayR w vs vo l) (hlo : Ints w vlo lo) (hhi : Ints w vhi hi) (hca : Ints w va c) (hmin : ∀ x ∈ lo, -9223372036854775808 ≤ x) (h : orderedB l.order l.tile = true) (h2 : formedB lo hi = true) (hn : c.length = lo.length) (h3 : limE lo hi ≠ 0) :
  Calls Tryz.prog 14 #[layV vs vo l, .agg #[vlo, vhi], va] w (RetV' (.tuple #[.int .i64 0, .int .i64 (limE lo hi)]) w) := by
 have CO := Lib.hid (fun w1 (hb : Below w.heap.size w w1) => rordered_any vs vo l w1 (hl.later hb))
 have CF := Lib.hid (fun w1 (hb : Below w.heap.size w w1) => rformed_any vlo vhi lo hi w1 (hlo.later IntR.lasts hb) (hhi.later IntR.lasts hb))
 rw [h] at CO
 rw [h2] at CF
 have hnn : (((lo.length : Nat) : Int) != ((lo.length : Nat) : Int)) = false := by simp
 have CS := Lib.hid (fun w1 (hb : Below w.heap.size w w1) => rseq_lim vs vo vlo vhi l lo hi w1 (hl.later hb) (hlo.later IntR.lasts hb) (hhi.later IntR.lasts hb) hmin h h2 h3)
 obtain ⟨E, hE⟩ : ∃ E, E = limE lo hi := ⟨_, rfl⟩
 rw [← hE] at CS h3 ⊢
 have tE : (E != 0) = true := by rw [bne_iff_ne]; exact h3
 have HL := Lib.hid hl
 have HLO := Lib.hid hlo
 have HCA := Lib.hid hca
 obtain ⟨p5, k5, rfl, -⟩ := hca.shape
 rw [hn] at HCA ⊢
 obtain ⟨p1, k1, rfl, -⟩ := hl.sides.shape
 obtain ⟨p2, k2, rfl, -⟩ := hl.over.shape
 obtain ⟨p3, k3, rfl, -⟩ := hlo.shape
 obtain ⟨p4, k4, rfl, -⟩ := hhi.shape
 obtain ⟨W0, hW0⟩ : ∃ W0, W0 = w.alloc (.cells #[.slice p1 l.sides.length k1, .slice p2 l.over.length k2, .int .i64 l.order, .int .i64 l.tile, .int .i64 l.form, .int .i64 l.codec] 32) := ⟨_, rfl⟩
 have hsz0 : W0.heap.size = w.heap.size + 1 := by rw [hW0]; simp
 have HLB := Lib.hid (fun w' hb => LayB.made w (.slice p1 l.sides.length k1) (.slice p2 l.over.length k2) l 32 w' hb)
 have hb0 : Below w.heap.size w W0 := by rw [hW0]; exact below_alloc _ _
 rw [← hW0] at HLB
 obtain ⟨W1, hW1, hb1, hbx⟩ := box_at W0 (.slice p3 lo.length k3) (.slice p4 hi.length k4)
 rw [hsz0] at hbx
 have HB1 := Lib.hid (below_keep hb0 hb1)
 have HBX := Lib.hid hbx
 have HLB1 : Hid (∀ w', Below W1.heap.size W1 w' → LayB w' w.heap.size (.slice p1 l.sides.length k1) (.slice p2 l.over.length k2) l) := fun w' hb => HLB.out w' (by
  have h9 := below_keep hb1 hb
  rw [hsz0] at h9
  exact h9)
 obtain ⟨ss, oo, o, t, f, c'⟩ := l
 simp only at hW0 hW1 HLB1 CS
 obtain ⟨l0, l1, l2, l3, l4, l5⟩ := HLB1.out W1 (Below.refl _ _)
 obtain ⟨d0, d1, -⟩ := HBX.out W1 (Below.refl _ _)
 clear hb0 hb1 hsz0 HLB hbx hl hlo hhi hca h h2 hn h3 hE hmin
 go_enter Tryz.func14, Tryz.ntmps14
 go_upto_region 1 with (fail)
 rw [← hW0]
 rw [← hW1]
 clear hW0 hW1
 go_wp2_with fail
 refine (CO.out _ HB1.out).mono ?_
 rintro e w2 ⟨rfl, hb⟩
 have HC2 := Lib.hid hb
 have HB2 := Lib.hid (below_keep HB1.out hb)
 clear hb CO d0 d1 l0 l1 l2 l3 l4 l5
 obtain ⟨d0, d1, -⟩ := HBX.out w2 HC2.out
 go_wp2_with fail
 refine (CF.out _ HB2.out).mono ?_
 rintro e w3 ⟨rfl, hb⟩
 have HC3 := Lib.hid (below_keep HC2.out hb)
 have HB3 := Lib.hid (below_keep HB2.out hb)
 clear hb CF d0 d1
 obtain ⟨d0, d1, -⟩ := HBX.out w3 HC3.out
 obtain ⟨l0, l1, l2, l3, l4, l5⟩ := HLB1.out w3 HC3.out
 go_wp2_with fail
 refine (CS.out _ HB3.out).mono ?_
 rintro e w4 ⟨u, r, rfl, rfl, hr, hb⟩
 obtain ⟨q1, j1, rfl, -⟩ := hr.shape
 have HB4 := Lib.hid (below_keep HB3.out hb)
 clear hr hb CS d0 d1 l0 l1 l2 l3 l4 l5
 go_wp2
 go_ret2
 exact ⟨rfl, HB4.out⟩
set_option maxHeartbeats 16000000 in
set_option maxRecDepth 100000 in
theorem rrank_good (vs vo vlo vhi va : Value) (l : LayT) (lo hi c : List Int) (w : World) (hl : LayR w vs vo l) (hlo : Ints w vlo lo) (hhi : Ints w vhi hi) (hca : Ints w va c) (hmin : ∀ x ∈ lo, -9223372036854775808 ≤ x) (h : orderedB l.order l.tile = true) (h2 : formedB lo hi = true) (hn : c.length = lo.length) (h3 : limE lo hi = 0) :
  Calls Tryz.prog 14 #[layV vs vo l, .agg #[vlo, vhi], va] w (RetV' (.tuple #[.int .i64 (if hasB lo hi c = true then ((rankN l lo hi c : Nat) : Int) else 0), .int .i64 (if hasB lo hi c = true then 0 else 3)]) w) := by
 have CO := Lib.hid (fun w1 (hb : Below w.heap.size w w1) => rordered_any vs vo l w1 (hl.later hb))
 have CF := Lib.hid (fun w1 (hb : Below w.heap.size w w1) => rformed_any vlo vhi lo hi w1 (hlo.later IntR.lasts hb) (hhi.later IntR.lasts hb))
 rw [h] at CO
 rw [h2] at CF
 have hnn : (((lo.length : Nat) : Int) != ((lo.length : Nat) : Int)) = false := by simp
 have CS := Lib.hid (fun w1 (hb : Below w.heap.size w w1) => rseq_good vs vo vlo vhi l lo hi w1 (hl.later hb) (hlo.later IntR.lasts hb) (hhi.later IntR.lasts hb) hmin h h2 h3)
 have hbs := boxS_of h2 h3
 obtain ⟨V, hV⟩ : ∃ V : Int, V = if hasB lo hi c = true then ((rankN l lo hi c : Nat) : Int) else 0 := ⟨_, rfl⟩
 obtain ⟨E, hE⟩ : ∃ E : Int, E = if hasB lo hi c = true then 0 else 3 := ⟨_, rfl⟩
 rw [← hV, ← hE]
 have HYES : Hid (∀ (r : List (List Int)) (i : Nat), SortedBy l lo hi r → r[i]? = some c → V = (i : Nat) ∧ E = 0) := fun r i hs hi9 => by
  have hin : InBox lo hi c := (inBox_of hbs.len).1 (hs.1.mem_iff.1 (List.mem_of_getElem? hi9))
  rw [hV, hE, if_pos (hasB_in h2 hin), if_pos (hasB_in h2 hin), rankN_of hbs hs hi9]
  exact ⟨rfl, rfl⟩
 have HNO : Hid (∀ (r : List (List Int)), SortedBy l lo hi r → (∀ j : Nat, r[j]? ≠ some c) → V = 0 ∧ E = 3) := fun r hs hi9 => by
  have hno : ¬ hasB lo hi c = true := fun hh => by
   have hin := has_in h2 h3 hn hh
   have hm := hs.1.mem_iff.2 ((inBox_of hbs.len).2 hin)
   obtain ⟨j, hj⟩ := List.mem_iff_getElem?.1 hm
   exact hi9 j hj
  rw [hV, hE, if_neg hno, if_neg hno]
  exact ⟨rfl, rfl⟩
 have HL := Lib.hid hl
 have HLO := Lib.hid hlo
 have HCA := Lib.hid hca
 obtain ⟨p5, k5, rfl, -⟩ := hca.shape
 rw [hn] at HCA ⊢
 obtain ⟨p1, k1, rfl, -⟩ := hl.sides.shape
 obtain ⟨p2, k2, rfl, -⟩ := hl.over.shape
 obtain ⟨p3, k3, rfl, -⟩ := hlo.shape
 obtain ⟨p4, k4, rfl, -⟩ := hhi.shape
 obtain ⟨W0, hW0⟩ : ∃ W0, W0 = w.alloc (.cells #[.slice p1 l.sides.length k1, .slice p2 l.over.length k2, .int .i64 l.order, .int .i64 l.tile, .int .i64 l.form, .int .i64 l.codec] 32) := ⟨_, rfl⟩
 have hsz0 : W0.heap.size = w.heap.size + 1 := by rw [hW0]; simp
 have HLB := Lib.hid (fun w' hb => LayB.made w (.slice p1 l.sides.length k1) (.slice p2 l.over.length k2) l 32 w' hb)
 have hb0 : Below w.heap.size w W0 := by rw [hW0]; exact below_alloc _ _
 rw [← hW0] at HLB
 obtain ⟨W1, hW1, hb1, hbx⟩ := box_at W0 (.slice p3 lo.length k3) (.slice p4 hi.length k4)
 rw [hsz0] at hbx
 have HB1 := Lib.hid (below_keep hb0 hb1)
 have HBX := Lib.hid hbx
 have HLB1 : Hid (∀ w', Below W1.heap.size W1 w' → LayB w' w.heap.size (.slice p1 l.sides.length k1) (.slice p2 l.over.length k2) l) := fun w' hb => HLB.out w' (by
  have h9 := below_keep hb1 hb
  rw [hsz0] at h9
  exact h9)
 obtain ⟨ss, oo, o, t, f, c'⟩ := l
 simp only at hW0 hW1 HLB1 CS HYES HNO
 obtain ⟨l0, l1, l2, l3, l4, l5⟩ := HLB1.out W1 (Below.refl _ _)
 obtain ⟨d0, d1, -⟩ := HBX.out W1 (Below.refl _ _)
 clear hb0 hb1 hsz0 HLB hbx hl hlo hhi hca h h2 hn h3 hmin hbs hV hE
 go_enter Tryz.func14, Tryz.ntmps14
 go_upto_region 1 with (fail)
 rw [← hW0]
 rw [← hW1]
 clear hW0 hW1
 go_wp2_with fail
 refine (CO.out _ HB1.out).mono ?_
 rintro e w2 ⟨rfl, hb⟩
 have HC2 := Lib.hid hb
 have HB2 := Lib.hid (below_keep HB1.out hb)
 clear hb CO d0 d1 l0 l1 l2 l3 l4 l5
 obtain ⟨d0, d1, -⟩ := HBX.out w2 HC2.out
 go_wp2_with fail
 refine (CF.out _ HB2.out).mono ?_
 rintro e w3 ⟨rfl, hb⟩
 have HC3 := Lib.hid (below_keep HC2.out hb)
 have HB3 := Lib.hid (below_keep HB2.out hb)
 clear hb CF d0 d1
 obtain ⟨d0, d1, -⟩ := HBX.out w3 HC3.out
 obtain ⟨l0, l1, l2, l3, l4, l5⟩ := HLB1.out w3 HC3.out
 go_wp2_with fail
 refine (CS.out _ HB3.out).mono ?_
 rintro e w4 ⟨u, r, rfl, hs, hr, hb⟩
 obtain ⟨q1, j1, rfl, -⟩ := hr.shape
 have HB4 := Lib.hid (below_keep HB3.out hb)
 have HR := Lib.hid hr
 have HS := Lib.hid hs
 have hrl := hr.len
 clear hr hs hb CS d0 d1 l0 l1 l2 l3 l4 l5
 go_wp2
 go_loopw [10] (fun iv wr => ∃ i : Nat, i ≤ r.length ∧ iv = .int .i64 (i : Nat) ∧ Hid (∀ j : Nat, j < i → r[j]? ≠ some c) ∧ Below w4.heap.size w4 wr) (fun iv _ => r.length - (intOf iv).toNat)
 case atStart => exact ⟨0, Nat.zero_le _, rfl, (fun j hj => absurd hj (Nat.not_lt_zero _)), Below.refl _ _⟩
 case round =>
  obtain ⟨i, hi9, rfl, HJ, hb⟩ := hrel
  have HB9 := Lib.hid hb
  by_cases hlt : i < r.length
  ·obtain ⟨gr, or', x, ea, hx, hrow⟩ := HR.out.at i hlt
   subst ea
   obtain ⟨vx, z0, hxi⟩ := hrow.ex
   rw [Nat.mul_one] at z0
   have z1 := cell_later z0 hb
   have CC := Lib.hid (rcompare_any x c vx _ wr (hxi.later IntR.lasts hb) (HCA.out.later IntR.lasts (below_keep HB4.out hb)))
   obtain ⟨px, kx, rfl, -⟩ := hxi.shape
   have HX := Lib.hid hx
   have HI1 : Hid (i + 1 ≤ r.length ∧ r.length - (i + 1) < r.length - i) := by show _ ∧ _; omega
   have ib0 : (0 : Int) ≤ (i : Int) := by omega
   have ib1 : (i : Int) < (r.length : Int) := by omega
   obtain ⟨M, hM⟩ : ∃ M, M = cmpI x c := ⟨_, rfl⟩
   rw [← hM] at CC
   have HM := Lib.hid hM
   clear hx hrow z0 hxi hb hlt hi9 hM
   go_wp2_with fail
   refine CC.out.mono ?_
   rintro e w5 ⟨rfl, hb5⟩
   have HB5 := Lib.hid (below_keep HB9.out hb5)
   have HB6 := Lib.hid (below_keep HB4.out HB5.out)
   clear hb5 CC z1
   by_cases hc0 : M = 0
   ·have t0 : (M == (0 : Int)) = true := by rw [hc0]; rfl
    have hxc : x = c := cmpI_zero.1 (by rw [← HM.out]; exact hc0)
    have hfin := HX.out
    rw [hxc] at hfin
    have HF := Lib.hid (HYES.out r i HS.out hfin)
    clear hc0 hxc hfin
    go_wp2
    go_ret2
    exact ⟨by rw [HF.out.1, HF.out.2]; rfl, HB6.out⟩
   ·have t0 : (M == (0 : Int)) = false := by rw [beq_eq_false_iff_ne]; exact hc0
    have HJ2 : Hid (∀ j : Nat, j < i + 1 → r[j]? ≠ some c) := fun j hj => by
     by_cases hji : j < i
     ·exact HJ.out j hji
     ·obtain rfl : j = i := by omega
      rw [HX.out]
      intro e
      obtain rfl := Option.some.inj e
      exact hc0 (by rw [HM.out]; exact cmpI_zero.2 rfl)
    clear hc0 HJ
    go_wp2
    exact ⟨⟨i + 1, HI1.out.1, by go_num, HJ2.out, HB5.out⟩, HI1.out.2⟩
  ·have hin : i = r.length := by omega
   have hni : ¬ (i : Int) < (r.length : Int) := by omega
   have HF := Lib.hid (HNO.out r HS.out (fun j hj => by
    have := (List.getElem?_eq_some_iff.1 hj).1
    exact HJ.out j (by omega) hj))
   have HBE := Lib.hid (below_keep HB4.out hb)
   clear hin hb hlt hi9 HJ
   go_wp2
   go_ret2
   exact ⟨by rw [HF.out.1, HF.out.2]; rfl, HBE.out⟩
end Go.Proofs.YtkliekoheeeamaaGreatDoor
