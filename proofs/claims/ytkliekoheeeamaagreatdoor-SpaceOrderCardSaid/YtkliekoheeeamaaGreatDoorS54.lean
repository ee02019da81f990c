/- Lemmas and contracts, each under its own condition: The reference's rowMajor. The reference's extents. The reference's bits and bit. The reference's key of the Hilbert order. The reference's key of the Hilbert order: the walk. The reference's sortKey. -/
import Derived.IntWalk
import Derived.Deep.AppendLies
import Derived.Deep.DeepCutAuto
import Derived.Lib.SliceRun
import Derived.Lib.AppendZeros
import Derived.BigQuiet
import Derived.Deep.CutBlock
import Derived.Test.YtkliekoheeeamaaGreatDoorS10
import Derived.Test.YtkliekoheeeamaaGreatDoorS21
import Derived.Test.YtkliekoheeeamaaGreatDoorS30
import Derived.Test.YtkliekoheeeamaaGreatDoorS46
import Derived.Test.YtkliekoheeeamaaGreatDoorS52
import Derived.Test.YtkliekoheeeamaaGreatDoorS9
/- The reference's rowMajor. -/
namespace Go.Proofs.YtkliekoheeeamaaGreatDoor
open Go.RowKit

theorem owns_shape {w : World} {base : Nat} {e : TypeId} {size : Nat} {v : Value} {n : Nat} {xs : List Value} (h : w.ownsRow base e size v n xs) : ∃ a c, v = .slice a n c := by
 rcases h.2 with ⟨rfl, rfl⟩ | ⟨g, cap, _, rfl, _⟩
 ·exact ⟨_, _, rfl⟩
 ·exact ⟨_, _, rfl⟩
/-- a row copied, a number behind it, and the row behind the others -/
theorem rm_push (n₀ : Nat) (w : World) (nx : Value) (L : List (List Int)) (hn : RowsO n₀ w nx L) (hb : n₀ ≤ w.heap.size) (u : Value) (y : List Int) (hu : Ints w u y) (x : Int) (hy : y.length ≤ 1000) (hL : L.length ≤ 100000) :
  ∃ v1 w1 v2 w2 v3 w3, (Builtin.append_ #[24, 24] 24 #[.slice (some ⟨w.heap.size, 0, none⟩) 0 0, u]).run Tryz.prog (w.alloc (.cells #[] 3)) = .ok v1 w1 ∧ (∃ a n c, v1 = .slice a n c) ∧
   (Builtin.append_ #[24, 24] 24 #[v1, .slice (some ⟨w1.heap.size, 0, none⟩) 1 1]).run Tryz.prog (w1.alloc (.cells #[.int .i64 x] 3)) = .ok v2 w2 ∧ (∃ a n c, v2 = .slice a n c) ∧
   (Builtin.append_ #[27, 27] 27 #[nx, .slice (some ⟨w2.heap.size, 0, none⟩) 1 1]).run Tryz.prog (w2.alloc (.cells #[v2] 24)) = .ok v3 w3 ∧ RowsO n₀ w3 v3 (L ++ [y ++ [x]]) ∧ Below n₀ w w3 := by
 obtain ⟨i0, hi0, hz0, hz1, hz2⟩ := info_parts infoZ
 obtain ⟨j0, hj0, hy0, hy1, hy2⟩ := info_parts infoIs
 have hba : Below w.heap.size w (w.alloc (.cells #[] 3)) := below_alloc _ _
 obtain ⟨v1, w1, hr1, ho1, hg1⟩ := append_ints (w.alloc (.cells #[] 3)) w.heap.size hba.size (.slice (some ⟨w.heap.size, 0, none⟩) 0 0) [] (World.ownsRow_made w #[] 0 (Nat.le_refl _) (by decide) (by simp)) u y (hu.later IntR.lasts hba) (by simp; omega) 24
 simp only [List.length_nil, Nat.zero_add, List.nil_append] at ho1
 have hb1 : Below w.heap.size w w1 := hba.grown hg1 hba.size (fun k e => by simp only [Value.ownBlock, Option.some.injEq] at e; omega)
 obtain ⟨a1, c1, e1⟩ := owns_shape ho1
 have hbx : Below w1.heap.size w1 (w1.alloc (.cells #[.int .i64 x] 3)) := below_alloc _ _
 obtain ⟨g2, cp2, w2, hr2, ho2, hg2, -, -⟩ := run_append_lies (P := Tryz.prog) (w := w1.alloc (.cells #[.int .i64 x] 3)) 24 24 w.heap.size 3 i0 (.int .i64 0) 1 8 Tryz.underlying24 hi0 hz0 hz1 hz2 rfl (by decide) v1 y.length _ (ho1.alloc _) ⟨w1.heap.size, 0, none⟩ 1 1 [.int .i64 x] rfl (fun t v ht => by
  match t, ht with
  | 0, ht => simp at ht; subst ht; rw [show (⟨w1.heap.size, 0, none⟩ : Addr).add 0 = ⟨w1.heap.size, 0, none⟩ from by simp [Addr.add], World.cell?_alloc_at _ _ _ _ rfl]; rfl) (fun v hv => by simp at hv; subst hv; rfl) (by decide) (by unfold maxLen; omega) (by omega) (Nat.le_trans hb1.size hbx.size) _ rfl
 have hb2 : Below w.heap.size w w2 := (below_keep hb1 hbx).grown hg2 (Nat.le_trans hb1.size hbx.size) (fun k e => (ho1.lt k e).1)
 have hI : IntsO w2 (.slice (some ⟨g2, 0, none⟩) (y.length + 1) cp2) (y ++ [x]) := RowZ.append_owns (base := w.heap.size) (n := y.length + 1) (by rw [List.map_append]; exact ho2) (by simp)
 obtain ⟨vs, hvs, hx⟩ := (hn.later hb2).ex
 have hvl : vs.length = L.length := by have := hvs.1; rw [Nat.mul_one] at this; exact this
 have hbv : Below w2.heap.size w2 (w2.alloc (.cells #[.slice (some ⟨g2, 0, none⟩) (y.length + 1) cp2] 24)) := below_alloc _ _
 obtain ⟨g3, cp3, w3, hr3, ho3, hg3, -, -⟩ := run_append_lies (P := Tryz.prog) (w := w2.alloc (.cells #[.slice (some ⟨g2, 0, none⟩) (y.length + 1) cp2] 24)) 27 27 n₀ 24 j0 (.slice none 0 0) 1 24 Tryz.underlying27 hj0 hy0 hy1 hy2 rfl (by decide) nx L.length vs (hvs.alloc _) ⟨w2.heap.size, 0, none⟩ 1 1 [.slice (some ⟨g2, 0, none⟩) (y.length + 1) cp2] rfl (fun t v ht => by
  match t, ht with
  | 0, ht => simp at ht; subst ht; rw [show (⟨w2.heap.size, 0, none⟩ : Addr).add 0 = ⟨w2.heap.size, 0, none⟩ from by simp [Addr.add], World.cell?_alloc_at _ _ _ _ rfl]; rfl) (fun v hv => by simp at hv; subst hv; rfl) (by decide) (by unfold maxLen; omega) (by omega) (Nat.le_trans hb (Nat.le_trans hb2.size hbv.size)) _ rfl
 refine ⟨v1, w1, _, w2, _, w3, hr1, ⟨a1, _, c1, e1⟩, hr2, ⟨_, _, _, rfl⟩, hr3, RowsO.snoc hx hvl hbv (hvs.alloc _) ho3 hg3 hI (by decide), ((hb2.mono hb).trans (hbv.mono (Nat.le_trans hb hb2.size))).grown hg3 (Nat.le_trans hb (Nat.le_trans hb2.size hbv.size)) (fun k e => (hvs.lt k e).1)⟩

def rmR (y : List Int) (m : Nat) : List (List Int) := (List.range m).map fun (x : Nat) => y ++ [(x : Int)]
def rmS (R : List (List Int)) (m : Nat) : List (List Int) := R.flatMap fun y => rmR y m
def rmF (R : List (List Int)) : List Int → List (List Int)
 | [] => R
 | m :: ms => rmF (rmS R m.toNat) ms
def prodI : List Int → Nat
 | [] => 1
 | m :: ms => m.toNat * prodI ms
theorem rmR_snoc (y : List Int) (m : Nat) : rmR y (m + 1) = rmR y m ++ [y ++ [(m : Int)]] := by simp [rmR, List.range_succ]
theorem rmR_length (y : List Int) (m : Nat) : (rmR y m).length = m := by simp [rmR]
theorem rmS_length (R : List (List Int)) (m : Nat) : (rmS R m).length = R.length * m := by
 induction R with
 | nil => simp [rmS]
 | cons y R ih =>
  have h1 : rmS (y :: R) m = rmR y m ++ rmS R m := rfl
  rw [h1, List.length_append, rmR_length, ih, List.length_cons, Nat.add_mul, Nat.one_mul, Nat.add_comm]
theorem rmS_snoc {R : List (List Int)} {k : Nat} {y : List Int} (m : Nat) (h : R[k]? = some y) : rmS (R.take (k + 1)) m = rmS (R.take k) m ++ rmR y m := by
 unfold rmS
 rw [take_snoc' h, List.flatMap_append, List.flatMap_singleton]
theorem rmS_len {R : List (List Int)} {m i : Nat} (h : ∀ y ∈ R, y.length = i) : ∀ y ∈ rmS R m, y.length = i + 1 := fun y hy => by
 obtain ⟨z, hz, hy⟩ := List.mem_flatMap.1 hy
 obtain ⟨x, -, rfl⟩ := List.mem_map.1 hy
 rw [List.length_append, h z hz]; rfl
theorem prodI_pos : ∀ {m : List Int}, (∀ c ∈ m, 1 ≤ c) → 1 ≤ prodI m
 | [], _ => Nat.le_refl _
 | c :: m, h => by
  have h1 := h c (by simp)
  have h2 := prodI_pos (m := m) fun d hd => h d (by simp [hd])
  rw [prodI]
  exact Nat.mul_le_mul (show 1 ≤ c.toNat by omega) h2
set_option maxHeartbeats 16000000 in
set_option maxRecDepth 100000 in
theorem rrowMajor_any (m : List Int) (v : Value) (w : World) (hv : Ints w v m) (hm : ∀ c ∈ m, 1 ≤ c ∧ c ≤ 4096) (hl : m.length ≤ 100) (hp : prodI m ≤ 4096) :
  Calls Tryz.prog 42 #[v] w fun e w' => ∃ u, e = .returned u ∧ RowsI w' u (rmF [[]] m) ∧ Below w.heap.size w w' := by
 have HV := Lib.hid hv
 have HM := Lib.hid hm
 have HP := Lib.hid hp
 have HRO : Hid (RowsO w.heap.size (w.alloc (.cells #[.slice none 0 0] 24)) (.slice (some ⟨w.heap.size, 0, none⟩) 1 1) [[]]) := ⟨[.slice none 0 0], own_one w _ _ (Nat.le_refl _), fun i x u hi hu => by
  match i, hi, hu with
  | 0, hi, hu =>
   simp only [List.getElem?_cons_zero, Option.some.injEq] at hi hu
   subst hi hu
   exact ⟨Ls.nil _ none 0 (by omega), TagV.nil _ _ _ _⟩⟩
 have HB0 := Lib.hid (below_alloc w (.cells #[.slice none 0 0] 24))
 obtain ⟨p1, k1, rfl, -⟩ := hv.shape
 clear hv hm hp
 go_enter Tryz.func42, Tryz.ntmps42
 go_wp2
 go_loopw [3, 4] (fun ov iv wr => ∃ (i : Nat) (R : List (List Int)), i ≤ m.length ∧ iv = .int .i64 (i : Nat) ∧ RowsO w.heap.size wr ov R ∧ Hid (rmF R (m.drop i) = rmF [[]] m) ∧ Hid (R.length * prodI (m.drop i) = prodI m) ∧ Hid (∀ y ∈ R, y.length = i) ∧ Below w.heap.size w wr) (fun _ iv _ => m.length - (intOf iv).toNat)
 case atStart => exact ⟨0, [[]], Nat.zero_le _, rfl, HRO.out, rfl, (by show _ = _; simp), (fun y hy => by simp at hy; subst hy; rfl), HB0.out⟩
 case round =>
  obtain ⟨i, R, hi, rfl, hro, HF, HQ, HY, hb⟩ := hrel
  have HR := Lib.hid hro
  have HBR := Lib.hid hb
  obtain ⟨W1, hW1⟩ : ∃ W1, W1 = wr := ⟨_, rfl⟩
  rw [← hW1] at HR HBR ⊢
  clear hW1
  by_cases hlt : i < m.length
  ·obtain ⟨g1, o1, M0, e1, hM0, hr1⟩ := HV.out.at i hlt
   subst e1
   rw [Nat.mul_one] at hr1
   have hr1 : w.cell? ⟨g1, o1 + i, none⟩ = some (.int .i64 M0) := hr1
   have hmb := HM.out M0 (List.mem_of_getElem? hM0)
   obtain ⟨M, hMe⟩ : ∃ M : Nat, M0 = (M : Int) := ⟨M0.toNat, by omega⟩
   subst hMe
   have hd : m.drop i = (M : Int) :: m.drop (i + 1) := drop_cons hM0
   have hf := HF.out
   have hq := HQ.out
   rw [hd, rmF, Int.toNat_natCast] at hf
   rw [hd, prodI, Int.toNat_natCast, ← Nat.mul_assoc] at hq
   have hpp := prodI_pos (m := m.drop (i + 1)) fun c hc => (HM.out c (List.mem_of_mem_drop hc)).1
   have hRM : R.length * M ≤ 4096 := Nat.le_trans (Nat.le_mul_of_pos_right _ hpp) (by rw [hq]; exact HP.out)
   have HRM := Lib.hid hRM
   have HF2 := Lib.hid hf
   have HQ2 : Hid ((rmS R M).length * prodI (m.drop (i + 1)) = prodI m) := by show _ = _; rw [rmS_length]; exact hq
   have HY2 := Lib.hid (rmS_len (m := M) HY.out)
   have hR4 : R.length ≤ 4096 := Nat.le_trans (Nat.le_mul_of_pos_right _ (show 0 < M by omega)) hRM
   have HR4 := Lib.hid hR4
   have KM : Hid (∀ wz, Below W1.heap.size W1 wz → wz.cell? ⟨g1, o1 + i, none⟩ = some (.int .i64 (M : Int))) := fun wz h => cell_later hr1 (below_keep HBR.out (h.mono (Nat.le_refl _)))
   have HI1 : Hid (i + 1 ≤ m.length ∧ m.length - (i + 1) < m.length - i) := by show _ ∧ _; omega
   have ib0 : (0 : Int) ≤ (i : Int) := by omega
   have ib1 : (i : Int) < (m.length : Int) := by omega
   have mb : (M : Int) ≤ 4096 := hmb.2
   obtain ⟨q2, j2, e2, -⟩ := hro.rows.shape
   subst e2
   clear hM0 hr1 hmb hd hf hq hpp hRM hR4 hro hb HF HQ hi hlt HRO HB0
   go_wp2
   go_loopw [5, 6] (fun nv kv wr => ∃ (k : Nat), k ≤ R.length ∧ kv = .int .i64 (k : Nat) ∧ RowsO W1.heap.size wr nv (rmS (R.take k) M) ∧ Below W1.heap.size W1 wr) (fun _ kv _ => R.length - (intOf kv).toNat)
   case atStart => exact ⟨0, Nat.zero_le _, rfl, RowsO.nil _ _, Below.refl _ _⟩
   case round =>
    obtain ⟨k, hk, rfl, hno, hb⟩ := hrel
    have HNO := Lib.hid hno
    have HB2 := Lib.hid hb
    by_cases hkl : k < R.length
    ·obtain ⟨g3, o3, y, e3, hy, hry⟩ := HR.out.rows.at k hkl
     subst e3
     obtain ⟨vy, z0, hyi⟩ := hry.ex
     rw [Nat.mul_one] at z0
     have hyl := HY.out y (List.mem_of_getElem? hy)
     have HS := Lib.hid (rmS_snoc M hy)
     have HYL : Hid (y.length ≤ 1000) := by show _ ≤ _; omega
     have HYI := Lib.hid hyi
     have KY : Hid (∀ wz, Below W1.heap.size W1 wz → wz.cell? ⟨g3, o3 + k, none⟩ = some vy) := fun wz h => cell_later z0 h
     obtain ⟨p5, k5, rfl, -⟩ := hyi.shape
     have HK1 : Hid (k + 1 ≤ R.length ∧ R.length - (k + 1) < R.length - k) := by show _ ∧ _; omega
     have kb0 : (0 : Int) ≤ (k : Int) := by omega
     have kb1 : (k : Int) < (R.length : Int) := by omega
     have kb4 : (R.length : Int) ≤ 4096 := by have := HR4.out; omega
     have HLK : Hid ((rmS (R.take k) M).length + M ≤ 4096) := by
      show _ ≤ _
      rw [rmS_length, List.length_take, Nat.min_eq_left (by omega)]
      have h1 : k * M + M ≤ R.length * M := by rw [← Nat.succ_mul]; exact Nat.mul_le_mul_right _ (by omega)
      exact Nat.le_trans h1 HRM.out
     clear hy hry z0 hyi hyl hk hkl hno hb
     go_wp2
     go_loopw [5, 7] (fun nv xv wr => ∃ (x : Nat), x ≤ M ∧ xv = .int .i64 (x : Nat) ∧ RowsO W1.heap.size wr nv (rmS (R.take k) M ++ rmR y x) ∧ Below W1.heap.size W1 wr) (fun _ xv _ => M - (intOf xv).toNat)
     case atStart => exact ⟨0, Nat.zero_le _, rfl, (by rw [show rmR y 0 = [] from rfl, List.append_nil]; exact HNO.out), HB2.out⟩
     case round =>
      obtain ⟨x, hx, rfl, hno, hb⟩ := hrel
      have c1 := KM.out wr hb
      have HNX := Lib.hid hno
      have HB3 := Lib.hid hb
      by_cases hxl : x < M
      ·have c2 := KY.out wr hb
       have hg1 : g3 < wr.heap.size := World.block_lt_of_cell? _ _ c2
       have hg2 : g3 ≠ wr.heap.size := Nat.ne_of_lt hg1
       obtain ⟨v1, w1, v2, w2, v3, w3, r1, ⟨_, _, _, e1⟩, r2, ⟨_, _, _, e2⟩, r3, ho3, hb3⟩ := rm_push W1.heap.size wr _ _ hno hb.size (.slice p5 y.length k5) y (HYI.out.later IntR.lasts hb) (x : Int) HYL.out (by rw [List.length_append, rmR_length]; have := HLK.out; omega)
       subst e1 e2
       have R1 := Lib.hid r1
       have R2 := Lib.hid r2
       have R3 := Lib.hid r3
       rw [List.append_assoc, ← rmR_snoc] at ho3
       have HO3 := Lib.hid ho3
       have HB4 := Lib.hid (hb.trans hb3)
       have HX1 : Hid (x + 1 ≤ M ∧ M - (x + 1) < M - x) := by show _ ∧ _; omega
       have xb0 : (0 : Int) ≤ (x : Int) := by omega
       have xb1 : (x : Int) < (M : Int) := by omega
       clear r1 r2 r3 ho3 hb3 hb hno hx hxl
       go_wp2_with (at_builtin; first | (refine Lib.wpList_append_run _ rfl _ _ _ _ rfl _ _ rfl rfl _ _ R1.out ?_) | (refine Lib.wpList_append_run _ rfl _ _ _ _ rfl _ _ rfl rfl _ _ R2.out ?_) | (refine Lib.wpList_append_run _ rfl _ _ _ _ rfl _ _ rfl rfl _ _ R3.out ?_))
       go_wp2
       exact ⟨⟨x + 1, HX1.out.1, by go_num, HO3.out, HB4.out⟩, HX1.out.2⟩
      ·have hxm : x = M := by omega
       have hxi : ¬ (x : Int) < (M : Int) := by omega
       rw [hxm, ← HS.out] at hno
       have HNE := Lib.hid hno
       clear hno hb hx hxl hxm
       go_wp2
       exact ⟨⟨k + 1, HK1.out.1, by go_num, HNE.out, HB3.out⟩, HK1.out.2⟩
    ·have hkr : k = R.length := by omega
     have hki : ¬ (k : Int) < (R.length : Int) := by omega
     rw [hkr, List.take_length] at hno
     have HNE := Lib.hid (hno.base HBR.out.size)
     have HBE := Lib.hid (below_keep HBR.out HB2.out)
     clear hno hb hk hkl hkr
     go_wp2
     exact ⟨⟨i + 1, rmS R M, HI1.out.1, by go_num, HNE.out, HF2.out, HQ2.out, HY2.out, HBE.out⟩, HI1.out.2⟩
  ·have hin : i = m.length := by omega
   have hii : ¬ (i : Int) < (m.length : Int) := by omega
   have hf := HF.out
   rw [hin, List.drop_length, rmF] at hf
   have HR2 := Lib.hid HR.out.rows
   have HFE := Lib.hid hf
   clear hro hb hi hlt hin hf
   go_wp2
   go_ret
   exact ⟨_, rfl, by rw [← HFE.out]; exact HR2.out, HBR.out⟩
end Go.Proofs.YtkliekoheeeamaaGreatDoor
/- The reference's extents. -/
namespace Go.Proofs.YtkliekoheeeamaaGreatDoor
open Go.RowKit

def extI (lo hi : List Int) : List Int := List.zipWith (fun a b => b - a + 1) lo hi
theorem extI_snoc : ∀ {lo hi : List Int} {i : Nat} {a b : Int}, lo[i]? = some a → hi[i]? = some b → extI (lo.take (i + 1)) (hi.take (i + 1)) = extI (lo.take i) (hi.take i) ++ [b - a + 1]
 | [], _, _, _, _, h, _ => by simp at h
 | _ :: _, [], _, _, _, _, h => by simp at h
 | x :: l, y :: m, 0, a, b, h1, h2 => by
  simp only [List.getElem?_cons_zero, Option.some.injEq] at h1 h2
  subst h1 h2
  simp [extI]
 | x :: l, y :: m, i + 1, a, b, h1, h2 => by
  have h1 : l[i]? = some a := by simpa using h1
  have h2 : m[i]? = some b := by simpa using h2
  have := extI_snoc h1 h2
  unfold extI at this ⊢
  simp only [List.take_succ_cons, List.zipWith_cons_cons, List.cons_append]
  rw [this]
/-- a product that is too large stays so -/
theorem limB_big : ∀ {n : Int} {lo hi : List Int}, 4096 < n → limA lo hi = false → limF (limB n lo hi) = 9
 | n, l :: ls, h :: hs, hn, hA => by
  have hg := limA_get hA (i := 0) (l := l) (k := h) rfl rfl
  rw [limA] at hA
  split at hA
  ·cases hA
  ·rw [limB]
   split
   ·rfl
   ·refine limB_big ?_ hA
    have : n * 1 ≤ n * (h - l + 1) := Int.mul_le_mul_of_nonneg_left (by omega) (by omega)
    omega
 | n, [], hs, hn, _ => by
  rw [limB]
  ·show (if 4096 < n then (9 : Int) else 0) = 9
   rw [if_pos hn]
  ·intro _ _ _ _ h; cases h
 | n, _ :: _, [], hn, _ => by
  rw [limB]
  ·show (if 4096 < n then (9 : Int) else 0) = 9
   rw [if_pos hn]
  ·intro _ _ _ _ _ h; cases h
theorem limA_tail {lo hi : List Int} (h : limA lo hi = false) (i : Nat) : limA (lo.drop i) (hi.drop i) = false := by
 induction i generalizing lo hi with
 | zero => exact h
 | succ i ih =>
  cases lo with
  | nil => rw [List.drop_nil, limA]; intro _ _ _ _ h; cases h
  | cons a ls =>
   cases hi with
   | nil => rw [List.drop_nil, limA]; intro _ _ _ _ _ h; cases h
   | cons b hs =>
    rw [limA] at h
    split at h
    ·cases h
    ·exact ih h
/-- a result: integers and an error -/
def RetIntsE (l : List Int) (r : Int) (w : World) (e : Ending) (w' : World) : Prop := ∃ u, e = .returned (.tuple #[u, .int .i64 r]) ∧ Ints w' u l ∧ Below w.heap.size w w'
set_option maxHeartbeats 16000000 in
set_option maxRecDepth 100000 in
theorem rextents_any (vlo vhi : Value) (lo hi : List Int) (w : World) (hlo : Ints w vlo lo) (hhi : Ints w vhi hi) (hlen : hi.length = lo.length) (h4 : lo.length ≤ 4) (hmin : ∀ x ∈ lo, -9223372036854775808 ≤ x) :
  Calls Tryz.prog 41 #[.agg #[vlo, vhi]] w (RetIntsE (if limE lo hi = 0 then extI lo hi else []) (limE lo hi) w) := by
 have HLO := Lib.hid hlo
 have HHI := Lib.hid hhi
 have HL := Lib.hid hlen
 have HM := Lib.hid hmin
 obtain ⟨a1, c1, rfl, -⟩ := hlo.shape
 obtain ⟨a2, c2, rfl, -⟩ := hhi.shape
 rw [hlen] at HHI ⊢
 obtain ⟨E, hE⟩ : ∃ E : Int, E = limE lo hi := ⟨_, rfl⟩
 obtain ⟨L, hL⟩ : ∃ L : List Int, L = if E = 0 then extI lo hi else [] := ⟨_, rfl⟩
 rw [← hE, ← hL]
 have HBAD : Hid (∀ (r : Int) (w' : World), limE lo hi = r → r ≠ 0 → Below w.heap.size w w' → RetIntsE L E w (.returned (.tuple #[.slice none 0 0, .int .i64 r])) w') := fun r w' h1 h2 hb => by
  rw [hL, hE, h1, if_neg h2]
  exact ⟨_, rfl, Ls.nil _ none 0 (by omega), hb⟩
 have HGOOD : Hid (∀ (u : Value) (w' : World), limE lo hi = 0 → Ints w' u (extI lo hi) → Below w.heap.size w w' → RetIntsE L E w (.returned (.tuple #[u, .int .i64 0])) w') := fun u w' h1 h2 hb => by
  rw [hL, hE, h1, if_pos rfl]
  exact ⟨_, rfl, h2, hb⟩
 obtain ⟨W, hW, hbW, hbx⟩ := box_at w (.slice a1 lo.length c1) (.slice a2 lo.length c2)
 have HBW := Lib.hid hbW
 have HBX := Lib.hid hbx
 obtain ⟨i0, hi0, hz0, hz1, hz2⟩ := info_parts infoZ
 clear hlo hhi hlen hmin hE hL hbW hbx
 go_enter Tryz.func41, Tryz.ntmps41
 let KF : (Ending → World → Prop) → Exit → Act → World → Prop := bodyPost Tryz.prog Tryz.f41
 go_wp2
 rw [← hW]
 clear hW
 go_loopw [4] (fun iv wr => ∃ i : Nat, i ≤ lo.length ∧ iv = .int .i64 (i : Nat) ∧ Hid (limA (lo.drop i) (hi.drop i) = limA lo hi) ∧ Below W.heap.size W wr) (fun iv _ => lo.length - (intOf iv).toNat)
 case atStart => exact ⟨0, Nat.zero_le _, rfl, rfl, Below.refl _ _⟩
 case round =>
  obtain ⟨i, hi', rfl, HN, hb⟩ := hrel
  have HB := Lib.hid hb
  obtain ⟨e0, e1, -⟩ := HBX.out wr hb
  by_cases hlt : i < lo.length
  ·obtain ⟨gl, ol, l, el, hl, hrl⟩ := HLO.out.at i hlt
   obtain ⟨gh, oh, h, eh, hh, hrh⟩ := HHI.out.at i (by rw [HL.out]; exact hlt)
   subst el eh
   have hrl := cell_later hrl (below_keep HBW.out hb)
   have hrh := cell_later hrh (below_keep HBW.out hb)
   rw [Nat.mul_one] at hrl hrh
   have hn := HN.out
   rw [limA_drop hl hh] at hn
   have ib0 : (0 : Int) ≤ (i : Int) := by omega
   have ib1 : (i : Int) < (lo.length : Int) := by omega
   have HI1 : Hid (i + 1 ≤ lo.length ∧ lo.length - (i + 1) < lo.length - i) := by show _ ∧ _; omega
   by_cases hbad : 1073741825 ≤ h ∨ h < l
   ·rw [if_pos hbad] at hn
    have HRR : Hid (limE lo hi = 3) := by show _ = _; unfold limE; rw [if_pos hn.symm]
    have hcase : 1073741825 ≤ h ∨ (¬ 1073741825 ≤ h ∧ h < l) := by omega
    clear hbad hn hl hh hlt hi' hb
    rcases hcase with q | ⟨q, q'⟩
    ·have t1 : decide ((1073741825 : Int) ≤ h) = true := decide_eq_true q
     go_wp2_with fail
     go_quiet (fail)
     have HB2 := Lib.hid (below_keep HBW.out (below_keep HB.out (below_drewN' wr nq)))
     go_wp2
     go_ret2
     exact HBAD.out 3 _ HRR.out (by decide) HB2.out
    ·have t1 : decide ((1073741825 : Int) ≤ h) = false := decide_eq_false q
     have t2 : decide (h < l) = true := decide_eq_true q'
     go_wp2_with fail
     go_quiet (fail)
     have HB2 := Lib.hid (below_keep HBW.out (below_keep HB.out (below_drewN' wr nq)))
     go_wp2
     go_ret2
     exact HBAD.out 3 _ HRR.out (by decide) HB2.out
   ·rw [if_neg hbad] at hn
    have HNN := Lib.hid hn
    have t1 : decide ((1073741825 : Int) ≤ h) = false := decide_eq_false (by omega)
    have t2 : decide (h < l) = false := decide_eq_false (by omega)
    have q1 : ¬ 1073741825 ≤ h := by omega
    have q2 : ¬ h < l := by omega
    clear hbad hn hl hh hlt hi' hb
    go_wp2_with fail
    go_quiet (fail)
    have HB2 := Lib.hid (below_keep HB.out (below_drewN' wr nq))
    go_wp2
    exact ⟨⟨i + 1, HI1.out.1, by go_num, HNN.out, HB2.out⟩, HI1.out.2⟩
  ·have hin : i = lo.length := by omega
   have hii : ¬ (i : Int) < (lo.length : Int) := by omega
   have hn := HN.out
   rw [hin, List.drop_length, limA] at hn
   ·have HA := Lib.hid hn.symm
    have HRB : Hid (limE lo hi = limF (limB 1 lo hi)) := by show _ = _; unfold limE; rw [if_neg (by rw [HA.out]; decide)]
    obtain ⟨W1, hW1⟩ : ∃ W1, W1 = wr := ⟨_, rfl⟩
    rw [← hW1] at HB e0 e1 ⊢
    clear hn HN hin hlt hi' hb hW1
    go_wp2
    go_loopw [5, 6, 7] (fun ov nv iv wr => ∃ (i : Nat) (n : Int), i ≤ lo.length ∧ iv = .int .i64 (i : Nat) ∧ nv = .int .i64 n ∧ wr.ownsRow W.heap.size 3 1 ov (extI (lo.take i) (hi.take i)).length ((extI (lo.take i) (hi.take i)).map (Value.int .i64)) ∧ Hid (limB n (lo.drop i) (hi.drop i) = limB 1 lo hi) ∧ Hid (1 ≤ n ∧ n ≤ 4096) ∧ Below W.heap.size W wr) (fun _ _ iv _ => lo.length - (intOf iv).toNat)
    case atStart => exact ⟨0, 1, Nat.zero_le _, rfl, rfl, World.ownsRow_nil _ _ _ _, rfl, ⟨by omega, by omega⟩, HB.out⟩
    case round =>
     clear e0 e1
     obtain ⟨i, n, hi', rfl, rfl, how, HN, HNB, hb⟩ := hrel
     have HB2 := Lib.hid hb
     obtain ⟨la, hla⟩ : ∃ la, la = extI (lo.take i) (hi.take i) := ⟨_, rfl⟩
     rw [← hla] at how
     have HOW := Lib.hid how
     obtain ⟨e0, e1, -⟩ := HBX.out wr hb
     by_cases hlt : i < lo.length
     ·obtain ⟨gl, ol, l, el, hl, hrl⟩ := HLO.out.at i hlt
      obtain ⟨gh, oh, h, eh, hh, hrh⟩ := HHI.out.at i (by rw [HL.out]; exact hlt)
      subst el eh
      have hrl := cell_later hrl (below_keep HBW.out hb)
      have hrh := cell_later hrh (below_keep HBW.out hb)
      rw [Nat.mul_one] at hrl hrh
      have hrl : wr.cell? ⟨gl, ol + i, none⟩ = some (.int .i64 l) := hrl
      have hrh : wr.cell? ⟨gh, oh + i, none⟩ = some (.int .i64 h) := hrh
      have hn := HN.out
      rw [limB_drop hl hh] at hn
      have hg := limA_get HA.out hl hh
      have g1 := hg.1
      have g2 := hg.2
      have g3 := HM.out l (List.mem_of_getElem? hl)
      have hw : IntKind.u64.wrap (IntKind.u64.wrap h - IntKind.u64.wrap l) = h - l := by
       rw [IntKind.wrap_u64, IntKind.wrap_u64, IntKind.wrap_u64]; omega
      have ib0 : (0 : Int) ≤ (i : Int) := by omega
      have ib1 : (i : Int) < (lo.length : Int) := by omega
      have HI1 : Hid (i + 1 ≤ lo.length ∧ lo.length - (i + 1) < lo.length - i) := by show _ ∧ _; omega
      by_cases hbad : 4096 ≤ h - l
      ·rw [if_pos hbad] at hn
       have HRR : Hid (limE lo hi = 9) := by show _ = _; rw [HRB.out, ← hn]; rfl
       clear hn hl hh hg hlt hi' hb how hla
       go_wp2_with fail
       go_quiet (fail)
       have HB3 := Lib.hid (below_keep HBW.out (below_keep HB2.out (below_drewN' wr nq)))
       go_wp2
       go_ret2
       exact HBAD.out 9 _ HRR.out (by decide) HB3.out
      ·rw [if_neg hbad] at hn
       have HNN := Lib.hid hn
       have HEX := Lib.hid (extI_snoc hl hh)
       rw [← hla] at HEX
       obtain ⟨m, hm⟩ : ∃ m, m = h - l + 1 := ⟨_, rfl⟩
       rw [← hm] at HEX HNN
       have hm1 : 1 ≤ m := by omega
       have hm2 : m ≤ 4096 := by omega
       have wm1 : IntKind.i64.wrap (h - l) = h - l := IntWalk.i64_in _ (by omega)
       have wm2 : IntKind.i64.wrap (h - l + 1) = m := by rw [hm]; exact IntWalk.i64_in _ (by omega)
       have hll : la.length ≤ 900 := by rw [hla]; simp [extI]; omega
       obtain ⟨p, hp⟩ : ∃ p, p = n * m := ⟨_, rfl⟩
       have hp1 : 1 ≤ p := by
        have := Int.mul_le_mul (show (1 : Int) ≤ n from HNB.out.1) hm1 (by omega) (by have := HNB.out.1; omega)
        rw [hp]; omega
       have hp2 : p ≤ 16777216 := by
        have := Int.mul_le_mul (show n ≤ (4096 : Int) from HNB.out.2) hm2 (by omega) (by omega)
        rw [hp]; omega
       have wp1 : IntKind.i64.wrap (n * m) = p := by rw [← hp]; exact IntWalk.i64_in _ (by omega)
       rw [← hp] at HNN
       have HTL := Lib.hid (limA_tail HA.out (i + 1))
       clear hn hl hh hg hlt hi' hm hla hp HN HNB
       go_wp2_with fail
       go_quiet (fail)
       obtain ⟨n1, hn1⟩ : ∃ n1, n1 = nq := ⟨_, rfl⟩
       rw [← hn1]
       clear hn1
       have hrl := cell_later hrl (below_drewN' wr n1)
       have hrh := cell_later hrh (below_drewN' wr n1)
       have e0 := cell_later e0 (below_drewN' wr n1)
       have e1 := cell_later e1 (below_drewN' wr n1)
       have HB3 := Lib.hid (below_keep HB2.out (below_drewN' wr n1))
       have HOW3 := Lib.hid (HOW.out.kept (row := none) (grown_of_below (below_drewN' wr n1) none) (by cases Value.ownBlock _ <;> simp))
       obtain ⟨W3, hW3⟩ : ∃ W3, W3 = wr.drewN n1 := ⟨_, rfl⟩
       rw [← hW3] at hrl hrh e0 e1 HB3 HOW3 ⊢
       clear hW3
       go_wp2_with fail
       go_quiet (fail)
       obtain ⟨W4, hW4⟩ : ∃ W4, W4 = W3.drewN nq := ⟨_, rfl⟩
       have HB4 : Hid (Below W.heap.size W W4) := by show Below _ _ _; rw [hW4]; exact below_keep HB3.out (below_drewN' W3 nq)
       have how4 := HOW3.out.kept (row := none) (grown_of_below (below_drewN' W3 nq) none) (by cases Value.ownBlock _ <;> simp)
       rw [← hW4] at how4 ⊢
       have e0 : W4.cell? ⟨w.heap.size, 0, none⟩ = some (.slice (some ⟨gl, ol, none⟩) lo.length c1) := by rw [hW4]; exact cell_later e0 (below_drewN' W3 nq)
       have hge4 : W.heap.size ≤ W4.heap.size := HB4.out.size
       clear hW4 hrl hrh e1 how
       by_cases hbig : 4096 < p
       ·have HRR : Hid (limE lo hi = 9) := by show _ = _; rw [HRB.out, ← HNN.out]; exact limB_big hbig HTL.out
        go_wp2_with (at_builtin; refine wpList_append_lies _ (by rfl) _ _ 24 (by rfl) W.heap.size 3 i0 (.int .i64 0) 1 8 Tryz.underlying24 hi0 hz0 hz1 hz2 rfl (by decide) _ la.length (la.map (Value.int .i64)) (by rfl) (how4.alloc _) ⟨W4.heap.size, 0, none⟩ 1 1 [.int .i64 m] (by rfl) (by rfl) (cell_one_new _ _ _) (by simp [Value.oneCell']) (by omega) (by unfold maxLen; omega) (by omega) (by simp; omega) (W4.heap.size + 1) (by simp) ?_)
        intro g7 cp1 w6 hown hgrow hat hlt6
        have hbd : Below W4.heap.size W4 (W4.alloc (.cells #[.int .i64 m] 3)) := below_alloc _ _
        have HB6 := Lib.hid (HB4.out.trans ((hbd.mono hge4).grown hgrow (Nat.le_trans hge4 hbd.size) (fun k e => (how4.lt k e).1)))
        have HB7 := Lib.hid (below_keep HBW.out HB6.out)
        clear hown hgrow hat hlt6 hbd
        go_wp2
        go_ret2
        exact HBAD.out 9 _ HRR.out (by decide) HB7.out
       ·have HNB2 : Hid (1 ≤ p ∧ p ≤ 4096) := by show _ ∧ _; omega
        go_wp2_with (at_builtin; refine wpList_append_lies _ (by rfl) _ _ 24 (by rfl) W.heap.size 3 i0 (.int .i64 0) 1 8 Tryz.underlying24 hi0 hz0 hz1 hz2 rfl (by decide) _ la.length (la.map (Value.int .i64)) (by rfl) (how4.alloc _) ⟨W4.heap.size, 0, none⟩ 1 1 [.int .i64 m] (by rfl) (by rfl) (cell_one_new _ _ _) (by simp [Value.oneCell']) (by omega) (by unfold maxLen; omega) (by omega) (by simp; omega) (W4.heap.size + 1) (by simp) ?_)
        intro g7 cp1 w6 hown hgrow hat hlt6
        have hbd : Below W4.heap.size W4 (W4.alloc (.cells #[.int .i64 m] 3)) := below_alloc _ _
        have HB6 := Lib.hid (HB4.out.trans ((hbd.mono hge4).grown hgrow (Nat.le_trans hge4 hbd.size) (fun k e => (how4.lt k e).1)))
        have HOE : Hid (w6.ownsRow W.heap.size 3 1 (.slice (some ⟨g7, 0, none⟩) (la.length + 1) cp1) (extI (lo.take (i + 1)) (hi.take (i + 1))).length ((extI (lo.take (i + 1)) (hi.take (i + 1))).map (Value.int .i64))) := by
         show World.ownsRow _ _ _ _ _ _ _
         rw [HEX.out, List.length_append, List.map_append]; exact hown
        clear hown hgrow hat hlt6 hbd
        go_wp2
        exact ⟨⟨i + 1, p, HI1.out.1, by go_num, rfl, HOE.out, HNN.out, HNB2.out, HB6.out⟩, HI1.out.2⟩
     ·have hin : i = lo.length := by omega
      have hii : ¬ (i : Int) < (lo.length : Int) := by omega
      have hn := HN.out
      rw [hin, List.drop_length, limB] at hn
      ·have HRR : Hid (limE lo hi = 0) := by
        show _ = _
        rw [HRB.out, ← hn]
        show (if 4096 < n then (9 : Int) else 0) = 0
        rw [if_neg (by have := HNB.out; omega)]
       rw [hin, List.take_length, ← HL.out, List.take_length] at hla
       have HI := Lib.hid (RowZ.append_owns HOW.out rfl)
       rw [hla] at HI
       have HBE := Lib.hid (below_keep HBW.out HB2.out)
       clear hn hlt hi' hb hin hla how
       go_wp2
       go_ret2
       exact HGOOD.out _ _ HRR.out HI.out.ints HBE.out
      ·intro _ _ _ _ h; cases h
   ·intro _ _ _ _ h; cases h
end Go.Proofs.YtkliekoheeeamaaGreatDoor
/- The reference's bits and bit. -/
namespace Go.Proofs.YtkliekoheeeamaaGreatDoor
open Go.RowKit

/-- the bits of extents -/
def bitsE : Nat → List Int → Nat
 | k, m :: ms => bitsE (max k (Lib.bitLen (m - 1).toNat)) ms
 | k, [] => k
theorem bitsE_drop {k i : Nat} {ms : List Int} {m : Int} (h : ms[i]? = some m) : bitsE k (ms.drop i) = bitsE (max k (Lib.bitLen (m - 1).toNat)) (ms.drop (i + 1)) := by
 rw [drop_cons h, bitsE]
theorem bitsE_ext : ∀ {k : Nat} {lo hi : List Int}, bitsE k (extI lo hi) = bitsL k lo hi
 | k, l :: ls, h :: hs => by
  have h1 : extI (l :: ls) (h :: hs) = (h - l + 1) :: extI ls hs := rfl
  rw [h1, bitsE, bitsL, show h - l + 1 - 1 = h - l from by omega]
  exact bitsE_ext
 | k, [], hs => by
  rw [show extI [] hs = [] from rfl, bitsE, bitsL]
  intro _ _ _ _ h; cases h
 | k, _ :: _, [] => by
  rw [show extI (_ :: _) [] = [] from rfl, bitsE, bitsL]
  intro _ _ _ _ _ h; cases h
theorem pow_lt12 {q : Nat} (h : q ≤ 12) : (2 : Int) ^ q ≤ 4096 ∧ (1 : Int) ≤ 2 ^ q := by
 have h1 : 2 ^ q ≤ 2 ^ 12 := Nat.pow_le_pow_right (by decide) h
 have h2 : 1 ≤ 2 ^ q := Nat.one_le_two_pow
 have e : (2 : Int) ^ q = ((2 ^ q : Nat) : Int) := by norm_cast
 omega
theorem pow_test {q : Nat} {m : Int} (h1 : 1 ≤ m) (h2 : m ≤ 4096) : (2 : Int) ^ q < m ↔ q < Lib.bitLen (m - 1).toNat := by
 have e : (2 : Int) ^ q = ((2 ^ q : Nat) : Int) := by norm_cast
 constructor
 ·intro h
  have h3 := bitLen_lt (x := (m - 1).toNat) (by omega)
  have h4 : 2 ^ q < 2 ^ Lib.bitLen (m - 1).toNat := by omega
  exact (Nat.pow_lt_pow_iff_right (by decide)).1 h4
 ·intro h
  apply Classical.byContradiction
  intro h3
  have h4 : (m - 1).toNat < 2 ^ q := by omega
  have := bitLen_le h4
  omega
set_option maxHeartbeats 4000000 in
set_option maxRecDepth 100000 in
theorem rbits_any (ms : List Int) (v : Value) (w : World) (hv : Ints w v ms) (hm : ∀ c ∈ ms, 1 ≤ c ∧ c ≤ 4096) (hl : ms.length ≤ 1000) :
  Calls Tryz.prog 43 #[v] w (RetV' (.int .i64 (bitsE 0 ms : Nat)) w) := by
 have HV := Lib.hid hv
 have HM := Lib.hid hm
 obtain ⟨p1, k1, rfl, -⟩ := hv.shape
 obtain ⟨R, hR⟩ : ∃ R, R = bitsE 0 ms := ⟨_, rfl⟩
 rw [← hR]
 have HR := Lib.hid hR
 clear hv hm hR
 go_enter Tryz.func43, Tryz.ntmps43
 go_wp2
 go_loopw [3, 4] (fun kv iv wr => ∃ (i k : Nat), i ≤ ms.length ∧ iv = .int .i64 (i : Nat) ∧ kv = .int .i64 (k : Nat) ∧ Hid (bitsE k (ms.drop i) = R) ∧ Hid (k ≤ 12) ∧ Below w.heap.size w wr) (fun _ iv _ => ms.length - (intOf iv).toNat)
 case atStart => exact ⟨0, 0, Nat.zero_le _, rfl, rfl, HR.out.symm, Nat.zero_le _, Below.refl _ _⟩
 case round =>
  obtain ⟨i, k, hi, rfl, rfl, HN, HK, hb⟩ := hrel
  have HB := Lib.hid hb
  by_cases hlt : i < ms.length
  ·obtain ⟨g, o, m, e, hm, hr⟩ := HV.out.at i hlt
   subst e
   rw [Nat.mul_one] at hr
   have hr : w.cell? ⟨g, o + i, none⟩ = some (.int .i64 m) := hr
   have hmb := HM.out m (List.mem_of_getElem? hm)
   have hn := HN.out
   rw [bitsE_drop hm] at hn
   have hT : Lib.bitLen (m - 1).toNat ≤ 12 := bitLen_le (by omega)
   have HPT := Lib.hid (fun q => pow_test (q := q) hmb.1 hmb.2)
   obtain ⟨T, hTe⟩ : ∃ T, T = Lib.bitLen (m - 1).toNat := ⟨_, rfl⟩
   rw [← hTe] at hn hT HPT
   have HNN := Lib.hid hn
   have HT := Lib.hid hT
   have HR1 := Lib.hid hr
   have HI1 : Hid (i + 1 ≤ ms.length ∧ ms.length - (i + 1) < ms.length - i) := by show _ ∧ _; omega
   have ib0 : (0 : Int) ≤ (i : Int) := by omega
   have ib1 : (i : Int) < (ms.length : Int) := by omega
   have mb1 := hmb.1
   have mb2 := hmb.2
   have HK0 : Hid (k ≤ max k T) := Nat.le_max_left _ _
   clear hm hr hmb hn hT hTe hb hlt hi HN
   go_wp2
   go_loopw [3] (fun kv wr => ∃ (q : Nat), q ≤ max k T ∧ kv = .int .i64 (q : Nat) ∧ Hid (k ≤ q) ∧ Below w.heap.size w wr) (fun kv _ => max k T - (intOf kv).toNat)
   case atStart => exact ⟨k, HK0.out, rfl, Nat.le_refl _, HB.out⟩
   case round =>
    obtain ⟨q, hq, rfl, HKQ, hb⟩ := hrel
    have HB2 := Lib.hid hb
    have hq12 : q ≤ 12 := Nat.le_trans hq (Nat.max_le.2 ⟨HK.out, HT.out⟩)
    have hpw := pow_lt12 hq12
    have hp1 := hpw.1
    have hp2 := hpw.2
    have q0 : (0 : Int) ≤ (q : Int) := by omega
    have q64 : (q : Int) ≤ 64 := by omega
    have hr := cell_later HR1.out hb
    have w4 : IntKind.i64.wrap ((2 : Int) ^ q) = 2 ^ q := IntWalk.i64_in _ (by omega)
    by_cases hc : (2 : Int) ^ q < m
    ·have hqT := (HPT.out q).1 hc
     have HQ1 : Hid (q + 1 ≤ max k T ∧ max k T - (q + 1) < max k T - q ∧ k ≤ q + 1) := by
      have := HKQ.out
      have : T ≤ max k T := Nat.le_max_right _ _
      show _ ∧ _ ∧ _; omega
     clear hqT hb hpw hq hq12
     go_wp2_with fail
     go_quiet (fail)
     have HB3 := Lib.hid (below_keep HB2.out (below_drewN' wr nq))
     go_wp2
     exact ⟨⟨q + 1, HQ1.out.1, by go_num, HQ1.out.2.2, HB3.out⟩, HQ1.out.2.1⟩
    ·have hqT : ¬ q < T := fun h => hc ((HPT.out q).2 h)
     have hqe : q = max k T := Nat.le_antisymm hq (Nat.max_le.2 ⟨HKQ.out, by omega⟩)
     have hn := HNN.out
     rw [← hqe] at hn
     have HNE := Lib.hid hn
     have HQ12 : Hid (q ≤ 12) := hq12
     clear hqT hqe hn hb hpw hq hq12
     go_wp2_with fail
     go_quiet (fail)
     have HB3 := Lib.hid (below_keep HB2.out (below_drewN' wr nq))
     go_wp2
     exact ⟨⟨i + 1, q, HI1.out.1, by go_num, rfl, HNE.out, HQ12.out, HB3.out⟩, HI1.out.2⟩
  ·have hin : i = ms.length := by omega
   have hii : ¬ (i : Int) < (ms.length : Int) := by omega
   have hn := HN.out
   rw [hin, List.drop_length, bitsE] at hn
   subst hn
   clear HN hin hlt hi hb
   go_wp2
   go_ret
   exact ⟨rfl, HB.out⟩
set_option maxRecDepth 100000 in
theorem rbit_core (z D r : Int) (q : Nat) (w : World) (_q0 : (0 : Int) ≤ (q : Int)) (_q64 : (q : Int) ≤ 64) (_z0 : 0 ≤ z) (_z1 : z ≤ 4095) (hD : z / 2 ^ q = D) (_d0 : 0 ≤ D) (_d1 : D ≤ 4095) (hr : D.tmod 2 = r) (_r0 : 0 ≤ r) (_r1 : r ≤ 1) :
  Calls Tryz.prog 105 #[.int .i64 z, .int .i64 (q : Nat)] w (RetV' (.bool (r == 1)) w) := by
 have wr : IntKind.i64.wrap r = r := IntWalk.i64_in _ (by omega)
 have wd : IntKind.i64.wrap D = D := IntWalk.i64_in _ (by omega)
 go_enter Tryz.func105, Tryz.ntmps105
 go_wp2
 go_ret
 exact ⟨rfl, Below.refl _ _⟩
theorem rbit_any (x q : Nat) (w : World) (hx : x < 4096) (hq : q ≤ 12) :
  Calls Tryz.prog 105 #[.int .i64 (x : Nat), .int .i64 (q : Nat)] w (RetV' (.bool (x.testBit q)) w) := by
 have hbt := bit_test x q
 have hs : ((x : Int) / 2 ^ q) = ((x / 2 ^ q : Nat) : Int) := by norm_cast
 have hd : x / 2 ^ q ≤ x := Nat.div_le_self _ _
 obtain ⟨D, hD⟩ : ∃ D, D = x / 2 ^ q := ⟨_, rfl⟩
 rw [← hD] at hs hd hbt
 have hr : ((D : Int)).tmod 2 = ((D % 2 : Nat) : Int) := by rw [Int.tmod_eq_emod_of_nonneg (Int.natCast_nonneg _)]; norm_cast
 have h := rbit_core (x : Int) (D : Int) ((D % 2 : Nat) : Int) q w (by omega) (by omega) (by omega) (by omega) hs (by omega) (by omega) hr (by omega) (by omega)
 have ht : ((((D % 2 : Nat) : Int)) == 1) = x.testBit q := by
  cases hb : x.testBit q with
  | true => rw [hbt.2 hb]; rfl
  | false =>
   rw [beq_eq_false_iff_ne]
   intro h
   have := hbt.1 (by omega)
   rw [hb] at this; cases this
 rw [ht] at h
 exact h
end Go.Proofs.YtkliekoheeeamaaGreatDoor
/- The reference's key of the Hilbert order. -/
namespace Go.Proofs.YtkliekoheeeamaaGreatDoor
open Go.RowKit

theorem low_mod (x q : Nat) : x &&& (2 ^ q - 1) = x % 2 ^ q := Nat.and_two_pow_sub_one_eq_mod x q
/-- the low bits of two numbers exchanged -/
theorem low_swap (x y q : Nat) : x ^^^ ((x ^^^ y) &&& (2 ^ q - 1)) = x - (x &&& (2 ^ q - 1)) + (y &&& (2 ^ q - 1)) := by
 have h1 : x - x % 2 ^ q = 2 ^ q * (x / 2 ^ q) := by
  have := Nat.div_add_mod x (2 ^ q)
  omega
 rw [low_mod x, low_mod y, h1]
 apply Nat.eq_of_testBit_eq
 intro j
 rw [Nat.testBit_two_pow_mul_add _ (Nat.mod_lt _ (Nat.two_pow_pos q)), Nat.testBit_xor, Nat.testBit_and, Nat.testBit_xor, Nat.testBit_two_pow_sub_one]
 by_cases hj : j < q
 ·rw [if_pos hj, Nat.testBit_mod_two_pow, decide_eq_true hj]
  cases x.testBit j <;> cases y.testBit j <;> rfl
 ·rw [if_neg hj, decide_eq_false hj, Bool.and_false, Bool.xor_false, Nat.testBit_div_two_pow]
  congr 1; omega
theorem stN_zero {q : Nat} {Z : List Nat} {z : Nat} (hz : Z[0]? = some z) (hb : z.testBit q = false) : stN q 0 Z = Z := by
 have gz : Z.getD 0 0 = z := by rw [List.getD_eq_getElem?_getD, hz]; rfl
 unfold stN
 rw [gz, if_neg (by rw [hb]; decide), Nat.xor_self, Nat.zero_and, Nat.xor_zero, List.set_set]
 exact List.ext_getElem? fun j => by
  rw [List.getElem?_set]
  split
  ·rename_i h
   subst h
   split
   ·exact hz.symm
   ·rename_i h2
    have := (List.getElem?_eq_some_iff.1 hz).1
    omega
  ·rfl
theorem stN_bit {q i : Nat} {Z : List Nat} {z z0 : Nat} (hz : Z[i]? = some z) (hz0 : Z[0]? = some z0) (hb : z.testBit q = true) : stN q i Z = Z.set 0 (z0 ^^^ (2 ^ q - 1)) := by
 have gz : Z.getD i 0 = z := by rw [List.getD_eq_getElem?_getD, hz]; rfl
 have gz0 : Z.getD 0 0 = z0 := by rw [List.getD_eq_getElem?_getD, hz0]; rfl
 unfold stN
 rw [gz, gz0, if_pos hb]
theorem stN_no {q i : Nat} {Z : List Nat} {z z0 : Nat} (hz : Z[i]? = some z) (hz0 : Z[0]? = some z0) (hb : z.testBit q = false) : stN q i Z = (Z.set 0 (z0 - (z0 &&& (2 ^ q - 1)) + (z &&& (2 ^ q - 1)))).set i (z - (z &&& (2 ^ q - 1)) + (z0 &&& (2 ^ q - 1))) := by
 have gz : Z.getD i 0 = z := by rw [List.getD_eq_getElem?_getD, hz]; rfl
 have gz0 : Z.getD 0 0 = z0 := by rw [List.getD_eq_getElem?_getD, hz0]; rfl
 unfold stN
 rw [gz, gz0, if_neg (by rw [hb]; decide), low_swap, Nat.xor_comm z0 z, low_swap]
theorem castL_get {Z : List Nat} {i z : Nat} (h : Z[i]? = some z) : (castL Z)[i]? = some (z : Int) := by
 rw [List.getElem?_map, h]; rfl
theorem low_int {q : Nat} (hq : q ≤ 12) : ((2 : Int) ^ q - 1) = ((2 ^ q - 1 : Nat) : Int) ∧ 2 ^ q - 1 < 4096 := ⟨low_cast q, low_small hq⟩
/-- what is known of a row of numbers that is being written -/
structure KeyI (n g : Nat) (B : Nat) (W0 wr : World) (Z : List Nat) : Prop where
 len : Z.length = n
 small : SmallN Z
 row : RowZ wr g (castL Z)
 below : Below B W0 wr
theorem KeyI.set {n g B : Nat} {W0 wr : World} {Z : List Nat} (h : KeyI n g B W0 wr Z) (hg : B ≤ g) {i x : Nat} (hi : i < n) (hx : x < 4096) {u : Value} (hu : u = .int .i64 (x : Nat)) : KeyI n g B W0 (wr.setCell ⟨g, i, none⟩ u) (Z.set i x) :=
 ⟨by rw [List.length_set]; exact h.len, h.small.set hx, by rw [← castL_set]; exact h.row.set i _ (by rw [List.length_map, h.len]; exact hi) hu, h.below.setCell (p := ⟨g, i, none⟩) hg _⟩
theorem KeyI.later {n g B : Nat} {W0 wr w2 : World} {Z : List Nat} (h : KeyI n g B W0 wr Z) (hb : Below wr.heap.size wr w2) (hB : B ≤ wr.heap.size) : KeyI n g B W0 w2 Z :=
 ⟨h.len, h.small, h.row.later hb h.row.tag.lt, h.below.trans (hb.mono hB)⟩
theorem KeyI.drew {n g B : Nat} {W0 wr : World} {Z : List Nat} (h : KeyI n g B W0 wr Z) : KeyI n g B W0 wr.drew Z := ⟨h.len, h.small, h.row.kept rfl, h.below.drew⟩
theorem take_set {α : Type} {A B : List α} {i : Nat} {a b : α} (ha : A[i]? = some a) (hb : B[i]? = some b) : (A.take i ++ B.drop i).set i a = A.take (i + 1) ++ B.drop (i + 1) := by
 have hi := (List.getElem?_eq_some_iff.1 ha).1
 have hl : (A.take i).length = i := by rw [List.length_take]; omega
 rw [drop_cons hb, take_snoc' ha, List.set_append_right _ _ (by omega), hl, Nat.sub_self, List.set_cons_zero, List.append_assoc]
 rfl
/-- the first i numbers have been turned by T -/
def xorI (T : Nat) (G : List Nat) (i : Nat) : List Nat := (G.map (· ^^^ T)).take i ++ G.drop i
theorem xorI_step {T : Nat} {G : List Nat} {i c : Nat} (h : G[i]? = some c) : (xorI T G i).set i (c ^^^ T) = xorI T G (i + 1) := take_set (by rw [List.getElem?_map, h]; rfl) h
theorem xorI_at {T : Nat} {G : List Nat} {i c : Nat} (h : G[i]? = some c) : (xorI T G i)[i]? = some c := by
 have hi := (List.getElem?_eq_some_iff.1 h).1
 unfold xorI
 rw [List.getElem?_append_right (by rw [List.length_take]; omega), List.length_take, List.length_map, Nat.min_eq_left (by omega), Nat.sub_self, List.getElem?_drop, Nat.add_zero]
 exact h
theorem xorI_end {T : Nat} {G : List Nat} {n : Nat} (h : G.length = n) : xorI T G n = G.map (· ^^^ T) := by
 unfold xorI
 rw [← h, List.drop_length, List.append_nil, List.take_of_length_le (by simp)]
theorem rowB_at {T q : Nat} {G : List Nat} {i c : Nat} (h : G[i]? = some c) : (rowB T q G)[i]? = some ((c ^^^ T) / 2 ^ q % 2) := by
 unfold rowB; rw [List.getElem?_map, h]; rfl
end Go.Proofs.YtkliekoheeeamaaGreatDoor
/- The reference's key of the Hilbert order: the walk. -/
namespace Go.Proofs.YtkliekoheeeamaaGreatDoor
open Go.RowKit

/-- the row that the function makes for itself -/
theorem key_row (w : World) (u : Value) (y : List Nat) (hu : Ints w u (castL y)) (h1 : 1 ≤ y.length) (h4 : y.length ≤ 4) :
  ∃ g cap w1, (Builtin.append_ #[24, 24] 24 #[.slice (some ⟨w.heap.size, 0, none⟩) 0 0, u]).run Tryz.prog (w.alloc (.cells #[] 3)) = .ok (.slice (some ⟨g, 0, none⟩) y.length cap) w1 ∧ w.heap.size ≤ g ∧ RowZ w1 g (castL y) ∧ Below w.heap.size w w1 ∧ y.length ≤ cap := by
 have hba : Below w.heap.size w (w.alloc (.cells #[] 3)) := below_alloc _ _
 obtain ⟨v1, w1, hr1, ho1, hg1⟩ := append_ints (w.alloc (.cells #[] 3)) w.heap.size hba.size (.slice (some ⟨w.heap.size, 0, none⟩) 0 0) [] (World.ownsRow_made w #[] 0 (Nat.le_refl _) (by decide) (by simp)) u (castL y) (hu.later IntR.lasts hba) (by simp; omega) 24
 simp only [List.length_nil, Nat.zero_add, List.nil_append, List.length_map] at ho1
 have hb1 : Below w.heap.size w w1 := hba.grown hg1 hba.size (fun k e => by simp only [Value.ownBlock, Option.some.injEq] at e; omega)
 rcases ho1.2 with ⟨-, h0⟩ | ⟨g, cap, cur, e, -⟩
 ·omega
 ·subst e
  have ho2 : w1.ownsRow w.heap.size 3 1 (.slice (some ⟨g, 0, none⟩) (castL y).length cap) (castL y).length ((castL y).map (Value.int .i64)) := by rw [List.length_map]; exact ho1
  obtain ⟨h1, h2, h3, h4⟩ := RowZ.of_owns ho2
  rw [List.length_map] at h3
  exact ⟨g, cap, w1, hr1, h2, h1, hb1, h3⟩
set_option maxHeartbeats 32000000 in
set_option maxRecDepth 100000 in
theorem rkey_any (y : List Nat) (k : Nat) (v : Value) (w : World) (hv : Ints w v (castL y)) (hs : SmallN y) (h1 : 1 ≤ y.length) (h4 : y.length ≤ 4) (hk : k ≤ 12) :
  Calls Tryz.prog 83 #[v, .int .i64 (k : Nat)] w fun e w' => ∃ u, e = .returned u ∧ IntsO w' u (castL (hilB k y)) ∧ Below w.heap.size w w' := by
 obtain ⟨g, cap, W1, hrun, hg, hrow, hb1, hcap⟩ := key_row w v y hv h1 h4
 have HRUN := Lib.hid hrun
 have HB1 := Lib.hid hb1
 obtain ⟨n, hn⟩ : ∃ n, n = y.length := ⟨_, rfl⟩
 have HK0 : Hid (KeyI n g w.heap.size W1 W1 y) := ⟨hn.symm, hs, hrow, Below.refl _ _⟩
 rw [← hn] at HRUN h1 h4 hcap
 have HNN := Lib.hid hn
 have HG : Hid (w.heap.size ≤ g) := hg
 obtain ⟨p0, k0, rfl, -⟩ := hv.shape
 rw [List.length_map, ← hn] at HRUN ⊢
 obtain ⟨i0, hi0, hz0, hz1, hz2⟩ := info_parts infoZ
 have HBI := Lib.hid (fun (x q : Nat) w9 (hx : x < 4096) (hq : q ≤ 12) => rbit_any x q w9 hx hq)
 have n0 : (0 : Int) < (n : Int) := by omega
 have n4 : (n : Int) ≤ 4 := by omega
 have kk0 : (0 : Int) ≤ (k : Int) := by omega
 have kk12 : (k : Int) ≤ 12 := by omega
 clear hv hs hrun hrow hb1 hn hg
 go_enter Tryz.func83, Tryz.ntmps83
 let KF : (Ending → World → Prop) → Exit → Act → World → Prop := bodyPost Tryz.prog Tryz.f83
 go_wp2_with (at_builtin; refine Lib.wpList_append_run _ rfl _ _ _ _ rfl _ _ rfl rfl _ _ HRUN.out ?_)
 go_wp2
 go_loopw [6] (fun qv wr => ∃ (p : Nat) (Y : List Nat), p ≤ k ∧ qv = .int .i64 ((p : Int) - 1) ∧ Hid (outN n p Y = outN n k y) ∧ KeyI n g w.heap.size W1 wr Y) (fun qv _ => (intOf qv + 1).toNat)
 case atStart => exact ⟨k, y, Nat.le_refl _, rfl, rfl, HK0.out⟩
 case round =>
  obtain ⟨p, Y, hp, rfl, HO, hki⟩ := hrel
  have HKI := Lib.hid hki
  clear hki
  rcases Nat.lt_or_ge p 2 with hq | hq
  ·have hY : Y = outN n k y := by
    rw [← HO.out]
    have : p = 0 ∨ p = 1 := by omega
    rcases this with rfl | rfl <;> rfl
   have HY := Lib.hid hY
   have hqn : ¬ (1 : Int) ≤ (p : Int) - 1 := by omega
   clear hq HO hY hp HK0
   go_wp2
   go_loopw [11] (fun iv wr => ∃ (i : Nat) (Z : List Nat), 1 ≤ i ∧ i ≤ n ∧ iv = .int .i64 (i : Nat) ∧ Hid (grayN (n - i) i Z = grayN (n - 1) 1 Y) ∧ KeyI n g w.heap.size W1 wr Z) (fun iv _ => n - (intOf iv).toNat)
   case atStart => exact ⟨1, Y, Nat.le_refl _, h1, rfl, rfl, HKI.out⟩
   case round =>
    obtain ⟨i, Z, hi1, hi, rfl, HI, hki⟩ := hrel
    have HZI := Lib.hid hki
    by_cases hlt : i < n
    ·obtain ⟨j, hj⟩ : ∃ j, j + 1 = i := ⟨i - 1, by omega⟩
     obtain ⟨z, hz⟩ : ∃ z, Z[i]? = some z := ⟨_, List.getElem?_eq_getElem (by rw [hki.len]; exact hlt)⟩
     obtain ⟨z0, hz0⟩ : ∃ z0, Z[j]? = some z0 := ⟨_, List.getElem?_eq_getElem (by rw [hki.len]; omega)⟩
     have hzs := hki.small z (List.mem_of_getElem? hz)
     have hz0s := hki.small z0 (List.mem_of_getElem? hz0)
     have ci := hki.row.cell i _ (castL_get hz)
     have cj := hki.row.cell j _ (castL_get hz0)
     have fi := hki.row.free i
     have gz : Z.getD i 0 = z := by rw [List.getD_eq_getElem?_getD, hz]; rfl
     have gz0 : Z.getD (i - 1) 0 = z0 := by rw [show i - 1 = j by omega, List.getD_eq_getElem?_getD, hz0]; rfl
     obtain ⟨N1, hN1⟩ : ∃ N1, N1 = z ^^^ z0 := ⟨_, rfl⟩
     have hx : bits .xor .i64 (z : Int) (z0 : Int) = (N1 : Int) := by
      rw [hN1]
      exact bits_xor_nat (Nat.lt_trans hzs (by decide)) (Nat.lt_trans hz0s (by decide))
     have hN1s : N1 < 4096 := by rw [hN1]; exact xor_small hzs hz0s
     have HSZ : Hid (w.heap.size ≤ wr.heap.size) := Nat.le_trans HB1.out.size hki.below.size
     have HKE : Hid (KeyI n g w.heap.size W1 (wr.setCell ⟨g, i, none⟩ (.int .i64 (N1 : Nat))).drew (Z.set i N1)) :=
      (HZI.out.set HG.out hlt hN1s rfl).drew
     have HIN : Hid (grayN (n - (i + 1)) (i + 1) (Z.set i N1) = grayN (n - 1) 1 Y) := by
      have := HI.out
      rw [show n - i = (n - (i + 1)) + 1 from by omega, grayN, gz, gz0, ← hN1] at this
      exact this
     have HI1 : Hid (1 ≤ i + 1 ∧ i + 1 ≤ n ∧ n - (i + 1) < n - i) := by show _ ∧ _ ∧ _; omega
     have i0 : (0 : Int) ≤ (i : Int) := by omega
     have i1 : (i : Int) < (n : Int) := by omega
     have j0 : (0 : Int) ≤ (j : Int) := by omega
     have j1 : (j : Int) < (n : Int) := by omega
     have wj : IntKind.i64.wrap ((i : Int) - 1) = (j : Int) := by rw [show (i : Int) - 1 = (j : Int) from by omega]; exact IntWalk.i64_in _ (by omega)
     clear hz hz0 hzs hz0s hki gz gz0 hN1 hN1s hj hlt hi hi1 HI
     go_wp2_with fail
     go_region
     clear wj
     go_wp2
     exact ⟨⟨i + 1, _, HI1.out.1, HI1.out.2.1, by go_num, HIN.out, HKE.out⟩, HI1.out.2.2⟩
    ·have hin : i = n := by omega
     have hni : ¬ (i : Int) < (n : Int) := by omega
     have hie := HI.out
     rw [hin, Nat.sub_self, grayN] at hie
     obtain ⟨m1, hm1⟩ : ∃ m1, m1 + 1 = n := ⟨n - 1, by omega⟩
     obtain ⟨zl, hzl⟩ : ∃ zl, Z[m1]? = some zl := ⟨_, List.getElem?_eq_getElem (by rw [hki.len]; omega)⟩
     have hzls := hki.small zl (List.mem_of_getElem? hzl)
     have HHIL : Hid (hilB k y = bitsB (tN zl k 0) Z k) := by
      show _ = _
      have gl : Z.getD (n - 1) 0 = zl := by rw [show n - 1 = m1 by omega, List.getD_eq_getElem?_getD, hzl]; rfl
      unfold hilB
      dsimp only
      rw [← HNN.out, ← HY.out, ← hie, gl]
     have HZL := Lib.hid hzl
     have HZLS := Lib.hid hzls
     have m0 : (0 : Int) ≤ (m1 : Int) := by omega
     have m9 : (m1 : Int) < (n : Int) := by omega
     have wm : IntKind.i64.wrap ((n : Int) - 1) = (m1 : Int) := by rw [show (n : Int) - 1 = (m1 : Int) from by omega]; exact IntWalk.i64_in _ (by omega)
     clear hie hin hlt hi hi1 hki HI hm1 hzl hzls HKI HY
     go_wp2
     go_loopw [12, 13] (fun tv qv wr => ∃ (p T : Nat), p ≤ k ∧ tv = .int .i64 (T : Nat) ∧ qv = .int .i64 ((p : Int) - 1) ∧ Hid (tN zl p T = tN zl k 0) ∧ Hid (T < 4096) ∧ KeyI n g w.heap.size W1 wr Z) (fun _ qv _ => (intOf qv + 1).toNat)
     case atStart => exact ⟨k, 0, Nat.le_refl _, rfl, rfl, rfl, (show (0 : Nat) < 4096 by omega), HZI.out⟩
     case round =>
      obtain ⟨p, T, hp, rfl, rfl, HT, HTS, hki⟩ := hrel
      have HKI := Lib.hid hki
      rcases Nat.lt_or_ge p 2 with hq | hq
      ·have hTE : T = tN zl k 0 := by
        rw [← HT.out]
        have : p = 0 ∨ p = 1 := by omega
        rcases this with rfl | rfl <;> rfl
       have HB0 : Hid (hilB k y = bitsB T Z k) := by show _ = _; rw [hTE]; exact HHIL.out
       have hqn : ¬ (1 : Int) ≤ (p : Int) - 1 := by omega
       clear hq HT hTE hp hki wm HZI
       go_wp2
       go_loopw [14] (fun iv wr => ∃ (i : Nat), i ≤ n ∧ iv = .int .i64 (i : Nat) ∧ KeyI n g w.heap.size W1 wr (xorI T Z i)) (fun iv _ => n - (intOf iv).toNat)
       case atStart => exact ⟨0, Nat.zero_le _, rfl, HKI.out⟩
       case round =>
        obtain ⟨i, hi, rfl, hki⟩ := hrel
        by_cases hlt : i < n
        ·obtain ⟨c, hc⟩ : ∃ c, Z[i]? = some c := ⟨_, List.getElem?_eq_getElem (by rw [HKI.out.len]; exact hlt)⟩
         have hcs := HKI.out.small c (List.mem_of_getElem? hc)
         have ci := hki.row.cell i _ (castL_get (xorI_at hc))
         have fi := hki.row.free i
         obtain ⟨N1, hN1⟩ : ∃ N1, N1 = c ^^^ T := ⟨_, rfl⟩
         have hx : bits .xor .i64 (c : Int) (T : Int) = (N1 : Int) := by
          rw [hN1]
          exact bits_xor_nat (Nat.lt_trans hcs (by decide)) (Nat.lt_trans HTS.out (by decide))
         have HKE : Hid (KeyI n g w.heap.size W1 (wr.setCell ⟨g, i, none⟩ (.int .i64 (N1 : Nat))) (xorI T Z (i + 1))) := by
          show KeyI _ _ _ _ _ _
          rw [← xorI_step hc, ← hN1]
          exact hki.set HG.out hlt (by rw [hN1]; exact xor_small hcs HTS.out) rfl
         have HI1 : Hid (i + 1 ≤ n ∧ n - (i + 1) < n - i) := by show _ ∧ _; omega
         have i0 : (0 : Int) ≤ (i : Int) := by omega
         have i1 : (i : Int) < (n : Int) := by omega
         clear hc hcs hN1 hki hlt hi
         go_wp2
         exact ⟨⟨i + 1, HI1.out.1, by go_num, HKE.out⟩, HI1.out.2⟩
        ·have hin : i = n := by omega
         have hni : ¬ (i : Int) < (n : Int) := by omega
         rw [hin, xorI_end HKI.out.len] at hki
         obtain ⟨We, hWe⟩ : ∃ We, We = wr := ⟨_, rfl⟩
         rw [← hWe] at hki ⊢
         have HKX := Lib.hid hki
         have HWG : Hid (g < We.heap.size) := hki.row.tag.lt
         have HBW : Hid (Below w.heap.size w We) := HB1.out.trans hki.below
         have HLB := Lib.hid (bitsB_length T Z k)
         clear hin hlt hi hki hWe
         go_wp2
         go_loopw [15, 16] (fun ov qv wr => ∃ (p : Nat) (D : List Nat), p ≤ k ∧ qv = .int .i64 ((p : Int) - 1) ∧ wr.ownsRow We.heap.size 3 1 ov D.length ((castL D).map (Value.int .i64)) ∧ Hid (D ++ bitsB T Z p = bitsB T Z k) ∧ Below We.heap.size We wr) (fun _ qv _ => (intOf qv + 1).toNat)
         case atStart => exact ⟨k, [], Nat.le_refl _, rfl, World.ownsRow_nil _ _ _ _, rfl, Below.refl _ _⟩
         case round =>
          obtain ⟨p, D, hp, rfl, how, HD, hb⟩ := hrel
          have HOW := Lib.hid how
          have HBE := Lib.hid hb
          rcases Nat.eq_zero_or_pos p with hq | hq
          ·have hqn : ¬ (0 : Int) ≤ (p : Int) - 1 := by omega
           have hd := HD.out
           rw [hq, show bitsB T Z 0 = [] from rfl, List.append_nil] at hd
           have hI := RowZ.append_owns (l := castL D) HOW.out (by simp)
           rw [hd, ← HB0.out] at hI
           have HI := Lib.hid hI
           have HBF := Lib.hid (below_keep HBW.out hb)
           clear hq hd hI hp how hb HD
           go_wp2
           go_ret
           exact ⟨_, rfl, HI.out, HBF.out⟩
          ·obtain ⟨q, hqe⟩ : ∃ q, q + 1 = p := ⟨p - 1, by omega⟩
           have e1 : (p : Int) - 1 = (q : Int) := by omega
           have hd := HD.out
           rw [← hqe, bitsB] at hd
           have HD2 := Lib.hid hd
           have q0 : (0 : Int) ≤ (q : Int) := by omega
           have q64 : (q : Int) ≤ 64 := by omega
           have q12 : (q : Int) ≤ 12 := by omega
           have Q12 : Hid (q ≤ 12 ∧ q ≤ k) := by show _ ∧ _; omega
           rw [e1]
           have hqw : IntKind.i64.wrap ((q : Int) - 1) = (q : Int) - 1 := IntWalk.i64_in _ (by omega)
           clear hq hqe hd hp hb HD how
           go_wp2
           go_loopw [15, 17] (fun ov iv wr => ∃ (i : Nat), i ≤ n ∧ iv = .int .i64 (i : Nat) ∧ wr.ownsRow We.heap.size 3 1 ov (D ++ (rowB T q Z).take i).length ((castL (D ++ (rowB T q Z).take i)).map (Value.int .i64)) ∧ Below We.heap.size We wr) (fun _ iv _ => n - (intOf iv).toNat)
           case atStart => exact ⟨0, Nat.zero_le _, rfl, (by rw [List.take_zero, List.append_nil]; exact HOW.out), HBE.out⟩
           case round =>
            obtain ⟨i, hi, rfl, how, hb⟩ := hrel
            obtain ⟨la, hla⟩ : ∃ la, la = D ++ (rowB T q Z).take i := ⟨_, rfl⟩
            rw [← hla] at how
            have HOW2 := Lib.hid how
            have HB2 := Lib.hid hb
            by_cases hlt : i < n
            ·obtain ⟨c, hc⟩ : ∃ c, Z[i]? = some c := ⟨_, List.getElem?_eq_getElem (by rw [HKI.out.len]; exact hlt)⟩
             have hcs := HKI.out.small c (List.mem_of_getElem? hc)
             have hrow := HKX.out.row.later hb HWG.out
             obtain ⟨N1, hN1⟩ : ∃ N1, N1 = c ^^^ T := ⟨_, rfl⟩
             have hN1s : N1 < 4096 := by rw [hN1]; exact xor_small hcs HTS.out
             have ci := hrow.cell i (N1 : Int) (by rw [List.getElem?_map, List.getElem?_map, hc, hN1]; rfl)
             have hrb := rowB_at (T := T) (q := q) hc
             rw [← hN1] at hrb
             have hdv : (N1 : Int) / 2 ^ q = ((N1 / 2 ^ q : Nat) : Int) := by norm_cast
             have hdl : N1 / 2 ^ q ≤ N1 := Nat.div_le_self _ _
             obtain ⟨Dv, hDv⟩ : ∃ Dv, Dv = N1 / 2 ^ q := ⟨_, rfl⟩
             rw [← hDv] at hdv hdl hrb
             have hrm : ((Dv : Int)).tmod 2 = ((Dv % 2 : Nat) : Int) := by rw [Int.tmod_eq_emod_of_nonneg (Int.natCast_nonneg _)]; norm_cast
             obtain ⟨r, hr⟩ : ∃ r, r = Dv % 2 := ⟨_, rfl⟩
             rw [← hr] at hrb hrm
             have hr2 : r ≤ 1 := by omega
             have wd : IntKind.i64.wrap (Dv : Int) = (Dv : Int) := IntWalk.i64_in _ (by omega)
             have wr1 : IntKind.i64.wrap (r : Int) = (r : Int) := IntWalk.i64_in _ (by omega)
             have nb0 : (0 : Int) ≤ (N1 : Int) := by omega
             have nb1 : (N1 : Int) ≤ 4095 := by omega
             have HSN : Hid (la ++ [r] = D ++ (rowB T q Z).take (i + 1)) := by show _ = _; rw [take_snoc' hrb, ← List.append_assoc, hla]
             have hll : la.length ≤ 900 := by
              have h1 : la.length + 0 ≤ (bitsB T Z k).length := by
               rw [← HD2.out, hla, List.length_append, List.length_append, List.length_append, List.length_take]; omega
              rw [HLB.out, HKI.out.len] at h1
              have : k * n ≤ 12 * 4 := Nat.mul_le_mul (by omega) (by omega)
              omega
             have hge : We.heap.size ≤ wr.heap.size := hb.size
             have HI1 : Hid (i + 1 ≤ n ∧ n - (i + 1) < n - i) := by show _ ∧ _; omega
             have i0' : (0 : Int) ≤ (i : Int) := by omega
             have i1' : (i : Int) < (n : Int) := by omega
             have hg1 : g < wr.heap.size := Nat.lt_of_lt_of_le HWG.out hge
             have hg2 : g ≠ wr.heap.size := Nat.ne_of_lt hg1
             have how' : wr.ownsRow We.heap.size 3 1 _ la.length ((castL la).map (Value.int .i64)) := how
             clear hc hcs hrow hN1 hN1s hrb hDv hdl hr hr2 hla hlt hi hb how
             go_wp2_with (at_builtin; refine wpList_append_lies _ (by rfl) _ _ 24 (by rfl) We.heap.size 3 i0 (.int .i64 0) 1 8 Tryz.underlying24 hi0 hz0 hz1 hz2 rfl (by decide) _ la.length ((castL la).map (Value.int .i64)) (by rfl) (how'.alloc _) ⟨wr.heap.size, 0, none⟩ 1 1 [.int .i64 (r : Int)] (by rfl) (by rfl) (cell_one_new _ _ _) (by simp [Value.oneCell']) (by omega) (by unfold maxLen; omega) (by omega) (by simp; omega) (wr.heap.size + 1) (by simp) ?_)
             intro g7 cp1 w6 hown hgrow hat hlt6
             have hbd : Below wr.heap.size wr (wr.alloc (.cells #[.int .i64 (r : Int)] 3)) := below_alloc _ _
             have HB6 := Lib.hid (HB2.out.trans ((hbd.mono hge).grown hgrow (Nat.le_trans hge hbd.size) (fun k e => (HOW2.out.lt k e).1)))
             have HOE : Hid (w6.ownsRow We.heap.size 3 1 (.slice (some ⟨g7, 0, none⟩) (la.length + 1) cp1) (D ++ (rowB T q Z).take (i + 1)).length ((castL (D ++ (rowB T q Z).take (i + 1))).map (Value.int .i64))) := by
              show World.ownsRow _ _ _ _ _ _ _
              rw [← HSN.out]
              simpa [castL] using hown
             clear hown hgrow hat hlt6 hbd how'
             go_wp2
             exact ⟨⟨i + 1, HI1.out.1, by go_num, HOE.out, HB6.out⟩, HI1.out.2⟩
            ·have hin : i = n := by omega
             have hni' : ¬ (i : Int) < (n : Int) := by omega
             have hlr : (rowB T q Z).length = n := by unfold rowB; rw [List.length_map]; exact HKI.out.len
             rw [hin, List.take_of_length_le (by omega)] at hla
             have HD3 : Hid (la ++ bitsB T Z q = bitsB T Z k) := by show _ = _; rw [hla, List.append_assoc]; exact HD2.out
             clear hin hlt hi hb hla hlr how
             go_wp2
             exact ⟨⟨q, la, Q12.out.2, rfl, HOW2.out, HD3.out, HB2.out⟩, by simp [intOf]⟩
      ·obtain ⟨q, hqe⟩ : ∃ q, q + 1 = p := ⟨p - 1, by omega⟩
       have e1 : (p : Int) - 1 = (q : Int) := by omega
       have hon := HT.out
       obtain ⟨r, hr⟩ : ∃ r, p = r + 2 := ⟨p - 2, by omega⟩
       rw [hr, tN, show r + 1 = q by omega] at hon
       have HO2 := Lib.hid hon
       have q12 : q ≤ 12 := by omega
       have q1 : (1 : Int) ≤ (q : Int) := by omega
       have q0 : (0 : Int) ≤ (q : Int) := by omega
       have q64 : (q : Int) ≤ 64 := by omega
       have Q12 : Hid (q ≤ 12 ∧ q ≤ k ∧ q + 1 = p) := by show _ ∧ _ ∧ _; omega
       have hpw := pow_lt12 q12
       have hL1 := hpw.2
       have hL2 := hpw.1
       rw [e1]
       have w4 : IntKind.i64.wrap ((2 : Int) ^ q) = 2 ^ q := IntWalk.i64_in _ (by omega)
       have w5 : IntKind.i64.wrap ((2 : Int) ^ q - 1) = 2 ^ q - 1 := IntWalk.i64_in _ (by omega)
       have LW := low_int q12
       obtain ⟨L, hL⟩ : ∃ L, L = 2 ^ q - 1 := ⟨_, rfl⟩
       rw [← hL] at LW
       have LW1 := LW.1
       have HL4 := Lib.hid LW.2
       have hqw : IntKind.i64.wrap ((q : Int) - 1) = (q : Int) - 1 := IntWalk.i64_in _ (by omega)
       have cl := hki.row.cell m1 _ (castL_get HZL.out)
       have CB := Lib.hid (HBI.out zl q wr HZLS.out q12)
       obtain ⟨bt, hbt⟩ : ∃ bt, bt = zl.testBit q := ⟨_, rfl⟩
       rw [← hbt, ← hL] at HO2
       rw [← hbt] at CB
       have HSZ : Hid (w.heap.size ≤ wr.heap.size) := Nat.le_trans HB1.out.size hki.below.size
       obtain ⟨N1, hN1⟩ : ∃ N1, N1 = T ^^^ L := ⟨_, rfl⟩
       have hx : bits .xor .i64 (T : Int) (L : Int) = (N1 : Int) := by
        rw [hN1]
        exact bits_xor_nat (Nat.lt_trans HTS.out (by decide)) (Nat.lt_trans HL4.out (by decide))
       have HN1 : Hid (N1 < 4096) := by show _ < _; rw [hN1]; exact xor_small HTS.out HL4.out
       rw [← hN1] at HO2
       clear hq HT hon hr hp hqe q12 hpw LW hL hbt hN1 hki
       go_wp2_with fail
       refine CB.out.mono ?_
       rintro e w2 ⟨rfl, hb2⟩
       have HK2 := Lib.hid (HKI.out.later hb2 HSZ.out)
       clear hb2 CB cl
       cases bt with
       | true =>
        have HO3 : Hid (tN zl q N1 = tN zl k 0) := HO2.out
        clear HO2
        go_wp2
        exact ⟨⟨q, N1, Q12.out.2.1, rfl, rfl, HO3.out, HN1.out, HK2.out⟩, by simp [intOf]⟩
       | false =>
        have HO3 : Hid (tN zl q T = tN zl k 0) := HO2.out
        clear HO2
        go_wp2
        exact ⟨⟨q, T, Q12.out.2.1, rfl, rfl, HO3.out, HTS.out, HK2.out⟩, by simp [intOf]⟩
  ·obtain ⟨q, hqe⟩ : ∃ q, q + 1 = p := ⟨p - 1, by omega⟩
   have HQE := Lib.hid hqe
   have e1 : (p : Int) - 1 = (q : Int) := by omega
   have hon := HO.out
   obtain ⟨r, hr⟩ : ∃ r, p = r + 2 := ⟨p - 2, by omega⟩
   rw [hr, outN, show r + 1 = q by omega] at hon
   have HO2 := Lib.hid hon
   have q12 : q ≤ 12 := by omega
   have qg : ¬ (q : Int) < 1 := by omega
   have q1 : (1 : Int) ≤ (q : Int) := by omega
   have q0 : (0 : Int) ≤ (q : Int) := by omega
   have q64 : (q : Int) ≤ 64 := by omega
   have Q12 : Hid (q ≤ 12 ∧ q ≤ k ∧ q + 1 = p) := by show _ ∧ _ ∧ _; omega
   have hpw := pow_lt12 q12
   have hL1 := hpw.2
   have hL2 := hpw.1
   rw [e1]
   have w4 : IntKind.i64.wrap ((2 : Int) ^ q) = 2 ^ q := IntWalk.i64_in _ (by omega)
   have w5 : IntKind.i64.wrap ((2 : Int) ^ q - 1) = 2 ^ q - 1 := IntWalk.i64_in _ (by omega)
   have LW := low_int q12
   obtain ⟨L, hL⟩ : ∃ L, L = 2 ^ q - 1 := ⟨_, rfl⟩
   rw [← hL] at LW
   have LW1 := LW.1
   have HLE := Lib.hid hL
   have HL4 := Lib.hid LW.2
   clear hq HO hon hr hp hqe q12 hpw HK0 LW hL
   go_wp2
   go_loopw [8] (fun iv wr => ∃ (i : Nat) (Z : List Nat), i ≤ n ∧ iv = .int .i64 (i : Nat) ∧ Hid (inN q (n - i) i Z = inN q n 0 Y) ∧ KeyI n g w.heap.size W1 wr Z) (fun iv _ => n - (intOf iv).toNat)
   case atStart => exact ⟨0, Y, Nat.zero_le _, rfl, rfl, HKI.out⟩
   case round =>
    obtain ⟨i, Z, hi, rfl, HI, hki⟩ := hrel
    have HZI := Lib.hid hki
    by_cases hlt : i < n
    ·have HIN : Hid (inN q (n - (i + 1)) (i + 1) (stN q i Z) = inN q n 0 Y) := by
      have := HI.out
      rw [show n - i = (n - (i + 1)) + 1 from by omega, inN] at this
      exact this
     obtain ⟨z, hz⟩ : ∃ z, Z[i]? = some z := ⟨_, List.getElem?_eq_getElem (by rw [hki.len]; exact hlt)⟩
     obtain ⟨z0, hz0⟩ : ∃ z0, Z[0]? = some z0 := ⟨_, List.getElem?_eq_getElem (by rw [hki.len]; omega)⟩
     have hzs := hki.small z (List.mem_of_getElem? hz)
     have hz0s := hki.small z0 (List.mem_of_getElem? hz0)
     have hci := hki.row.cell i _ (castL_get hz)
     have HZ := Lib.hid hz
     have HZ0 := Lib.hid hz0
     have HZS := Lib.hid (And.intro hzs hz0s)
     have HSZ : Hid (w.heap.size ≤ wr.heap.size) := Nat.le_trans HB1.out.size hki.below.size
     have HI1 : Hid (i + 1 ≤ n ∧ n - (i + 1) < n - i ∧ i < n) := by show _ ∧ _ ∧ _; omega
     have i0 : (0 : Int) ≤ (i : Int) := by omega
     have i1 : (i : Int) < (n : Int) := by omega
     have CB := Lib.hid (HBI.out z q wr hzs Q12.out.1)
     obtain ⟨bt, hbt⟩ : ∃ bt, bt = z.testBit q := ⟨_, rfl⟩
     rw [← hbt] at CB
     have HBT := Lib.hid hbt
     clear hz hz0 hzs hz0s hbt hki hlt hi HI
     go_wp2_with fail
     refine CB.out.mono ?_
     rintro e w2 ⟨rfl, hb2⟩
     have hk2 := HZI.out.later hb2 HSZ.out
     have HK2 := Lib.hid hk2
     have c0 := hk2.row.cell 0 _ (castL_get HZ0.out)
     have ci := hk2.row.cell i _ (castL_get HZ.out)
     have f0 := hk2.row.free 0
     have fi := hk2.row.free i
     have HSZ2 : Hid (w.heap.size ≤ w2.heap.size) := Nat.le_trans HSZ.out hb2.size
     clear hk2 hb2 CB hci
     cases bt with
     | true =>
      obtain ⟨N1, hN1⟩ : ∃ N1, N1 = z0 ^^^ L := ⟨_, rfl⟩
      have hx : bits .xor .i64 (z0 : Int) (L : Int) = (N1 : Int) := by
       rw [hN1]
       exact bits_xor_nat (Nat.lt_trans HZS.out.2 (by decide)) (Nat.lt_trans HL4.out (by decide))
      have HST := Lib.hid (stN_bit HZ.out HZ0.out HBT.out.symm)
      have HKE : Hid (∀ u, u = .int .i64 (N1 : Nat) → KeyI n g w.heap.size W1 (w2.setCell ⟨g, 0, none⟩ u) (stN q i Z)) := fun u hu => by
       rw [HST.out, ← HLE.out, ← hN1]
       exact HK2.out.set HG.out (by have := HI1.out.2.2; omega) (by rw [hN1]; exact xor_small HZS.out.2 HL4.out) hu
      clear hN1
      go_wp2
      exact ⟨⟨i + 1, _, HI1.out.1, by go_num, HIN.out, HKE.out _ rfl⟩, HI1.out.2.1⟩
     | false =>
      by_cases hi0 : i = 0
      ·have hig : ¬ (0 : Int) < (i : Int) := by omega
       have HST : Hid (stN q i Z = Z) := by
        show _ = _
        have hz := HZ.out
        rw [hi0] at hz ⊢
        exact stN_zero hz HBT.out.symm
       clear hi0
       go_wp2
       exact ⟨⟨i + 1, Z, HI1.out.1, by go_num, (by show _ = _; rw [← HIN.out, HST.out]), HK2.out⟩, HI1.out.2.1⟩
      ·have hig : (0 : Int) < (i : Int) := by omega
       have HST := Lib.hid (stN_no HZ.out HZ0.out HBT.out.symm)
       rw [← HLE.out] at HST
       obtain ⟨A, hA⟩ : ∃ A, A = z0 &&& L := ⟨_, rfl⟩
       obtain ⟨B, hB⟩ : ∃ B, B = z &&& L := ⟨_, rfl⟩
       have a1 : bits .and .i64 (z0 : Int) (L : Int) = (A : Int) := by rw [hA]; exact bits_and_nat (Nat.lt_trans HZS.out.2 (by decide)) (Nat.lt_trans HL4.out (by decide))
       have a2 : bits .and .i64 (z : Int) (L : Int) = (B : Int) := by rw [hB]; exact bits_and_nat (Nat.lt_trans HZS.out.1 (by decide)) (Nat.lt_trans HL4.out (by decide))
       have hAle : A ≤ z0 := by rw [hA]; exact Nat.and_le_left
       have hBle : B ≤ z := by rw [hB]; exact Nat.and_le_left
       have hzs := HZS.out
       obtain ⟨N1, hN1⟩ : ∃ N1, N1 = z0 - A + B := ⟨_, rfl⟩
       obtain ⟨N2, hN2⟩ : ∃ N2, N2 = z - B + A := ⟨_, rfl⟩
       rw [← hA, ← hB, ← hN1, ← hN2] at HST
       have hlow := low_swap z0 z q
       have hlow2 := low_swap z z0 q
       rw [← HLE.out, ← hA, ← hB, ← hN1] at hlow
       rw [← HLE.out, ← hA, ← hB, ← hN2] at hlow2
       have hN1s : N1 < 4096 := by rw [← hlow]; exact xor_small hzs.2 (and_small HL4.out)
       have hN2s : N2 < 4096 := by rw [← hlow2]; exact xor_small hzs.1 (and_small HL4.out)
       have s1 : IntKind.i64.wrap ((z0 : Int) - (A : Int)) = (z0 : Int) - (A : Int) := IntWalk.i64_in _ (by omega)
       have s2 : IntKind.i64.wrap ((z0 : Int) - (A : Int) + (B : Int)) = (N1 : Int) := by rw [show (z0 : Int) - (A : Int) + (B : Int) = (N1 : Int) from by omega]; exact IntWalk.i64_in _ (by omega)
       have s3 : IntKind.i64.wrap ((z : Int) - (B : Int)) = (z : Int) - (B : Int) := IntWalk.i64_in _ (by omega)
       have s4 : IntKind.i64.wrap ((z : Int) - (B : Int) + (A : Int)) = (N2 : Int) := by rw [show (z : Int) - (B : Int) + (A : Int) = (N2 : Int) from by omega]; exact IntWalk.i64_in _ (by omega)
       have HK3 : Hid (∀ nq, KeyI n g w.heap.size W1 ((w2.drewN nq).setCell ⟨g, 0, none⟩ (.int .i64 (N1 : Nat))) (Z.set 0 N1)) := fun nq =>
        (HK2.out.later (below_drewN' w2 nq) HSZ2.out).set HG.out (by have := HI1.out.2.2; omega) hN1s rfl
       have HK4 : Hid (∀ nq, KeyI n g w.heap.size W1 (((w2.drewN nq).setCell ⟨g, 0, none⟩ (.int .i64 (N1 : Nat))).setCell ⟨g, i, none⟩ (.int .i64 (N2 : Nat))) (stN q i Z)) := fun nq => by
        rw [HST.out]
        exact (HK3.out nq).set HG.out HI1.out.2.2 hN2s rfl
       have HZI0 : Hid ((Z.set 0 N1)[i]? = some z) := by
        show _ = _
        rw [List.getElem?_set_ne (by omega)]; exact HZ.out
       clear hA hB hN1 hN2 hlow hlow2 hAle hBle hN1s hN2s hzs hi0
       go_wp2_with fail
       go_quiet (fail)
       have hci2 := (HK3.out nq).row.cell i _ (castL_get HZI0.out)
       have hfi2 := (HK3.out nq).row.free i
       go_wp2
       exact ⟨⟨i + 1, _, HI1.out.1, by go_num, HIN.out, HK4.out nq⟩, HI1.out.2.1⟩
    ·have hin : i = n := by omega
     have hni : ¬ (i : Int) < (n : Int) := by omega
     have hie := HI.out
     rw [hin, Nat.sub_self, inN] at hie
     have HOE : Hid (outN n q Z = outN n k y) := by
      show _ = _
      rw [← HO2.out, hie]
     have hqw : IntKind.i64.wrap ((q : Int) - 1) = (q : Int) - 1 := IntWalk.i64_in _ (by omega)
     clear hie hin hlt hi hki HI
     go_wp2
     exact ⟨⟨q, Z, Q12.out.2.1, rfl, HOE.out, HZI.out⟩, by simp [intOf]⟩
end Go.Proofs.YtkliekoheeeamaaGreatDoor
/- The reference's sortKey. -/
namespace Go.Proofs.YtkliekoheeeamaaGreatDoor
open Go.RowKit
attribute [local go_sem] Oper.semAt_some

def RetIn (l : List Int) (w : World) (e : Ending) (w' : World) : Prop := ∃ u, e = .returned u ∧ IntsO w' u l ∧ Below w.heap.size w w'
theorem lay_at (w : World) (vs vo : Value) (o t f c : Int) : ∃ W1, W1 = w.alloc (.cells #[vs, vo, .int .i64 o, .int .i64 t, .int .i64 f, .int .i64 c] 32) ∧ Below w.heap.size w W1 ∧ ∀ w', Below W1.heap.size W1 w' → w'.cell? ⟨w.heap.size, 2, none⟩ = some (.int .i64 o) ∧ w'.cell? ⟨w.heap.size, 3, none⟩ = some (.int .i64 t) := by
 refine ⟨_, rfl, below_alloc _ _, fun w' hb => ?_⟩
 have hc : ∀ j, w'.cell? ⟨w.heap.size, j, none⟩ = (w.alloc (.cells #[vs, vo, .int .i64 o, .int .i64 t, .int .i64 f, .int .i64 c] 32)).cell? ⟨w.heap.size, j, none⟩ := fun j => hb.cell (p := ⟨w.heap.size, j, none⟩) (by simp)
 refine ⟨?_, ?_⟩ <;> (rw [hc, World.cell?_alloc_at _ _ _ _ rfl]; rfl)
set_option maxHeartbeats 16000000 in
set_option maxRecDepth 100000 in
theorem rsortKey_any (vs vo : Value) (l : LayT) (y : List Int) (k : Nat) (v : Value) (w : World) (hl : LayR w vs vo l) (hv : Ints w v y) (hy : ∀ c ∈ y, 0 ≤ c ∧ c ≤ 4095) (h1 : 1 ≤ y.length) (h4 : y.length ≤ 4) (hk : k ≤ 12) (ho : orderedB l.order l.tile = true) :
  Calls Tryz.prog 44 #[layV vs vo l, v, .int .i64 (k : Nat)] w (RetIn (rkeyF l.order l.tile k y) w) := by
 obtain ⟨p1, k1, rfl, -⟩ := hl.sides.shape
 obtain ⟨p2, k2, rfl, -⟩ := hl.over.shape
 obtain ⟨ss, oo, o, t, f, c'⟩ := l
 simp only at ho ⊢
 have HV := Lib.hid hv
 have HY := Lib.hid hy
 obtain ⟨R, hR⟩ : ∃ R, R = rkeyF o t k y := ⟨_, rfl⟩
 rw [← hR]
 have HR := Lib.hid hR
 obtain ⟨W1, hW1, hb1, hbx⟩ := lay_at w (.slice p1 ss.length k1) (.slice p2 oo.length k2) o t f c'
 have HB1 := Lib.hid hb1
 have HBX := Lib.hid hbx
 obtain ⟨l2, l3⟩ := hbx W1 (Below.refl _ _)
 obtain ⟨p0, k0, rfl, -⟩ := hv.shape
 obtain ⟨i0, hi0, hz0, hz1, hz2⟩ := info_parts infoZ
 by_cases h2 : o = 2
 ·have t2 : (o == (2 : Int)) = true := by rw [h2]; rfl
  have hyc : castL (y.map Int.toNat) = y := by
   unfold castL
   rw [List.map_map]
   refine (List.map_congr_left fun c hc => ?_).trans (List.map_id y)
   have := hy c hc
   show ((c.toNat : Nat) : Int) = c
   omega
  have hsm : SmallN (y.map Int.toNat) := fun c hc => by
   obtain ⟨d, hd, rfl⟩ := List.mem_map.1 hc
   have := hy d hd
   omega
  have hre : R = castL (hilB k (y.map Int.toNat)) := by rw [hR]; unfold rkeyF; rw [if_pos h2]
  have CK := Lib.hid (fun w9 (hb : Below w.heap.size w w9) => rkey_any (y.map Int.toNat) k (.slice p0 y.length k0) w9 (by rw [hyc]; exact hv.later IntR.lasts hb) hsm (by simpa using h1) (by simpa using h4) hk)
  rw [← hre] at CK
  clear hl hv hy hR hb1 hbx h2 hyc hsm hre ho h1 h4 HR
  go_enter Tryz.func44, Tryz.ntmps44
  go_upto_region 1 with (fail)
  rw [← hW1]
  clear hW1
  go_wp2_with fail
  refine (CK.out _ HB1.out).mono ?_
  rintro e w2 ⟨u, rfl, hu, hb⟩
  have HU := Lib.hid hu
  have HB2 := Lib.hid (below_keep HB1.out hb)
  obtain ⟨q1, j1, rfl, -⟩ := hu.ints.shape
  clear hu hb CK
  go_wp2
  go_ret
  exact ⟨_, rfl, HU.out, HB2.out⟩
 have t2 : (o == (2 : Int)) = false := by rw [beq_eq_false_iff_ne]; exact h2
 by_cases h3 : o = 3
 ·have t3 : (o == (3 : Int)) = true := by rw [h3]; rfl
  have ht : 1 ≤ t ∧ t ≤ 64 := by
   unfold orderedB at ho
   rw [if_neg (by omega), if_pos h3] at ho
   simpa using ho
  have hre : R = tilL t y ++ y := by rw [hR]; unfold rkeyF; rw [if_neg h2, if_pos h3]; rfl
  have HRE := Lib.hid hre
  have HT := Lib.hid ht
  have hl4 : y.length ≤ 4 := h4
  clear hl hv hy hR hb1 hbx h2 h3 ho h1 h4 hre ht HR
  go_enter Tryz.func44, Tryz.ntmps44
  go_upto_region 1 with (fail)
  rw [← hW1]
  clear hW1
  go_wp2
  go_loopw [7, 8] (fun ov iv wr => ∃ (i : Nat) (s : Value), s = ov ∧ i ≤ y.length ∧ iv = .int .i64 (i : Nat) ∧ wr.ownsRow W1.heap.size 3 1 s (tilL t (y.take i)).length ((tilL t (y.take i)).map (Value.int .i64)) ∧ Below W1.heap.size W1 wr) (fun _ iv _ => y.length - (intOf iv).toNat)
  case atStart => exact ⟨0, _, rfl, Nat.zero_le _, rfl, World.ownsRow_nil _ _ _ _, Below.refl _ _⟩
  case round =>
   clear l2 l3
   obtain ⟨i, s, rfl, hi, rfl, how, hb⟩ := hrel
   obtain ⟨la, hla⟩ : ∃ la, la = tilL t (y.take i) := ⟨_, rfl⟩
   rw [← hla] at how
   have hge : W1.heap.size ≤ wr.heap.size := hb.size
   have HBR := Lib.hid hb
   have HOW := Lib.hid how
   by_cases hlt : i < y.length
   ·obtain ⟨g, o1, c, ea, hcx, hr⟩ := HV.out.at i hlt
    subst ea
    rw [Nat.mul_one] at hr
    have hr : w.cell? ⟨g, o1 + i, none⟩ = some (.int .i64 c) := hr
    have hr := cell_later hr (below_keep HB1.out hb)
    obtain ⟨-, l3⟩ := HBX.out wr hb
    have hcb := HY.out c (List.mem_of_getElem? hcx)
    have hq1 : c.tdiv t = c / t := Int.tdiv_eq_ediv_of_nonneg hcb.1
    have hq2 : 0 ≤ c / t := Int.ediv_nonneg hcb.1 (by have := HT.out; omega)
    have hq3 : c / t ≤ c := Int.ediv_le_self _ hcb.1
    obtain ⟨Q, hQ⟩ : ∃ Q, Q = c / t := ⟨_, rfl⟩
    rw [← hQ] at hq1 hq2 hq3
    have hq4 : IntKind.i64.wrap Q = Q := IntWalk.i64_in _ (by omega)
    have htn : ¬ t = 0 := by have := HT.out; omega
    have HN : Hid (la ++ [Q] = tilL t (y.take (i + 1))) := by show _ = _; rw [tilL_snoc hcx, hla, hQ]
    have hll : la.length ≤ 1000 := by rw [hla, tilL, List.length_map, List.length_take]; omega
    have ib0 : (0 : Int) ≤ (i : Int) := by omega
    have ib1 : (i : Int) < (y.length : Int) := by omega
    have HI1 : Hid (i + 1 ≤ y.length ∧ y.length - (i + 1) < y.length - i) := by show _ ∧ _; omega
    have g1 : g < wr.heap.size := World.block_lt_of_cell? _ _ hr
    have g1' : g ≠ wr.heap.size := Nat.ne_of_lt g1
    have g4 : w.heap.size < wr.heap.size := World.block_lt_of_cell? _ _ l3
    have g4' : w.heap.size ≠ wr.heap.size := Nat.ne_of_lt g4
    have FIN : Hid (∀ (g1 cp1 : Nat) (w3 : World) (W : World), Below wr.heap.size wr W → w3.ownsRow W1.heap.size 3 1 (.slice (some ⟨g1, 0, none⟩) (la.length + 1) cp1) (la.length + 1) (la.map (Value.int .i64) ++ [.int .i64 Q]) → W.grownBy w3 s.ownBlock →
      w3.ownsRow W1.heap.size 3 1 (.slice (some ⟨g1, 0, none⟩) (la.length + 1) cp1) (tilL t (y.take (i + 1))).length ((tilL t (y.take (i + 1))).map (Value.int .i64)) ∧ Below W1.heap.size W1 w3) := fun g1 cp1 w3 W hbd h1 h2 => by
     refine ⟨?_, (HBR.out.trans (hbd.mono hge)).grown h2 (Nat.le_trans hge hbd.size) (fun k e => (HOW.out.lt k e).1)⟩
     rw [← HN.out, List.length_append, List.map_append]; exact h1
    clear hcx hcb hQ hla hlt hi hb
    go_wp2_with fail
    go_region_law (refine step_append_lies _ (by rfl) _ _ 24 (by rfl) W1.heap.size 3 i0 (.int .i64 0) 1 8 Tryz.underlying24 hi0 hz0 hz1 hz2 rfl (by decide) s la.length (la.map (Value.int .i64)) (by rfl) (how.alloc _) ⟨wr.heap.size, 0, none⟩ 1 1 [.int .i64 Q] (by rfl) (by rfl) (cell_one_new _ _ _) (by simp [Value.oneCell']) (by omega) (by unfold maxLen; omega) (by omega) (by simp; omega) (wr.heap.size + 1) (by simp) ?_; intro g1 cp1 w3 hown hgrow hat hlt9; have HF1 := Lib.hid (FIN.out g1 cp1 w3 _ (by first | exact (below_alloc _ _).drew | exact below_alloc _ _) hown hgrow); clear hown hgrow hat hlt9)
    all_goals
     clear hq4
     go_wp2
     exact ⟨⟨i + 1, _, rfl, HI1.out.1, by go_num, HF1.out.1, HF1.out.2⟩, HI1.out.2⟩
   ·have hin : i = y.length := by omega
    have hni : ¬ (i : Int) < (y.length : Int) := by omega
    rw [hin, List.take_length] at hla
    have hll : la.length = y.length := by rw [hla, tilL, List.length_map]
    have hy2 := HV.out.later IntR.lasts (below_keep HB1.out hb)
    obtain ⟨v', w', hrun, hown, hgr⟩ := append_ints wr W1.heap.size hge s la how _ y hy2 (by omega) 24
    have HRUN := Lib.hid hrun
    have hI := RowZ.append_owns hown (by rw [List.length_append])
    rw [hla, ← HRE.out] at hI
    have HI := Lib.hid hI
    have HB6 := Lib.hid (below_keep HB1.out (hb.grown hgr hge (fun k e => (how.lt k e).1)))
    clear hrun hown hgr hla hlt hi hb hy2 hI hll
    go_wp2_with (at_builtin; refine Lib.wpList_append_run _ rfl _ _ _ _ rfl _ _ rfl rfl _ _ HRUN.out ?_)
    go_wp2
    go_ret
    exact ⟨_, rfl, HI.out, HB6.out⟩
 ·have t3 : (o == (3 : Int)) = false := by rw [beq_eq_false_iff_ne]; exact h3
  have hre : R = y := by rw [hR]; unfold rkeyF; rw [if_neg h2, if_neg h3]
  have hba : Below W1.heap.size W1 (W1.alloc (.cells #[] 3)) := below_alloc _ _
  obtain ⟨v', w', hrun, hown, hgr⟩ := append_ints (W1.alloc (.cells #[] 3)) W1.heap.size hba.size (.slice (some ⟨W1.heap.size, 0, none⟩) 0 0) [] (World.ownsRow_made W1 #[] 0 (Nat.le_refl _) (by decide) (by simp)) _ y ((hv.later IntR.lasts hb1).later IntR.lasts hba) (by simp; omega) 24
  have HRUN := Lib.hid hrun
  simp only [List.length_nil, Nat.zero_add, List.nil_append] at hown
  have hI := RowZ.append_owns hown rfl
  rw [← hre] at hI
  have HI := Lib.hid hI
  have HB6 := Lib.hid (below_keep HB1.out (hba.grown hgr hba.size (fun k e => by simp only [Value.ownBlock, Option.some.injEq] at e; omega)))
  clear hl hv hy hR hb1 hbx h2 h3 ho h1 h4 hre HR hba hrun hown hgr hI
  go_enter Tryz.func44, Tryz.ntmps44
  go_upto_region 1 with (fail)
  rw [← hW1]
  clear hW1
  go_wp2_with (at_builtin; refine Lib.wpList_append_run _ rfl _ _ _ _ rfl _ _ rfl rfl _ _ HRUN.out ?_)
  go_wp2
  go_ret
  exact ⟨_, rfl, HI.out, HB6.out⟩
end Go.Proofs.YtkliekoheeeamaaGreatDoor
