/- Lemmas and contracts, each under its own condition: SpaceLayout: the plain law: the homes are the chunks around whose wide boxes have the coordinates. The reference of layer 2, contract: Wide. (printed by rwide.py) append(out, append([]int{a}, row...)) in one drawn region: what is known while it runs. The reference of layer 2, contract: around. (printed by raround.py) The reference of layer 2, contract: Homes. -/
import Derived.IntWalk
import Derived.Deep.DeepCutAuto
import Derived.Deep.CutBlock
import Derived.Deep.Upon
import Derived.Deep.AppendLies
import Derived.Test.YtpdhlgkcjakcgaaGreatDoorPtsK
import Derived.Test.YtpdhlgkcjakcgaaGreatDoorS21
import Derived.Test.YtpdhlgkcjakcgaaGreatDoorS27
import Derived.Test.YtpdhlgkcjakcgaaGreatDoorS28
import Derived.Test.YtpdhlgkcjakcgaaGreatDoorS8
import Derived.Test.YtpdhlgkcjakcgaaGreatDoorS9
/- SpaceLayout: the plain law: the homes are the chunks around whose wide boxes have the coordinates. -/
namespace Go.Proofs.YtpdhlgkcjakcgaaGreatDoor

/-- the lists whose elements differ by at most 1 -/
def aroundL : List Int → List (List Int)
  | [] => [[]]
  | a :: r => ((aroundL r).map fun y => (a - 1) :: y) ++ (((aroundL r).map fun y => a :: y) ++ ((aroundL r).map fun y => (a + 1) :: y))
theorem aroundL_pts : ∀ (c : List Int), aroundL c = ptsL (c.map fun a => a - 1) (c.map fun a => a + 1)
  | [] => rfl
  | a :: r => by
    rw [aroundL, aroundL_pts r, List.map_cons, List.map_cons, ptsL, show (a + 1 - (a - 1) + 1).toNat = 3 from by omega]
    have e0 : a - 1 + ((0 : Nat) : Int) = a - 1 := by omega
    have e1 : a - 1 + ((1 : Nat) : Int) = a := by omega
    have e2 : a - 1 + ((2 : Nat) : Int) = a + 1 := by omega
    simp only [show List.range 3 = [0, 1, 2] from rfl, List.flatMap_cons, List.flatMap_nil, List.append_nil, e0, e1, e2]
theorem around_iff {c h : List Int} : h ∈ aroundL c ↔ h.length = c.length ∧ ∀ (i : Nat) (k n : Int), c[i]? = some k → h[i]? = some n → k - 1 ≤ n ∧ n ≤ k + 1 := by
  rw [aroundL_pts, ptsL_mem (by simp), List.length_map]
  constructor
  · rintro ⟨h1, H⟩
    exact ⟨h1, fun i k n hk hn => H i _ _ n (by rw [List.getElem?_map, hk]; rfl) (by rw [List.getElem?_map, hk]; rfl) hn⟩
  · rintro ⟨h1, H⟩
    refine ⟨h1, fun i a b n ha hb hn => ?_⟩
    rw [List.getElem?_map] at ha hb
    cases hk : c[i]? with
    | none => rw [hk] at ha; cases ha
    | some k =>
      rw [hk] at ha hb
      have e1 : k - 1 = a := Option.some.inj ha
      have e2 : k + 1 = b := Option.some.inj hb
      have := H i k n hk hn
      omega
theorem around_sorted (c : List Int) : (aroundL c).Pairwise fun a b => cmpI a b = -1 := by
  rw [aroundL_pts]; exact ptsL_sorted
/-- two sorted lists with the same elements -/
theorem sorted_ext : ∀ {a b : List (List Int)}, (a.Pairwise fun x y => cmpI x y = -1) → (b.Pairwise fun x y => cmpI x y = -1) → (∀ x, x ∈ a ↔ x ∈ b) → a = b
  | [], [], _, _, _ => rfl
  | [], y :: b, _, _, h => by have := (h y).2 (by simp); simp at this
  | x :: a, [], _, _, h => by have := (h x).1 (by simp); simp at this
  | x :: a, y :: b, ha, hb, h => by
    rw [List.pairwise_cons] at ha hb
    have hne : ∀ {u v : List Int}, cmpI u v = -1 → u ≠ v := fun {u v} e e2 => by rw [e2, cmpI_self] at e; cases e
    have hxy : x = y := by
      rcases List.mem_cons.1 ((h x).1 (by simp)) with e | hx
      · exact e
      · rcases List.mem_cons.1 ((h y).2 (by simp)) with e | hy
        · exact e.symm
        · have h1 := hb.1 x hx
          have h2 := ha.1 y hy
          have h3 := cmpI_trans h1 h2
          rw [cmpI_self] at h3; cases h3
    subst hxy
    rw [sorted_ext ha.2 hb.2 fun z => ?_]
    constructor
    · intro hz
      rcases List.mem_cons.1 ((h z).1 (by simp [hz])) with e | h1
      · exact absurd e.symm (hne (ha.1 z hz))
      · exact h1
    · intro hz
      rcases List.mem_cons.1 ((h z).2 (by simp [hz])) with e | h1
      · exact absurd e.symm (hne (hb.1 z hz))
      · exact h1
theorem hasL_iff : ∀ {lo hi c : List Int}, lo.length = c.length → hi.length = c.length → (hasL lo hi c = true ↔ ∀ (i : Nat) (a b x : Int), lo[i]? = some a → hi[i]? = some b → c[i]? = some x → a ≤ x ∧ upB x b = true)
  | [], hi, c, _, _ => by simp [hasL]
  | l :: ls, h :: hs, x :: xs, h1, h2 => by
    have ih := hasL_iff (lo := ls) (hi := hs) (c := xs) (by simpa using h1) (by simpa using h2)
    rw [hasL]
    constructor
    · intro hh i a b y ha hb hy
      split at hh
      · cases hh
      · rename_i hg
        cases i with
        | zero =>
          simp at ha hb hy
          subst ha hb hy
          refine ⟨Classical.byContradiction fun h9 => hg (.inl (by omega)), ?_⟩
          cases h9 : upB x h with
          | true => rfl
          | false => exact absurd (.inr h9) hg
        | succ i => exact ih.1 hh i a b y (by simpa using ha) (by simpa using hb) (by simpa using hy)
    · intro hh
      have h0 := hh 0 l h x rfl rfl rfl
      rw [if_neg (by rw [h0.2]; simp; omega)]
      exact ih.2 fun i a b y ha hb hy => hh (i + 1) a b y (by simpa using ha) (by simpa using hb) (by simpa using hy)
  | l :: ls, [], c, h1, h2 => by cases c <;> simp at h1 h2
  | l :: ls, h :: hs, [], h1, _ => by simp at h1
/-- a box that ends at coordinates: Has tells what inside tells -/
theorem has_ins {lo hi c : List Int} (h1 : lo.length = c.length) (h2 : hi.length = c.length) (h0 : 0 < c.length) (h4 : c.length ≤ 4) (hh : ∀ b ∈ hi, b ≤ 1073741824) : hasB lo hi c = insideB lo hi c := by
  rw [Bool.eq_iff_iff, insideB_iff]
  unfold hasB formedB
  rw [decide_eq_true (h1.trans h2.symm), decide_eq_true (show 0 < lo.length by omega), decide_eq_true (show lo.length ≤ 4 by omega), decide_eq_true h1.symm, Bool.true_and, Bool.true_and, Bool.true_and, Bool.true_and, hasL_iff h1 h2]
  have hu : ∀ (i : Nat) (b x : Int), hi[i]? = some b → (upB x b = true ↔ x ≤ b) := fun i b x hb => by
    have := hh b (List.mem_of_getElem? hb)
    unfold upB
    rw [decide_eq_true_eq]
    omega
  constructor
  · intro H
    exact ⟨h1, h2, fun i a b x ha hb hx => ⟨(H i a b x ha hb hx).1, (hu i b x hb).1 (H i a b x ha hb hx).2⟩⟩
  · rintro ⟨-, -, H⟩ i a b x ha hb hx
    exact ⟨(H i a b x ha hb hx).1, (hu i b x hb).2 (H i a b x ha hb hx).2⟩
/-- whether the reference takes a chunk for a home -/
def homeB (d : List DimT) (l : LayT) (c h : List Int) : Bool := decide (widE d l h true = 0) && hasB (widQ d l h true).1 (widQ d l h true).2 c
theorem homeB_eq {d : List DimT} {l : LayT} {c h : List Int} (hc : chunkE d l c = 0) (hl : h.length = d.length) : homeB d l c h = (okC d l.sides h && insideB (wLo d l.sides l.over h) (wHi d l.sides l.over h) c) := by
  have hg := ChkG.of_chunk hc
  obtain ⟨e1, e2, -⟩ := chunkE_parts hc
  have hdm := dims_good (layout_good e1).dims
  unfold homeB
  rw [widE_of e1 hl]
  cases hok : okC d l.sides h with
  | false =>
    rw [if_neg (by decide), decide_eq_false (by decide), Bool.false_and, Bool.false_and]
  | true =>
    rw [if_pos rfl, decide_eq_true rfl, widQ_of e1 hl true hok]
    have ho : overQ l true = l.over := if_pos rfl
    rw [ho]
    refine congrArg _ (has_ins ?_ ?_ ?_ ?_ ?_)
    · rw [wLo_length hg.ls hg.lo hl, hg.lc]
    · rw [wHi_length hg.ls hg.lo hl, hg.lc]
    · rw [hg.lc]; omega
    · rw [hg.lc]; omega
    · intro b hb
      obtain ⟨i, hi, rfl⟩ := List.getElem_of_mem hb
      rw [wHi_length hg.ls hg.lo hl] at hi
      obtain ⟨x, hx⟩ := at_lt (l := d) (i := i) hi
      obtain ⟨y, hy⟩ := at_lt (l := l.sides) (i := i) (by rw [hg.ls]; exact hi)
      obtain ⟨z, hz⟩ := at_lt (l := l.over) (i := i) (by rw [hg.lo]; exact hi)
      obtain ⟨n, hn⟩ := at_lt (l := h) (i := i) (by omega)
      have e := (List.getElem?_eq_getElem (by rw [wHi_length hg.ls hg.lo hl]; exact hi)).symm.trans (wHi_get hx hy hz hn)
      injection e with e
      rw [e]
      have := (hg.gd x (List.mem_of_getElem? hx)).last
      omega
theorem homes_filter {d : List DimT} {l : LayT} {c : List Int} (hc : chunkE d l c = 0) : (aroundL (chunkL d l.sides c)).filter (homeB d l c) = homesQ d l c := by
  have hg := ChkG.of_chunk hc
  have hl := chunkL_length hg.ls hg.lc
  refine sorted_ext ((around_sorted _).filter _) (homesQ_sorted d l c) fun h => ?_
  rw [List.mem_filter, around_iff, hl]
  constructor
  · rintro ⟨⟨h1, H⟩, h2⟩
    rw [homeB_eq hc h1, Bool.and_eq_true, okC_iff hg.ls h1, ins_iff hg.ls hg.lo h1 hg.lc] at h2
    obtain ⟨h2, h3⟩ := h2
    refine (homes_iff hc).2 ⟨h1, fun i x y z a n hx hy hz ha hn => ?_⟩
    have k1 := H i _ n (chunkL_get hx hy ha) hn
    have k2 := h2 i x y n hx hy hn
    have k3 := h3 i x y z n a hx hy hz hn ha
    obtain ⟨y1, z0, zy, n0, nQ, a1, a2, q1, q2, al, ah, -⟩ := hg.num hx hy hz ha
    have r1 := homeF_range (off := a - x.lo) (s := y) (o := z) n0
    have r2 := homeT_range (q := (x.last - x.lo) / y) (n := (a - x.lo) / y) (off := a - x.lo) (s := y) (o := z)
    have hk : n = (a - x.lo) / y ∨ n = (a - x.lo) / y - 1 ∨ n = (a - x.lo) / y + 1 := by omega
    generalize (a - x.lo) / y = k at *
    generalize (x.last - x.lo) / y = Q at *
    rcases hk with rfl | rfl | rfl
    · omega
    · refine ⟨?_, by omega⟩
      have e : (k - 1) * y = k * y - y := by rw [Int.sub_mul, Int.one_mul]
      rw [e] at k3
      unfold homeF
      rw [if_pos (by omega)]
      omega
    · refine ⟨by omega, ?_⟩
      have e : (k + 1) * y = k * y + y := by rw [Int.add_mul, Int.one_mul]
      rw [e] at k3
      unfold homeT
      rw [if_pos (by rw [e]; omega)]
      omega
  · intro hh
    obtain ⟨h1, h2, h3, -⟩ := ok_home hc hh
    refine ⟨⟨h1, fun i k n hk hn => ?_⟩, by rw [homeB_eq hc h1, h2, h3]; rfl⟩
    have hi := lt_at hn
    obtain ⟨x, hx⟩ := at_lt (l := d) (i := i) (by omega)
    obtain ⟨y, hy⟩ := at_lt (l := l.sides) (i := i) (by rw [hg.ls]; omega)
    obtain ⟨z, hz⟩ := at_lt (l := l.over) (i := i) (by rw [hg.lo]; omega)
    obtain ⟨a, ha⟩ := at_lt (l := c) (i := i) (by rw [hg.lc]; omega)
    have e := hk.symm.trans (chunkL_get hx hy ha)
    cases e
    have := ((homes_iff hc).1 hh).2 i x y z a n hx hy hz ha hn
    have r1 := homeF_range (off := a - x.lo) (s := y) (o := z) (hg.num hx hy hz ha).n0
    have r2 := homeT_range (q := (x.last - x.lo) / y) (n := (a - x.lo) / y) (off := a - x.lo) (s := y) (o := z)
    omega
end Go.Proofs.YtpdhlgkcjakcgaaGreatDoor
/- The reference of layer 2, contract: Wide. (printed by rwide.py) -/
namespace Go.Proofs.YtpdhlgkcjakcgaaGreatDoor
open Go.RowKit
attribute [local go_sem] Oper.semAt_some

theorem boxm_at' (w : World) (v1 v2 : Value) : ∃ W1, W1 = w.alloc (.cells #[v1, v2] 52) ∧ Below w.heap.size w W1 ∧ ∀ w', Below W1.heap.size W1 w' → w'.cell? ⟨w.heap.size, 0, none⟩ = some v1 ∧ w'.cell? ⟨w.heap.size, 1, none⟩ = some v2 := by
  refine ⟨_, rfl, below_alloc _ _, fun w' hb => ?_⟩
  have h1 : ∀ j, w'.cell? ⟨w.heap.size, j, none⟩ = (w.alloc (.cells #[v1, v2] 52)).cell? ⟨w.heap.size, j, none⟩ := fun j => hb.cell (p := ⟨w.heap.size, j, none⟩) (by simp)
  exact ⟨by rw [h1, World.cell?_alloc_at _ _ _ _ rfl]; rfl, by rw [h1, World.cell?_alloc_at _ _ _ _ rfl]; rfl⟩
/-- what is known in a region of reads and calls with one store at its end -/
structure StJ (VL : List (Option Value)) (js : Nat) (C D : World → Prop) (dn : Nat → Bool) (vals : Nat → Value) (w : World) : Prop where
  pre : dn js = false → C w
  post : dn js = true → D w
  fv : Told VL dn vals
section
variable {VL : List (Option Value)} {js : Nat} {C D : World → Prop} {dn : Nat → Bool} {vals : Nat → Value} {w : World}
theorem StJ.start (hC : C w) : StJ VL js C D (fun _ => false) (fun _ => undef) w := ⟨fun _ => hC, fun h => Bool.noConfusion h, fun _ _ _ h => Bool.noConfusion h⟩
theorem StJ.read {i : Nat} {v : Value} {w' : World} (h : StJ VL js C D dn vals w) (hi : js ≠ i) (hds : dn js = false) (hv : VL[i]? = some (some v)) (hC : C w') : StJ VL js C D (upd dn i) (updV vals i v) w' :=
  ⟨fun _ => hC, (fun hd => by rw [upd_ne hi, hds] at hd; cases hd), h.fv.step (.inl hv)⟩
theorem StJ.store {v : Value} {w' : World} (h : StJ VL js C D dn vals w) (hv : VL[js]? = some none) (hD : D w') : StJ VL js C D (upd dn js) (updV vals js v) w' :=
  ⟨(fun hd => by rw [upd_at] at hd; cases hd), fun _ => hD, h.fv.step (.inr hv)⟩
end
/-- the first elements of one list, the others of another -/
def mixL (a b : List Int) (i : Nat) : List Int := a.take i ++ b.drop i
theorem mixL_zero (a b : List Int) : mixL a b 0 = b := rfl
theorem mixL_end {a b : List Int} (h : b.length = a.length) : mixL a b a.length = a := by unfold mixL; rw [List.take_length, ← h, List.drop_length, List.append_nil]
theorem mixL_length {a b : List Int} (h : b.length = a.length) {i : Nat} (hi : i ≤ a.length) : (mixL a b i).length = a.length := by unfold mixL; rw [List.length_append, List.length_take, List.length_drop]; omega
theorem mixL_get {a b : List Int} {i : Nat} {x : Int} (hi : i ≤ a.length) (h : b[i]? = some x) : (mixL a b i)[i]? = some x := by
  unfold mixL
  rw [List.getElem?_append_right (by rw [List.length_take]; omega), List.length_take, Nat.min_eq_left hi, Nat.sub_self, drop_cons h]; rfl
theorem mixL_set {a b : List Int} {i : Nat} {x y : Int} (h : b[i]? = some x) (ha : a[i]? = some y) : (mixL a b i).set i y = mixL a b (i + 1) := by
  have hi : i ≤ a.length := Nat.le_of_lt (lt_at ha)
  have hl : (a.take i).length = i := by rw [List.length_take]; omega
  unfold mixL
  rw [drop_cons h, take_snoc' ha, List.set_append_right _ _ (by omega), hl, Nat.sub_self, List.set_cons_zero, List.append_assoc]
  rfl
/-- the two rows, i elements of which are widened -/
structure WdI (g1 g2 : Nat) (W2 : World) (wl cl wh ch : List Int) (i j : Nat) (w : World) : Prop where
  r1 : RowZ w g1 (mixL wl cl i)
  r2 : RowZ w g2 (mixL wh ch j)
  below : BelowP (fun b => b = g1 ∨ b = g2) W2.heap.size W2 w
theorem WdI.later {g1 g2 : Nat} {W2 : World} {wl cl wh ch : List Int} {i j : Nat} {w w' : World} (h : WdI g1 g2 W2 wl cl wh ch i j w) (hb : Below w.heap.size w w') : WdI g1 g2 W2 wl cl wh ch i j w' :=
  ⟨h.r1.later hb h.r1.tag.lt, h.r2.later hb h.r2.tag.lt, h.below.trans (belowP_of _ (hb.mono h.below.size))⟩
theorem WdI.st1 {g1 g2 : Nat} {W2 : World} {wl cl wh ch : List Int} {i j : Nat} {w z : World} (h : WdI g1 g2 W2 wl cl wh ch i j w) (hne : g1 ≠ g2) (hl : cl.length = wl.length) (hb : Below w.heap.size w z) {x y : Int} (hx : cl[i]? = some x) (hy : wl[i]? = some y) : WdI g1 g2 W2 wl cl wh ch (i + 1) j (z.setCell ⟨g1, i, none⟩ (.int .i64 y)) := by
  have hz := h.later hb
  have := hz.r1.set i y (by rw [mixL_length hl (Nat.le_of_lt (lt_at hy))]; exact lt_at hy) rfl
  rw [mixL_set hx hy] at this
  exact ⟨this, hz.r2.kept (Below.heap_setCell z ⟨g1, i, none⟩ _ g2 (Ne.symm hne)), hz.below.setCell (p := ⟨g1, i, none⟩) (.inl rfl) _⟩
theorem WdI.st2 {g1 g2 : Nat} {W2 : World} {wl cl wh ch : List Int} {i j : Nat} {w z : World} (h : WdI g1 g2 W2 wl cl wh ch i j w) (hne : g1 ≠ g2) (hl : ch.length = wh.length) (hb : Below w.heap.size w z) {x y : Int} (hx : ch[j]? = some x) (hy : wh[j]? = some y) : WdI g1 g2 W2 wl cl wh ch i (j + 1) (z.setCell ⟨g2, j, none⟩ (.int .i64 y)) := by
  have hz := h.later hb
  have := hz.r2.set j y (by rw [mixL_length hl (Nat.le_of_lt (lt_at hy))]; exact lt_at hy) rfl
  rw [mixL_set hx hy] at this
  exact ⟨hz.r1.kept (Below.heap_setCell z ⟨g2, j, none⟩ _ g1 hne), this, hz.below.setCell (p := ⟨g2, j, none⟩) (.inr rfl) _⟩
theorem widE_flag (d : List DimT) (l : LayT) (c : List Int) : widE d l c true = widE d l c false := by
  unfold widE
  by_cases h : layoutE d l = 0
  · rw [if_neg (show ¬ (layoutE d l ≠ 0) from fun h' => h' h), if_neg (show ¬ (layoutE d l ≠ 0) from fun h' => h' h)]
    by_cases h2 : c.length = d.length
    · rw [if_neg (show ¬ (c.length ≠ d.length) from fun h' => h' h2), if_neg (show ¬ (c.length ≠ d.length) from fun h' => h' h2)]
      have hg := layout_good h
      rw [widR_eq _ _ _ _ _ _ hg.sides (show (overQ l true).length = d.length from hg.over) h2, widR_eq _ _ _ _ _ _ hg.sides (show (overQ l false).length = d.length from by show (List.replicate _ _).length = _; rw [List.length_replicate]; exact hg.over) h2]
      split <;> rfl
    · rw [if_pos (show c.length ≠ d.length from h2), if_pos (show c.length ≠ d.length from h2)]
  · rw [if_pos (show layoutE d l ≠ 0 from h), if_pos (show layoutE d l ≠ 0 from h)]
theorem widQ_err {d : List DimT} {l : LayT} {c : List Int} {b : Bool} (h : widE d l c b ≠ 0) : widQ d l c b = ([], []) := by
  unfold widE at h
  unfold widQ
  by_cases h1 : layoutE d l = 0
  · rw [if_neg (fun h' => h' h1)] at h ⊢
    by_cases h2 : c.length = d.length
    · rw [if_neg (fun h' => h' h2)] at h ⊢
      cases hw : widR [] [] d l.sides (overQ l b) c with
      | none => rfl
      | some x => rw [hw] at h; exact absurd rfl h
    · rw [if_pos h2]
  · rw [if_pos h1]
theorem max_wide (a z lo : Int) (hz : 0 ≤ z) : max (max (a - 0) lo - z) lo = max (a - z) lo := by omega
theorem min_wide (a z la : Int) (hz : 0 ≤ z) : min (min (a + 0) la + z) la = min (a + z) la := by omega
set_option maxHeartbeats 2000000 in
theorem rwide_bad (d : List DimT) (l : LayT) (c : List Int) (vd vs vo vc : Value) (w : World) (hd : Dims w vd d) (hl : LayR w vs vo l) (hc : Ints w vc c) (hs : StrD d) (hcb : ∀ x ∈ c, -9223372036854775808 ≤ x ∧ x ≤ 9223372036854775807) (h : widE d l c false ≠ 0) :
    Calls Tryz.prog 35 #[vd, layV vs vo l, vc] w (RetBx ([], []) (widE d l c false) w) := by
  have C := Lib.hid (fun w1 (hb : Below w.heap.size w w1) => rcore_any d l c vd vs vo vc w1 (hd.later DimR.lasts hb) (hl.later hb) (hc.later IntR.lasts hb) hs hcb)
  rw [widQ_err h] at C
  obtain ⟨p1, cap1, rfl, -⟩ := hd.shape
  obtain ⟨p2, cap2, rfl, -⟩ := hl.sides.shape
  obtain ⟨p3, cap3, rfl, -⟩ := hl.over.shape
  obtain ⟨p4, cap4, rfl, -⟩ := hc.shape
  have hne : (widE d l c false != 0) = true := by rw [bne_iff_ne]; exact h
  obtain ⟨ss, oo, o, t, f, c'⟩ := l
  generalize widE d _ c false = r at *
  clear hd hl hs h hc hcb
  go_enter Tryz.func35, Tryz.ntmps35
  go_wp2_with fail
  refine (C.out _ ((below_alloc _ _).trans ((below_alloc _ _).mono (by simp)))).mono ?_
  rintro e w1 ⟨v1, v2, rfl, o1, o2, -, hb⟩
  have HB := Lib.hid (((below_alloc w (.cells #[.slice p2 ss.length cap2, .slice p3 oo.length cap3, .int .i64 o, .int .i64 t, .int .i64 f, .int .i64 c'] 40)).trans ((below_alloc _ (.cells #[.slice none 0 0, .slice none 0 0] 52)).mono (by simp))).trans (hb.mono (by simp; omega)))
  have hrs := (ResB.made (w.alloc (.cells #[.slice p2 ss.length cap2, .slice p3 oo.length cap3, .int .i64 o, .int .i64 t, .int .i64 f, .int .i64 c'] 40)) 52).later hb (by simp)
  simp only [World.size_alloc] at hrs
  have hlt : w.heap.size + 1 < w1.heap.size := World.block_lt_of_cell? _ _ hrs.c0
  obtain ⟨a1, ka1, e1, -⟩ := (RowZ.append_owns o1 rfl).ints.shape
  obtain ⟨a2, ka2, e2, -⟩ := (RowZ.append_owns o2 rfl).ints.shape
  subst e1 e2
  have hrs2 := hrs.later (below_alloc w1 (.cells #[.slice a1 0 ka1, .slice a2 0 ka2] 52)) hlt
  obtain ⟨r0, r1, r2, r3⟩ := hrs2
  have HB2 := Lib.hid (HB.out.trans ((below_alloc w1 (.cells #[.slice a1 0 ka1, .slice a2 0 ka2] 52)).mono HB.out.size))
  obtain ⟨W2, hW2⟩ : ∃ W2, W2 = w1.alloc (.cells #[.slice a1 0 ka1, .slice a2 0 ka2] 52) := ⟨_, rfl⟩
  rw [← hW2] at r0 r1 r2 r3 HB2
  clear hb C o1 o2 hrs
  go_upto_region 2 with (fail)
  try simp only [List.length_nil]
  rw [← hW2]
  clear hW2 hlt
  go_wp2
  refine bodyPost_ret (by simp [results, Tryz.results35, go_sem, r0, r1]; try rfl) rfl ?_
  exact ⟨_, _, rfl, IntsO.nil _, IntsO.nil _, (HB2.out.setCell (by simp) _).setCell (by simp) _⟩
theorem frozP {c : Nat → Prop} {w w' : World} {g o : Nat} (h : w.frozen? ⟨g, o, none⟩ = false) (hb : BelowP c w.heap.size w w') (hg : g < w.heap.size) (hc : ¬ c g) : w'.frozen? ⟨g, o, none⟩ = false :=
  (World.frozen?_of_block (a := ⟨g, o, none⟩) (hb.block g hg hc)).trans h
set_option maxHeartbeats 16000000 in
set_option maxRecDepth 100000 in
theorem rwide_core (d : List DimT) (l : LayT) (c : List Int) (vd vs vo vc : Value) (w : World) (hd : Dims w vd d) (hl : LayR w vs vo l) (hc : Ints w vc c) (hs : StrD d) (hcb : ∀ x ∈ c, -9223372036854775808 ≤ x ∧ x ≤ 9223372036854775807) (h : layoutE d l = 0) (h2 : c.length = d.length) (hok : okC d l.sides c = true) :
    Calls Tryz.prog 35 #[vd, layV vs vo l, vc] w (RetBx (wLo d l.sides l.over c, wHi d l.sides l.over c) 0 w) := by
  have C := Lib.hid (fun w1 (hb : Below w.heap.size w w1) => rcore_any d l c vd vs vo vc w1 (hd.later DimR.lasts hb) (hl.later hb) (hc.later IntR.lasts hb) hs hcb)
  have GL := Lib.hid (layout_good h)
  have hdm := dims_good GL.out.dims
  have hr0 : (List.replicate l.over.length (0 : Int)).length = d.length := by rw [List.length_replicate]; exact GL.out.over
  have hE0 : widE d l c false = 0 := by rw [widE_of h h2 false, if_pos hok]
  have hQ0 : widQ d l c false = (wLo d l.sides (List.replicate l.over.length 0) c, wHi d l.sides (List.replicate l.over.length 0) c) := by rw [widQ_of h h2 false hok]; rfl
  obtain ⟨cl, hcl⟩ : ∃ q, q = wLo d l.sides (List.replicate l.over.length 0) c := ⟨_, rfl⟩
  obtain ⟨ch, hch⟩ : ∃ q, q = wHi d l.sides (List.replicate l.over.length 0) c := ⟨_, rfl⟩
  obtain ⟨wl, hwl⟩ : ∃ q, q = wLo d l.sides l.over c := ⟨_, rfl⟩
  obtain ⟨wh, hwh⟩ : ∃ q, q = wHi d l.sides l.over c := ⟨_, rfl⟩
  have hcll : cl.length = d.length := by rw [hcl]; exact wLo_length GL.out.sides hr0 h2
  have hchl : ch.length = d.length := by rw [hch]; exact wHi_length GL.out.sides hr0 h2
  have hwll : wl.length = d.length := by rw [hwl]; exact wLo_length GL.out.sides GL.out.over h2
  have hwhl : wh.length = d.length := by rw [hwh]; exact wHi_length GL.out.sides GL.out.over h2
  rw [hE0, hQ0, ← hcl, ← hch] at C
  rw [← hwl, ← hwh]
  have HQ := Lib.hid (And.intro hcl (And.intro hch (And.intro hwl hwh)))
  have HLN := Lib.hid (And.intro hcll (And.intro hchl (And.intro hwll hwhl)))
  have HOK := Lib.hid ((okC_iff GL.out.sides h2).1 hok)
  have HC2 := Lib.hid h2
  have HDD := Lib.hid hd
  have HLL := Lib.hid hl
  have HDM := Lib.hid hdm
  obtain ⟨R, hR⟩ : ∃ R : Ending → World → Prop, R = RetBx (wl, wh) 0 w := ⟨_, rfl⟩
  rw [← hR]
  have HR := Lib.hid hR
  obtain ⟨p1, cap1, rfl, -⟩ := hd.shape
  obtain ⟨p2, cap2, rfl, -⟩ := hl.sides.shape
  obtain ⟨p3, cap3, rfl, -⟩ := hl.over.shape
  obtain ⟨p4, cap4, rfl, -⟩ := hc.shape
  have HBX := Lib.hid (LayB.made w (.slice p2 l.sides.length cap2) (.slice p3 l.over.length cap3) l 40)
  have e1 := GL.out.sides
  have e2 := GL.out.over
  obtain ⟨ss, oo, o, t, f, c'⟩ := l
  simp only at e1 e2 hcl hch hwl hwh HQ HOK
  simp only [e1, e2] at C HBX HLL ⊢
  clear hd hl hc hs h h2 hok hcb hE0 hQ0 hR hcl hch hwl hwh e1 e2 hr0
  go_enter Tryz.func35, Tryz.ntmps35
  go_wp2_with fail
  refine (C.out _ ((below_alloc _ _).trans ((below_alloc _ _).mono (by simp)))).mono ?_
  rintro e w1 ⟨v1, v2, rfl, o1, o2, hap, hb⟩
  have HB := Lib.hid (((below_alloc w (.cells #[.slice p2 d.length cap2, .slice p3 d.length cap3, .int .i64 o, .int .i64 t, .int .i64 f, .int .i64 c'] 40)).trans ((below_alloc _ (.cells #[.slice none 0 0, .slice none 0 0] 52)).mono (by simp))).trans (hb.mono (by simp; omega)))
  have hrs := (ResB.made (w.alloc (.cells #[.slice p2 d.length cap2, .slice p3 d.length cap3, .int .i64 o, .int .i64 t, .int .i64 f, .int .i64 c'] 40)) 52).later hb (by simp)
  simp only [World.size_alloc] at hrs o1 o2
  obtain ⟨b0, b1, -⟩ := HBX.out w1 (by simpa using below_keep (below_alloc _ (.cells #[.slice none 0 0, .slice none 0 0] 52)) hb)
  rw [hcll] at o1
  rw [hchl] at o2
  obtain ⟨g1, k1, rfl, hg1, -⟩ := o1.form (by have := hdm.1; omega)
  obtain ⟨g2, k2, rfl, hg2, -⟩ := o2.form (by have := hdm.1; omega)
  obtain ⟨z1, y1, u1, u2⟩ := RowZ.of_owns o1
  obtain ⟨z2, y2, u3, u4⟩ := RowZ.of_owns o2
  have HCAP := Lib.hid (And.intro u1 (And.intro u2 (And.intro u3 u4)))
  have hne : g1 ≠ g2 := fun e => hap g1 rfl (by rw [e]; rfl)
  have l1 : g1 < w1.heap.size := z1.tag.lt
  have l2 : g2 < w1.heap.size := z2.tag.lt
  obtain ⟨W2, hW2, hb2, hx2⟩ := boxm_at' w1 (.slice (some ⟨g1, 0, none⟩) d.length k1) (.slice (some ⟨g2, 0, none⟩) d.length k2)
  have HI0 : Hid (WdI g1 g2 W2 wl cl wh ch 0 0 W2) := ⟨z1.later hb2 l1, z2.later hb2 l2, belowP_of _ (Below.refl _ _)⟩
  have hB8 := hx2 W2 (Below.refl _ _)
  have b1' := cell_later b1 hb2
  have hrs' := hrs.later hb2 (World.block_lt_of_cell? _ _ hrs.c0)
  have HBW := Lib.hid (below_keep HB.out hb2)
  have HF := Lib.hid (And.intro hB8.1 (And.intro hB8.2 (And.intro b1' hrs')))
  have HG : Hid (g1 ≠ g2 ∧ w.heap.size + 2 ≤ g1 ∧ w.heap.size + 2 ≤ g2 ∧ g1 < w1.heap.size ∧ g2 < w1.heap.size ∧ w1.heap.size < W2.heap.size) := ⟨hne, by omega, by omega, l1, l2, World.block_lt_of_cell? _ _ hB8.1⟩
  have hlt6 : w.heap.size + 1 < w1.heap.size := World.block_lt_of_cell? _ _ hrs.c0
  have HD4 : Hid (d.length ≤ 4) := hdm.2.1
  clear C hb hap o1 o2 hrs hrs' b0 b1 b1' z1 z2 y1 y2 hne hx2 hb2 hB8 hcll hchl hwll hwhl hdm hg1 hg2 l1 l2 u1 u2 u3 u4
  go_upto_region 2 with (fail)
  rw [← hW2]
  clear hW2 hlt6
  go_wp2
  go_loopw [10] (fun iv wr => ∃ i : Nat, i ≤ d.length ∧ iv = .int .i64 (i : Nat) ∧ WdI g1 g2 W2 wl cl wh ch i i wr) (fun iv _ => d.length - (intOf iv).toNat)
  case atStart => exact ⟨0, Nat.zero_le _, rfl, HI0.out⟩
  case round =>
    obtain ⟨i, hi, rfl, hwi⟩ := hrel
    have HI := Lib.hid hwi
    have hbp := hwi.below
    obtain ⟨q1, q2, q3, q4, q5, q6⟩ := HG.out
    obtain ⟨m0, m1, m2, m3⟩ := HF.out
    have n8 : ¬ (w1.heap.size = g1 ∨ w1.heap.size = g2) := by omega
    have n0 : ¬ (w.heap.size = g1 ∨ w.heap.size = g2) := by omega
    have n6 : ¬ (w.heap.size + 1 = g1 ∨ w.heap.size + 1 = g2) := by omega
    have c0 := cellP m0 hbp n8
    have c1 := cellP m1 hbp n8
    have c2 := cellP m2 hbp n0
    have h6 : w.heap.size + 1 < W2.heap.size := World.block_lt_of_cell? _ _ m3.c0
    have HR6 : Hid (ResB wr (w.heap.size + 1) (.slice none 0 0) (.slice none 0 0)) := ⟨cellP m3.c0 hbp n6, cellP m3.c1 hbp n6, frozP m3.f0 hbp h6 n6, frozP m3.f1 hbp h6 n6⟩
    have HBE : Hid (Below w.heap.size w wr) := by
      have t1 := HBW.out
      have t3 := t1.size
      exact ⟨hbp.os.trans t1.os, hbp.tape.trans t1.tape, hbp.output.trans t1.output, Nat.le_trans t1.size hbp.size, fun k hk => (hbp.block k (by omega) (by omega)).trans (t1.block k hk)⟩
    clear m0 m1 m2 m3 h6
    by_cases hlt : i < d.length
    · obtain ⟨gd, od, x, ea, hx, hr⟩ := Ls.at HDD.out i hlt
      obtain ⟨go, oz, z, ez, hz, hrz⟩ := Ls.at HLL.out.over i (by rw [GL.out.over]; exact hlt)
      obtain ⟨y, hy⟩ := at_lt (l := ss) (i := i) (by have := GL.out.sides; simp only at this; omega)
      obtain ⟨n, hn⟩ := at_lt (l := c) (i := i) (by have := HC2.out; omega)
      subst ea ez
      have hgd := World.block_lt_of_cell? _ _ hr.lo
      have hgo := World.block_lt_of_cell? _ _ hrz
      simp only at hgd hgo
      have hr := DimR.lasts _ _ _ _ _ hr HBE.out
      have hrz := IntR.lasts _ _ _ _ _ hrz HBE.out
      rw [Nat.mul_one] at hrz
      unfold IntR at hrz
      obtain ⟨x0, x1, x2⟩ := hr
      have gsd := GL.out.good i y z hy hz
      have gx := (dims_good GL.out.dims).2.2 x (List.mem_of_getElem? hx)
      have gl := gx.last
      have hkn := HOK.out i x y n hx hy hn
      have s1 := gsd.s1
      have s2 := gsd.s2
      have s3 := gsd.o1
      have s4 := gsd.o2
      have t1 := gx.lo
      have t2 := gx.lo'
      have t3 := gl.1
      have t4 := gl.2.1
      have hny : n * y ≤ x.last - x.lo := by
        have h1 := Int.mul_le_mul_of_nonneg_right hkn.2 (show 0 ≤ y by omega)
        have h2 := Int.ediv_mul_le (x.last - x.lo) (show y ≠ 0 by omega)
        omega
      have hny0 : 0 ≤ n * y := Int.mul_nonneg hkn.1 (by omega)
      have h00 : (List.replicate oo.length (0 : Int))[i]? = some 0 := by rw [List.getElem?_replicate, if_pos (lt_at hz)]
      obtain ⟨f1, f2, f3, f4⟩ := HQ.out
      have ec := wLo_get hx hy h00 hn
      have ed := wHi_get hx hy h00 hn
      have ee := wLo_get hx hy hz hn
      have ef := wHi_get hx hy hz hn
      rw [← f1] at ec
      rw [← f2] at ed
      rw [← f3, ← max_wide _ _ _ s3] at ee
      rw [← f4, ← min_wide _ _ _ s3] at ef
      obtain ⟨a, ha⟩ : ∃ a, a = max (x.lo + n * y - 0) x.lo := ⟨_, rfl⟩
      obtain ⟨b, hb⟩ : ∃ b, b = min (x.lo + n * y + y - 1 + 0) x.last := ⟨_, rfl⟩
      rw [← ha] at ec ee
      rw [← hb] at ed ef
      have HA := Lib.hid (And.intro ec ee)
      have HBB := Lib.hid (And.intro ed ef)
      have c7 := hwi.r1.cell i a (mixL_get (by rw [HLN.out.2.2.1]; omega) ec)
      have c8 := hwi.r1.free i
      have c9 := hwi.r2.cell i b (mixL_get (by rw [HLN.out.2.2.2]; omega) ed)
      have c10 := hwi.r2.free i
      have HLX := Lib.hid (fun w9 => rlast_any x w9)
      obtain ⟨L, hL⟩ : ∃ L, L = x.last := ⟨_, rfl⟩
      rw [← hL] at hb HLX HBB t4
      have wa : IntKind.i64.wrap (a - z) = a - z := IntWalk.i64_in _ (by omega)
      have wb : IntKind.i64.wrap (b + z) = b + z := IntWalk.i64_in _ (by omega)
      obtain ⟨nm, xl, xh⟩ := x
      simp only at x0 x1 x2 HLX HA
      have ib0 : (0 : Int) ≤ (i : Int) := by omega
      have ib1 : (i : Int) < (d.length : Int) := by omega
      have HI1 : Hid (i + 1 ≤ d.length ∧ d.length - (i + 1) < d.length - i) := by show _ ∧ _; omega
      have KY : Hid (∀ w', Below wr.heap.size wr w' → w'.cell? ⟨w1.heap.size, 0, none⟩ = some (.slice (some ⟨g1, 0, none⟩) d.length k1) ∧ w'.cell? ⟨w1.heap.size, 1, none⟩ = some (.slice (some ⟨g2, 0, none⟩) d.length k2) ∧ w'.cell? ⟨w.heap.size, 1, none⟩ = some (.slice (some ⟨go, oz, none⟩) d.length cap3) ∧ w'.cell? ⟨go, oz + i, none⟩ = some (.int .i64 z) ∧ w'.cell? ⟨gd, od + i * 3, none⟩ = some (strV nm) ∧ w'.cell? ⟨gd, od + i * 3 + 1, none⟩ = some (.int .i64 xl) ∧ w'.cell? ⟨gd, od + i * 3 + 2, none⟩ = some (.int .i64 xh) ∧ w'.cell? ⟨g1, i, none⟩ = some (.int .i64 a) ∧ w'.frozen? ⟨g1, i, none⟩ = false ∧ w'.cell? ⟨g2, i, none⟩ = some (.int .i64 b) ∧ w'.frozen? ⟨g2, i, none⟩ = false) := fun w' h =>
        ⟨cell_later c0 h, cell_later c1 h, cell_later c2 h, cell_later hrz h, cell_later x0 h, cell_later x1 h, cell_later x2 h, cell_later c7 h, (h.frozen (p := ⟨g1, i, none⟩) (World.block_lt_of_cell? _ _ c7)).trans c8, cell_later c9 h, (h.frozen (p := ⟨g2, i, none⟩) (World.block_lt_of_cell? _ _ c9)).trans c10⟩
      have HK : Hid (gd ≠ g1 ∧ go ≠ g1 ∧ w1.heap.size ≠ g1 ∧ w.heap.size ≠ g1 ∧ g2 ≠ g1) := ⟨by omega, by omega, by omega, by omega, by omega⟩
      clear hx hy hz hn gsd gx gl hkn hny hny0 h00 f1 f2 f3 f4 ec ed ee ef ha hb hL s1 s2 s3 s4 t1 t2 t3 t4 hwi hbp x0 x1 x2 hrz c0 c1 c2 c7 c8 c9 c10 q1 q2 q3 q4 q5 q6 n8 n0 n6 hlt hi hgd hgo
      go_upto_region 7 with (fail)
      refine wp_region_inv [some 28, some 29, some 30, some 31, some 32, some 33, some 34, some 35, some 36, some 37, some 38, some 39, some 40, some 41, some 42, some 43, some 44, some 45, some 46, some 47, some 48, none] (StJ [some (.pointer (some ⟨w1.heap.size, 0, none⟩)), some (.slice (some ⟨g1, 0, none⟩) d.length k1), some (.int .i64 (i : Nat)), some (.pointer (some ⟨w1.heap.size, 0, none⟩)), some (.slice (some ⟨g1, 0, none⟩) d.length k1), some (.int .i64 (i : Nat)), some (.pointer (some ⟨g1, i, none⟩)), some (.int .i64 a), some (.pointer (some ⟨w.heap.size, 1, none⟩)), some (.slice (some ⟨go, oz, none⟩) d.length cap3), some (.int .i64 (i : Nat)), some (.pointer (some ⟨go, oz + i, none⟩)), some (.int .i64 z), some (.int .i64 (a - z)), some (.slice (some ⟨gd, od, none⟩) d.length cap1), some (.int .i64 (i : Nat)), some (.pointer (some ⟨gd, od + i * 3, none⟩)), some (.pointer (some ⟨gd, od + i * 3 + 1, none⟩)), some (.int .i64 xl), some (.int .i64 (max (a - z) xl)), some (.pointer (some ⟨g1, i, none⟩)), none] 21 (fun w9 => Below wr.heap.size wr w9) (fun w9 => ∃ z9, Below wr.heap.size wr z9 ∧ w9 = z9.setCell ⟨g1, i, none⟩ (.int .i64 (max (a - z) xl)))) rfl (by kernel_rfl) (by kernel_rfl) (by kernel_rfl) (by kernel_rfl) ?_ ?_ ?_
      · exact StJ.start ((Below.refl _ _).drew)
      · intro i9 op9 ho
        have hi9 : i9 < 22 := (Array.getElem?_eq_some_iff.1 ho).1
        match i9, hi9 with
        | 0, _ =>
          obtain rfl := Option.some.inj ho
          intro a9 dn vals wx hJ0 hdi hde hdj hev hsl hun
          have hJ := Lib.hid hJ0
          rw [if_pos (wanted_none rfl)]
          have f8 : (a9.tmps[8]?).getD undef = .pointer (some ⟨w1.heap.size, 0, none⟩) := hev 8 (by kernel_rfl)
          have n21 : Hid (dn 21 = false) := hdj 21 2 _ _ rfl rfl rfl rfl
          have hC := Lib.hid (hJ.out.pre n21.out)
          clear hde hdj hev hsl hun hJ0 hdi
          go_simp
          exact hJ.out.read (by decide) n21.out rfl hC.out
        | 1, _ =>
          obtain rfl := Option.some.inj ho
          intro a9 dn vals wx hJ0 hdi hde hdj hev hsl hun
          have hJ := Lib.hid hJ0
          rw [if_pos (wanted_none rfl)]
          have f28 : (a9.tmps[28]?).getD undef = .pointer (some ⟨w1.heap.size, 0, none⟩) := (hsl 0 28 (hde 0 _ rfl rfl) rfl).trans (hJ.out.fv 0 _ rfl (hde 0 _ rfl rfl))
          have n21 : Hid (dn 21 = false) := hdj 21 3 _ _ rfl rfl rfl rfl
          have hC := Lib.hid (hJ.out.pre n21.out)
          clear hde hdj hev hsl hun hJ0 hdi
          obtain ⟨c0, c1, c2, c3, c4, c5, c6, c7, c8, c9, c10⟩ := KY.out _ hC.out
          go_simp
          exact hJ.out.read (by decide) n21.out rfl hC.out
        | 2, _ =>
          obtain rfl := Option.some.inj ho
          intro a9 dn vals wx hJ0 hdi hde hdj hev hsl hun
          have hJ := Lib.hid hJ0
          rw [if_pos (wanted_none rfl)]
          have f10 : (a9.tmps[10]?).getD undef = .int .i64 (i : Nat) := hev 10 (by kernel_rfl)
          have n21 : Hid (dn 21 = false) := hdj 21 4 _ _ rfl rfl rfl rfl
          have hC := Lib.hid (hJ.out.pre n21.out)
          clear hde hdj hev hsl hun hJ0 hdi
          go_simp
          exact hJ.out.read (by decide) n21.out rfl hC.out
        | 3, _ =>
          obtain rfl := Option.some.inj ho
          intro a9 dn vals wx hJ0 hdi hde hdj hev hsl hun
          have hJ := Lib.hid hJ0
          rw [if_pos (wanted_none rfl)]
          have f8 : (a9.tmps[8]?).getD undef = .pointer (some ⟨w1.heap.size, 0, none⟩) := hev 8 (by kernel_rfl)
          have n21 : Hid (dn 21 = false) := hdj 21 5 _ _ rfl rfl rfl rfl
          have hC := Lib.hid (hJ.out.pre n21.out)
          clear hde hdj hev hsl hun hJ0 hdi
          go_simp
          exact hJ.out.read (by decide) n21.out rfl hC.out
        | 4, _ =>
          obtain rfl := Option.some.inj ho
          intro a9 dn vals wx hJ0 hdi hde hdj hev hsl hun
          have hJ := Lib.hid hJ0
          rw [if_pos (wanted_none rfl)]
          have f31 : (a9.tmps[31]?).getD undef = .pointer (some ⟨w1.heap.size, 0, none⟩) := (hsl 3 31 (hde 0 _ rfl rfl) rfl).trans (hJ.out.fv 3 _ rfl (hde 0 _ rfl rfl))
          have n21 : Hid (dn 21 = false) := hdj 21 6 _ _ rfl rfl rfl rfl
          have hC := Lib.hid (hJ.out.pre n21.out)
          clear hde hdj hev hsl hun hJ0 hdi
          obtain ⟨c0, c1, c2, c3, c4, c5, c6, c7, c8, c9, c10⟩ := KY.out _ hC.out
          go_simp
          exact hJ.out.read (by decide) n21.out rfl hC.out
        | 5, _ =>
          obtain rfl := Option.some.inj ho
          intro a9 dn vals wx hJ0 hdi hde hdj hev hsl hun
          have hJ := Lib.hid hJ0
          rw [if_pos (wanted_none rfl)]
          have f10 : (a9.tmps[10]?).getD undef = .int .i64 (i : Nat) := hev 10 (by kernel_rfl)
          have n21 : Hid (dn 21 = false) := hdj 21 7 _ _ rfl rfl rfl rfl
          have hC := Lib.hid (hJ.out.pre n21.out)
          clear hde hdj hev hsl hun hJ0 hdi
          go_simp
          exact hJ.out.read (by decide) n21.out rfl hC.out
        | 6, _ =>
          obtain rfl := Option.some.inj ho
          intro a9 dn vals wx hJ0 hdi hde hdj hev hsl hun
          have hJ := Lib.hid hJ0
          rw [if_pos (wanted_none rfl)]
          have f32 : (a9.tmps[32]?).getD undef = .slice (some ⟨g1, 0, none⟩) d.length k1 := (hsl 4 32 (hde 0 _ rfl rfl) rfl).trans (hJ.out.fv 4 _ rfl (hde 0 _ rfl rfl))
          have f33 : (a9.tmps[33]?).getD undef = .int .i64 (i : Nat) := (hsl 5 33 (hde 1 _ rfl rfl) rfl).trans (hJ.out.fv 5 _ rfl (hde 1 _ rfl rfl))
          have n21 : Hid (dn 21 = false) := hdj 21 8 _ _ rfl rfl rfl rfl
          have hC := Lib.hid (hJ.out.pre n21.out)
          clear hde hdj hev hsl hun hJ0 hdi
          go_simp
          exact hJ.out.read (by decide) n21.out rfl hC.out
        | 7, _ =>
          obtain rfl := Option.some.inj ho
          intro a9 dn vals wx hJ0 hdi hde hdj hev hsl hun
          have hJ := Lib.hid hJ0
          rw [if_pos (wanted_none rfl)]
          have f34 : (a9.tmps[34]?).getD undef = .pointer (some ⟨g1, i, none⟩) := (hsl 6 34 (hde 0 _ rfl rfl) rfl).trans (hJ.out.fv 6 _ rfl (hde 0 _ rfl rfl))
          have n21 : Hid (dn 21 = false) := hdj 21 9 _ _ rfl rfl rfl rfl
          have hC := Lib.hid (hJ.out.pre n21.out)
          clear hde hdj hev hsl hun hJ0 hdi
          obtain ⟨c0, c1, c2, c3, c4, c5, c6, c7, c8, c9, c10⟩ := KY.out _ hC.out
          go_simp
          exact hJ.out.read (by decide) n21.out rfl hC.out
        | 8, _ =>
          obtain rfl := Option.some.inj ho
          intro a9 dn vals wx hJ0 hdi hde hdj hev hsl hun
          have hJ := Lib.hid hJ0
          rw [if_pos (wanted_none rfl)]
          have f4 : (a9.tmps[4]?).getD undef = .pointer (some ⟨w.heap.size, 0, none⟩) := hev 4 (by kernel_rfl)
          have n21 : Hid (dn 21 = false) := hdj 21 10 _ _ rfl rfl rfl rfl
          have hC := Lib.hid (hJ.out.pre n21.out)
          clear hde hdj hev hsl hun hJ0 hdi
          go_simp
          exact hJ.out.read (by decide) n21.out rfl hC.out
        | 9, _ =>
          obtain rfl := Option.some.inj ho
          intro a9 dn vals wx hJ0 hdi hde hdj hev hsl hun
          have hJ := Lib.hid hJ0
          rw [if_pos (wanted_none rfl)]
          have f36 : (a9.tmps[36]?).getD undef = .pointer (some ⟨w.heap.size, 1, none⟩) := (hsl 8 36 (hde 0 _ rfl rfl) rfl).trans (hJ.out.fv 8 _ rfl (hde 0 _ rfl rfl))
          have n21 : Hid (dn 21 = false) := hdj 21 11 _ _ rfl rfl rfl rfl
          have hC := Lib.hid (hJ.out.pre n21.out)
          clear hde hdj hev hsl hun hJ0 hdi
          obtain ⟨c0, c1, c2, c3, c4, c5, c6, c7, c8, c9, c10⟩ := KY.out _ hC.out
          go_simp
          exact hJ.out.read (by decide) n21.out rfl hC.out
        | 10, _ =>
          obtain rfl := Option.some.inj ho
          intro a9 dn vals wx hJ0 hdi hde hdj hev hsl hun
          have hJ := Lib.hid hJ0
          rw [if_pos (wanted_none rfl)]
          have f10 : (a9.tmps[10]?).getD undef = .int .i64 (i : Nat) := hev 10 (by kernel_rfl)
          have n21 : Hid (dn 21 = false) := hdj 21 12 _ _ rfl rfl rfl rfl
          have hC := Lib.hid (hJ.out.pre n21.out)
          clear hde hdj hev hsl hun hJ0 hdi
          go_simp
          exact hJ.out.read (by decide) n21.out rfl hC.out
        | 11, _ =>
          obtain rfl := Option.some.inj ho
          intro a9 dn vals wx hJ0 hdi hde hdj hev hsl hun
          have hJ := Lib.hid hJ0
          rw [if_pos (wanted_none rfl)]
          have f37 : (a9.tmps[37]?).getD undef = .slice (some ⟨go, oz, none⟩) d.length cap3 := (hsl 9 37 (hde 0 _ rfl rfl) rfl).trans (hJ.out.fv 9 _ rfl (hde 0 _ rfl rfl))
          have f38 : (a9.tmps[38]?).getD undef = .int .i64 (i : Nat) := (hsl 10 38 (hde 1 _ rfl rfl) rfl).trans (hJ.out.fv 10 _ rfl (hde 1 _ rfl rfl))
          have n21 : Hid (dn 21 = false) := hdj 21 13 _ _ rfl rfl rfl rfl
          have hC := Lib.hid (hJ.out.pre n21.out)
          clear hde hdj hev hsl hun hJ0 hdi
          go_simp
          exact hJ.out.read (by decide) n21.out rfl hC.out
        | 12, _ =>
          obtain rfl := Option.some.inj ho
          intro a9 dn vals wx hJ0 hdi hde hdj hev hsl hun
          have hJ := Lib.hid hJ0
          rw [if_pos (wanted_none rfl)]
          have f39 : (a9.tmps[39]?).getD undef = .pointer (some ⟨go, oz + i, none⟩) := (hsl 11 39 (hde 0 _ rfl rfl) rfl).trans (hJ.out.fv 11 _ rfl (hde 0 _ rfl rfl))
          have n21 : Hid (dn 21 = false) := hdj 21 14 _ _ rfl rfl rfl rfl
          have hC := Lib.hid (hJ.out.pre n21.out)
          clear hde hdj hev hsl hun hJ0 hdi
          obtain ⟨c0, c1, c2, c3, c4, c5, c6, c7, c8, c9, c10⟩ := KY.out _ hC.out
          go_simp
          exact hJ.out.read (by decide) n21.out rfl hC.out
        | 13, _ =>
          obtain rfl := Option.some.inj ho
          intro a9 dn vals wx hJ0 hdi hde hdj hev hsl hun
          have hJ := Lib.hid hJ0
          rw [if_pos (wanted_none rfl)]
          have f35 : (a9.tmps[35]?).getD undef = .int .i64 a := (hsl 7 35 (hde 0 _ rfl rfl) rfl).trans (hJ.out.fv 7 _ rfl (hde 0 _ rfl rfl))
          have f40 : (a9.tmps[40]?).getD undef = .int .i64 z := (hsl 12 40 (hde 1 _ rfl rfl) rfl).trans (hJ.out.fv 12 _ rfl (hde 1 _ rfl rfl))
          have n21 : Hid (dn 21 = false) := hdj 21 15 _ _ rfl rfl rfl rfl
          have hC := Lib.hid (hJ.out.pre n21.out)
          clear hde hdj hev hsl hun hJ0 hdi
          go_simp
          exact hJ.out.read (by decide) n21.out rfl hC.out
        | 14, _ =>
          obtain rfl := Option.some.inj ho
          intro a9 dn vals wx hJ0 hdi hde hdj hev hsl hun
          have hJ := Lib.hid hJ0
          rw [if_pos (wanted_none rfl)]
          have f0 : (a9.tmps[0]?).getD undef = .slice (some ⟨gd, od, none⟩) d.length cap1 := hev 0 (by kernel_rfl)
          have n21 : Hid (dn 21 = false) := hdj 21 16 _ _ rfl rfl rfl rfl
          have hC := Lib.hid (hJ.out.pre n21.out)
          clear hde hdj hev hsl hun hJ0 hdi
          go_simp
          exact hJ.out.read (by decide) n21.out rfl hC.out
        | 15, _ =>
          obtain rfl := Option.some.inj ho
          intro a9 dn vals wx hJ0 hdi hde hdj hev hsl hun
          have hJ := Lib.hid hJ0
          rw [if_pos (wanted_none rfl)]
          have f10 : (a9.tmps[10]?).getD undef = .int .i64 (i : Nat) := hev 10 (by kernel_rfl)
          have n21 : Hid (dn 21 = false) := hdj 21 17 _ _ rfl rfl rfl rfl
          have hC := Lib.hid (hJ.out.pre n21.out)
          clear hde hdj hev hsl hun hJ0 hdi
          go_simp
          exact hJ.out.read (by decide) n21.out rfl hC.out
        | 16, _ =>
          obtain rfl := Option.some.inj ho
          intro a9 dn vals wx hJ0 hdi hde hdj hev hsl hun
          have hJ := Lib.hid hJ0
          rw [if_pos (wanted_none rfl)]
          have f42 : (a9.tmps[42]?).getD undef = .slice (some ⟨gd, od, none⟩) d.length cap1 := (hsl 14 42 (hde 0 _ rfl rfl) rfl).trans (hJ.out.fv 14 _ rfl (hde 0 _ rfl rfl))
          have f43 : (a9.tmps[43]?).getD undef = .int .i64 (i : Nat) := (hsl 15 43 (hde 1 _ rfl rfl) rfl).trans (hJ.out.fv 15 _ rfl (hde 1 _ rfl rfl))
          have n21 : Hid (dn 21 = false) := hdj 21 18 _ _ rfl rfl rfl rfl
          have hC := Lib.hid (hJ.out.pre n21.out)
          clear hde hdj hev hsl hun hJ0 hdi
          go_simp
          exact hJ.out.read (by decide) n21.out rfl hC.out
        | 17, _ =>
          obtain rfl := Option.some.inj ho
          intro a9 dn vals wx hJ0 hdi hde hdj hev hsl hun
          have hJ := Lib.hid hJ0
          rw [if_pos (wanted_none rfl)]
          have f44 : (a9.tmps[44]?).getD undef = .pointer (some ⟨gd, od + i * 3, none⟩) := (hsl 16 44 (hde 0 _ rfl rfl) rfl).trans (hJ.out.fv 16 _ rfl (hde 0 _ rfl rfl))
          have n21 : Hid (dn 21 = false) := hdj 21 19 _ _ rfl rfl rfl rfl
          have hC := Lib.hid (hJ.out.pre n21.out)
          clear hde hdj hev hsl hun hJ0 hdi
          go_simp
          exact hJ.out.read (by decide) n21.out rfl hC.out
        | 18, _ =>
          obtain rfl := Option.some.inj ho
          intro a9 dn vals wx hJ0 hdi hde hdj hev hsl hun
          have hJ := Lib.hid hJ0
          rw [if_pos (wanted_none rfl)]
          have f45 : (a9.tmps[45]?).getD undef = .pointer (some ⟨gd, od + i * 3 + 1, none⟩) := (hsl 17 45 (hde 0 _ rfl rfl) rfl).trans (hJ.out.fv 17 _ rfl (hde 0 _ rfl rfl))
          have n21 : Hid (dn 21 = false) := hdj 21 20 _ _ rfl rfl rfl rfl
          have hC := Lib.hid (hJ.out.pre n21.out)
          clear hde hdj hev hsl hun hJ0 hdi
          obtain ⟨c0, c1, c2, c3, c4, c5, c6, c7, c8, c9, c10⟩ := KY.out _ hC.out
          go_simp
          exact hJ.out.read (by decide) n21.out rfl hC.out
        | 19, _ =>
          obtain rfl := Option.some.inj ho
          intro a9 dn vals wx hJ0 hdi hde hdj hev hsl hun
          have hJ := Lib.hid hJ0
          rw [if_pos (wanted_none rfl)]
          have f41 : (a9.tmps[41]?).getD undef = .int .i64 (a - z) := (hsl 13 41 (hde 0 _ rfl rfl) rfl).trans (hJ.out.fv 13 _ rfl (hde 0 _ rfl rfl))
          have f46 : (a9.tmps[46]?).getD undef = .int .i64 xl := (hsl 18 46 (hde 1 _ rfl rfl) rfl).trans (hJ.out.fv 18 _ rfl (hde 1 _ rfl rfl))
          have n21 : Hid (dn 21 = false) := hdj 21 1 _ _ rfl rfl rfl rfl
          have hC := Lib.hid (hJ.out.pre n21.out)
          clear hde hdj hev hsl hun hJ0 hdi
          go_simp
          exact hJ.out.read (by decide) n21.out rfl hC.out
        | 20, _ =>
          obtain rfl := Option.some.inj ho
          intro a9 dn vals wx hJ0 hdi hde hdj hev hsl hun
          have hJ := Lib.hid hJ0
          rw [if_pos (wanted_none rfl)]
          have f29 : (a9.tmps[29]?).getD undef = .slice (some ⟨g1, 0, none⟩) d.length k1 := (hsl 1 29 (hde 0 _ rfl rfl) rfl).trans (hJ.out.fv 1 _ rfl (hde 0 _ rfl rfl))
          have f30 : (a9.tmps[30]?).getD undef = .int .i64 (i : Nat) := (hsl 2 30 (hde 1 _ rfl rfl) rfl).trans (hJ.out.fv 2 _ rfl (hde 1 _ rfl rfl))
          have n21 : Hid (dn 21 = false) := hdj 21 0 _ _ rfl rfl rfl rfl
          have hC := Lib.hid (hJ.out.pre n21.out)
          clear hde hdj hev hsl hun hJ0 hdi
          go_simp
          exact hJ.out.read (by decide) n21.out rfl hC.out
        | 21, _ =>
          obtain rfl := Option.some.inj ho
          intro a9 dn vals wx hJ0 hdi hde hdj hev hsl hun
          have hJ := Lib.hid hJ0
          rw [if_pos (wanted_none rfl)]
          have f48 : (a9.tmps[48]?).getD undef = .pointer (some ⟨g1, i, none⟩) := (hsl 20 48 (hde 0 _ rfl rfl) rfl).trans (hJ.out.fv 20 _ rfl (hde 0 _ rfl rfl))
          have f47 : (a9.tmps[47]?).getD undef = .int .i64 (max (a - z) xl) := (hsl 19 47 (hde 1 _ rfl rfl) rfl).trans (hJ.out.fv 19 _ rfl (hde 1 _ rfl rfl))
          have hC := Lib.hid (hJ.out.pre hdi)
          clear hde hdj hev hsl hun hJ0 hdi
          obtain ⟨c0, c1, c2, c3, c4, c5, c6, c7, c8, c9, c10⟩ := KY.out _ hC.out
          go_simp
          exact hJ.out.store rfl ⟨wx, hC.out, rfl⟩
      · intro dn vals wx hall hJ
        have HS9 := Lib.hid (hJ.post (hall 21 (by decide)))
        have g0 := hJ.fv 0 _ rfl (hall 0 (by decide))
        have g1 := hJ.fv 1 _ rfl (hall 1 (by decide))
        have g2 := hJ.fv 2 _ rfl (hall 2 (by decide))
        have g3 := hJ.fv 3 _ rfl (hall 3 (by decide))
        have g4 := hJ.fv 4 _ rfl (hall 4 (by decide))
        have g5 := hJ.fv 5 _ rfl (hall 5 (by decide))
        have g6 := hJ.fv 6 _ rfl (hall 6 (by decide))
        have g7 := hJ.fv 7 _ rfl (hall 7 (by decide))
        have g8 := hJ.fv 8 _ rfl (hall 8 (by decide))
        have g9 := hJ.fv 9 _ rfl (hall 9 (by decide))
        have g10 := hJ.fv 10 _ rfl (hall 10 (by decide))
        have g11 := hJ.fv 11 _ rfl (hall 11 (by decide))
        have g12 := hJ.fv 12 _ rfl (hall 12 (by decide))
        have g13 := hJ.fv 13 _ rfl (hall 13 (by decide))
        have g14 := hJ.fv 14 _ rfl (hall 14 (by decide))
        have g15 := hJ.fv 15 _ rfl (hall 15 (by decide))
        have g16 := hJ.fv 16 _ rfl (hall 16 (by decide))
        have g17 := hJ.fv 17 _ rfl (hall 17 (by decide))
        have g18 := hJ.fv 18 _ rfl (hall 18 (by decide))
        have g19 := hJ.fv 19 _ rfl (hall 19 (by decide))
        have g20 := hJ.fv 20 _ rfl (hall 20 (by decide))
        simp only [putDs, Act.put, Nat.zero_add, Nat.reduceAdd, List.setIfInBounds_toArray, List.set_cons_succ, List.set_cons_zero, g0, g1, g2, g3, g4, g5, g6, g7, g8, g9, g10, g11, g12, g13, g14, g15, g16, g17, g18, g19, g20]
        clear g0 g1 g2 g3 g4 g5 g6 g7 g8 g9 g10 g11 g12 g13 g14 g15 g16 g17 g18 g19 g20 hJ hall
        obtain ⟨z9, hz9, hwx⟩ := HS9.out
        obtain ⟨c0, c1, c2, c3, c4, c5, c6, c7, c8, c9, c10⟩ := KY.out z9 hz9
        obtain ⟨n1, n2, n3, n4, n5⟩ := HK.out
        have hc : ∀ g o v, g ≠ g1 → z9.cell? ⟨g, o, none⟩ = some v → wx.cell? ⟨g, o, none⟩ = some v := fun g o v hg hv => by
          rw [hwx, World.cell?_setCell_other _ _ _ _ (fun e => by injection e with e _; exact hg e.symm)]; exact hv
        have HI7 : Hid (WdI g1 g2 W2 wl cl wh ch (i + 1) i wx) := by
          show WdI _ _ _ _ _ _ _ _ _ _
          rw [hwx]; exact HI.out.st1 HG.out.1 (by rw [HLN.out.1, HLN.out.2.2.1]) hz9 HA.out.1 HA.out.2
        have KZ : Hid (∀ w', Below wx.heap.size wx w' → w'.cell? ⟨w1.heap.size, 0, none⟩ = some (.slice (some ⟨g1, 0, none⟩) d.length k1) ∧ w'.cell? ⟨w1.heap.size, 1, none⟩ = some (.slice (some ⟨g2, 0, none⟩) d.length k2) ∧ w'.cell? ⟨w.heap.size, 1, none⟩ = some (.slice (some ⟨go, oz, none⟩) d.length cap3) ∧ w'.cell? ⟨go, oz + i, none⟩ = some (.int .i64 z) ∧ w'.cell? ⟨gd, od + i * 3, none⟩ = some (strV nm) ∧ w'.cell? ⟨gd, od + i * 3 + 1, none⟩ = some (.int .i64 xl) ∧ w'.cell? ⟨gd, od + i * 3 + 2, none⟩ = some (.int .i64 xh) ∧ w'.cell? ⟨g2, i, none⟩ = some (.int .i64 b) ∧ w'.frozen? ⟨g2, i, none⟩ = false) := fun w' h =>
          ⟨cell_later (hc _ _ _ n3 c0) h, cell_later (hc _ _ _ n3 c1) h, cell_later (hc _ _ _ n4 c2) h, cell_later (hc _ _ _ n2 c3) h, cell_later (hc _ _ _ n1 c4) h, cell_later (hc _ _ _ n1 c5) h, cell_later (hc _ _ _ n1 c6) h, cell_later (hc _ _ _ n5 c9) h, (h.frozen (p := ⟨g2, i, none⟩) (World.block_lt_of_cell? _ _ (hc _ _ _ n5 c9))).trans (HI7.out.r2.free i)⟩
        obtain ⟨W7, hW7⟩ : ∃ W7, W7 = wx := ⟨_, rfl⟩
        rw [← hW7] at HI7 KZ ⊢
        clear hW7 hc hwx hz9 HS9 c0 c1 c2 c3 c4 c5 c6 c7 c8 c9 c10 n1 n2 n3 n4 n5 KY
        go_upto_region 8 with (fail)
        refine wp_region_inv [some 49, some 50, some 51, some 52, some 53, some 54, some 55, some 56, some 57, some 58, some 59, some 60, some 61, some 62, some 63, some 64, some 65, some 66, some 67, some 68, some 69, none] (StJ [some (.pointer (some ⟨w1.heap.size, 1, none⟩)), some (.slice (some ⟨g2, 0, none⟩) d.length k2), some (.int .i64 (i : Nat)), some (.pointer (some ⟨w1.heap.size, 1, none⟩)), some (.slice (some ⟨g2, 0, none⟩) d.length k2), some (.int .i64 (i : Nat)), some (.pointer (some ⟨g2, i, none⟩)), some (.int .i64 b), some (.pointer (some ⟨w.heap.size, 1, none⟩)), some (.slice (some ⟨go, oz, none⟩) d.length cap3), some (.int .i64 (i : Nat)), some (.pointer (some ⟨go, oz + i, none⟩)), some (.int .i64 z), some (.int .i64 (b + z)), some (.slice (some ⟨gd, od, none⟩) d.length cap1), some (.int .i64 (i : Nat)), some (.pointer (some ⟨gd, od + i * 3, none⟩)), some (.agg #[strV nm, .int .i64 xl, .int .i64 xh]), some (.int .i64 L), some (.int .i64 (min (b + z) L)), some (.pointer (some ⟨g2, i, none⟩)), none] 21 (fun w9 => Below W7.heap.size W7 w9) (fun w9 => ∃ z9, Below W7.heap.size W7 z9 ∧ w9 = z9.setCell ⟨g2, i, none⟩ (.int .i64 (min (b + z) L)))) rfl (by kernel_rfl) (by kernel_rfl) (by kernel_rfl) (by kernel_rfl) ?_ ?_ ?_
        · exact StJ.start ((Below.refl _ _).drew)
        · intro i9 op9 ho
          have hi9 : i9 < 22 := (Array.getElem?_eq_some_iff.1 ho).1
          match i9, hi9 with
          | 0, _ =>
            obtain rfl := Option.some.inj ho
            intro a9 dn vals wx hJ0 hdi hde hdj hev hsl hun
            have hJ := Lib.hid hJ0
            rw [if_pos (wanted_none rfl)]
            have f8 : (a9.tmps[8]?).getD undef = .pointer (some ⟨w1.heap.size, 0, none⟩) := hev 8 (by kernel_rfl)
            have n21 : Hid (dn 21 = false) := hdj 21 3 _ _ rfl rfl rfl rfl
            have hC := Lib.hid (hJ.out.pre n21.out)
            clear hde hdj hev hsl hun hJ0 hdi
            go_simp
            exact hJ.out.read (by decide) n21.out rfl hC.out
          | 1, _ =>
            obtain rfl := Option.some.inj ho
            intro a9 dn vals wx hJ0 hdi hde hdj hev hsl hun
            have hJ := Lib.hid hJ0
            rw [if_pos (wanted_none rfl)]
            have f49 : (a9.tmps[49]?).getD undef = .pointer (some ⟨w1.heap.size, 1, none⟩) := (hsl 0 49 (hde 0 _ rfl rfl) rfl).trans (hJ.out.fv 0 _ rfl (hde 0 _ rfl rfl))
            have n21 : Hid (dn 21 = false) := hdj 21 4 _ _ rfl rfl rfl rfl
            have hC := Lib.hid (hJ.out.pre n21.out)
            clear hde hdj hev hsl hun hJ0 hdi
            obtain ⟨c0, c1, c2, c3, c4, c5, c6, c9, c10⟩ := KZ.out _ hC.out
            go_simp
            exact hJ.out.read (by decide) n21.out rfl hC.out
          | 2, _ =>
            obtain rfl := Option.some.inj ho
            intro a9 dn vals wx hJ0 hdi hde hdj hev hsl hun
            have hJ := Lib.hid hJ0
            rw [if_pos (wanted_none rfl)]
            have f10 : (a9.tmps[10]?).getD undef = .int .i64 (i : Nat) := hev 10 (by kernel_rfl)
            have n21 : Hid (dn 21 = false) := hdj 21 5 _ _ rfl rfl rfl rfl
            have hC := Lib.hid (hJ.out.pre n21.out)
            clear hde hdj hev hsl hun hJ0 hdi
            go_simp
            exact hJ.out.read (by decide) n21.out rfl hC.out
          | 3, _ =>
            obtain rfl := Option.some.inj ho
            intro a9 dn vals wx hJ0 hdi hde hdj hev hsl hun
            have hJ := Lib.hid hJ0
            rw [if_pos (wanted_none rfl)]
            have f8 : (a9.tmps[8]?).getD undef = .pointer (some ⟨w1.heap.size, 0, none⟩) := hev 8 (by kernel_rfl)
            have n21 : Hid (dn 21 = false) := hdj 21 6 _ _ rfl rfl rfl rfl
            have hC := Lib.hid (hJ.out.pre n21.out)
            clear hde hdj hev hsl hun hJ0 hdi
            go_simp
            exact hJ.out.read (by decide) n21.out rfl hC.out
          | 4, _ =>
            obtain rfl := Option.some.inj ho
            intro a9 dn vals wx hJ0 hdi hde hdj hev hsl hun
            have hJ := Lib.hid hJ0
            rw [if_pos (wanted_none rfl)]
            have f52 : (a9.tmps[52]?).getD undef = .pointer (some ⟨w1.heap.size, 1, none⟩) := (hsl 3 52 (hde 0 _ rfl rfl) rfl).trans (hJ.out.fv 3 _ rfl (hde 0 _ rfl rfl))
            have n21 : Hid (dn 21 = false) := hdj 21 7 _ _ rfl rfl rfl rfl
            have hC := Lib.hid (hJ.out.pre n21.out)
            clear hde hdj hev hsl hun hJ0 hdi
            obtain ⟨c0, c1, c2, c3, c4, c5, c6, c9, c10⟩ := KZ.out _ hC.out
            go_simp
            exact hJ.out.read (by decide) n21.out rfl hC.out
          | 5, _ =>
            obtain rfl := Option.some.inj ho
            intro a9 dn vals wx hJ0 hdi hde hdj hev hsl hun
            have hJ := Lib.hid hJ0
            rw [if_pos (wanted_none rfl)]
            have f10 : (a9.tmps[10]?).getD undef = .int .i64 (i : Nat) := hev 10 (by kernel_rfl)
            have n21 : Hid (dn 21 = false) := hdj 21 8 _ _ rfl rfl rfl rfl
            have hC := Lib.hid (hJ.out.pre n21.out)
            clear hde hdj hev hsl hun hJ0 hdi
            go_simp
            exact hJ.out.read (by decide) n21.out rfl hC.out
          | 6, _ =>
            obtain rfl := Option.some.inj ho
            intro a9 dn vals wx hJ0 hdi hde hdj hev hsl hun
            have hJ := Lib.hid hJ0
            rw [if_pos (wanted_none rfl)]
            have f53 : (a9.tmps[53]?).getD undef = .slice (some ⟨g2, 0, none⟩) d.length k2 := (hsl 4 53 (hde 0 _ rfl rfl) rfl).trans (hJ.out.fv 4 _ rfl (hde 0 _ rfl rfl))
            have f54 : (a9.tmps[54]?).getD undef = .int .i64 (i : Nat) := (hsl 5 54 (hde 1 _ rfl rfl) rfl).trans (hJ.out.fv 5 _ rfl (hde 1 _ rfl rfl))
            have n21 : Hid (dn 21 = false) := hdj 21 9 _ _ rfl rfl rfl rfl
            have hC := Lib.hid (hJ.out.pre n21.out)
            clear hde hdj hev hsl hun hJ0 hdi
            go_simp
            exact hJ.out.read (by decide) n21.out rfl hC.out
          | 7, _ =>
            obtain rfl := Option.some.inj ho
            intro a9 dn vals wx hJ0 hdi hde hdj hev hsl hun
            have hJ := Lib.hid hJ0
            rw [if_pos (wanted_none rfl)]
            have f55 : (a9.tmps[55]?).getD undef = .pointer (some ⟨g2, i, none⟩) := (hsl 6 55 (hde 0 _ rfl rfl) rfl).trans (hJ.out.fv 6 _ rfl (hde 0 _ rfl rfl))
            have n21 : Hid (dn 21 = false) := hdj 21 10 _ _ rfl rfl rfl rfl
            have hC := Lib.hid (hJ.out.pre n21.out)
            clear hde hdj hev hsl hun hJ0 hdi
            obtain ⟨c0, c1, c2, c3, c4, c5, c6, c9, c10⟩ := KZ.out _ hC.out
            go_simp
            exact hJ.out.read (by decide) n21.out rfl hC.out
          | 8, _ =>
            obtain rfl := Option.some.inj ho
            intro a9 dn vals wx hJ0 hdi hde hdj hev hsl hun
            have hJ := Lib.hid hJ0
            rw [if_pos (wanted_none rfl)]
            have f4 : (a9.tmps[4]?).getD undef = .pointer (some ⟨w.heap.size, 0, none⟩) := hev 4 (by kernel_rfl)
            have n21 : Hid (dn 21 = false) := hdj 21 11 _ _ rfl rfl rfl rfl
            have hC := Lib.hid (hJ.out.pre n21.out)
            clear hde hdj hev hsl hun hJ0 hdi
            go_simp
            exact hJ.out.read (by decide) n21.out rfl hC.out
          | 9, _ =>
            obtain rfl := Option.some.inj ho
            intro a9 dn vals wx hJ0 hdi hde hdj hev hsl hun
            have hJ := Lib.hid hJ0
            rw [if_pos (wanted_none rfl)]
            have f57 : (a9.tmps[57]?).getD undef = .pointer (some ⟨w.heap.size, 1, none⟩) := (hsl 8 57 (hde 0 _ rfl rfl) rfl).trans (hJ.out.fv 8 _ rfl (hde 0 _ rfl rfl))
            have n21 : Hid (dn 21 = false) := hdj 21 12 _ _ rfl rfl rfl rfl
            have hC := Lib.hid (hJ.out.pre n21.out)
            clear hde hdj hev hsl hun hJ0 hdi
            obtain ⟨c0, c1, c2, c3, c4, c5, c6, c9, c10⟩ := KZ.out _ hC.out
            go_simp
            exact hJ.out.read (by decide) n21.out rfl hC.out
          | 10, _ =>
            obtain rfl := Option.some.inj ho
            intro a9 dn vals wx hJ0 hdi hde hdj hev hsl hun
            have hJ := Lib.hid hJ0
            rw [if_pos (wanted_none rfl)]
            have f10 : (a9.tmps[10]?).getD undef = .int .i64 (i : Nat) := hev 10 (by kernel_rfl)
            have n21 : Hid (dn 21 = false) := hdj 21 13 _ _ rfl rfl rfl rfl
            have hC := Lib.hid (hJ.out.pre n21.out)
            clear hde hdj hev hsl hun hJ0 hdi
            go_simp
            exact hJ.out.read (by decide) n21.out rfl hC.out
          | 11, _ =>
            obtain rfl := Option.some.inj ho
            intro a9 dn vals wx hJ0 hdi hde hdj hev hsl hun
            have hJ := Lib.hid hJ0
            rw [if_pos (wanted_none rfl)]
            have f58 : (a9.tmps[58]?).getD undef = .slice (some ⟨go, oz, none⟩) d.length cap3 := (hsl 9 58 (hde 0 _ rfl rfl) rfl).trans (hJ.out.fv 9 _ rfl (hde 0 _ rfl rfl))
            have f59 : (a9.tmps[59]?).getD undef = .int .i64 (i : Nat) := (hsl 10 59 (hde 1 _ rfl rfl) rfl).trans (hJ.out.fv 10 _ rfl (hde 1 _ rfl rfl))
            have n21 : Hid (dn 21 = false) := hdj 21 14 _ _ rfl rfl rfl rfl
            have hC := Lib.hid (hJ.out.pre n21.out)
            clear hde hdj hev hsl hun hJ0 hdi
            go_simp
            exact hJ.out.read (by decide) n21.out rfl hC.out
          | 12, _ =>
            obtain rfl := Option.some.inj ho
            intro a9 dn vals wx hJ0 hdi hde hdj hev hsl hun
            have hJ := Lib.hid hJ0
            rw [if_pos (wanted_none rfl)]
            have f60 : (a9.tmps[60]?).getD undef = .pointer (some ⟨go, oz + i, none⟩) := (hsl 11 60 (hde 0 _ rfl rfl) rfl).trans (hJ.out.fv 11 _ rfl (hde 0 _ rfl rfl))
            have n21 : Hid (dn 21 = false) := hdj 21 15 _ _ rfl rfl rfl rfl
            have hC := Lib.hid (hJ.out.pre n21.out)
            clear hde hdj hev hsl hun hJ0 hdi
            obtain ⟨c0, c1, c2, c3, c4, c5, c6, c9, c10⟩ := KZ.out _ hC.out
            go_simp
            exact hJ.out.read (by decide) n21.out rfl hC.out
          | 13, _ =>
            obtain rfl := Option.some.inj ho
            intro a9 dn vals wx hJ0 hdi hde hdj hev hsl hun
            have hJ := Lib.hid hJ0
            rw [if_pos (wanted_none rfl)]
            have f56 : (a9.tmps[56]?).getD undef = .int .i64 b := (hsl 7 56 (hde 0 _ rfl rfl) rfl).trans (hJ.out.fv 7 _ rfl (hde 0 _ rfl rfl))
            have f61 : (a9.tmps[61]?).getD undef = .int .i64 z := (hsl 12 61 (hde 1 _ rfl rfl) rfl).trans (hJ.out.fv 12 _ rfl (hde 1 _ rfl rfl))
            have n21 : Hid (dn 21 = false) := hdj 21 16 _ _ rfl rfl rfl rfl
            have hC := Lib.hid (hJ.out.pre n21.out)
            clear hde hdj hev hsl hun hJ0 hdi
            go_simp
            exact hJ.out.read (by decide) n21.out rfl hC.out
          | 14, _ =>
            obtain rfl := Option.some.inj ho
            intro a9 dn vals wx hJ0 hdi hde hdj hev hsl hun
            have hJ := Lib.hid hJ0
            rw [if_pos (wanted_none rfl)]
            have f0 : (a9.tmps[0]?).getD undef = .slice (some ⟨gd, od, none⟩) d.length cap1 := hev 0 (by kernel_rfl)
            have n21 : Hid (dn 21 = false) := hdj 21 17 _ _ rfl rfl rfl rfl
            have hC := Lib.hid (hJ.out.pre n21.out)
            clear hde hdj hev hsl hun hJ0 hdi
            go_simp
            exact hJ.out.read (by decide) n21.out rfl hC.out
          | 15, _ =>
            obtain rfl := Option.some.inj ho
            intro a9 dn vals wx hJ0 hdi hde hdj hev hsl hun
            have hJ := Lib.hid hJ0
            rw [if_pos (wanted_none rfl)]
            have f10 : (a9.tmps[10]?).getD undef = .int .i64 (i : Nat) := hev 10 (by kernel_rfl)
            have n21 : Hid (dn 21 = false) := hdj 21 18 _ _ rfl rfl rfl rfl
            have hC := Lib.hid (hJ.out.pre n21.out)
            clear hde hdj hev hsl hun hJ0 hdi
            go_simp
            exact hJ.out.read (by decide) n21.out rfl hC.out
          | 16, _ =>
            obtain rfl := Option.some.inj ho
            intro a9 dn vals wx hJ0 hdi hde hdj hev hsl hun
            have hJ := Lib.hid hJ0
            rw [if_pos (wanted_none rfl)]
            have f63 : (a9.tmps[63]?).getD undef = .slice (some ⟨gd, od, none⟩) d.length cap1 := (hsl 14 63 (hde 0 _ rfl rfl) rfl).trans (hJ.out.fv 14 _ rfl (hde 0 _ rfl rfl))
            have f64 : (a9.tmps[64]?).getD undef = .int .i64 (i : Nat) := (hsl 15 64 (hde 1 _ rfl rfl) rfl).trans (hJ.out.fv 15 _ rfl (hde 1 _ rfl rfl))
            have n21 : Hid (dn 21 = false) := hdj 21 19 _ _ rfl rfl rfl rfl
            have hC := Lib.hid (hJ.out.pre n21.out)
            clear hde hdj hev hsl hun hJ0 hdi
            go_simp
            exact hJ.out.read (by decide) n21.out rfl hC.out
          | 17, _ =>
            obtain rfl := Option.some.inj ho
            intro a9 dn vals wx hJ0 hdi hde hdj hev hsl hun
            have hJ := Lib.hid hJ0
            rw [if_pos (wanted_none rfl)]
            have f65 : (a9.tmps[65]?).getD undef = .pointer (some ⟨gd, od + i * 3, none⟩) := (hsl 16 65 (hde 0 _ rfl rfl) rfl).trans (hJ.out.fv 16 _ rfl (hde 0 _ rfl rfl))
            have n21 : Hid (dn 21 = false) := hdj 21 20 _ _ rfl rfl rfl rfl
            have hC := Lib.hid (hJ.out.pre n21.out)
            clear hde hdj hev hsl hun hJ0 hdi
            obtain ⟨c0, c1, c2, c3, c4, c5, c6, c9, c10⟩ := KZ.out _ hC.out
            go_simp
            exact hJ.out.read (by decide) n21.out rfl hC.out
          | 18, _ =>
            obtain rfl := Option.some.inj ho
            intro a9 dn vals wx hJ0 hdi hde hdj hev hsl hun
            have hJ := Lib.hid hJ0
            rw [if_pos (wanted_none rfl)]
            have f66 : (a9.tmps[66]?).getD undef = .agg #[strV nm, .int .i64 xl, .int .i64 xh] := (hsl 17 66 (hde 0 _ rfl rfl) rfl).trans (hJ.out.fv 17 _ rfl (hde 0 _ rfl rfl))
            have n21 : Hid (dn 21 = false) := hdj 21 2 _ _ rfl rfl rfl rfl
            have hC := Lib.hid (hJ.out.pre n21.out)
            clear hde hdj hev hsl hun hJ0 hdi
            go_simp
            exact (HLX.out wx).mono fun e w9 ⟨he, hb9⟩ => ⟨_, he, hJ.out.read (by decide) n21.out rfl (below_keep hC.out hb9)⟩
          | 19, _ =>
            obtain rfl := Option.some.inj ho
            intro a9 dn vals wx hJ0 hdi hde hdj hev hsl hun
            have hJ := Lib.hid hJ0
            rw [if_pos (wanted_none rfl)]
            have f62 : (a9.tmps[62]?).getD undef = .int .i64 (b + z) := (hsl 13 62 (hde 0 _ rfl rfl) rfl).trans (hJ.out.fv 13 _ rfl (hde 0 _ rfl rfl))
            have f67 : (a9.tmps[67]?).getD undef = .int .i64 L := (hsl 18 67 (hde 1 _ rfl rfl) rfl).trans (hJ.out.fv 18 _ rfl (hde 1 _ rfl rfl))
            have n21 : Hid (dn 21 = false) := hdj 21 1 _ _ rfl rfl rfl rfl
            have hC := Lib.hid (hJ.out.pre n21.out)
            clear hde hdj hev hsl hun hJ0 hdi
            go_simp
            exact hJ.out.read (by decide) n21.out rfl hC.out
          | 20, _ =>
            obtain rfl := Option.some.inj ho
            intro a9 dn vals wx hJ0 hdi hde hdj hev hsl hun
            have hJ := Lib.hid hJ0
            rw [if_pos (wanted_none rfl)]
            have f50 : (a9.tmps[50]?).getD undef = .slice (some ⟨g2, 0, none⟩) d.length k2 := (hsl 1 50 (hde 0 _ rfl rfl) rfl).trans (hJ.out.fv 1 _ rfl (hde 0 _ rfl rfl))
            have f51 : (a9.tmps[51]?).getD undef = .int .i64 (i : Nat) := (hsl 2 51 (hde 1 _ rfl rfl) rfl).trans (hJ.out.fv 2 _ rfl (hde 1 _ rfl rfl))
            have n21 : Hid (dn 21 = false) := hdj 21 0 _ _ rfl rfl rfl rfl
            have hC := Lib.hid (hJ.out.pre n21.out)
            clear hde hdj hev hsl hun hJ0 hdi
            go_simp
            exact hJ.out.read (by decide) n21.out rfl hC.out
          | 21, _ =>
            obtain rfl := Option.some.inj ho
            intro a9 dn vals wx hJ0 hdi hde hdj hev hsl hun
            have hJ := Lib.hid hJ0
            rw [if_pos (wanted_none rfl)]
            have f69 : (a9.tmps[69]?).getD undef = .pointer (some ⟨g2, i, none⟩) := (hsl 20 69 (hde 0 _ rfl rfl) rfl).trans (hJ.out.fv 20 _ rfl (hde 0 _ rfl rfl))
            have f68 : (a9.tmps[68]?).getD undef = .int .i64 (min (b + z) L) := (hsl 19 68 (hde 1 _ rfl rfl) rfl).trans (hJ.out.fv 19 _ rfl (hde 1 _ rfl rfl))
            have hC := Lib.hid (hJ.out.pre hdi)
            clear hde hdj hev hsl hun hJ0 hdi
            obtain ⟨c0, c1, c2, c3, c4, c5, c6, c9, c10⟩ := KZ.out _ hC.out
            go_simp
            exact hJ.out.store rfl ⟨wx, hC.out, rfl⟩
        · intro dn vals wx hall hJ
          have HS9 := Lib.hid (hJ.post (hall 21 (by decide)))
          have g0 := hJ.fv 0 _ rfl (hall 0 (by decide))
          have g1 := hJ.fv 1 _ rfl (hall 1 (by decide))
          have g2 := hJ.fv 2 _ rfl (hall 2 (by decide))
          have g3 := hJ.fv 3 _ rfl (hall 3 (by decide))
          have g4 := hJ.fv 4 _ rfl (hall 4 (by decide))
          have g5 := hJ.fv 5 _ rfl (hall 5 (by decide))
          have g6 := hJ.fv 6 _ rfl (hall 6 (by decide))
          have g7 := hJ.fv 7 _ rfl (hall 7 (by decide))
          have g8 := hJ.fv 8 _ rfl (hall 8 (by decide))
          have g9 := hJ.fv 9 _ rfl (hall 9 (by decide))
          have g10 := hJ.fv 10 _ rfl (hall 10 (by decide))
          have g11 := hJ.fv 11 _ rfl (hall 11 (by decide))
          have g12 := hJ.fv 12 _ rfl (hall 12 (by decide))
          have g13 := hJ.fv 13 _ rfl (hall 13 (by decide))
          have g14 := hJ.fv 14 _ rfl (hall 14 (by decide))
          have g15 := hJ.fv 15 _ rfl (hall 15 (by decide))
          have g16 := hJ.fv 16 _ rfl (hall 16 (by decide))
          have g17 := hJ.fv 17 _ rfl (hall 17 (by decide))
          have g18 := hJ.fv 18 _ rfl (hall 18 (by decide))
          have g19 := hJ.fv 19 _ rfl (hall 19 (by decide))
          have g20 := hJ.fv 20 _ rfl (hall 20 (by decide))
          simp only [putDs, Act.put, Nat.zero_add, Nat.reduceAdd, List.setIfInBounds_toArray, List.set_cons_succ, List.set_cons_zero, g0, g1, g2, g3, g4, g5, g6, g7, g8, g9, g10, g11, g12, g13, g14, g15, g16, g17, g18, g19, g20]
          clear g0 g1 g2 g3 g4 g5 g6 g7 g8 g9 g10 g11 g12 g13 g14 g15 g16 g17 g18 g19 g20 hJ hall
          obtain ⟨z9, hz9, hwx⟩ := HS9.out
          have HI8 : Hid (WdI g1 g2 W2 wl cl wh ch (i + 1) (i + 1) wx) := by
            show WdI _ _ _ _ _ _ _ _ _ _
            rw [hwx]; exact HI7.out.st2 HG.out.1 (by rw [HLN.out.2.1, HLN.out.2.2.2]) hz9 HBB.out.1 HBB.out.2
          have hd4 : d.length ≤ 4 := HD4.out
          clear hz9 hwx HS9 wa wb
          go_wp2
          exact ⟨⟨i + 1, HI1.out.1, by go_num, HI8.out⟩, HI1.out.2⟩
    · obtain rfl : i = d.length := by omega
      have y1 : RowZ wr g1 wl := by
        have := hwi.r1
        rwa [← HLN.out.2.2.1, mixL_end (by rw [HLN.out.1, HLN.out.2.2.1])] at this
      have y2 : RowZ wr g2 wh := by
        have := hwi.r2
        rwa [← HLN.out.2.2.2, mixL_end (by rw [HLN.out.2.1, HLN.out.2.2.2])] at this
      obtain ⟨u1, u2, u3, u4⟩ := HCAP.out
      have H1 := Lib.hid (y1.ints HLN.out.2.2.1 u1 u2)
      have H2 := Lib.hid (y2.ints HLN.out.2.2.2 u3 u4)
      have HN1 : Hid (g1 ≠ w.heap.size + 1 ∧ g2 ≠ w.heap.size + 1) := by show _ ∧ _; omega
      obtain ⟨r0, r1, r2, r3⟩ := HR6.out
      clear hwi hbp y1 y2 u1 u2 u3 u4 n8 n0 n6 q1 q2 q3 q4 q5 q6 hlt hi
      go_wp2
      refine bodyPost_ret (by simp [results, Tryz.results35, go_sem, r0, r1]; try rfl) rfl ?_
      rw [HR.out]
      have hk : ∀ (x : Value) (l : List Int) (u u' : Value), IntsO wr x l → (∀ b, x.ownBlock = some b → b ≠ w.heap.size + 1) → IntsO ((wr.setCell ⟨w.heap.size + 1, 0, none⟩ u).setCell ⟨w.heap.size + 1, 1, none⟩ u') x l := fun x l u u' h hne =>
        (h.grown (grown_setG wr (w.heap.size + 1) 0 u) (fun r er e2 => by cases er; exact hne _ e2 rfl)).grown (grown_setG _ (w.heap.size + 1) 1 u') (fun r er e2 => by cases er; exact hne _ e2 rfl)
      exact ⟨_, _, rfl, hk _ _ _ _ H1.out (fun b hb => by simp only [Value.ownBlock, Option.some.injEq] at hb; subst hb; exact HN1.out.1), hk _ _ _ _ H2.out (fun b hb => by simp only [Value.ownBlock, Option.some.injEq] at hb; subst hb; exact HN1.out.2), (HBE.out.setCell (by simp) _).setCell (by simp) _⟩
theorem rwide_any (d : List DimT) (l : LayT) (c : List Int) (vd vs vo vc : Value) (w : World) (hd : Dims w vd d) (hl : LayR w vs vo l) (hc : Ints w vc c) (hs : StrD d) (hcb : ∀ x ∈ c, -9223372036854775808 ≤ x ∧ x ≤ 9223372036854775807) :
    Calls Tryz.prog 35 #[vd, layV vs vo l, vc] w (RetBx (widQ d l c true) (widE d l c true) w) := by
  by_cases h9 : widE d l c false = 0
  · have h := h9
    unfold widE at h
    by_cases h1 : layoutE d l = 0
    · by_cases h2 : c.length = d.length
      · have h3 := widE_of h1 h2 false
        rw [h9] at h3
        cases hok : okC d l.sides c with
        | false => rw [hok] at h3; cases h3
        | true =>
          rw [widE_flag, h9, widQ_of h1 h2 true hok]
          exact rwide_core d l c vd vs vo vc w hd hl hc hs hcb h1 h2 hok
      · rw [if_neg (fun h' => h' h1), if_pos h2] at h; cases h
    · rw [if_pos h1] at h; exact absurd h h1
  · rw [widE_flag, widQ_err (by rw [widE_flag]; exact h9)]
    exact rwide_bad d l c vd vs vo vc w hd hl hc hs hcb h9
end Go.Proofs.YtpdhlgkcjakcgaaGreatDoor
/- append(out, append([]int{a}, row...)) in one drawn region: what is known while it runs. -/
namespace Go.Proofs.YtpdhlgkcjakcgaaGreatDoor
open Go.RowKit

theorem own_one {base : Nat} (w : World) (T : TypeId) (u : Value) (hb : base ≤ w.heap.size) : (w.alloc (.cells #[u] T)).ownsRow base T 1 (.slice (some ⟨w.heap.size, 0, none⟩) 1 1) 1 [u] :=
  ⟨by simp, .inr ⟨w.heap.size, 1, #[u], rfl, hb, World.alloc_heap_new w _, Nat.le_refl _, by decide, by simp, by simp⟩⟩
/-- integers behind integers -/
theorem append_ints (w : World) (base : Nat) (hb : base ≤ w.heap.size) (v : Value) (l : List Int) (hown : w.ownsRow base 3 1 v l.length (l.map (Value.int .i64))) (u : Value) (l2 : List Int) (hu : Ints w u l2) (hlen : l.length + l2.length ≤ 1000000) (ty : TypeId) :
    ∃ v' w', (Builtin.append_ #[38, 38] ty #[v, u]).run Tryz.prog w = .ok v' w' ∧ w'.ownsRow base 3 1 v' (l.length + l2.length) ((l ++ l2).map (Value.int .i64)) ∧ w.grownBy w' v.ownBlock := by
  obtain ⟨i0, hi0, hz0, hz1, hz2⟩ := info_parts infoZ
  obtain ⟨a, cap, rfl, hlc, hcm, hx0⟩ := hu
  rcases Nat.eq_zero_or_pos l2.length with h0 | h0
  · obtain rfl : l2 = [] := List.length_eq_zero_iff.1 h0
    refine ⟨v, w, ?_, by simpa using hown, ⟨rfl, rfl, rfl, Nat.le_refl _, fun _ _ _ => rfl⟩⟩
    have hs : Src Tryz.prog i0.size 38 (.slice a 0 cap) 0 [] w := ⟨.inl ⟨_, Tryz.underlying38⟩, fun w' => rfl, by cases a <;> simp [Builtin.firstCells, loadCells, loadCellsFrom], by cases a <;> simp [Builtin.firstCells, loadCells, loadCellsFrom], by simp, fun u hu => by cases hu⟩
    rcases hown.2 with ⟨rfl, h9⟩ | ⟨g, c9, cur, rfl, k1, k2, k3, -⟩
    · exact run_append_nothing w _ _ _ _ i0 Tryz.underlying38 hi0 none 0 0 (Nat.le_refl _) _ hs
    · exact run_append_nothing w _ _ _ _ i0 Tryz.underlying38 hi0 _ _ _ k3 _ hs
  · obtain ⟨g, o, rfl, hx⟩ := hx0 h0
    obtain ⟨g1, cp1, w', hrun, hn, hgr, -, -⟩ := run_append_lies (P := Tryz.prog) w 38 ty base 3 i0 (.int .i64 0) 1 8 Tryz.underlying38 hi0 hz0 hz1 hz2 rfl (by decide) v l.length _ hown ⟨g, o, none⟩ l2.length cap (l2.map (Value.int .i64)) (by simp) (fun j u hj => by
      rw [List.getElem?_map] at hj
      cases hj2 : l2[j]? with
      | none => rw [hj2] at hj; cases hj
      | some x =>
        rw [hj2] at hj
        have hj := Option.some.inj hj
        subst hj
        have := hx j x hj2
        rw [Nat.mul_one] at this
        rw [show (⟨g, o, none⟩ : Addr).add j = ⟨g, o + j, none⟩ from by unfold Addr.add; split <;> simp_all]
        exact this) (fun u hu => by
      obtain ⟨x, -, rfl⟩ := List.mem_map.1 hu
      rfl) h0 (by unfold maxLen; omega) (by omega) hb _ rfl
    exact ⟨_, w', hrun, by rw [List.map_append]; exact hn, hgr⟩
structure ArJ (VL : List (Option Value)) (n1 : Nat) (W : World) (v : Value) (rows : List (List Int)) (A : Int) (row : List Int) (dn : Nat → Bool) (vals : Nat → Value) (w : World) : Prop where
  gr : W.grownBy w v.ownBlock
  s0 : dn 14 = false → Below W.heap.size W w
  b7 : dn 7 = true → dn 12 = false → w.ownsRow W.heap.size 3 1 (vals 7) 1 [.int .i64 A]
  b12 : dn 12 = true → dn 14 = false → IntsO w (vals 12) (A :: row)
  b13 : dn 13 = true → dn 14 = false → ∃ b, vals 13 = .slice (some ⟨b, 0, none⟩) 1 1 ∧ w.cell? ⟨b, 0, none⟩ = some (vals 12)
  b14 : dn 14 = true → RowsO n1 w (vals 14) (rows ++ [A :: row])
  b15 : dn 15 = true → vals 15 = vals 14
  fv : Told VL dn vals
section
variable {VL : List (Option Value)} {n1 : Nat} {W : World} {v : Value} {rows : List (List Int)} {A : Int} {row : List Int} {dn : Nat → Bool} {vals : Nat → Value} {w : World}
theorem grownBy_trans' {a b c : World} {row : Option Nat} (h : a.grownBy b row) (k : b.grownBy c row) : a.grownBy c row := h.trans k
theorem ArJ.start : ArJ VL n1 W v rows A row (fun _ => false) (fun _ => undef) { W with drawn := W.drawn + 1 } :=
  ⟨grown_of_below (Below.refl _ _).drew _, fun _ => (Below.refl _ _).drew, fun h => Bool.noConfusion h, fun h => Bool.noConfusion h, fun h => Bool.noConfusion h, fun h => Bool.noConfusion h, fun h => Bool.noConfusion h, fun _ _ _ h => Bool.noConfusion h⟩
theorem ArJ.read {i : Nat} {x : Value} (h : ArJ VL n1 W v rows A row dn vals w) (h7 : 7 ≠ i) (h12 : 12 ≠ i) (h13 : 13 ≠ i) (h14 : 14 ≠ i) (h15 : 15 ≠ i) (hv : VL[i]? = some (some x)) : ArJ VL n1 W v rows A row (upd dn i) (updV vals i x) w := by
  refine ⟨h.gr, ?_, ?_, ?_, ?_, ?_, ?_, h.fv.step (.inl hv)⟩
  · rw [upd_ne h14]; exact h.s0
  · rw [upd_ne h7, upd_ne h12, updV_ne h7]; exact h.b7
  · rw [upd_ne h12, upd_ne h14, updV_ne h12]; exact h.b12
  · rw [upd_ne h13, upd_ne h14, updV_ne h13, updV_ne h12]; exact h.b13
  · rw [upd_ne h14, updV_ne h14]; exact h.b14
  · rw [upd_ne h15, updV_ne h15, updV_ne h14]; exact h.b15
theorem ArJ.step7 (h : ArJ VL n1 W v rows A row dn vals w) (h12 : dn 12 = false) (hv : VL[7]? = some none) : ArJ VL n1 W v rows A row (upd dn 7) (updV vals 7 (.slice (some ⟨w.heap.size, 0, none⟩) 1 1)) (w.alloc (.cells #[.int .i64 A] 3)) := by
  have hw : Below w.heap.size w (w.alloc (.cells #[.int .i64 A] 3)) := below_alloc _ _
  refine ⟨h.gr.trans (grown_of_below hw _), ?_, ?_, ?_, ?_, ?_, ?_, h.fv.step (.inr hv)⟩
  · rw [upd_ne (by decide)]; exact fun h1 => below_keep (h.s0 h1) hw
  · intro _ _; rw [updV_at]; exact own_one w _ _ h.gr.size
  · rw [upd_ne (by decide), h12]; exact fun h => Bool.noConfusion h
  · rw [upd_ne (by decide), upd_ne (by decide), updV_ne (by decide), updV_ne (by decide)]
    intro h1 h2
    obtain ⟨b, e, hc⟩ := h.b13 h1 h2
    exact ⟨b, e, cell_later hc hw⟩
  · rw [upd_ne (by decide), updV_ne (by decide)]; exact fun h1 => (h.b14 h1).later hw
  · rw [upd_ne (by decide), updV_ne (by decide), updV_ne (by decide)]; exact h.b15
theorem ArJ.step12 (h : ArJ VL n1 W v rows A row dn vals w) (h13 : dn 13 = false) (h14 : dn 14 = false) (hv : VL[12]? = some none) {v' : Value} {w' : World} (hb7 : w.ownsRow W.heap.size 3 1 (vals 7) 1 [.int .i64 A])
    (ho : w'.ownsRow W.heap.size 3 1 v' (1 + row.length) ((A :: row).map (Value.int .i64))) (hg : w.grownBy w' (vals 7).ownBlock) : ArJ VL n1 W v rows A row (upd dn 12) (updV vals 12 v') w' := by
  have hs : Below W.heap.size W w' := (h.s0 h14).grown hg h.gr.size (fun k e => (hb7.lt k e).1)
  refine ⟨grown_of_below hs _, fun _ => hs, ?_, ?_, ?_, ?_, ?_, h.fv.step (.inr hv)⟩
  · rw [upd_at]; exact fun _ h => Bool.noConfusion h
  · intro _ _; rw [updV_at]; exact RowZ.append_owns ho (by rw [List.length_cons]; omega)
  · rw [upd_ne (by decide), h13]; exact fun h => Bool.noConfusion h
  · rw [upd_ne (by decide), h14]; exact fun h => Bool.noConfusion h
  · rw [upd_ne (by decide), updV_ne (by decide), updV_ne (by decide)]; exact h.b15
theorem ArJ.step13 (h : ArJ VL n1 W v rows A row dn vals w) (h12 : dn 12 = true) (h14 : dn 14 = false) (hv : VL[13]? = some none) {T : TypeId} : ArJ VL n1 W v rows A row (upd dn 13) (updV vals 13 (.slice (some ⟨w.heap.size, 0, none⟩) 1 1)) (w.alloc (.cells #[vals 12] T)) := by
  have hw : Below w.heap.size w (w.alloc (.cells #[vals 12] T)) := below_alloc _ _
  refine ⟨h.gr.trans (grown_of_below hw _), ?_, ?_, ?_, ?_, ?_, ?_, h.fv.step (.inr hv)⟩
  · rw [upd_ne (by decide)]; exact fun h1 => below_keep (h.s0 h1) hw
  · rw [upd_ne (by decide), upd_ne (by decide), h12]; exact fun _ h => Bool.noConfusion h
  · rw [upd_ne (by decide), upd_ne (by decide), updV_ne (by decide)]; exact fun h1 h2 => (h.b12 h1 h2).later hw
  · intro _ _; rw [updV_at, updV_ne (by decide)]; exact ⟨_, rfl, by rw [World.cell?_alloc_at _ _ _ _ rfl]; rfl⟩
  · rw [upd_ne (by decide), h14]; exact fun h => Bool.noConfusion h
  · rw [upd_ne (by decide), updV_ne (by decide), updV_ne (by decide)]; exact h.b15
theorem ArJ.step14 (h : ArJ VL n1 W v rows A row dn vals w) (h12 : dn 12 = true) (h15 : dn 15 = false) (hv : VL[14]? = some none) {v' : Value} {w' : World} (hR : RowsO n1 w' v' (rows ++ [A :: row])) (hg : w.grownBy w' v.ownBlock) : ArJ VL n1 W v rows A row (upd dn 14) (updV vals 14 v') w' := by
  refine ⟨h.gr.trans hg, ?_, ?_, ?_, ?_, ?_, ?_, h.fv.step (.inr hv)⟩
  · rw [upd_at]; exact fun h => Bool.noConfusion h
  · rw [upd_ne (by decide), upd_ne (by decide), h12]; exact fun _ h => Bool.noConfusion h
  · rw [upd_at]; exact fun _ h => Bool.noConfusion h
  · rw [upd_at]; exact fun _ h => Bool.noConfusion h
  · intro _; rw [updV_at]; exact hR
  · rw [upd_ne (by decide), h15]; exact fun h => Bool.noConfusion h
theorem ArJ.step15 (h : ArJ VL n1 W v rows A row dn vals w) (hv : VL[15]? = some none) : ArJ VL n1 W v rows A row (upd dn 15) (updV vals 15 (vals 14)) w := by
  refine ⟨h.gr, ?_, ?_, ?_, ?_, ?_, ?_, h.fv.step (.inr hv)⟩
  · rw [upd_ne (by decide)]; exact h.s0
  · rw [upd_ne (by decide), upd_ne (by decide), updV_ne (by decide)]; exact h.b7
  · rw [upd_ne (by decide), upd_ne (by decide), updV_ne (by decide)]; exact h.b12
  · rw [upd_ne (by decide), upd_ne (by decide), updV_ne (by decide), updV_ne (by decide)]; exact h.b13
  · rw [upd_ne (by decide), updV_ne (by decide)]; exact h.b14
  · intro _; rw [updV_at, updV_ne (by decide)]
end
end Go.Proofs.YtpdhlgkcjakcgaaGreatDoor
/- The reference of layer 2, contract: around. (printed by raround.py) -/
namespace Go.Proofs.YtpdhlgkcjakcgaaGreatDoor
open Go.RowKit
attribute [local go_sem] Oper.semAt_some

/-- a result: rows -/
def RetRw (q : List (List Int)) (w : World) (e : Ending) (w' : World) : Prop := ∃ v, e = .returned v ∧ RowsO w.heap.size w' v q ∧ Below w.heap.size w w'
theorem aroundL_length : ∀ c : List Int, (aroundL c).length = 3 ^ c.length
  | [] => rfl
  | a :: r => by rw [aroundL, List.length_append, List.length_append, List.length_map, List.length_map, List.length_map, aroundL_length r, List.length_cons, Nat.pow_succ]; omega
/-- the rows of the first p of three -/
def rwP (a : Int) (R : List (List Int)) (p : Nat) : List (List Int) := (List.range p).flatMap fun (t : Nat) => R.map fun y => (a + ((t : Int) - 1)) :: y
theorem rwP_succ (a : Int) (R : List (List Int)) (p : Nat) : rwP a R p ++ R.map (fun y => (a + ((p : Int) - 1)) :: y) = rwP a R (p + 1) := by
  unfold rwP
  rw [List.range_succ, List.flatMap_append, List.flatMap_singleton]
theorem rwP_end (a : Int) (c : List Int) : rwP a (aroundL c) 3 = aroundL (a :: c) := by
  unfold rwP
  rw [show List.range 3 = [0, 1, 2] from rfl, aroundL]
  simp only [List.flatMap_cons, List.flatMap_nil, List.append_nil]
  have e0 : a + (((0 : Nat) : Int) - 1) = a - 1 := by omega
  have e1 : a + (((1 : Nat) : Int) - 1) = a := by omega
  have e2 : a + (((2 : Nat) : Int) - 1) = a + 1 := by omega
  rw [e0, e1, e2]
theorem rwP_length (a : Int) (R : List (List Int)) (p : Nat) : (rwP a R p).length = p * R.length := by
  induction p with
  | zero => simp [rwP]
  | succ p ih => rw [← rwP_succ, List.length_append, ih, List.length_map, Nat.add_mul]; omega
/-- a row among rows that were made -/
theorem RowsO.at {n₀ n cap : Nat} {w : World} {a : Option Addr} {l : List (List Int)} (h : RowsO n₀ w (.slice a n cap) l) {i : Nat} {x : List Int} (hx : l[i]? = some x) : ∃ g u, a = some ⟨g, 0, none⟩ ∧ n₀ ≤ g ∧ g < w.heap.size ∧ w.cell? ⟨g, i, none⟩ = some u ∧ IntsO w u x := by
  obtain ⟨vals, ho, hv⟩ := h
  have hl := ho.1
  rw [Nat.mul_one] at hl
  have hlt : i < vals.length := by rw [hl]; exact lt_at hx
  have hc := fun (g : Nat) (e : (Value.slice a n cap).ownBlock = some g) => ho.cells e i vals[i] (List.getElem?_eq_getElem hlt)
  rcases ho.2 with ⟨e, h0⟩ | ⟨g, c9, cur, e, h1, h2, h3, h4, h5, h6⟩
  · have := lt_at hx
    omega
  · injection e with e1 e2 e3
    subst e1
    have := hc g rfl
    rw [show (⟨g, 0, none⟩ : Addr).add i = ⟨g, i, none⟩ from by unfold Addr.add; split <;> simp_all] at this
    exact ⟨g, _, rfl, h1, (Array.getElem?_eq_some_iff.1 h2).1, this, hv i x _ hx (List.getElem?_eq_getElem hlt)⟩
theorem ownsRow_base' {n₀ n k : Nat} {w : World} {T : TypeId} {v : Value} {m : Nat} {l : List Value} (h : w.ownsRow n T k v m l) (hn : n₀ ≤ n) : w.ownsRow n₀ T k v m l := by
  refine ⟨h.1, ?_⟩
  rcases h.2 with h | ⟨g, cap, cur, e, h1, h2⟩
  · exact .inl h
  · exact .inr ⟨g, cap, cur, e, Nat.le_trans hn h1, h2⟩
theorem RowsO.lower {n₀ n : Nat} {w : World} {v : Value} {l : List (List Int)} (h : RowsO n w v l) (hn : n₀ ≤ n) : RowsO n₀ w v l := by
  obtain ⟨vals, ho, hx⟩ := h
  exact ⟨vals, ownsRow_base' ho hn, hx⟩
set_option maxHeartbeats 16000000 in
set_option maxRecDepth 100000 in
theorem raround_core (c : List Int) (hcb : ∀ x ∈ c, -9000000000000000000 ≤ x ∧ x ≤ 9000000000000000000) (h4 : c.length ≤ 4) : ∀ (n j : Nat), j + n = c.length → ∀ (v : Value) (w : World), Ints w v c →
    Calls Tryz.prog 86 #[v, .int .i64 (j : Nat)] w (RetRw (aroundL (c.drop j)) w)
  | 0, j, hj, v, w, hc => by
    obtain rfl : j = c.length := by omega
    rw [List.drop_length]
    obtain ⟨a, cap, rfl, -⟩ := hc.shape
    have t1 : ((c.length : Int) == (c.length : Int)) = true := beq_iff_eq.2 rfl
    have HR : Hid (∀ T, T = 38 → RowsO w.heap.size (w.alloc (.cells #[.slice none 0 0] T)) (.slice (some ⟨w.heap.size, 0, none⟩) 1 1) [[]]) := fun T e => by
      subst e
      refine ⟨[.slice none 0 0], own_one w _ _ (Nat.le_refl _), fun i x u hi hu => ?_⟩
      match i, hi, hu with
      | 0, hi, hu => cases hi; cases hu; exact IntsO.nil _
      | i + 1, hi, hu => simp at hi
    clear hc hcb hj
    go_enter Tryz.func86, Tryz.ntmps86
    go_wp2
    go_ret
    exact ⟨_, rfl, HR.out _ rfl, below_alloc _ _⟩
  | n + 1, j, hj, v, w, hc => by
    have ih := Lib.hid (fun w1 (hb : Below w.heap.size w w1) => raround_core c hcb h4 n (j + 1) (by omega) v w1 (hc.later IntR.lasts hb))
    obtain ⟨pc, cap, rfl, -⟩ := hc.shape
    obtain ⟨gc, oc, a, ea, ha, hr⟩ := hc.at j (by omega)
    subst ea
    rw [Nat.mul_one] at hr
    unfold IntR at hr
    have hab := hcb a (List.mem_of_getElem? ha)
    obtain ⟨R, hRq⟩ : ∃ R, R = aroundL (c.drop (j + 1)) := ⟨_, rfl⟩
    rw [← hRq] at ih
    have hRl : R.length ≤ 27 := by
      rw [hRq, aroundL_length, List.length_drop]
      exact Nat.le_trans (Nat.pow_le_pow_right (show 0 < 3 by decide) (show c.length - (j + 1) ≤ 3 by omega)) (by decide)
    have HROW : Hid (∀ row ∈ R, row.length ≤ 4) := fun row hrow => by
      rw [hRq, around_iff, List.length_drop] at hrow
      omega
    have hEnd : rwP a R 3 = aroundL (c.drop j) := by rw [drop_cons ha, hRq, rwP_end]
    rw [← hEnd]
    have wj : IntKind.i64.wrap ((j : Int) + 1) = ((j + 1 : Nat) : Int) := by rw [IntWalk.i64_in _ (by omega)]; omega
    have t1 : ((j : Int) == (c.length : Int)) = false := by rw [beq_eq_false_iff_ne]; omega
    have ib0 : (0 : Int) ≤ (j : Int) := by omega
    have ib1 : (j : Int) < (c.length : Int) := by omega
    have HGC : Hid (gc < w.heap.size) := World.block_lt_of_cell? _ _ hr
    have HCR := Lib.hid hr
    obtain ⟨j0, hj0, hy0, hy1, hy2⟩ := info_parts infoIs
    clear hc hcb hj ha hr hRq hEnd
    go_enter Tryz.func86, Tryz.ntmps86
    go_wp2_with fail
    refine (ih.out _ (Below.refl _ _)).mono ?_
    rintro e w1 ⟨rv, rfl, hrr, hb⟩
    have HB1 := Lib.hid hb
    have HRR := Lib.hid hrr
    have HCR1 := Lib.hid (cell_later HCR.out hb)
    have HGC1 : Hid (gc < w1.heap.size) := Nat.lt_of_lt_of_le HGC.out hb.size
    obtain ⟨ar, capr, rfl, -⟩ := hrr.rows.shape
    clear hb hrr ih wj t1
    go_wp2
    go_loopw [6, 7] (fun ov kv wr => ∃ p : Nat, p ≤ 3 ∧ kv = .int .i64 ((p : Int) - 1) ∧ RowsO w1.heap.size wr ov (rwP a R p) ∧ Below w1.heap.size w1 wr) (fun _ kv _ => (2 - intOf kv).toNat)
    case atStart => exact ⟨0, by decide, rfl, RowsO.nil _ _, Below.refl _ _⟩
    case round =>
      obtain ⟨p, hp, rfl, hro, hb⟩ := hrel
      have HRP := Lib.hid hro
      have HBP := Lib.hid hb
      clear hro hb
      by_cases h3 : p < 3
      · obtain ⟨k, hk⟩ : ∃ k, k = (p : Int) - 1 := ⟨_, rfl⟩
        rw [← hk]
        have HK := Lib.hid hk
        have tk : decide (k ≤ 1) = true := decide_eq_true (by omega)
        have wk : IntKind.i64.wrap (k + 1) = k + 1 := IntWalk.i64_in _ (by omega)
        have wak : IntKind.i64.wrap (a + k) = a + k := IntWalk.i64_in _ (by omega)
        have HP3 : Hid (p < 3) := h3
        clear hk h3 hp
        go_wp2
        go_loopw [6, 8] (fun ov iv wr => ∃ m : Nat, m ≤ R.length ∧ iv = .int .i64 (m : Nat) ∧ RowsO w1.heap.size wr ov (rwP a R p ++ (R.take m).map (fun y => (a + k) :: y)) ∧ Below w1.heap.size w1 wr) (fun _ iv _ => R.length - (intOf iv).toNat)
        case atStart => exact ⟨0, Nat.zero_le _, rfl, by rw [List.take_zero, List.map_nil, List.append_nil]; exact HRP.out, HBP.out⟩
        case round =>
          obtain ⟨m, hm, rfl, hro, hb⟩ := hrel
          have HBX := Lib.hid hb
          by_cases hlt : m < R.length
          · obtain ⟨row, hrow⟩ := at_lt (l := R) (i := m) hlt
            obtain ⟨gr, u, ear, hg1, hg2, hcu, hiu⟩ := HRR.out.at hrow
            subst ear
            have HRL := Lib.hid (HROW.out row (List.mem_of_getElem? hrow))
            obtain ⟨rows, hrows⟩ : ∃ rows, rows = rwP a R p ++ (R.take m).map (fun y => (a + k) :: y) := ⟨_, rfl⟩
            have HRW : Hid (rows.length ≤ 90) := by
              show _ ≤ _
              rw [hrows, List.length_append, rwP_length, List.length_map, List.length_take]
              have h1 : p * R.length ≤ 2 * 27 := Nat.mul_le_mul (by have : p < 3 := HP3.out; omega) hRl
              omega
            rw [← hrows] at hro
            have HRO := Lib.hid hro
            have HN1 : Hid (w1.heap.size ≤ wr.heap.size) := hb.size
            have HOV : Hid (∀ r, u6.ownBlock = some r → w1.heap.size ≤ r) := fun r e => by
              obtain ⟨vs, hvs, -⟩ := hro.ex
              exact (hvs.lt r e).1
            have KR : Hid (∀ w', wr.grownBy w' u6.ownBlock → w'.cell? ⟨gc, oc + j, none⟩ = some (.int .i64 a) ∧ w'.cell? ⟨gr, m, none⟩ = some u) := fun w' h => by
              have e : ∀ b, b < w1.heap.size → w'.heap[b]? = wr.heap[b]? := fun b hb9 => h.block b (Nat.lt_of_lt_of_le hb9 HN1.out) (fun e => by have := HOV.out b e.symm; omega)
              exact ⟨(World.cell?_of_block (a := ⟨gc, oc + j, none⟩) (e gc HGC1.out)).trans (cell_later HCR1.out HBX.out), (World.cell?_of_block (a := ⟨gr, m, none⟩) (e gr hg2)).trans (cell_later hcu HBX.out)⟩
            have HU : Hid (∀ w', wr.grownBy w' u6.ownBlock → IntsO w' u row) := fun w' h => (hiu.later HBX.out).grown h (fun r e e2 => by
              have h1 := (hiu.tag r e2).lt
              have h2 := HOV.out r e
              omega)
            have hfin : rows ++ [(a + k) :: row] = rwP a R p ++ (R.take (m + 1)).map (fun y => (a + k) :: y) := by
              rw [hrows, take_snoc' hrow, List.map_append, List.append_assoc]; rfl
            have HFIN := Lib.hid hfin
            have HI1 : Hid (m + 1 ≤ R.length ∧ R.length - (m + 1) < R.length - m) := by show _ ∧ _; omega
            have im0 : (0 : Int) ≤ (m : Int) := by omega
            have im1 : (m : Int) < (R.length : Int) := by omega
            clear hro hb hrow hg1 hg2 hcu hiu hrows hfin hlt hm wk tk
            go_upto_region 11 with (fail)
            refine wp_region_inv [some 28, some 29, some 30, some 31, some 32, some 33, some 34, some 35, some 36, some 37, some 38, some 39, some 40, some 41, some 42, some 6] (ArJ [some (u6), some (.slice (some ⟨gc, oc, none⟩) c.length cap), some (.int .i64 (j : Nat)), some (.pointer (some ⟨gc, oc + j, none⟩)), some (.int .i64 a), some (.int .i64 k), some (.int .i64 (a + k)), none, some (.slice (some ⟨gr, 0, none⟩) R.length capr), some (.int .i64 (m : Nat)), some (.pointer (some ⟨gr, m, none⟩)), some (u), none, none, none, none] w1.heap.size wr u6 rows (a + k) row) rfl (by kernel_rfl) (by kernel_rfl) (by kernel_rfl) (by kernel_rfl) ?_ ?_ ?_
            · exact ArJ.start
            · intro i9 op9 ho
              have hi9 : i9 < 16 := (Array.getElem?_eq_some_iff.1 ho).1
              match i9, hi9 with
              | 0, _ =>
                obtain rfl := Option.some.inj ho
                intro a9 dn vals wx hJ0 hdi hde hdj hev hsl hun
                have hJ := Lib.hid hJ0
                rw [if_pos (wanted_none rfl)]
                have f6 : (a9.tmps[6]?).getD undef = u6 := hun 15 6 (hdj 15 2 _ _ rfl rfl rfl rfl) rfl
                clear hde hdj hev hsl hun hJ0 hdi
                go_simp
                exact hJ.out.read (by decide) (by decide) (by decide) (by decide) (by decide) rfl
              | 1, _ =>
                obtain rfl := Option.some.inj ho
                intro a9 dn vals wx hJ0 hdi hde hdj hev hsl hun
                have hJ := Lib.hid hJ0
                rw [if_pos (wanted_none rfl)]
                have f0 : (a9.tmps[0]?).getD undef = .slice (some ⟨gc, oc, none⟩) c.length cap := hev 0 (by kernel_rfl)
                clear hde hdj hev hsl hun hJ0 hdi
                go_simp
                exact hJ.out.read (by decide) (by decide) (by decide) (by decide) (by decide) rfl
              | 2, _ =>
                obtain rfl := Option.some.inj ho
                intro a9 dn vals wx hJ0 hdi hde hdj hev hsl hun
                have hJ := Lib.hid hJ0
                rw [if_pos (wanted_none rfl)]
                have f1 : (a9.tmps[1]?).getD undef = .int .i64 (j : Nat) := hev 1 (by kernel_rfl)
                clear hde hdj hev hsl hun hJ0 hdi
                go_simp
                exact hJ.out.read (by decide) (by decide) (by decide) (by decide) (by decide) rfl
              | 3, _ =>
                obtain rfl := Option.some.inj ho
                intro a9 dn vals wx hJ0 hdi hde hdj hev hsl hun
                have hJ := Lib.hid hJ0
                rw [if_pos (wanted_none rfl)]
                have f29 : (a9.tmps[29]?).getD undef = .slice (some ⟨gc, oc, none⟩) c.length cap := (hsl 1 29 (hde 0 _ rfl rfl) rfl).trans (hJ.out.fv 1 _ rfl (hde 0 _ rfl rfl))
                have f30 : (a9.tmps[30]?).getD undef = .int .i64 (j : Nat) := (hsl 2 30 (hde 1 _ rfl rfl) rfl).trans (hJ.out.fv 2 _ rfl (hde 1 _ rfl rfl))
                clear hde hdj hev hsl hun hJ0 hdi
                go_simp
                exact hJ.out.read (by decide) (by decide) (by decide) (by decide) (by decide) rfl
              | 4, _ =>
                obtain rfl := Option.some.inj ho
                intro a9 dn vals wx hJ0 hdi hde hdj hev hsl hun
                have hJ := Lib.hid hJ0
                rw [if_pos (wanted_none rfl)]
                have f31 : (a9.tmps[31]?).getD undef = .pointer (some ⟨gc, oc + j, none⟩) := (hsl 3 31 (hde 0 _ rfl rfl) rfl).trans (hJ.out.fv 3 _ rfl (hde 0 _ rfl rfl))
                obtain ⟨c0, c1⟩ := KR.out wx hJ.out.gr
                clear hde hdj hev hsl hun hJ0 hdi
                go_simp
                exact hJ.out.read (by decide) (by decide) (by decide) (by decide) (by decide) rfl
              | 5, _ =>
                obtain rfl := Option.some.inj ho
                intro a9 dn vals wx hJ0 hdi hde hdj hev hsl hun
                have hJ := Lib.hid hJ0
                rw [if_pos (wanted_none rfl)]
                have f7 : (a9.tmps[7]?).getD undef = .int .i64 k := hev 7 (by kernel_rfl)
                clear hde hdj hev hsl hun hJ0 hdi
                go_simp
                exact hJ.out.read (by decide) (by decide) (by decide) (by decide) (by decide) rfl
              | 6, _ =>
                obtain rfl := Option.some.inj ho
                intro a9 dn vals wx hJ0 hdi hde hdj hev hsl hun
                have hJ := Lib.hid hJ0
                rw [if_pos (wanted_none rfl)]
                have f32 : (a9.tmps[32]?).getD undef = .int .i64 a := (hsl 4 32 (hde 0 _ rfl rfl) rfl).trans (hJ.out.fv 4 _ rfl (hde 0 _ rfl rfl))
                have f33 : (a9.tmps[33]?).getD undef = .int .i64 k := (hsl 5 33 (hde 1 _ rfl rfl) rfl).trans (hJ.out.fv 5 _ rfl (hde 1 _ rfl rfl))
                clear hde hdj hev hsl hun hJ0 hdi
                go_simp
                exact hJ.out.read (by decide) (by decide) (by decide) (by decide) (by decide) rfl
              | 7, _ =>
                obtain rfl := Option.some.inj ho
                intro a9 dn vals wx hJ0 hdi hde hdj hev hsl hun
                have hJ := Lib.hid hJ0
                rw [if_pos (wanted_none rfl)]
                have f34 : (a9.tmps[34]?).getD undef = .int .i64 (a + k) := (hsl 6 34 (hde 0 _ rfl rfl) rfl).trans (hJ.out.fv 6 _ rfl (hde 0 _ rfl rfl))
                have n12 : Hid (dn 12 = false) := hdj 12 0 _ _ rfl rfl rfl rfl
                clear hde hdj hev hsl hun hJ0 hdi
                go_simp
                exact hJ.out.step7 n12.out rfl
              | 8, _ =>
                obtain rfl := Option.some.inj ho
                intro a9 dn vals wx hJ0 hdi hde hdj hev hsl hun
                have hJ := Lib.hid hJ0
                rw [if_pos (wanted_none rfl)]
                have f5 : (a9.tmps[5]?).getD undef = .slice (some ⟨gr, 0, none⟩) R.length capr := hev 5 (by kernel_rfl)
                clear hde hdj hev hsl hun hJ0 hdi
                go_simp
                exact hJ.out.read (by decide) (by decide) (by decide) (by decide) (by decide) rfl
              | 9, _ =>
                obtain rfl := Option.some.inj ho
                intro a9 dn vals wx hJ0 hdi hde hdj hev hsl hun
                have hJ := Lib.hid hJ0
                rw [if_pos (wanted_none rfl)]
                have f8 : (a9.tmps[8]?).getD undef = .int .i64 (m : Nat) := hev 8 (by kernel_rfl)
                clear hde hdj hev hsl hun hJ0 hdi
                go_simp
                exact hJ.out.read (by decide) (by decide) (by decide) (by decide) (by decide) rfl
              | 10, _ =>
                obtain rfl := Option.some.inj ho
                intro a9 dn vals wx hJ0 hdi hde hdj hev hsl hun
                have hJ := Lib.hid hJ0
                rw [if_pos (wanted_none rfl)]
                have f36 : (a9.tmps[36]?).getD undef = .slice (some ⟨gr, 0, none⟩) R.length capr := (hsl 8 36 (hde 0 _ rfl rfl) rfl).trans (hJ.out.fv 8 _ rfl (hde 0 _ rfl rfl))
                have f37 : (a9.tmps[37]?).getD undef = .int .i64 (m : Nat) := (hsl 9 37 (hde 1 _ rfl rfl) rfl).trans (hJ.out.fv 9 _ rfl (hde 1 _ rfl rfl))
                clear hde hdj hev hsl hun hJ0 hdi
                go_simp
                exact hJ.out.read (by decide) (by decide) (by decide) (by decide) (by decide) rfl
              | 11, _ =>
                obtain rfl := Option.some.inj ho
                intro a9 dn vals wx hJ0 hdi hde hdj hev hsl hun
                have hJ := Lib.hid hJ0
                rw [if_pos (wanted_none rfl)]
                have f38 : (a9.tmps[38]?).getD undef = .pointer (some ⟨gr, m, none⟩) := (hsl 10 38 (hde 0 _ rfl rfl) rfl).trans (hJ.out.fv 10 _ rfl (hde 0 _ rfl rfl))
                obtain ⟨c0, c1⟩ := KR.out wx hJ.out.gr
                clear hde hdj hev hsl hun hJ0 hdi
                go_simp
                exact hJ.out.read (by decide) (by decide) (by decide) (by decide) (by decide) rfl
              | 12, _ =>
                obtain rfl := Option.some.inj ho
                intro a9 dn vals wx hJ0 hdi hde hdj hev hsl hun
                have hJ := Lib.hid hJ0
                rw [if_pos (wanted_none rfl)]
                have f35 : (a9.tmps[35]?).getD undef = vals 7 := hsl 7 35 (hde 0 _ rfl rfl) rfl
                have f39 : (a9.tmps[39]?).getD undef = u := (hsl 11 39 (hde 1 _ rfl rfl) rfl).trans (hJ.out.fv 11 _ rfl (hde 1 _ rfl rfl))
                have n13 : Hid (dn 13 = false) := hdj 13 0 _ _ rfl rfl rfl rfl
                have n14 : Hid (dn 14 = false) := hdj 14 2 _ _ rfl rfl rfl rfl
                have d7 : Hid (dn 7 = true) := hde 0 _ rfl rfl
                have hb7 := hJ.out.b7 d7.out hdi
                obtain ⟨v', w', hrun, hown, hgr⟩ := append_ints wx wr.heap.size hJ.out.gr.size (vals 7) [a + k] hb7 u row (HU.out wx hJ.out.gr).ints (by rw [List.length_singleton]; have := HRL.out; omega) 38
                have HF := Lib.hid (hJ.out.step12 (v' := v') (w' := w') n13.out n14.out rfl hb7 hown hgr)
                have HRUN := Lib.hid hrun
                clear hde hdj hev hsl hun hJ0 hdi
                clear hrun hown hgr hb7
                refine does_append2 (s := .tmp 35) (x := .tmp 39) (T := 38) rfl (by rw [eval_tmp]; exact f35) (by rw [eval_tmp]; exact f39) HRUN.out HF.out
              | 13, _ =>
                obtain rfl := Option.some.inj ho
                intro a9 dn vals wx hJ0 hdi hde hdj hev hsl hun
                have hJ := Lib.hid hJ0
                rw [if_pos (wanted_none rfl)]
                have f40 : (a9.tmps[40]?).getD undef = vals 12 := hsl 12 40 (hde 0 _ rfl rfl) rfl
                have n14 : Hid (dn 14 = false) := hdj 14 1 _ _ rfl rfl rfl rfl
                have d12 : Hid (dn 12 = true) := hde 0 _ rfl rfl
                have HF := Lib.hid (fun T => hJ.out.step13 (T := T) d12.out n14.out rfl)
                obtain ⟨av, cv, e12, -⟩ := (hJ.out.b12 d12.out n14.out).ints.shape
                rw [e12] at f40
                simp only [e12] at HF
                clear hde hdj hev hsl hun hJ0 hdi
                clear e12
                go_simp
                exact HF.out _
              | 14, _ =>
                obtain rfl := Option.some.inj ho
                intro a9 dn vals wx hJ0 hdi hde hdj hev hsl hun
                have hJ := Lib.hid hJ0
                rw [if_pos (wanted_none rfl)]
                have f28 : (a9.tmps[28]?).getD undef = u6 := (hsl 0 28 (hde 0 _ rfl rfl) rfl).trans (hJ.out.fv 0 _ rfl (hde 0 _ rfl rfl))
                obtain ⟨b13, e13, q13⟩ := hJ.out.b13 (hde 1 _ rfl rfl) hdi
                have f41 : (a9.tmps[41]?).getD undef = .slice (some ⟨b13, 0, none⟩) 1 1 := (hsl 13 41 (hde 1 _ rfl rfl) rfl).trans e13
                have n15 : Hid (dn 15 = false) := hdj 15 0 _ _ rfl rfl rfl rfl
                have d12 : Hid (dn 12 = true) := hde 2 _ rfl rfl
                have hR := HRO.out.later (hJ.out.s0 hdi)
                obtain ⟨vs, hvs, hx⟩ := hR.ex
                have hI := hJ.out.b12 d12.out hdi
                have hvl : vs.length = rows.length := by have := hvs.1; rw [Nat.mul_one] at this; exact this
                obtain ⟨av, cv, hav, -⟩ := hI.ints.shape
                obtain ⟨g9, cap9, w9, hrun, hown, hgr, hat, hlt9⟩ := run_append_lies (P := Tryz.prog) (w := wx) 46 46 w1.heap.size 38 j0 (.slice none 0 0) 1 24 Tryz.underlying46 hj0 hy0 hy1 hy2 rfl (by decide) u6 rows.length vs hvs ⟨b13, 0, none⟩ 1 1 [vals 12] rfl (fun t x ht => by
                  match t, ht with
                  | 0, ht => simp at ht; subst ht; exact q13) (fun x hx => by simp at hx; subst hx; rw [hav]; rfl) (by decide) (by have := HRW.out; unfold maxLen; omega) (by have := HRW.out; omega) (Nat.le_trans HN1.out hJ.out.gr.size) _ rfl
                have hS := RowsO.snoc hx hvl (Below.refl _ _) hvs hown hgr hI (by decide)
                have HF := Lib.hid (hJ.out.step14 d12.out n15.out rfl hS hgr)
                have HRUN := Lib.hid hrun
                clear hde hdj hev hsl hun hJ0 hdi
                clear hrun hown hgr hat hlt9 hS hR hvs hx hI q13 e13
                refine does_append2 (s := .tmp 28) (x := .tmp 41) (T := 46) rfl (by rw [eval_tmp]; exact f28) (by rw [eval_tmp]; exact f41) HRUN.out HF.out
              | 15, _ =>
                obtain rfl := Option.some.inj ho
                intro a9 dn vals wx hJ0 hdi hde hdj hev hsl hun
                have hJ := Lib.hid hJ0
                rw [if_pos (wanted_none rfl)]
                have f42 : (a9.tmps[42]?).getD undef = vals 14 := hsl 14 42 (hde 0 _ rfl rfl) rfl
                clear hde hdj hev hsl hun hJ0 hdi
                go_simp
                exact hJ.out.step15 rfl
            · intro dn vals wx hall hJ
              have hS := hJ.b14 (hall 14 (by decide))
              have hG := hJ.gr
              have g15 := hJ.b15 (hall 15 (by decide))
              have g0 := hJ.fv 0 _ rfl (hall 0 (by decide))
              have g1 := hJ.fv 1 _ rfl (hall 1 (by decide))
              have g2 := hJ.fv 2 _ rfl (hall 2 (by decide))
              have g3 := hJ.fv 3 _ rfl (hall 3 (by decide))
              have g4 := hJ.fv 4 _ rfl (hall 4 (by decide))
              have g5 := hJ.fv 5 _ rfl (hall 5 (by decide))
              have g6 := hJ.fv 6 _ rfl (hall 6 (by decide))
              have g8 := hJ.fv 8 _ rfl (hall 8 (by decide))
              have g9 := hJ.fv 9 _ rfl (hall 9 (by decide))
              have g10 := hJ.fv 10 _ rfl (hall 10 (by decide))
              have g11 := hJ.fv 11 _ rfl (hall 11 (by decide))
              obtain ⟨o9, ho9⟩ : ∃ o9, o9 = vals 14 := ⟨_, rfl⟩
              rw [← ho9] at hS g15
              have HS9 := Lib.hid hS
              have HG9 := Lib.hid hG
              simp only [putDs, Act.put, Nat.zero_add, Nat.reduceAdd, List.setIfInBounds_toArray, List.set_cons_succ, List.set_cons_zero, g15, g0, g1, g2, g3, g4, g5, g6, g8, g9, g10, g11]
              clear g15 g0 g1 g2 g3 g4 g5 g6 g8 g9 g10 g11 hS hG hJ hall ho9
              have HB9 := Lib.hid (HBX.out.grown HG9.out HN1.out (fun k e => HOV.out k e))
              rw [HFIN.out] at HS9
              clear HG9
              go_wp2
              exact ⟨⟨m + 1, HI1.out.1, by go_num, HS9.out, HB9.out⟩, HI1.out.2⟩
          · obtain rfl : m = R.length := by omega
            rw [List.take_length, HK.out, rwP_succ] at hro
            have HRO := Lib.hid hro
            have HKE : Hid (k + 1 = ((p + 1 : Nat) : Int) - 1 ∧ p + 1 ≤ 3 ∧ (2 - (k + 1)).toNat < (2 - k).toNat) := by
              have h1 : k = (p : Int) - 1 := HK.out
              have h2 : p < 3 := HP3.out
              show _ ∧ _
              omega
            clear hro hb hm hlt tk
            go_wp2
            exact ⟨⟨p + 1, HKE.out.2.1, by rw [← HKE.out.1], HRO.out, HBX.out⟩, HKE.out.2.2⟩
      · obtain rfl : p = 3 := by omega
        have e1 : ((3 : Nat) : Int) - 1 = 2 := rfl
        rw [e1]
        have HRO := Lib.hid (HRP.out.lower HB1.out.size)
        have HBE := Lib.hid (below_keep HB1.out HBP.out)
        clear e1 h3 hp
        go_wp2
        go_ret
        exact ⟨_, rfl, HRO.out, HBE.out⟩
theorem raround_any (c : List Int) (hcb : ∀ x ∈ c, -9000000000000000000 ≤ x ∧ x ≤ 9000000000000000000) (h4 : c.length ≤ 4) (v : Value) (w : World) (hc : Ints w v c) :
    Calls Tryz.prog 86 #[v, .int .i64 0] w (RetRw (aroundL c) w) := by
  have := raround_core c hcb h4 c.length 0 (by omega) v w hc
  exact this
end Go.Proofs.YtpdhlgkcjakcgaaGreatDoor
/- The reference of layer 2, contract: Homes. -/
namespace Go.Proofs.YtpdhlgkcjakcgaaGreatDoor
open Go.RowKit
attribute [local go_sem] Oper.semAt_some

theorem lay_at' (w : World) (vs vo : Value) (l : LayT) : ∃ W1, W1 = w.alloc (.cells #[vs, vo, .int .i64 l.order, .int .i64 l.tile, .int .i64 l.form, .int .i64 l.codec] 40) ∧ Below w.heap.size w W1 ∧ ∀ w', Below W1.heap.size W1 w' → LayB w' w.heap.size vs vo l :=
  ⟨_, rfl, below_alloc _ _, fun w' h => LayB.made w vs vo l _ w' (by simpa using h)⟩
theorem box_made9 (w z : World) (v1 v2 : Value) (lo hi : List Int) (h1 : IntsO z v1 lo) (h2 : IntsO z v2 hi) (hw : Below w.heap.size w z) :
    (z.alloc (.cells #[v1, v2] 52)).cell? ⟨z.heap.size, 0, none⟩ = some v1 ∧ (z.alloc (.cells #[v1, v2] 52)).cell? ⟨z.heap.size, 1, none⟩ = some v2 ∧ Ints (z.alloc (.cells #[v1, v2] 52)) v1 lo ∧ Ints (z.alloc (.cells #[v1, v2] 52)) v2 hi ∧ Below w.heap.size w (z.alloc (.cells #[v1, v2] 52)) := by
  obtain ⟨W1, hW1, hb, hx⟩ := boxm_at' z v1 v2
  rw [← hW1]
  exact ⟨(hx W1 (Below.refl _ _)).1, (hx W1 (Below.refl _ _)).2, h1.ints.later IntR.lasts hb, h2.ints.later IntR.lasts hb, below_keep hw hb⟩
theorem box_store9 (w z : World) (g : Nat) (v1 v2 a b : Value) (lo hi : List Int) (h1 : IntsO z v1 lo) (h2 : IntsO z v2 hi) (ht : TagB z g 52) (hr : ResB z g a b) (hw : Below w.heap.size w z) (hg : w.heap.size ≤ g) :
    ((z.setCell ⟨g, 0, none⟩ v1).setCell ⟨g, 1, none⟩ v2).cell? ⟨g, 0, none⟩ = some v1 ∧ ((z.setCell ⟨g, 0, none⟩ v1).setCell ⟨g, 1, none⟩ v2).cell? ⟨g, 1, none⟩ = some v2 ∧ Ints ((z.setCell ⟨g, 0, none⟩ v1).setCell ⟨g, 1, none⟩ v2) v1 lo ∧ Ints ((z.setCell ⟨g, 0, none⟩ v1).setCell ⟨g, 1, none⟩ v2) v2 hi ∧ Below w.heap.size w ((z.setCell ⟨g, 0, none⟩ v1).setCell ⟨g, 1, none⟩ v2) := by
  have n1 : ∀ k, some g = some k → v1.ownBlock ≠ some k := fun k e e2 => ((h1.tag k e2).ne ht (by decide)) (by injection e with e; exact e.symm)
  have n2 : ∀ k, some g = some k → v2.ownBlock ≠ some k := fun k e e2 => ((h2.tag k e2).ne ht (by decide)) (by injection e with e; exact e.symm)
  have e1 : (z.setCell ⟨g, 0, none⟩ v1).cell? ⟨g, 1, none⟩ = some b := by
    rw [World.cell?_setCell_other _ _ _ _ (fun e => by injection e with _ e; cases e)]
    exact hr.c1
  refine ⟨?_, World.cell?_setCell_same _ _ _ e1, ((h1.grown (grown_setG z g 0 v1) n1).grown (grown_setG _ g 1 v2) n1).ints, ((h2.grown (grown_setG z g 0 v1) n2).grown (grown_setG _ g 1 v2) n2).ints, (hw.setCell (p := ⟨g, 0, none⟩) hg _).setCell (p := ⟨g, 1, none⟩) hg _⟩
  rw [World.cell?_setCell_other _ _ _ _ (fun e => by injection e with _ e; cases e)]
  exact World.cell?_setCell_same _ _ _ hr.c0
set_option maxHeartbeats 2000000 in
theorem rhomes_bad (d : List DimT) (l : LayT) (c : List Int) (vd vs vo vc : Value) (w : World) (hd : Dims w vd d) (hl : LayR w vs vo l) (hc : Ints w vc c) (hs : StrD d) (h : chunkE d l c ≠ 0) :
    Calls Tryz.prog 29 #[vd, layV vs vo l, vc] w (RetPts [] (chunkE d l c) w) := by
  have C := Lib.hid (fun w1 (hb : Below w.heap.size w w1) => rchunk_any d l c vd vs vo vc w1 (hd.later DimR.lasts hb) (hl.later hb) (hc.later IntR.lasts hb) hs)
  obtain ⟨p1, cap1, rfl, -⟩ := hd.shape
  obtain ⟨p2, cap2, rfl, -⟩ := hl.sides.shape
  obtain ⟨p3, cap3, rfl, -⟩ := hl.over.shape
  obtain ⟨p4, cap4, rfl, -⟩ := hc.shape
  have hne : (chunkE d l c != 0) = true := by rw [bne_iff_ne]; exact h
  generalize chunkQ d l c = q at *
  generalize chunkE d l c = r at *
  obtain ⟨ss, oo, o, t, f, c'⟩ := l
  clear hd hl hs h hc
  go_enter Tryz.func29, Tryz.ntmps29
  go_wp2_with fail
  refine (C.out _ (below_alloc _ _)).mono ?_
  rintro e w1 ⟨v, rfl, hq, hb⟩
  have HB := Lib.hid ((below_alloc w (.cells #[.slice p2 ss.length cap2, .slice p3 oo.length cap3, .int .i64 o, .int .i64 t, .int .i64 f, .int .i64 c'] 40)).trans (hb.mono (by simp)))
  obtain ⟨a9, c9, rfl, -⟩ := hq.ints.shape
  clear hb C hq
  go_wp2
  go_ret2
  exact ⟨_, rfl, RowsO.nil _ _, HB.out⟩
set_option maxHeartbeats 16000000 in
set_option maxRecDepth 100000 in
theorem rhomes_core (d : List DimT) (l : LayT) (c : List Int) (vd vs vo vc : Value) (w : World) (hd : Dims w vd d) (hl : LayR w vs vo l) (hc : Ints w vc c) (hs : StrD d) (h : chunkE d l c = 0) :
    Calls Tryz.prog 29 #[vd, layV vs vo l, vc] w (RetPts (homesQ d l c) 0 w) := by
  have C := Lib.hid (fun w1 (hb : Below w.heap.size w w1) => rchunk_any d l c vd vs vo vc w1 (hd.later DimR.lasts hb) (hl.later hb) (hc.later IntR.lasts hb) hs)
  have hQ : chunkQ d l c = chunkL d l.sides c := if_pos h
  rw [h, hQ] at C
  have hg := ChkG.of_chunk h
  obtain ⟨hly, hcl, -⟩ := chunkE_parts h
  have hdm := dims_good (layout_good hly).dims
  have hql := chunkL_length hg.ls hg.lc
  have hqb : ∀ x ∈ chunkL d l.sides c, 0 ≤ x ∧ x ≤ 2147483648 := fun x hx => by
    obtain ⟨i, hi, rfl⟩ := List.getElem_of_mem hx
    obtain ⟨y, hy⟩ := at_lt (l := d) (i := i) (by omega)
    obtain ⟨z, hz⟩ := at_lt (l := l.sides) (i := i) (by rw [hg.ls]; omega)
    obtain ⟨a, ha⟩ := at_lt (l := c) (i := i) (by rw [hg.lc]; omega)
    exact (okC_bounds h hy hz ha).1 _ (List.getElem_mem hi)
  rw [← homes_filter h]
  obtain ⟨q, hq⟩ : ∃ q, q = chunkL d l.sides c := ⟨_, rfl⟩
  rw [← hq] at C hql hqb ⊢
  obtain ⟨A, hA⟩ : ∃ A, A = aroundL q := ⟨_, rfl⟩
  have CA := Lib.hid (fun v w1 (hv : Ints w1 v q) => raround_any q (fun x hx => by have := hqb x hx; omega) (by omega) v w1 hv)
  rw [← hA] at CA ⊢
  have hAl : A.length ≤ 81 := by
    rw [hA, aroundL_length, hql]
    exact Nat.le_trans (Nat.pow_le_pow_right (show 0 < 3 by decide) hdm.2.1) (by decide)
  have HAL := Lib.hid hAl
  obtain ⟨j0, hj0, hy0, hy1, hy2⟩ := info_parts infoIs
  have HAB : Hid (∀ x ∈ A, x.length = d.length ∧ ∀ n ∈ x, -9223372036854775808 ≤ n ∧ n ≤ 9223372036854775807) := fun x hx => by
    rw [hA] at hx
    obtain ⟨k1, k2⟩ := around_iff.1 hx
    refine ⟨by omega, fun n hn => ?_⟩
    obtain ⟨i, hi, rfl⟩ := List.getElem_of_mem hn
    obtain ⟨k, hk⟩ := at_lt (l := q) (i := i) (by omega)
    have h1 := k2 i k _ hk (List.getElem?_eq_getElem hi)
    have h2 := hqb k (List.mem_of_getElem? hk)
    omega
  have CW := Lib.hid (fun (u : Value) (x : List Int) (hx : ∀ n ∈ x, -9223372036854775808 ≤ n ∧ n ≤ 9223372036854775807) w1 (hb : Below w.heap.size w w1) (hu : Ints w1 u x) => rwide_any d l x vd vs vo u w1 (hd.later DimR.lasts hb) (hl.later hb) hu hs hx)
  have HCC := Lib.hid hc
  obtain ⟨p0, k0, rfl, -⟩ := hd.shape
  obtain ⟨p1, k1, rfl, -⟩ := hl.sides.shape
  obtain ⟨p2, k2, rfl, -⟩ := hl.over.shape
  obtain ⟨p3, k3, rfl, -⟩ := hc.shape
  obtain ⟨W1, hW1, hb1, hbx⟩ := lay_at' w (.slice p1 l.sides.length k1) (.slice p2 l.over.length k2) l
  have HB1 := Lib.hid hb1
  have HBX := Lib.hid hbx
  have HBW : Hid (∀ w', Below W1.heap.size W1 w' → Below w.heap.size w w') := fun w' h => below_keep HB1.out h
  have HCL := Lib.hid hcl
  clear hd hl hc hs hb1 hbx h hQ hg hly hcl hdm hql hqb hq hA
  go_enter Tryz.func29, Tryz.ntmps29
  go_wp2_with fail
  rw [← hW1]
  refine (C.out _ HB1.out).mono ?_
  rintro e w1 ⟨vq, rfl, hvq, hb⟩
  clear hW1 C
  have B1 := Lib.hid hb
  have HVQ := Lib.hid hvq.ints
  obtain ⟨q1, kq1, rfl, -⟩ := hvq.ints.shape
  clear hb hvq
  go_wp2_with fail
  refine (CA.out _ _ HVQ.out).mono ?_
  rintro e w2 ⟨va, rfl, hva, hb⟩
  have B2 := Lib.hid (below_keep B1.out hb)
  have HVA := Lib.hid hva
  obtain ⟨ga, ka, rfl, -⟩ := hva.rows.shape
  clear hb hva CA
  go_wp2
  go_loopw [11, 12] (fun ov iv wr => ∃ i : Nat, i ≤ A.length ∧ iv = .int .i64 (i : Nat) ∧ RowsO w2.heap.size wr ov ((A.take i).filter (homeB d l c)) ∧ Below w2.heap.size w2 wr) (fun _ iv _ => A.length - (intOf iv).toNat)
  case atStart => exact ⟨0, Nat.zero_le _, rfl, RowsO.nil _ _, Below.refl _ _⟩
  case round =>
    obtain ⟨i, hi, rfl, hro, hb⟩ := hrel
    have HRO := Lib.hid hro
    have HBR := Lib.hid hb
    clear hro hb
    by_cases hlt : i < A.length
    · obtain ⟨x, hx⟩ := at_lt (l := A) (i := i) hlt
      obtain ⟨gr, u, ear, hg1, hg2, hcu, hiu⟩ := HVA.out.at hx
      subst ear
      have hxm := HAB.out x (List.mem_of_getElem? hx)
      have hcu := cell_later hcu HBR.out
      have HIU := Lib.hid (hiu.later HBR.out)
      obtain ⟨xl, hxl⟩ : ∃ z, z = (widQ d l x true).1 := ⟨_, rfl⟩
      obtain ⟨xh, hxh⟩ : ∃ z, z = (widQ d l x true).2 := ⟨_, rfl⟩
      obtain ⟨E, hE⟩ : ∃ E, E = widE d l x true := ⟨_, rfl⟩
      have HFB : Hid (homeB d l c x = (decide (E = 0) && hasB xl xh c)) := by show _ = _; rw [hxl, hxh, hE]; rfl
      have CDx : Hid (∀ w9, Below wr.heap.size wr w9 → Calls Tryz.prog 35 #[.slice p0 d.length k0, layV (.slice p1 l.sides.length k1) (.slice p2 l.over.length k2) l, u] w9 (RetBx (xl, xh) E w9)) := fun w9 hb9 => by
        have := CW.out u x hxm.2 w9 (HBW.out _ (below_keep B2.out (below_keep HBR.out hb9))) (HIU.out.ints.later IntR.lasts hb9)
        rw [hxl, hxh, hE]
        exact this
      have HFL : Hid (((A.take (i + 1)).filter (homeB d l c)) = if homeB d l c x = true then (A.take i).filter (homeB d l c) ++ [x] else (A.take i).filter (homeB d l c)) := by
        show _ = _
        rw [take_snoc' hx, List.filter_append]
        cases hh : homeB d l c x <;> simp [hh]
      obtain ⟨au, cu, rfl, -⟩ := hiu.ints.shape
      obtain ⟨d0, d1, d2, d3, d4, d5⟩ := HBX.out _ (below_keep B2.out HBR.out)
      have ib0 : (0 : Int) ≤ (i : Int) := by omega
      have ib1 : (i : Int) < (A.length : Int) := by omega
      have HI1 : Hid (i + 1 ≤ A.length ∧ A.length - (i + 1) < A.length - i) := by show _ ∧ _; omega
      have HGR : Hid (gr < wr.heap.size) := Nat.lt_of_lt_of_le hg2 HBR.out.size
      have HCU := Lib.hid hcu
      clear hx hxm hiu hxl hxh hE hg1 hg2 hlt hi
      go_upto_region 9 with (fail)
      let KF : (Ending → World → Prop) → Exit → Act → World → Prop := bodyPost Tryz.prog Tryz.f29
      go_cut [13, 14] (fun a b wx => ∃ g v1 v2, a = .pointer (some ⟨g, 0, none⟩) ∧ b = .int .i64 E ∧ wx.cell? ⟨g, 0, none⟩ = some v1 ∧ wx.cell? ⟨g, 1, none⟩ = some v2 ∧ Ints wx v1 xl ∧ Ints wx v2 xh ∧ Below wr.heap.size wr wx)
      case first =>
        have hq1 : w.heap.size < wr.heap.size := World.block_lt_of_cell? _ _ d0
        have hq2 : w.heap.size ≠ wr.heap.size := Nat.ne_of_lt hq1
        have hq3 : gr < wr.heap.size := HGR.out
        have hq4 : gr ≠ wr.heap.size := Nat.ne_of_lt hq3
        go_wp2_with fail
        go_region_with ((go_at_call 35; first
          | (refine (CDx.out _ (Below.refl _ _).drew).mono ?_; rintro e z ⟨v1, v2, rfl, hv1, hv2, hb⟩; obtain ⟨b1, kb1, rfl, -⟩ := hv1.ints.shape; obtain ⟨b2, kb2, rfl, -⟩ := hv2.ints.shape; simp only at hv1 hv2 ⊢; have HF := Lib.hid (box_made9 wr z _ _ _ _ hv1 hv2 (below_keep (Below.refl _ _).drew hb)); clear hv1 hv2 hb)
          | (refine (CDx.out _ (below_keep (Below.refl _ _).drew (below_alloc _ _))).mono ?_; rintro e z ⟨v1, v2, rfl, hv1, hv2, hb⟩; obtain ⟨b1, kb1, rfl, -⟩ := hv1.ints.shape; obtain ⟨b2, kb2, rfl, -⟩ := hv2.ints.shape; simp only at hv1 hv2 ⊢; have hr9 : ResB z wr.heap.size (.slice none 0 0) (.slice none 0 0) := (ResB.made wr.drew 52).later (w' := z) hb (by simp); have ht9 : TagB z wr.heap.size 52 := (show TagB (wr.drew.alloc (.cells #[.slice none 0 0, .slice none 0 0] 52)) wr.heap.size 52 from ⟨_, _, World.alloc_heap_new wr.drew _⟩).kept (hb.block wr.heap.size (by simp)); have HF := Lib.hid (box_store9 wr z wr.heap.size _ _ _ _ _ _ hv1 hv2 ht9 hr9 (below_keep (below_keep (Below.refl _ _).drew (below_alloc _ _)) hb) (Nat.le_refl _)); obtain ⟨r0, r1, r2, r3⟩ := hr9; clear hv1 hv2 hb ht9)))
        all_goals
          go_wp2
          go_meet
          obtain ⟨e0, e1, e2, e3, e4⟩ := HF.out
          exact ⟨_, _, _, rfl, rfl, e0, e1, e2, e3, e4⟩
      case rest =>
        obtain ⟨g9, v1, v2, rfl, rfl, e0, e1, hv1, hv2, hbc⟩ := hcut
        have HZC := Lib.hid (below_keep HBR.out hbc)
        have CH : Hid (Calls Tryz.prog 43 #[.agg #[v1, v2], .slice p3 c.length k3] wc (RetV' (.bool (hasB xl xh c)) wc)) :=
          rhas_any v1 v2 (.slice p3 c.length k3) xl xh c wc hv1 hv2 (HCC.out.later IntR.lasts (HBW.out _ (below_keep B2.out HZC.out)))
        obtain ⟨b1, kb1, rfl, -⟩ := hv1.shape
        obtain ⟨b2, kb2, rfl, -⟩ := hv2.shape
        have HROC := Lib.hid (HRO.out.later hbc)
        have HCUC := Lib.hid (cell_later HCU.out hbc)
        have HIUC := Lib.hid (HIU.out.later hbc)
        clear hcu d0 d1 d2 d3 d4 d5 hv1 hv2 hbc CDx
        by_cases hE0 : E = 0
        · subst hE0
          go_wp2_with fail
          refine CH.out.mono ?_
          rintro e w5 ⟨rfl, hb⟩
          have HB5 := Lib.hid (below_keep HZC.out hb)
          cases hbb : hasB xl xh c with
          | true =>
            have hfl := HFL.out
            rw [if_pos (by rw [HFB.out, hbb]; rfl)] at hfl
            have HFF := Lib.hid hfl
            have HRO5 := Lib.hid (HROC.out.later hb)
            have HIU5 := Lib.hid (HIUC.out.later hb)
            have hcu5 := cell_later HCUC.out hb
            obtain ⟨FL, hFL⟩ : ∃ FL, FL = (A.take i).filter (homeB d l c) := ⟨_, rfl⟩
            rw [← hFL] at HFF HRO5
            obtain ⟨vs, hvs, hx⟩ := HRO5.out.ex
            have hvl : vs.length = FL.length := by have := hvs.1; rw [Nat.mul_one] at this; exact this
            have hn : FL.length ≤ 81 := by
              rw [hFL]
              exact Nat.le_trans (List.length_filter_le _ _) (Nat.le_trans (by rw [List.length_take]; omega) HAL.out)
            have hge : w2.heap.size ≤ w5.heap.size := HB5.out.size
            clear hb hbb hfl CH e0 e1 hFL
            go_wp2_with (at_builtin; refine wpList_append_lies _ (by rfl) _ _ 46 (by rfl) w2.heap.size 38 j0 (.slice none 0 0) 1 24 Tryz.underlying46 hj0 hy0 hy1 hy2 rfl (by decide) u11 FL.length vs (by rfl) (hvs.alloc _) ⟨w5.heap.size, 0, none⟩ 1 1 [.slice au x.length cu] (by rfl) (by rfl) (cell_one_new _ _ _) (by simp [Value.oneCell']) (by omega) (by unfold maxLen; omega) (by omega) (by simp; omega) (w5.heap.size + 1) (by simp) ?_)
            intro g1 cp1 w6 hown hgrow hat hlt6
            have hS := RowsO.snoc hx hvl (below_alloc w5 _) (hvs.alloc _) hown hgrow HIU5.out (by decide)
            rw [← HFF.out] at hS
            have HS := Lib.hid hS
            have HB6 := Lib.hid ((below_keep HB5.out (below_alloc w5 _)).grown hgrow (by simp; omega) (fun k e => (hvs.lt k e).1))
            clear hown hgrow hat hlt6 hS hvs hx hvl hcu5 hge
            go_wp2
            exact ⟨⟨i + 1, HI1.out.1, by go_num, HS.out, HB6.out⟩, HI1.out.2⟩
          | false =>
            have hfl := HFL.out
            rw [if_neg (by rw [HFB.out, hbb]; simp)] at hfl
            have HFF : Hid (RowsO w2.heap.size w5 u11 ((A.take (i + 1)).filter (homeB d l c))) := by show RowsO _ _ _ _; rw [hfl]; exact HROC.out.later hb
            clear hb hbb hfl CH e0 e1
            go_wp2
            exact ⟨⟨i + 1, HI1.out.1, by go_num, HFF.out, HB5.out⟩, HI1.out.2⟩
        · have t9 : (E == (0 : Int)) = false := by rw [beq_eq_false_iff_ne]; exact hE0
          have hfl := HFL.out
          rw [if_neg (by rw [HFB.out, decide_eq_false hE0]; simp)] at hfl
          have HFF : Hid (RowsO w2.heap.size wc u11 ((A.take (i + 1)).filter (homeB d l c))) := by show RowsO _ _ _ _; rw [hfl]; exact HROC.out
          clear hE0 hfl CH e0 e1
          go_wp2
          exact ⟨⟨i + 1, HI1.out.1, by go_num, HFF.out, HZC.out⟩, HI1.out.2⟩
    · obtain rfl : i = A.length := by omega
      have HR9 : Hid (RowsO w.heap.size wr u11 (A.filter (homeB d l c))) := by
        show RowsO _ _ _ _
        have := HRO.out
        rw [List.take_length] at this
        exact this.lower (HBW.out _ B2.out).size
      have HBE := Lib.hid (HBW.out _ (below_keep B2.out HBR.out))
      obtain ⟨a9, c9, e9, -⟩ := HR9.out.rows.shape
      clear hi hlt
      go_wp2
      go_ret2
      exact ⟨_, rfl, HR9.out, HBE.out⟩
theorem rhomes_any (d : List DimT) (l : LayT) (c : List Int) (vd vs vo vc : Value) (w : World) (hd : Dims w vd d) (hl : LayR w vs vo l) (hc : Ints w vc c) (hs : StrD d) :
    Calls Tryz.prog 29 #[vd, layV vs vo l, vc] w (RetPts (homesQ d l c) (chunkE d l c) w) := by
  by_cases h : chunkE d l c = 0
  · rw [h]
    exact rhomes_core d l c vd vs vo vc w hd hl hc hs h
  · rw [show homesQ d l c = [] from if_neg h]
    exact rhomes_bad d l c vd vs vo vc w hd hl hc hs h
end Go.Proofs.YtpdhlgkcjakcgaaGreatDoor
