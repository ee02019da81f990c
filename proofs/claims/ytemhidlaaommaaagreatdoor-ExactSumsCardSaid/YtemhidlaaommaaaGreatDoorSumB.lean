/- Contract: Sum. -/
import Derived.Test.YtemhidlaaommaaaGreatDoorR2
import Derived.Test.YtemhidlaaommaaaGreatDoorSumA
namespace Go.Proofs.YtemhidlaaommaaaGreatDoor
open Go.RowKit Go.Shelf
attribute [local go_sem] Oper.semAt_some

theorem keeps_of_below {W W' : World} (h : Below W.heap.size W W') : KeepsOthers W W' :=
  ⟨h.size, fun k _ hk _ => (h.block k (Array.getElem?_eq_some_iff.1 hk).1).trans hk⟩
theorem IsN.own {B X : Nat} {W W' : World} {v : Value} {row : Option Nat} (h : IsN B W v X) (hg : W.grownBy W' row) (hr : ∀ r, row = some r → ∃ o : Obj, W.heap[r]? = some o ∧ o.isCells = false) : IsN B W' v X := by
  obtain ⟨n, D, r, s⟩ := h
  refine ⟨n, D, r, ?_⟩
  rcases s with h | ⟨g, cap, e, h1, h2, h3⟩
  · exact .inl h
  · exact .inr ⟨g, cap, e, h1, h2, fun i hi => cell_kept (h3 i hi) hg hr⟩
theorem IsR.own {W W' : World} {v : Value} {q : Rat} {row : Option Nat} (h : IsR W v q) (hg : W.grownBy W' row) (hr : ∀ r, row = some r → ∃ o : Obj, W.heap[r]? = some o ∧ o.isCells = false) : IsR W' v q := by
  obtain ⟨g, vn, vd, e, ⟨h0, h1, h2, h3, h4⟩⟩ := h
  exact ⟨g, vn, vd, e, cell_kept h0 hg hr, cell_kept h1 hg hr, cell_kept h2 hg hr, h3.own hg hr, h4.own hg hr⟩

theorem IsN.setPtr {B X : Nat} {w : World} {v : Value} {p : Option Addr} {a : Addr} (h : IsN B w v X) (hc : w.cell? a = some (.pointer p)) (z : Value) : IsN B (w.setCell a z) v X := by
  obtain ⟨n, D, r, s⟩ := h
  refine ⟨n, D, r, ?_⟩
  rcases s with h | ⟨g, cap, e, h1, h2, h3⟩
  · exact .inl h
  · refine .inr ⟨g, cap, e, h1, h2, fun i hi => ?_⟩
    rw [World.cell?_setCell_other _ _ _ _ (fun e => by
      have := h3 i hi
      rw [← e, hc] at this; cases this)]
    exact h3 i hi
theorem IsR.setPtr {w : World} {v : Value} {q : Rat} {p : Option Addr} {a : Addr} (h : IsR w v q) (hc : w.cell? a = some (.pointer p)) (z : Value) : IsR (w.setCell a z) v q := by
  obtain ⟨g, vn, vd, e, ⟨h0, h1, h2, h3, h4⟩⟩ := h
  have key : ∀ (i : Nat) (u : Value), w.cell? ⟨g, i, none⟩ = some u → (∀ p, u ≠ .pointer p) → (w.setCell a z).cell? ⟨g, i, none⟩ = some u := fun i u hu hn => by
    rw [World.cell?_setCell_other _ _ _ _ (fun e => by
      rw [← e, hc] at hu; exact hn _ (Option.some.inj hu).symm)]
    exact hu
  obtain ⟨a1, n1, c1, rfl, -⟩ := h3.shape (by decide)
  obtain ⟨a2, n2, c2, rfl, -⟩ := h4.shape (by decide)
  exact ⟨g, _, _, e, key 0 _ h0 (fun p e => by cases e), key 1 _ h1 (fun p e => by cases e), key 2 _ h2 (fun p e => by cases e), h3.setPtr hc z, h4.setPtr hc z⟩

/-- the sum of the numbers with some indices -/
def sumOf (qs : Nat → Rat) (l : List Nat) : Rat := l.foldl (fun s i => s + qs i) 0
theorem sumOf_snoc (qs : Nat → Rat) (l : List Nat) (i : Nat) : sumOf qs (l ++ [i]) = sumOf qs l + qs i := by simp [sumOf]
theorem sumOf_bd {qs : Nat → Rat} {k : Nat} (h : ∀ i, Bd k (qs i)) (l : List Nat) : Bd (1 + (k + 1) * l.length) (sumOf qs l) := by
  suffices H : ∀ (l : List Nat) (s : Rat) (b : Nat), Bd b s → Bd (b + (k + 1) * l.length) (l.foldl (fun s i => s + qs i) s) from H l 0 1 Bd.zero
  intro l
  induction l with
  | nil => intro s b hb; exact hb
  | cons i l ih =>
    intro s b hb
    have := ih (s + qs i) (b + k + 1) (hb.add (h i))
    refine this.mono ?_
    rw [List.length_cons, Nat.mul_add]; omega

theorem made_one (w : World) (t1 t2 : TypeId) : IsR ((w.alloc (.cells #[.int .u32 1] t1)).alloc (.cells #[.bool false, .slice none 0 0, .slice (some ⟨w.heap.size, 0, none⟩) 1 1] t2)) (.pointer (some ⟨w.heap.size + 1, 0, none⟩)) 0 := by
  refine ⟨w.heap.size + 1, .slice none 0 0, .slice (some ⟨w.heap.size, 0, none⟩) 1 1, rfl, ?_, ?_, ?_, ?_, ?_⟩
  · rw [World.cell?_alloc_at _ _ _ _ (by simp)]; rfl
  · rw [World.cell?_alloc_at _ _ _ _ (by simp)]; rfl
  · rw [World.cell?_alloc_at _ _ _ _ (by simp)]; rfl
  · exact ⟨0, fun _ => 0, Rep.zero _ _, .inl ⟨rfl, rfl⟩⟩
  · refine ⟨1, fun _ => 1, ⟨fun i _ => by decide, fun _ => by decide, rfl⟩, .inr ⟨w.heap.size, 1, rfl, Nat.le_refl _, by decide, fun i hi => ?_⟩⟩
    obtain rfl : i = 0 := by omega
    rw [World.cell?_alloc_lt _ _ _ (by simp), World.cell?_alloc_at _ _ _ _ rfl]; rfl

set_option maxRecDepth 100000 in
set_option maxHeartbeats 4000000 in
theorem sum_core (a : Option Addr) (len cap k : Nat) (ps : Nat → Value) (qs : Nat → Rat) (w : World) (hlen : len ≤ 1000) (hk : k ≤ 10000) (hI : PtS w (.slice a len cap) len ps) (hp : ∀ j, ∃ a, ps j = .pointer a)
    (hq : 0 < len → ∀ j, IsR w (ps j) (qs j)) (hb : ∀ j, Bd k (qs j)) :
    Calls Tryz.prog 53 #[.slice a len cap] w (RetR (sumOf qs (upto len)) w) := by
  refine (callsIn_wide (n := 5)).1 ?_
  refine callsIn_of_wp_marks Tryz.func53 rfl trivial ?_ rfl
  simp only [Tryz.ntmps53, List.size_toArray, List.length_cons, List.length_nil, Nat.reduceAdd, Nat.reduceSub, Array.replicate_succ, Array.replicate_zero, List.push_toArray, List.append_toArray, List.nil_append, List.cons_append]
  have HQ := Lib.hid hq
  have HBD := Lib.hid hb
  have HI := Lib.hid hI
  have HP := Lib.hid hp
  clear hq hb hI hp
  gi_wp2_with (refine ⟨trivial, ?_⟩; gi_at_call 109; refine (each_in Fence.wide 4 trivial rfl _ _ _ _).mono ?_; rintro e w' ⟨rfl, rfl⟩)
  obtain ⟨W0, hW0⟩ : ∃ W0, W0 = (((((w.alloc (.cells #[.pointer none] 22)).alloc (.cells #[.int .u32 1] 135)).alloc (.cells #[.bool false, .slice none 0 0, .slice (some ⟨w.heap.size + 1, 0, none⟩) 1 1] 80)).alloc (.cells #[.pointer (some ⟨w.heap.size + 1 + 1, 0, none⟩)] 22)).alloc (.cells #[.slice a len cap] 72)) := ⟨_, rfl⟩
  have hB0 : Below w.heap.size w W0 := by
    rw [hW0]; exact (((((Below.refl _ w).alloc (Nat.le_refl _) _).alloc (by simp) _).alloc (by simp; omega) _).alloc (by simp; omega) _).alloc (by simp; omega) _
  have hsz : W0.heap.size = w.heap.size + 5 := by rw [hW0]; simp
  have b0 : Boxed W0 w.heap.size 22 (.pointer none) := by
    rw [hW0]; exact ((((Boxed.new w 22 (.pointer none)).alloc _).alloc _).alloc _).alloc _
  have b3 : Boxed W0 (w.heap.size + 1 + 1 + 1) 22 (.pointer (some ⟨w.heap.size + 2, 0, none⟩)) := by
    have h := Boxed.new (((w.alloc (.cells #[.pointer none] 22)).alloc (.cells #[.int .u32 1] 135)).alloc (.cells #[.bool false, .slice none 0 0, .slice (some ⟨w.heap.size + 1, 0, none⟩) 1 1] 80)) 22 (.pointer (some ⟨w.heap.size + 1 + 1, 0, none⟩))
    simp only [World.size_alloc] at h
    rw [hW0]; exact h.alloc _
  have c4 : W0.cell? ⟨w.heap.size + 4, 0, none⟩ = some (.slice a len cap) := by
    rw [hW0, World.cell?_alloc_at _ _ _ _ (by simp)]; rfl
  have r0 : IsR W0 (.pointer (some ⟨w.heap.size + 2, 0, none⟩)) 0 := by
    have h := made_one (w.alloc (.cells #[.pointer none] 22)) 135 80
    simp only [World.size_alloc] at h
    rw [hW0]
    exact (h.later (below_alloc _ _)).later (below_alloc _ _)
  rw [← hW0]
  clear hW0
  refine wpIn_rangeFunc_ownG rfl (by decide) (gf := 147) (lb := #[.pointer (some ⟨w.heap.size + 4, 0, none⟩)]) rfl trivial (enters_of Tryz.func147 (by kernel_rfl) rfl)
    (each_stops Fence.wide 4 trivial rfl (by decide) (w.heap.size + 4) w.heap.size _ len ps (by omega) W0 (by omega) (by omega) c4 w rfl hB0 HI.out HP.out) belowK_t (belowK_b (by omega)) (Below.refl _ _) (fun _ => rfl)
    (fun pre W => (∃ v, (W.cell? ⟨w.heap.size + 1 + 1 + 1, 0, none⟩ = some v ∧ W.frozen? ⟨w.heap.size + 1 + 1 + 1, 0, none⟩ = false ∧ W.cell? ⟨w.heap.size, 0, none⟩ = some (.pointer none) ∧ W.frozen? ⟨w.heap.size, 0, none⟩ = false) ∧ IsR W v (sumOf qs pre)) ∧ Below w.heap.size w W)
    (fun _ _ _ => False)
    (OwnFrom.and (Own.from (fun s A B row hs hg hr => by
      obtain ⟨v, ⟨h1, h2, h3, h4⟩, h5⟩ := hs
      exact ⟨v, ⟨cell_kept h1 hg hr, (frozen_kept h1 hg hr).trans h2, cell_kept h3 hg hr, (frozen_kept h3 hg hr).trans h4⟩, h5.own hg hr⟩) _) (ownFrom_below (Nat.le_refl _) (by omega)))
    (fun _ _ _ _ _ hs _ _ => hs)
    ⟨⟨_, ⟨b3.cell, b3.frozen, b0.cell, b0.frozen⟩, r0⟩, hB0⟩
    (fun x => { tmps := #[.slice a len cap, undef, .pointer (some ⟨w.heap.size, 0, none⟩), .pointer (some ⟨w.heap.size + 1 + 1 + 1, 0, none⟩), ps x, .slice (some ⟨w.heap.size + 1, 0, none⟩) 1 1, .agg #[.bool false, .slice none 0 0, .slice (some ⟨w.heap.size + 1, 0, none⟩) 1 1], .pointer (some ⟨w.heap.size + 1 + 1, 0, none⟩), .slice a len cap, .func (.func 147) #[] #[.pointer (some ⟨w.heap.size + 1 + 1 + 1 + 1, 0, none⟩)], ps x, undef, undef, undef, undef, undef, undef], defers := [] }) ?assign ?body ?done ?stop
  case assign =>
    intro l x W K hK
    gi_wp2
    exact hK
  case body =>
    rintro l pre x W ⟨⟨v, ⟨h1, h2, h3, h4⟩, h5⟩, hB⟩ hpre
    obtain ⟨g, vn, vd, hv, -⟩ := id h5
    subst hv
    obtain ⟨a1, ha1⟩ := HP.out x
    have hx := (HQ.out (by omega) x).later hB
    rw [ha1] at hx ⊢
    have bs := sumOf_bd HBD.out pre
    have bx := HBD.out x
    have hmul : (k + 1) * pre.length ≤ 10001 * 1000 := Nat.mul_le_mul (by omega) (by omega)
    have HA := Lib.hid (addR_any h5 hx (bs.smR (by omega)) (bx.smR (by omega)) (bs.smM bx (by omega)))
    have HB := Lib.hid hB
    clear h5 hx bs bx hmul hB
    gi_wp2_with (refine ⟨trivial, ?_⟩; gi_at_call 26; refine (CallsIn.inRound l (callsIn_wide.2 HA.out)).mono ?_; rintro e W1 ⟨v1, rfl, hv1, hb1⟩; have HV1 := Lib.hid hv1; obtain ⟨g1, vn1, vd1, hv1s, -⟩ := hv1; subst hv1s; have HB1 := Lib.hid hb1; have k1 := (hb1.cell (p := ⟨w.heap.size + 1 + 1 + 1, 0, none⟩) (World.block_lt_of_cell? W ⟨w.heap.size + 1 + 1 + 1, 0, none⟩ h1)).trans h1; have k2 := (hb1.frozen (p := ⟨w.heap.size + 1 + 1 + 1, 0, none⟩) (World.block_lt_of_cell? W ⟨w.heap.size + 1 + 1 + 1, 0, none⟩ h1)).trans h2; have k3 := (hb1.cell (p := ⟨w.heap.size, 0, none⟩) (World.block_lt_of_cell? W ⟨w.heap.size, 0, none⟩ h3)).trans h3; have k4 := (hb1.frozen (p := ⟨w.heap.size, 0, none⟩) (World.block_lt_of_cell? W ⟨w.heap.size, 0, none⟩ h3)).trans h4; clear hb1)
    have hne : w.heap.size + 1 + 1 + 1 ≠ w.heap.size := by omega
    have hlt : w.heap.size + 1 + 1 + 1 < W.heap.size := World.block_lt_of_cell? W ⟨w.heap.size + 1 + 1 + 1, 0, none⟩ h1
    refine ⟨(keeps_of_below HB1.out).from _ |>.trans ((KeepsOthers.setCell _ _ _).from _), (HB1.out.mono (Nat.le_of_lt (by omega))).setCell (p := ⟨w.heap.size + 1 + 1 + 1, 0, none⟩) (by show w.heap.size ≤ w.heap.size + 1 + 1 + 1; omega) _, ⟨_, ⟨World.cell?_setCell_same W1 _ _ k1, by rw [World.frozen?_setCell]; exact k2, ?_, by rw [World.frozen?_setCell]; exact k4⟩, ?_⟩, (HB.out.trans (HB1.out.mono HB.out.size)).setCell (p := ⟨w.heap.size + 1 + 1 + 1, 0, none⟩) (by show w.heap.size ≤ w.heap.size + 1 + 1 + 1; omega) _⟩
    · rw [World.cell?_setCell_other _ _ _ _ (fun e => hne (by injection e))]; exact k3
    · rw [sumOf_snoc]
      exact HV1.out.setPtr k1 _
  case done =>
    rintro D ys W hD rfl ⟨⟨v, ⟨h1, h2, h3, h4⟩, h5⟩, hB⟩ hK
    have HV := Lib.hid h5
    have HB := Lib.hid hB
    obtain ⟨g, vn, vd, hv, -⟩ := h5
    subst hv
    have hne : w.heap.size ≠ w.heap.size + 1 + 1 + 1 := by omega
    clear hB
    gi_wp2
    have hK' := (KeepsOthers.setCell W ⟨w.heap.size, 0, none⟩ (.pointer (some ⟨g, 0, none⟩))).same D _ hK rfl
    refine ⟨by simp, .inl ⟨_, _, rfl, run_takeDeferred hK', ?_⟩⟩
    have hc5 := cell_kept (World.cell?_setCell_same W ⟨w.heap.size, 0, none⟩ (.pointer (some ⟨g, 0, none⟩)) h3) (grownBy_putObj' _ D (.deferred none)) (fun r e => by cases e; exact ⟨_, hK', rfl⟩)
    refine ⟨.pointer (some ⟨g, 0, none⟩), ?_, _, rfl, ?_, ?_⟩
    · simp [results, Tryz.results53, go_sem, hc5]
    · exact (HV.out.setPtr h3 _).own (grownBy_putObj' _ D (.deferred none)) (fun r e => by cases e; exact ⟨_, hK', rfl⟩)
    · exact (HB.out.setCell (p := ⟨w.heap.size, 0, none⟩) (Nat.le_refl _) _).trans (belowK_b (w := w) (Nat.le_refl _) _ D _ _ (by omega) hK' rfl rfl)
  case stop =>
    rintro D c pre W _ _ h _
    exact h.elim

theorem sumOf_congr {qs qs' : Nat → Rat} (l : List Nat) (h : ∀ i ∈ l, qs i = qs' i) : sumOf qs l = sumOf qs' l := by
  unfold sumOf
  suffices H : ∀ (l : List Nat) (s : Rat), (∀ i ∈ l, qs i = qs' i) → l.foldl (fun s i => s + qs i) s = l.foldl (fun s i => s + qs' i) s from H l 0 h
  intro l
  induction l with
  | nil => intro s _; rfl
  | cons i l ih => intro s h; rw [List.foldl_cons, List.foldl_cons, h i (by simp)]; exact ih _ fun j hj => h j (by simp [hj])
/-- Sum, of any list of numbers -/
theorem sum_any (v : Value) (len k : Nat) (ps : Nat → Value) (qs : Nat → Rat) (w : World) (hlen : len ≤ 1000) (hk : k ≤ 10000) (hI : PtS w v len ps)
    (hq : ∀ j, j < len → IsR w (ps j) (qs j)) (hb : ∀ j, j < len → Bd k (qs j)) :
    Calls Tryz.prog 53 #[v] w (RetR (sumOf qs (upto len)) w) := by
  have hv : ∃ a cap, v = .slice a len cap := by
    rcases hI with ⟨a, cap, rfl, rfl⟩ | ⟨b, off, cap, rfl, -⟩
    · exact ⟨_, _, rfl⟩
    · exact ⟨_, _, rfl⟩
  obtain ⟨a, cap, rfl⟩ := hv
  rcases Nat.eq_zero_or_pos len with rfl | hp
  · have h := sum_core a 0 cap 1 (fun _ => .pointer none) (fun _ => 0) w hlen (by decide) (by
      rcases hI with h | ⟨b, off, cap, e, h1, h2, h3, h4⟩
      · exact .inl h
      · exact .inr ⟨b, off, cap, e, h1, h2, h3, fun j hj => by omega⟩) (fun _ => ⟨_, rfl⟩) (fun h => by omega) (fun _ => Bd.zero)
    exact h
  · have h := sum_core a len cap k (fun j => if j < len then ps j else ps 0) (fun j => if j < len then qs j else qs 0) w hlen hk (by
      rcases hI with ⟨_, _, _, h⟩ | ⟨b, off, cap, e, h1, h2, h3, h4⟩
      · omega
      · exact .inr ⟨b, off, cap, e, h1, h2, h3, fun j hj => by show _ = some (if j < len then ps j else ps 0); rw [if_pos hj]; exact h4 j hj⟩)
      (fun j => by
        show ∃ a, (if j < len then ps j else ps 0) = .pointer a
        by_cases h : j < len
        · rw [if_pos h]; obtain ⟨g, _, _, e, -⟩ := hq j h; exact ⟨_, e⟩
        · rw [if_neg h]; obtain ⟨g, _, _, e, -⟩ := hq 0 hp; exact ⟨_, e⟩)
      (fun _ j => by
        show IsR w (if j < len then ps j else ps 0) (if j < len then qs j else qs 0)
        by_cases h : j < len
        · rw [if_pos h, if_pos h]; exact hq j h
        · rw [if_neg h, if_neg h]; exact hq 0 hp)
      (fun j => by
        show Bd k (if j < len then qs j else qs 0)
        by_cases h : j < len
        · rw [if_pos h]; exact hb j h
        · rw [if_neg h]; exact hb 0 hp)
    rwa [sumOf_congr (qs' := qs) (upto len) (fun i hi => by rw [if_pos (List.mem_range.1 hi)])] at h
end Go.Proofs.YtemhidlaaommaaaGreatDoor
