/- Contract: Sum, where the second number is not valid. -/
import Derived.Test.YtemhidlaaommaaaGreatDoorNilC
import Derived.Test.YtemhidlaaommaaaGreatDoorSumB
namespace Go.Proofs.YtemhidlaaommaaaGreatDoor
open Go.RowKit Go.Shelf
attribute [local go_sem] Oper.semAt_some

set_option maxRecDepth 100000 in
set_option maxHeartbeats 4000000 in
theorem sum_bad (a : Option Addr) (cap k : Nat) (ps : Nat → Value) (q : Rat) (w : World) (hk : k ≤ 10000) (hI : PtS w (.slice a 2 cap) 2 ps) (hp : ∀ j, ∃ a, ps j = .pointer a)
    (hq : IsR w (ps 0) q) (hx : ∀ j, j ≠ 0 → IsB w (ps j)) (hb : Bd k q) :
    Calls Tryz.prog 53 #[.slice a 2 cap] w (RetV (.pointer none) w) := by
  refine (callsIn_wide (n := 5)).1 ?_
  refine callsIn_of_wp_marks Tryz.func53 rfl trivial ?_ rfl
  simp only [Tryz.ntmps53, List.size_toArray, List.length_cons, List.length_nil, Nat.reduceAdd, Nat.reduceSub, Array.replicate_succ, Array.replicate_zero, List.push_toArray, List.append_toArray, List.nil_append, List.cons_append]
  have HQ := Lib.hid hq
  have HBD := Lib.hid hb
  have HXB := Lib.hid hx
  have HI := Lib.hid hI
  have HP := Lib.hid hp
  clear hq hb hI hp hx
  gi_wp2_with (refine ⟨trivial, ?_⟩; gi_at_call 109; refine (each_in Fence.wide 4 trivial rfl _ _ _ _).mono ?_; rintro e w' ⟨rfl, rfl⟩)
  obtain ⟨W0, hW0⟩ : ∃ W0, W0 = (((((w.alloc (.cells #[.pointer none] 22)).alloc (.cells #[.int .u32 1] 135)).alloc (.cells #[.bool false, .slice none 0 0, .slice (some ⟨w.heap.size + 1, 0, none⟩) 1 1] 80)).alloc (.cells #[.pointer (some ⟨w.heap.size + 1 + 1, 0, none⟩)] 22)).alloc (.cells #[.slice a 2 cap] 72)) := ⟨_, rfl⟩
  have hB0 : Below w.heap.size w W0 := by
    rw [hW0]; exact (((((Below.refl _ w).alloc (Nat.le_refl _) _).alloc (by simp) _).alloc (by simp; omega) _).alloc (by simp; omega) _).alloc (by simp; omega) _
  have hsz : W0.heap.size = w.heap.size + 5 := by rw [hW0]; simp
  have b0 : Boxed W0 w.heap.size 22 (.pointer none) := by
    rw [hW0]; exact ((((Boxed.new w 22 (.pointer none)).alloc _).alloc _).alloc _).alloc _
  have b3 : Boxed W0 (w.heap.size + 1 + 1 + 1) 22 (.pointer (some ⟨w.heap.size + 2, 0, none⟩)) := by
    have h := Boxed.new (((w.alloc (.cells #[.pointer none] 22)).alloc (.cells #[.int .u32 1] 135)).alloc (.cells #[.bool false, .slice none 0 0, .slice (some ⟨w.heap.size + 1, 0, none⟩) 1 1] 80)) 22 (.pointer (some ⟨w.heap.size + 1 + 1, 0, none⟩))
    simp only [World.size_alloc] at h
    rw [hW0]; exact h.alloc _
  have c4 : W0.cell? ⟨w.heap.size + 4, 0, none⟩ = some (.slice a 2 cap) := by
    rw [hW0, World.cell?_alloc_at _ _ _ _ (by simp)]; rfl
  have r0 : IsR W0 (.pointer (some ⟨w.heap.size + 2, 0, none⟩)) 0 := by
    have h := made_one (w.alloc (.cells #[.pointer none] 22)) 135 80
    simp only [World.size_alloc] at h
    rw [hW0]
    exact (h.later (below_alloc _ _)).later (below_alloc _ _)
  rw [← hW0]
  clear hW0
  refine wpIn_rangeFunc_ownG rfl (by decide) (gf := 147) (lb := #[.pointer (some ⟨w.heap.size + 4, 0, none⟩)]) rfl trivial (enters_of Tryz.func147 (by kernel_rfl) rfl)
    (each_stops Fence.wide 4 trivial rfl (by decide) (w.heap.size + 4) w.heap.size _ 2 ps (by omega) W0 (by omega) (by omega) c4 w rfl hB0 HI.out HP.out) belowK_t (belowK_b (by omega)) (Below.refl _ _) (fun _ => rfl)
    (fun pre W => (∃ v, (W.cell? ⟨w.heap.size + 1 + 1 + 1, 0, none⟩ = some v ∧ W.frozen? ⟨w.heap.size + 1 + 1 + 1, 0, none⟩ = false ∧ W.cell? ⟨w.heap.size, 0, none⟩ = some (.pointer none) ∧ W.frozen? ⟨w.heap.size, 0, none⟩ = false) ∧ IsR W v (sumOf (fun _ => q) pre)) ∧ ((∀ i ∈ pre, i = 0) ∧ Below w.heap.size w W))
    (fun c _ W => (c = .ret ∧ W.cell? ⟨w.heap.size, 0, none⟩ = some (.pointer none)) ∧ Below w.heap.size w W)
    (OwnFrom.and (Own.from (fun s A B row hs hg hr => by
      obtain ⟨v, ⟨h1, h2, h3, h4⟩, h5⟩ := hs
      exact ⟨v, ⟨cell_kept h1 hg hr, (frozen_kept h1 hg hr).trans h2, cell_kept h3 hg hr, (frozen_kept h3 hg hr).trans h4⟩, h5.own hg hr⟩) _) (OwnFrom.and (ownFrom_pure _ _) (ownFrom_below (Nat.le_refl _) (by omega))))
    (fun c => OwnFrom.and (Own.from (fun s A B row hs hg hr => ⟨hs.1, cell_kept hs.2 hg hr⟩) _) (ownFrom_below (Nat.le_refl _) (by omega)))
    ⟨⟨_, ⟨b3.cell, b3.frozen, b0.cell, b0.frozen⟩, r0⟩, (fun i hi => absurd hi List.not_mem_nil), hB0⟩
    (fun x => { tmps := #[.slice a 2 cap, undef, .pointer (some ⟨w.heap.size, 0, none⟩), .pointer (some ⟨w.heap.size + 1 + 1 + 1, 0, none⟩), ps x, .slice (some ⟨w.heap.size + 1, 0, none⟩) 1 1, .agg #[.bool false, .slice none 0 0, .slice (some ⟨w.heap.size + 1, 0, none⟩) 1 1], .pointer (some ⟨w.heap.size + 1 + 1, 0, none⟩), .slice a 2 cap, .func (.func 147) #[] #[.pointer (some ⟨w.heap.size + 1 + 1 + 1 + 1, 0, none⟩)], ps x, undef, undef, undef, undef, undef, undef], defers := [] }) ?assign ?body ?done ?stop
  case assign =>
    intro l x W K hK
    gi_wp2
    exact hK
  case body =>
    rintro l pre x W ⟨⟨v, ⟨h1, h2, h3, h4⟩, h5⟩, hpr, hB⟩ hpre
    obtain ⟨g, vn, vd, hv, -⟩ := id h5
    subst hv
    obtain ⟨a1, ha1⟩ := HP.out x
    have HPR := Lib.hid hpr
    clear hpr
    by_cases h0 : x = 0
    · subst h0
      have hx := HQ.out.later hB
      rw [ha1] at hx ⊢
      have bs := sumOf_bd (qs := fun _ => q) (fun _ => HBD.out) pre
      have bx := HBD.out
      have hmul : (k + 1) * pre.length ≤ 10001 * 1000 := Nat.mul_le_mul (by omega) (by omega)
      have HA := Lib.hid (addR_any h5 hx (bs.smR (by omega)) (bx.smR (by omega)) (bs.smM bx (by omega)))
      have HB := Lib.hid hB
      clear h5 hx bs bx hmul hB
      gi_wp2_with (refine ⟨trivial, ?_⟩; gi_at_call 26; refine (CallsIn.inRound l (callsIn_wide.2 HA.out)).mono ?_; rintro e W1 ⟨v1, rfl, hv1, hb1⟩; have HV1 := Lib.hid hv1; obtain ⟨g1, vn1, vd1, hv1s, -⟩ := hv1; subst hv1s; have HB1 := Lib.hid hb1; have k1 := (hb1.cell (p := ⟨w.heap.size + 1 + 1 + 1, 0, none⟩) (World.block_lt_of_cell? W ⟨w.heap.size + 1 + 1 + 1, 0, none⟩ h1)).trans h1; have k2 := (hb1.frozen (p := ⟨w.heap.size + 1 + 1 + 1, 0, none⟩) (World.block_lt_of_cell? W ⟨w.heap.size + 1 + 1 + 1, 0, none⟩ h1)).trans h2; have k3 := (hb1.cell (p := ⟨w.heap.size, 0, none⟩) (World.block_lt_of_cell? W ⟨w.heap.size, 0, none⟩ h3)).trans h3; have k4 := (hb1.frozen (p := ⟨w.heap.size, 0, none⟩) (World.block_lt_of_cell? W ⟨w.heap.size, 0, none⟩ h3)).trans h4; clear hb1)
      have hne : w.heap.size + 1 + 1 + 1 ≠ w.heap.size := by omega
      have hlt : w.heap.size + 1 + 1 + 1 < W.heap.size := World.block_lt_of_cell? W ⟨w.heap.size + 1 + 1 + 1, 0, none⟩ h1
      refine ⟨(keeps_of_below HB1.out).from _ |>.trans ((KeepsOthers.setCell _ _ _).from _), (HB1.out.mono (Nat.le_of_lt (by omega))).setCell (p := ⟨w.heap.size + 1 + 1 + 1, 0, none⟩) (by show w.heap.size ≤ w.heap.size + 1 + 1 + 1; omega) _, ⟨_, ⟨World.cell?_setCell_same W1 _ _ k1, by rw [World.frozen?_setCell]; exact k2, ?_, by rw [World.frozen?_setCell]; exact k4⟩, ?_⟩, (fun i hi => by rcases List.mem_append.1 hi with h | h; exact HPR.out i h; exact List.mem_singleton.1 h), (HB.out.trans (HB1.out.mono HB.out.size)).setCell (p := ⟨w.heap.size + 1 + 1 + 1, 0, none⟩) (by show w.heap.size ≤ w.heap.size + 1 + 1 + 1; omega) _⟩
      · rw [World.cell?_setCell_other _ _ _ _ (fun e => hne (by injection e))]; exact k3
      · rw [sumOf_snoc]
        exact HV1.out.setPtr k1 _
    · have hx := (HXB.out x h0).later hB
      rw [ha1] at hx ⊢
      have HA := Lib.hid (add_bad_r h5 hx)
      have HB := Lib.hid hB
      clear h5 hx hB
      gi_wp2_with (refine ⟨trivial, ?_⟩; gi_at_call 26; refine (CallsIn.inRound l (callsIn_wide.2 HA.out)).mono ?_; rintro e W1 ⟨rfl, hb1⟩; have HB1 := Lib.hid hb1; have k1 := (hb1.cell (p := ⟨w.heap.size + 1 + 1 + 1, 0, none⟩) (World.block_lt_of_cell? W ⟨w.heap.size + 1 + 1 + 1, 0, none⟩ h1)).trans h1; have k2 := (hb1.frozen (p := ⟨w.heap.size + 1 + 1 + 1, 0, none⟩) (World.block_lt_of_cell? W ⟨w.heap.size + 1 + 1 + 1, 0, none⟩ h1)).trans h2; have k3 := (hb1.cell (p := ⟨w.heap.size, 0, none⟩) (World.block_lt_of_cell? W ⟨w.heap.size, 0, none⟩ h3)).trans h3; have k4 := (hb1.frozen (p := ⟨w.heap.size, 0, none⟩) (World.block_lt_of_cell? W ⟨w.heap.size, 0, none⟩ h3)).trans h4; clear hb1)
      have hne : w.heap.size + 1 + 1 + 1 ≠ w.heap.size := by omega
      have hlt : w.heap.size + 1 + 1 + 1 < W.heap.size := World.block_lt_of_cell? W ⟨w.heap.size + 1 + 1 + 1, 0, none⟩ h1
      refine ⟨(keeps_of_below HB1.out).from _ |>.trans (((KeepsOthers.setCell _ _ _).from _).trans ((KeepsOthers.setCell _ _ _).from _)), ⟨rfl, ?_⟩, ((HB.out.trans (HB1.out.mono HB.out.size)).setCell (p := ⟨w.heap.size + 1 + 1 + 1, 0, none⟩) (by show w.heap.size ≤ w.heap.size + 1 + 1 + 1; omega) _).setCell (p := ⟨w.heap.size, 0, none⟩) (Nat.le_refl _) _⟩
      refine World.cell?_setCell_same _ _ (.pointer none) (u := .pointer none) ?_
      rw [World.cell?_setCell_other _ _ _ _ (fun e => hne (by injection e))]; exact k3
  case done =>
    rintro D ys W hD rfl ⟨-, hpr, -⟩ hK
    exact absurd (hpr 1 (by decide)) (by decide)
  case stop =>
    rintro D c pre W hD _ ⟨⟨rfl, h3⟩, hB⟩ hK
    have HB := Lib.hid hB
    clear hB
    gi_wp2
    refine ⟨by simp, .inl ⟨_, _, rfl, run_takeDeferred hK, ?_⟩⟩
    have hc5 := cell_kept h3 (grownBy_putObj' _ D (.deferred none)) (fun r e => by cases e; exact ⟨_, hK, rfl⟩)
    refine ⟨.pointer none, ?_, rfl, ?_⟩
    · simp [results, Tryz.results53, go_sem, hc5]
    · exact HB.out.trans (belowK_b (w := w) (Nat.le_refl _) _ D _ _ (by omega) hK rfl rfl)
end Go.Proofs.YtemhidlaaommaaaGreatDoor
