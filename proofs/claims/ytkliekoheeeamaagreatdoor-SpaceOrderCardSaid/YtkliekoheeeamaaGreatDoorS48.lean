/- Lemmas and contracts, each under its own condition: slices.SortStableFunc at lists of integers, of any length: the contract. space.sortBy and space.Seq at any number of coordinates: contracts. -/
import Derived.Test.YtkliekoheeeamaaGreatDoorS10
import Derived.Test.YtkliekoheeeamaaGreatDoorS7
import Derived.Test.YtkliekoheeeamaaGreatDoorSymC
/- slices.SortStableFunc at lists of integers, of any length: the contract. -/
namespace Go.Proofs.YtkliekoheeeamaaGreatDoor
open Go.RowKit

theorem CmpAt.sub {fc : Nat} {lb : Array Value} {K : ElT → List Int} {xs zs : List ElT} {g : Nat} {W0 w : World} (h : CmpAt fc lb K xs g W0) (hs : ∀ x ∈ zs, x ∈ xs) (hg : W0.grownBy w (some g)) : CmpAt fc lb K zs g w :=
 fun W x y h1 hx hy => h W x y (hg.trans h1) (hs x hx) (hs y hy)
set_option maxHeartbeats 2000000 in
theorem insertion_nil (fc : Nat) (lb : Array Value) (g n cap a : Nat) (w : World) (hnl : a ≤ 1000000) :
  Calls Tryz.prog 120 #[.slice (some ⟨g, 0, none⟩) n cap, .int .i64 a, .int .i64 a, .func (.func fc) #[] lb] w fun e w' => e = .returned (.tuple #[]) ∧ w = w' := by
 have h1 : ¬ (a : Int) + 1 < (a : Int) := by omega
 go_enter Tryz.func120, Tryz.ntmps120
 go_wp2
 go_loop [8] (fun iv => iv = .int .i64 ((a : Int) + 1)) (fun _ => 0)
 case atStart => rfl
 case round =>
  obtain rfl := hrel
  go_wp2
  go_end0
  exact ⟨rfl, rfl⟩
/-- an insertion sort of a segment, which may be empty -/
theorem insertion_seg (fc : Nat) (lb : Array Value) (K : ElT → List Int) (xs : List ElT) (g n cap a b : Nat) (w : World) (eg : ∀ args w, (callFunc fc args).run Tryz.prog w = .ok (.enter fc args) w)
  (hr : RowU w g xs) (hsl : ∀ x ∈ xs, ∃ p m c, x.1 = .slice p m c) (hc : CmpAt fc lb K xs g w) (hn : xs.length = n) (ha : a ≤ b) (hb : b ≤ n) (hnl : n ≤ 1000000) :
  Calls Tryz.prog 120 #[.slice (some ⟨g, 0, none⟩) n cap, .int .i64 a, .int .i64 b, .func (.func fc) #[] lb] w (RetSw (fun z => MrgE K a b xs z) g w) := by
 by_cases h : a < b
 ·exact (insertion_any fc lb K xs g n cap a b w eg hr hsl hc hn h hb hnl).mono fun e w' ⟨he, zs, h1, h2, h3, h4⟩ => ⟨he, zs, mrgE_of ha (by omega) h1.perm h1.pre h1.suf h2, h3, h4⟩
 ·obtain rfl : a = b := by omega
  refine (insertion_nil fc lb g n cap a w (by omega)).mono fun e w' ⟨he, hw⟩ => ⟨he, xs, ?_, hw ▸ hr, hw ▸ grown_of_below (Below.refl _ _) _⟩
  exact ⟨xs.take a, [], [], xs.drop a, by simp, by simp, by rw [List.length_take]; omega, rfl, List.Perm.refl _, List.Pairwise.nil⟩

set_option maxHeartbeats 8000000 in
set_option maxRecDepth 100000 in
theorem stable_any (fc : Nat) (lb : Array Value) (K : ElT → List Int) (xs : List ElT) (g n cap : Nat) (w : World) (eg : ∀ args w, (callFunc fc args).run Tryz.prog w = .ok (.enter fc args) w)
  (hr : RowU w g xs) (hsl : ∀ x ∈ xs, ∃ p m c, x.1 = .slice p m c) (hc : CmpAt fc lb K xs g w) (hn : xs.length = n) (hnl : n ≤ 1000000) :
  Calls Tryz.prog 102 #[.slice (some ⟨g, 0, none⟩) n cap, .int .i64 n, .func (.func fc) #[] lb] w (RetSo K xs g w) := by
 have HR := Lib.hid hr
 have HN := Lib.hid hn
 have HI := Lib.hid (fun (zs : List ElT) (A B : Nat) (w1 : World) (h1 : RowU w1 g zs) (h2 : zs.Perm xs) (h3 : w.grownBy w1 (some g)) (h4 : A ≤ B) (h5 : B ≤ n) =>
  insertion_seg fc lb K zs g n cap A B w1 eg h1 (fun x hx => hsl x (h2.mem_iff.1 hx)) (hc.sub (fun x hx => h2.mem_iff.1 hx) h3) (by rw [h2.length_eq, hn]) h4 h5 hnl)
 have HS := Lib.hid (fun (zs : List ElT) (A M B : Nat) (w1 : World) (h1 : RowU w1 g zs) (h2 : zs.Perm xs) (h3 : w.grownBy w1 (some g)) (h4 : A < M) (h5 : M < B) (h6 : B ≤ n) (h7 : MrgS K A M B zs) =>
  sym_any fc lb K xs g n cap w eg hsl hc hnl (n + 1) A M B zs w1 (by omega) h4 h5 h6 h3 h1 (fun x hx => h2.mem_iff.1 hx) (by rw [h2.length_eq, hn]) h7)
 clear hr hsl hc hn eg
 go_enter Tryz.func102, Tryz.ntmps102
 go_wp2
 go_loopw [7, 8] (fun av bv wr => ∃ (A B q : Nat) (zs : List ElT), A ≤ n ∧ B = A + 20 ∧ Hid (A = q * 20) ∧ av = .int .i64 (A : Nat) ∧ bv = .int .i64 (B : Nat) ∧ BlkP K 1 20 q zs ∧ zs.Perm xs ∧ RowU wr g zs ∧ w.grownBy wr (some g)) (fun av _ _ => n - (intOf av).toNat)
 case atStart => exact ⟨0, 20, 0, xs, Nat.zero_le _, rfl, by show _ = _; rfl, by go_num, by go_num, (BlkS.one K xs).start 20, List.Perm.refl _, HR.out, grown_of_below (Below.refl _ _) _⟩
 case round =>
  obtain ⟨A, B, q, zs, hA, hBA, HA, rfl, rfl, hbp, hpe, hrw, hgr⟩ := hrel
  have HBP := Lib.hid hbp
  have HPE := Lib.hid hpe
  have HRW := Lib.hid hrw
  have HGR := Lib.hid hgr
  have HBA := Lib.hid hBA
  clear hbp hpe hrw hgr
  by_cases hlt : B ≤ n
  ·have C := Lib.hid (HI.out zs A B wr HRW.out HPE.out HGR.out (by omega) hlt)
   clear hBA
   go_wp2_with fail
   refine C.out.mono ?_
   rintro e w1 ⟨rfl, z2, hm2, hr2, hg2⟩
   have HM2 : Hid (BlkP K 1 20 (q + 1) z2) := HBP.out.step (by decide) (by rw [← HA.out, ← HBA.out]; exact hm2)
   have HP2 := Lib.hid (hm2.perm.trans HPE.out)
   have HR2 := Lib.hid hr2
   have HG2 := Lib.hid (HGR.out.trans hg2)
   clear hm2 hr2 hg2 C
   go_wp2
   exact ⟨⟨B, B + 20, q + 1, z2, hlt, rfl, by show _ = _; rw [HBA.out, HA.out, Nat.add_mul], rfl, by go_num, HM2.out, HP2.out, HR2.out, HG2.out⟩, by have := HBA.out; show n - _ < n - _; simp [intOf]; omega⟩
  ·have C := Lib.hid (HI.out zs A n wr HRW.out HPE.out HGR.out hA (Nat.le_refl _))
   clear hBA
   go_wp2_with fail
   refine C.out.mono ?_
   rintro e w1 ⟨rfl, z2, hm2, hr2, hg2⟩
   have HB2 : Hid (BlkS K 20 z2) := HBP.out.last (by decide) (by rw [← HA.out, HPE.out.length_eq, HN.out]; exact hm2)
   have HP2 := Lib.hid (hm2.perm.trans HPE.out)
   have HR2 := Lib.hid hr2
   have HG2 := Lib.hid (HGR.out.trans hg2)
   clear hm2 hr2 hg2 C HBP HPE HRW HGR
   go_wp2
   obtain ⟨w0, hw0⟩ : ∃ w0, w0 = w1 := ⟨_, rfl⟩
   rw [← hw0] at HR2 HG2 ⊢
   clear hw0 hA hlt HA HBA
   go_loopw [6, 7, 8, 9] (fun sv _ _ _ wy => ∃ (s : Nat) (zs : List ElT), 20 ≤ s ∧ s ≤ 2000020 ∧ sv = .int .i64 (s : Nat) ∧ BlkS K s zs ∧ zs.Perm xs ∧ RowU wy g zs ∧ w.grownBy wy (some g)) (fun sv _ _ _ _ => n - (intOf sv).toNat)
   case atStart => exact ⟨20, z2, Nat.le_refl _, by omega, rfl, HB2.out, HP2.out, HR2.out, HG2.out⟩
   case round =>
    clear HB2 HP2 HR2 HG2
    obtain ⟨s, zs, hs1, hs2, rfl, hbs, hpe, hrw, hgr⟩ := hrel
    have HBS := Lib.hid hbs
    have HPE := Lib.hid hpe
    have HRW := Lib.hid hrw
    have HGR := Lib.hid hgr
    clear hbs hpe hrw hgr
    by_cases hsn : s < n
    ·obtain ⟨t, ht⟩ : ∃ t, t = 2 * s := ⟨_, rfl⟩
     have HT := Lib.hid ht
     have m1 : (2 : Int) * (s : Int) = (t : Int) := by omega
     have b1 : t ≤ 2000000 := by omega
     have b2 : s < t := by omega
     have HSB : Hid (BlkP K s (2 * s) 0 zs) := HBS.out.start _
     clear ht
     go_wp2
     clear m1
     obtain ⟨w0, hw0⟩ : ∃ w0, w0 = wr := ⟨_, rfl⟩
     rw [← hw0] at HRW HGR ⊢
     clear hw0
     go_loopw [7, 8] (fun av bv wz => ∃ (A B q : Nat) (zz : List ElT), A ≤ n ∧ B = A + t ∧ Hid (A = q * (2 * s)) ∧ av = .int .i64 (A : Nat) ∧ bv = .int .i64 (B : Nat) ∧ BlkP K s (2 * s) q zz ∧ zz.Perm xs ∧ RowU wz g zz ∧ w.grownBy wz (some g)) (fun av _ _ => n - (intOf av).toNat)
     case atStart => exact ⟨0, t, 0, zs, Nat.zero_le _, by omega, by show _ = _; omega, by go_num, by go_num, HSB.out, HPE.out, HRW.out, HGR.out⟩
     case round =>
      clear HSB HPE HRW HGR HBS
      obtain ⟨A, B, q, zz, hA, hBA, HA, rfl, rfl, hbp, hpe, hrw, hgr⟩ := hrel
      have HBP := Lib.hid hbp
      have HPE := Lib.hid hpe
      have HRW := Lib.hid hrw
      have HGR := Lib.hid hgr
      have HBA := Lib.hid hBA
      have HLZ : Hid (zz.length = n) := by show _ = _; rw [hpe.length_eq, HN.out]
      obtain ⟨M, hM⟩ : ∃ M, M = A + s := ⟨_, rfl⟩
      have HM := Lib.hid hM
      have c1 : (A : Int) + (s : Int) = (M : Int) := by omega
      clear hbp hpe hrw hgr
      by_cases hlt : B ≤ n
      ·have C := Lib.hid (HS.out zz A M B wr HRW.out HPE.out HGR.out (by omega) (by omega) hlt (by
        have h2 := HBP.out.two (b := B) (by omega) (by rw [← HA.out]; omega) (by rw [← HA.out]; have := HT.out; omega) (by rw [HLZ.out]; exact hlt)
        rw [← HA.out, ← hM] at h2
        exact h2))
       clear hBA hM
       go_wp2_with fail
       refine C.out.mono ?_
       rintro e w1 ⟨rfl, z2, hm2, hr2, hg2⟩
       have HM2 : Hid (BlkP K s (2 * s) (q + 1) z2) := HBP.out.step (by omega) (by rw [← HA.out, ← HT.out, ← HBA.out]; exact hm2)
       have HP2 := Lib.hid (hm2.perm.trans HPE.out)
       have HR2 := Lib.hid hr2
       have HG2 := Lib.hid (HGR.out.trans hg2)
       have m1 : (2 : Int) * (s : Int) = (t : Int) := by have := HT.out; omega
       clear hm2 hr2 hg2 C c1
       go_wp2
       clear m1
       exact ⟨⟨B, B + t, q + 1, z2, hlt, rfl, by show _ = _; rw [HBA.out, HA.out, HT.out, Nat.add_mul, Nat.one_mul], rfl, by go_num, HM2.out, HP2.out, HR2.out, HG2.out⟩, by have := HBA.out; show n - _ < n - _; simp [intOf]; omega⟩
      ·by_cases hMn : M < n
       ·have C := Lib.hid (HS.out zz A M n wr HRW.out HPE.out HGR.out (by omega) hMn (Nat.le_refl _) (by
         have h2 := HBP.out.two (b := n) (by omega) (by rw [← HA.out]; omega) (by rw [← HA.out]; have := HT.out; omega) (by rw [HLZ.out]; exact Nat.le_refl _)
         rw [← HA.out, ← hM] at h2
         exact h2))
        clear hBA hM
        go_wp2_with fail
        refine C.out.mono ?_
        rintro e w1 ⟨rfl, z2, hm2, hr2, hg2⟩
        have HM2 : Hid (BlkS K t z2) := by
         rw [HT.out]
         exact HBP.out.last (by omega) (by rw [← HA.out, HLZ.out]; exact hm2)
        have HP2 := Lib.hid (hm2.perm.trans HPE.out)
        have HR2 := Lib.hid hr2
        have HG2 := Lib.hid (HGR.out.trans hg2)
        have m2 : (s : Int) * (2 : Int) = (t : Int) := by have := HT.out; omega
        clear hm2 hr2 hg2 C c1
        go_wp2
        clear m2
        exact ⟨⟨t, z2, by omega, by omega, rfl, HM2.out, HP2.out, HR2.out, HG2.out⟩, by show n - _ < n - _; simp [intOf]; omega⟩
       ·have HM2 : Hid (BlkS K t zz) := by
         rw [HT.out]
         exact HBP.out.skip (by omega) (by rw [← HA.out, HLZ.out]; omega)
        have m2 : (s : Int) * (2 : Int) = (t : Int) := by have := HT.out; omega
        clear hBA hM
        go_wp2
        clear m2 c1
        exact ⟨⟨t, zz, by omega, by omega, rfl, HM2.out, HPE.out, HRW.out, HGR.out⟩, by show n - _ < n - _; simp [intOf]; omega⟩
    ·have HF := Lib.hid (HBS.out.whole (by rw [HPE.out.length_eq, HN.out]; omega))
     go_wp2
     go_end0
     exact ⟨rfl, zs, HPE.out, HF.out, HRW.out, HGR.out⟩
theorem sortStable_any (fc : Nat) (lb : Array Value) (K : ElT → List Int) (xs : List ElT) (g n cap : Nat) (w : World) (eg : ∀ args w, (callFunc fc args).run Tryz.prog w = .ok (.enter fc args) w)
  (hr : RowU w g xs) (hsl : ∀ x ∈ xs, ∃ p m c, x.1 = .slice p m c) (hc : CmpAt fc lb K xs g w) (hn : xs.length = n) (hnl : n ≤ 1000000) :
  Calls Tryz.prog 75 #[.slice (some ⟨g, 0, none⟩) n cap, .func (.func fc) #[] lb] w (RetSo K xs g w) := by
 have C := Lib.hid (stable_any fc lb K xs g n cap w eg hr hsl hc hn hnl)
 clear hr hsl hc hn eg
 go_enter Tryz.func75, Tryz.ntmps75
 go_wp2_with fail
 refine C.out.mono ?_
 rintro e w1 ⟨rfl, hx⟩
 have HX := Lib.hid hx
 clear hx C
 go_wp2
 go_end0
 exact ⟨rfl, HX.out⟩
end Go.Proofs.YtkliekoheeeamaaGreatDoor
/- space.sortBy and space.Seq at any number of coordinates: contracts. -/
namespace Go.Proofs.YtkliekoheeeamaaGreatDoor
open Go.RowKit

theorem limB_pts : ∀ {k n : Int} {lo hi : List Int}, wideB lo hi → limB k lo hi = some n → n = k * (ptsN lo hi : Nat)
 | k, n, [], [], _, h => by
  simp only [limB, Option.some.injEq] at h
  simp [ptsN, h]
 | k, n, l :: ls, x :: hs, hw, h => by
  obtain ⟨h1, h2⟩ := hw
  rw [limB] at h
  split at h
  ·cases h
  ·have := limB_pts h2 h
   rw [this, ptsN, Int.natCast_mul, Int.toNat_of_nonneg (by omega), Int.mul_assoc]
 | _, _, [], _ :: _, hw, _ => hw.elim
 | _, _, _ :: _, [], hw, _ => hw.elim
theorem ptsN_lim {n : Int} {lo hi : List Int} (hw : wideB lo hi) (h : limB 1 lo hi = some n) : (ptsN lo hi : Int) = n := by
 have := limB_pts hw h
 omega
set_option maxHeartbeats 4000000 in
theorem sortBy_all (F : List Int → List Int) (lo : List Int) (vlo fv v : Value) (gb gf : Nat) (w0 w : World) (l : List (List Int)) (hb : Below w0.heap.size w0 w) (hr : RowsO w0.heap.size w v l) (hk : KeyC w gb gf vlo fv) (hne : ∀ g, v.ownBlock = some g → g ≠ gb ∧ g ≠ gf) (hlo : Ints w0 vlo lo) (hF : FnOf fv F lo.length)
  (hx : ∀ x ∈ l, PtOk lo x) (h1 : 1 ≤ lo.length) (h4 : lo.length ≤ 4) (h0 : 1 ≤ l.length) (h20 : l.length ≤ 1000000) :
  Calls Tryz.prog 37 #[v, keyV gb gf] w fun e w' => e = .returned (.tuple #[]) ∧ ∃ l', l'.Perm l ∧ SortK (fun x => F (subL x lo)) l' ∧ RowsI w' v l' ∧ Below w0.heap.size w0 w' := by
 obtain ⟨g, cap, xs, rfl, hg0, hgl, hxs, hru, hcap, hcap2, htg, hio⟩ := rowsO_row hr h0
 obtain ⟨hgb, hgf⟩ := hne g rfl
 have hT : 24 ≠ 3 := by decide
 obtain ⟨W, hW⟩ : ∃ W, W = w.alloc (.cells #[keyV gb gf] 82) := ⟨_, rfl⟩
 have hbW : Below w.heap.size w W := by rw [hW]; exact below_alloc _ _
 have hWs : W.heap.size = w.heap.size + 1 := by rw [hW]; simp
 have hck : W.cell? ⟨w.heap.size, 0, none⟩ = some (keyV gb gf) := by rw [hW, World.cell?_alloc_at _ _ _ _ rfl]; rfl
 have hglt : gb < w.heap.size := World.block_lt_of_cell? _ _ hk.lo
 have hflt : gf < w.heap.size := World.block_lt_of_cell? _ _ hk.fn
 have hn : xs.length = l.length := by rw [← hxs, List.length_map]
 have C := Lib.hid (sortStable_any 76 #[.pointer (some ⟨w.heap.size, 0, none⟩)] (fun e => F (subL e.2 lo)) xs g l.length cap W (enters_of Tryz.func76 (by kernel_rfl) rfl)
  (hru.kept (hbW.block g hgl)) (fun x hx' => (hio x hx').ints.shape.elim fun a ha => ha.elim fun c hc => ⟨a, _, c, hc.1⟩)
  (by
   intro W1 x y hgr hx1 hy1
   have hcell : ∀ a, a.block < W.heap.size → a.block ≠ g → W1.cell? a = W.cell? a := fun a h1 h2 => hgr.cell_far a h1 (fun e => h2 (by injection e))
   have hB1 : Below w0.heap.size w0 W1 := (hb.trans (hbW.mono hb.size)).grown hgr (Nat.le_trans hb.size hbW.size) (fun k e => by cases e; exact hg0)
   have key : ∀ e : ElT, e ∈ xs → ∀ w2, Below W1.heap.size W1 w2 → Calls Tryz.prog 81 #[e.1, .pointer (some ⟨gb, 0, none⟩), .pointer (some ⟨gf, 0, none⟩)] w2 fun e' w' => ∃ u, e' = .returned u ∧ Ints w' u (F (subL e.2 lo)) ∧ Below w2.heap.size w2 w' := by
    intro e he w2 hb2
    have hpt := hx e.2 (by rw [← hxs]; exact List.mem_map.2 ⟨e, he, rfl⟩)
    have hi1 : IntsO W1 e.1 e.2 := ((hio e he).later hbW).grown hgr (fun r er e2 => by
     cases er
     exact htg.ne ((hio e he).tag g e2) hT rfl)
    refine key1_any F fv vlo e.1 lo e.2 gb gf w2 hF ?_ ?_ ((hlo.later IntR.lasts hB1).later IntR.lasts hb2) (hi1.later hb2).ints hpt.1 h1 h4 hpt.2
    ·exact cell_later ((hcell ⟨gb, 0, none⟩ (by show gb < _; omega) (by show gb ≠ _; exact fun e => hgb e.symm)).trans (cell_later hk.lo hbW)) hb2
    ·exact cell_later ((hcell ⟨gf, 0, none⟩ (by show gf < _; omega) (by show gf ≠ _; exact fun e => hgf e.symm)).trans (cell_later hk.fn hbW)) hb2
   exact sortCmp_any gb gf w.heap.size x.1 y.1 (F (subL x.2 lo)) (F (subL y.2 lo)) W1 ((hcell ⟨w.heap.size, 0, none⟩ (by show w.heap.size < _; omega) (by show w.heap.size ≠ _; omega)).trans hck)
    ((hio x hx1).ints.shape.elim fun a ha => ha.elim fun c hc => ⟨a, _, c, hc.1⟩) ((hio y hy1).ints.shape.elim fun a ha => ha.elim fun c hc => ⟨a, _, c, hc.1⟩) (key x hx1) (key y hy1))
  hn h20)
 have POST : Hid (∀ W1 (zs : List ElT), zs.Perm xs → SortK (fun e : ElT => F (subL e.2 lo)) zs → RowU W1 g zs → W.grownBy W1 (some g) → ∃ l', l'.Perm l ∧ SortK (fun x => F (subL x lo)) l' ∧ RowsI W1 (.slice (some ⟨g, 0, none⟩) l.length cap) l' ∧ Below w0.heap.size w0 W1) := by
  intro W1 zs hp hs hu hgr
  refine ⟨zs.map Prod.snd, by rw [← hxs]; exact hp.map _, List.pairwise_map.2 hs, ?_, (hb.trans (hbW.mono hb.size)).grown hgr (Nat.le_trans hb.size hbW.size) (fun k e => by cases e; exact hg0)⟩
  have hzl : (zs.map Prod.snd).length = l.length := by rw [List.length_map, hp.length_eq, hn]
  rw [← hzl] at hcap ⊢
  refine ⟨_, cap, rfl, hcap, hcap2, fun _ => ⟨g, 0, rfl, fun i x hi => ?_⟩⟩
  rw [List.getElem?_map] at hi
  obtain ⟨z, hz, rfl⟩ := Option.map_eq_some_iff.1 hi
  have hzm : z ∈ xs := hp.mem_iff.1 (List.mem_of_getElem? hz)
  refine ⟨z.1, by rw [Nat.zero_add, Nat.mul_one]; exact hu.cell i z hz, ?_⟩
  exact (((hio z hzm).later hbW).grown hgr (fun r er e2 => by
     cases er
     exact htg.ne ((hio z hzm).tag g e2) hT rfl)).ints
 have HWE := Lib.hid hW
 rw [hW] at C
 clear hr hk hlo hF hx hru hio hbW hck hxs hW
 go_enter Tryz.func37, Tryz.ntmps37
 go_wp2_with fail
 refine C.out.mono ?_
 rintro e w1 ⟨rfl, zs, h1', h2', h3', h4'⟩
 have P1 := Lib.hid (POST.out w1 zs h1' h2' h3' (by rw [HWE.out]; exact h4'))
 clear h1' h2' h3' h4' C POST
 go_wp2
 go_end0
 exact ⟨rfl, P1.out⟩
set_option maxHeartbeats 8000000 in
set_option maxRecDepth 100000 in
theorem seq_all (vs vo vlo vhi : Value) (l : LayT) (lo hi : List Int) (w : World) (hl : LayR w vs vo l) (hlo : Ints w vlo lo) (hhi : Ints w vhi hi) (hmin : ∀ x ∈ lo, -9223372036854775808 ≤ x) (h : orderedB l.order l.tile = true) (h2 : formedB lo hi = true) (h3 : limE lo hi = 0) (hfn : FnOf (ofV l.order (bitsL 0 lo hi) l.tile) (keyF l.order l.tile (bitsL 0 lo hi)) lo.length) :
  Calls Tryz.prog 8 #[layV vs vo l, .agg #[vlo, vhi]] w (RetRows (SortedBy l lo hi) 0 w) := by
 have hfm := h2
 unfold formedB at hfm
 simp only [Bool.and_eq_true, decide_eq_true_eq] at hfm
 have HFM := Lib.hid hfm
 obtain ⟨hA, nB, hB, hB2⟩ := limE_zero h3
 have HWD := Lib.hid (lim_wide hfm.1.1 hA)
 have HPO := Lib.hid (fun x hx => pts_ok h3 hfm.1.1 (x := x) hx)
 have HRG : Hid (∀ (i : Nat) (a b : Int), lo[i]? = some a → hi[i]? = some b → 0 ≤ b - a ∧ b - a ≤ 4095) := fun i a b ha hb => by
  have := limA_get hA ha hb
  have := limB_get hB ha hb
  omega
 have HHB : Hid (∀ x ∈ hi, x ≤ 9223372036854775807) := fun x hx => by
  obtain ⟨i, hi'⟩ := List.mem_iff_getElem?.1 hx
  have hlt := (List.getElem?_eq_some_iff.1 hi').1
  obtain ⟨a, ha⟩ : ∃ a, lo[i]? = some a := ⟨_, List.getElem?_eq_getElem (by omega)⟩
  have := limA_get hA ha hi'
  omega
 have C := Lib.hid (fun w1 (hb : Below w.heap.size w w1) => ordered_any vs vo l w1 (hl.later hb))
 have CF := Lib.hid (fun w1 (hb : Below w.heap.size w w1) => formed_any vlo vhi lo hi w1 (hlo.later IntR.lasts hb) (hhi.later IntR.lasts hb))
 have CL := Lib.hid (fun w1 (hb : Below w.heap.size w w1) => limited_any vlo vhi lo hi w1 (hlo.later IntR.lasts hb) (hhi.later IntR.lasts hb) hfm.1.1.symm hfm.2 hmin)
 have CK := Lib.hid (fun w1 (hb : Below w.heap.size w w1) => key_any vs vo vlo vhi l lo hi w1 (hl.later hb) (hlo.later IntR.lasts hb) (hhi.later IntR.lasts hb) hfm.1.1.symm hfm.2 HRG.out)
 have HMIN := Lib.hid hmin
 have HLO := Lib.hid hlo
 have HHI := Lib.hid hhi
 have HFN := Lib.hid hfn
 have h20 := ptsN_lim (lim_wide hfm.1.1 hA) hB
 have h20 : ptsN lo hi ≤ 1000000 := by omega
 rw [h] at C
 rw [h2] at CF
 rw [h3] at CL
 obtain ⟨a1, c1, rfl, -⟩ := hl.sides.shape
 obtain ⟨a2, c2, rfl, -⟩ := hl.over.shape
 obtain ⟨a3, c3, rfl, -⟩ := hlo.shape
 obtain ⟨a4, c4, rfl, -⟩ := hhi.shape
 have HSB : Hid (∀ r, r.Perm (ptsL lo hi) → SortK (fun x => keyF l.order l.tile (bitsL 0 lo hi) (subL x lo)) r → SortedBy l lo hi r) := fun r h1 h2 => ⟨h1, h2⟩
 obtain ⟨ss, oo, o, t, f, c'⟩ := l
 simp only at HFN HSB
 clear hl hlo hhi h h2 h3 hmin hfm hA hB hB2 hfn
 go_enter Tryz.func8, Tryz.ntmps8
 go_wp2_with fail
 refine (C.out _ ((below_alloc _ _).trans ((below_alloc _ _).mono (by simp)))).mono ?_
 rintro e w1 ⟨rfl, hb⟩
 have HB := Lib.hid (((below_alloc _ _).trans ((below_alloc _ _).mono (by simp))).trans (hb.mono (by simp; omega)))
 have hc : ∀ j, w1.cell? ⟨w.heap.size + 1, j, none⟩ = ((w.alloc (.cells #[.slice a1 ss.length c1, .slice a2 oo.length c2, .int .i64 o, .int .i64 t, .int .i64 f, .int .i64 c'] 32)).alloc (.cells #[.slice a3 lo.length c3, .slice a4 hi.length c4] 26)).cell? ⟨w.heap.size + 1, j, none⟩ := fun j => hb.cell (p := ⟨w.heap.size + 1, j, none⟩) (by simp)
 have hcl : ∀ j, w1.cell? ⟨w.heap.size, j, none⟩ = ((w.alloc (.cells #[.slice a1 ss.length c1, .slice a2 oo.length c2, .int .i64 o, .int .i64 t, .int .i64 f, .int .i64 c'] 32)).alloc (.cells #[.slice a3 lo.length c3, .slice a4 hi.length c4] 26)).cell? ⟨w.heap.size, j, none⟩ := fun j => hb.cell (p := ⟨w.heap.size, j, none⟩) (by simp; omega)
 have d0 : w1.cell? ⟨w.heap.size + 1, 0, none⟩ = some (.slice a3 lo.length c3) := by rw [hc, World.cell?_alloc_at _ _ _ _ (by simp)]; rfl
 have d1 : w1.cell? ⟨w.heap.size + 1, 1, none⟩ = some (.slice a4 hi.length c4) := by rw [hc, World.cell?_alloc_at _ _ _ _ (by simp)]; rfl
 have D0 := Lib.hid d0
 have D1 := Lib.hid d1
 have LB : Hid (LayB w1 w.heap.size (.slice a1 ss.length c1) (.slice a2 oo.length c2) ⟨ss, oo, o, t, f, c'⟩) := by
  refine ⟨?_, ?_, ?_, ?_, ?_, ?_⟩ <;> (rw [hcl, World.cell?_alloc_lt _ _ _ (by simp), World.cell?_alloc_at _ _ _ _ rfl]; rfl)
 clear hb C hc hcl
 go_wp2_with fail
 refine (CF.out _ HB.out).mono ?_
 rintro e w2 ⟨rfl, hb⟩
 have HB12 := Lib.hid hb
 have HB2 := Lib.hid (below_keep HB.out hb)
 have d0 := cell_later D0.out hb
 have d1 := cell_later D1.out hb
 clear hb CF
 go_wp2_with fail
 refine (CL.out _ HB2.out).mono ?_
 rintro e w3 ⟨rfl, hb⟩
 have HB13 := Lib.hid (below_keep HB12.out hb)
 have HB3 := Lib.hid (below_keep HB2.out hb)
 have d0 := cell_later D0.out HB13.out
 have d1 := cell_later D1.out HB13.out
 clear hb CL
 go_wp2_with fail
 refine (points_any (.slice a3 lo.length c3) (.slice a4 hi.length c4) _ ⟨_, _, _, rfl⟩ ⟨_, _, _, rfl⟩).mono ?_
 rintro e w4 ⟨rfl, rfl⟩
 have HB4 : Hid (Below w3.heap.size w3 (w3.alloc (.cells #[.slice a3 lo.length c3, .slice a4 hi.length c4] 26))) := below_alloc _ _
 have CC := Lib.hid (collect_any lo hi 74 #[.pointer (some ⟨w3.heap.size, 0, none⟩)] (w3.alloc (.cells #[.slice a3 lo.length c3, .slice a4 hi.length c4] 26)) (by omega) (enters_of Tryz.func74 (by kernel_rfl) rfl)
  (points1_any lo hi (.slice a3 lo.length c3) (.slice a4 hi.length c4) _ w3.heap.size (by simp) (by rw [World.cell?_alloc_at _ _ _ _ rfl]; rfl) (by rw [World.cell?_alloc_at _ _ _ _ rfl]; rfl) ((HLO.out.later IntR.lasts HB3.out).later IntR.lasts HB4.out) ((HHI.out.later IntR.lasts HB3.out).later IntR.lasts HB4.out) HWD.out HFM.out.1.2 (by have := HFM.out.2; omega) HMIN.out HHB.out))
 go_wp2_with fail
 refine CC.out.mono ?_
 rintro e w5 ⟨v, rfl, hrw, hb⟩
 have HRW := Lib.hid hrw
 have hb35 := below_keep HB4.out hb
 have HB15 := Lib.hid (below_keep HB13.out hb35)
 have HB5 := Lib.hid (below_keep HB3.out hb35)
 have HN5 := Lib.hid (show w3.heap.size ≤ w5.heap.size from hb35.size)
 have d0 := cell_later D0.out HB15.out
 have d1 := cell_later D1.out HB15.out
 obtain ⟨l0, l1, l2, l3, l4, l5⟩ := LB.out
 have l0 := cell_later l0 HB15.out
 have l1 := cell_later l1 HB15.out
 have l2 := cell_later l2 HB15.out
 have l3 := cell_later l3 HB15.out
 have l4 := cell_later l4 HB15.out
 have l5 := cell_later l5 HB15.out
 obtain ⟨av, cv, hvs, -⟩ := hrw.rows.shape
 clear hrw hb hb35 CC
 subst hvs
 have HGL : Hid (∀ g, (Value.slice av (ptsL lo hi).length cv).ownBlock = some g → g < w5.heap.size ∧ w3.heap.size ≤ g) := by
  intro g hg
  obtain ⟨vals, ho, -⟩ := HRW.out.ex
  have := ho.lt g hg
  simp at this
  omega
 go_wp2_with fail
 refine (CK.out _ HB5.out).mono ?_
 rintro e w6 ⟨gb, gf, rfl, k0, k1, k2, hb, kg1, kg2⟩
 have HB6 := Lib.hid (below_keep HB5.out hb)
 have CS := Lib.hid (sortBy_all (keyF o t (bitsL 0 lo hi)) lo (.slice a3 lo.length c3) (ofV o (bitsL 0 lo hi) t) (.slice av (ptsL lo hi).length cv) gb gf w w6 (ptsL lo hi) HB6.out ?c1 ⟨k0, k2⟩ ?c2 HLO.out ?c3 (fun x hx => HPO.out x hx) (by have := HFM.out.1.2; omega) HFM.out.2 (by rw [ptsL_length]; exact ptsN_pos HWD.out) (by rw [ptsL_length]; exact h20))
 case c1 => exact (HRW.out.base (by have := HB3.out.size; simp; omega)).later hb
 case c2 =>
  intro g hg
  have := (HGL.out g hg).1
  omega
 case c3 => exact HFN.out
 clear k0 k1 k2 hb kg1 kg2 CK l0 l1 l2 l3 l4 l5 d0 d1
 go_wp2_with fail
 refine CS.out.mono ?_
 rintro e w7 ⟨rfl, r, h1, h2, h3, h4⟩
 have H3 := Lib.hid h3
 have H4 := Lib.hid h4
 have HSS := Lib.hid (HSB.out r h1 h2)
 clear h1 h2 h3 h4 CS
 go_wp2
 go_ret2
 exact ⟨_, r, rfl, HSS.out, H3.out, H4.out⟩
end Go.Proofs.YtkliekoheeeamaaGreatDoor
