/- Lemmas and contracts, each under its own condition: A loop over an iterator that keeps no block of its own, whose body writes blocks (of which c tells) that are older; the values handed over do not depend on the world. The laws of layer 2: inside, equal, among, layout. SpaceChunks in plain words: cores, wide boxes, homes, dimension by dimension. SpaceChunks: the plain facts about chunks, their boxes, and homes. -/
import Derived.BigQuiet
import Derived.Test.YtkliekoheeeamaaGreatDoorS13
import Derived.Test.YtkliekoheeeamaaGreatDoorS2
import Derived.Test.YtkliekoheeeamaaGreatDoorS21
import Derived.Test.YtkliekoheeeamaaGreatDoorS6
import Derived.Test.YtkliekoheeeamaaGreatDoorSameA
/- A loop over an iterator that keeps no block of its own, whose body writes blocks (of which c tells) that are older; the values handed over do not depend on the world. -/
namespace Go.Proofs.YtkliekoheeeamaaGreatDoor
open Go.RowKit Go.Shelf

/-- below B all but the blocks of c is as it was -/
structure BelowP (c : Nat → Prop) (B : Nat) (w w' : World) : Prop where
 os : w'.os = w.os
 tape : w'.tape = w.tape
 output : w'.output = w.output
 size : w.heap.size ≤ w'.heap.size
 block : ∀ k, k < B → ¬ c k → w'.heap[k]? = w.heap[k]?
theorem belowP_of {B : Nat} {w w' : World} (c : Nat → Prop) (h : Below B w w') : BelowP c B w w' := ⟨h.os, h.tape, h.output, h.size, fun k hk _ => h.block k hk⟩
theorem BelowP.trans {c : Nat → Prop} {B : Nat} {a b d : World} (h : BelowP c B a b) (k : BelowP c B b d) : BelowP c B a d :=
 ⟨k.os.trans h.os, k.tape.trans h.tape, k.output.trans h.output, Nat.le_trans h.size k.size, fun i hi hc => (k.block i hi hc).trans (h.block i hi hc)⟩
theorem BelowP.setCell {c : Nat → Prop} {B : Nat} {a w : World} (h : BelowP c B a w) {p : Addr} (hp : c p.block) (u : Value) : BelowP c B a (w.setCell p u) :=
 h.trans ⟨rfl, rfl, rfl, by simp [World.setCell], fun k hk hc => Below.heap_setCell w p u k (fun e => hc (by rw [e]; exact hp))⟩
theorem cellP {c : Nat → Prop} {w w' : World} {g o : Nat} {v : Value} (h : w.cell? ⟨g, o, none⟩ = some v) (hb : BelowP c w.heap.size w w') (hc : ¬ c g) : w'.cell? ⟨g, o, none⟩ = some v :=
 (World.cell?_of_block (a := ⟨g, o, none⟩) (hb.block g (World.block_lt_of_cell? _ _ h) hc)).trans h

variable {F : Fence} {n : Nat} {P : Program}

end Go.Proofs.YtkliekoheeeamaaGreatDoor
/- The laws of layer 2: inside, equal, among, layout. -/
namespace Go.Proofs.YtkliekoheeeamaaGreatDoor
open Go.RowKit

set_option maxHeartbeats 1600000 in
theorem lequal_any (a b : List Int) (v u : Value) (w : World) (ha : Ints w v a) (hb : Ints w u b) :
  Calls Tryz.prog 9 #[v, u] w (RetDr (.bool (decide (a = b))) w) := by
 have HA := Lib.hid ha
 have HB := Lib.hid hb
 have hla := ha.len
 obtain ⟨p, cap, rfl, c1, c2⟩ := ha.shape
 obtain ⟨p', cap', rfl, c1', c2'⟩ := hb.shape
 by_cases hl : a.length = b.length
 ·obtain ⟨R, hR⟩ : ∃ R, R = decide (a = b) := ⟨_, rfl⟩
  rw [← hR]
  have HR := Lib.hid hR
  have HL := Lib.hid hl
  rw [← hl] at HB ⊢
  clear ha hb hl hR c1'
  go_enter Tryz.func9, Tryz.ntmps9
  go_wp2
  go_loopw [5] (fun iv wr => ∃ (i nq : Nat), i ≤ a.length ∧ iv = .int .i64 (i : Nat) ∧ Hid (a.take i = b.take i) ∧ wr = w.drewN nq) (fun iv _ => a.length - (intOf iv).toNat)
  case atStart => exact ⟨0, 0, Nat.zero_le _, rfl, rfl, rfl⟩
  case round =>
   obtain ⟨i, n0, hi, rfl, HT, rfl⟩ := hrel
   by_cases hlt : i < a.length
   ·obtain ⟨g, o, x, ea, hx, hr⟩ := HA.out.at i hlt
    obtain ⟨g', o', y, ea', hy, hr'⟩ := HB.out.at i (by rw [← HL.out]; exact hlt)
    subst ea ea'
    rw [Nat.mul_one] at hr hr'
    unfold IntR at hr hr'
    have i0 : (0 : Int) ≤ (i : Int) := by omega
    have i1 : (i : Int) < (a.length : Int) := by omega
    have HX := Lib.hid hx
    have HY := Lib.hid hy
    clear hx hy
    by_cases hxy : x = y
    ·have hb1 : (x != y) = false := by simp [hxy]
     have HT2 : Hid (a.take (i + 1) = b.take (i + 1)) := by show _ = _; rw [take_snoc' HX.out, take_snoc' HY.out, HT.out, hxy]
     clear hxy
     go_wp2
     go_quiet (fail)
     go_wp2
     exact ⟨⟨i + 1, _, by omega, by go_num, HT2.out, rfl⟩, by show a.length - _ < a.length - _; simp [intOf]; omega⟩
    ·have hb1 : (x != y) = true := by rw [bne_iff_ne]; exact hxy
     have HRR : Hid (R = false) := by
      show _ = _
      rw [HR.out]
      apply decide_eq_false
      intro e
      subst e
      have := HX.out.symm.trans HY.out
      exact hxy (Option.some.inj this)
     clear hxy
     go_wp2
     go_quiet (fail)
     go_wp2
     go_ret
     rw [HRR.out]
     refine ⟨rfl, n0 + nq, ?_⟩
     first | rfl | rw [World.drewN_drewN]
   ·obtain rfl : i = a.length := by omega
    have HRR : Hid (R = true) := by
     show _ = _
     rw [HR.out]
     apply decide_eq_true
     have := HT.out
     rwa [List.take_length, HL.out, List.take_length] at this
    go_wp2
    go_ret
    rw [HRR.out]
    exact ⟨rfl, _, rfl⟩
 ·have hl' : ¬ ((a.length : Int) = b.length) := by omega
  have e : decide (a = b) = false := decide_eq_false (fun e => hl (by rw [e]))
  rw [e]
  clear ha hb hl e
  go_enter Tryz.func9, Tryz.ntmps9
  go_wp2
  go_ret
  exact ⟨rfl, 0, rfl⟩


end Go.Proofs.YtkliekoheeeamaaGreatDoor
/- SpaceChunks in plain words: cores, wide boxes, homes, dimension by dimension. -/
namespace Go.Proofs.YtkliekoheeeamaaGreatDoor

end Go.Proofs.YtkliekoheeeamaaGreatDoor
/- SpaceChunks: the plain facts about chunks, their boxes, and homes. -/
namespace Go.Proofs.YtkliekoheeeamaaGreatDoor

def hF : List DimT → List Int → List Int → List Int → List Int
 | d :: ds, s :: ss, o :: os, x :: xs => homeF ((x - d.lo) / s) (x - d.lo) s o :: hF ds ss os xs
 | _, _, _, _ => []
def hT : List DimT → List Int → List Int → List Int → List Int
 | d :: ds, s :: ss, o :: os, x :: xs => homeT ((d.last - d.lo) / s) ((x - d.lo) / s) (x - d.lo) s o :: hT ds ss os xs
 | _, _, _, _ => []
theorem at_lt {α : Type} {l : List α} {i : Nat} (h : i < l.length) : ∃ x, l[i]? = some x := ⟨_, List.getElem?_eq_getElem h⟩
theorem lt_at {α : Type} {l : List α} {i : Nat} {x : α} (h : l[i]? = some x) : i < l.length := (List.getElem?_eq_some_iff.1 h).1

/-- coordinates of dimensions under a layout -/
structure ChkG (d : List DimT) (s o c : List Int) : Prop where
 ls : s.length = d.length
 lo : o.length = d.length
 lc : c.length = d.length
 gd : ∀ x ∈ d, GoodD x
 gs : ∀ (i : Nat) (x y : Int), s[i]? = some x → o[i]? = some y → GoodS x y
 of : ofL d c = true
/-- what holds of the numbers along one dimension -/
structure NumF (x : DimT) (y z a n Q : Int) : Prop where
 y1 : 1 ≤ y
 z0 : 0 ≤ z
 zy : z ≤ y
 n0 : 0 ≤ n
 nQ : n ≤ Q
 a1 : n * y ≤ a - x.lo
 a2 : a - x.lo < n * y + y
 q1 : Q * y ≤ x.last - x.lo
 q2 : x.last - x.lo < Q * y + y
 al : x.lo ≤ a
 ah : a ≤ x.last
 big : Q ≤ 2147483648
theorem ChkG.num {d : List DimT} {s o c : List Int} (h : ChkG d s o c) {i : Nat} {x : DimT} {y z a : Int} (hx : d[i]? = some x) (hy : s[i]? = some y) (hz : o[i]? = some z) (ha : c[i]? = some a) :
  NumF x y z a ((a - x.lo) / y) ((x.last - x.lo) / y) := by
 have gs := h.gs i y z hy hz
 have gd := h.gd x (List.mem_of_getElem? hx)
 obtain ⟨b1, b2⟩ := ofL_good h.of hx ha
 have g1 := gs.s1
 have hl := gd.last
 have hlo := gd.lo
 have e1 : ∀ t : Int, t / y * y ≤ t ∧ t < t / y * y + y := fun t => by
  have h1 := Int.mul_ediv_add_emod t y
  have h2 := Int.emod_nonneg t (show y ≠ 0 by omega)
  have h3 := Int.emod_lt_of_pos t (show 0 < y by omega)
  rw [Int.mul_comm] at h1
  omega
 refine ⟨g1, gs.o1, gs.o3, Int.ediv_nonneg (by omega) (by omega), Int.ediv_le_ediv (by omega) (by omega), (e1 _).1, (e1 _).2, (e1 _).1, (e1 _).2, b1, b2, ?_⟩
 have := Int.ediv_le_self y (show 0 ≤ x.last - x.lo by omega)
 omega
end Go.Proofs.YtkliekoheeeamaaGreatDoor
