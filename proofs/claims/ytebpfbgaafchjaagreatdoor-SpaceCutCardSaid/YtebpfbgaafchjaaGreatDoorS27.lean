/- Lemmas and contracts, each under its own condition: A loop over an iterator that keeps no block of its own, whose body writes blocks (of which c tells) that are older; the values handed over do not depend on the world. The laws of layer 2: inside, equal, among, layout. SpaceChunks in plain words: cores, wide boxes, homes, dimension by dimension. SpaceChunks: the plain facts about chunks, their boxes, and homes. -/
import Derived.BigQuiet
import Derived.Test.YtebpfbgaafchjaaGreatDoorS13
import Derived.Test.YtebpfbgaafchjaaGreatDoorS2
import Derived.Test.YtebpfbgaafchjaaGreatDoorS21
import Derived.Test.YtebpfbgaafchjaaGreatDoorS6
import Derived.Test.YtebpfbgaafchjaaGreatDoorSameA
/- A loop over an iterator that keeps no block of its own, whose body writes blocks (of which c tells) that are older; the values handed over do not depend on the world. -/
namespace Go.Proofs.YtebpfbgaafchjaaGreatDoor
open Go.RowKit Go.Shelf

/-- below B all but the blocks of c is as it was -/
structure BelowP (c : Nat → Prop) (B : Nat) (w w' : World) : Prop where
 os : w'.os = w.os
 tape : w'.tape = w.tape
 output : w'.output = w.output
 size : w.heap.size ≤ w'.heap.size
 block : ∀ k, k < B → ¬ c k → w'.heap[k]? = w.heap[k]?
theorem belowP_of {B : Nat} {w w' : World} (c : Nat → Prop) (h : Below B w w') : BelowP c B w w' := ⟨h.os, h.tape, h.output, h.size, fun k hk _ => h.block k hk⟩
theorem BelowP.trans {c : Nat → Prop} {B : Nat} {a b d : World} (h : BelowP c B a b) (k : BelowP c B b d) : BelowP c B a d :=
 ⟨k.os.trans h.os, k.tape.trans h.tape, k.output.trans h.output, Nat.le_trans h.size k.size, fun i hi hc => (k.block i hi hc).trans (h.block i hi hc)⟩
theorem BelowP.setCell {c : Nat → Prop} {B : Nat} {a w : World} (h : BelowP c B a w) {p : Addr} (hp : c p.block) (u : Value) : BelowP c B a (w.setCell p u) :=
 h.trans ⟨rfl, rfl, rfl, by simp [World.setCell], fun k hk hc => Below.heap_setCell w p u k (fun e => hc (by rw [e]; exact hp))⟩
theorem cellP {c : Nat → Prop} {w w' : World} {g o : Nat} {v : Value} (h : w.cell? ⟨g, o, none⟩ = some v) (hb : BelowP c w.heap.size w w') (hc : ¬ c g) : w'.cell? ⟨g, o, none⟩ = some v :=
 (World.cell?_of_block (a := ⟨g, o, none⟩) (hb.block g (World.block_lt_of_cell? _ _ h) hc)).trans h

variable {F : Fence} {n : Nat} {P : Program}

end Go.Proofs.YtebpfbgaafchjaaGreatDoor
/- The laws of layer 2: inside, equal, among, layout. -/
namespace Go.Proofs.YtebpfbgaafchjaaGreatDoor
open Go.RowKit

end Go.Proofs.YtebpfbgaafchjaaGreatDoor
/- SpaceChunks in plain words: cores, wide boxes, homes, dimension by dimension. -/
namespace Go.Proofs.YtebpfbgaafchjaaGreatDoor

end Go.Proofs.YtebpfbgaafchjaaGreatDoor
/- SpaceChunks: the plain facts about chunks, their boxes, and homes. -/
namespace Go.Proofs.YtebpfbgaafchjaaGreatDoor

def hF : List DimT → List Int → List Int → List Int → List Int
 | d :: ds, s :: ss, o :: os, x :: xs => homeF ((x - d.lo) / s) (x - d.lo) s o :: hF ds ss os xs
 | _, _, _, _ => []
def hT : List DimT → List Int → List Int → List Int → List Int
 | d :: ds, s :: ss, o :: os, x :: xs => homeT ((d.last - d.lo) / s) ((x - d.lo) / s) (x - d.lo) s o :: hT ds ss os xs
 | _, _, _, _ => []
theorem at_lt {α : Type} {l : List α} {i : Nat} (h : i < l.length) : ∃ x, l[i]? = some x := ⟨_, List.getElem?_eq_getElem h⟩
theorem lt_at {α : Type} {l : List α} {i : Nat} {x : α} (h : l[i]? = some x) : i < l.length := (List.getElem?_eq_some_iff.1 h).1

/-- coordinates of dimensions under a layout -/
structure ChkG (d : List DimT) (s o c : List Int) : Prop where
 ls : s.length = d.length
 lo : o.length = d.length
 lc : c.length = d.length
 gd : ∀ x ∈ d, GoodD x
 gs : ∀ (i : Nat) (x y : Int), s[i]? = some x → o[i]? = some y → GoodS x y
 of : ofL d c = true
/-- what holds of the numbers along one dimension -/
structure NumF (x : DimT) (y z a n Q : Int) : Prop where
 y1 : 1 ≤ y
 z0 : 0 ≤ z
 zy : z ≤ y
 n0 : 0 ≤ n
 nQ : n ≤ Q
 a1 : n * y ≤ a - x.lo
 a2 : a - x.lo < n * y + y
 q1 : Q * y ≤ x.last - x.lo
 q2 : x.last - x.lo < Q * y + y
 al : x.lo ≤ a
 ah : a ≤ x.last
 big : Q ≤ 2147483648
theorem ChkG.num {d : List DimT} {s o c : List Int} (h : ChkG d s o c) {i : Nat} {x : DimT} {y z a : Int} (hx : d[i]? = some x) (hy : s[i]? = some y) (hz : o[i]? = some z) (ha : c[i]? = some a) :
  NumF x y z a ((a - x.lo) / y) ((x.last - x.lo) / y) := by
 have gs := h.gs i y z hy hz
 have gd := h.gd x (List.mem_of_getElem? hx)
 obtain ⟨b1, b2⟩ := ofL_good h.of hx ha
 have g1 := gs.s1
 have hl := gd.last
 have hlo := gd.lo
 have e1 : ∀ t : Int, t / y * y ≤ t ∧ t < t / y * y + y := fun t => by
  have h1 := Int.mul_ediv_add_emod t y
  have h2 := Int.emod_nonneg t (show y ≠ 0 by omega)
  have h3 := Int.emod_lt_of_pos t (show 0 < y by omega)
  rw [Int.mul_comm] at h1
  omega
 refine ⟨g1, gs.o1, gs.o3, Int.ediv_nonneg (by omega) (by omega), Int.ediv_le_ediv (by omega) (by omega), (e1 _).1, (e1 _).2, (e1 _).1, (e1 _).2, b1, b2, ?_⟩
 have := Int.ediv_le_self y (show 0 ≤ x.last - x.lo by omega)
 omega
end Go.Proofs.YtebpfbgaafchjaaGreatDoor
