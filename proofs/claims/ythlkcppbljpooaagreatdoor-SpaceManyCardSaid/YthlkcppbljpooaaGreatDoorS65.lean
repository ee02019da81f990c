/- Lemmas and contracts, each under its own condition: Cells whose integers and values are overwritten: what stays. What Make returns, whatever the order of the cells is. -/
import Derived.Test.YthlkcppbljpooaaGreatDoorS5
import Derived.Test.YthlkcppbljpooaaGreatDoorS6
import Derived.Test.YthlkcppbljpooaaGreatDoorS62
import Derived.Test.YthlkcppbljpooaaGreatDoorS64
/- Cells whose integers and values are overwritten: what stays. -/
namespace Go.Proofs.YthlkcppbljpooaaGreatDoor
open Go.RowKit

/-- blocks that may be overwritten -/
structure Mu (W : World) (n0 n1 b : Nat) : Prop where
 ge : n0 ≤ b
 lt : b < n1
 tag : TagB W b 3 ∨ TagB W b 40
/-- nothing else is -/
structure MutJ (n0 n1 : Nat) (W w : World) : Prop where
 below : Below n0 W w
 keep : ∀ b, b < W.heap.size → ¬ Mu W n0 n1 b → w.heap[b]? = W.heap[b]?
theorem MutJ.start (n0 n1 : Nat) (W : World) : MutJ n0 n1 W W := ⟨Below.refl _ _, fun _ _ _ => rfl⟩
theorem MutJ.later {n0 n1 : Nat} {W w w' : World} (h : MutJ n0 n1 W w) (hn : n0 ≤ W.heap.size) (hb : Below w.heap.size w w') : MutJ n0 n1 W w' :=
 ⟨h.below.trans (hb.mono (Nat.le_trans hn h.below.size)), fun b h1 h2 => (hb.block b (Nat.lt_of_lt_of_le h1 h.below.size)).trans (h.keep b h1 h2)⟩
theorem MutJ.set {n0 n1 : Nat} {W w : World} (h : MutJ n0 n1 W w) {g : Nat} (hg : Mu W n0 n1 g) (o : Nat) (x : Value) : MutJ n0 n1 W (w.setCell ⟨g, o, none⟩ x) :=
 ⟨h.below.setCell (p := ⟨g, o, none⟩) hg.ge x, fun b h1 h2 => (Below.heap_setCell w ⟨g, o, none⟩ x b (fun e => h2 (e ▸ hg))).trans (h.keep b h1 h2)⟩
theorem Mu.not {W : World} {n0 n1 b : Nat} {T : TypeId} (h : TagB W b T) (h1 : T ≠ 3) (h2 : T ≠ 40) : ¬ Mu W n0 n1 b := fun hm => by
 rcases hm.tag with h' | h'
 ·exact h.ne h' h1 rfl
 ·exact h.ne h' h2 rfl
/-- integers that may be overwritten -/
structure IntM (W : World) (n0 n1 : Nat) (w : World) (a : Option Addr) (n : Nat) : Prop where
 ex : ∀ j, j < n → ∃ g o x, a = some ⟨g, o, none⟩ ∧ Mu W n0 n1 g ∧ TagB W g 3 ∧ w.cell? ⟨g, o + j, none⟩ = some (.int .i64 x) ∧ w.frozen? ⟨g, o + j, none⟩ = false
/-- values that may be overwritten -/
structure ValM (W : World) (n0 n1 : Nat) (w : World) (a : Option Addr) (n : Nat) : Prop where
 ex : ∀ j, j < n → ∃ g o, a = some ⟨g, o, none⟩ ∧ Mu W n0 n1 g ∧ TagB W g 40 ∧ ∀ t, t < 4 → (∃ x, w.cell? ⟨g, o + j * 4 + t, none⟩ = some x) ∧ w.frozen? ⟨g, o + j * 4 + t, none⟩ = false
theorem cell_some_set {w : World} {g o p b : Nat} {x : Value} (h : ∃ y, w.cell? ⟨b, p, none⟩ = some y) : ∃ y, (w.setCell ⟨g, o, none⟩ x).cell? ⟨b, p, none⟩ = some y := by
 obtain ⟨y, h⟩ := h
 by_cases e : (⟨g, o, none⟩ : Addr) = ⟨b, p, none⟩
 ·injection e with e1 e2
  subst e1 e2
  exact ⟨x, World.cell?_setCell_same w ⟨g, o, none⟩ _ h⟩
 ·exact ⟨y, by rw [World.cell?_setCell_other w ⟨g, o, none⟩ ⟨b, p, none⟩ _ e]; exact h⟩
theorem IntM.set {W w : World} {n0 n1 : Nat} {a : Option Addr} {n : Nat} (h : IntM W n0 n1 w a n) (g o : Nat) (y : Int) : IntM W n0 n1 (w.setCell ⟨g, o, none⟩ (.int .i64 y)) a n := ⟨fun j hj => by
 obtain ⟨b, p, x, e, h1, h2, h3, h4⟩ := h.ex j hj
 by_cases e2 : (⟨g, o, none⟩ : Addr) = ⟨b, p + j, none⟩
 ·injection e2 with e3 e4
  refine ⟨b, p, y, e, h1, h2, ?_, by rw [World.frozen?_setCell]; exact h4⟩
  rw [e3, e4]
  exact World.cell?_setCell_same w ⟨b, p + j, none⟩ _ h3
 ·exact ⟨b, p, x, e, h1, h2, by rw [World.cell?_setCell_other w ⟨g, o, none⟩ ⟨b, p + j, none⟩ _ e2]; exact h3, by rw [World.frozen?_setCell]; exact h4⟩⟩
theorem IntM.setV {W w : World} {n0 n1 : Nat} {a : Option Addr} {n : Nat} (h : IntM W n0 n1 w a n) {g : Nat} (hg : TagB W g 40) (o : Nat) (y : Value) : IntM W n0 n1 (w.setCell ⟨g, o, none⟩ y) a n := ⟨fun j hj => by
 obtain ⟨b, p, x, e, h1, h2, h3, h4⟩ := h.ex j hj
 exact ⟨b, p, x, e, h1, h2, by rw [World.cell?_setCell_other w ⟨g, o, none⟩ ⟨b, p + j, none⟩ _ (fun e2 => by injection e2 with e3; exact hg.ne h2 (by decide) e3)]; exact h3, by rw [World.frozen?_setCell]; exact h4⟩⟩
theorem ValM.set {W w : World} {n0 n1 : Nat} {a : Option Addr} {n : Nat} (h : ValM W n0 n1 w a n) (g o : Nat) (y : Value) : ValM W n0 n1 (w.setCell ⟨g, o, none⟩ y) a n := ⟨fun j hj => by
 obtain ⟨b, p, e, h1, h2, h3⟩ := h.ex j hj
 exact ⟨b, p, e, h1, h2, fun t ht => ⟨cell_some_set (h3 t ht).1, by rw [World.frozen?_setCell]; exact (h3 t ht).2⟩⟩⟩
theorem IntM.later {W w w' : World} {n0 n1 : Nat} {a : Option Addr} {n : Nat} (h : IntM W n0 n1 w a n) (hb : Below w.heap.size w w') : IntM W n0 n1 w' a n := ⟨fun j hj => by
 obtain ⟨b, p, x, e, h1, h2, h3, h4⟩ := h.ex j hj
 exact ⟨b, p, x, e, h1, h2, cell_later h3 hb, (hb.frozen (p := ⟨b, p + j, none⟩) (World.block_lt_of_cell? _ _ h3)).trans h4⟩⟩
theorem ValM.later {W w w' : World} {n0 n1 : Nat} {a : Option Addr} {n : Nat} (h : ValM W n0 n1 w a n) (hb : Below w.heap.size w w') : ValM W n0 n1 w' a n := ⟨fun j hj => by
 obtain ⟨b, p, e, h1, h2, h3⟩ := h.ex j hj
 exact ⟨b, p, e, h1, h2, fun t ht => by
  obtain ⟨⟨x, hx⟩, hf⟩ := h3 t ht
  exact ⟨⟨x, cell_later hx hb⟩, (hb.frozen (p := ⟨b, _, none⟩) (World.block_lt_of_cell? _ _ hx)).trans hf⟩⟩⟩
/-- one of the cells -/
structure MineI (W : World) (n0 n1 : Nat) (w : World) (v : Value) (i : Nat) (c : CellT) : Prop where
 ex : ∃ g n k p m q k', v = .slice (some ⟨g, 0, none⟩) n k ∧ TagB W g 38 ∧ w.cell? ⟨g, i * 2, none⟩ = some (.slice p c.co.length m) ∧ w.cell? ⟨g, i * 2 + 1, none⟩ = some (.slice q c.vals.length k') ∧ IntM W n0 n1 w p c.co.length ∧ ValM W n0 n1 w q c.vals.length
/-- the state while cells are overwritten; gm is the block of the array -/
structure MutS (n0 n1 gm : Nat) (v : Value) (l : List CellT) (W w : World) : Prop where
 j : MutJ n0 n1 W w
 tag : TagB W gm 29
 c2 : w.cell? ⟨gm, 2, none⟩ = some v
 mine : ∀ i c, l[i]? = some c → MineI W n0 n1 w v i c
section
variable {n0 n1 gm : Nat} {v : Value} {l : List CellT} {W w w' : World}
theorem MutS.later (h : MutS n0 n1 gm v l W w) (hn : n0 ≤ W.heap.size) (hb : Below w.heap.size w w') : MutS n0 n1 gm v l W w' :=
 ⟨h.j.later hn hb, h.tag, cell_later h.c2 hb, fun i c hc => by
  obtain ⟨g, n, k, p, m, q, k', e, h1, h2, h3, h4, h5⟩ := (h.mine i c hc).ex
  exact ⟨g, n, k, p, m, q, k', e, h1, cell_later h2 hb, cell_later h3 hb, h4.later hb, h5.later hb⟩⟩
theorem set_far {g b o p : Nat} {x y : Value} (h : w.cell? ⟨b, p, none⟩ = some y) (hne : b ≠ g) : (w.setCell ⟨g, o, none⟩ x).cell? ⟨b, p, none⟩ = some y := by
 rw [World.cell?_setCell_other w ⟨g, o, none⟩ ⟨b, p, none⟩ _ (fun e => by injection e with e1; exact hne e1.symm)]
 exact h
theorem MutS.int (h : MutS n0 n1 gm v l W w) {g : Nat} (hg : Mu W n0 n1 g) (ht : TagB W g 3) (o : Nat) (y : Int) : MutS n0 n1 gm v l W (w.setCell ⟨g, o, none⟩ (.int .i64 y)) :=
 ⟨h.j.set hg o _, h.tag, set_far h.c2 (h.tag.ne ht (by decide)), fun i c hc => by
  obtain ⟨b, n, k, p, m, q, k', e, h1, h2, h3, h4, h5⟩ := (h.mine i c hc).ex
  exact ⟨b, n, k, p, m, q, k', e, h1, set_far h2 (h1.ne ht (by decide)), set_far h3 (h1.ne ht (by decide)), h4.set g o y, h5.set g o _⟩⟩
theorem MutS.val (h : MutS n0 n1 gm v l W w) {g : Nat} (hg : Mu W n0 n1 g) (ht : TagB W g 40) (o : Nat) (y : Value) : MutS n0 n1 gm v l W (w.setCell ⟨g, o, none⟩ y) :=
 ⟨h.j.set hg o _, h.tag, set_far h.c2 (h.tag.ne ht (by decide)), fun i c hc => by
  obtain ⟨b, n, k, p, m, q, k', e, h1, h2, h3, h4, h5⟩ := (h.mine i c hc).ex
  exact ⟨b, n, k, p, m, q, k', e, h1, set_far h2 (h1.ne ht (by decide)), set_far h3 (h1.ne ht (by decide)), h4.setV ht o y, h5.set g o _⟩⟩
theorem ceO_int {w0 : World} {u1 u2 : Value} {c : CellT} (h : CeO n0 w0 u1 u2 c) (hn : w0.heap.size ≤ n1) (hb : Below w0.heap.size w0 W) : ∃ p m, u1 = .slice p c.co.length m ∧ IntM W n0 n1 W p c.co.length := by
 obtain ⟨p, m, e, h1, h2, h3⟩ := h.i
 refine ⟨p, m, e, ⟨fun j hj => ?_⟩⟩
 obtain ⟨g, o, ep, hx⟩ := h3 (by omega)
 subst e ep
 obtain ⟨hge, cs, hh⟩ := h.ti.own g rfl
 have hc := hx j _ (List.getElem?_eq_getElem hj)
 have ht : TagB w0 g 3 := ⟨cs, _, hh⟩
 have hw := hb.block g ht.lt
 rw [Nat.mul_one] at hc
 exact ⟨g, o, _, rfl, ⟨hge, Nat.lt_of_lt_of_le ht.lt hn, .inl (ht.kept hw)⟩, ht.kept hw, cell_later hc hb, (hb.frozen (p := ⟨g, o + j, none⟩) ht.lt).trans (by simp [World.frozen?, hh])⟩
theorem ceO_val {w0 : World} {u1 u2 : Value} {c : CellT} (h : CeO n0 w0 u1 u2 c) (hn : w0.heap.size ≤ n1) (hb : Below w0.heap.size w0 W) : ∃ p m, u2 = .slice p c.vals.length m ∧ ValM W n0 n1 W p c.vals.length := by
 obtain ⟨p, m, e, h1, h2, h3⟩ := h.v
 refine ⟨p, m, e, ⟨fun j hj => ?_⟩⟩
 obtain ⟨g, o, ep, hx⟩ := h3 (by omega)
 subst e ep
 obtain ⟨hge, cs, hh⟩ := h.tv.own g rfl
 obtain ⟨q0, q1, q2, q3⟩ := hx j _ (List.getElem?_eq_getElem hj)
 have ht : TagB w0 g 40 := ⟨cs, _, hh⟩
 have hw := hb.block g ht.lt
 refine ⟨g, o, rfl, ⟨hge, Nat.lt_of_lt_of_le ht.lt hn, .inr (ht.kept hw)⟩, ht.kept hw, fun t h4 => ⟨?_, (hb.frozen (p := ⟨g, _, none⟩) ht.lt).trans (by simp [World.frozen?, hh])⟩⟩
 match t, h4 with
 | 0, _ => exact ⟨_, cell_later q0 hb⟩
 | 1, _ => exact ⟨_, cell_later q1 hb⟩
 | 2, _ => exact ⟨_, cell_later q2 hb⟩
 | 3, _ => exact ⟨_, cell_later q3 hb⟩
theorem MutS.start {w0 : World} (h : CellsO n0 w0 v l) (hn : w0.heap.size ≤ n1) (hb : Below w0.heap.size w0 W) (ht : TagB W gm 29) (hc : W.cell? ⟨gm, 2, none⟩ = some v) : MutS n0 n1 gm v l W W :=
 ⟨MutJ.start _ _ _, ht, hc, fun i c hi => by
  rcases cellsO_row h with ⟨rfl, rfl⟩ | ⟨g, cap, xs, rfl, hg, -, rfl, hr, -, -, htg, hx⟩
  ·simp at hi
  ·rw [List.getElem?_map] at hi
   obtain ⟨z, hz, rfl⟩ := Option.map_eq_some_iff.1 hi
   have hce := hx z (List.mem_of_getElem? hz)
   obtain ⟨p, m, e1, k1⟩ := ceO_int (n1 := n1) (W := W) hce hn hb
   obtain ⟨q, k, e2, k2⟩ := ceO_val (n1 := n1) (W := W) hce hn hb
   obtain ⟨c0, c1⟩ := hr.cell i z hz
   exact ⟨g, _, cap, p, m, q, k, rfl, (htg.kept (hb.block _ htg.lt)), by rw [← e1]; exact cell_later c0 hb, by rw [← e2]; exact cell_later c1 hb, k1, k2⟩⟩
end
/-- what is left alone: an older array -/
theorem MutJ.arr {n0 n1 : Nat} {W w w0 : World} {v1 v2 v3 : Value} {x : ArrT} (h : MutJ n0 n1 W w) (h0 : w0.heap.size ≤ n0) (hb : Below w0.heap.size w0 W) (hx : ArrR w0 v1 v2 v3 x) : ArrR w v1 v2 v3 x :=
 have hh := hb.trans (h.below.mono h0)
 ⟨hx.dims.later DimR.lasts hh, hx.attrs.later AttrR.lasts hh, hx.cells.later CellR.lasts hh⟩
/-- what is left alone: a newer array -/
theorem MutJ.new {n0 n1 : Nat} {W w : World} {v1 v2 v3 : Value} {d : List DimT} {a : List AttrT} {l : List CellT} (h : MutJ n0 n1 W w) (h1 : Dims W v1 d) (t1 : TagV W v1 43) (h2 : Attrs W v2 a) (t2 : TagV W v2 45) (h3 : CellsN n1 W v3 l) : ArrR w v1 v2 v3 ⟨d, a, l⟩ :=
 ⟨h1.kept DimR.local (fun b hb => h.keep b (t1 b hb).lt (Mu.not (t1 b hb) (by decide) (by decide))), h2.kept AttrR.local (fun b hb => h.keep b (t2 b hb).lt (Mu.not (t2 b hb) (by decide) (by decide))), (h3.apart fun b hb hl => h.keep b hl (fun hm => by have := hm.lt; omega)).cells⟩
theorem MutJ.cell {n0 n1 : Nat} {W w : World} {g o : Nat} {x : Value} {T : TypeId} (h : MutJ n0 n1 W w) (ht : TagB W g T) (h1 : T ≠ 3) (h2 : T ≠ 40) (hc : W.cell? ⟨g, o, none⟩ = some x) : w.cell? ⟨g, o, none⟩ = some x :=
 (World.cell?_of_block (a := ⟨g, o, none⟩) (h.keep g ht.lt (Mu.not ht h1 h2))).trans hc
end Go.Proofs.YthlkcppbljpooaaGreatDoor
/- What Make returns, whatever the order of the cells is. -/
namespace Go.Proofs.YthlkcppbljpooaaGreatDoor
open Go.RowKit

theorem makeE_same {d : List DimT} {a : List AttrT} {l S T : List CellT} (h1 : SortK CellT.co S) (h2 : SortK CellT.co T) (hS : S.Perm l) (hT : T.Perm l) : makeE d a l T = makeE d a l S := by
 unfold makeE
 rw [dup_perm h2 h1 (hT.trans hS.symm)]
theorem equal_same (x : ArrT) (vd va vc ud ua uc : Value) (w : World) (hx : ArrR w vd va vc x) (hy : ArrR w ud ua uc x) :
  Calls Tryz.prog 11 #[.agg #[vd, va, vc], .agg #[ud, ua, uc]] w (RetV' (.bool true) w) := by
 have := equal_any x x vd va vc ud ua uc w hx hy
 rwa [show eqA x x = true by unfold eqA; simp] at this
/-- a result: an array in memory of its own, and an error -/
def RetMq (Q : ArrT) (E : Int) (w : World) (e : Ending) (w' : World) : Prop := ∃ v1 v2 v3, e = .returned (.tuple #[.agg #[v1, v2, v3], .int .i64 E]) ∧
 Dims w' v1 Q.dims ∧ TagV w' v1 43 ∧ Attrs w' v2 Q.attrs ∧ TagV w' v2 45 ∧ CellsN w.heap.size w' v3 Q.cells ∧ Below w.heap.size w w'
theorem RetMk.same {d : List DimT} {a : List AttrT} {l S : List CellT} {w : World} {e : Ending} {w' : World} (hs : SortK CellT.co S) (hp : S.Perm l) (h : RetMk d a l w e w') : RetMq (makeQ d a l S) (makeE d a l S) w e w' := by
 obtain ⟨T, v1, v2, v3, hT, hsT, he, h⟩ := h
 rw [makeE_same hs hsT hp hT] at he
 rw [← (makeQ_perm (List.Perm.refl l) hs hsT hp hT).2] at h
 exact ⟨v1, v2, v3, he, h⟩
theorem RetMk.turned {d : List DimT} {a : List AttrT} {l l' S : List CellT} {w : World} {e : Ending} {w' : World} (hs : SortK CellT.co S) (hp : S.Perm l) (hl : l.Perm l') (h : RetMk d a l' w e w') : ∃ E', (makeE d a l S = 0 ↔ E' = 0) ∧ RetMq (makeQ d a l S) E' w e w' := by
 obtain ⟨T, v1, v2, v3, hT, hsT, he, h⟩ := h
 obtain ⟨k1, k2⟩ := makeQ_perm (d := d) (a := a) hl hs hsT hp hT
 rw [← k2] at h
 exact ⟨_, k1, v1, v2, v3, he, h⟩
/-- an array's block -/
structure ArV (w : World) (g : Nat) (v1 v2 v3 : Value) : Prop where
 c0 : w.cell? ⟨g, 0, none⟩ = some v1
 c1 : w.cell? ⟨g, 1, none⟩ = some v2
 c2 : w.cell? ⟨g, 2, none⟩ = some v3
 tag : TagB w g 29
theorem ArV.later {w w' : World} {g : Nat} {v1 v2 v3 : Value} (h : ArV w g v1 v2 v3) (hb : Below w.heap.size w w') : ArV w' g v1 v2 v3 := ⟨cell_later h.c0 hb, cell_later h.c1 hb, cell_later h.c2 hb, h.tag.kept (hb.block _ h.tag.lt)⟩
theorem arV_at (w : World) (v1 v2 v3 : Value) : ∃ W1, W1 = w.alloc (.cells #[v1, v2, v3] 29) ∧ Below w.heap.size w W1 ∧ ArV W1 w.heap.size v1 v2 v3 := by
 refine ⟨_, rfl, below_alloc _ _, ?_, ?_, ?_, ⟨_, _, World.alloc_heap_new w _⟩⟩ <;> (rw [World.cell?_alloc_at _ _ _ _ rfl]; rfl)
theorem MutS.shape {n0 n1 gm n k i : Nat} {a : Option Addr} {l : List CellT} {c : CellT} {W w : World} (h : MutS n0 n1 gm (.slice a n k) l W w) (hi : l[i]? = some c) : ∃ g, a = some ⟨g, 0, none⟩ := by
 obtain ⟨g', n', k', p, m, q, k'', e, -⟩ := (h.mine i c hi).ex
 injection e with e
 exact ⟨g', e⟩
end Go.Proofs.YthlkcppbljpooaaGreatDoor
