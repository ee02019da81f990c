/- Lemmas and contracts, each under its own condition: Copies of lists of dimensions, attributes and values: append([]T{}, l...). Where a cell lies among others: the reference's place, slices.BinarySearchFunc of space.Get: contracts. space.Get and the reference's: contracts. Copies: slices.Clone of dimensions, attributes, values, integers. -/
import Derived.Deep.AppendLies
import Derived.IntWalk
import Derived.BigQuiet
import Derived.Lib.SliceRun
import Derived.Lib.AppendZeros
import Derived.Test.YtkliekoheeeamaaGreatDoorS17
import Derived.Test.YtkliekoheeeamaaGreatDoorS19
import Derived.Test.YtkliekoheeeamaaGreatDoorS5
import Derived.Test.YtkliekoheeeamaaGreatDoorS9
/- Copies of lists of dimensions, attributes and values: append([]T{}, l...). -/
namespace Go.Proofs.YtkliekoheeeamaaGreatDoor
open Go.RowKit

/-- readings that are lists of k cells -/
structure Cellw {α : Type} (k : Nat) (f : α → List Value) (Rd : World → Nat → Nat → α → Prop) : Prop where
 pos : 0 < k
 len : ∀ x, (f x).length = k
 one : ∀ x, ∀ u ∈ f x, u.oneCell' = true
 rd : ∀ w g o x, Rd w g o x → ∀ t u, (f x)[t]? = some u → w.cell? ⟨g, o + t, none⟩ = some u
 mkR : ∀ w g o x, (∀ t u, (f x)[t]? = some u → w.cell? ⟨g, o + t, none⟩ = some u) → Rd w g o x
theorem flat_len {α : Type} {k : Nat} {f : α → List Value} (h : ∀ x, (f x).length = k) (l : List α) : (l.flatMap f).length = l.length * k := by
 induction l with
 | nil => simp
 | cons x l ih => rw [List.flatMap_cons, List.length_append, ih, h, List.length_cons, Nat.add_mul]; omega
theorem flat_get {α : Type} {k : Nat} {f : α → List Value} (h : ∀ x, (f x).length = k) : ∀ (l : List α) (j : Nat) (u : Value), (l.flatMap f)[j]? = some u → ∃ i x t, l[i]? = some x ∧ (f x)[t]? = some u ∧ j = i * k + t
 | [], j, u, hj => by simp at hj
 | x :: l, j, u, hj => by
  rw [List.flatMap_cons] at hj
  by_cases hlt : j < k
  ·rw [List.getElem?_append_left (by rw [h]; exact hlt)] at hj
   exact ⟨0, x, j, rfl, hj, by omega⟩
  ·rw [List.getElem?_append_right (by rw [h]; omega), h] at hj
   obtain ⟨i, y, t, h1, h2, h3⟩ := flat_get h l (j - k) u hj
   exact ⟨i + 1, y, t, by simpa using h1, h2, by rw [Nat.add_mul]; omega⟩
theorem flat_at {α : Type} {k : Nat} {f : α → List Value} (h : ∀ x, (f x).length = k) : ∀ (l : List α) (i : Nat) (x : α) (t : Nat) (u : Value), l[i]? = some x → (f x)[t]? = some u → (l.flatMap f)[i * k + t]? = some u
 | [], i, x, t, u, h1, _ => by simp at h1
 | y :: l, 0, x, t, u, h1, h2 => by
  simp at h1
  subst h1
  have ht : t < k := by rw [← h y]; exact (List.getElem?_eq_some_iff.1 h2).1
  rw [List.flatMap_cons, Nat.zero_mul, Nat.zero_add, List.getElem?_append_left (by rw [h]; exact ht)]
  exact h2
 | y :: l, i + 1, x, t, u, h1, h2 => by
  rw [List.flatMap_cons, List.getElem?_append_right (by rw [h, Nat.add_mul]; omega), h, show (i + 1) * k + t - k = i * k + t from by rw [Nat.add_mul]; omega]
  exact flat_at h l i x t u (by simpa using h1) h2
/-- a list that lies, as cells -/
theorem Ls.cells {α : Type} {k : Nat} {f : α → List Value} {Rd : World → Nat → Nat → α → Prop} (hc : Cellw k f Rd) {w : World} {g o n cap : Nat} {l : List α} (h : Ls k Rd w (.slice (some ⟨g, o, none⟩) n cap) l) :
  ∀ j u, (l.flatMap f)[j]? = some u → w.cell? ((⟨g, o, none⟩ : Addr).add j) = some u := by
 intro j u hj
 obtain ⟨i, x, t, h1, h2, rfl⟩ := flat_get hc.len l j u hj
 obtain ⟨g', o', y, e, hy, hr⟩ := h.at i (List.getElem?_eq_some_iff.1 h1).1
 rw [h1] at hy
 cases hy
 cases e
 have := hc.rd _ _ _ _ hr t u h2
 rw [show (⟨g, o, none⟩ : Addr).add (i * k + t) = ⟨g, o + (i * k + t), none⟩ from by unfold Addr.add; split <;> simp_all, ← Nat.add_assoc]
 exact this
/-- a row that is owned, as a list -/
theorem Ls.owned {α : Type} {k : Nat} {f : α → List Value} {Rd : World → Nat → Nat → α → Prop} (hc : Cellw k f Rd) {w : World} {base b n cap : Nat} {e : TypeId} {l : List α} (h : w.ownsRow base e k (.slice (some ⟨b, 0, none⟩) n cap) n (l.flatMap f)) (hn : l.length = n) :
  Ls k Rd w (.slice (some ⟨b, 0, none⟩) n cap) l := by
 obtain ⟨-, h | ⟨g, c, cur, hv, hb, hh, hnc, hcm, hs, ht⟩⟩ := h
 ·cases h.1
 ·injection hv with e1 e2 e3
  injection e1 with e4
  injection e4 with e5
  subst e3 e5 hn
  unfold maxLen at hcm
  refine ⟨_, cap, rfl, hnc, hcm, fun _ => ⟨b, 0, rfl, fun i x hx => hc.mkR _ _ _ _ fun t u hu => ?_⟩⟩
  have hf := flat_at hc.len l i x t u hx hu
  have hj : i * k + t < l.length * k := by rw [← flat_len hc.len]; exact (List.getElem?_eq_some_iff.1 hf).1
  rw [← ht, List.getElem?_take_of_lt hj] at hf
  rw [Nat.zero_add, cell_of_row w b (i * k + t) cur e (0, 0) hh]
  simpa using hf
/-- a copy -/
theorem run_copy {α : Type} {k : Nat} {f : α → List Value} {Rd : World → Nat → Nat → α → Prop} (hc : Cellw k f Rd) (hR : Lasts Rd) {T E : TypeId} (ht : Tryz.prog.underlying T = some (.slice E)) {z : Value} {bytes : Nat}
  (hinfo : (Tryz.prog.info? E).map (fun i => (i.zero, i.size, i.bytes)) = some (some z, k, bytes)) (hz : z.cells.size = k) (ty : TypeId) (w : World) (v : Value) (l : List α) (h : Ls k Rd w v l) (hl : 0 < l.length) (hb : l.length * bytes ≤ 140737488355328) (hl9 : l.length ≤ 1000000) :
  ∃ g cap w', (Builtin.append_ #[T, T] ty #[.slice (some ⟨w.heap.size, 0, none⟩) 0 0, v]).run Tryz.prog (w.alloc (.cells #[] E)) = .ok (.slice (some ⟨g, 0, none⟩) l.length cap) w' ∧ Ls k Rd w' (.slice (some ⟨g, 0, none⟩) l.length cap) l ∧ TagB w' g E ∧ Below w.heap.size w w' := by
 obtain ⟨i0, hi0, hz0, hz1, hz2⟩ := info_parts hinfo
 obtain ⟨a, cap, rfl, hlc, hcm, hx⟩ := id h
 obtain ⟨g, o, rfl, -⟩ := hx hl
 have hba : Below w.heap.size w (w.alloc (.cells #[] E)) := below_alloc _ _
 obtain ⟨g1, cp1, w', hrun, hown, hgr, hat, hlt⟩ := run_append_lies (P := Tryz.prog) (w.alloc (.cells #[] E)) T ty w.heap.size E i0 z k bytes ht hi0 hz0 hz1 hz2 hz hc.pos (.slice (some ⟨w.heap.size, 0, none⟩) 0 0) 0 [] (World.ownsRow_made w #[] 0 (Nat.le_refl _) (by decide) (by simp)) ⟨g, o, none⟩ l.length cap (l.flatMap f) (flat_len hc.len l) ((h.later hR hba).cells hc) (fun u hu => by
  obtain ⟨x, -, hx⟩ := List.mem_flatMap.1 hu
  exact hc.one x u hx) hl (by unfold maxLen; omega) (by simpa using hb) (by simp) _ rfl
 rw [Nat.zero_add] at hrun hown
 rw [List.nil_append] at hown
 refine ⟨g1, cp1, w', hrun, Ls.owned hc hown rfl, ownsRow_tag hown g1 rfl, hba.grown hgr (by simp) (fun j hj => ?_)⟩
 simp only [Value.ownBlock, Option.some.injEq] at hj
 omega
end Go.Proofs.YtkliekoheeeamaaGreatDoor
/- Where a cell lies among others: the reference's place, slices.BinarySearchFunc of space.Get: contracts. -/
namespace Go.Proofs.YtkliekoheeeamaaGreatDoor
open Go.RowKit

end Go.Proofs.YtkliekoheeeamaaGreatDoor
/- space.Get and the reference's: contracts. -/
namespace Go.Proofs.YtkliekoheeeamaaGreatDoor
open Go.RowKit

def vcells (x : Va) : List Value := [.int .i64 x.kind, .int .i64 x.num, .int .i64 x.den, .string ⟨x.str.toArray⟩]
theorem cellw_val : Cellw 4 vcells ValR where
 pos := by decide
 len _ := rfl
 one x u hu := by
  simp only [vcells, List.mem_cons, List.not_mem_nil, or_false] at hu
  rcases hu with rfl | rfl | rfl | rfl <;> rfl
 rd w g o x h t u hu := by
  match t, hu with
  | 0, hu => cases hu; exact h.kind
  | 1, hu => cases hu; exact h.num
  | 2, hu => cases hu; exact h.den
  | 3, hu => cases hu; exact h.str
  | n + 4, hu => simp [vcells] at hu
 mkR w g o x h := ⟨h 0 _ rfl, h 1 _ rfl, h 2 _ rfl, h 3 _ rfl⟩
theorem infoVal : (Tryz.prog.info? 109).map (fun i => (i.zero, i.size, i.bytes)) = some (some (.agg #[.int .i64 0, .int .i64 0, .int .i64 0, .string ⟨#[]⟩]), 4, 40) := by kernel_rfl
theorem copy_vals (ty : TypeId) (w : World) (v : Value) (l : List Va) (h : Vals w v l) (hl : 0 < l.length) (hl9 : l.length ≤ 1000000) :
  ∃ g cap w', (Builtin.append_ #[60, 60] ty #[.slice (some ⟨w.heap.size, 0, none⟩) 0 0, v]).run Tryz.prog (w.alloc (.cells #[] 109)) = .ok (.slice (some ⟨g, 0, none⟩) l.length cap) w' ∧ Vals w' (.slice (some ⟨g, 0, none⟩) l.length cap) l ∧ TagB w' g 109 ∧ Below w.heap.size w w' :=
 run_copy cellw_val ValR.lasts Tryz.underlying60 infoVal rfl ty w v l h hl (by omega) hl9
end Go.Proofs.YtkliekoheeeamaaGreatDoor
/- Copies: slices.Clone of dimensions, attributes, values, integers. -/
namespace Go.Proofs.YtkliekoheeeamaaGreatDoor
open Go.RowKit

def RetCpT {α : Type} (k : Nat) (Rd : World → Nat → Nat → α → Prop) (T : TypeId) (l : List α) (w : World) (e : Ending) (w' : World) : Prop := ∃ v, e = .returned v ∧ Ls k Rd w' v l ∧ TagV w' v T ∧ Below w.heap.size w w'
theorem tag_made (w : World) (T : TypeId) : TagV (w.alloc (.cells #[] T)) (.slice (some ⟨w.heap.size, 0, none⟩) 0 0) T := fun b hb => by
 simp only [Value.ownBlock, Option.some.injEq] at hb
 subst hb
 exact ⟨_, (0, 0), World.alloc_heap_new w _⟩
theorem tagV_of {w : World} {g n cap : Nat} {T : TypeId} (h : TagB w g T) : TagV w (.slice (some ⟨g, 0, none⟩) n cap) T := fun b hb => by
 simp only [Value.ownBlock, Option.some.injEq] at hb
 subst hb
 exact h
def cellsDim (x : DimT) : List Value := [.string ⟨x.name.toArray⟩, .int .i64 x.lo, .int .i64 x.hi]
theorem cellw_Dim : Cellw 3 cellsDim DimR where
 pos := by decide
 len _ := rfl
 one x u hu := by
  simp only [cellsDim, List.mem_cons, List.not_mem_nil, or_false] at hu
  rcases hu with rfl | rfl | rfl <;> rfl
 rd w g o x h t u hu := by
  match t, hu with
  | 0, hu => cases hu; exact h.name
  | 1, hu => cases hu; exact h.lo
  | 2, hu => cases hu; exact h.hi
  | n + 3, hu => simp [cellsDim] at hu
 mkR w g o x h := ⟨h 0 _ rfl, h 1 _ rfl, h 2 _ rfl⟩
theorem infoDimC : (Tryz.prog.info? 102).map (fun i => (i.zero, i.size, i.bytes)) = some (some (.agg #[.string ⟨#[]⟩, .int .i64 0, .int .i64 0]), 3, 32) := by kernel_rfl
theorem copy_Dim (ty : TypeId) (w : World) (v : Value) (l : List DimT) (h : Dims w v l) (hl : 0 < l.length) (hl9 : l.length ≤ 1000000) :
  ∃ g cap w', (Builtin.append_ #[48, 48] ty #[.slice (some ⟨w.heap.size, 0, none⟩) 0 0, v]).run Tryz.prog (w.alloc (.cells #[] 102)) = .ok (.slice (some ⟨g, 0, none⟩) l.length cap) w' ∧ Dims w' (.slice (some ⟨g, 0, none⟩) l.length cap) l ∧ TagB w' g 102 ∧ Below w.heap.size w w' :=
 run_copy cellw_Dim DimR.lasts Tryz.underlying48 infoDimC rfl ty w v l h hl (by omega) hl9
set_option maxRecDepth 100000 in
theorem cloneDim_any (l : List DimT) (v : Value) (w : World) (h : Dims w v l) (hl9 : l.length ≤ 1000000) :
  Calls Tryz.prog 90 #[v] w (RetCpT 3 DimR 102 l w) := by
 obtain ⟨a, cap, rfl, k1, k2⟩ := h.shape
 have q22 : ∀ (w : World) (a : Option Addr) (n c n' c' : Nat), (binOp .eql 48 (.slice a n c) (.slice none n' c')).run Tryz.prog w = .ok (.bool a.isNone) w := fun w a n c n' c' => Lib.run_eql_slice_nil w _ 102 a n c n' c' Tryz.underlying48
 cases a with
 | none =>
  have hl0 : l = [] := by
   rcases Nat.eq_zero_or_pos l.length with h0 | h0
   ·exact List.length_eq_zero_iff.1 h0
   ·obtain ⟨g, o, x, e, -⟩ := h.at 0 h0
    cases e
  subst hl0
  clear h hl9 k1
  go_enter Tryz.func90, Tryz.ntmps90
  go_wp2
  go_ret
  exact ⟨_, rfl, Ls.nil _ _ _ (by omega), TagV.nil _ _ _ _, Below.refl _ _⟩
 | some ad =>
  by_cases h0 : l.length = 0
  ·obtain rfl : l = [] := List.length_eq_zero_iff.1 h0
   have HT := Lib.hid (tag_made w 102)
   clear h hl9 k1 h0
   go_enter Tryz.func90, Tryz.ntmps90
   go_wp2
   go_ret
   exact ⟨_, rfl, Ls.nil _ _ _ (by omega), HT.out, below_alloc _ _⟩
  ·obtain ⟨g, cp, w', hrun, hv, ht, hb⟩ := copy_Dim 48 w _ l h (by omega) hl9
   have HV := Lib.hid hv
   have HB := Lib.hid hb
   have HT := Lib.hid (tagV_of (n := l.length) (cap := cp) ht)
   have HRUN := Lib.hid hrun
   clear h hl9 hv hb hrun ht
   go_enter Tryz.func90, Tryz.ntmps90
   go_wp2_with (at_builtin; refine Lib.wpList_append_run _ rfl _ _ _ _ rfl _ _ rfl rfl _ _ HRUN.out ?_)
   go_wp2
   go_ret
   exact ⟨_, rfl, HV.out, HT.out, HB.out⟩
def cellsAttr (x : AttrT) : List Value := [.string ⟨x.name.toArray⟩, .int .i64 x.ty]
theorem cellw_Attr : Cellw 2 cellsAttr AttrR where
 pos := by decide
 len _ := rfl
 one x u hu := by
  simp only [cellsAttr, List.mem_cons, List.not_mem_nil, or_false] at hu
  rcases hu with rfl | rfl <;> rfl
 rd w g o x h t u hu := by
  match t, hu with
  | 0, hu => cases hu; exact h.name
  | 1, hu => cases hu; exact h.ty
  | n + 2, hu => simp [cellsAttr] at hu
 mkR w g o x h := ⟨h 0 _ rfl, h 1 _ rfl⟩
theorem infoAttrC : (Tryz.prog.info? 105).map (fun i => (i.zero, i.size, i.bytes)) = some (some (.agg #[.string ⟨#[]⟩, .int .i64 0]), 2, 24) := by kernel_rfl
theorem copy_Attr (ty : TypeId) (w : World) (v : Value) (l : List AttrT) (h : Attrs w v l) (hl : 0 < l.length) (hl9 : l.length ≤ 1000000) :
  ∃ g cap w', (Builtin.append_ #[49, 49] ty #[.slice (some ⟨w.heap.size, 0, none⟩) 0 0, v]).run Tryz.prog (w.alloc (.cells #[] 105)) = .ok (.slice (some ⟨g, 0, none⟩) l.length cap) w' ∧ Attrs w' (.slice (some ⟨g, 0, none⟩) l.length cap) l ∧ TagB w' g 105 ∧ Below w.heap.size w w' :=
 run_copy cellw_Attr AttrR.lasts Tryz.underlying49 infoAttrC rfl ty w v l h hl (by omega) hl9
set_option maxRecDepth 100000 in
theorem cloneAttr_any (l : List AttrT) (v : Value) (w : World) (h : Attrs w v l) (hl9 : l.length ≤ 1000000) :
  Calls Tryz.prog 91 #[v] w (RetCpT 2 AttrR 105 l w) := by
 obtain ⟨a, cap, rfl, k1, k2⟩ := h.shape
 have q22 : ∀ (w : World) (a : Option Addr) (n c n' c' : Nat), (binOp .eql 49 (.slice a n c) (.slice none n' c')).run Tryz.prog w = .ok (.bool a.isNone) w := fun w a n c n' c' => Lib.run_eql_slice_nil w _ 105 a n c n' c' Tryz.underlying49
 cases a with
 | none =>
  have hl0 : l = [] := by
   rcases Nat.eq_zero_or_pos l.length with h0 | h0
   ·exact List.length_eq_zero_iff.1 h0
   ·obtain ⟨g, o, x, e, -⟩ := h.at 0 h0
    cases e
  subst hl0
  clear h hl9 k1
  go_enter Tryz.func91, Tryz.ntmps91
  go_wp2
  go_ret
  exact ⟨_, rfl, Ls.nil _ _ _ (by omega), TagV.nil _ _ _ _, Below.refl _ _⟩
 | some ad =>
  by_cases h0 : l.length = 0
  ·obtain rfl : l = [] := List.length_eq_zero_iff.1 h0
   have HT := Lib.hid (tag_made w 105)
   clear h hl9 k1 h0
   go_enter Tryz.func91, Tryz.ntmps91
   go_wp2
   go_ret
   exact ⟨_, rfl, Ls.nil _ _ _ (by omega), HT.out, below_alloc _ _⟩
  ·obtain ⟨g, cp, w', hrun, hv, ht, hb⟩ := copy_Attr 49 w _ l h (by omega) hl9
   have HV := Lib.hid hv
   have HB := Lib.hid hb
   have HT := Lib.hid (tagV_of (n := l.length) (cap := cp) ht)
   have HRUN := Lib.hid hrun
   clear h hl9 hv hb hrun ht
   go_enter Tryz.func91, Tryz.ntmps91
   go_wp2_with (at_builtin; refine Lib.wpList_append_run _ rfl _ _ _ _ rfl _ _ rfl rfl _ _ HRUN.out ?_)
   go_wp2
   go_ret
   exact ⟨_, rfl, HV.out, HT.out, HB.out⟩
def cellsInt (x : Int) : List Value := [.int .i64 x]
theorem cellw_Int : Cellw 1 cellsInt IntR where
 pos := by decide
 len _ := rfl
 one x u hu := by
  simp only [cellsInt, List.mem_cons, List.not_mem_nil, or_false] at hu
  rw [hu]; rfl
 rd w g o x h t u hu := by
  match t, hu with
  | 0, hu => cases hu; exact h
  | n + 1, hu => simp [cellsInt] at hu
 mkR w g o x h := h 0 _ rfl
theorem infoIntC : (Tryz.prog.info? 3).map (fun i => (i.zero, i.size, i.bytes)) = some (some (.int .i64 0), 1, 8) := by kernel_rfl
theorem copy_Int (ty : TypeId) (w : World) (v : Value) (l : List Int) (h : Ints w v l) (hl : 0 < l.length) (hl9 : l.length ≤ 1000000) :
  ∃ g cap w', (Builtin.append_ #[24, 24] ty #[.slice (some ⟨w.heap.size, 0, none⟩) 0 0, v]).run Tryz.prog (w.alloc (.cells #[] 3)) = .ok (.slice (some ⟨g, 0, none⟩) l.length cap) w' ∧ Ints w' (.slice (some ⟨g, 0, none⟩) l.length cap) l ∧ TagB w' g 3 ∧ Below w.heap.size w w' :=
 run_copy cellw_Int IntR.lasts Tryz.underlying24 infoIntC rfl ty w v l h hl (by omega) hl9
set_option maxRecDepth 100000 in
theorem cloneInt_any (l : List Int) (v : Value) (w : World) (h : Ints w v l) (hl9 : l.length ≤ 1000000) :
  Calls Tryz.prog 54 #[v] w (RetCpT 1 IntR 3 l w) := by
 obtain ⟨a, cap, rfl, k1, k2⟩ := h.shape
 have q22 : ∀ (w : World) (a : Option Addr) (n c n' c' : Nat), (binOp .eql 24 (.slice a n c) (.slice none n' c')).run Tryz.prog w = .ok (.bool a.isNone) w := fun w a n c n' c' => Lib.run_eql_slice_nil w _ 3 a n c n' c' Tryz.underlying24
 cases a with
 | none =>
  have hl0 : l = [] := by
   rcases Nat.eq_zero_or_pos l.length with h0 | h0
   ·exact List.length_eq_zero_iff.1 h0
   ·obtain ⟨g, o, x, e, -⟩ := h.at 0 h0
    cases e
  subst hl0
  clear h hl9 k1
  go_enter Tryz.func54, Tryz.ntmps54
  go_wp2
  go_ret
  exact ⟨_, rfl, Ls.nil _ _ _ (by omega), TagV.nil _ _ _ _, Below.refl _ _⟩
 | some ad =>
  by_cases h0 : l.length = 0
  ·obtain rfl : l = [] := List.length_eq_zero_iff.1 h0
   have HT := Lib.hid (tag_made w 3)
   clear h hl9 k1 h0
   go_enter Tryz.func54, Tryz.ntmps54
   go_wp2
   go_ret
   exact ⟨_, rfl, Ls.nil _ _ _ (by omega), HT.out, below_alloc _ _⟩
  ·obtain ⟨g, cp, w', hrun, hv, ht, hb⟩ := copy_Int 24 w _ l h (by omega) hl9
   have HV := Lib.hid hv
   have HB := Lib.hid hb
   have HT := Lib.hid (tagV_of (n := l.length) (cap := cp) ht)
   have HRUN := Lib.hid hrun
   clear h hl9 hv hb hrun ht
   go_enter Tryz.func54, Tryz.ntmps54
   go_wp2_with (at_builtin; refine Lib.wpList_append_run _ rfl _ _ _ _ rfl _ _ rfl rfl _ _ HRUN.out ?_)
   go_wp2
   go_ret
   exact ⟨_, rfl, HV.out, HT.out, HB.out⟩
set_option maxRecDepth 100000 in
theorem cloneVal_any (l : List Va) (v : Value) (w : World) (h : Vals w v l) (hl9 : l.length ≤ 1000000) :
  Calls Tryz.prog 107 #[v] w (RetCpT 4 ValR 109 l w) := by
 obtain ⟨a, cap, rfl, k1, k2⟩ := h.shape
 have q22 : ∀ (w : World) (a : Option Addr) (n c n' c' : Nat), (binOp .eql 60 (.slice a n c) (.slice none n' c')).run Tryz.prog w = .ok (.bool a.isNone) w := fun w a n c n' c' => Lib.run_eql_slice_nil w _ 109 a n c n' c' Tryz.underlying60
 cases a with
 | none =>
  have hl0 : l = [] := by
   rcases Nat.eq_zero_or_pos l.length with h0 | h0
   ·exact List.length_eq_zero_iff.1 h0
   ·obtain ⟨g, o, x, e, -⟩ := h.at 0 h0
    cases e
  subst hl0
  clear h hl9 k1
  go_enter Tryz.func107, Tryz.ntmps107
  go_wp2
  go_ret
  exact ⟨_, rfl, Ls.nil _ _ _ (by omega), TagV.nil _ _ _ _, Below.refl _ _⟩
 | some ad =>
  by_cases h0 : l.length = 0
  ·obtain rfl : l = [] := List.length_eq_zero_iff.1 h0
   have HT := Lib.hid (tag_made w 109)
   clear h hl9 k1 h0
   go_enter Tryz.func107, Tryz.ntmps107
   go_wp2
   go_ret
   exact ⟨_, rfl, Ls.nil _ _ _ (by omega), HT.out, below_alloc _ _⟩
  ·obtain ⟨g, cp, w', hrun, hv, ht, hb⟩ := copy_vals 60 w _ l h (by omega) hl9
   have HV := Lib.hid hv
   have HB := Lib.hid hb
   have HT := Lib.hid (tagV_of (n := l.length) (cap := cp) ht)
   have HRUN := Lib.hid hrun
   clear h hl9 hv hb hrun ht
   go_enter Tryz.func107, Tryz.ntmps107
   go_wp2_with (at_builtin; refine Lib.wpList_append_run _ rfl _ _ _ _ rfl _ _ rfl rfl _ _ HRUN.out ?_)
   go_wp2
   go_ret
   exact ⟨_, rfl, HV.out, HT.out, HB.out⟩
end Go.Proofs.YtkliekoheeeamaaGreatDoor
