/- Lemmas and contracts, each under its own condition: The line of SpaceMany in plain words, and a cell of it in memory. The walk of SpaceMany. -/
import Derived.BigQuiet
import Derived.IntWalk
import Derived.Deep.DeepCutAuto
import Derived.Deep.CutBlock
import Derived.Test.YthlkcppbljpooaaGreatDoorS15
import Derived.Test.YthlkcppbljpooaaGreatDoorS34
import Derived.Test.YthlkcppbljpooaaGreatDoorS35
import Derived.Test.YthlkcppbljpooaaGreatDoorS36
import Derived.Test.YthlkcppbljpooaaGreatDoorS60
import Derived.Test.YthlkcppbljpooaaGreatDoorS63
import Derived.Test.YthlkcppbljpooaaGreatDoorS65
/- The line of SpaceMany in plain words, and a cell of it in memory. -/
namespace Go.Proofs.YthlkcppbljpooaaGreatDoor
open Go.RowKit

def manyD : List DimT := [⟨[120], 0, 1073741825⟩]
def manyA : List AttrT := [⟨[118], 1⟩]
def manyC (i : Nat) : CellT := ⟨[(i : Int)], [⟨1, 0, 0, []⟩]⟩
def manyL (n : Nat) : List CellT := (List.range n).map manyC
theorem many_schema : schemaE manyD manyA = 0 := by kernel_rfl
theorem many_cell (i : Nat) (h : i ≤ 5000) : cellE manyD manyA (manyC i) = 0 := by
 have h1 : ofL manyD [(i : Int)] = true := by
  unfold manyD
  rw [ofL, if_neg]
  ·rfl
  ·show ¬ ((i : Int) < 0 ∨ DimT.last ⟨[120], 0, 1073741825⟩ < (i : Int))
   have : DimT.last ⟨[120], 0, 1073741825⟩ = 1073741824 := by kernel_rfl
   omega
 have h2 : fitsL manyA [⟨1, 0, 0, []⟩] = true := by kernel_rfl
 unfold cellE
 rw [if_neg (by simp [manyC, manyD, manyA]), if_neg (by show ¬ ofL manyD [(i : Int)] = false; simp [h1]), if_neg (by show ¬ fitsL manyA [⟨1, 0, 0, []⟩] = false; simp [h2])]
theorem many_len (n : Nat) : (manyL n).length = n := by simp [manyL]
theorem many_succ (n : Nat) : manyL (n + 1) = manyL n ++ [manyC n] := by simp [manyL, List.range_succ]
theorem many_mem {n : Nat} {c : CellT} (h : c ∈ manyL n) : ∃ i, i < n ∧ c = manyC i := by
 obtain ⟨i, hi, rfl⟩ := List.mem_map.1 h
 exact ⟨i, List.mem_range.1 hi, rfl⟩
theorem many_cmp {i j : Nat} (h : i < j) : cmpI (manyC i).co (manyC j).co = -1 := by
 show cmpI [(i : Int)] [(j : Int)] = -1
 rw [cmpI, if_pos (by omega)]
theorem many_sorted (n : Nat) : SortK CellT.co (manyL n) := by
 unfold manyL
 refine List.pairwise_map.2 ((List.pairwise_lt_range (n := n)).imp fun {a b} h => ?_)
 unfold leK
 rw [cmpI_swap, many_cmp h]
 decide
theorem many_dup (n : Nat) : dupC (manyL n) = false := by
 refine (dup_iff (many_sorted n)).2 ?_
 unfold manyL
 rw [List.map_map]
 refine List.pairwise_map.2 ((List.pairwise_lt_range (n := n)).imp fun {a b} h e => ?_)
 have h2 : (manyC a).co = (manyC b).co := e
 have h3 := many_cmp h
 rw [h2, cmpI_self] at h3
 cases h3
theorem many_first {n : Nat} (h : n ≤ 5000) : firstE manyD manyA (manyL n) = 0 := firstE_zero.2 fun c hc => by
 obtain ⟨i, hi, rfl⟩ := many_mem hc
 exact many_cell i (by omega)
theorem many_cells (m : Nat) : ∀ (i : Nat), i + m ≤ 5000 → cellsL manyD manyA (some (manyC i)) ((List.range' (i + 1) m).map manyC) = 0 := by
 induction m with
 | zero => intro i h; rfl
 | succ m ih =>
  intro i h
  rw [List.range'_succ, List.map_cons, cellsL, if_neg (by rw [many_cell (i + 1) (by omega)]; decide), many_cmp (Nat.lt_succ_self i), if_neg (by decide), if_neg (by decide)]
  exact ih (i + 1) (by omega)
theorem many_check {n : Nat} (h : n ≤ 5000) : checkE ⟨manyD, manyA, manyL n⟩ = if 4096 < n then 9 else 0 := by
 unfold checkE
 rw [if_neg (by rw [many_schema]; decide)]
 show (if 4096 < (manyL n).length then (9 : Int) else cellsL manyD manyA none (manyL n)) = _
 rw [many_len]
 by_cases h1 : 4096 < n
 ·rw [if_pos h1, if_pos h1]
 ·rw [if_neg h1, if_neg h1]
  unfold manyL
  rw [List.range_eq_range']
  cases n with
  | zero => rfl
  | succ m =>
   rw [List.range'_succ, List.map_cons, cellsL, if_neg (by rw [many_cell 0 (by omega)]; decide)]
   exact many_cells m 0 (by omega)
theorem many_makeE {n : Nat} (h : n ≤ 5000) : makeE manyD manyA (manyL n) (manyL n) = if 4096 < n then 9 else 0 := by
 by_cases h1 : 4096 < n
 ·rw [if_pos h1]
  exact makeE_many many_schema (by rw [many_len]; exact h1)
 ·rw [if_neg h1]
  exact makeE_ok many_schema (by rw [many_len]; omega) (many_first h) (many_dup n)
theorem many_db {n : Nat} (h : n ≤ 5000) (h1 : 4096 < n) : dbE [⟨[97], ⟨manyD, manyA, manyL n⟩⟩] = 2 := by
 unfold dbE
 rw [if_neg (by simp), dbL, if_neg (by simp; kernel_rfl), if_pos (by rw [many_check h, if_pos h1]; decide)]
theorem many_short (n : Nat) : ShortC (manyL n) := fun c hc => by
 obtain ⟨i, hi, rfl⟩ := many_mem hc
 exact ⟨by simp [manyC], by simp [manyC]⟩
theorem many_strD : StrD manyD := fun x hx => by
 simp only [manyD, List.mem_singleton] at hx
 subst hx
 simp
theorem many_strA : StrA manyA := fun x hx => by
 simp only [manyA, List.mem_singleton] at hx
 subst hx
 simp
/-- a cell in memory, just made -/
theorem many_new (n : Nat) (w : World) (hn : n ≤ w.heap.size) (i : Nat) : CeO n ((w.alloc (.cells #[.int .i64 (i : Nat)] 3)).alloc (.cells #[.int .i64 1, .int .i64 0, .int .i64 0, .string ⟨#[]⟩] 40)) (.slice (some ⟨w.heap.size, 0, none⟩) 1 1) (.slice (some ⟨w.heap.size + 1, 0, none⟩) 1 1) (manyC i) := by
 obtain ⟨w1, hw1⟩ : ∃ w1, w1 = w.alloc (.cells #[.int .i64 (i : Nat)] 3) := ⟨_, rfl⟩
 have hs : w1.heap.size = w.heap.size + 1 := by rw [hw1]; simp
 have h0 : w1.heap[w.heap.size]? = some (.cells #[.int .i64 (i : Nat)] 3 (0, 0)) := by rw [hw1]; exact World.alloc_heap_new _ _
 rw [← hw1, ← hs]
 have hb : Below w1.heap.size w1 (w1.alloc (.cells #[.int .i64 1, .int .i64 0, .int .i64 0, .string ⟨#[]⟩] 40)) := below_alloc _ _
 have h1 := World.alloc_heap_new w1 (.cells #[.int .i64 1, .int .i64 0, .int .i64 0, .string ⟨#[]⟩] 40)
 have h0' := (hb.block w.heap.size (by omega)).trans h0
 refine ⟨⟨_, 1, rfl, Nat.le_refl _, by decide, fun _ => ⟨_, 0, rfl, fun j x hj => ?_⟩⟩, ⟨fun b e => ?_⟩, ⟨_, 1, rfl, Nat.le_refl _, by decide, fun _ => ⟨_, 0, rfl, fun j x hj => ?_⟩⟩, ⟨fun b e => ?_⟩⟩
 ·match j, hj with
  | 0, hj =>
   simp only [manyC, List.getElem?_cons_zero, Option.some.injEq] at hj
   subst hj
   exact (Lib.cell_of_heap h0' _).trans rfl
  | j + 1, hj => simp [manyC] at hj
 ·cases e
  exact ⟨hn, _, h0'⟩
 ·match j, hj with
  | 0, hj =>
   simp only [manyC, List.getElem?_cons_zero, Option.some.injEq] at hj
   subst hj
   exact ⟨(Lib.cell_of_heap h1 _).trans rfl, (Lib.cell_of_heap h1 _).trans rfl, (Lib.cell_of_heap h1 _).trans rfl, (Lib.cell_of_heap h1 _).trans rfl⟩
  | j + 1, hj => simp [manyC] at hj
 ·cases e
  exact ⟨Nat.le_trans hn (by rw [hs]; exact Nat.le_succ _), _, h1⟩
end Go.Proofs.YthlkcppbljpooaaGreatDoor
/- The walk of SpaceMany. -/
namespace Go.Proofs.YthlkcppbljpooaaGreatDoor
open Go.RowKit

theorem many_start (w : World) : ∃ W, W = ((w.alloc (.cells #[.string ⟨#[120]⟩, .int .i64 0, .int .i64 1073741825] 43)).alloc (.cells #[.string ⟨#[118]⟩, .int .i64 1] 45)).alloc (.cells #[.slice (some ⟨w.heap.size, 0, none⟩) 1 1, .slice (some ⟨w.heap.size + 1, 0, none⟩) 1 1, .slice none 0 0] 29) ∧ Below w.heap.size w W ∧
  OutB (w.heap.size + 1 + 1) (w.heap.size + 1 + 1) W (.slice (some ⟨w.heap.size, 0, none⟩) 1 1) (.slice (some ⟨w.heap.size + 1, 0, none⟩) 1 1) (.slice none 0 0) (.slice none 0 0) manyD manyA [] := by
 obtain ⟨w1, hw1⟩ : ∃ w1, w1 = w.alloc (.cells #[.string ⟨#[120]⟩, .int .i64 0, .int .i64 1073741825] 43) := ⟨_, rfl⟩
 have hs1 : w1.heap.size = w.heap.size + 1 := by rw [hw1]; simp
 have hb1 : Below w.heap.size w w1 := by rw [hw1]; exact below_alloc _ _
 have h1 : w1.heap[w.heap.size]? = some (.cells #[.string ⟨#[120]⟩, .int .i64 0, .int .i64 1073741825] 43 (0, 0)) := by rw [hw1]; exact World.alloc_heap_new _ _
 obtain ⟨w2, hw2⟩ : ∃ w2, w2 = w1.alloc (.cells #[.string ⟨#[118]⟩, .int .i64 1] 45) := ⟨_, rfl⟩
 have hs2 : w2.heap.size = w.heap.size + 1 + 1 := by rw [hw2]; simp; omega
 have hb2 : Below w1.heap.size w1 w2 := by rw [hw2]; exact below_alloc _ _
 have h2 : w2.heap[w.heap.size + 1]? = some (.cells #[.string ⟨#[118]⟩, .int .i64 1] 45 (0, 0)) := by rw [hw2, ← hs1]; exact World.alloc_heap_new _ _
 have h1' : w2.heap[w.heap.size]? = _ := (hb2.block w.heap.size (by omega)).trans h1
 have hD : Dims w2 (.slice (some ⟨w.heap.size, 0, none⟩) 1 1) manyD := ⟨_, 1, rfl, Nat.le_refl _, by decide, fun _ => ⟨_, 0, rfl, fun j x hj => by
  match j, hj with
  | 0, hj =>
   simp only [manyD, List.getElem?_cons_zero, Option.some.injEq] at hj
   subst hj
   exact ⟨(Lib.cell_of_heap h1' _).trans rfl, (Lib.cell_of_heap h1' _).trans rfl, (Lib.cell_of_heap h1' _).trans rfl⟩
  | j + 1, hj => simp [manyD] at hj⟩⟩
 have hA : Attrs w2 (.slice (some ⟨w.heap.size + 1, 0, none⟩) 1 1) manyA := ⟨_, 1, rfl, Nat.le_refl _, by decide, fun _ => ⟨_, 0, rfl, fun j x hj => by
  match j, hj with
  | 0, hj =>
   simp only [manyA, List.getElem?_cons_zero, Option.some.injEq] at hj
   subst hj
   exact ⟨(Lib.cell_of_heap h2 _).trans rfl, (Lib.cell_of_heap h2 _).trans rfl⟩
  | j + 1, hj => simp [manyA] at hj⟩⟩
 have ho := out_made w2 _ _ manyD manyA hD (fun b e => by cases e; exact ⟨_, _, h1'⟩) hA (fun b e => by cases e; exact ⟨_, _, h2⟩)
 rw [hs2] at ho
 rw [← hw1, ← hw2]
 exact ⟨_, rfl, (below_keep hb1 hb2).trans ((below_alloc _ _).mono (by omega)), ho⟩
/-- what a round appends -/
theorem many_at (w : World) (n : Nat) (hn : n ≤ w.heap.size) (i : Nat) : ∃ Z, Z = (w.alloc (.cells #[.int .i64 (i : Nat)] 3)).alloc (.cells #[.int .i64 1, .int .i64 0, .int .i64 0, .string ⟨#[]⟩] 40) ∧ Z.heap.size = w.heap.size + 1 + 1 ∧ Below w.heap.size w Z ∧ CeO n Z (.slice (some ⟨w.heap.size, 0, none⟩) 1 1) (.slice (some ⟨w.heap.size + 1, 0, none⟩) 1 1) (manyC i) :=
 ⟨_, rfl, by simp, below_keep (below_alloc _ _) (below_alloc _ _), many_new n w hn i⟩
/-- a database of one array -/
theorem many_named (w : World) (x : ArrT) (vd va vc : Value) (hx : ArrR w vd va vc x) : ∃ W, W = w.alloc (.cells #[.string ⟨#[97]⟩, vd, va, vc] 49) ∧ Below w.heap.size w W ∧ Names W (.slice (some ⟨w.heap.size, 0, none⟩) 1 1) [⟨[97], x⟩] := by
 obtain ⟨W, hW, hb, hc⟩ := nam_at w (.string ⟨#[97]⟩) vd va vc
 obtain ⟨c0, c1, c2, c3⟩ := hc W (Below.refl _ _)
 refine ⟨W, hW, hb, _, 1, rfl, Nat.le_refl _, by decide, fun _ => ⟨_, 0, rfl, fun j y hj => ?_⟩⟩
 match j, hj with
 | 0, hj =>
  simp only [List.getElem?_cons_zero, Option.some.injEq] at hj
  subst hj
  exact ⟨c0, vd, va, vc, c1, c2, c3, hx.later hb⟩
 | j + 1, hj => simp at hj
theorem many_strN {n : Nat} : StrN [⟨[97], ⟨manyD, manyA, manyL n⟩⟩] := by
 refine ⟨?_, ?_, ?_⟩ <;> (intro x hx; simp only [List.mem_singleton] at hx; subst hx)
 ·simp
 ·exact many_strD
 ·exact many_strA
set_option maxHeartbeats 16000000 in
set_option maxRecDepth 100000 in
theorem spaceMany_any (k : Nat) (hk : k ≤ 255) (w : World) (hm : Ml w) :
  Calls Tryz.prog 4 #[.int .u8 (k : Nat)] w (RetV' (.bool true) w) := by
 have CW := Lib.hid (fun w1 (hb : Below w.heap.size w w1) => works_any w1 (hm.later hb))
 obtain ⟨j0, hj0, hy0, hy1, hy2⟩ := info_parts infoCell
 obtain ⟨W0, hW0, hb0, ho0⟩ := many_start w
 have HB0 := Lib.hid hb0
 have HO0 := Lib.hid ho0
 clear hm hb0 ho0
 go_enter Tryz.func4, Tryz.ntmps4
 go_upto_region 3 with (fail)
 rw [← hW0]
 clear hW0
 obtain ⟨m, hmk⟩ : ∃ m : Int, m = (k : Int) % 12 := ⟨_, rfl⟩
 obtain ⟨n, hn⟩ : ∃ n : Nat, (n : Int) = 4090 + m := ⟨(4090 + m).toNat, by omega⟩
 rw [← hmk, ← hn]
 have hn1 : n ≤ 4101 := by omega
 clear hmk hn hk
 go_wp2
 go_loopw [5] (fun iv wr => ∃ (i : Nat) (v : Value), i ≤ n ∧ iv = .int .i64 (i : Nat) ∧ OutB (w.heap.size + 1 + 1) (w.heap.size + 1 + 1) wr (.slice (some ⟨w.heap.size, 0, none⟩) 1 1) (.slice (some ⟨w.heap.size + 1, 0, none⟩) 1 1) v v manyD manyA (manyL i) ∧ Below w.heap.size w wr) (fun iv _ => n - (intOf iv).toNat)
 case atStart => exact ⟨0, _, Nat.zero_le _, rfl, HO0.out, HB0.out⟩
 case round =>
  obtain ⟨i, v, hi, rfl, ho, hb⟩ := hrel
  have HO := Lib.hid ho
  have HB := Lib.hid hb
  by_cases hlt : i < n
  ·have hgl := ho.tag.lt
   obtain ⟨Z, hZ, hZs, hZb, hZc⟩ := many_at wr (w.heap.size + 1 + 1) (by omega) i
   have HZ := Lib.hid (And.intro hZs (And.intro hZb hZc))
   have hln := many_len i
   obtain ⟨us, hul, hus, hux⟩ := (ho.later hZb).own.ex
   have HUS := Lib.hid (And.intro hul (And.intro hus hux))
   rw [hln] at hus hul
   obtain ⟨a9, k9, rfl, -⟩ := ho.own.cells.shape
   rw [hln] at ho HO HUS hus
   have c2 := ho.c2
   have HI : Hid (i + 1 ≤ n ∧ n - (i + 1) < n - i) := by show _ ∧ _; omega
   have b0 : (i : Int) < (n : Int) := by omega
   clear ho hb hZs hZb hZc hul hux hi hlt hln
   obtain ⟨Z4, hZ4⟩ : ∃ Z4, Z4 = Z.alloc (.cells #[.slice (some ⟨wr.heap.size, 0, none⟩) 1 1, .slice (some ⟨wr.heap.size + 1, 0, none⟩) 1 1] 38) := ⟨_, rfl⟩
   have HZB : Hid (Below Z.heap.size Z Z4) := by rw [hZ4]; exact below_alloc _ _
   have HN : Hid (w.heap.size + 1 + 1 ≤ Z4.heap.size) := by show _ ≤ _; have := HZ.out.1; have := HZB.out.size; omega
   have HT2 : Hid (∀ (t : Nat) (x : Value), ([.slice (some ⟨wr.heap.size, 0, none⟩) 1 1, .slice (some ⟨wr.heap.size + 1, 0, none⟩) 1 1] : List Value)[t]? = some x → Z4.cell? ((⟨wr.heap.size + 1 + 1, 0, none⟩ : Addr).add t) = some x) := by
    rw [← HZ.out.1, hZ4]; exact two_at _ _ _ _
   have HIB : Hid (i ≤ 5000) := by show _ ≤ _; have := HI.out.1; omega
   have hus4 := hus.kept (row := none) (grown_of_below HZB.out none) (by cases Value.ownBlock _ <;> simp)
   have HZE := Lib.hid (And.intro hZ hZ4)
   clear hZ hZ4
   go_wp2_with (at_builtin; rw [← HZE.out.1, ← HZE.out.2]; refine wpList_append_lies _ (by rfl) _ _ 24 (by rfl) (w.heap.size + 1 + 1) 38 j0 (.agg #[.slice none 0 0, .slice none 0 0]) 2 48 Tryz.underlying24 hj0 hy0 hy1 hy2 rfl (by decide) _ i (us.flatMap fun u => [u.1, u.2]) (by rfl) hus4 ⟨wr.heap.size + 1 + 1, 0, none⟩ 1 1 [.slice (some ⟨wr.heap.size, 0, none⟩) 1 1, .slice (some ⟨wr.heap.size + 1, 0, none⟩) 1 1] (by rfl) (by rfl) HT2.out (by simp [Value.oneCell']) (by omega) (by unfold maxLen; have := HIB.out; omega) (by have := HIB.out; omega) HN.out (Z4.heap.size) rfl ?_)
   intro g7 cp7 w7 hown hgrow hat hlt6
   have HK : Hid (OutB (w.heap.size + 1 + 1) (w.heap.size + 1 + 1) w7 (.slice (some ⟨w.heap.size, 0, none⟩) 1 1) (.slice (some ⟨w.heap.size + 1, 0, none⟩) 1 1) (.slice a9 i k9) (.slice (some ⟨g7, 0, none⟩) (i + 1) cp7) manyD manyA (manyL (i + 1))) := by
    rw [many_succ]
    have h4 := (HO.out.later HZ.out.2.1).later HZB.out
    refine h4.part hgrow (fun r e => h4.own.tag r e) (CellsO.snoc (us := us) ?_ ?_ (fun j c u hj hu => (HUS.out.2.2 j c u hj hu).later HZB.out) ?_ hgrow (HZ.out.2.2.later HZB.out))
    ·rw [many_len]; exact HUS.out.1
    ·rw [many_len]; exact hus4
    ·rw [many_len]; exact hown
   have HB7 : Hid (Below w.heap.size w w7) := by
    have h1 := below_keep (below_keep HB.out HZ.out.2.1) HZB.out
    exact h1.grown hgrow (by have := HN.out; omega) (fun k e => by have := (hus4.lt k e).1; omega)
   have c7 := HK.out.c2
   have f7 := HK.out.f2
   clear hus hus4 hown hgrow hat hlt6 c2
   go_wp2
   exact ⟨⟨i + 1, _, HI.out.1, by go_num, HK.out.st, HB7.out.setCell (p := ⟨w.heap.size + 1 + 1, 2, none⟩) (by show w.heap.size ≤ w.heap.size + 1 + 1; omega) _⟩, HI.out.2⟩
  ·obtain rfl : i = n := by omega
   have hi5 : i ≤ 5000 := by omega
   have c0 := ho.c0
   have c1 := ho.c1
   have c2 := ho.c2
   have b0 : ¬ (i : Int) < (i : Int) := by omega
   have HXA : Hid (ArrR wr (.slice (some ⟨w.heap.size, 0, none⟩) 1 1) (.slice (some ⟨w.heap.size + 1, 0, none⟩) 1 1) v ⟨manyD, manyA, manyL i⟩) := ⟨ho.dm, ho.at', ho.own.cells⟩
   have HCX : Hid (∀ w1, Below wr.heap.size wr w1 → w1.cell? ⟨w.heap.size + 1 + 1, 0, none⟩ = some (.slice (some ⟨w.heap.size, 0, none⟩) 1 1) ∧ w1.cell? ⟨w.heap.size + 1 + 1, 1, none⟩ = some (.slice (some ⟨w.heap.size + 1, 0, none⟩) 1 1) ∧ w1.cell? ⟨w.heap.size + 1 + 1, 2, none⟩ = some v) := fun w1 h1 => ⟨cell_later ho.c0 h1, cell_later ho.c1 h1, cell_later ho.c2 h1⟩
   obtain ⟨Q, hQ⟩ : ∃ Q, Q = makeQ manyD manyA (manyL i) (manyL i) := ⟨_, rfl⟩
   obtain ⟨E, hE⟩ : ∃ E : Int, E = if 4096 < i then 9 else 0 := ⟨_, rfl⟩
   have hme : makeE manyD manyA (manyL i) (manyL i) = E := by rw [many_makeE hi5, hE]
   have CM : Hid (Calls Tryz.prog 10 #[.slice (some ⟨w.heap.size, 0, none⟩) 1 1, .slice (some ⟨w.heap.size + 1, 0, none⟩) 1 1, v] wr (RetMq Q E wr)) :=
    (make_any manyD manyA (manyL i) _ _ _ wr ho.dm ho.at' ho.own.cells many_strD many_strA (by decide) (by decide) (many_short i)).mono fun e w' h => by
     have := RetMk.same (many_sorted i) (List.Perm.refl _) h
     rwa [← hQ, hme] at this
   have CC : Hid (∀ w1, Below wr.heap.size wr w1 → Calls Tryz.prog 12 #[.agg #[.slice (some ⟨w.heap.size, 0, none⟩) 1 1, .slice (some ⟨w.heap.size + 1, 0, none⟩) 1 1, v]] w1 (RetV' (.int .i64 E) w1)) := fun w1 h1 => by
    have := checkA_any ⟨manyD, manyA, manyL i⟩ _ _ _ w1 (HXA.out.later h1) many_strD many_strA
    rwa [many_check hi5, ← hE] at this
   obtain ⟨a9, k9, rfl, -⟩ := ho.own.cells.shape
   have HQE := Lib.hid (And.intro hQ (And.intro hE hme))
   clear ho hb hi hlt hQ hE hme
   go_wp2_with fail
   refine CM.out.mono ?_
   rintro e w4 ⟨x1, x2, x3, rfl, hd1, -, ha2, -, hc3, hb4⟩
   obtain ⟨W4, hW4, hb, hv4⟩ := arV_at w4 x1 x2 x3
   have HB4 := Lib.hid (below_keep hb4 hb)
   have HY := Lib.hid (And.intro hv4 (ArrR.later ⟨hd1, ha2, hc3.cells⟩ hb))
   have HWW := Lib.hid (below_keep HB.out HB4.out)
   obtain ⟨q4, r4, rfl, -⟩ := hd1.shape
   obtain ⟨q5, r5, rfl, -⟩ := ha2.shape
   obtain ⟨q6, r6, rfl, -⟩ := hc3.cells.shape
   obtain ⟨y0, y1, y2, -⟩ := hv4
   obtain ⟨d0, d1, d2⟩ := HCX.out W4 HB4.out
   clear hd1 ha2 hc3 hb4 hb CM c0 c1 c2 b0
   go_upto_region 8 with (fail)
   rw [← hW4]
   clear hW4
   by_cases hbig : 4096 < i
   ·obtain ⟨hQ, hE, hme⟩ := HQE.out
    have hq0 : Q.cells.length = 0 := by rw [hQ, makeQ_bad (by rw [hme, hE, if_pos hbig]; decide)]; rfl
    have hE9 : E = 9 := by rw [hE, if_pos hbig]
    clear hQ hE hme HQE
    subst hE9
    have hdb := many_db hi5 hbig
    have t1 : decide ((4096 : Int) < (i : Int)) = true := decide_eq_true (by omega)
    rw [hq0] at y2 ⊢
    have HDB := Lib.hid hdb
    clear hq0 hbig hdb hi5 hn1
    go_wp2_with fail
    refine (CC.out _ HB4.out).mono ?_
    rintro e w5 ⟨rfl, hb5⟩
    have HB5 := Lib.hid (below_keep HB4.out hb5)
    have HW5 := Lib.hid (below_keep HWW.out hb5)
    obtain ⟨e0, e1, e2⟩ := HCX.out w5 HB5.out
    have y2 := cell_later y2 hb5
    obtain ⟨W6, hW6, hb6, hn6⟩ := many_named w5 _ _ _ _ (HXA.out.later HB5.out)
    have CD : Hid (Calls Tryz.prog 13 #[.slice (some ⟨w5.heap.size, 0, none⟩) 1 1] W6 (RetV' (.int .i64 2) W6)) := by
     have := database_any _ _ W6 hn6 many_strN
     rwa [HDB.out] at this
    have HW6 := Lib.hid (below_keep HW5.out hb6)
    have HE6 := Lib.hid hW6
    clear hb5 hb6 hn6 hW6 d0 d1 d2 CC y0 y1
    go_wp2_with fail
    rw [← HE6.out]
    refine CD.out.mono ?_
    rintro e w7 ⟨rfl, hb7⟩
    have HW7 := Lib.hid (below_keep HW6.out hb7)
    clear hb7 CD HE6 e0 e1 e2 y2
    go_wp2_with fail
    refine (CW.out _ HW7.out).mono ?_
    rintro e z9 ⟨rfl, hb⟩
    have HBE := Lib.hid (below_keep HW7.out hb)
    clear hb CW
    go_wp2
    go_ret
    exact ⟨rfl, HBE.out⟩
   ·obtain ⟨hQ, hE, hme⟩ := HQE.out
    have hE0 : E = 0 := by rw [hE, if_neg hbig]
    have hq1 : Q = ⟨manyD, manyA, manyL i⟩ := by rw [hQ, makeQ_ok (by rw [hme, hE0])]
    have CS : Hid (∀ (v1 v2 v3 u1 u2 u3 : Value) w1, ArrR w1 v1 v2 v3 Q → ArrR w1 u1 u2 u3 Q → Calls Tryz.prog 14 #[.agg #[v1, v2, v3], .agg #[u1, u2, u3]] w1 (RetV' (.bool true) w1)) := fun v1 v2 v3 u1 u2 u3 w1 h1 h2 => by
     have := same_any Q Q v1 v2 v3 u1 u2 u3 w1 h1 h2 (by rw [hq1]; exact many_strD) (by rw [hq1]; exact many_strA) (by rw [hq1]; exact many_strD) (by rw [hq1]; exact many_strA)
     rwa [show sameE Q Q = true by unfold sameE eqA; rw [show checkE Q = 0 by rw [hq1, many_check hi5, if_neg hbig]]; simp] at this
    have HXQ : Hid (ArrR wr (.slice (some ⟨w.heap.size, 0, none⟩) 1 1) (.slice (some ⟨w.heap.size + 1, 0, none⟩) 1 1) (.slice a9 (manyL i).length k9) Q) := by rw [hq1]; exact HXA.out
    have t1 : decide ((4096 : Int) < (i : Int)) = false := decide_eq_false (by omega)
    clear hQ hE hme HQE hq1 hbig hi5 hn1
    subst hE0
    go_wp2_with fail
    refine (CC.out _ HB4.out).mono ?_
    rintro e w5 ⟨rfl, hb5⟩
    have HB5 := Lib.hid (below_keep HB4.out hb5)
    have HW5 := Lib.hid (below_keep HWW.out hb5)
    obtain ⟨e0, e1, e2⟩ := HCX.out w5 HB5.out
    have HY5 := Lib.hid (And.intro (HY.out.1.later hb5) (HY.out.2.later hb5))
    obtain ⟨z0, z1, z2, -⟩ := HY5.out.1
    have CE := Lib.hid (equal_same Q _ _ _ _ _ _ w5 (HXQ.out.later HB5.out) HY5.out.2)
    clear hb5 d0 d1 d2 CC y0 y1 y2
    go_wp2_with fail
    refine CE.out.mono ?_
    rintro e w6 ⟨rfl, hb6⟩
    have HB6 := Lib.hid (below_keep HB5.out hb6)
    have HW6 := Lib.hid (below_keep HW5.out hb6)
    have HY6 := Lib.hid (And.intro (HY5.out.1.later hb6) (HY5.out.2.later hb6))
    clear e0 e1 e2 z0 z1 z2 CE hb6
    obtain ⟨e0, e1, e2⟩ := HCX.out w6 HB6.out
    obtain ⟨z0, z1, z2, -⟩ := HY6.out.1
    have CF := Lib.hid (CS.out _ _ _ _ _ _ w6 (HXQ.out.later HB6.out) HY6.out.2)
    go_wp2_with fail
    refine CF.out.mono ?_
    rintro e w7 ⟨rfl, hb7⟩
    have HW7 := Lib.hid (below_keep HW6.out hb7)
    clear hb7 CF CS e0 e1 e2 z0 z1 z2
    go_wp2_with fail
    refine (CW.out _ HW7.out).mono ?_
    rintro e z9 ⟨rfl, hb⟩
    have HBE := Lib.hid (below_keep HW7.out hb)
    clear hb CW
    go_wp2
    go_ret
    exact ⟨rfl, HBE.out⟩
theorem spaceManyI_any (n : Int) (w : World) (hm : Ml w) (h0 : 0 ≤ n) (h1 : n ≤ 255) :
  Calls Tryz.prog 4 #[.int .u8 n] w (RetV' (.bool true) w) := by
 obtain ⟨k, rfl⟩ := Int.eq_ofNat_of_zero_le h0
 exact spaceMany_any k (by omega) w hm
end Go.Proofs.YthlkcppbljpooaaGreatDoor
