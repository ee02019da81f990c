/- Lemmas and contracts, each under its own condition: space.Make: the contract. space.Make: the contract, where the schema is good. -/
import Derived.BigQuiet
import Derived.IntWalk
import Derived.Deep.RegionHeld3
import Derived.Deep.DeepCutAuto
import Derived.Deep.CutBlock
import Derived.Test.YthlkcppbljpooaaGreatDoorS36
import Derived.Test.YthlkcppbljpooaaGreatDoorS5
import Derived.Test.YthlkcppbljpooaaGreatDoorS62
import Derived.Test.YthlkcppbljpooaaGreatDoorS63
/- space.Make: the contract. -/
namespace Go.Proofs.YthlkcppbljpooaaGreatDoor
open Go.RowKit

theorem below_arr {w w1 : World} (h : Below w.heap.size w w1) (g : Nat) (hg : w.heap.size ≤ g) (x y t : Value) : Below w.heap.size w (((w1.setCell ⟨g, 0, none⟩ x).setCell ⟨g, 1, none⟩ y).setCell ⟨g, 2, none⟩ t) :=
 ((h.setCell (p := ⟨g, 0, none⟩) hg _).setCell (p := ⟨g, 1, none⟩) hg _).setCell (p := ⟨g, 2, none⟩) hg _
/-- a result: what Make returns, the array's memory being the call's own -/
def RetMk (d : List DimT) (a : List AttrT) (l : List CellT) (w : World) (e : Ending) (w' : World) : Prop := ∃ S v1 v2 v3, S.Perm l ∧ SortK CellT.co S ∧ e = .returned (.tuple #[.agg #[v1, v2, v3], .int .i64 (makeE d a l S)]) ∧
 Dims w' v1 (makeQ d a l S).dims ∧ TagV w' v1 43 ∧ Attrs w' v2 (makeQ d a l S).attrs ∧ TagV w' v2 45 ∧ CellsN w.heap.size w' v3 (makeQ d a l S).cells ∧ Below w.heap.size w w'
theorem RetMk.bad {d : List DimT} {a : List AttrT} {l : List CellT} {w w' : World} {r : Int} (hr : r ≠ 0) (h : ∀ S, S.Perm l → SortK CellT.co S → makeE d a l S = r) (hb : Below w.heap.size w w') : RetMk d a l w (.returned (.tuple #[.agg #[.slice none 0 0, .slice none 0 0, .slice none 0 0], .int .i64 r])) w' := by
 obtain ⟨S, hp, hs⟩ := exists_sorted CellT.co l
 have e := h S hp hs
 have q : makeQ d a l S = ⟨[], [], []⟩ := makeQ_bad (by rw [e]; exact hr)
 refine ⟨S, _, _, _, hp, hs, by rw [e], ?_⟩
 rw [q]
 exact ⟨Ls.nil _ _ _ (by omega), TagV.nil _ _ _ _, Ls.nil _ _ _ (by omega), TagV.nil _ _ _ _, CellsN.nil _ _ _ (by omega), hb⟩
theorem RetMk.dup {d : List DimT} {a : List AttrT} {l S : List CellT} {w w' : World} (hp : S.Perm l) (hs : SortK CellT.co S) (h : makeE d a l S = 5) (hb : Below w.heap.size w w') : RetMk d a l w (.returned (.tuple #[.agg #[.slice none 0 0, .slice none 0 0, .slice none 0 0], .int .i64 5])) w' := by
 have q : makeQ d a l S = ⟨[], [], []⟩ := makeQ_bad (by rw [h]; decide)
 refine ⟨S, _, _, _, hp, hs, by rw [h], ?_⟩
 rw [q]
 exact ⟨Ls.nil _ _ _ (by omega), TagV.nil _ _ _ _, Ls.nil _ _ _ (by omega), TagV.nil _ _ _ _, CellsN.nil _ _ _ (by omega), hb⟩
/-- the result's cells, behind the last store -/
theorem RetMk.ok {d : List DimT} {a : List AttrT} {l S : List CellT} {w z : World} {g n : Nat} {v1 v2 v3 x y t : Value} (hp : S.Perm l) (hs : SortK CellT.co S) (h : makeE d a l S = 0) (h1 : Dims z v1 d) (t1 : TagV z v1 43) (h2 : Attrs z v2 a) (t2 : TagV z v2 45) (h3 : CellsN n z v3 S) (ht : TagB z g 29) (hb : Below w.heap.size w z) (hg : w.heap.size ≤ g) (hn : g < n) :
  RetMk d a l w (.returned (.tuple #[.agg #[v1, v2, v3], .int .i64 0])) (((z.setCell ⟨g, 0, none⟩ x).setCell ⟨g, 1, none⟩ y).setCell ⟨g, 2, none⟩ t) := by
 have hbl : ∀ b, b ≠ g → (((z.setCell ⟨g, 0, none⟩ x).setCell ⟨g, 1, none⟩ y).setCell ⟨g, 2, none⟩ t).heap[b]? = z.heap[b]? := fun b hb => (Below.heap_setCell _ ⟨g, 2, none⟩ t b hb).trans (set2_block z g b x y hb)
 have n1 : ∀ b, v1.ownBlock = some b → _ := fun b hb => hbl b ((t1 b hb).ne ht (by decide))
 have n2 : ∀ b, v2.ownBlock = some b → _ := fun b hb => hbl b ((t2 b hb).ne ht (by decide))
 refine ⟨S, v1, v2, v3, hp, hs, by rw [h], ?_⟩
 rw [makeQ_ok h]
 exact ⟨h1.kept DimR.local n1, t1.kept n1, h2.kept AttrR.local n2, t2.kept n2, (h3.apart fun b hb _ => hbl b (by omega)).base (by omega), ((hb.setCell (p := ⟨g, 0, none⟩) hg _).setCell (p := ⟨g, 1, none⟩) hg _).setCell (p := ⟨g, 2, none⟩) hg _⟩
set_option maxHeartbeats 3200000 in
set_option maxRecDepth 100000 in
theorem make_schema (d : List DimT) (a : List AttrT) (l : List CellT) (vd va vl : Value) (w : World) (hd : Dims w vd d) (ha : Attrs w va a) (hl : CellsA w vl l) (hs : StrD d) (hsa : StrA a) (h : schemaE d a ≠ 0) :
  Calls Tryz.prog 10 #[vd, va, vl] w (RetMk d a l w) := by
 have C := Lib.hid (fun w1 (hb : Below w.heap.size w w1) => schema_any d a vd va w1 (hd.later DimR.lasts hb) (ha.later AttrR.lasts hb) hs hsa)
 have HF : Hid (∀ w', Below w.heap.size w w' → RetMk d a l w (.returned (.tuple #[.agg #[.slice none 0 0, .slice none 0 0, .slice none 0 0], .int .i64 (schemaE d a)])) w') := fun w' hb => RetMk.bad h (fun S _ _ => makeE_schema h) hb
 have hne : (schemaE d a != 0) = true := by rw [bne_iff_ne]; exact h
 generalize schemaE d a = r at *
 obtain ⟨p1, k1, rfl, -⟩ := hd.shape
 obtain ⟨p2, k2, rfl, -⟩ := ha.shape
 obtain ⟨p3, k3, rfl, -⟩ := hl.shape
 obtain ⟨W0, hW0, hb0, hx0⟩ := arr_zero w
 have HB0 := Lib.hid hb0
 have HX0 := Lib.hid hx0
 clear hd ha hl hs hsa h hb0 hx0
 go_enter Tryz.func10, Tryz.ntmps10
 go_upto_region 1 with (fail)
 rw [← hW0]
 clear hW0
 go_wp2_with fail
 refine (C.out _ HB0.out).mono ?_
 rintro e w2 ⟨rfl, hb⟩
 have HB2 := Lib.hid (below_keep HB0.out hb)
 obtain ⟨⟨r0, r1, r2⟩, ⟨f0, f1, f2⟩, -⟩ := HX0.out w2 hb
 clear hb C
 go_wp2
 refine bodyPost_ret (by simp [results, Tryz.results10, go_sem, r0, r1, r2]; try rfl) rfl ?_
 exact HF.out _ (below_arr HB2.out _ (by omega) _ _ _)
set_option maxHeartbeats 3200000 in
set_option maxRecDepth 100000 in
theorem make_many (d : List DimT) (a : List AttrT) (l : List CellT) (vd va vl : Value) (w : World) (hd : Dims w vd d) (ha : Attrs w va a) (hl : CellsA w vl l) (hs : StrD d) (hsa : StrA a) (h : schemaE d a = 0) (h2 : 4096 < l.length) :
  Calls Tryz.prog 10 #[vd, va, vl] w (RetMk d a l w) := by
 have C := Lib.hid (fun w1 (hb : Below w.heap.size w w1) => schema_any d a vd va w1 (hd.later DimR.lasts hb) (ha.later AttrR.lasts hb) hs hsa)
 have HF : Hid (∀ w', Below w.heap.size w w' → RetMk d a l w (.returned (.tuple #[.agg #[.slice none 0 0, .slice none 0 0, .slice none 0 0], .int .i64 9])) w') := fun w' hb => RetMk.bad (by decide) (fun S _ _ => makeE_many h h2) hb
 rw [h] at C
 have h3 : (4096 : Int) < l.length := by omega
 obtain ⟨p1, k1, rfl, -⟩ := hd.shape
 obtain ⟨p2, k2, rfl, -⟩ := ha.shape
 obtain ⟨p3, k3, rfl, -⟩ := hl.shape
 obtain ⟨W0, hW0, hb0, hx0⟩ := arr_zero w
 have HB0 := Lib.hid hb0
 have HX0 := Lib.hid hx0
 clear hd ha hl hs hsa h hb0 hx0 h2
 go_enter Tryz.func10, Tryz.ntmps10
 go_upto_region 1 with (fail)
 rw [← hW0]
 clear hW0
 go_wp2_with fail
 refine (C.out _ HB0.out).mono ?_
 rintro e w2 ⟨rfl, hb⟩
 have HB2 := Lib.hid (below_keep HB0.out hb)
 obtain ⟨⟨r0, r1, r2⟩, ⟨f0, f1, f2⟩, -⟩ := HX0.out w2 hb
 clear hb C
 go_wp2
 refine bodyPost_ret (by simp [results, Tryz.results10, go_sem, r0, r1, r2]; try rfl) rfl ?_
 exact HF.out _ (below_arr HB2.out _ (by omega) _ _ _)
end Go.Proofs.YthlkcppbljpooaaGreatDoor
/- space.Make: the contract, where the schema is good. -/
namespace Go.Proofs.YthlkcppbljpooaaGreatDoor
open Go.RowKit

/-- the array that is made, behind the sort -/
structure MkO (n g : Nat) (w : World) (v1 v2 v3 : Value) (d : List DimT) (a : List AttrT) (S : List CellT) : Prop where
 c0 : w.cell? ⟨g, 0, none⟩ = some v1
 c1 : w.cell? ⟨g, 1, none⟩ = some v2
 c2 : w.cell? ⟨g, 2, none⟩ = some v3
 dm : Dims w v1 d
 td : TagV w v1 43
 at' : Attrs w v2 a
 ta : TagV w v2 45
 own : CellsN n w v3 S
theorem MkO.later {n g : Nat} {w w' : World} {v1 v2 v3 : Value} {d : List DimT} {a : List AttrT} {S : List CellT} (h : MkO n g w v1 v2 v3 d a S) (hb : Below w.heap.size w w') : MkO n g w' v1 v2 v3 d a S :=
 ⟨cell_later h.c0 hb, cell_later h.c1 hb, cell_later h.c2 hb, h.dm.later DimR.lasts hb, h.td.later hb, h.at'.later AttrR.lasts hb, h.ta.later hb, h.own.later hb⟩
theorem mkO_sorted {n : Nat} {w3 w4 : World} {v1 v2 v3 : Value} {d : List DimT} {a : List AttrT} {l S : List CellT} (hd : Dims w3 v1 d) (td : TagV w3 v1 43) (ha : Attrs w3 v2 a) (ta : TagV w3 v2 45) (ho : CellsO n w3 v3 l)
  (hS : CellsN n w4 v3 S) (hg : (w3.alloc (.cells #[v1, v2, v3] 29)).grownBy w4 v3.ownBlock) : MkO n w3.heap.size w4 v1 v2 v3 d a S := by
 have hb : Below w3.heap.size w3 (w3.alloc (.cells #[v1, v2, v3] 29)) := below_alloc _ _
 have ht := ho.tag.later hb
 have hk : ∀ b T, TagB (w3.alloc (.cells #[v1, v2, v3] 29)) b T → T ≠ 38 → w4.heap[b]? = (w3.alloc (.cells #[v1, v2, v3] 29)).heap[b]? := fun b T h1 h2 => hg.block b h1.lt (fun e => h1.ne (ht b e.symm) h2 rfl)
 have hgb := hk w3.heap.size _ ⟨_, _, World.alloc_heap_new w3 _⟩ (by decide)
 have td' := td.later hb
 have ta' := ta.later hb
 have k1 : ∀ b, v1.ownBlock = some b → w4.heap[b]? = _ := fun b hb => hk b _ (td' b hb) (by decide)
 have k2 : ∀ b, v2.ownBlock = some b → w4.heap[b]? = _ := fun b hb => hk b _ (ta' b hb) (by decide)
 refine ⟨(World.cell?_of_block (a := ⟨w3.heap.size, 0, none⟩) hgb).trans ?_, (World.cell?_of_block (a := ⟨w3.heap.size, 1, none⟩) hgb).trans ?_, (World.cell?_of_block (a := ⟨w3.heap.size, 2, none⟩) hgb).trans ?_, (hd.later DimR.lasts hb).kept DimR.local k1, td'.kept k1, (ha.later AttrR.lasts hb).kept AttrR.local k2, ta'.kept k2, hS⟩ <;> (rw [World.cell?_alloc_at _ _ _ _ rfl]; rfl)
set_option maxHeartbeats 16000000 in
set_option maxRecDepth 100000 in
theorem make_core (d : List DimT) (a : List AttrT) (l : List CellT) (vd va vl : Value) (w : World) (hd : Dims w vd d) (ha : Attrs w va a) (hl : CellsA w vl l) (hs : StrD d) (hsa : StrA a) (ld : d.length ≤ 1000000) (la : a.length ≤ 1000000) (lc : ShortC l) (h : schemaE d a = 0) (h2 : l.length ≤ 4096) :
  Calls Tryz.prog 10 #[vd, va, vl] w (RetMk d a l w) := by
 have C := Lib.hid (fun w1 (hb : Below w.heap.size w w1) => schema_any d a vd va w1 (hd.later DimR.lasts hb) (ha.later AttrR.lasts hb) hs hsa)
 rw [h] at C
 have CC := Lib.hid (fun (c : CellT) (v1 v2 : Value) (w1 : World) (hb : Below w.heap.size w w1) (k1 : Ints w1 v1 c.co) (k2 : Vals w1 v2 c.vals) => cell_any d a c vd va v1 v2 w1 (hd.later DimR.lasts hb) (ha.later AttrR.lasts hb) k1 k2)
 have CF := Lib.hid (fun w1 (hb : Below w.heap.size w w1) => fresh_any d a l vd va vl w1 (hd.later DimR.lasts hb) (ha.later AttrR.lasts hb) (hl.later CellR.lasts hb) ld la (by omega) lc)
 have HL := Lib.hid hl
 have H0 := Lib.hid (And.intro h h2)
 have hln : l.length ≤ 4096 := h2
 have h3 : ¬ ((4096 : Int) < l.length) := by omega
 obtain ⟨p1, k1, rfl, -⟩ := hd.shape
 obtain ⟨p2, k2, rfl, -⟩ := ha.shape
 obtain ⟨p3, k3, rfl, -⟩ := hl.shape
 obtain ⟨R, hR⟩ : ∃ R : Int, R = firstE d a l := ⟨_, rfl⟩
 have HR := Lib.hid hR
 obtain ⟨W0, hW0, hb0, hx0⟩ := arr_zero w
 have HB0 := Lib.hid hb0
 have HX0 := Lib.hid hx0
 have HW0 : Hid (W0.heap.size = w.heap.size + 1) := by show _ = _; rw [hW0]; simp
 clear hd ha hl hs hsa h h2 hb0 hx0 ld la lc hR
 go_enter Tryz.func10, Tryz.ntmps10
 go_upto_region 1 with (fail)
 rw [← hW0]
 clear hW0
 go_wp2_with fail
 refine (C.out _ HB0.out).mono ?_
 rintro e w2 ⟨rfl, hb⟩
 have HB2 := Lib.hid hb
 clear hb C
 go_wp2
 go_loopw [27] (fun iv wr => ∃ i : Nat, i ≤ l.length ∧ iv = .int .i64 (i : Nat) ∧ Hid (firstE d a (l.drop i) = R) ∧ Below W0.heap.size W0 wr) (fun iv _ => l.length - (intOf iv).toNat)
 case atStart => exact ⟨0, Nat.zero_le _, rfl, (by show _ = _; rw [HR.out]; rfl), HB2.out⟩
 case round =>
  obtain ⟨i, hi, rfl, HN, hb⟩ := hrel
  have HBR := Lib.hid hb
  have HBW := Lib.hid (below_keep HB0.out hb)
  clear hb
  by_cases hlt : i < l.length
  ·obtain ⟨g, o, c, ea, hc, hr⟩ := (HL.out.later CellR.lasts HBW.out).at i hlt
   subst ea
   have hn := HN.out
   rw [firstE_drop hc] at hn
   obtain ⟨v1, v2, e1, e2, k1, k2⟩ := hr.ex
   have K1 := Lib.hid k1
   have K2 := Lib.hid k2
   obtain ⟨q1, capq1, rfl, -, -⟩ := k1.shape
   obtain ⟨q2, capq2, rfl, -, -⟩ := k2.shape
   obtain ⟨W, hW⟩ : ∃ W, W = wr.alloc (.cells #[.slice q1 c.co.length capq1, .slice q2 c.vals.length capq2] 38) := ⟨_, rfl⟩
   have HWR : Hid (Below wr.heap.size wr W) := by show Below _ _ _; rw [hW]; exact below_alloc _ _
   have hcell := CC.out c _ _ W (below_keep HBW.out HWR.out) (K1.out.later IntR.lasts HWR.out) (K2.out.later ValR.lasts HWR.out)
   rw [hW] at hcell
   have CE := Lib.hid hcell
   have HI1 : Hid (i + 1 ≤ l.length) := hlt
   have HI2 : Hid (l.length - (i + 1) < l.length - i) := by show _ < _; omega
   generalize cellE d a c = r at CE hn
   have HRN := Lib.hid hn
   clear hc hr k1 k2 hcell hn
   by_cases hz : r = 0
   ·subst hz
    have HN2 : Hid (firstE d a (l.drop (i + 1)) = R) := by have := HRN.out; rwa [if_neg (by decide)] at this
    clear HRN
    go_wp2_with fail
    refine CE.out.mono ?_
    rintro e w3 ⟨rfl, hb3⟩
    rw [← hW] at hb3
    have HB3 := Lib.hid (below_keep HBR.out (below_keep HWR.out hb3))
    clear hb3 CE hW
    go_wp2
    exact ⟨⟨i + 1, HI1.out, by go_num, HN2.out, HB3.out⟩, HI2.out⟩
   ·have HRR : Hid (firstE d a l = r) := by show _ = _; rw [← HR.out, ← HRN.out, if_pos hz]
    have HZ := Lib.hid hz
    have hz' : (r != 0) = true := by rw [bne_iff_ne]; exact hz
    clear hz HRN
    go_wp2_with fail
    refine CE.out.mono ?_
    rintro e w3 ⟨rfl, hb3⟩
    rw [← hW] at hb3
    have HB3 := Lib.hid (below_keep HBR.out (below_keep HWR.out hb3))
    obtain ⟨⟨r0, r1, r2⟩, ⟨f0, f1, f2⟩, -⟩ := HX0.out w3 HB3.out
    clear hb3 CE hW
    go_wp2
    refine bodyPost_ret (by simp [results, Tryz.results10, go_sem, r0, r1, r2]; try rfl) rfl ?_
    exact RetMk.bad HZ.out (fun S _ _ => by rw [← HRR.out]; exact makeE_first H0.out.1 H0.out.2 (by rw [HRR.out]; exact HZ.out)) (below_arr (below_keep HB0.out HB3.out) _ (Nat.le_refl _) _ _ _)
  ·obtain rfl : i = l.length := by omega
   have HF0 : Hid (firstE d a l = 0) := by
    show _ = _
    rw [← HR.out, ← HN.out, List.drop_length]
    rfl
   clear HN hi hlt
   go_wp2_with fail
   refine (CF.out _ HBW.out).mono ?_
   rintro e w3 ⟨v1, v2, v3, rfl, hd1, td1, ha2, ta2, ho, hb⟩
   have HB3 := Lib.hid hb
   have HSB := Lib.hid (sortByC_any wr.heap.size v3 (w3.alloc (.cells #[v1, v2, v3] 29)) l (ho.later (below_alloc _ _)) (by omega))
   have HMK := Lib.hid (fun (w4 : World) (S : List CellT) (hS : CellsN wr.heap.size w4 v3 S) (hg : (w3.alloc (.cells #[v1, v2, v3] 29)).grownBy w4 v3.ownBlock) => mkO_sorted hd1 td1 ha2 ta2 ho hS hg)
   have HGB : Hid (∀ w4, (w3.alloc (.cells #[v1, v2, v3] 29)).grownBy w4 v3.ownBlock → Below wr.heap.size wr w4) := fun w4 hg => (below_keep hb (below_alloc _ _)).grown hg (Nat.le_trans hb.size (below_alloc _ _).size) (fun k e => ho.lt k e)
   obtain ⟨a1, b1, rfl, -⟩ := hd1.shape
   obtain ⟨a2, b2, rfl, -⟩ := ha2.shape
   obtain ⟨a3, b3, rfl, -⟩ := ho.cells.shape
   clear hd1 td1 ha2 ta2 ho hb
   go_wp2_with fail
   refine HSB.out.mono ?_
   rintro e w4 ⟨rfl, S, hp, hss, hc, hg⟩
   have HP := Lib.hid hp
   have HSS := Lib.hid hss
   have HO := Lib.hid (HMK.out w4 S hc hg)
   have HB4 := Lib.hid (HGB.out w4 hg)
   have HSL : Hid (S.length = l.length) := hp.length_eq
   have HN3 : Hid (w.heap.size < wr.heap.size) := by show _ < _; have := HBR.out.size; have := HW0.out; omega
   have HC := Lib.hid hc
   clear hp hss hc hg HSB HMK HGB
   go_wp2
   go_loopw [13] (fun iv wz => ∃ k : Nat, k ≤ S.length ∧ iv = .int .i64 ((k : Int) + 1) ∧ Hid (dupC (S.drop k) = dupC S) ∧ Below w4.heap.size w4 wz) (fun iv _ => S.length + 1 - (intOf iv).toNat)
   case atStart => exact ⟨0, Nat.zero_le _, rfl, rfl, Below.refl _ _⟩
   case round =>
    obtain ⟨k, hk, rfl, HN, hb⟩ := hrel
    have HBZ := Lib.hid hb
    have hsl := HSL.out
    obtain ⟨d0, d1, d2, -⟩ := HO.out.later hb
    clear hb
    by_cases hlt : k + 1 < S.length
    ·obtain ⟨g, o, x, ea, hx, hrx⟩ := HC.out.cells.at k (by omega)
     subst ea
     obtain ⟨g', o', y, ea, hy, hry⟩ := HC.out.cells.at (k + 1) hlt
     injection ea with ea
     injection ea with eg eo _
     subst eg eo
     have HNX : Hid ((decide (x.co = y.co) || dupC (S.drop (k + 1))) = dupC S) := by show _ = _; rw [← HN.out, dupC_drop hx hy]
     obtain ⟨u1, u2, f1, f2, m1, m2⟩ := hrx.ex
     obtain ⟨u3, u4, f3, f4, m3, m4⟩ := hry.ex
     have CP := Lib.hid (fun w9 (hb : Below wr.heap.size wr w9) => compare_any x.co y.co u1 u3 w9 ((m1.later IntR.lasts HBZ.out).later IntR.lasts hb) ((m3.later IntR.lasts HBZ.out).later IntR.lasts hb))
     have f1 := cell_later f1 HBZ.out
     have f3 := cell_later f3 HBZ.out
     obtain ⟨q1, c1, rfl, -⟩ := m1.shape
     obtain ⟨q3, c3, rfl, -⟩ := m3.shape
     have K : Hid (∀ w', Below wr.heap.size wr w' → w'.cell? ⟨w3.heap.size, 2, none⟩ = some (.slice (some ⟨g, o, none⟩) l.length b3) ∧ w'.cell? ⟨g, o + k * 2, none⟩ = some (.slice q1 x.co.length c1) ∧ w'.cell? ⟨g, o + (k + 1) * 2, none⟩ = some (.slice q3 y.co.length c3) ∧ Below wr.heap.size wr w') := fun w' hb => ⟨cell_later d2 hb, cell_later f1 hb, cell_later f3 hb, hb⟩
     have HE0 : Hid (cmpI x.co y.co = 0 ↔ x.co = y.co) := cmpI_zero
     generalize cmpI x.co y.co = q at CP HE0
     have HI1 : Hid (k + 1 ≤ S.length ∧ S.length + 1 - (k + 1 + 1) < S.length + 1 - (k + 1)) := by show _ ∧ _; omega
     have b0 : (0 : Int) ≤ (k : Int) := by omega
     have b1 : (k : Int) < (l.length : Int) := by omega
     have b2 : (k : Int) + 1 < (l.length : Int) := by omega
     have b3' : IntKind.i64.wrap (k : Int) = (k : Int) := IntWalk.i64_in _ (by omega)
     have b4 : IntKind.i64.wrap ((k : Int) + 1 - 1) = (k : Int) := by rw [Int.add_sub_cancel]; exact b3'
     have b5 : ((k : Int) + 1).toNat = k + 1 := by omega
     have b6 : (0 : Int) ≤ (k : Int) + 1 := by omega
     clear hx hy hrx hry f2 f4 m1 m2 m3 m4 hlt hk f1 f3 d0 d1 hsl
     go_wp2_with fail
     clear d2
     go_region_held3 (fun w' => w'.cell? ⟨w3.heap.size, 2, none⟩ = some (.slice (some ⟨g, o, none⟩) l.length b3) ∧ w'.cell? ⟨g, o + k * 2, none⟩ = some (.slice q1 x.co.length c1) ∧ w'.cell? ⟨g, o + (k + 1) * 2, none⟩ = some (.slice q3 y.co.length c3) ∧ Below wr.heap.size wr w')
      (first | exact K.out _ (Below.refl _ _).drew | exact K.out _ (by assumption))
      ((go_at_call 37; refine (CP.out _ (Below.refl _ _).drew).mono ?_; rintro e w5 ⟨rfl, rfl⟩; have hb6 : Below wr.heap.size wr wr.drew := (Below.refl _ _).drew))
     have HB6 := Lib.hid (below_keep HBZ.out hb6)
     clear hb6 CP K b3' b4 b5
     by_cases hz : q = 0
     ·subst hz
      have HDU : Hid (dupC S = true) := by show _ = _; rw [← HNX.out, decide_eq_true (HE0.out.1 rfl)]; rfl
      obtain ⟨⟨r0, r1, r2⟩, ⟨f0, f1, f2⟩, -⟩ := HX0.out wr (below_keep HBR.out (below_keep HB4.out HBZ.out))
      go_wp2
      refine bodyPost_ret (by simp [results, Tryz.results10, go_sem, r0, r1, r2]; try rfl) rfl ?_
      exact RetMk.dup HP.out HSS.out (makeE_dup H0.out.1 H0.out.2 HF0.out HDU.out) (below_arr (below_keep HBW.out (below_keep HB4.out HB6.out)) _ (Nat.le_refl _) _ _ _)
     ·have HN2 : Hid (dupC (S.drop (k + 1)) = dupC S) := by show _ = _; rw [← HNX.out, decide_eq_false (fun h => hz (HE0.out.2 h))]; rfl
      have hz' : (q == 0) = false := by rw [beq_eq_false_iff_ne]; exact hz
      clear hz HNX HE0
      go_wp2
      exact ⟨⟨k + 1, HI1.out.1, by go_num, HN2.out, HB6.out⟩, by show S.length + 1 - (intOf (Value.int .i64 _)).toNat < S.length + 1 - (intOf (Value.int .i64 ((k : Int) + 1))).toNat; have := HI1.out.1; simp only [intOf]; omega⟩
    ·have HDU : Hid (dupC S = false) := by show _ = _; rw [← HN.out, dupC_end (by omega)]
     have b2 : ¬ (k : Int) + 1 < (l.length : Int) := by omega
     obtain ⟨⟨r0, r1, r2⟩, ⟨f0, f1, f2⟩, tg⟩ := HX0.out _ (below_keep HBR.out (below_keep HB4.out HBZ.out))
     have HM := Lib.hid (HO.out.later HBZ.out)
     have HD := Lib.hid (fun x y t => RetMk.ok (x := x) (y := y) (t := t) HP.out HSS.out (makeE_ok H0.out.1 H0.out.2 HF0.out HDU.out) HM.out.dm HM.out.td HM.out.at' HM.out.ta HM.out.own tg (below_keep HBW.out (below_keep HB4.out HBZ.out)) (Nat.le_refl _) HN3.out)
     clear HN hlt hk tg hsl
     go_wp2
     refine bodyPost_ret (by simp [results, Tryz.results10, go_sem, r0, r1, r2]; try rfl) rfl ?_
     exact HD.out _ _ _
theorem make_any (d : List DimT) (a : List AttrT) (l : List CellT) (vd va vl : Value) (w : World) (hd : Dims w vd d) (ha : Attrs w va a) (hl : CellsA w vl l) (hs : StrD d) (hsa : StrA a) (ld : d.length ≤ 1000000) (la : a.length ≤ 1000000) (lc : ShortC l) :
  Calls Tryz.prog 10 #[vd, va, vl] w (RetMk d a l w) := by
 by_cases h : schemaE d a = 0
 ·by_cases h2 : l.length ≤ 4096
  ·exact make_core d a l vd va vl w hd ha hl hs hsa ld la lc h h2
  ·exact make_many d a l vd va vl w hd ha hl hs hsa h (by omega)
 ·exact make_schema d a l vd va vl w hd ha hl hs hsa h
end Go.Proofs.YthlkcppbljpooaaGreatDoor
