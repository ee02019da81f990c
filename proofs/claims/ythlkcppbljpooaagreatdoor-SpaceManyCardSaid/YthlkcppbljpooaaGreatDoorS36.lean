/- space.fresh: the contract. (printed by fresh.py) -/
import Derived.Deep.DeepCutAuto
import Derived.Deep.CutBlock
import Derived.Lib.SliceRun
import Derived.Lib.AppendZeros
import Derived.Test.YthlkcppbljpooaaGreatDoorS35
import Derived.Test.YthlkcppbljpooaaGreatDoorS60
namespace Go.Proofs.YthlkcppbljpooaaGreatDoor
open Go.RowKit

theorem arr_zero (w : World) : ∃ W1, W1 = w.alloc (.cells #[.slice none 0 0, .slice none 0 0, .slice none 0 0] 29) ∧ Below w.heap.size w W1 ∧ ∀ w', Below W1.heap.size W1 w' → (w'.cell? ⟨w.heap.size, 0, none⟩ = some (.slice none 0 0) ∧ w'.cell? ⟨w.heap.size, 1, none⟩ = some (.slice none 0 0) ∧ w'.cell? ⟨w.heap.size, 2, none⟩ = some (.slice none 0 0)) ∧ (w'.frozen? ⟨w.heap.size, 0, none⟩ = false ∧ w'.frozen? ⟨w.heap.size, 1, none⟩ = false ∧ w'.frozen? ⟨w.heap.size, 2, none⟩ = false) ∧ TagB w' w.heap.size 29 := by
 refine ⟨_, rfl, below_alloc _ _, fun w' hb => ?_⟩
 have h1 : ∀ j, w'.cell? ⟨w.heap.size, j, none⟩ = (w.alloc (.cells #[.slice none 0 0, .slice none 0 0, .slice none 0 0] 29)).cell? ⟨w.heap.size, j, none⟩ := fun j => hb.cell (p := ⟨w.heap.size, j, none⟩) (by simp)
 have h2 : ∀ j, w'.frozen? ⟨w.heap.size, j, none⟩ = (w.alloc (.cells #[.slice none 0 0, .slice none 0 0, .slice none 0 0] 29)).frozen? ⟨w.heap.size, j, none⟩ := fun j => hb.frozen (p := ⟨w.heap.size, j, none⟩) (by simp)
 have ht : TagB (w.alloc (.cells #[.slice none 0 0, .slice none 0 0, .slice none 0 0] 29)) w.heap.size 29 := ⟨_, _, World.alloc_heap_new w _⟩
 refine ⟨⟨?_, ?_, ?_⟩, ⟨?_, ?_, ?_⟩, ht.kept (hb.block _ (by simp))⟩
 ·rw [h1, World.cell?_alloc_at _ _ _ _ rfl]; rfl
 ·rw [h1, World.cell?_alloc_at _ _ _ _ rfl]; rfl
 ·rw [h1, World.cell?_alloc_at _ _ _ _ rfl]; rfl
 ·rw [h2]; exact World.frozen?_alloc_at _ _ _ _ rfl
 ·rw [h2]; exact World.frozen?_alloc_at _ _ _ _ rfl
 ·rw [h2]; exact World.frozen?_alloc_at _ _ _ _ rfl
theorem out_made (w : World) (d1 d2 : Value) (D : List DimT) (A : List AttrT) (h1 : Dims w d1 D) (t1 : TagV w d1 43) (h2 : Attrs w d2 A) (t2 : TagV w d2 45) : OutB w.heap.size w.heap.size (w.alloc (.cells #[d1, d2, .slice none 0 0] 29)) d1 d2 (.slice none 0 0) (.slice none 0 0) D A [] := by
 have hb : Below w.heap.size w (w.alloc (.cells #[d1, d2, .slice none 0 0] 29)) := below_alloc _ _
 exact ⟨by rw [World.cell?_alloc_at _ _ _ _ rfl]; rfl, by rw [World.cell?_alloc_at _ _ _ _ rfl]; rfl, by rw [World.cell?_alloc_at _ _ _ _ rfl]; rfl, World.frozen?_alloc_at _ _ _ _ rfl, h1.later DimR.lasts hb, t1.later hb, h2.later AttrR.lasts hb, t2.later hb, CellsO.nil _ _, ⟨_, _, World.alloc_heap_new w _⟩⟩
theorem cel1_at (w : World) (v1 v2 : Value) : ∃ W1, W1 = w.alloc (.cells #[v1, v2] 38) ∧ Below w.heap.size w W1 ∧ W1.cell? ⟨w.heap.size, 0, none⟩ = some v1 ∧ W1.cell? ⟨w.heap.size, 1, none⟩ = some v2 :=
 ⟨_, rfl, below_alloc _ _, by rw [World.cell?_alloc_at _ _ _ _ rfl]; rfl, by rw [World.cell?_alloc_at _ _ _ _ rfl]; rfl⟩
/-- the cells of a list are short -/
def ShortC (l : List CellT) : Prop := ∀ c ∈ l, c.co.length ≤ 1000000 ∧ c.vals.length ≤ 1000000
/-- behind the last store into the result -/
theorem arr_done {w z : World} {g n : Nat} {v1 v2 v3 x y t : Value} {X : ArrT} (h1 : Dims z v1 X.dims) (t1 : TagV z v1 43) (h2 : Attrs z v2 X.attrs) (t2 : TagV z v2 45) (h3 : CellsO n z v3 X.cells) (ht : TagB z g 29) (hb : Below w.heap.size w z) (hg : w.heap.size ≤ g) (hn : w.heap.size ≤ n) :
  Dims (((z.setCell ⟨g, 0, none⟩ x).setCell ⟨g, 1, none⟩ y).setCell ⟨g, 2, none⟩ t) v1 X.dims ∧ TagV (((z.setCell ⟨g, 0, none⟩ x).setCell ⟨g, 1, none⟩ y).setCell ⟨g, 2, none⟩ t) v1 43 ∧ Attrs (((z.setCell ⟨g, 0, none⟩ x).setCell ⟨g, 1, none⟩ y).setCell ⟨g, 2, none⟩ t) v2 X.attrs ∧ TagV (((z.setCell ⟨g, 0, none⟩ x).setCell ⟨g, 1, none⟩ y).setCell ⟨g, 2, none⟩ t) v2 45 ∧ CellsO w.heap.size (((z.setCell ⟨g, 0, none⟩ x).setCell ⟨g, 1, none⟩ y).setCell ⟨g, 2, none⟩ t) v3 X.cells ∧ Below w.heap.size w (((z.setCell ⟨g, 0, none⟩ x).setCell ⟨g, 1, none⟩ y).setCell ⟨g, 2, none⟩ t) := by
 have hbl : ∀ b, b ≠ g → (((z.setCell ⟨g, 0, none⟩ x).setCell ⟨g, 1, none⟩ y).setCell ⟨g, 2, none⟩ t).heap[b]? = z.heap[b]? := fun b hb => (Below.heap_setCell _ ⟨g, 2, none⟩ t b hb).trans (set2_block z g b x y hb)
 have n1 : ∀ b, v1.ownBlock = some b → _ := fun b hb => hbl b ((t1 b hb).ne ht (by decide))
 have n2 : ∀ b, v2.ownBlock = some b → _ := fun b hb => hbl b ((t2 b hb).ne ht (by decide))
 have hg3 : z.grownBy (((z.setCell ⟨g, 0, none⟩ x).setCell ⟨g, 1, none⟩ y).setCell ⟨g, 2, none⟩ t) (some g) := ((grown_setG z g 0 x).trans (grown_setG _ g 1 y)).trans (grown_setG _ g 2 t)
 exact ⟨h1.kept DimR.local n1, t1.kept n1, h2.kept AttrR.local n2, t2.kept n2, (h3.kept hg3 (fun r e e2 => by cases e; exact (h3.tag g e2).ne ht (by decide) rfl) (fun r e => by cases e; exact not_tag ht (by decide) (by decide))).base hn, ((hb.setCell (p := ⟨g, 0, none⟩) hg _).setCell (p := ⟨g, 1, none⟩) hg _).setCell (p := ⟨g, 2, none⟩) hg _⟩
set_option maxHeartbeats 16000000 in
set_option maxRecDepth 100000 in
theorem fresh_any (d : List DimT) (a : List AttrT) (l : List CellT) (vd va vl : Value) (w : World) (hd : Dims w vd d) (ha : Attrs w va a) (hl : CellsA w vl l) (ld : d.length ≤ 1000000) (la : a.length ≤ 1000000) (ll : l.length ≤ 1000000) (lc : ShortC l) :
  Calls Tryz.prog 34 #[vd, va, vl] w (RetAr ⟨d, a, l⟩ w) := by
 have CD := Lib.hid (fun w1 (hb : Below w.heap.size w w1) => cloneDim_any d vd w1 (hd.later DimR.lasts hb) ld)
 have CA := Lib.hid (fun w1 (hb : Below w.heap.size w w1) => cloneAttr_any a va w1 (ha.later AttrR.lasts hb) la)
 have HL := Lib.hid hl
 have HLC := Lib.hid lc
 obtain ⟨p0, k0, rfl, -⟩ := hd.shape
 obtain ⟨p1, k1, rfl, -⟩ := ha.shape
 obtain ⟨p2, k2, rfl, -⟩ := hl.shape
 obtain ⟨W0, hW0, hb0, hx0⟩ := arr_zero w
 have HB0 := Lib.hid hb0
 have HX0 := Lib.hid hx0
 obtain ⟨j0, hj0, hy0, hy1, hy2⟩ := info_parts infoCell
 clear hd ha hl ld la lc hb0 hx0
 go_enter Tryz.func34, Tryz.ntmps34
 go_wp2_with fail
 rw [← hW0]
 clear hW0
 refine (CD.out _ HB0.out).mono ?_
 rintro e w1 ⟨d1, rfl, hd1, td1, hb⟩
 have B1 := Lib.hid hb
 have HD1 := Lib.hid (And.intro hd1 td1.tag)
 obtain ⟨a1, b1, rfl, -⟩ := hd1.shape
 clear hb hd1 td1 CD
 go_wp2_with fail
 refine (CA.out _ (below_keep HB0.out B1.out)).mono ?_
 rintro e w2 ⟨d2, rfl, hd2, td2, hb⟩
 have B2 := Lib.hid (below_keep B1.out hb)
 have HOM := Lib.hid (out_made w2 (.slice a1 d.length b1) d2 d a (HD1.out.1.later DimR.lasts hb) (HD1.out.2.later hb) hd2 td2.tag)
 obtain ⟨a2, b2, rfl, -⟩ := hd2.shape
 obtain ⟨W1, hW1⟩ : ∃ W1, W1 = w2.alloc (.cells #[.slice a1 d.length b1, .slice a2 a.length b2, .slice none 0 0] 29) := ⟨_, rfl⟩
 have HBA : Hid (Below w2.heap.size w2 W1) := by show Below _ _ _; rw [hW1]; exact below_alloc _ _
 rw [← hW1] at HOM
 clear hb hd2 td2 CA HD1
 go_upto_region 2 with (fail)
 rw [← hW1]
 clear hW1
 go_wp2
 go_loopw [17] (fun iv wr => ∃ (i : Nat) (v : Value), i ≤ l.length ∧ iv = .int .i64 (i : Nat) ∧ OutB w2.heap.size w2.heap.size wr (.slice a1 d.length b1) (.slice a2 a.length b2) v v d a (l.take i) ∧ Below w2.heap.size w2 wr) (fun iv _ => l.length - (intOf iv).toNat)
 case atStart => exact ⟨0, _, Nat.zero_le _, rfl, HOM.out, HBA.out⟩
 case round =>
  obtain ⟨i, v, hi, rfl, ho, hb⟩ := hrel
  have HBR := Lib.hid hb
  have HBW : Hid (Below w.heap.size w wr) := below_keep (below_keep HB0.out B2.out) ((hb.mono (Nat.le_refl _)))
  have HOR := Lib.hid ho
  by_cases hlt : i < l.length
  ·obtain ⟨gc, oc, c, ec, hc, hr⟩ := HL.out.at i hlt
   subst ec
   obtain ⟨x1, x2, c0, c1, hx1, hx2⟩ := hr
   obtain ⟨m1, m2⟩ := HLC.out c (List.mem_of_getElem? hc)
   have CC0 := Lib.hid (fun w9 (hb9 : Below w.heap.size w w9) => copied_any c x1 x2 w9 (hx1.later IntR.lasts hb9) (hx2.later ValR.lasts hb9) m1 m2)
   obtain ⟨q1, r1, rfl, -⟩ := hx1.shape
   obtain ⟨q2, r2, rfl, -⟩ := hx2.shape
   have c0 := cell_later c0 HBW.out
   have c1 := cell_later c1 HBW.out
   obtain ⟨W9, hW9, hb9, z0, z1⟩ := cel1_at wr (.slice q1 c.co.length r1) (.slice q2 c.vals.length r2)
   have HO : Hid (OutB w2.heap.size w2.heap.size W9 (.slice a1 d.length b1) (.slice a2 a.length b2) v v d a (l.take i)) := ho.later hb9
   have CC : Hid (∀ w9, Below w2.heap.size W9 w9 → Calls Tryz.prog 76 #[.agg #[.slice q1 c.co.length r1, .slice q2 c.vals.length r2]] w9 (RetCe c w9)) := fun w9 h9 =>
    CC0.out w9 ((below_keep HBW.out hb9).trans (h9.mono (below_keep HB0.out B2.out).size))
   have HN : Hid (∀ wx, Below w2.heap.size W9 wx → w2.heap.size ≤ wx.heap.size) := fun wx h => Nat.le_trans (Nat.le_trans hb.size hb9.size) h.size
   have HGN : Hid (w2.heap.size ≤ w2.heap.size) := Nat.le_refl _
   have hpg : wr.heap.size ≠ w2.heap.size := by have := ho.tag.lt; omega
   have hpv : v.ownBlock ≠ some wr.heap.size := fun e => by have := (ho.own.tag _ e).lt; omega
   have hpl : wr.heap.size < W9.heap.size := World.block_lt_of_cell? _ _ z0
   have KP : Hid (∀ (wx : World), (∀ b, b < W9.heap.size → b ≠ w2.heap.size → v.ownBlock ≠ some b → wx.heap[b]? = W9.heap[b]?) → wx.cell? ⟨wr.heap.size, 0, none⟩ = some (.slice q1 c.co.length r1) ∧ wx.cell? ⟨wr.heap.size, 1, none⟩ = some (.slice q2 c.vals.length r2)) := fun wx h =>
    ⟨(World.cell?_of_block (a := ⟨wr.heap.size, 0, none⟩) (h _ hpl hpg hpv)).trans z0, (World.cell?_of_block (a := ⟨wr.heap.size, 1, none⟩) (h _ hpl hpg hpv)).trans z1⟩
   have HLL : Hid ((l.take i).length ≤ 1000000) := by show _ ≤ _; rw [List.length_take]; omega
   have HTK := Lib.hid (take_snoc' hc)
   have HBZ := Lib.hid (below_keep HBR.out hb9)
   have HI1 : Hid (i + 1 ≤ l.length ∧ l.length - (i + 1) < l.length - i) := by show _ ∧ _; omega
   have ib0 : (0 : Int) ≤ (i : Int) := by omega
   have ib1 : (i : Int) < (l.length : Int) := by omega
   clear hb ho hc hx1 hx2 m1 m2 hb9 z0 z1 hpg hpv hpl hi hlt CC0
   go_upto_region 5 with (fail)
   rw [← hW9]
   clear hW9 c0 c1
   refine wp_region_inv [some 21, some 22, some 23, some 24, some 25, some 26, some 27, none] (CoJ [some (.pointer (some ⟨w2.heap.size, 2, none⟩)), some (v), some (.agg #[.slice q1 c.co.length r1, .slice q2 c.vals.length r2]), none, none, none, some (.pointer (some ⟨w2.heap.size, 2, none⟩)), none] 3 4 5 7 w2.heap.size w2.heap.size W9 (.slice a1 d.length b1) (.slice a2 a.length b2) v d a (l.take i) c) rfl (by kernel_rfl) (by kernel_rfl) (by kernel_rfl) (by kernel_rfl) ?_ ?_ ?_
   ·exact CoJ.start HO.out
   ·intro i9 op9 ho
    have hi9 : i9 < 8 := (Array.getElem?_eq_some_iff.1 ho).1
    match i9, hi9 with
    | 0, _ =>
     obtain rfl := Option.some.inj ho
     intro a9 dn vals wx hJ0 hdi hde hdj hev hsl hun
     have hJ := Lib.hid hJ0
     rw [if_pos (wanted_none rfl)]
     have f7 : (a9.tmps[7]?).getD undef = .pointer (some ⟨w2.heap.size, 0, none⟩) := hev 7 (by kernel_rfl)
     clear hde hdj hev hsl hun hJ0 hdi
     go_simp
     exact hJ.out.step (HN.out wx hJ.out.below) (by decide) (by decide) (by decide) (by decide) (.inl rfl) (Below.refl _ _)
    | 1, _ =>
     obtain rfl := Option.some.inj ho
     intro a9 dn vals wx hJ0 hdi hde hdj hev hsl hun
     have hJ := Lib.hid hJ0
     rw [if_pos (wanted_none rfl)]
     have f21 : (a9.tmps[21]?).getD undef = .pointer (some ⟨w2.heap.size, 2, none⟩) := (hsl 0 21 (hde 0 _ rfl rfl) rfl).trans (hJ.out.fv 0 _ rfl (hde 0 _ rfl rfl))
     have n5 : Hid (dn 5 = false) := hdj 5 0 _ _ rfl rfl rfl rfl
     have n7 : Hid (dn 7 = false) := hdj 7 4 _ _ rfl rfl rfl rfl
     have hS := hJ.out.s0 n5.out n7.out
     have c2 := hS.c2
     clear hde hdj hev hsl hun hJ0 hdi
     clear n5 n7 hS
     go_simp
     exact hJ.out.step (HN.out wx hJ.out.below) (by decide) (by decide) (by decide) (by decide) (.inl rfl) (Below.refl _ _)
    | 2, _ =>
     obtain rfl := Option.some.inj ho
     intro a9 dn vals wx hJ0 hdi hde hdj hev hsl hun
     have hJ := Lib.hid hJ0
     rw [if_pos (wanted_none rfl)]
     have f9 : (a9.tmps[9]?).getD undef = .pointer (some ⟨wr.heap.size, 0, none⟩) := hev 9 (by kernel_rfl)
     obtain ⟨c0, c1⟩ := KP.out wx hJ.out.kp
     clear hde hdj hev hsl hun hJ0 hdi
     go_simp
     exact hJ.out.step (HN.out wx hJ.out.below) (by decide) (by decide) (by decide) (by decide) (.inl rfl) (Below.refl _ _)
    | 3, _ =>
     obtain rfl := Option.some.inj ho
     intro a9 dn vals wx hJ0 hdi hde hdj hev hsl hun
     have hJ := Lib.hid hJ0
     rw [if_pos (wanted_none rfl)]
     have f23 : (a9.tmps[23]?).getD undef = .agg #[.slice q1 c.co.length r1, .slice q2 c.vals.length r2] := (hsl 2 23 (hde 0 _ rfl rfl) rfl).trans (hJ.out.fv 2 _ rfl (hde 0 _ rfl rfl))
     have n4 : Hid (dn 4 = false) := hdj 4 0 _ _ rfl rfl rfl rfl
     clear hde hdj hev hsl hun hJ0 hdi
     go_simp
     exact (CC.out wx hJ.out.below).mono fun e w9 ⟨u1, u2, he, q1, q2, q3, q4, hb9⟩ => ⟨_, he, hJ.out.call (HN.out wx hJ.out.below) (by decide) (by decide) (by decide) n4.out rfl hb9 ⟨q1, q2.base (HN.out wx hJ.out.below), q3, q4.base (HN.out wx hJ.out.below)⟩⟩
    | 4, _ =>
     obtain rfl := Option.some.inj ho
     intro a9 dn vals wx hJ0 hdi hde hdj hev hsl hun
     have hJ := Lib.hid hJ0
     rw [if_pos (wanted_none rfl)]
     have f24 : (a9.tmps[24]?).getD undef = vals 3 := hsl 3 24 (hde 0 _ rfl rfl) rfl
     have d3 : Hid (dn 3 = true) := hde 0 _ rfl rfl
     have n5 : Hid (dn 5 = false) := hdj 5 1 _ _ rfl rfl rfl rfl
     obtain ⟨u1, u2, ec, hce⟩ := hJ.out.fc d3.out n5.out
     obtain ⟨a1, b1, e1, -⟩ := hce.i.shape
     obtain ⟨a2, b2, e2, -⟩ := hce.v.shape
     rw [ec, e1, e2] at f24
     rw [e1, e2] at hce
     have HCE := Lib.hid hce
     clear hde hdj hev hsl hun hJ0 hdi
     clear e1 e2 ec hce
     go_simp
     exact hJ.out.build (HN.out wx hJ.out.below) (by decide) (by decide) (by decide) rfl HCE.out
    | 5, _ =>
     obtain rfl := Option.some.inj ho
     intro a9 dn vals wx hJ0 hdi hde hdj hev hsl hun
     have hJ := Lib.hid hJ0
     rw [if_pos (wanted_none rfl)]
     have f22 : (a9.tmps[22]?).getD undef = v := (hsl 1 22 (hde 0 _ rfl rfl) rfl).trans (hJ.out.fv 1 _ rfl (hde 0 _ rfl rfl))
     have f25 : (a9.tmps[25]?).getD undef = vals 4 := hsl 4 25 (hde 1 _ rfl rfl) rfl
     have n7 : Hid (dn 7 = false) := hdj 7 1 _ _ rfl rfl rfl rfl
     have d4 : Hid (dn 4 = true) := hde 1 _ rfl rfl
     obtain ⟨b9, u1, u2, eb, k1, k2, hce⟩ := hJ.out.fb d4.out hdi
     rw [eb] at f25
     have hS := hJ.out.s0 hdi n7.out
     obtain ⟨us, hul, hus, hux⟩ := hS.own.ex
     obtain ⟨a1, b1, e1, -⟩ := hce.i.shape
     obtain ⟨a2, b2, e2, -⟩ := hce.v.shape
     obtain ⟨g9, cap9, w9, hrun, hown, hgr, hat, hlt9⟩ := run_append_lies (P := Tryz.prog) (w := wx) 24 24 w2.heap.size 38 j0 (.agg #[.slice none 0 0, .slice none 0 0]) 2 48 Tryz.underlying24 hj0 hy0 hy1 hy2 rfl (by decide) v (l.take i).length _ hus ⟨b9, 0, none⟩ 1 1 [u1, u2] rfl (fun t x ht => by
        match t, ht with
        | 0, ht => simp at ht; subst ht; exact k1
        | 1, ht => simp at ht; subst ht; exact k2) (fun x hx => by simp at hx; rcases hx with h | h <;> subst h <;> first | (rw [e1]; rfl) | (rw [e2]; rfl)) (by decide) (by have := HLL.out; unfold maxLen; omega) (by have := HLL.out; omega) (HN.out wx hJ.out.below) _ rfl
     have HF := Lib.hid (hJ.out.append (HN.out wx hJ.out.below) (by decide) rfl hdi n7.out hgr (CellsO.snoc hul hus hux hown hgr hce))
     have HRUN := Lib.hid hrun
     clear hde hdj hev hsl hun hJ0 hdi
     clear hrun hown hgr hat hlt9 hS hul hus hux hce e1 e2 k1 k2 eb
     refine does_append2 (s := .tmp 22) (x := .tmp 25) (T := 24) rfl (by rw [eval_tmp]; exact f22) (by rw [eval_tmp]; exact f25) HRUN.out HF.out
    | 6, _ =>
     obtain rfl := Option.some.inj ho
     intro a9 dn vals wx hJ0 hdi hde hdj hev hsl hun
     have hJ := Lib.hid hJ0
     rw [if_pos (wanted_none rfl)]
     have f7 : (a9.tmps[7]?).getD undef = .pointer (some ⟨w2.heap.size, 0, none⟩) := hev 7 (by kernel_rfl)
     clear hde hdj hev hsl hun hJ0 hdi
     go_simp
     exact hJ.out.step (HN.out wx hJ.out.below) (by decide) (by decide) (by decide) (by decide) (.inl rfl) (Below.refl _ _)
    | 7, _ =>
     obtain rfl := Option.some.inj ho
     intro a9 dn vals wx hJ0 hdi hde hdj hev hsl hun
     have hJ := Lib.hid hJ0
     rw [if_pos (wanted_none rfl)]
     have f27 : (a9.tmps[27]?).getD undef = .pointer (some ⟨w2.heap.size, 2, none⟩) := (hsl 6 27 (hde 0 _ rfl rfl) rfl).trans (hJ.out.fv 6 _ rfl (hde 0 _ rfl rfl))
     have f26 : (a9.tmps[26]?).getD undef = vals 5 := hsl 5 26 (hde 1 _ rfl rfl) rfl
     have d5 : Hid (dn 5 = true) := hde 1 _ rfl rfl
     have hS := hJ.out.s1 d5.out hdi
     have c2 := hS.c2
     have cf := hS.f2
     have HF := Lib.hid (fun x => hJ.out.store (x := x) HGN.out (by decide) rfl d5.out hdi)
     obtain ⟨av, cv, ev, -⟩ := hS.own.cells.shape
     obtain ⟨nv, ev⟩ : ∃ n, vals 5 = .slice av n cv := ⟨_, ev⟩
     rw [ev] at f26
     simp only [ev] at HF
     clear hde hdj hev hsl hun hJ0 hdi
     clear hS ev
     go_simp
     exact HF.out _
   ·intro dn vals wx hall hJ
    have hS := hJ.s2 (hall 7 (by decide))
    have hb9 := hJ.below
    have g0 := hJ.fv 0 _ rfl (hall 0 (by decide))
    have g1 := hJ.fv 1 _ rfl (hall 1 (by decide))
    have g2 := hJ.fv 2 _ rfl (hall 2 (by decide))
    have g6 := hJ.fv 6 _ rfl (hall 6 (by decide))
    obtain ⟨x3, hx3⟩ : ∃ x, x = vals 5 := ⟨_, rfl⟩
    rw [← hx3] at hS
    have HS9 := Lib.hid hS
    have HB9 := Lib.hid hb9
    simp only [putDs, Act.put, Nat.zero_add, Nat.reduceAdd, List.setIfInBounds_toArray, List.set_cons_succ, List.set_cons_zero, g0, g1, g2, g6]
    clear g0 g1 g2 g6 hS hb9 hJ hall hx3
    rw [← HTK.out] at HS9
    have HBE := Lib.hid (HBZ.out.trans (HB9.out.mono (Nat.le_refl _)))
    clear HB9
    go_wp2
    exact ⟨⟨i + 1, _, HI1.out.1, by go_num, HS9.out, HBE.out⟩, HI1.out.2⟩
  ·obtain rfl : i = l.length := by omega
   rw [List.take_length] at ho
   have HOE := Lib.hid ho
   obtain ⟨c0, c1, c2, -, -, -, -, -, ow, -⟩ := ho
   obtain ⟨av, cv, rfl, -⟩ := ow.cells.shape
   have hx := HX0.out wr (below_keep B2.out hb)
   obtain ⟨⟨r0, r1, r2⟩, ⟨f0, f1, f2⟩, tg⟩ := hx
   have HD := Lib.hid (fun x y t => arr_done (w := w) (X := ⟨d, a, l⟩) (x := x) (y := y) (t := t) HOE.out.dm HOE.out.td HOE.out.at' HOE.out.ta HOE.out.own tg HBW.out (Nat.le_refl _) (below_keep HB0.out B2.out).size)
   clear hb hi hlt tg ow
   go_wp2
   refine bodyPost_ret (by simp [results, Tryz.results34, go_sem, r0, r1, r2]; try rfl) rfl ?_
   obtain ⟨q1, q2, q3, q4, q5, q6⟩ := HD.out (.slice a1 d.length b1) (.slice a2 a.length b2) (.slice av l.length cv)
   exact ⟨_, _, _, rfl, q1, q2, q3, q4, q5, q6⟩
end Go.Proofs.YthlkcppbljpooaaGreatDoor
