/- Lemmas and contracts, each under its own condition: The walk of SpaceDatabase. Arguments of the laws of space as they are read: databases. -/
import Derived.BigQuiet
import Derived.Deep.DeepCutAuto
import Derived.Deep.CutBlock
import Derived.Test.YtpdhlgkcjakcgaaGreatDoorS15
import Derived.Test.YtpdhlgkcjakcgaaGreatDoorS17
import Derived.Test.YtpdhlgkcjakcgaaGreatDoorS22
import Derived.Test.YtpdhlgkcjakcgaaGreatDoorS32
import Derived.Test.YtpdhlgkcjakcgaaGreatDoorS34
import Derived.Test.YtpdhlgkcjakcgaaGreatDoorS37
/- The walk of SpaceDatabase. -/
namespace Go.Proofs.YtpdhlgkcjakcgaaGreatDoor
open Go.RowKit

theorem few_arr {x : ArrT} (h : FewS x 20) : ArrS x :=
  ⟨by have := h.schema.dims; omega, by have := h.schema.attrs; omega, by have := h.cells.len; omega, fun c hc => by have h1 := (h.cells.cell c hc).co; have h2 := (h.cells.cell c hc).vals; exact ⟨by omega, by omega⟩⟩
theorem arr1_at (w : World) (v1 v2 v3 : Value) : ∃ W1, W1 = w.alloc (.cells #[v1, v2, v3] 34) ∧ Below w.heap.size w W1 ∧ ∀ w', Below W1.heap.size W1 w' → w'.cell? ⟨w.heap.size, 0, none⟩ = some v1 ∧ w'.cell? ⟨w.heap.size, 1, none⟩ = some v2 ∧ w'.cell? ⟨w.heap.size, 2, none⟩ = some v3 := by
  refine ⟨_, rfl, below_alloc _ _, fun w' hb => ?_⟩
  have h1 : ∀ j, w'.cell? ⟨w.heap.size, j, none⟩ = (w.alloc (.cells #[v1, v2, v3] 34)).cell? ⟨w.heap.size, j, none⟩ := fun j => hb.cell (p := ⟨w.heap.size, j, none⟩) (by simp)
  refine ⟨?_, ?_, ?_⟩ <;> (rw [h1, World.cell?_alloc_at _ _ _ _ rfl]; rfl)
theorem eqA_self (x : ArrT) : eqA x x = true := by unfold eqA; simp
set_option maxHeartbeats 16000000 in
set_option maxRecDepth 100000 in
theorem spaceDatabase_any (l : List NamT) (nm : List UInt8) (v : Value) (w : World) (hm : Ml w) (hd : Names w v l) (hs : StrN l) (hsc : ∀ x ∈ l, StrC x.arr.cells) :
    Calls Tryz.prog 8 #[v, strV nm] w (RetV' (.bool true) w) := by
  have CW := Lib.hid (fun w1 (hb : Below w.heap.size w w1) => works_any w1 (hm.later hb))
  have CN := Lib.hid (fun (s : List UInt8) w1 => lshort_any s w1)
  have CB1 := Lib.hid (fun w1 (hb : Below w.heap.size w w1) => database_any l v w1 (hd.later NamR.lasts hb) hs)
  have CB2 := Lib.hid (fun w1 (hb : Below w.heap.size w w1) => rdatabase_any l v w1 (hd.later NamR.lasts hb) hs hsc)
  have CF1 := Lib.hid (fun (hz : ∀ x ∈ l, ArrS x.arr) w1 (hb : Below w.heap.size w w1) => find_any l nm v w1 (hd.later NamR.lasts hb) hs hz)
  have CF2 := Lib.hid (fun (hz : ∀ x ∈ l, ArrS x.arr) w1 (hb : Below w.heap.size w w1) => rfind_any l nm v w1 (hd.later NamR.lasts hb) hs hsc hz)
  have HD := Lib.hid hd
  have hll := hd.len
  obtain ⟨p0, k0, rfl, -⟩ := hd.shape
  obtain ⟨E, hE⟩ : ∃ E, E = dbE l := ⟨_, rfl⟩
  obtain ⟨q, hq⟩ : ∃ q, q = findQ l nm := ⟨_, rfl⟩
  rw [← hE] at CB1 CB2
  rw [← hq] at CF1 CF2
  have tE : (E == E) = true := beq_iff_eq.2 rfl
  clear hm hd hs hsc hE hq
  go_enter Tryz.func8, Tryz.ntmps8
  by_cases t0 : 20 < l.length
  · have s0 : decide ((20 : Int) < l.length) = true := decide_eq_true (by omega)
    clear t0
    go_wp2_with fail
    refine (CW.out _ (Below.refl _ _)).mono ?_
    rintro e z1 ⟨rfl, hb⟩
    have HBE := Lib.hid hb
    clear hb CW
    go_wp2
    go_ret
    exact ⟨rfl, HBE.out⟩
  · have s0 : decide ((20 : Int) < l.length) = false := decide_eq_false (by omega)
    have hl20 : l.length ≤ 20 := by omega
    clear t0
    go_wp2_with fail
    refine (CN.out nm _).mono ?_
    rintro e x1 ⟨rfl, hx1⟩
    subst x1
    cases hsn : decide (nm.length ≤ 40) with
    | false =>
      clear hsn
      go_wp2_with fail
      refine (CW.out _ (Below.refl _ _)).mono ?_
      rintro e z1 ⟨rfl, hb⟩
      have HBE := Lib.hid hb
      clear hb CW
      go_wp2
      go_ret
      exact ⟨rfl, HBE.out⟩
    | true =>
      clear hsn s0
      go_wp2
      go_loopw [5] (fun iv wr => ∃ i : Nat, i ≤ l.length ∧ iv = .int .i64 (i : Nat) ∧ Hid (∀ y ∈ l.take i, FewS y.arr 20) ∧ Below w.heap.size w wr) (fun iv _ => l.length - (intOf iv).toNat)
      case atStart => exact ⟨0, Nat.zero_le _, rfl, (fun y hy => by simp at hy), Below.refl _ _⟩
      case round =>
        obtain ⟨i, hi, rfl, HN, hb⟩ := hrel
        have HB := Lib.hid hb
        by_cases hlt : i < l.length
        · obtain ⟨g, o, x, ea, hx, hr⟩ := (HD.out.later NamR.lasts hb).at i hlt
          subst ea
          obtain ⟨x0, vd, va, vc, x1, x2, x3, hx4⟩ := hr
          have HX := Lib.hid hx
          have CFW := Lib.hid (few_any x.arr 20 vd va vc wr hx4)
          obtain ⟨p1, n1, q1, rfl⟩ : ∃ p n q, vd = .slice p n q := by obtain ⟨p, q, e, -⟩ := hx4.dims.shape; exact ⟨p, _, q, e⟩
          obtain ⟨p2, n2, q2, rfl⟩ : ∃ p n q, va = .slice p n q := by obtain ⟨p, q, e, -⟩ := hx4.attrs.shape; exact ⟨p, _, q, e⟩
          obtain ⟨p3, n3, q3, rfl⟩ : ∃ p n q, vc = .slice p n q := by obtain ⟨p, q, e, -⟩ := hx4.cells.shape; exact ⟨p, _, q, e⟩
          have HI1 : Hid (i + 1 ≤ l.length ∧ l.length - (i + 1) < l.length - i) := by show _ ∧ _; omega
          have ib0 : (0 : Int) ≤ (i : Int) := by omega
          have ib1 : (i : Int) < (l.length : Int) := by omega
          obtain ⟨na, ar⟩ := x
          simp only at x0 CFW
          clear hb hx hx4 hi hlt
          go_wp2_with fail
          refine (CN.out na _).mono ?_
          rintro e x9 ⟨rfl, hx9⟩
          subst x9
          cases hsn : decide (na.length ≤ 40) with
          | false =>
            clear hsn
            go_wp2_with fail
            refine (CW.out _ HB.out).mono ?_
            rintro e z1 ⟨rfl, hb⟩
            have HBE := Lib.hid (below_keep HB.out hb)
            clear hb CW
            go_wp2
            go_ret
            exact ⟨rfl, HBE.out⟩
          | true =>
            clear hsn
            go_wp2_with fail
            refine CFW.out.mono ?_
            rintro e x10 ⟨b, rfl, hf, hb⟩
            have HB2 := Lib.hid (below_keep HB.out hb)
            have HF := Lib.hid hf
            clear hb hf CFW x0 x1 x2 x3
            cases b with
            | false =>
              go_wp2_with fail
              refine (CW.out _ HB2.out).mono ?_
              rintro e z1 ⟨rfl, hb⟩
              have HBE := Lib.hid (below_keep HB2.out hb)
              clear hb CW
              go_wp2
              go_ret
              exact ⟨rfl, HBE.out⟩
            | true =>
              have HN2 : Hid (∀ y ∈ l.take (i + 1), FewS y.arr 20) := fun y hy => by
                rw [take_snoc' HX.out, List.mem_append, List.mem_singleton] at hy
                rcases hy with h | rfl
                · exact HN.out y h
                · exact HF.out rfl
              go_wp2
              exact ⟨⟨i + 1, HI1.out.1, by go_num, HN2.out, HB2.out⟩, HI1.out.2⟩
        · obtain rfl : i = l.length := by omega
          have HZ : Hid (∀ x ∈ l, ArrS x.arr) := fun x hx => few_arr (HN.out x (by rw [List.take_length]; exact hx))
          have CG1 := Lib.hid (fun w1 hb => CF1.out HZ.out w1 hb)
          have CG2 := Lib.hid (fun w1 hb => CF2.out HZ.out w1 hb)
          clear hb hi hlt HN CF1 CF2
          go_wp2_with fail
          refine (CG1.out _ HB.out).mono ?_
          rintro e y1 ⟨u1, u2, u3, rfl, hu, hb⟩
          have B1 := Lib.hid (below_keep HB.out hb)
          have HU := Lib.hid hu
          obtain ⟨a1, b1, rfl, -⟩ := hu.dims.shape
          obtain ⟨a2, b2, rfl, -⟩ := hu.attrs.shape
          obtain ⟨a3, b3, rfl, -⟩ := hu.cells.shape
          obtain ⟨qx, hqx⟩ : ∃ qx, qx = q.getD ⟨[], [], []⟩ := ⟨_, rfl⟩
          rw [← hqx] at HU ⊢
          obtain ⟨qb, hqb⟩ : ∃ qb, qb = q.isSome := ⟨_, rfl⟩
          rw [← hqb]
          have HQX := Lib.hid (And.intro hqx hqb)
          obtain ⟨W1, hW1, hb1, hx1⟩ := arr1_at y1 (.slice a1 qx.dims.length b1) (.slice a2 qx.attrs.length b2) (.slice a3 qx.cells.length b3)
          have B2 := Lib.hid (below_keep B1.out hb1)
          have HX1 := Lib.hid hx1
          have HU1 := Lib.hid (HU.out.later hb1)
          clear hb hu hb1 hx1 CG1 HU hqx hqb
          go_upto_region 9 with (fail)
          rw [← hW1]
          have hsz1 : y1.heap.size < W1.heap.size := World.block_lt_of_cell? _ _ (HX1.out W1 (Below.refl _ _)).1
          clear hW1
          go_wp2_with fail
          refine (CG2.out _ B2.out).mono ?_
          rintro e y2 ⟨s1, s2, s3, rfl, hu, hb⟩
          have B3 := Lib.hid (below_keep B2.out hb)
          have C3 := Lib.hid hb
          rw [← HQX.out.1] at hu
          rw [← HQX.out.2]
          have HV := Lib.hid hu
          obtain ⟨m1, t1, rfl, -⟩ := hu.dims.shape
          obtain ⟨m2, t2, rfl, -⟩ := hu.attrs.shape
          obtain ⟨m3, t3, rfl, -⟩ := hu.cells.shape
          obtain ⟨W2, hW2, hb2, hx2⟩ := arr1_at y2 (.slice m1 qx.dims.length t1) (.slice m2 qx.attrs.length t2) (.slice m3 qx.cells.length t3)
          have B4 := Lib.hid (below_keep B3.out hb2)
          have C4 := Lib.hid (below_keep C3.out hb2)
          have HX2 := Lib.hid hx2
          have HV1 := Lib.hid (HV.out.later hb2)
          clear hb hu hb2 hx2 CG2 HV hsz1
          go_upto_region 10 with (fail)
          rw [← hW2]
          clear hW2
          go_wp2_with fail
          refine (CB1.out _ B4.out).mono ?_
          rintro e y3 ⟨rfl, hb⟩
          have B5 := Lib.hid (below_keep B4.out hb)
          have C5 := Lib.hid hb
          clear hb CB1
          go_wp2_with fail
          refine (CB2.out _ B5.out).mono ?_
          rintro e y4 ⟨rfl, hb⟩
          have B6 := Lib.hid (below_keep B5.out hb)
          have C6 := Lib.hid (below_keep C5.out hb)
          clear hb CB2
          obtain ⟨e0, e1, e2⟩ := HX1.out y4 (below_keep C4.out C6.out)
          obtain ⟨f0, f1, f2⟩ := HX2.out y4 C6.out
          have CQ := Lib.hid (equal_any qx qx _ _ _ _ _ _ y4 (HU1.out.later (below_keep C4.out C6.out)) (HV1.out.later C6.out))
          rw [eqA_self] at CQ
          cases qb with
          | true =>
            go_wp2_with fail
            refine CQ.out.mono ?_
            rintro e y5 ⟨rfl, hb⟩
            have B7 := Lib.hid (below_keep B6.out hb)
            clear hb CQ
            go_wp2_with fail
            refine (CW.out _ B7.out).mono ?_
            rintro e z1 ⟨rfl, hb⟩
            have HBE := Lib.hid (below_keep B7.out hb)
            clear hb CW
            go_wp2
            go_ret
            exact ⟨rfl, HBE.out⟩
          | false =>
            go_wp2_with fail
            refine CQ.out.mono ?_
            rintro e y5 ⟨rfl, hb⟩
            have B7 := Lib.hid (below_keep B6.out hb)
            clear hb CQ
            go_wp2_with fail
            refine (CW.out _ B7.out).mono ?_
            rintro e z1 ⟨rfl, hb⟩
            have HBE := Lib.hid (below_keep B7.out hb)
            clear hb CW
            go_wp2
            go_ret
            exact ⟨rfl, HBE.out⟩
end Go.Proofs.YtpdhlgkcjakcgaaGreatDoor
/- Arguments of the laws of space as they are read: databases. -/
namespace Go.Proofs.YtpdhlgkcjakcgaaGreatDoor
open Go.RowKit Go.Deep Go.WideShapes Go.ChangeShapes

structure NamW (x : NamT) : Prop where
  name : x.name.length ≤ maxLen
  arr : ArrW x.arr
instance : Inhabited NamT := ⟨⟨[], ⟨[], [], []⟩⟩⟩
theorem strN_of {l : List NamT} (h : ∀ x ∈ l, NamW x) : StrN l := ⟨fun x hx => by have := (h x hx).name; unfold maxLen at this; exact this, fun x hx => strD_of (h x hx).arr.dims, fun x hx => strA_of (h x hx).arr.attrs⟩
section
variable {H : Type} {enc : TypeId × Value → H} {w : World} {base : Nat} {spare : Nat → Bool} {held : Bool}
set_option maxRecDepth 100000 in
theorem open_db {fuel : Nat} {cs : List Value} {x : DataW H × List MemPlace} (h : DataW.trod enc Tryz.prog w base spare held fuel 65 cs = some x) :
    ∃ v l, cs = [v] ∧ Names w v l ∧ ∀ n ∈ l, NamW n :=
  open_ls Tryz.underlying65 (by kernel_rfl) (fun fuel cs x a h1 h2 => by
    obtain ⟨g, o, rfl, hl, hc⟩ := cells_at (k := 3) h1
    obtain ⟨y0, y1, n, -, -, f0, f1⟩ := trod_struct2 Tryz.underlying67 h2
    have ci : Tryz.prog.cellsOf 9 = 1 := by kernel_rfl
    have cs1 : Tryz.prog.cellsOf 34 = 3 := by kernel_rfl
    match cs, hl with
    | [v0, v1, v2, v3], _ =>
      simp only [ci, cs1, List.drop_zero, List.drop_succ_cons, List.take_succ_cons, List.take_zero] at f0 f1
      obtain ⟨u0, e0, w0⟩ := open_str' f0
      obtain ⟨ud, ua, uc, l1, e1, q1, w1⟩ := open_array f1
      cases e0
      cases e1
      exact ⟨⟨u0, l1⟩, ⟨w0, w1⟩, g, o, rfl, hc 0 (by simp), _, _, _, hc 1 (by simp), hc 2 (by simp), hc 3 (by simp), q1⟩) h
end
end Go.Proofs.YtpdhlgkcjakcgaaGreatDoor
