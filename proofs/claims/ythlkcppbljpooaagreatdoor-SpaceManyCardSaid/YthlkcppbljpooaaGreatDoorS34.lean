/- Databases in plain words and in memory; space.Database: the contract. -/
import Derived.Test.YthlkcppbljpooaaGreatDoorS5
namespace Go.Proofs.YthlkcppbljpooaaGreatDoor
open Go.RowKit

structure NamT where
 name : List UInt8
 arr : ArrT
/-- the error of a database, these names having been met -/
def dbL (met : List (List UInt8)) : List NamT → Int
 | [] => 0
 | x :: r => if nameB x.name = false ∨ x.name ∈ met then 11 else if checkE x.arr ≠ 0 then 2 else dbL (met ++ [x.name]) r
def dbE (l : List NamT) : Int := if 16 < l.length then 9 else dbL [] l
def namesN (l : List NamT) : List (List UInt8) := l.map NamT.name
structure NamR (w : World) (g o : Nat) (x : NamT) : Prop where
 name : w.cell? ⟨g, o, none⟩ = some (strV x.name)
 arr : ∃ vd va vc, w.cell? ⟨g, o + 1, none⟩ = some vd ∧ w.cell? ⟨g, o + 2, none⟩ = some va ∧ w.cell? ⟨g, o + 3, none⟩ = some vc ∧ ArrR w vd va vc x.arr
theorem NamR.lasts : Lasts NamR := fun w w' g o x h hb => by
 obtain ⟨vd, va, vc, h1, h2, h3, h4⟩ := h.arr
 exact ⟨cell_later h.name hb, vd, va, vc, cell_later h1 hb, cell_later h2 hb, cell_later h3 hb, h4.later hb⟩
abbrev Names := Ls 4 NamR
/-- what is asked of the strings -/
structure StrN (l : List NamT) : Prop where
 name : ∀ x ∈ l, x.name.length ≤ 9223372036854775807
 dims : ∀ x ∈ l, StrD x.arr.dims
 attrs : ∀ x ∈ l, StrA x.arr.attrs
theorem dbL_at {met : List (List UInt8)} {l : List NamT} {i : Nat} {x : NamT} (h : l[i]? = some x) : dbL met (l.drop i) = if nameB x.name = false ∨ x.name ∈ met then 11 else if checkE x.arr ≠ 0 then 2 else dbL (met ++ [x.name]) (l.drop (i + 1)) := by
 rw [drop_cons h, dbL]
theorem namesN_snoc {l : List NamT} {i : Nat} {x : NamT} (h : l[i]? = some x) : namesN (l.take (i + 1)) = namesN (l.take i) ++ [x.name] := by
 rw [take_snoc' h]; simp [namesN]
theorem nam_at (w : World) (v0 v1 v2 v3 : Value) : ∃ W1, W1 = w.alloc (.cells #[v0, v1, v2, v3] 49) ∧ Below w.heap.size w W1 ∧ ∀ w', Below W1.heap.size W1 w' → w'.cell? ⟨w.heap.size, 0, none⟩ = some v0 ∧ w'.cell? ⟨w.heap.size, 1, none⟩ = some v1 ∧ w'.cell? ⟨w.heap.size, 2, none⟩ = some v2 ∧ w'.cell? ⟨w.heap.size, 3, none⟩ = some v3 := by
 refine ⟨_, rfl, below_alloc _ _, fun w' hb => ?_⟩
 have h1 : ∀ j, w'.cell? ⟨w.heap.size, j, none⟩ = (w.alloc (.cells #[v0, v1, v2, v3] 49)).cell? ⟨w.heap.size, j, none⟩ := fun j => hb.cell (p := ⟨w.heap.size, j, none⟩) (by simp)
 refine ⟨?_, ?_, ?_, ?_⟩ <;> (rw [h1, World.cell?_alloc_at _ _ _ _ rfl]; rfl)
theorem database_many (l : List NamT) (v : Value) (w : World) (hd : Names w v l) (h : 16 < l.length) :
  Calls Tryz.prog 13 #[v] w (RetV' (.int .i64 9) w) := by
 obtain ⟨a, cap, rfl, c1, c2⟩ := hd.shape
 have h' : (16 : Int) < (l.length : Int) := by omega
 clear hd h
 go_enter Tryz.func13, Tryz.ntmps13
 go_wp2
 go_ret
 exact ⟨rfl, Below.refl _ _⟩
set_option maxHeartbeats 6400000 in
set_option maxRecDepth 100000 in
theorem database_core (l : List NamT) (v : Value) (w : World) (hd : Names w v l) (hs : StrN l) (h : l.length ≤ 16) :
  Calls Tryz.prog 13 #[v] w (RetV' (.int .i64 (dbL [] l)) w) := by
 have h' : ¬ ((16 : Int) < (l.length : Int)) := by omega
 have HD := Lib.hid hd
 have HS := Lib.hid hs
 have HM0 := Lib.hid (MetS.made w)
 have hmm := @run_makeMap Tryz.prog
 obtain ⟨R, hR⟩ : ∃ R, R = dbL [] l := ⟨_, rfl⟩
 rw [← hR]
 have HR0 := Lib.hid hR
 obtain ⟨a, cap, rfl, c1, c2⟩ := hd.shape
 have HBM := Lib.hid (below_alloc w (.map #[] 0))
 clear hd hs hR
 go_enter Tryz.func13, Tryz.ntmps13
 go_wp2
 clear hmm
 go_loopw [12] (fun iv wr => ∃ i : Nat, i ≤ l.length ∧ iv = .int .i64 (i : Nat) ∧ Hid (dbL (namesN (l.take i)) (l.drop i) = R) ∧ MetS wr w.heap.size (namesN (l.take i)) ∧ Below w.heap.size w wr) (fun iv _ => l.length - (intOf iv).toNat)
 case atStart => exact ⟨0, Nat.zero_le _, rfl, HR0.out.symm, HM0.out, HBM.out⟩
 case round =>
  obtain ⟨i, hi, rfl, HN, hmet, hb⟩ := hrel
  have HMT := Lib.hid hmet
  have HB := Lib.hid hb
  have HDW := Lib.hid (HD.out.later NamR.lasts hb)
  by_cases hlt : i < l.length
  ·obtain ⟨g, o, x, ea, hx, hr⟩ := HDW.out.at i hlt
   subst ea
   obtain ⟨x0, vd, va, vc, x1, x2, x3, hx4⟩ := hr
   have HX := Lib.hid hx
   have hn := HN.out
   rw [dbL_at hx] at hn
   have HNN := Lib.hid hn
   have hxm := List.mem_of_getElem? hx
   have HXS := Lib.hid (HS.out.name x hxm)
   have HA := Lib.hid hx4
   have CK := Lib.hid (fun w1 (hb1 : Below wr.heap.size wr w1) => checkA_any x.arr vd va vc w1 (hx4.later hb1) (HS.out.dims x hxm) (HS.out.attrs x hxm))
   obtain ⟨p1, n1, q1, rfl⟩ : ∃ p n q, vd = .slice p n q := by obtain ⟨p, q, e, -⟩ := hx4.dims.shape; exact ⟨p, _, q, e⟩
   obtain ⟨p2, n2, q2, rfl⟩ : ∃ p n q, va = .slice p n q := by obtain ⟨p, q, e, -⟩ := hx4.attrs.shape; exact ⟨p, _, q, e⟩
   obtain ⟨p3, n3, q3, rfl⟩ : ∃ p n q, vc = .slice p n q := by obtain ⟨p, q, e, -⟩ := hx4.cells.shape; exact ⟨p, _, q, e⟩
   obtain ⟨E, hE⟩ : ∃ E, E = checkE x.arr := ⟨_, rfl⟩
   rw [← hE] at HNN CK
   obtain ⟨nm, ar⟩ := x
   simp only at x0 HNN HXS CK
   have CN := Lib.hid (fun w1 => name_any nm w1 HXS.out)
   have HI1 : Hid (i + 1 ≤ l.length ∧ l.length - (i + 1) < l.length - i) := by show _ ∧ _; omega
   have hll : (namesN (l.take i)).length < 1000 := by simp [namesN]; omega
   have HLL := Lib.hid hll
   obtain ⟨NB, hNB⟩ : ∃ NB, NB = nameB nm := ⟨_, rfl⟩
   rw [← hNB] at HNN CN
   have ib0 : (0 : Int) ≤ (i : Int) := by omega
   have ib1 : (i : Int) < (l.length : Int) := by omega
   clear hmet hb hx hn hx4 hxm hE hll hNB HN hi hlt
   obtain ⟨W1, hW1, hb1, hxw⟩ := nam_at wr (strV nm) (.slice p1 n1 q1) (.slice p2 n2 q2) (.slice p3 n3 q3)
   have HB1 := Lib.hid hb1
   have HXW := Lib.hid hxw
   clear hb1 hxw
   go_wp2_with fail
   rw [← hW1]
   clear hW1 x0 x1 x2 x3
   refine (CN.out _).mono ?_
   rintro e w1 ⟨rfl, hb1⟩
   have HBN := Lib.hid (below_keep HB1.out hb1)
   have hm1 := HMT.out.later HBN.out HMT.out.lt
   have hlk := hm1.look nm HXS.out
   have HM1 := Lib.hid hm1
   obtain ⟨y0, y1, y2, y3⟩ := HXW.out w1 hb1
   have HY := Lib.hid (fun w9 (h9 : Below w1.heap.size w1 w9) => HXW.out w9 (below_keep hb1 h9))
   clear hb1 CN hm1
   cases NB with
   | false =>
    have HR : Hid (R = 11) := by show _ = _; rw [← HNN.out, if_pos (.inl rfl)]
    clear hlk
    go_wp2
    go_ret
    rw [HR.out]
    exact ⟨rfl, below_keep HB.out HBN.out⟩
   | true =>
    by_cases hmem : nm ∈ namesN (l.take i)
    ·have HR : Hid (R = 11) := by show _ = _; rw [← HNN.out, if_pos (.inr hmem)]
     have hd1 : decide (nm ∈ namesN (l.take i)) = true := decide_eq_true hmem
     rw [hd1] at hlk
     clear hmem hd1
     go_wp2
     go_ret
     rw [HR.out]
     exact ⟨rfl, below_keep HB.out HBN.out⟩
    ·have hd1 : decide (nm ∈ namesN (l.take i)) = false := decide_eq_false hmem
     rw [hd1] at hlk
     have hn2 := HNN.out
     rw [if_neg (fun h => h.elim (fun h => by cases h) hmem)] at hn2
     have HN2 := Lib.hid hn2
     clear hmem hd1 hn2 HNN
     go_wp2_with fail
     refine (CK.out _ HBN.out).mono ?_
     rintro e w2 ⟨rfl, hb2⟩
     have HB2 := Lib.hid (below_keep HBN.out hb2)
     obtain ⟨z0, z1, z2, z3⟩ := HY.out w2 hb2
     have hm2 := HM1.out.later hb2 HM1.out.lt
     obtain ⟨w3, hadd, hm3, hg3⟩ := hm2.add nm HXS.out HLL.out
     have HM3 := Lib.hid hm3
     have HG3 := Lib.hid hg3
     clear hb2 hm2 hm3 hg3 hlk y0 y1 y2 y3
     by_cases hE0 : E = 0
     ·subst hE0
      have HR : Hid (dbL (namesN (l.take i) ++ [nm]) (l.drop (i + 1)) = R) := by show _ = _; rw [← HN2.out, if_neg (fun h => h rfl)]
      go_wp2
      refine ⟨⟨i + 1, HI1.out.1, by go_num, ?_, ?_, ?_⟩, HI1.out.2⟩
      ·show _ = _
       rw [namesN_snoc HX.out]
       exact HR.out
      ·rw [namesN_snoc HX.out]; exact HM3.out
      ·exact below_of_grown (below_keep HB.out HB2.out) (Nat.le_refl _) HG3.out
     ·have HR : Hid (R = 2) := by show _ = _; rw [← HN2.out, if_pos hE0]
      have t9 : (E != 0) = true := bne_iff_ne.2 hE0
      clear hE0 hadd
      go_wp2
      go_ret
      rw [HR.out]
      exact ⟨rfl, below_keep HB.out HB2.out⟩
  ·obtain rfl : i = l.length := by omega
   have hn := HN.out
   rw [List.drop_length, dbL] at hn
   have HNN := Lib.hid hn
   clear hmet hb hn HN
   go_wp2
   go_ret
   rw [← HNN.out]
   exact ⟨rfl, HB.out⟩
theorem database_any (l : List NamT) (v : Value) (w : World) (hd : Names w v l) (hs : StrN l) :
  Calls Tryz.prog 13 #[v] w (RetV' (.int .i64 (dbE l)) w) := by
 unfold dbE
 by_cases h : 16 < l.length
 ·rw [if_pos h]; exact database_many l v w hd h
 ·rw [if_neg h]; exact database_core l v w hd hs (by omega)
end Go.Proofs.YthlkcppbljpooaaGreatDoor
