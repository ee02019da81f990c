/- The law's comparison of a number with that of the document, contract: same. -/
import Derived.Test.YtemhidlaaommaaaGreatDoorG2
import Derived.Test.YtemhidlaaommaaaGreatDoorW1
namespace Go.Proofs.YtemhidlaaommaaaGreatDoor
open Go.RowKit

set_option maxHeartbeats 6400000 in
set_option maxRecDepth 100000 in
theorem same_any {q : Rat} {k : Nat} {x v : Value} {w : World} (hx : IsR w x q) (hv : Q9 w v q) (bd : Bd k q) (hk : k ≤ 900000) :
    Calls Tryz.prog 21 #[x, v] w (RetV (.bool true) w) := by
  obtain ⟨vn, vd, rfl, hn, hd⟩ := hv
  obtain ⟨a, n1, cap, rfl, -⟩ := hn.shape (by decide)
  obtain ⟨a', n', cap', rfl, -⟩ := hd.shape (by decide)
  obtain ⟨b, hq⟩ : ∃ b, b = qneg q := ⟨_, rfl⟩
  obtain ⟨P, p0, PK, PD, PG⟩ := boxP 28 hq hn hd
  rw [← hq]
  have XR : Hid (∀ w1, P w1 → IsR w1 x q) := fun w1 h => hx.later (PG.out w1 h).2
  have R9 : Hid (∀ w1, P w1 → Q9 w1 (.agg #[.bool b, .slice a n1 cap, .slice a' n' cap']) q) := fun w1 h => ⟨_, _, by rw [hq], (PG.out w1 h).1.isNum, (PG.out w1 h).1.isDen⟩
  have sq : SmR q := bd.smR (by omega)
  have bf : Bd (k + 1) (flQ q) := bd.floor
  obtain ⟨S, hS⟩ : ∃ S : ByteArray, S = ⟨(ratS q).toArray⟩ := ⟨_, rfl⟩
  obtain ⟨U, hU⟩ : ∃ U : ByteArray, U = ⟨(ratS (flQ q)).toArray⟩ := ⟨_, rfl⟩
  have T1 : Hid (∀ w1, P w1 → Calls Tryz.prog 43 #[x] w1 (RetV (.string S) w1)) := fun w1 h => hS ▸ ratText_any (XR.out w1 h) sq
  have T2 : Hid (∀ w1, P w1 → Calls Tryz.prog 71 #[.agg #[.bool b, .slice a n1 cap, .slice a' n' cap']] w1 (RetV (.string S) w1)) := fun w1 h => hS ▸ text9_any (R9.out w1 h) bd (by omega)
  have B1 := Lib.hid (fun w1 (h : P w1) => bits_any (XR.out w1 h) sq)
  have B2 := Lib.hid (fun w1 (h : P w1) => bits9_any (R9.out w1 h) bd (by omega))
  have S1 := Lib.hid (fun w1 (h : P w1) => sign_any (XR.out w1 h))
  have S2 := Lib.hid (fun w1 (h : P w1) => sign9_any (R9.out w1 h))
  have W1 := Lib.hid (fun w1 (h : P w1) => whole_any (XR.out w1 h))
  have W2 := Lib.hid (fun w1 (h : P w1) => whole9_any (R9.out w1 h))
  have F1 := Lib.hid (fun w1 (h : P w1) => floor_any (XR.out w1 h) sq)
  have F2 := Lib.hid (fun w1 (h : P w1) => floor9_any (R9.out w1 h) bd (by omega))
  have U1 : Hid (∀ w1 y, IsR w1 y (flQ q) → Calls Tryz.prog 43 #[y] w1 (RetV (.string U) w1)) := fun w1 y h => hU ▸ ratText_any h (bf.smR (by omega))
  have U2 : Hid (∀ w1 y, Q9 w1 y (flQ q) → Calls Tryz.prog 71 #[y] w1 (RetV (.string U) w1)) := fun w1 y h => hU ▸ text9_any h bf (by omega)
  obtain ⟨u, hu⟩ : ∃ u, u = valQ q := ⟨_, rfl⟩
  have V1 : Hid (∀ w1, P w1 → Calls Tryz.prog 56 #[x] w1 (RetV (.agg #[.int .i64 u.kind, .int .i64 u.num, .int .i64 u.den, .string ⟨u.str.toArray⟩]) w1)) := fun w1 h => hu ▸ value_any (XR.out w1 h)
  have V2 : Hid (∀ w1, P w1 → Calls Tryz.prog 76 #[.agg #[.bool b, .slice a n1 cap, .slice a' n' cap']] w1 (RetV (.agg #[.int .i64 u.kind, .int .i64 u.num, .int .i64 u.den, .string ⟨u.str.toArray⟩]) w1)) := fun w1 h => hu ▸ value9_any (R9.out w1 h)
  have KD := Lib.hid (fun (w2 : World) (hb : P w2) => And.intro (PG.out w2 hb).1.neg (And.intro (PG.out w2 hb).1.num (And.intro (PG.out w2 hb).1.den hb)))
  obtain ⟨z, hz⟩ : ∃ z, z = sgnQ q := ⟨_, rfl⟩
  obtain ⟨y, hy⟩ : ∃ y, y = decide (q.den = 1) := ⟨_, rfl⟩
  obtain ⟨c, hc⟩ : ∃ c, c = blen (qnum q) := ⟨_, rfl⟩
  obtain ⟨d, hd'⟩ : ∃ d, d = blen q.den := ⟨_, rfl⟩
  rw [← hz] at S1 S2
  rw [← hy] at W1 W2
  rw [← hc, ← hd'] at B1 B2
  obtain ⟨gx, xn, xd, rfl, -⟩ := hx
  have hP := PD.out _ p0
  have HU : Hid ((⟨u.str.toArray⟩ : ByteArray).toList == (⟨u.str.toArray⟩ : ByteArray).toList) := by show (_ == _) = true; simp
  have e1 : (z == z) = true := by simp
  have e2 : (y == y) = true := by simp
  have e3 : ((c : Int) == (c : Int)) = true := by simp
  have e4 : ((d : Int) == (d : Int)) = true := by simp
  have e5 : (S.toList == S.toList) = true := by simp
  have e6 : (U.toList == U.toList) = true := by simp
  clear hn hd hq p0 sq bf bd hS hU hu hz hy hc hd' HU
  go_enter Tryz.func21, Tryz.ntmps21
  go_wp2_with fail
  go_region_held3 (fun w' => w'.cell? ⟨w.heap.size, 0, none⟩ = some (.bool b) ∧ w'.cell? ⟨w.heap.size, 1, none⟩ = some (.slice a n1 cap) ∧ w'.cell? ⟨w.heap.size, 2, none⟩ = some (.slice a' n' cap') ∧ P w')
    (exact KD.out _ (by assumption))
    (first
      | (go_at_call 43; refine (T1.out _ hP).mono ?_; rintro e w1 ⟨rfl, hb1⟩; have hP1 := PK.out _ _ hP hb1)
      | (go_at_call 71; refine (T2.out _ hP1).mono ?_; rintro e w2 ⟨rfl, hb2⟩; have hP2 := PK.out _ _ hP1 hb2))
  have Q2 := Lib.hid hP2
  clear hP hP1 hP2 hb1 hb2
  go_wp2_with fail
  refine (B1.out _ Q2.out).mono ?_
  rintro e w3 ⟨rfl, kq, rfl⟩
  have Q3 := Lib.hid (PK.out _ _ Q2.out (below_drewN' _ kq))
  obtain ⟨k0, k1, k2, -⟩ := KD.out _ Q3.out
  go_wp2_with fail
  refine (B2.out _ Q3.out).mono ?_
  rintro e w4 ⟨rfl, hb4⟩
  have Q4 := Lib.hid (PK.out _ _ Q3.out hb4)
  have hP := PD.out _ Q4.out
  clear hb4 k0 k1 k2
  go_wp2_with fail
  go_region_held3 (fun w' => w'.cell? ⟨w.heap.size, 0, none⟩ = some (.bool b) ∧ w'.cell? ⟨w.heap.size, 1, none⟩ = some (.slice a n1 cap) ∧ w'.cell? ⟨w.heap.size, 2, none⟩ = some (.slice a' n' cap') ∧ P w')
    (exact KD.out _ (by assumption))
    (first
      | (go_at_call 42; refine (S1.out _ hP).mono ?_; rintro e v1 ⟨rfl, rfl⟩)
      | (go_at_call 73; refine (S2.out _ hP).mono ?_; rintro e v2 ⟨rfl, hb2⟩; have hP2 := PK.out _ _ hP hb2)
      | (go_at_call 45; refine (W1.out _ hP2).mono ?_; rintro e v3 ⟨rfl, rfl⟩)
      | (go_at_call 74; refine (W2.out _ hP2).mono ?_; rintro e v4 ⟨rfl, hb3⟩; have hP3 := PK.out _ _ hP2 hb3)
      | (go_at_call 44; refine (F1.out _ hP3).mono ?_; rintro e v5 ⟨vf, rfl, hvf, hb4⟩; have hP4 := PK.out _ _ hP3 hb4)
      | (go_at_call 43; refine (U1.out _ _ hvf).mono ?_; rintro e v6 ⟨rfl, hb5⟩; have hP5 := PK.out _ _ hP4 hb5)
      | (go_at_call 75; refine (F2.out _ hP5).mono ?_; rintro e v7 ⟨vg, rfl, hvg, hb6⟩; have hP6 := PK.out _ _ hP5 hb6)
      | (go_at_call 71; refine (U2.out _ _ hvg).mono ?_; rintro e v8 ⟨rfl, hb7⟩; have hP7 := PK.out _ _ hP6 hb7)
      | (go_at_call 56; refine (V1.out _ hP7).mono ?_; rintro e v9 ⟨rfl, hb8⟩; have hP8 := PK.out _ _ hP7 hb8)
      | (go_at_call 76; refine (V2.out _ hP8).mono ?_; rintro e v10 ⟨rfl, hb9⟩; have hP9 := PK.out _ _ hP8 hb9))
  have Q9' := Lib.hid hP9
  go_wp2
  go_ret
  exact ⟨rfl, (PG.out _ Q9'.out).2⟩
end Go.Proofs.YtemhidlaaommaaaGreatDoor
