/- ExactDoes: the walk. (printed by gen_does.py) -/
import Derived.Deep.AppendLies
import Derived.Deep.Upon
import Derived.Test.YtemhidlaaommaaaGreatDoorOpen
import Derived.Test.YtemhidlaaommaaaGreatDoorRDoD
import Derived.Test.YtemhidlaaommaaaGreatDoorW1
namespace Go.Proofs.YtemhidlaaommaaaGreatDoor
open Go.RowKit

theorem wpList_append_empty {ops : Array Oper} {rest : List Oper} {p : Oper} {a : Act} {Q : Exit → Act → World → Prop} {w1 : World} (hgd : p.guard = none) (s x : Operand)
    (ho : p.op = .call { callee := .builtin .append, args := #[s, x], argTypes := #[48, 48] }) (B c : Nat) (ad : Option Addr)
    (hs : a.eval s = .slice (some ⟨B, 0, none⟩) 0 0) (hx : a.eval x = .slice ad 0 c)
    (h : wpList Tryz.prog ops Q rest (a.put p.dst (.slice (some ⟨B, 0, none⟩) 0 0)) w1) : wpList Tryz.prog ops Q (p :: rest) a w1 := by
  obtain ⟨i0, hi, hz0, hz1, hz2⟩ := info_parts info45
  refine wpList_plain hgd fun _ hK => ?_
  have hsrc : Src Tryz.prog i0.size 48 (.slice ad 0 c) 0 [] w1 := by
    cases ad with
    | none => exact Src.ofNil _ Tryz.underlying48 _
    | some ad => exact Src.ofSlice _ Tryz.underlying48 ad 0 c [] (by simp) (fun j u hj => by simp at hj) (fun u hu => by cases hu)
  have hrun := run_append_nothing (P := Tryz.prog) w1 48 48 p.type 45 i0 Tryz.underlying48 hi (some ⟨B, 0, none⟩) 0 0 (Nat.le_refl _) (.slice ad 0 c) hsrc
  unfold Oper.wp execOp
  simp only [ho, resolve, invoke, builtin, Sem.run_bind, Sem.run_pure, Result.andThen_ok, List.map_toArray, List.map_cons, List.map_nil, hs, hx, hrun]
  exact hK _ _ h

theorem does_big (op : Int) (a : Option Addr) (n p : Nat) (w : World) (hm : Ml w) (h : 5 < n) :
    Calls Tryz.prog 7 #[.int .i64 op, .slice a n p] w (RetV (.bool true) w) := by
  have C := Lib.hid (works_any w hm)
  have h1 : decide ((5 : Int) < (n : Int)) = true := by rw [decide_eq_true_eq]; omega
  clear h hm
  go_enter Tryz.func7, Tryz.ntmps7
  go_wp2_with fail
  refine C.out.mono ?_
  rintro e w1 ⟨rfl, hb⟩
  go_wp2
  go_ret
  exact ⟨rfl, hb⟩

set_option maxHeartbeats 16000000 in
set_option maxRecDepth 100000 in
theorem does_none (op : Int) (a : Option Addr) (cap : Nat) (w : World) (hm : Ml w) :
    Calls Tryz.prog 7 #[.int .i64 op, .slice a 0 cap] w (RetV (.bool true) w) := by
  obtain ⟨l, hl⟩ : ∃ l : List Va, l = [] := ⟨_, rfl⟩
  have HM := Lib.hid (fun w1 (h : Below w.heap.size w w1) => works_any w1 (hm.later h))
  obtain ⟨y0, y1, y2, y3, z, hy⟩ : ∃ (y0 y1 y2 : Int) (y3 : ByteArray) (z : Int), doR (doE op l) = .tuple #[.agg #[.int .i64 y0, .int .i64 y1, .int .i64 y2, .string y3], .int .i64 z] := ⟨_, _, _, _, _, rfl⟩
  have e1 : (z == z) = true := by simp
  have CR0 := fun w1 => rdo_any op l (.slice a 0 cap) w1 (.inl ⟨_, _, rfl, hl⟩) (by rw [hl]; intro x hx; cases hx)
  have CD0 := fun w1 v (h : ∃ a cap, v = .slice a 0 cap) => do_any op l v w1 (.inl (by obtain ⟨a, c, rfl⟩ := h; exact ⟨_, _, rfl, hl⟩))
  simp only [hy] at CR0 CD0
  obtain ⟨RR, hRR⟩ : ∃ RR : World → Prop, RR = fun y => Below w.heap.size w y := ⟨_, rfl⟩
  have RK : Hid (∀ y z, RR y → Below y.heap.size y z → RR z) := fun y z h hb => by rw [hRR] at h ⊢; exact below_keep h hb
  have RW : Hid (∀ y, RR y → Below w.heap.size w y) := fun y h => by rw [hRR] at h; exact h
  have hR3 : RR (w.alloc (.cells #[] 45)) := by rw [hRR]; exact below_alloc _ _
  have CD : Hid (∀ y, RR y → Calls Tryz.prog 36 #[.int .i64 op, .slice (some ⟨w.heap.size, 0, none⟩) 0 0] y (RetV (.tuple #[.agg #[.int .i64 y0, .int .i64 y1, .int .i64 y2, .string y3], .int .i64 z]) y)) := fun y h => CD0 y _ ⟨_, _, rfl⟩
  have CR : Hid (∀ y, RR y → Calls Tryz.prog 37 #[.int .i64 op, .slice a 0 cap] y (RetV (.tuple #[.agg #[.int .i64 y0, .int .i64 y1, .int .i64 y2, .string y3], .int .i64 z]) y)) := fun y h => CR0 y
  clear CR0 CD0 hm hy hl hRR
  go_enter Tryz.func7, Tryz.ntmps7
  go_wp2_with (at_builtin; refine wpList_append_empty rfl _ _ rfl w.heap.size cap a rfl rfl ?_)
  have R3 := Lib.hid hR3
  go_wp2_with fail
  refine (CD.out _ R3.out).mono ?_
  rintro e w4 ⟨rfl, hb4⟩
  have R5 := Lib.hid (RK.out _ _ (RK.out _ _ R3.out hb4) (below_alloc w4 (.cells #[.int .i64 y0, .int .i64 y1, .int .i64 y2, .string y3] 45)))
  have K5 : Hid (∀ w9, Below (w4.alloc (.cells #[.int .i64 y0, .int .i64 y1, .int .i64 y2, .string y3] 45)).heap.size (w4.alloc (.cells #[.int .i64 y0, .int .i64 y1, .int .i64 y2, .string y3] 45)) w9 → w9.cell? ⟨w4.heap.size, 0, none⟩ = some (.int .i64 y0) ∧ w9.cell? ⟨w4.heap.size, 1, none⟩ = some (.int .i64 y1) ∧ w9.cell? ⟨w4.heap.size, 2, none⟩ = some (.int .i64 y2) ∧ w9.cell? ⟨w4.heap.size, 3, none⟩ = some (.string y3) ∧ w4.heap.size < w9.heap.size) := fun w9 hb => by
    have hs := hb.size
    rw [World.size_alloc] at hs
    refine ⟨?_, ?_, ?_, ?_, by omega⟩ <;> (refine (hb.cell (p := ⟨w4.heap.size, _, none⟩) (by rw [World.size_alloc]; exact Nat.lt_succ_self _)).trans ?_; rw [World.cell?_alloc_at _ _ _ _ rfl]; rfl)
  clear hb4 CD
  go_wp2_with fail
  refine (CR.out _ R5.out).mono ?_
  rintro e w6 ⟨rfl, hb6⟩
  obtain ⟨W7, hW7⟩ : ∃ W7, W7 = w6.alloc (.cells #[.int .i64 y0, .int .i64 y1, .int .i64 y2, .string y3] 45) := ⟨_, rfl⟩
  have R7 : Hid (RR W7) := by rw [hW7]; exact RK.out _ _ (RK.out _ _ R5.out hb6) (below_alloc _ _)
  have K7 : Hid (W7.cell? ⟨w4.heap.size, 0, none⟩ = some (.int .i64 y0) ∧ W7.cell? ⟨w4.heap.size, 1, none⟩ = some (.int .i64 y1) ∧ W7.cell? ⟨w4.heap.size, 2, none⟩ = some (.int .i64 y2) ∧ W7.cell? ⟨w4.heap.size, 3, none⟩ = some (.string y3) ∧ w4.heap.size < W7.heap.size) := by
    rw [hW7]
    exact K5.out _ (below_keep hb6 (below_alloc _ _))
  have J7 : Hid (W7.cell? ⟨w6.heap.size, 0, none⟩ = some (.int .i64 y0) ∧ W7.cell? ⟨w6.heap.size, 1, none⟩ = some (.int .i64 y1) ∧ W7.cell? ⟨w6.heap.size, 2, none⟩ = some (.int .i64 y2) ∧ W7.cell? ⟨w6.heap.size, 3, none⟩ = some (.string y3) ∧ w6.heap.size < W7.heap.size) := by
    rw [hW7]
    refine ⟨?_, ?_, ?_, ?_, by simp⟩ <;> (rw [World.cell?_alloc_at _ _ _ _ rfl]; rfl)
  clear hb6 CR K5
  go_wp2
  rw [← hW7]
  clear hW7
  obtain ⟨PP, hPP⟩ : ∃ PP : World → Prop, PP = fun y => Below W7.heap.size W7 y := ⟨_, rfl⟩
  have PP0 : Hid (PP W7) := by show PP W7; rw [hPP]; exact Below.refl _ _
  have PPD : Hid (∀ y, PP y → PP y.drew) := fun y h => by rw [hPP] at h ⊢; exact h.drew
  have PPK : Hid (∀ y z, PP y → Below y.heap.size y z → PP z) := fun y z h hb => by rw [hPP] at h ⊢; exact below_keep h hb
  have PR : Hid (∀ y, PP y → RR y) := fun y h => by rw [hPP] at h; exact RK.out _ _ R7.out h
  have FC : Hid (∀ y, PP y → y.cell? ⟨w4.heap.size, 0, none⟩ = some (.int .i64 y0) ∧ y.cell? ⟨w4.heap.size, 1, none⟩ = some (.int .i64 y1) ∧ y.cell? ⟨w4.heap.size, 2, none⟩ = some (.int .i64 y2) ∧ y.cell? ⟨w4.heap.size, 3, none⟩ = some (.string y3)) := fun y h => by
    rw [hPP] at h
    obtain ⟨a0, a1, a2, a3, a4⟩ := K7.out
    exact ⟨(h.cell (p := ⟨w4.heap.size, 0, none⟩) a4).trans a0, (h.cell (p := ⟨w4.heap.size, 1, none⟩) a4).trans a1, (h.cell (p := ⟨w4.heap.size, 2, none⟩) a4).trans a2, (h.cell (p := ⟨w4.heap.size, 3, none⟩) a4).trans a3⟩
  have FD : Hid (∀ y, PP y → y.cell? ⟨w6.heap.size, 0, none⟩ = some (.int .i64 y0) ∧ y.cell? ⟨w6.heap.size, 1, none⟩ = some (.int .i64 y1) ∧ y.cell? ⟨w6.heap.size, 2, none⟩ = some (.int .i64 y2) ∧ y.cell? ⟨w6.heap.size, 3, none⟩ = some (.string y3)) := fun y h => by
    rw [hPP] at h
    obtain ⟨a0, a1, a2, a3, a4⟩ := J7.out
    exact ⟨(h.cell (p := ⟨w6.heap.size, 0, none⟩) a4).trans a0, (h.cell (p := ⟨w6.heap.size, 1, none⟩) a4).trans a1, (h.cell (p := ⟨w6.heap.size, 2, none⟩) a4).trans a2, (h.cell (p := ⟨w6.heap.size, 3, none⟩) a4).trans a3⟩
  clear hPP R7 K7 J7
  refine wp_loop_rounds 1 ?_
  rw [rounds_succ]
  have hPw := PP0
  have hP := hPw.out
  obtain ⟨k0, k1, k2, k3⟩ := FC.out _ hP
  obtain ⟨j0, j1, j2, j3⟩ := FD.out _ hP
  have C9 := Lib.hid (HM.out _ (RW.out _ (PR.out _ hP)))
  have B9 := Lib.hid (RW.out _ (PR.out _ hP))
  clear hP
  go_wp2_with fail
  refine C9.out.mono ?_
  rintro e w9 ⟨rfl, hb9⟩
  have HB9 := Lib.hid (below_keep B9.out hb9)
  clear hb9
  go_wp2
  go_ret
  exact ⟨rfl, HB9.out⟩

set_option maxHeartbeats 16000000 in
set_option maxRecDepth 100000 in
theorem does_some (op : Int) (l : List Va) (g o cap n : Nat) (w : World) (hm : Ml w) (hc1 : n ≤ cap) (hc2 : cap ≤ 9223372036854775807) (hln : n = l.length) (hn0 : 0 < n) (hn5 : n ≤ 5) (hel : ∀ i x, l[i]? = some x → VaAt w g (o + i * 4) x) (hs : ∀ x ∈ l, x.str.length ≤ 9223372036854775807) :
    Calls Tryz.prog 7 #[.int .i64 op, .slice (some ⟨g, o, none⟩) n cap] w (RetV (.bool true) w) := by
  have HM := Lib.hid (fun w1 (h : Below w.heap.size w w1) => works_any w1 (hm.later h))
  obtain ⟨y0, y1, y2, y3, z, hy⟩ : ∃ (y0 y1 y2 : Int) (y3 : ByteArray) (z : Int), doR (doE op l) = .tuple #[.agg #[.int .i64 y0, .int .i64 y1, .int .i64 y2, .string y3], .int .i64 z] := ⟨_, _, _, _, _, rfl⟩
  have e1 : (z == z) = true := by simp
  have CR0 := fun w1 (h : VaL w1 (.slice (some ⟨g, o, none⟩) n cap) l) => rdo_any op l _ w1 (.inr h) hs
  have CD0 := fun w1 v (h : VaL w1 v l) => do_any op l v w1 (.inr h)
  simp only [hy] at CR0 CD0
  have HEL := Lib.hid hel
  have HL := Lib.hid hln
  have h1 : decide ((5 : Int) < (n : Int)) = false := by rw [decide_eq_false_iff_not]; omega
  have hbA := below_alloc w (.cells #[] 45)
  have HBA := Lib.hid hbA
  have HOWN : Hid ((w.alloc (.cells #[] 45)).ownsRow w.heap.size 45 4 (.slice (some ⟨w.heap.size, 0, none⟩) 0 0) 0 []) := by
    show World.ownsRow _ _ _ _ _ _ _
    exact World.ownsRow_made w #[] 0 (Nat.le_refl _) (by decide) rfl
  have HNC : Hid (∀ j u, (newsL l)[j]? = some u → (w.alloc (.cells #[] 45)).cell? ((⟨g, o, none⟩ : Addr).add j) = some u) := newsL_cells (fun i x hx => (hel i x hx).later' hbA)
  have HNL : Hid ((newsL l).length = n * 4) := by show _ = _; rw [newsL_len, hln]
  have HN0 := Lib.hid hn0
  have HN5 := Lib.hid hn5
  have HC1 := Lib.hid hc1
  have HC2 := Lib.hid hc2
  obtain ⟨i0, hi, hz0, hz1, hz2⟩ := info_parts info45
  have HI : Hid (Tryz.prog.info? 45 = some i0 ∧ i0.zero = some (.agg #[.int .i64 0, .int .i64 0, .int .i64 0, .string ⟨#[]⟩]) ∧ i0.size = 4 ∧ i0.bytes = 40) := ⟨hi, hz0, hz1, hz2⟩
  have CR0 := Lib.hid CR0
  have CD0 := Lib.hid CD0
  rename_i s1 s2
  clear s1 s2 hm hy hel hln hbA hi hz0 hz1 hz2 hs hc1 hc2
  go_enter Tryz.func7, Tryz.ntmps7
  go_wp2_with (at_builtin; refine wpList_append_lies _ rfl _ _ 48 rfl w.heap.size 45 i0 (.agg #[.int .i64 0, .int .i64 0, .int .i64 0, .string ⟨#[]⟩]) 4 40 Tryz.underlying48 HI.out.1 HI.out.2.1 HI.out.2.2.1 HI.out.2.2.2 rfl (by decide) _ 0 [] rfl HOWN.out ⟨g, o, none⟩ n cap (newsL l) rfl HNL.out HNC.out (newsL_one l) HN0.out (by have := HN5.out; unfold maxLen; omega) (by have := HN5.out; omega) HBA.out.size _ rfl ?_)
  intro b cp w3 hown3 hgrow3 hat3 hlt3
  try simp only [Nat.zero_add, List.nil_append] at hown3
  try simp only [Nat.zero_add, List.nil_append]
  have hbb : w.heap.size ≤ b := by
    rcases hat3 with h | h
    · exact Nat.le_of_eq (Option.some.inj h)
    · rw [h]; first | exact HBA.out.size | omega
  have hb3 : Below w.heap.size w w3 := HBA.out.grown hgrow3 HBA.out.size (fun j hj => Nat.le_of_eq (Option.some.inj hj))
  have hol := own_list hown3 HL.out.symm (by decide)
  rw [← HL.out] at hol
  have hgv : VaL w3 (.slice (some ⟨b, 0, none⟩) n cp) l := hol.1
  have hlv : VaL w3 (.slice (some ⟨g, o, none⟩) n cap) l := ⟨g, o, cap, by rw [HL.out], by rw [← HL.out]; exact HC1.out, HC2.out, fun i x hx => (HEL.out i x hx).later' hb3⟩
  have hcp : n ≤ cp ∧ ∀ i x, l[i]? = some x → VaAt w3 b (i * 4) x := by
    obtain ⟨g9, o9, c9, e9, q1, q2, q3⟩ := id hgv
    injection e9 with e10 e11 e12
    injection e10 with e13
    injection e13 with e14 e15
    subst e14 e15 e12
    exact ⟨by rw [HL.out]; exact q1, fun i x hx => by have := q3 i x hx; rwa [Nat.zero_add] at this⟩
  obtain ⟨RR, hRR⟩ : ∃ RR : World → Prop, RR = fun y => Below w.heap.size w y ∧ VaL y (.slice (some ⟨b, 0, none⟩) n cp) l ∧ VaL y (.slice (some ⟨g, o, none⟩) n cap) l ∧ (∀ i x, l[i]? = some x → VaAt y b (i * 4) x ∧ VaAt y g (o + i * 4) x) := ⟨_, rfl⟩
  have hR3 : RR w3 := by rw [hRR]; exact ⟨hb3, hgv, hlv, fun i x hx => ⟨hcp.2 i x hx, (HEL.out i x hx).later' hb3⟩⟩
  have RK : Hid (∀ y z, RR y → Below y.heap.size y z → RR z) := fun y z h hb => by
    rw [hRR] at h ⊢
    exact ⟨below_keep h.1 hb, h.2.1.later hb, h.2.2.1.later hb, fun i x hx => ⟨(h.2.2.2 i x hx).1.later' hb, (h.2.2.2 i x hx).2.later' hb⟩⟩
  have RW : Hid (∀ y, RR y → Below w.heap.size w y) := fun y h => by rw [hRR] at h; exact h.1
  have RE : Hid (∀ y i x, RR y → l[i]? = some x → VaAt y b (i * 4) x ∧ VaAt y g (o + i * 4) x) := fun y i x h hx => by rw [hRR] at h; exact h.2.2.2 i x hx
  have CD : Hid (∀ y, RR y → Calls Tryz.prog 36 #[.int .i64 op, .slice (some ⟨b, 0, none⟩) n cp] y (RetV (.tuple #[.agg #[.int .i64 y0, .int .i64 y1, .int .i64 y2, .string y3], .int .i64 z]) y)) := fun y h => by rw [hRR] at h; exact CD0.out y _ h.2.1
  have CR : Hid (∀ y, RR y → Calls Tryz.prog 37 #[.int .i64 op, .slice (some ⟨g, o, none⟩) n cap] y (RetV (.tuple #[.agg #[.int .i64 y0, .int .i64 y1, .int .i64 y2, .string y3], .int .i64 z]) y)) := fun y h => by rw [hRR] at h; exact CR0.out y h.2.2.1
  have hcpn := hcp.1
  have HCP := Lib.hid hcpn
  clear hown3 hgrow3 hat3 hol hgv hlv hcp hRR hb3 hbb hlt3 CD0 CR0 HOWN HNC HNL HEL HBA HI hcpn
  have R3 := Lib.hid hR3
  go_wp2_with fail
  refine (CD.out _ R3.out).mono ?_
  rintro e w4 ⟨rfl, hb4⟩
  have R5 := Lib.hid (RK.out _ _ (RK.out _ _ R3.out hb4) (below_alloc w4 (.cells #[.int .i64 y0, .int .i64 y1, .int .i64 y2, .string y3] 45)))
  have K5 : Hid (∀ w9, Below (w4.alloc (.cells #[.int .i64 y0, .int .i64 y1, .int .i64 y2, .string y3] 45)).heap.size (w4.alloc (.cells #[.int .i64 y0, .int .i64 y1, .int .i64 y2, .string y3] 45)) w9 → w9.cell? ⟨w4.heap.size, 0, none⟩ = some (.int .i64 y0) ∧ w9.cell? ⟨w4.heap.size, 1, none⟩ = some (.int .i64 y1) ∧ w9.cell? ⟨w4.heap.size, 2, none⟩ = some (.int .i64 y2) ∧ w9.cell? ⟨w4.heap.size, 3, none⟩ = some (.string y3) ∧ w4.heap.size < w9.heap.size) := fun w9 hb => by
    have hs := hb.size
    rw [World.size_alloc] at hs
    refine ⟨?_, ?_, ?_, ?_, by omega⟩ <;> (refine (hb.cell (p := ⟨w4.heap.size, _, none⟩) (by rw [World.size_alloc]; exact Nat.lt_succ_self _)).trans ?_; rw [World.cell?_alloc_at _ _ _ _ rfl]; rfl)
  clear hb4 CD
  go_wp2_with fail
  refine (CR.out _ R5.out).mono ?_
  rintro e w6 ⟨rfl, hb6⟩
  obtain ⟨W7, hW7⟩ : ∃ W7, W7 = w6.alloc (.cells #[.int .i64 y0, .int .i64 y1, .int .i64 y2, .string y3] 45) := ⟨_, rfl⟩
  have R7 : Hid (RR W7) := by rw [hW7]; exact RK.out _ _ (RK.out _ _ R5.out hb6) (below_alloc _ _)
  have K7 : Hid (W7.cell? ⟨w4.heap.size, 0, none⟩ = some (.int .i64 y0) ∧ W7.cell? ⟨w4.heap.size, 1, none⟩ = some (.int .i64 y1) ∧ W7.cell? ⟨w4.heap.size, 2, none⟩ = some (.int .i64 y2) ∧ W7.cell? ⟨w4.heap.size, 3, none⟩ = some (.string y3) ∧ w4.heap.size < W7.heap.size) := by
    rw [hW7]
    exact K5.out _ (below_keep hb6 (below_alloc _ _))
  have J7 : Hid (W7.cell? ⟨w6.heap.size, 0, none⟩ = some (.int .i64 y0) ∧ W7.cell? ⟨w6.heap.size, 1, none⟩ = some (.int .i64 y1) ∧ W7.cell? ⟨w6.heap.size, 2, none⟩ = some (.int .i64 y2) ∧ W7.cell? ⟨w6.heap.size, 3, none⟩ = some (.string y3) ∧ w6.heap.size < W7.heap.size) := by
    rw [hW7]
    refine ⟨?_, ?_, ?_, ?_, by simp⟩ <;> (rw [World.cell?_alloc_at _ _ _ _ rfl]; rfl)
  clear hb6 CR K5
  go_wp2
  rw [← hW7]
  clear hW7
  obtain ⟨PP, hPP⟩ : ∃ PP : World → Prop, PP = fun y => Below W7.heap.size W7 y := ⟨_, rfl⟩
  have PP0 : Hid (PP W7) := by show PP W7; rw [hPP]; exact Below.refl _ _
  have PPD : Hid (∀ y, PP y → PP y.drew) := fun y h => by rw [hPP] at h ⊢; exact h.drew
  have PPK : Hid (∀ y z, PP y → Below y.heap.size y z → PP z) := fun y z h hb => by rw [hPP] at h ⊢; exact below_keep h hb
  have PR : Hid (∀ y, PP y → RR y) := fun y h => by rw [hPP] at h; exact RK.out _ _ R7.out h
  have FC : Hid (∀ y, PP y → y.cell? ⟨w4.heap.size, 0, none⟩ = some (.int .i64 y0) ∧ y.cell? ⟨w4.heap.size, 1, none⟩ = some (.int .i64 y1) ∧ y.cell? ⟨w4.heap.size, 2, none⟩ = some (.int .i64 y2) ∧ y.cell? ⟨w4.heap.size, 3, none⟩ = some (.string y3)) := fun y h => by
    rw [hPP] at h
    obtain ⟨a0, a1, a2, a3, a4⟩ := K7.out
    exact ⟨(h.cell (p := ⟨w4.heap.size, 0, none⟩) a4).trans a0, (h.cell (p := ⟨w4.heap.size, 1, none⟩) a4).trans a1, (h.cell (p := ⟨w4.heap.size, 2, none⟩) a4).trans a2, (h.cell (p := ⟨w4.heap.size, 3, none⟩) a4).trans a3⟩
  have FD : Hid (∀ y, PP y → y.cell? ⟨w6.heap.size, 0, none⟩ = some (.int .i64 y0) ∧ y.cell? ⟨w6.heap.size, 1, none⟩ = some (.int .i64 y1) ∧ y.cell? ⟨w6.heap.size, 2, none⟩ = some (.int .i64 y2) ∧ y.cell? ⟨w6.heap.size, 3, none⟩ = some (.string y3)) := fun y h => by
    rw [hPP] at h
    obtain ⟨a0, a1, a2, a3, a4⟩ := J7.out
    exact ⟨(h.cell (p := ⟨w6.heap.size, 0, none⟩) a4).trans a0, (h.cell (p := ⟨w6.heap.size, 1, none⟩) a4).trans a1, (h.cell (p := ⟨w6.heap.size, 2, none⟩) a4).trans a2, (h.cell (p := ⟨w6.heap.size, 3, none⟩) a4).trans a3⟩
  clear hPP R7 K7 J7
  go_loopw [10] (fun iv wr => ∃ i : Nat, i ≤ n ∧ iv = .int .i64 (i : Nat) ∧ Hid (PP wr)) (fun iv _ => n - (intOf iv).toNat)
  case atStart => exact ⟨0, Nat.zero_le _, rfl, PP0.out⟩
  case round =>
    obtain ⟨i, hi, rfl, hP9⟩ := hrel
    by_cases hlt : i < n
    · obtain ⟨x, hx⟩ : ∃ x, l[i]? = some x := ⟨_, List.getElem?_eq_getElem (by rw [← HL.out]; exact hlt)⟩
      have KG : Hid (∀ y, PP y → y.cell? ⟨b, i * 4, none⟩ = some (.int .i64 x.kind) ∧ y.cell? ⟨b, i * 4 + 1, none⟩ = some (.int .i64 x.num) ∧ y.cell? ⟨b, i * 4 + 2, none⟩ = some (.int .i64 x.den) ∧ y.cell? ⟨b, i * 4 + 3, none⟩ = some (.string ⟨x.str.toArray⟩)) := fun y h =>
        let q := (RE.out y i x (PR.out y h) hx).1; ⟨q.kind, q.num, q.den, q.str⟩
      have KL : Hid (∀ y, PP y → y.cell? ⟨g, o + i * 4, none⟩ = some (.int .i64 x.kind) ∧ y.cell? ⟨g, o + i * 4 + 1, none⟩ = some (.int .i64 x.num) ∧ y.cell? ⟨g, o + i * 4 + 2, none⟩ = some (.int .i64 x.den) ∧ y.cell? ⟨g, o + i * 4 + 3, none⟩ = some (.string ⟨x.str.toArray⟩)) := fun y h =>
        let q := (RE.out y i x (PR.out y h) hx).2; ⟨q.kind, q.num, q.den, q.str⟩
      have hn5' := HN5.out
      clear hx
      go_wp2_with fail
      refine wp_region_list [.val (.slice (some ⟨b, 0, none⟩) n cp), .val (.int .i64 (i : Nat)), .val (.pointer (some ⟨b, i * 4, none⟩)), .val (.agg #[.int .i64 x.kind, .int .i64 x.num, .int .i64 x.den, .string ⟨x.str.toArray⟩]), .val (.slice (some ⟨g, o, none⟩) n cap), .val (.int .i64 (i : Nat)), .val (.pointer (some ⟨g, o + i * 4, none⟩)), .val (.agg #[.int .i64 x.kind, .int .i64 x.num, .int .i64 x.den, .string ⟨x.str.toArray⟩]), .val (.bool false)]
        [some 36, some 37, some 38, some 39, some 40, some 41, some 42, some 43, some 44]
        (fun w' => PP w') (fun w1 w2 => Below w1.heap.size w1 w2) rfl (by kernel_rfl) (by kernel_rfl) (by kernel_rfl) (by kernel_rfl) ?_ ?_ ?_ ?_
      · (intro y9 hy9 v w1 w2 hs hv; simp only [List.mem_cons, List.not_mem_nil, or_false] at hy9; rcases hy9 with rfl | rfl | rfl | rfl | rfl | rfl | rfl | rfl | rfl <;> exact hv)
      · exact PPD.out _ hP9.out
      · intro i9 op9 ho
        have hi : i9 < 9 := (Array.getElem?_eq_some_iff.1 ho).1
        match i9, hi with
        | 0, _ =>
          obtain rfl := Option.some.inj ho
          intro a9 wx hBx hev haf
          rw [if_pos (wanted_none rfl)]
          have f5 : (a9.tmps[5]?).getD undef = (.slice (some ⟨b, 0, none⟩) n cp) := hev 5 (by kernel_rfl)
          clear haf hev
          go_simp
          exact ⟨rfl, Below.refl _ _, hBx⟩
        | 1, _ =>
          obtain rfl := Option.some.inj ho
          intro a9 wx hBx hev haf
          rw [if_pos (wanted_none rfl)]
          have f10 : (a9.tmps[10]?).getD undef = (.int .i64 (i : Nat)) := hev 10 (by kernel_rfl)
          clear haf hev
          go_simp
          exact ⟨rfl, Below.refl _ _, hBx⟩
        | 2, _ =>
          obtain rfl := Option.some.inj ho
          intro a9 wx hBx hev haf
          rw [if_pos (wanted_none rfl)]
          have f36 : (a9.tmps[36]?).getD undef = (.slice (some ⟨b, 0, none⟩) n cp) := haf 0 _ rfl rfl 36 rfl
          have f37 : (a9.tmps[37]?).getD undef = (.int .i64 (i : Nat)) := haf 1 _ rfl rfl 37 rfl
          clear haf hev
          go_simp
          exact ⟨rfl, Below.refl _ _, hBx⟩
        | 3, _ =>
          obtain rfl := Option.some.inj ho
          intro a9 wx hBx hev haf
          rw [if_pos (wanted_none rfl)]
          have f38 : (a9.tmps[38]?).getD undef = (.pointer (some ⟨b, i * 4, none⟩)) := haf 0 _ rfl rfl 38 rfl
          clear haf hev
          obtain ⟨k0, k1, k2, k3⟩ := (KG.out _ hBx)
          go_simp
          exact ⟨rfl, Below.refl _ _, hBx⟩
        | 4, _ =>
          obtain rfl := Option.some.inj ho
          intro a9 wx hBx hev haf
          rw [if_pos (wanted_none rfl)]
          have f1 : (a9.tmps[1]?).getD undef = (.slice (some ⟨g, o, none⟩) n cap) := hev 1 (by kernel_rfl)
          clear haf hev
          go_simp
          exact ⟨rfl, Below.refl _ _, hBx⟩
        | 5, _ =>
          obtain rfl := Option.some.inj ho
          intro a9 wx hBx hev haf
          rw [if_pos (wanted_none rfl)]
          have f10 : (a9.tmps[10]?).getD undef = (.int .i64 (i : Nat)) := hev 10 (by kernel_rfl)
          clear haf hev
          go_simp
          exact ⟨rfl, Below.refl _ _, hBx⟩
        | 6, _ =>
          obtain rfl := Option.some.inj ho
          intro a9 wx hBx hev haf
          rw [if_pos (wanted_none rfl)]
          have f40 : (a9.tmps[40]?).getD undef = (.slice (some ⟨g, o, none⟩) n cap) := haf 0 _ rfl rfl 40 rfl
          have f41 : (a9.tmps[41]?).getD undef = (.int .i64 (i : Nat)) := haf 1 _ rfl rfl 41 rfl
          clear haf hev
          go_simp
          exact ⟨rfl, Below.refl _ _, hBx⟩
        | 7, _ =>
          obtain rfl := Option.some.inj ho
          intro a9 wx hBx hev haf
          rw [if_pos (wanted_none rfl)]
          have f42 : (a9.tmps[42]?).getD undef = (.pointer (some ⟨g, o + i * 4, none⟩)) := haf 0 _ rfl rfl 42 rfl
          clear haf hev
          obtain ⟨k0, k1, k2, k3⟩ := (KL.out _ hBx)
          go_simp
          exact ⟨rfl, Below.refl _ _, hBx⟩
        | 8, _ =>
          obtain rfl := Option.some.inj ho
          intro a9 wx hBx hev haf
          rw [if_pos (wanted_none rfl)]
          have f39 : (a9.tmps[39]?).getD undef = (.agg #[.int .i64 x.kind, .int .i64 x.num, .int .i64 x.den, .string ⟨x.str.toArray⟩]) := haf 0 _ rfl rfl 39 rfl
          have f43 : (a9.tmps[43]?).getD undef = (.agg #[.int .i64 x.kind, .int .i64 x.num, .int .i64 x.den, .string ⟨x.str.toArray⟩]) := haf 1 _ rfl rfl 43 rfl
          clear haf hev
          go_simp
          exact ⟨rfl, Below.refl _ _, hBx⟩
      · intro vals wx hBx hG
        have g0 : vals 0 = (.slice (some ⟨b, 0, none⟩) n cp) := hG 0 (by decide)
        have g1 : vals 1 = (.int .i64 (i : Nat)) := hG 1 (by decide)
        have g2 : vals 2 = (.pointer (some ⟨b, i * 4, none⟩)) := hG 2 (by decide)
        have g3 : vals 3 = (.agg #[.int .i64 x.kind, .int .i64 x.num, .int .i64 x.den, .string ⟨x.str.toArray⟩]) := hG 3 (by decide)
        have g4 : vals 4 = (.slice (some ⟨g, o, none⟩) n cap) := hG 4 (by decide)
        have g5 : vals 5 = (.int .i64 (i : Nat)) := hG 5 (by decide)
        have g6 : vals 6 = (.pointer (some ⟨g, o + i * 4, none⟩)) := hG 6 (by decide)
        have g7 : vals 7 = (.agg #[.int .i64 x.kind, .int .i64 x.num, .int .i64 x.den, .string ⟨x.str.toArray⟩]) := hG 7 (by decide)
        have g8 : vals 8 = (.bool false) := hG 8 (by decide)
        clear hG
        simp only [putDs, Act.put, Nat.zero_add, Nat.reduceAdd, List.setIfInBounds_toArray, List.set_cons_succ, List.set_cons_zero, g0, g1, g2, g3, g4, g5, g6, g7, g8]
        clear g0 g1 g2 g3 g4 g5 g6 g7 g8
        have hPx := Lib.hid hBx
        clear hBx
        go_wp2
        exact ⟨⟨i + 1, by omega, rfl, hPx⟩, by show n - (i + 1) < n - i; omega⟩
    · obtain rfl : i = n := by omega
      have hPw := hP9
      have hP := hPw.out
      obtain ⟨k0, k1, k2, k3⟩ := FC.out _ hP
      obtain ⟨j0, j1, j2, j3⟩ := FD.out _ hP
      have C9 := Lib.hid (HM.out _ (RW.out _ (PR.out _ hP)))
      have B9 := Lib.hid (RW.out _ (PR.out _ hP))
      clear hP
      go_wp2_with fail
      refine C9.out.mono ?_
      rintro e w9 ⟨rfl, hb9⟩
      have HB9 := Lib.hid (below_keep B9.out hb9)
      clear hb9
      go_wp2
      go_ret
      exact ⟨rfl, HB9.out⟩

theorem does_any (op : Int) (l : List Va) (v : Value) (w : World) (hm : Ml w) (hv : VaS w v l) (hw : ∀ y ∈ l, VaW y) (_ : l.length ≤ maxLen) :
    Calls Tryz.prog 7 #[.int .i64 op, v] w (RetV (.bool true) w) := by
  by_cases h : l.length ≤ 5
  · rcases hv with ⟨a, cap, rfl, rfl⟩ | ⟨g, o, cap, rfl, h1, h2, h3⟩
    · exact does_none op a cap w hm
    · by_cases h0 : l.length = 0
      · rw [h0]; obtain rfl := List.length_eq_zero_iff.1 h0
        exact does_none op _ cap w hm
      · exact does_some op l g o cap _ w hm h1 h2 rfl (by omega) h h3 (fun x hx => by have := (hw x hx).str; unfold maxLen at this; omega)
  · obtain ⟨a, cap, rfl, -⟩ := hv.shape
    exact does_big op a _ cap w hm (by omega)
end Go.Proofs.YtemhidlaaommaaaGreatDoor
