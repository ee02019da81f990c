/- Lemmas and contracts, each under its own condition: The walk of SpaceMake: the cells turned, and the end. (printed by mak.py) The walk of SpaceMake. (printed by mak.py) -/
import Derived.BigQuiet
import Derived.IntWalk
import Derived.Deep.DeepCutAuto
import Derived.Deep.CutBlock
import Derived.Deep.RegionHeld3
import Derived.Test.YthlkcppbljpooaaGreatDoorFromR
import Derived.Test.YthlkcppbljpooaaGreatDoorS15
import Derived.Test.YthlkcppbljpooaaGreatDoorS17
import Derived.Test.YthlkcppbljpooaaGreatDoorS22
import Derived.Test.YthlkcppbljpooaaGreatDoorS60
import Derived.Test.YthlkcppbljpooaaGreatDoorS64
import Derived.Test.YthlkcppbljpooaaGreatDoorS65
/- The walk of SpaceMake: the cells turned, and the end. (printed by mak.py) -/
namespace Go.Proofs.YthlkcppbljpooaaGreatDoor
open Go.RowKit

noncomputable def makTail : Code := (Tryz.f3.body.bind (fromReg 19)).getD .skip
theorem turn_snoc {l : List CellT} {q : Nat} {c : CellT} (h : l[q]? = some c) : l.reverse.take (l.length - (q + 1)) ++ [c] = l.reverse.take (l.length - q) := by
 have hq : q < l.length := (List.getElem?_eq_some_iff.1 h).1
 have e : l.reverse[l.length - (q + 1)]? = some c := by
  rw [List.getElem?_reverse (by omega), ← h]
  congr 1
  omega
 rw [show l.length - q = l.length - (q + 1) + 1 by omega, take_snoc' e]
set_option maxHeartbeats 16000000 in
set_option maxRecDepth 100000 in
theorem makTail_any (d : List DimT) (a : List AttrT) (l S : List CellT) (Q : ArrT) (E : Int) (vd va vl t1 t2 t3 x1 x2 x3 : Value) (gw gx : Nat) (w wm : World) (hm : Ml w) (hd : Dims w vd d) (ha : Attrs w va a) (hl : CellsA w vl l) (hs : StrD d) (hsa : StrA a) (ld : d.length ≤ 1000000) (la : a.length ≤ 1000000) (ll : l.length ≤ 60) (lc : ShortC l)
  (hp : S.Perm l) (hss : SortK CellT.co S) (hQ : Q = makeQ d a l S) (hE : E = makeE d a l S) (hwm : Below w.heap.size w wm) (hw : ArV wm gw t1 t2 t3) (hwa : ArrR wm t1 t2 t3 Q) (hx : ArV wm gx x1 x2 x3) (hxa : ArrR wm x1 x2 x3 Q) (v3 v4 v5 v6 v9 v12 v13 v14 v15 v16 v17 v18 v19 v20 v21 v22 v23 v24 v25 v26 v27 v28 v29 v30 v31 v32 v33 v34 v35 v36 v37 v38 v39 v40 v41 v42 v43 v44 v45 v46 v47 v48 v49 v50 v51 v52 v53 v54 v55 v56 v57 v58 v59 v60 v61 v62 v63 v64 v65 v66 v67 v68 v69 v70 v71 v72 v73 v74 v75 v76 v77 v78 v79 v80 v81 v82 v83 v84 v85 v86 v87 v88 v89 v90 v91 v92 v93 v94 v95 v96 v97 v98 v99 v100 v101 v102 v103 v104 v105 v106 v107 v108 v109 v110 v111 v112 v113 v114 v115 v116 v117 v118 v119 v120 v121 v122 v123 v124 v125 v126 v127 v128 v129 v130 v131 v132 v133 v134 v135 v136 v137 v138 v139 v140 v141 v142 v143 v144 v145 v146 v147 v148 v149 v150 v151 v152 v153 v154 : Value) :
  Code.wp Tryz.prog makTail (bodyPost Tryz.prog Tryz.f3 (RetV' (.bool true) w)) ⟨#[vd, va, vl, v3, v4, v5, v6, .pointer (some ⟨gw, 0, none⟩), .int .i64 E, v9, .pointer (some ⟨gx, 0, none⟩), .int .i64 E, v12, v13, v14, v15, v16, v17, v18, v19, v20, v21, v22, v23, v24, v25, v26, v27, v28, v29, v30, v31, v32, v33, v34, v35, v36, v37, v38, v39, v40, v41, v42, v43, v44, v45, v46, v47, v48, v49, v50, v51, v52, v53, v54, v55, v56, v57, v58, v59, v60, v61, v62, v63, v64, v65, v66, v67, v68, v69, v70, v71, v72, v73, v74, v75, v76, v77, v78, v79, v80, v81, v82, v83, v84, v85, v86, v87, v88, v89, v90, v91, v92, v93, v94, v95, v96, v97, v98, v99, v100, v101, v102, v103, v104, v105, v106, v107, v108, v109, v110, v111, v112, v113, v114, v115, v116, v117, v118, v119, v120, v121, v122, v123, v124, v125, v126, v127, v128, v129, v130, v131, v132, v133, v134, v135, v136, v137, v138, v139, v140, v141, v142, v143, v144, v145, v146, v147, v148, v149, v150, v151, v152, v153, v154], []⟩ wm := by
 have CW := Lib.hid (fun w1 (hb : Below w.heap.size w w1) => works_any w1 (hm.later hb))
 have CM : Hid (∀ (u : Value) (w9 : World), Below w.heap.size w w9 → CellsA w9 u l.reverse → Calls Tryz.prog 10 #[vd, va, u] w9 fun e w' => ∃ E', (E = 0 ↔ E' = 0) ∧ RetMq Q E' w9 e w') := fun u w9 hb hc =>
  (make_any d a l.reverse vd va u w9 (hd.later DimR.lasts hb) (ha.later AttrR.lasts hb) hc hs hsa ld la (fun c hc => lc c (List.mem_reverse.1 hc))).mono fun e w' h => by rw [hQ, hE]; exact RetMk.turned hss hp (List.reverse_perm l).symm h
 have HL := Lib.hid (hl.later CellR.lasts hwm)
 have HM := Lib.hid hwm
 have HW := Lib.hid (And.intro hw hwa)
 have HX := Lib.hid (And.intro hx hxa)
 obtain ⟨j0, hj0, hy0, hy1, hy2⟩ := info_parts infoCell
 obtain ⟨p1, k1, rfl, -⟩ := hd.shape
 obtain ⟨p2, k2, rfl, -⟩ := ha.shape
 obtain ⟨p3, k3, rfl, -⟩ := hl.shape
 obtain ⟨p4, k4, rfl, -⟩ := hwa.dims.shape
 obtain ⟨p5, k5, rfl, -⟩ := hwa.attrs.shape
 obtain ⟨p6, k6, rfl, -⟩ := hwa.cells.shape
 obtain ⟨p7, k7, rfl, -⟩ := hxa.dims.shape
 obtain ⟨p8, k8, rfl, -⟩ := hxa.attrs.shape
 obtain ⟨p9, k9, rfl, -⟩ := hxa.cells.shape
 have b0 : IntKind.i64.wrap ((l.length : Int) - 1) = (l.length : Int) - 1 := IntWalk.i64_in _ (by omega)
 clear hm hd ha hl hs hsa ld la lc hp hss hQ hE hwm hw hwa hx hxa
 conv => arg 2; whnf
 conv => arg 4; dsimp only
 let KF : (Ending → World → Prop) → Exit → Act → World → Prop := bodyPost Tryz.prog Tryz.f3
 go_wp2
 clear b0
 go_loopw [15, 16] (fun sv iv wz => ∃ (k : Nat) (z : Int), k ≤ l.length ∧ iv = .int .i64 z ∧ Hid (z = (k : Int) - 1) ∧ CutO wm.heap.size wm wz sv (l.reverse.take (l.length - k)) ∧ Below wm.heap.size wm wz) (fun _ iv _ => (intOf iv + 1).toNat)
 case atStart => exact ⟨l.length, _, Nat.le_refl _, rfl, rfl, by rw [Nat.sub_self, List.take_zero]; exact CutO.nil _ _ _, Below.refl _ _⟩
 case round =>
  obtain ⟨k, z, hk, rfl, hz, ho, hb⟩ := hrel
  have HO := Lib.hid ho
  have HBR := Lib.hid hb
  by_cases hlt : 0 < k
  ·obtain ⟨q, rfl⟩ : ∃ q, k = q + 1 := ⟨k - 1, by omega⟩
   obtain rfl : z = (q : Int) := by have := hz.out; omega
   obtain ⟨g, o, c, ea, hc, hr⟩ := HL.out.at q (by omega)
   subst ea
   obtain ⟨u1, u2, e1, e2, i1, i2⟩ := hr.ex
   have I12 := Lib.hid (And.intro i1 i2)
   obtain ⟨q1, c1, rfl, -⟩ := i1.shape
   obtain ⟨q2, c2, rfl, -⟩ := i2.shape
   have e1 := cell_later e1 hb
   have e2 := cell_later e2 hb
   have HTS := Lib.hid (turn_snoc hc)
   obtain ⟨D, hD⟩ : ∃ D, D = l.reverse.take (l.length - (q + 1)) := ⟨_, rfl⟩
   have hdl : D.length ≤ 60 := by rw [hD, List.length_take, List.length_reverse]; omega
   rw [← hD] at HTS HO
   obtain ⟨us, hul, hus, hux⟩ := HO.out.ex
   have HUX := Lib.hid hux
   have HUL := Lib.hid hul
   have hge : wm.heap.size ≤ wr.heap.size := hb.size
   have s0 : (0 : Int) ≤ (q : Int) := by omega
   have s1 : (q : Int) < (l.length : Int) := by omega
   have s2 : IntKind.i64.wrap ((q : Int) - 1) = (q : Int) - 1 := IntWalk.i64_in _ (by omega)
   have HI : Hid (q ≤ l.length) := by show _ ≤ _; omega
   clear hc hr i1 i2 ho hb hz hk hlt hD hul hux
   go_wp2_with (at_builtin; refine wpList_append_lies _ (by rfl) _ _ 24 (by rfl) wm.heap.size 38 j0 (.agg #[.slice none 0 0, .slice none 0 0]) 2 48 Tryz.underlying24 hj0 hy0 hy1 hy2 rfl (by decide) _ D.length (us.flatMap fun u => [u.1, u.2]) (by rfl) (hus.alloc _) ⟨wr.heap.size, 0, none⟩ 1 1 [.slice q1 c.co.length c1, .slice q2 c.vals.length c2] (by rfl) (by rfl) (two_at _ _ _ _) (by simp [Value.oneCell']) (by omega) (by unfold maxLen; omega) (by omega) (by simp; omega) (wr.heap.size + 1) (by simp) ?_)
   intro g7 cp7 w7 hown hgrow hat hlt6
   have HE7 : Hid (CutO wm.heap.size wm w7 (.slice (some ⟨g7, 0, none⟩) (D.length + 1) cp7) (l.reverse.take (l.length - q))) := by rw [← HTS.out]; exact CutO.snoc HUL.out HUX.out hown I12.out.1 I12.out.2
   have hbd : Below wr.heap.size wr (wr.alloc (.cells #[.slice q1 c.co.length c1, .slice q2 c.vals.length c2] 38)) := below_alloc _ _
   have HB7 := Lib.hid (HBR.out.trans ((hbd.mono hge).grown hgrow (Nat.le_trans hge hbd.size) (fun k e => (hus.lt k e).1)))
   clear hus hown hgrow hat hlt6 hbd hge
   go_wp2
   exact ⟨⟨q, _, HI.out, rfl, rfl, HE7.out, HB7.out⟩, by simp only [intOf]; omega⟩
  ·obtain rfl : k = 0 := by omega
   obtain rfl : z = -1 := by have := hz.out; omega
   rw [Nat.sub_zero, ← List.length_reverse, List.take_length] at ho
   have HC := Lib.hid (ho.cells hb)
   obtain ⟨p0, k0, hsh, -⟩ := HC.out.shape
   rw [List.length_reverse] at hsh
   subst hsh
   have HBW := Lib.hid (below_keep HM.out hb)
   have CY := Lib.hid (CM.out _ wr HBW.out HC.out)
   clear ho hb hz hk hlt HO
   go_wp2_with fail
   refine CY.out.mono ?_
   rintro e w6 ⟨E', hEE, y1, y2, y3, rfl, hd1, -, ha2, -, hc3, hb6⟩
   obtain ⟨W7, hW7, hb7, hv7⟩ := arV_at w6 y1 y2 y3
   have HY := Lib.hid (And.intro hv7 (ArrR.later ⟨hd1, ha2, hc3.cells⟩ hb7))
   have HB7 := Lib.hid (below_keep HBR.out (below_keep hb6 hb7))
   obtain ⟨p10, k10, rfl, -⟩ := hd1.shape
   obtain ⟨p11, k11, rfl, -⟩ := ha2.shape
   obtain ⟨p12, k12, rfl, -⟩ := hc3.cells.shape
   obtain ⟨c0, c1, c2, -⟩ := HW.out.1.later HB7.out
   obtain ⟨d0, d1, d2, -⟩ := HX.out.1.later HB7.out
   have CE := Lib.hid (equal_same Q _ _ _ _ _ _ W7 (HX.out.2.later HB7.out) (HW.out.2.later HB7.out))
   have HEE := Lib.hid hEE
   clear hd1 ha2 hc3 hb6 hb7 hv7 CY hEE CM
   go_upto_region 25 with (fail)
   rw [← hW7]
   clear hW7
   go_wp2_with fail
   refine CE.out.mono ?_
   rintro e w8 ⟨rfl, hb8⟩
   have HB8 := Lib.hid (below_keep HB7.out hb8)
   have HY8 := Lib.hid (And.intro (HY.out.1.later hb8) (HY.out.2.later hb8))
   obtain ⟨e0, e1, e2, -⟩ := HY8.out.1
   have d0 := cell_later d0 hb8
   have d1 := cell_later d1 hb8
   have d2 := cell_later d2 hb8
   have CE2 := Lib.hid (equal_same Q _ _ _ _ _ _ w8 (HX.out.2.later HB8.out) HY8.out.2)
   have HBW8 := Lib.hid (below_keep HM.out HB8.out)
   clear hb8 CE c0 c1 c2
   by_cases hE0 : E = 0
   ·obtain rfl : E' = 0 := HEE.out.1 hE0
    subst hE0
    go_wp2_with fail
    refine CE2.out.mono ?_
    rintro e w9 ⟨rfl, hb9⟩
    have HB9 := Lib.hid (below_keep HBW8.out hb9)
    clear hb9 CE2
    go_wp2_with fail
    refine (CW.out _ HB9.out).mono ?_
    rintro e z9 ⟨rfl, hb⟩
    have HBE := Lib.hid (below_keep HB9.out hb)
    clear hb CW
    go_wp2
    go_ret
    exact ⟨rfl, HBE.out⟩
   ·have n1 : (E == 0) = false := by rw [beq_eq_false_iff_ne]; exact hE0
    have n2 : (E' == 0) = false := by rw [beq_eq_false_iff_ne]; exact fun h => hE0 (HEE.out.2 h)
    clear hE0
    go_wp2_with fail
    refine CE2.out.mono ?_
    rintro e w9 ⟨rfl, hb9⟩
    have HB9 := Lib.hid (below_keep HBW8.out hb9)
    clear hb9 CE2
    go_wp2_with fail
    refine (CW.out _ HB9.out).mono ?_
    rintro e z9 ⟨rfl, hb⟩
    have HBE := Lib.hid (below_keep HB9.out hb)
    clear hb CW
    go_wp2
    go_ret
    exact ⟨rfl, HBE.out⟩
end Go.Proofs.YthlkcppbljpooaaGreatDoor
/- The walk of SpaceMake. (printed by mak.py) -/
namespace Go.Proofs.YthlkcppbljpooaaGreatDoor
open Go.RowKit

set_option maxHeartbeats 16000000 in
set_option maxRecDepth 100000 in
theorem spaceMake_any (d : List DimT) (a : List AttrT) (l : List CellT) (vd va vl : Value) (w : World) (hm : Ml w) (hd : Dims w vd d) (ha : Attrs w va a) (hl : CellsA w vl l) (hs : StrD d) (hsa : StrA a) (hsc : StrC l) :
  Calls Tryz.prog 3 #[vd, va, vl] w (RetV' (.bool true) w) := by
 have CW := Lib.hid (fun w1 (hb : Below w.heap.size w w1) => works_any w1 (hm.later hb))
 have CL := Lib.hid (lschema_any d a vd va w hd ha)
 have CC := Lib.hid (lcells_any l 60 vl w hl)
 have HM := Lib.hid hm
 have HD := Lib.hid (And.intro hd (And.intro ha hl))
 have HS := Lib.hid (And.intro hs (And.intro hsa hsc))
 obtain ⟨p1, k1, rfl, -⟩ := hd.shape
 obtain ⟨p2, k2, rfl, -⟩ := ha.shape
 obtain ⟨p3, k3, rfl, -⟩ := hl.shape
 clear hm hd ha hl hs hsa hsc
 go_enter Tryz.func3, Tryz.ntmps3
 let KF : (Ending → World → Prop) → Exit → Act → World → Prop := bodyPost Tryz.prog Tryz.f3
 go_wp2_with fail
 refine CL.out.mono ?_
 rintro e w1 ⟨b, rfl, hSS, rfl⟩
 clear CL
 cases b with
 | false =>
  go_wp2_with fail
  refine (CW.out _ (Below.refl _ _)).mono ?_
  rintro e w2 ⟨rfl, hb⟩
  have HB := Lib.hid hb
  clear hb CW
  go_wp2
  go_ret
  exact ⟨rfl, HB.out⟩
 | true =>
  have HSS := Lib.hid (hSS rfl)
  clear hSS
  go_wp2_with fail
  refine CC.out.mono ?_
  rintro e w1 ⟨b, rfl, hCS, rfl⟩
  clear CC
  cases b with
  | false =>
   go_wp2_with fail
   refine (CW.out _ (Below.refl _ _)).mono ?_
   rintro e w2 ⟨rfl, hb⟩
   have HB := Lib.hid hb
   clear hb CW
   go_wp2
   go_ret
   exact ⟨rfl, HB.out⟩
  | true =>
   have hCS := hCS rfl
   have HSH : Hid (ShortC l) := fun c hc => ⟨by have := (hCS.cell c hc).co; omega, by have := (hCS.cell c hc).vals; omega⟩
   have hll : l.length ≤ 60 := hCS.len
   have HLD : Hid (d.length ≤ 1000000 ∧ a.length ≤ 1000000) := ⟨by have := HSS.out.dims; omega, by have := HSS.out.attrs; omega⟩
   have HCL : Hid (∀ c ∈ l, c.co.length ≤ 10 ∧ c.vals.length ≤ 10) := fun c hc => ⟨(hCS.cell c hc).co, (hCS.cell c hc).vals⟩
   have CR := Lib.hid (rmake_any d a l _ _ _ w1 HD.out.1 HD.out.2.1 HD.out.2.2 HS.out.1 HS.out.2.1 HS.out.2.2 HLD.out.1 HLD.out.2 HSH.out)
   clear hCS
   go_wp2_with fail
   refine CR.out.mono ?_
   rintro e w2 ⟨S, t1, t2, t3, hp, hss, rfl, har, hb⟩
   obtain ⟨Q, hQ⟩ : ∃ Q, Q = makeQ d a l S := ⟨_, rfl⟩
   obtain ⟨E, hE⟩ : ∃ E, E = makeE d a l S := ⟨_, rfl⟩
   rw [← hQ] at har
   rw [← hE]
   have HPS := Lib.hid (And.intro hp hss)
   have HQE := Lib.hid (And.intro hQ hE)
   obtain ⟨W2, hW2, hb2, hv2⟩ := arV_at w2 t1 t2 t3
   have HT := Lib.hid (And.intro hv2 (har.later hb2))
   have HB2 := Lib.hid (below_keep hb hb2)
   have CO := Lib.hid (copy_any d a l _ _ _ W2 (HD.out.1.later DimR.lasts HB2.out) (HD.out.2.1.later AttrR.lasts HB2.out) (HD.out.2.2.later CellR.lasts HB2.out) HLD.out.1 HLD.out.2 (by omega) HSH.out)
   obtain ⟨p4, k4, rfl, -⟩ := har.dims.shape
   obtain ⟨p5, k5, rfl, -⟩ := har.attrs.shape
   obtain ⟨p6, k6, rfl, -⟩ := har.cells.shape
   clear hp hss har hb hQ hE hb2 hv2 CR
   go_upto_region 4 with (fail)
   rw [← hW2]
   clear hW2
   go_wp2_with fail
   refine CO.out.mono ?_
   rintro e w3 ⟨m1, m2, m3, rfl, hd1, td1, ha2, ta2, ho, hb3⟩
   obtain ⟨W3, hW3, hb, hv3⟩ := arV_at w3 m1 m2 m3
   have HO := Lib.hid (And.intro ho hv3)
   have HB3 := Lib.hid hb3
   have HB3' := Lib.hid hb
   have HW3 : Hid (W3.heap.size = w3.heap.size + 1) := by show _ = _; rw [hW3]; simp
   have CK : Hid (Calls Tryz.prog 10 #[m1, m2, m3] W3 (RetMq Q E W3)) :=
    (make_any d a l m1 m2 m3 W3 (hd1.later DimR.lasts hb) (ha2.later AttrR.lasts hb) (ho.cells.later CellR.lasts hb) HS.out.1 HS.out.2.1 HLD.out.1 HLD.out.2 HSH.out).mono fun e w' h => by rw [HQE.out.1, HQE.out.2]; exact RetMk.same HPS.out.2 HPS.out.1 h
   obtain ⟨q1, r1, rfl, -⟩ := hd1.shape
   obtain ⟨q2, r2, rfl, -⟩ := ha2.shape
   obtain ⟨q3, r3, rfl, -⟩ := ho.cells.shape
   obtain ⟨z0, z1, z2, -⟩ := hv3
   clear hd1 td1 ha2 ta2 ho hb3 hb CO
   go_upto_region 5 with (fail)
   rw [← hW3]
   clear hW3
   go_wp2_with fail
   refine CK.out.mono ?_
   rintro e w4 ⟨x1, x2, x3, rfl, hd1, td1, ha2, ta2, ho, hb4⟩
   obtain ⟨W4, hW4, hb, hv4⟩ := arV_at w4 x1 x2 x3
   have HBM := Lib.hid (below_keep hb4 hb)
   have HBT := Lib.hid (below_keep HB3.out (below_keep HB3'.out HBM.out))
   have HX := Lib.hid (And.intro (hd1.later DimR.lasts hb) (And.intro (td1.later hb) (And.intro (ha2.later AttrR.lasts hb) (And.intro (ta2.later hb) (And.intro (ho.later hb) hv4)))))
   have CE := Lib.hid (equal_same Q _ _ _ _ _ _ W4 ⟨HX.out.1, HX.out.2.2.1, HX.out.2.2.2.2.1.cells⟩ (HT.out.2.later HBT.out))
   obtain ⟨q4, r4, rfl, -⟩ := hd1.shape
   obtain ⟨q5, r5, rfl, -⟩ := ha2.shape
   obtain ⟨q6, r6, rfl, -⟩ := ho.cells.shape
   obtain ⟨c0, c1, c2, -⟩ := hv4
   obtain ⟨d0, d1, d2, -⟩ := HT.out.1.later HBT.out
   have tE : (E != E) = false := by simp
   clear hd1 td1 ha2 ta2 ho hb4 hb CK z0 z1 z2
   go_upto_region 6 with (fail)
   rw [← hW4]
   clear hW4
   go_wp2_with fail
   refine CE.out.mono ?_
   rintro e W ⟨rfl, hbW⟩
   have HBE := Lib.hid (below_keep HBM.out hbW)
   have HTW : Hid (ArV W w2.heap.size _ _ _ ∧ Below W2.heap.size W2 W) := ⟨HT.out.1.later (below_keep HBT.out hbW), below_keep HBT.out hbW⟩
   obtain ⟨y1, y2, y3, y4, y5, y6⟩ := HX.out
   have HXW := Lib.hid (And.intro (y1.later DimR.lasts hbW) (And.intro (y2.later hbW) (And.intro (y3.later AttrR.lasts hbW) (And.intro (y4.later hbW) (And.intro (y5.later hbW) (y6.later hbW))))))
   have HMS : Hid (MutS W2.heap.size W3.heap.size w3.heap.size (.slice q3 l.length r3) l W W) := MutS.start HO.out.1 (by have := HW3.out; omega) (below_keep HB3'.out HBE.out) (HO.out.2.later HBE.out).tag (HO.out.2.later HBE.out).c2
   have HNS : Hid (W2.heap.size ≤ W.heap.size) := HTW.out.2.size
   clear y1 y2 y3 y4 y5 y6 hbW CE c0 c1 c2 d0 d1 d2 tE HX HBM
   go_upto_block 0 with (fail)
   go_cut [12] (fun iv wx => ∃ i : Nat, iv = .int .i64 (i : Nat) ∧ MutS W2.heap.size W3.heap.size w3.heap.size (.slice q3 l.length r3) l W wx)
   case first =>
    go_wp2
    go_loopw [12] (fun iv wr => ∃ i : Nat, i ≤ l.length ∧ iv = .int .i64 (i : Nat) ∧ MutS W2.heap.size W3.heap.size w3.heap.size (.slice q3 l.length r3) l W wr) (fun iv _ => l.length - (intOf iv).toNat)
    case atStart => exact ⟨0, Nat.zero_le _, rfl, HMS.out⟩
    case round =>
     obtain ⟨i, hi, rfl, hms⟩ := hrel
     have HR := Lib.hid hms
     have c2 := hms.c2
     by_cases hlt : i < l.length
     ·have hc := List.getElem?_eq_getElem hlt
      have hcm := HCL.out _ (List.getElem_mem hlt)
      obtain ⟨c, hcc⟩ : ∃ c, c = l[i] := ⟨_, rfl⟩
      rw [← hcc] at hc hcm
      have HC := Lib.hid hc
      obtain ⟨g, rfl⟩ := hms.shape hc
      obtain ⟨hc1, hc2⟩ := hcm
      have HI : Hid (i + 1 ≤ l.length ∧ l.length - (i + 1) < l.length - i) := by show _ ∧ _; omega
      have i0 : (0 : Int) ≤ (i : Int) := by omega
      have i1 : (i : Int) < (l.length : Int) := by omega
      clear hms hc hcc hi
      go_wp2
      clear c2
      obtain ⟨wa, hwa⟩ : ∃ wa, wa = wr := ⟨_, rfl⟩
      rw [← hwa] at HR ⊢
      clear hwa
      go_loopw [13] (fun kv wy => ∃ k : Nat, k ≤ c.co.length ∧ kv = .int .i64 (k : Nat) ∧ MutS W2.heap.size W3.heap.size w3.heap.size (.slice (some ⟨g, 0, none⟩) l.length r3) l W wy) (fun kv _ => c.co.length - (intOf kv).toNat)
      case atStart => exact ⟨0, Nat.zero_le _, rfl, HR.out⟩
      case round =>
       clear HR
       obtain ⟨k, hk, rfl, hms⟩ := hrel
       have HR := Lib.hid hms
       have c2 := hms.c2
       obtain ⟨p, m, q, k', e1, e2, hI, -⟩ := hms.get HC.out
       by_cases hkl : k < c.co.length
       ·obtain ⟨g1, o1, x, rfl, hmu, htg, hx, hf⟩ := hI.ex k hkl
        have HG := Lib.hid (And.intro hmu htg)
        have HI2 : Hid (k + 1 ≤ c.co.length ∧ c.co.length - (k + 1) < c.co.length - k) := by show _ ∧ _; omega
        have j0 : (0 : Int) ≤ (k : Int) := by omega
        have j1 : (k : Int) < (c.co.length : Int) := by omega
        clear hms hI hmu htg hk e2 hkl
        go_wp2
        go_region
        go_wp2
        exact ⟨⟨k + 1, HI2.out.1, by go_num, (HR.out.int HG.out.1 HG.out.2 _ _).later HNS.out (by first | exact Below.refl _ _ | exact (Below.refl _ _).drew | exact below_drewN' _ _)⟩, HI2.out.2⟩
       ·have j1 : ¬ (k : Int) < (c.co.length : Int) := by omega
        clear hI hms e2 hk hkl
        go_wp2
        clear c2 e1 j1
        obtain ⟨wb, hwb⟩ : ∃ wb, wb = wr := ⟨_, rfl⟩
        rw [← hwb] at HR ⊢
        clear hwb
        go_loopw [14] (fun kv wy => ∃ k : Nat, k ≤ c.vals.length ∧ kv = .int .i64 (k : Nat) ∧ MutS W2.heap.size W3.heap.size w3.heap.size (.slice (some ⟨g, 0, none⟩) l.length r3) l W wy) (fun kv _ => c.vals.length - (intOf kv).toNat)
        case atStart => exact ⟨0, Nat.zero_le _, rfl, HR.out⟩
        case round =>
         clear HR
         obtain ⟨k, hk, rfl, hms⟩ := hrel
         have HR := Lib.hid hms
         have c2 := hms.c2
         obtain ⟨p, m, q, k', e1, e2, -, hV⟩ := hms.get HC.out
         by_cases hkl : k < c.vals.length
         ·obtain ⟨g1, o1, rfl, hmu, htg, hx⟩ := hV.ex k hkl
          have HG := Lib.hid (And.intro hmu htg)
          obtain ⟨⟨y0, c0⟩, f0⟩ := hx 0 (by decide)
          obtain ⟨⟨y1, c1⟩, f1⟩ := hx 1 (by decide)
          obtain ⟨⟨y3, c3⟩, f3⟩ := hx 2 (by decide)
          obtain ⟨⟨y4, c4⟩, f4⟩ := hx 3 (by decide)
          have HI2 : Hid (k + 1 ≤ c.vals.length ∧ c.vals.length - (k + 1) < c.vals.length - k) := by show _ ∧ _; omega
          have j0 : (0 : Int) ≤ (k : Int) := by omega
          have j1 : (k : Int) < (c.vals.length : Int) := by omega
          rw [Nat.add_zero] at c0 f0
          clear hms hV hmu htg hk e1 hkl hx
          go_wp2
          exact ⟨⟨k + 1, HI2.out.1, by go_num, ((((HR.out.val HG.out.1 HG.out.2 _ _).val HG.out.1 HG.out.2 _ _).val HG.out.1 HG.out.2 _ _).val HG.out.1 HG.out.2 _ _).later HNS.out (by first | exact Below.refl _ _ | exact (Below.refl _ _).drew | exact below_drewN' _ _)⟩, HI2.out.2⟩
         ·have j1 : ¬ (k : Int) < (c.vals.length : Int) := by omega
          clear hV hms e1 hk hkl
          go_wp2
          exact ⟨⟨i + 1, HI.out.1, by go_num, HR.out⟩, HI.out.2⟩
     ·have j1 : ¬ (i : Int) < (l.length : Int) := by omega
      clear hms
      go_wp2
      go_meet
      exact ⟨i, rfl, HR.out⟩
   case rest =>
    obtain ⟨i, rfl, hms⟩ := hcut
    apply_assumption
    have hj := hms.j
    exact makTail_any d a l S Q E _ _ _ _ _ _ _ _ _ _ _ w1 _ HM.out HD.out.1 HD.out.2.1 HD.out.2.2 HS.out.1 HS.out.2.1 HLD.out.1 HLD.out.2 hll HSH.out HPS.out.1 HPS.out.2 HQE.out.1 HQE.out.2 ((below_keep HB2.out HTW.out.2).trans (hj.below.mono HB2.out.size)) (HTW.out.1.mut hj) (hj.arr (Nat.le_refl _) HTW.out.2 HT.out.2) (HXW.out.2.2.2.2.2.mut hj) (hj.new HXW.out.1 HXW.out.2.1 HXW.out.2.2.1 HXW.out.2.2.2.1 HXW.out.2.2.2.2.1) _ _ _ _ _ _ _ _ _ _ _ _ _ _ _ _ _ _ _ _ _ _ _ _ _ _ _ _ _ _ _ _ _ _ _ _ _ _ _ _ _ _ _ _ _ _ _ _ _ _ _ _ _ _ _ _ _ _ _ _ _ _ _ _ _ _ _ _ _ _ _ _ _ _ _ _ _ _ _ _ _ _ _ _ _ _ _ _ _ _ _ _ _ _ _ _ _ _ _ _ _ _ _ _ _ _ _ _ _ _ _ _ _ _ _ _ _ _ _ _ _ _ _ _ _ _ _ _ _ _ _ _ _ _ _ _ _ _ _ _ _ _ _ _ _ _ _ _
end Go.Proofs.YthlkcppbljpooaaGreatDoor
