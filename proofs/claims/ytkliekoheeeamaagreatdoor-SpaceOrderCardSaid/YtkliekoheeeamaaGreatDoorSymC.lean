/- slices.symMergeCmpFunc at lists of integers: the contract. -/
import Derived.Test.YtkliekoheeeamaaGreatDoorFromR
import Derived.Test.YtkliekoheeeamaaGreatDoorS44
namespace Go.Proofs.YtkliekoheeeamaaGreatDoor
open Go.RowKit

theorem MrgE.mem {α : Type} {K : α → List Int} {a b : Nat} {zs zs' : List α} (h : MrgE K a b zs zs') {x : α} (hx : x ∈ zs') : x ∈ zs := h.perm.mem_iff.1 hx
theorem Mrg5.perm {α : Type} {K : α → List Int} {a s mid e b : Nat} {zs0 zs : List α} (h : Mrg5 K a s mid e b zs0 zs) : zs.Perm zs0 := by
 obtain ⟨P, A1, A2, B1, B2, R, rfl, rfl, -⟩ := h
 refine List.Perm.append_left P ?_
 have := perm4 A1 A2 B1 B2
 rw [show A1 ++ (A2 ++ (B1 ++ (B2 ++ R))) = (A1 ++ (A2 ++ (B1 ++ B2))) ++ R by simp, ← List.append_assoc]
 exact List.Perm.append_right R this
theorem Mrg6.perm {α : Type} {K : α → List Int} {a mid e b : Nat} {zs0 zs : List α} (h : Mrg6 K a mid e b zs0 zs) : zs.Perm zs0 := by
 obtain ⟨P, C, A2, B2, Z0, R, rfl, rfl, hp, -⟩ := h
 refine List.Perm.append_left P ?_
 rw [← List.append_assoc]
 exact List.Perm.append_right R hp

/-- what is known of a merge of less than d elements -/
def SymRec (fc : Nat) (lb : Array Value) (K : ElT → List Int) (xs : List ElT) (g n cap : Nat) (W0 : World) (d : Nat) : Prop :=
 ∀ (a m b : Nat) (zs : List ElT) (w : World), b - a < d → a < m → m < b → b ≤ n → W0.grownBy w (some g) → RowU w g zs → (∀ x ∈ zs, x ∈ xs) → zs.length = n → MrgS K a m b zs →
  Calls Tryz.prog 121 #[.slice (some ⟨g, 0, none⟩) n cap, .int .i64 a, .int .i64 m, .int .i64 b, .func (.func fc) #[] lb] w (RetSw (fun z => MrgE K a b zs z) g w)

noncomputable def tail38 : Code := (Tryz.f121.body.bind (fromReg 38)).getD .skip
noncomputable def tail41 : Code := (Tryz.f121.body.bind (fromReg 41)).getD .skip
noncomputable def tail43 : Code := (Tryz.f121.body.bind (fromReg 43)).getD .skip
set_option maxHeartbeats 16000000 in
set_option maxRecDepth 100000 in
theorem symTail43 (fc : Nat) (lb : Array Value) (K : ElT → List Int) (xs zs : List ElT) (g n cap a m b mid i e d : Nat) (W0 w : World) (hrec : SymRec fc lb K xs g n cap W0 d) (hg : W0.grownBy w (some g)) (hd : b - a ≤ d) (hab : a < mid) (hmb : mid < b) (hb : b ≤ n) (he : mid ≤ e ∧ e ≤ b) (hme : ∀ x ∈ zs, x ∈ xs) (hn : zs.length = n)
  (Z2 : List ElT) (wc : World) (hm6 : Mrg6 K a mid e b zs Z2) (hrw2 : RowU wc g Z2) (hgr2 : w.grownBy wc (some g)) (v5 v6 v7 v8 v9 v10 v11 v12 v13 v14 v15 v16 v17 v19 v21 v22 v23 v25 v26 v27 v28 v29 v30 v31 v32 v33 v34 v35 v36 v37 v38 v39 v40 v41 v42 v43 v44 v45 v46 v47 v48 v49 v50 v51 v52 v53 v54 v55 v56 v57 v58 v59 v60 v61 v62 v63 v64 v65 v66 v67 v68 v69 v70 v71 v72 v73 v74 v75 v76 v77 v78 v79 v80 v81 v82 v83 v84 v85 v86 v87 v88 v89 v90 v91 v92 v93 v94 v95 v96 v97 v98 v99 v100 v101 v102 v103 v104 v105 v106 v107 v108 v109 v110 v111 v112 v113 v114 v115 v116 v117 v118 v119 v120 v121 v122 v123 v124 v125 v126 v127 v128 v129 v130 v131 v132 v133 v134 v135 v136 v137 v138 v139 v140 v141 v142 v143 v144 v145 v146 v147 v148 v149 v150 v151 v152 v153 v154 v155 v156 v157 v158 v159 v160 v161 v162 v163 v164 v165 v166 v167 v168 v169 v170 v171 v172 v173 v174 v175 v176 v177 v178 v179 v180 v181 v182 v183 v184 v185 v186 v187 v188 v189 v190 v191 v192 v193 v194 v195 v196 v197 v198 v199 v200 v201 v202 v203 v204 v205 v206 v207 v208 v209 v210 v211 v212 v213 v214 v215 v216 v217 v218 v219 : Value) :
  Code.wp Tryz.prog tail43 (bodyPost Tryz.prog Tryz.f121 (RetSw (fun z => MrgE K a b zs z) g w)) ⟨#[.slice (some ⟨g, 0, none⟩) n cap, .int .i64 a, .int .i64 m, .int .i64 b, .func (.func fc) #[] lb, v5, v6, v7, v8, v9, v10, v11, v12, v13, v14, v15, v16, v17, .int .i64 mid, v19, .int .i64 i, v21, v22, v23, .int .i64 e, v25, v26, v27, v28, v29, v30, v31, v32, v33, v34, v35, v36, v37, v38, v39, v40, v41, v42, v43, v44, v45, v46, v47, v48, v49, v50, v51, v52, v53, v54, v55, v56, v57, v58, v59, v60, v61, v62, v63, v64, v65, v66, v67, v68, v69, v70, v71, v72, v73, v74, v75, v76, v77, v78, v79, v80, v81, v82, v83, v84, v85, v86, v87, v88, v89, v90, v91, v92, v93, v94, v95, v96, v97, v98, v99, v100, v101, v102, v103, v104, v105, v106, v107, v108, v109, v110, v111, v112, v113, v114, v115, v116, v117, v118, v119, v120, v121, v122, v123, v124, v125, v126, v127, v128, v129, v130, v131, v132, v133, v134, v135, v136, v137, v138, v139, v140, v141, v142, v143, v144, v145, v146, v147, v148, v149, v150, v151, v152, v153, v154, v155, v156, v157, v158, v159, v160, v161, v162, v163, v164, v165, v166, v167, v168, v169, v170, v171, v172, v173, v174, v175, v176, v177, v178, v179, v180, v181, v182, v183, v184, v185, v186, v187, v188, v189, v190, v191, v192, v193, v194, v195, v196, v197, v198, v199, v200, v201, v202, v203, v204, v205, v206, v207, v208, v209, v210, v211, v212, v213, v214, v215, v216, v217, v218, v219], []⟩ wc := by
 have HG := Lib.hid hg
 have HREC := Lib.hid hrec
 have HME := Lib.hid hme
 have HN := Lib.hid hn
 obtain ⟨he1, he2⟩ := he
 clear hg hrec hme hn
 conv => arg 2; whnf
 conv => arg 4; dsimp only
 obtain ⟨Wd, hWd⟩ : ∃ Wd, Wd = wc := ⟨_, rfl⟩
 rw [← hWd] at hrw2 hgr2 ⊢
 have H6 := Lib.hid hm6
 have HRD := Lib.hid hrw2
 have HGD := Lib.hid hgr2
 have HMD : Hid (∀ x ∈ Z2, x ∈ xs) := fun x hx => HME.out x (hm6.perm.mem_iff.1 hx)
 have HLD : Hid (Z2.length = n) := by show _ = _; rw [hm6.perm.length_eq, HN.out]
 clear hWd hrw2 hgr2 hm6
 by_cases hA : mid < e
 ·by_cases hB : e < b
  ·have C := Lib.hid (HREC.out mid e b Z2 Wd (by omega) hA hB (by omega) (HG.out.trans HGD.out) HRD.out HMD.out HLD.out H6.out.second)
   go_wp2_with fail
   refine C.out.mono ?_
   rintro e' w1 ⟨rfl, z2, hm2, hr2, hg2⟩
   have HM2 := Lib.hid (H6.out.done hm2)
   have HR2 := Lib.hid hr2
   have HG2 := Lib.hid (HGD.out.trans hg2)
   clear hm2 hr2 hg2 C
   go_wp2
   go_end0
   exact ⟨rfl, z2, HM2.out, HR2.out, HG2.out⟩
  ·have HM2 := Lib.hid (H6.out.skip (by omega))
   go_wp2
   go_end0
   exact ⟨rfl, Z2, HM2.out, HRD.out, HGD.out⟩
 ·have HM2 := Lib.hid (H6.out.skip (by omega))
  go_wp2
  go_end0
  exact ⟨rfl, Z2, HM2.out, HRD.out, HGD.out⟩
set_option maxHeartbeats 16000000 in
set_option maxRecDepth 100000 in
theorem symTail41 (fc : Nat) (lb : Array Value) (K : ElT → List Int) (xs zs : List ElT) (g n cap a m b mid i e d : Nat) (W0 w : World) (hrec : SymRec fc lb K xs g n cap W0 d) (hg : W0.grownBy w (some g)) (hd : b - a ≤ d) (hab : a < mid) (hmb : mid < b) (hb : b ≤ n) (he : mid ≤ e ∧ e ≤ b) (hi : a ≤ i ∧ i ≤ mid) (hme : ∀ x ∈ zs, x ∈ xs) (hn : zs.length = n)
  (Z : List ElT) (wc : World) (hz5 : Mrg5 K a i mid e b zs Z) (hrw2 : RowU wc g Z) (hgr2 : w.grownBy wc (some g)) (v5 v6 v7 v8 v9 v10 v11 v12 v13 v14 v15 v16 v17 v19 v21 v22 v23 v25 v26 v27 v28 v29 v30 v31 v32 v33 v34 v35 v36 v37 v38 v39 v40 v41 v42 v43 v44 v45 v46 v47 v48 v49 v50 v51 v52 v53 v54 v55 v56 v57 v58 v59 v60 v61 v62 v63 v64 v65 v66 v67 v68 v69 v70 v71 v72 v73 v74 v75 v76 v77 v78 v79 v80 v81 v82 v83 v84 v85 v86 v87 v88 v89 v90 v91 v92 v93 v94 v95 v96 v97 v98 v99 v100 v101 v102 v103 v104 v105 v106 v107 v108 v109 v110 v111 v112 v113 v114 v115 v116 v117 v118 v119 v120 v121 v122 v123 v124 v125 v126 v127 v128 v129 v130 v131 v132 v133 v134 v135 v136 v137 v138 v139 v140 v141 v142 v143 v144 v145 v146 v147 v148 v149 v150 v151 v152 v153 v154 v155 v156 v157 v158 v159 v160 v161 v162 v163 v164 v165 v166 v167 v168 v169 v170 v171 v172 v173 v174 v175 v176 v177 v178 v179 v180 v181 v182 v183 v184 v185 v186 v187 v188 v189 v190 v191 v192 v193 v194 v195 v196 v197 v198 v199 v200 v201 v202 v203 v204 v205 v206 v207 v208 v209 v210 v211 v212 v213 v214 v215 v216 v217 v218 v219 : Value) :
  Code.wp Tryz.prog tail41 (bodyPost Tryz.prog Tryz.f121 (RetSw (fun z => MrgE K a b zs z) g w)) ⟨#[.slice (some ⟨g, 0, none⟩) n cap, .int .i64 a, .int .i64 m, .int .i64 b, .func (.func fc) #[] lb, v5, v6, v7, v8, v9, v10, v11, v12, v13, v14, v15, v16, v17, .int .i64 mid, v19, .int .i64 i, v21, v22, v23, .int .i64 e, v25, v26, v27, v28, v29, v30, v31, v32, v33, v34, v35, v36, v37, v38, v39, v40, v41, v42, v43, v44, v45, v46, v47, v48, v49, v50, v51, v52, v53, v54, v55, v56, v57, v58, v59, v60, v61, v62, v63, v64, v65, v66, v67, v68, v69, v70, v71, v72, v73, v74, v75, v76, v77, v78, v79, v80, v81, v82, v83, v84, v85, v86, v87, v88, v89, v90, v91, v92, v93, v94, v95, v96, v97, v98, v99, v100, v101, v102, v103, v104, v105, v106, v107, v108, v109, v110, v111, v112, v113, v114, v115, v116, v117, v118, v119, v120, v121, v122, v123, v124, v125, v126, v127, v128, v129, v130, v131, v132, v133, v134, v135, v136, v137, v138, v139, v140, v141, v142, v143, v144, v145, v146, v147, v148, v149, v150, v151, v152, v153, v154, v155, v156, v157, v158, v159, v160, v161, v162, v163, v164, v165, v166, v167, v168, v169, v170, v171, v172, v173, v174, v175, v176, v177, v178, v179, v180, v181, v182, v183, v184, v185, v186, v187, v188, v189, v190, v191, v192, v193, v194, v195, v196, v197, v198, v199, v200, v201, v202, v203, v204, v205, v206, v207, v208, v209, v210, v211, v212, v213, v214, v215, v216, v217, v218, v219], []⟩ wc := by
 have HG := Lib.hid hg
 have HREC := Lib.hid hrec
 have HME := Lib.hid hme
 have HN := Lib.hid hn
 have H5 := Lib.hid hz5
 have HMZ : Hid (∀ x ∈ Z, x ∈ xs) := fun x hx => hme x (hz5.perm.mem_iff.1 hx)
 have HLZ : Hid (Z.length = n) := by show _ = _; rw [hz5.perm.length_eq, hn]
 obtain ⟨hi1, hi2⟩ := hi
 have HE := Lib.hid he
 clear hg hrec hme hn hz5 he
 conv => arg 2; whnf
 conv => arg 4; dsimp only
 obtain ⟨Wb, hWb⟩ : ∃ Wb, Wb = wc := ⟨_, rfl⟩
 rw [← hWb] at hrw2 hgr2 ⊢
 have HRB := Lib.hid hrw2
 have HGB := Lib.hid hgr2
 clear hWb hrw2 hgr2
 go_upto_region 41 with (fail)
 go_cut [199] (fun x wx => x = .bool (decide (a < i ∧ i < mid)) ∧ wx = Wb)
 case first =>
  by_cases hA : a < i
  ·by_cases hB : i < mid
   ·go_wp2
    go_meet
    exact ⟨by rw [decide_eq_true (And.intro hA hB)], rfl⟩
   ·go_wp2
    go_meet
    exact ⟨by rw [decide_eq_false (by omega)], rfl⟩
  ·go_wp2
   go_meet
   exact ⟨by rw [decide_eq_false (by omega)], rfl⟩
 case rest =>
  obtain ⟨rfl, hwx⟩ := hcut
  rw [hwx]
  clear hwx
  go_upto_if 199 with (fail)
  go_cut [24] (fun x wx => x = .int .i64 (e : Nat) ∧ ∃ Z2, Mrg6 K a mid e b zs Z2 ∧ RowU wx g Z2 ∧ w.grownBy wx (some g))
  case first =>
   by_cases hA : a < i ∧ i < mid
   ·have C := Lib.hid (HREC.out a i mid Z Wb (by omega) hA.1 hA.2 (by omega) (HG.out.trans HGB.out) HRB.out HMZ.out HLZ.out H5.out.first)
    rw [decide_eq_true hA]
    clear hA
    go_wp2_with fail
    refine C.out.mono ?_
    rintro e' w1 ⟨rfl, z2, hm2, hr2, hg2⟩
    have HM2 := Lib.hid (H5.out.to6 hm2)
    have HR2 := Lib.hid hr2
    have HG2 := Lib.hid (HGB.out.trans hg2)
    clear hm2 hr2 hg2 C
    go_wp2
    go_meet
    exact ⟨rfl, z2, HM2.out, HR2.out, HG2.out⟩
   ·have HM2 := Lib.hid (H5.out.skip (by omega))
    rw [decide_eq_false hA]
    clear hA
    go_wp2
    go_meet
    exact ⟨rfl, Z, HM2.out, HRB.out, HGB.out⟩
  case rest =>
   obtain ⟨rfl, Z2, hm6, hrw2, hgr2⟩ := hcut
   apply_assumption
   exact symTail43 fc lb K xs zs g n cap a m b mid i e d W0 w HREC.out HG.out hd hab hmb hb HE.out HME.out HN.out Z2 _ hm6 hrw2 hgr2 _ _ _ _ _ _ _ _ _ _ _ _ _ _ _ _ _ _ _ _ _ _ _ _ _ _ _ _ _ _ _ _ _ _ _ _ _ _ _ _ _ _ _ _ _ _ _ _ _ _ _ _ _ _ _ _ _ _ _ _ _ _ _ _ _ _ _ _ _ _ _ _ _ _ _ _ _ _ _ _ _ _ _ _ _ _ _ _ _ _ _ _ _ _ _ _ _ _ _ _ _ _ _ _ _ _ _ _ _ _ _ _ _ _ _ _ _ _ _ _ _ _ _ _ _ _ _ _ _ _ _ _ _ _ _ _ _ _ _ _ _ _ _ _ _ _ _ _ _ _ _ _ _ _ _ _ _ _ _ _ _ _ _ _ _ _ _ _ _ _ _ _ _ _ _ _ _ _ _ _ _ _ _ _ _ _ _ _ _ _ _ _ _ _ _ _ _ _ _ _ _ _ _ _ _ _ _ _ _ _ _ _
set_option maxHeartbeats 16000000 in
set_option maxRecDepth 100000 in
theorem symTail38 (fc : Nat) (lb : Array Value) (K : ElT → List Int) (xs zs : List ElT) (g n cap a m b mid nn i d : Nat) (W0 w : World) (hrec : SymRec fc lb K xs g n cap W0 d) (hg : W0.grownBy w (some g)) (hd : b - a ≤ d) (hab : a < mid) (hmb : mid < b) (hb : b ≤ n) (hnl : n ≤ 1000000) (hnn : nn = mid + m) (hi : a ≤ i ∧ i ≤ mid ∧ i ≤ m ∧ nn ≤ b + i) (hme : ∀ x ∈ zs, x ∈ xs) (hsl : ∀ x ∈ xs, ∃ p m c, x.1 = .slice p m c) (hn : zs.length = n)
  (wr : World) (hf4 : Mrg4 K a m b i (nn - i) zs) (hrw : RowU wr g zs) (hgr : w.grownBy wr (some g)) (v5 v6 v7 v8 v9 v10 v11 v12 v13 v14 v15 v16 v17 v21 v22 v23 v24 v25 v26 v27 v28 v29 v30 v31 v32 v33 v34 v35 v36 v37 v38 v39 v40 v41 v42 v43 v44 v45 v46 v47 v48 v49 v50 v51 v52 v53 v54 v55 v56 v57 v58 v59 v60 v61 v62 v63 v64 v65 v66 v67 v68 v69 v70 v71 v72 v73 v74 v75 v76 v77 v78 v79 v80 v81 v82 v83 v84 v85 v86 v87 v88 v89 v90 v91 v92 v93 v94 v95 v96 v97 v98 v99 v100 v101 v102 v103 v104 v105 v106 v107 v108 v109 v110 v111 v112 v113 v114 v115 v116 v117 v118 v119 v120 v121 v122 v123 v124 v125 v126 v127 v128 v129 v130 v131 v132 v133 v134 v135 v136 v137 v138 v139 v140 v141 v142 v143 v144 v145 v146 v147 v148 v149 v150 v151 v152 v153 v154 v155 v156 v157 v158 v159 v160 v161 v162 v163 v164 v165 v166 v167 v168 v169 v170 v171 v172 v173 v174 v175 v176 v177 v178 v179 v180 v181 v182 v183 v184 v185 v186 v187 v188 v189 v190 v191 v192 v193 v194 v195 v196 v197 v198 v199 v200 v201 v202 v203 v204 v205 v206 v207 v208 v209 v210 v211 v212 v213 v214 v215 v216 v217 v218 v219 : Value) :
  Code.wp Tryz.prog tail38 (bodyPost Tryz.prog Tryz.f121 (RetSw (fun z => MrgE K a b zs z) g w)) ⟨#[.slice (some ⟨g, 0, none⟩) n cap, .int .i64 a, .int .i64 m, .int .i64 b, .func (.func fc) #[] lb, v5, v6, v7, v8, v9, v10, v11, v12, v13, v14, v15, v16, v17, .int .i64 mid, .int .i64 nn, .int .i64 i, v21, v22, v23, v24, v25, v26, v27, v28, v29, v30, v31, v32, v33, v34, v35, v36, v37, v38, v39, v40, v41, v42, v43, v44, v45, v46, v47, v48, v49, v50, v51, v52, v53, v54, v55, v56, v57, v58, v59, v60, v61, v62, v63, v64, v65, v66, v67, v68, v69, v70, v71, v72, v73, v74, v75, v76, v77, v78, v79, v80, v81, v82, v83, v84, v85, v86, v87, v88, v89, v90, v91, v92, v93, v94, v95, v96, v97, v98, v99, v100, v101, v102, v103, v104, v105, v106, v107, v108, v109, v110, v111, v112, v113, v114, v115, v116, v117, v118, v119, v120, v121, v122, v123, v124, v125, v126, v127, v128, v129, v130, v131, v132, v133, v134, v135, v136, v137, v138, v139, v140, v141, v142, v143, v144, v145, v146, v147, v148, v149, v150, v151, v152, v153, v154, v155, v156, v157, v158, v159, v160, v161, v162, v163, v164, v165, v166, v167, v168, v169, v170, v171, v172, v173, v174, v175, v176, v177, v178, v179, v180, v181, v182, v183, v184, v185, v186, v187, v188, v189, v190, v191, v192, v193, v194, v195, v196, v197, v198, v199, v200, v201, v202, v203, v204, v205, v206, v207, v208, v209, v210, v211, v212, v213, v214, v215, v216, v217, v218, v219], []⟩ wr := by
 have HG := Lib.hid hg
 have HREC := Lib.hid hrec
 have HME := Lib.hid hme
 have HN := Lib.hid hn
 have HSL := Lib.hid (fun x hx => hsl x (hme x hx))
 have HRW := Lib.hid hrw
 have HGR := Lib.hid hgr
 have hnn2 := Lib.hid hnn
 have HI := Lib.hid hi
 obtain ⟨hi1, hi2, hi3, hi4⟩ := hi
 obtain ⟨e, he⟩ : ∃ e, e = nn - i := ⟨_, rfl⟩
 have M4 : Hid ((nn : Int) - (i : Int) = (e : Int)) := by show _ = _; have := hnn2.out; omega
 have q6 : mid ≤ e ∧ m ≤ e ∧ e ≤ b := by have := hnn2.out; omega
 rw [← he] at hf4
 obtain ⟨Z, hz5, hzr, hz0⟩ := hf4.rot (mid := mid) (by have := hnn2.out; omega)
 have H5 := Lib.hid hz5
 have HZR := Lib.hid hzr
 have HZ0 := Lib.hid hz0
 have HMZ : Hid (∀ x ∈ Z, x ∈ xs) := fun x hx => HME.out x (hz5.perm.mem_iff.1 hx)
 have HLZ : Hid (Z.length = n) := by show _ = _; rw [hz5.perm.length_eq, HN.out]
 obtain ⟨Wa, hWa⟩ : ∃ Wa, Wa = wr := ⟨_, rfl⟩
 rw [← hWa] at HRW HGR ⊢
 clear hWa he hf4 hz5 hzr hz0 hg hrec hme hn hsl hrw hgr hnn
 conv => arg 2; whnf
 conv => arg 4; dsimp only
 go_upto_region 39 with (fail)
 rw [M4.out]
 go_cut [185] (fun x wx => x = .bool (decide (i < m ∧ m < e)) ∧ wx = Wa)
 case first =>
  by_cases hA : i < m
  ·by_cases hB : m < e
   ·go_wp2
    go_meet
    exact ⟨by rw [decide_eq_true (And.intro hA hB)], rfl⟩
   ·go_wp2
    go_meet
    exact ⟨by rw [decide_eq_false (by omega)], rfl⟩
  ·go_wp2
   go_meet
   exact ⟨by rw [decide_eq_false (by omega)], rfl⟩
 case rest =>
  obtain ⟨rfl, hwx⟩ := hcut
  rw [hwx]
  clear hwx
  go_upto_if 185 with (fail)
  go_cut [24] (fun x wx => x = .int .i64 (e : Nat) ∧ RowU wx g Z ∧ w.grownBy wx (some g))
  case first =>
   by_cases hA : i < m ∧ m < e
   ·have C := Lib.hid (rotate_any zs Z (.func (.func fc) #[] lb) ⟨_, _, _, rfl⟩ g n cap i m e Wa HRW.out (fun x hx => HSL.out x hx) HN.out hA.1 hA.2 (by omega) hnl HZR.out)
    rw [decide_eq_true hA]
    clear hA
    go_wp2_with fail
    refine C.out.mono ?_
    rintro e' w1 ⟨rfl, z2, rfl, hr2, hg2⟩
    have HR2 := Lib.hid hr2
    have HG2 := Lib.hid (HGR.out.trans hg2)
    clear hr2 hg2 C
    go_wp2
    go_meet
    exact ⟨rfl, HR2.out, HG2.out⟩
   ·have hzz : Z = zs := HZ0.out (by omega)
    rw [decide_eq_false hA]
    have HR2 : Hid (RowU Wa g Z) := by rw [hzz]; exact HRW.out
    clear hA hzz
    go_wp2
    go_meet
    exact ⟨rfl, HR2.out, HGR.out⟩
  case rest =>
   obtain ⟨rfl, hrw2, hgr2⟩ := hcut
   apply_assumption
   exact symTail41 fc lb K xs zs g n cap a m b mid i e d W0 w HREC.out HG.out hd hab hmb hb ⟨q6.1, q6.2.2⟩ ⟨HI.out.1, HI.out.2.1⟩ HME.out HN.out Z _ H5.out hrw2 hgr2 _ _ _ _ _ _ _ _ _ _ _ _ _ _ _ _ _ _ _ _ _ _ _ _ _ _ _ _ _ _ _ _ _ _ _ _ _ _ _ _ _ _ _ _ _ _ _ _ _ _ _ _ _ _ _ _ _ _ _ _ _ _ _ _ _ _ _ _ _ _ _ _ _ _ _ _ _ _ _ _ _ _ _ _ _ _ _ _ _ _ _ _ _ _ _ _ _ _ _ _ _ _ _ _ _ _ _ _ _ _ _ _ _ _ _ _ _ _ _ _ _ _ _ _ _ _ _ _ _ _ _ _ _ _ _ _ _ _ _ _ _ _ _ _ _ _ _ _ _ _ _ _ _ _ _ _ _ _ _ _ _ _ _ _ _ _ _ _ _ _ _ _ _ _ _ _ _ _ _ _ _ _ _ _ _ _ _ _ _ _ _ _ _ _ _ _ _ _ _ _ _ _ _ _ _ _ _ _ _ _ _ _
set_option maxHeartbeats 16000000 in
set_option maxRecDepth 100000 in
theorem symMid_any (fc : Nat) (lb : Array Value) (K : ElT → List Int) (xs zs : List ElT) (g n cap a m b d : Nat) (W0 w : World) (eg : ∀ args w, (callFunc fc args).run Tryz.prog w = .ok (.enter fc args) w) (hrec : SymRec fc lb K xs g n cap W0 d)
  (hg : W0.grownBy w (some g)) (hr : RowU w g zs) (hme : ∀ x ∈ zs, x ∈ xs) (hsl : ∀ x ∈ xs, ∃ p m c, x.1 = .slice p m c) (hc : CmpAt fc lb K xs g W0) (hn : zs.length = n) (hd : b - a ≤ d) (hma : a + 1 < m) (hmb : m + 1 < b) (hb : b ≤ n) (hnl : n ≤ 1000000) (hm : MrgS K a m b zs) :
  Calls Tryz.prog 121 #[.slice (some ⟨g, 0, none⟩) n cap, .int .i64 a, .int .i64 m, .int .i64 b, .func (.func fc) #[] lb] w (RetSw (fun z => MrgE K a b zs z) g w) := by
 have HR := Lib.hid hr
 have HG := Lib.hid hg
 have HSL := Lib.hid (fun x hx => hsl x (hme x hx))
 have HSX := Lib.hid hsl
 have HME := Lib.hid hme
 have HC := Lib.hid hc
 have HN := Lib.hid hn
 have HM := Lib.hid hm
 have HREC := Lib.hid hrec
 have t0 : ((m : Int) - (a : Int) == 1) = false := by rw [beq_eq_false_iff_ne]; omega
 have t1 : ((b : Int) - (m : Int) == 1) = false := by rw [beq_eq_false_iff_ne]; omega
 obtain ⟨mid, hmid⟩ : ∃ mid, mid = (a + b) / 2 := ⟨_, rfl⟩
 have M1 : Hid (((a : Int) + (b : Int)) / 2 = (mid : Int)) := by show _ = _; omega
 have q1 : a < mid := by omega
 have q2 : mid < b := by omega
 have q3 : 2 * mid ≤ a + b := by omega
 have q4 : a + b ≤ 2 * mid + 1 := by omega
 obtain ⟨nn, hnn⟩ : ∃ nn, nn = mid + m := ⟨_, rfl⟩
 have M2 : Hid ((mid : Int) + (m : Int) = (nn : Int)) := by show _ = _; omega
 obtain ⟨s0, hs0⟩ : ∃ s0, s0 = if mid < m then nn - b else a := ⟨_, rfl⟩
 obtain ⟨r0, hr0⟩ : ∃ r0, r0 = if mid < m then mid else m := ⟨_, rfl⟩
 obtain ⟨p, hp⟩ : ∃ p, p = nn - 1 := ⟨_, rfl⟩
 have M3 : Hid ((nn : Int) - 1 = (p : Int)) := by show _ = _; omega
 have HS0 : Hid (s0 = if mid < m then nn - b else a) := hs0
 have HR0 : Hid (r0 = if mid < m then mid else m) := hr0
 have HFOUR : Hid (∀ s, Bis (MirK K zs p) s0 r0 s s → Mrg4 K a m b s (nn - s) zs) := fun s hs => by
  have := hm.four (by omega) (by omega) (s := s)
  rw [← hmid, ← hnn, ← hp, ← hs0, ← hr0] at this
  exact this hs
 have q5 : a ≤ s0 ∧ s0 ≤ r0 ∧ r0 ≤ m ∧ r0 ≤ mid ∧ nn ≤ b + s0 := by
  by_cases h : mid < m
  ·rw [if_pos h] at hs0 hr0; omega
  ·rw [if_neg h] at hs0 hr0; omega
 have hdm := hm.downMir (lo := s0) (hi := r0) (p := p) (by omega) (by omega) (fun c h1 h2 => by
  by_cases h : mid < m
  ·rw [if_pos h] at hs0 hr0; omega
  ·rw [if_neg h] at hs0 hr0; omega)
 have HDM := Lib.hid hdm
 have QR : Hid (∀ c, s0 ≤ c → c < r0 → c < p ∧ p - c < b ∧ c < n) := fun c h1 h2 => by
  by_cases h : mid < m
  ·rw [if_pos h] at hs0 hr0; omega
  ·rw [if_neg h] at hs0 hr0; omega
 have hnn2 : Hid (nn = mid + m) := hnn
 clear hr hg hsl hme hc hn hm hrec hmid hs0 hr0 hp hdm
 go_enter Tryz.func121, Tryz.ntmps121
 have hd3 : IntKind.i64.wrap ((a : Int) + (b : Int)) = (a : Int) + (b : Int) := IntWalk.i64_in _ (by omega)
 have hd4 : IntKind.u64.wrap ((a : Int) + (b : Int)) = (a : Int) + (b : Int) := by rw [IntKind.wrap_u64]; omega
 clear hnn
 go_upto_region 25 with (fail)
 rw [M1.out]
 clear hd3 hd4 t0 t1
 go_upto_region 26 with (fail)
 rw [M2.out]
 let KF : (Ending → World → Prop) → Exit → Act → World → Prop := bodyPost Tryz.prog Tryz.f121
 go_upto_if 140 with (fail)
 go_cut [20, 21] (fun x y wx => x = .int .i64 (s0 : Nat) ∧ y = .int .i64 (r0 : Nat) ∧ wx = w)
 case first =>
  by_cases h : mid < m
  ·have t2 : (mid : Int) < (m : Int) := by omega
   have e1 : (nn : Int) - (b : Int) = (s0 : Int) := by
    have := HS0.out
    have := hnn2.out
    rw [if_pos h] at *
    omega
   have E1 := Lib.hid e1
   have E2 : Hid (r0 = mid) := by show _ = _; rw [HR0.out, if_pos h]
   clear e1 h
   go_wp2
   go_meet
   exact ⟨by rw [← E1.out], by rw [E2.out], rfl⟩
  ·have t2 : ¬ (mid : Int) < (m : Int) := by omega
   have E1 : Hid (s0 = a) := by show _ = _; rw [HS0.out, if_neg h]
   have E2 : Hid (r0 = m) := by show _ = _; rw [HR0.out, if_neg h]
   clear h
   go_wp2
   go_meet
   exact ⟨by rw [E1.out], by rw [E2.out], rfl⟩
 case rest =>
  obtain ⟨rfl, rfl, hwx⟩ := hcut
  rw [hwx]
  clear hwx
  go_upto_block 8 with (fail)
  rw [M3.out]
  go_cut [20] (fun x wx => ∃ s : Nat, s0 ≤ s ∧ s ≤ r0 ∧ x = .int .i64 (s : Nat) ∧ Bis (MirK K zs p) s0 r0 s s ∧ RowU wx g zs ∧ w.grownBy wx (some g))
  case first =>
   go_wp2
   go_loopw [20, 21] (fun iv jv wr => ∃ i j : Nat, s0 ≤ i ∧ i ≤ j ∧ j ≤ r0 ∧ iv = .int .i64 (i : Nat) ∧ jv = .int .i64 (j : Nat) ∧ Bis (MirK K zs p) s0 r0 i j ∧ RowU wr g zs ∧ w.grownBy wr (some g)) (fun iv jv _ => (intOf jv).toNat - (intOf iv).toNat)
   case atStart => exact ⟨s0, r0, Nat.le_refl _, q5.2.1, Nat.le_refl _, rfl, rfl, Bis.start q5.2.1, HR.out, grown_of_below (Below.refl _ _) _⟩
   case round =>
    obtain ⟨i, j, h1, h2, h3, rfl, rfl, hbi, hrw, hgr⟩ := hrel
    have HBI := Lib.hid hbi
    have HRW := Lib.hid hrw
    have HGR := Lib.hid hgr
    clear hbi hrw hgr
    by_cases hlt : i < j
    ·obtain ⟨c, hc⟩ : ∃ c, c = (i + j) / 2 := ⟨_, rfl⟩
     have N3 : Hid (((i : Int) + (j : Int)) / 2 = (c : Int)) := by show _ = _; omega
     have c1' : i ≤ c := by omega
     have c2' : c < j := by omega
     clear hc
     have hqr := QR.out c (by omega) (by omega)
     obtain ⟨q, hq⟩ : ∃ q, q = p - c := ⟨_, rfl⟩
     have HQ : Hid (p - c = q) := hq.symm
     have b5 : (p : Int) - (c : Int) = (q : Int) := by omega
     have b6 : q < n := by omega
     have b7 : c < n := hqr.2.2
     obtain ⟨x, hx⟩ : ∃ x, zs[c]? = some x := ⟨_, List.getElem?_eq_getElem (by rw [HN.out]; omega)⟩
     obtain ⟨y, hy⟩ : ∃ y, zs[q]? = some y := ⟨_, List.getElem?_eq_getElem (by rw [HN.out]; omega)⟩
     have HX := Lib.hid hx
     have HY := Lib.hid hy
     have hcx := HRW.out.cell c x hx
     have hcy := HRW.out.cell q y hy
     obtain ⟨p1, m1, c1, e1⟩ := HSL.out x (List.mem_of_getElem? hx)
     obtain ⟨p2, m2, c2, e2⟩ := HSL.out y (List.mem_of_getElem? hy)
     have HCC := Lib.hid (fun w1 (h1 : W0.grownBy w1 (some g)) => HC.out w1 y x h1 (HME.out y (List.mem_of_getElem? hy)) (HME.out x (List.mem_of_getElem? hx)))
     rw [e1] at hcx
     rw [e2] at hcy
     rw [e1, e2] at HCC
     clear hx hy e1 e2 hq hqr
     have K1 : Hid (∀ w', Below wr.heap.size wr w' → w'.cell? ⟨g, c, none⟩ = some (.slice p1 m1 c1) ∧ w'.cell? ⟨g, q, none⟩ = some (.slice p2 m2 c2) ∧ Below wr.heap.size wr w') := fun w' hb' => ⟨cell_later hcx hb', cell_later hcy hb', hb'⟩
     have HIS : Hid (g < wr.heap.size) := World.block_lt_of_cell? _ _ hcx
     have hd3 : IntKind.i64.wrap ((i : Int) + (j : Int)) = (i : Int) + (j : Int) := IntWalk.i64_in _ (by omega)
     have hd4 : IntKind.u64.wrap ((i : Int) + (j : Int)) = (i : Int) + (j : Int) := by rw [IntKind.wrap_u64]; omega
     generalize hcm : cmpI (K y) (K x) = cv at HCC
     have HCM := Lib.hid hcm
     have HCI := Lib.hid (And.intro c1' c2')
     have B5 := Lib.hid b5
     have b1 : (0 : Int) ≤ (c : Int) := by omega
     have b2 : (c : Int) < (n : Int) := by omega
     have b3 : (0 : Int) ≤ (q : Int) := by omega
     have b4 : (q : Int) < (n : Int) := by omega
     have b8 : IntKind.i64.wrap ((p : Int) - (c : Int)) = (q : Int) := by rw [b5]; exact IntWalk.i64_in _ (by omega)
     have B8 := Lib.hid b8
     have b9 : IntKind.i64.wrap (q : Int) = (q : Int) := IntWalk.i64_in _ (by omega)
     have B9 := Lib.hid b9
     clear hcm hcx hcy b5 b8 b9
     go_upto_region 35 with (fail)
     rw [N3.out]
     clear hd3 hd4
     have b5 := B5.out
     have b8 := B8.out
     have b9 := B9.out
     obtain ⟨hcx, hcy, -⟩ := K1.out wr (Below.refl _ _)
     go_region_held3 (fun w' => w'.cell? ⟨g, c, none⟩ = some (.slice p1 m1 c1) ∧ w'.cell? ⟨g, q, none⟩ = some (.slice p2 m2 c2) ∧ Below wr.heap.size wr w')
      (first | exact K1.out _ (Below.refl _ _).drew | exact K1.out _ (by assumption))
      ((refine (HCC.out _ ((HG.out.trans HGR.out).trans (grown_of_below (Below.refl _ _).drew _))).mono ?_; rintro e w2 ⟨rfl, hb2⟩; have hb3 : Below wr.heap.size wr w2 := below_keep (Below.refl _ _).drew hb2))
     have HG2 := Lib.hid ((HGR.out.trans (grown_of_below hb3 (some g))))
     have HR2 := Lib.hid (HRW.out.kept (hb3.block g HIS.out))
     clear hb2 hb3 HCC K1 hcx hcy b5 b8 b9
     rcases cmpI_cases (K y) (K x) with hv | hv | hv
     ·have HB2 := Lib.hid (HBI.out.down HDM.out HCI.out.1 HCI.out.2 (by
       rintro ⟨x', y', hx', hy', hl⟩
       rw [HX.out] at hx'
       rw [HQ.out, HY.out] at hy'
       cases hx'
       cases hy'
       exact hl hv))
      rw [HCM.out] at hv
      subst hv
      go_wp2
      exact ⟨⟨i, c, h1, by omega, by omega, rfl, rfl, HB2.out, HR2.out, HG2.out⟩, by show (intOf _).toNat - _ < _ - _; simp [intOf]; omega⟩
     ·have HB2 := Lib.hid (HBI.out.up HDM.out HCI.out.1 HCI.out.2 ⟨x, y, HX.out, by rw [HQ.out]; exact HY.out, by unfold ltK; rw [hv]; decide⟩)
      rw [HCM.out] at hv
      subst hv
      go_wp2
      exact ⟨⟨c + 1, j, by omega, by omega, h3, by go_num, rfl, HB2.out, HR2.out, HG2.out⟩, by show (intOf _).toNat - _ < _ - _; simp [intOf]; omega⟩
     ·have HB2 := Lib.hid (HBI.out.up HDM.out HCI.out.1 HCI.out.2 ⟨x, y, HX.out, by rw [HQ.out]; exact HY.out, by unfold ltK; rw [hv]; decide⟩)
      rw [HCM.out] at hv
      subst hv
      go_wp2
      exact ⟨⟨c + 1, j, by omega, by omega, h3, by go_num, rfl, HB2.out, HR2.out, HG2.out⟩, by show (intOf _).toNat - _ < _ - _; simp [intOf]; omega⟩
    ·obtain rfl : i = j := by omega
     go_wp2
     go_meet
     exact ⟨i, h1, h3, rfl, HBI.out, HRW.out, HGR.out⟩
  case rest =>
    obtain ⟨i, h1, h3, rfl, hbi, hrw, hgr⟩ := hcut
    apply_assumption
    exact symTail38 fc lb K xs zs g n cap a m b mid nn i d W0 w HREC.out HG.out hd q1 q2 hb hnl hnn2.out ⟨by omega, by omega, by omega, by omega⟩ HME.out HSX.out HN.out _ (HFOUR.out i hbi) hrw hgr _ _ _ _ _ _ _ _ _ _ _ _ _ _ _ _ _ _ _ _ _ _ _ _ _ _ _ _ _ _ _ _ _ _ _ _ _ _ _ _ _ _ _ _ _ _ _ _ _ _ _ _ _ _ _ _ _ _ _ _ _ _ _ _ _ _ _ _ _ _ _ _ _ _ _ _ _ _ _ _ _ _ _ _ _ _ _ _ _ _ _ _ _ _ _ _ _ _ _ _ _ _ _ _ _ _ _ _ _ _ _ _ _ _ _ _ _ _ _ _ _ _ _ _ _ _ _ _ _ _ _ _ _ _ _ _ _ _ _ _ _ _ _ _ _ _ _ _ _ _ _ _ _ _ _ _ _ _ _ _ _ _ _ _ _ _ _ _ _ _ _ _ _ _ _ _ _ _ _ _ _ _ _ _ _ _ _ _ _ _ _ _ _ _ _ _ _ _ _ _ _ _ _ _ _ _ _ _ _ _ _ _
theorem sym_any (fc : Nat) (lb : Array Value) (K : ElT → List Int) (xs : List ElT) (g n cap : Nat) (W0 : World) (eg : ∀ args w, (callFunc fc args).run Tryz.prog w = .ok (.enter fc args) w)
  (hsl : ∀ x ∈ xs, ∃ p m c, x.1 = .slice p m c) (hc : CmpAt fc lb K xs g W0) (hnl : n ≤ 1000000) : ∀ d, SymRec fc lb K xs g n cap W0 d
 | 0 => fun a m b zs w h => absurd h (Nat.not_lt_zero _)
 | d + 1 => fun a m b zs w h1 h2 h3 h4 hg hr hme hn hm => by
  by_cases e1 : m = a + 1
  ·exact symLeft_any fc lb K xs zs g n cap a m b W0 w eg hg hr hme hsl hc hn e1 h3 h4 hnl hm
  ·by_cases e2 : b = m + 1
   ·exact symRight_any fc lb K xs zs g n cap a m b W0 w eg hg hr hme hsl hc hn (by omega) e2 h4 hnl hm
   ·exact symMid_any fc lb K xs zs g n cap a m b d W0 w eg (sym_any fc lb K xs g n cap W0 eg hsl hc hnl d) hg hr hme hsl hc hn (by omega) (by omega) (by omega) h4 hnl hm
end Go.Proofs.YtkliekoheeeamaaGreatDoor
