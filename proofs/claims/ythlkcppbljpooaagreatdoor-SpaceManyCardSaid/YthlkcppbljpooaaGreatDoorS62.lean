/- Lemmas and contracts, each under its own condition: slices.symMergeCmpFunc at cells: the contract. (turned from SymC) slices.SortStableFunc at cells, of any length: the contract. (turned from SymD by wip/gen/srtc.py) space.sortBy at cells: the closures: contracts. space.sortBy at cells: the contract. -/
import Derived.Laws.EntriesVeiled
import Derived.Deep.RegionHeld3
import Derived.IntWalk
import Derived.Test.YthlkcppbljpooaaGreatDoorS10
import Derived.Test.YthlkcppbljpooaaGreatDoorS35
import Derived.Test.YthlkcppbljpooaaGreatDoorS61
import Derived.Test.YthlkcppbljpooaaGreatDoorSymC
/- slices.symMergeCmpFunc at cells: the contract. (turned from SymC) -/
namespace Go.Proofs.YthlkcppbljpooaaGreatDoor
open Go.RowKit

/-- what is known of a merge of less than d elements -/
def SymRecC (fc : Nat) (lb : Array Value) (K : ElC → List Int) (xs : List ElC) (g n cap : Nat) (W0 : World) (d : Nat) : Prop :=
 ∀ (a m b : Nat) (zs : List ElC) (w : World), b - a < d → a < m → m < b → b ≤ n → W0.grownBy w (some g) → RowC w g zs → (∀ x ∈ zs, x ∈ xs) → zs.length = n → MrgS K a m b zs →
  Calls Tryz.prog 128 #[.slice (some ⟨g, 0, none⟩) n cap, .int .i64 a, .int .i64 m, .int .i64 b, .func (.func fc) #[] lb] w (RetSwC (fun z => MrgE K a b zs z) g w)

noncomputable def tailC38 : Code := (Tryz.f128.body.bind (fromReg 38)).getD .skip
noncomputable def tailC41 : Code := (Tryz.f128.body.bind (fromReg 41)).getD .skip
noncomputable def tailC43 : Code := (Tryz.f128.body.bind (fromReg 43)).getD .skip
set_option maxHeartbeats 16000000 in
set_option maxRecDepth 100000 in
theorem symTailC43 (fc : Nat) (lb : Array Value) (K : ElC → List Int) (xs zs : List ElC) (g n cap a m b mid i e d : Nat) (W0 w : World) (hrec : SymRecC fc lb K xs g n cap W0 d) (hg : W0.grownBy w (some g)) (hd : b - a ≤ d) (hab : a < mid) (hmb : mid < b) (hb : b ≤ n) (he : mid ≤ e ∧ e ≤ b) (hme : ∀ x ∈ zs, x ∈ xs) (hn : zs.length = n)
  (Z2 : List ElC) (wc : World) (hm6 : Mrg6 K a mid e b zs Z2) (hrw2 : RowC wc g Z2) (hgr2 : w.grownBy wc (some g)) (v5 v6 v7 v8 v9 v10 v11 v12 v13 v14 v15 v16 v17 v19 v21 v22 v23 v25 v26 v27 v28 v29 v30 v31 v32 v33 v34 v35 v36 v37 v38 v39 v40 v41 v42 v43 v44 v45 v46 v47 v48 v49 v50 v51 v52 v53 v54 v55 v56 v57 v58 v59 v60 v61 v62 v63 v64 v65 v66 v67 v68 v69 v70 v71 v72 v73 v74 v75 v76 v77 v78 v79 v80 v81 v82 v83 v84 v85 v86 v87 v88 v89 v90 v91 v92 v93 v94 v95 v96 v97 v98 v99 v100 v101 v102 v103 v104 v105 v106 v107 v108 v109 v110 v111 v112 v113 v114 v115 v116 v117 v118 v119 v120 v121 v122 v123 v124 v125 v126 v127 v128 v129 v130 v131 v132 v133 v134 v135 v136 v137 v138 v139 v140 v141 v142 v143 v144 v145 v146 v147 v148 v149 v150 v151 v152 v153 v154 v155 v156 v157 v158 v159 v160 v161 v162 v163 v164 v165 v166 v167 v168 v169 v170 v171 v172 v173 v174 v175 v176 v177 v178 v179 v180 v181 v182 v183 v184 v185 v186 v187 v188 v189 v190 v191 v192 v193 v194 v195 v196 v197 v198 v199 v200 v201 v202 v203 v204 v205 v206 v207 v208 v209 v210 v211 v212 v213 v214 v215 v216 v217 v218 v219 : Value) :
  Code.wp Tryz.prog tailC43 (bodyPost Tryz.prog Tryz.f128 (RetSwC (fun z => MrgE K a b zs z) g w)) ⟨#[.slice (some ⟨g, 0, none⟩) n cap, .int .i64 a, .int .i64 m, .int .i64 b, .func (.func fc) #[] lb, v5, v6, v7, v8, v9, v10, v11, v12, v13, v14, v15, v16, v17, .int .i64 mid, v19, .int .i64 i, v21, v22, v23, .int .i64 e, v25, v26, v27, v28, v29, v30, v31, v32, v33, v34, v35, v36, v37, v38, v39, v40, v41, v42, v43, v44, v45, v46, v47, v48, v49, v50, v51, v52, v53, v54, v55, v56, v57, v58, v59, v60, v61, v62, v63, v64, v65, v66, v67, v68, v69, v70, v71, v72, v73, v74, v75, v76, v77, v78, v79, v80, v81, v82, v83, v84, v85, v86, v87, v88, v89, v90, v91, v92, v93, v94, v95, v96, v97, v98, v99, v100, v101, v102, v103, v104, v105, v106, v107, v108, v109, v110, v111, v112, v113, v114, v115, v116, v117, v118, v119, v120, v121, v122, v123, v124, v125, v126, v127, v128, v129, v130, v131, v132, v133, v134, v135, v136, v137, v138, v139, v140, v141, v142, v143, v144, v145, v146, v147, v148, v149, v150, v151, v152, v153, v154, v155, v156, v157, v158, v159, v160, v161, v162, v163, v164, v165, v166, v167, v168, v169, v170, v171, v172, v173, v174, v175, v176, v177, v178, v179, v180, v181, v182, v183, v184, v185, v186, v187, v188, v189, v190, v191, v192, v193, v194, v195, v196, v197, v198, v199, v200, v201, v202, v203, v204, v205, v206, v207, v208, v209, v210, v211, v212, v213, v214, v215, v216, v217, v218, v219], []⟩ wc := by
 have HG := Lib.hid hg
 have HREC := Lib.hid hrec
 have HME := Lib.hid hme
 have HN := Lib.hid hn
 obtain ⟨he1, he2⟩ := he
 clear hg hrec hme hn
 conv => arg 2; whnf
 conv => arg 4; dsimp only
 obtain ⟨Wd, hWd⟩ : ∃ Wd, Wd = wc := ⟨_, rfl⟩
 rw [← hWd] at hrw2 hgr2 ⊢
 have H6 := Lib.hid hm6
 have HRD := Lib.hid hrw2
 have HGD := Lib.hid hgr2
 have HMD : Hid (∀ x ∈ Z2, x ∈ xs) := fun x hx => HME.out x (hm6.perm.mem_iff.1 hx)
 have HLD : Hid (Z2.length = n) := by show _ = _; rw [hm6.perm.length_eq, HN.out]
 clear hWd hrw2 hgr2 hm6
 by_cases hA : mid < e
 ·by_cases hB : e < b
  ·have C := Lib.hid (HREC.out mid e b Z2 Wd (by omega) hA hB (by omega) (HG.out.trans HGD.out) HRD.out HMD.out HLD.out H6.out.second)
   go_wp2_with fail
   refine C.out.mono ?_
   rintro e' w1 ⟨rfl, z2, hm2, hr2, hg2⟩
   have HM2 := Lib.hid (H6.out.done hm2)
   have HR2 := Lib.hid hr2
   have HG2 := Lib.hid (HGD.out.trans hg2)
   clear hm2 hr2 hg2 C
   go_wp2
   go_end0
   exact ⟨rfl, z2, HM2.out, HR2.out, HG2.out⟩
  ·have HM2 := Lib.hid (H6.out.skip (by omega))
   go_wp2
   go_end0
   exact ⟨rfl, Z2, HM2.out, HRD.out, HGD.out⟩
 ·have HM2 := Lib.hid (H6.out.skip (by omega))
  go_wp2
  go_end0
  exact ⟨rfl, Z2, HM2.out, HRD.out, HGD.out⟩
set_option maxHeartbeats 16000000 in
set_option maxRecDepth 100000 in
theorem symTailC41 (fc : Nat) (lb : Array Value) (K : ElC → List Int) (xs zs : List ElC) (g n cap a m b mid i e d : Nat) (W0 w : World) (hrec : SymRecC fc lb K xs g n cap W0 d) (hg : W0.grownBy w (some g)) (hd : b - a ≤ d) (hab : a < mid) (hmb : mid < b) (hb : b ≤ n) (he : mid ≤ e ∧ e ≤ b) (hi : a ≤ i ∧ i ≤ mid) (hme : ∀ x ∈ zs, x ∈ xs) (hn : zs.length = n)
  (Z : List ElC) (wc : World) (hz5 : Mrg5 K a i mid e b zs Z) (hrw2 : RowC wc g Z) (hgr2 : w.grownBy wc (some g)) (v5 v6 v7 v8 v9 v10 v11 v12 v13 v14 v15 v16 v17 v19 v21 v22 v23 v25 v26 v27 v28 v29 v30 v31 v32 v33 v34 v35 v36 v37 v38 v39 v40 v41 v42 v43 v44 v45 v46 v47 v48 v49 v50 v51 v52 v53 v54 v55 v56 v57 v58 v59 v60 v61 v62 v63 v64 v65 v66 v67 v68 v69 v70 v71 v72 v73 v74 v75 v76 v77 v78 v79 v80 v81 v82 v83 v84 v85 v86 v87 v88 v89 v90 v91 v92 v93 v94 v95 v96 v97 v98 v99 v100 v101 v102 v103 v104 v105 v106 v107 v108 v109 v110 v111 v112 v113 v114 v115 v116 v117 v118 v119 v120 v121 v122 v123 v124 v125 v126 v127 v128 v129 v130 v131 v132 v133 v134 v135 v136 v137 v138 v139 v140 v141 v142 v143 v144 v145 v146 v147 v148 v149 v150 v151 v152 v153 v154 v155 v156 v157 v158 v159 v160 v161 v162 v163 v164 v165 v166 v167 v168 v169 v170 v171 v172 v173 v174 v175 v176 v177 v178 v179 v180 v181 v182 v183 v184 v185 v186 v187 v188 v189 v190 v191 v192 v193 v194 v195 v196 v197 v198 v199 v200 v201 v202 v203 v204 v205 v206 v207 v208 v209 v210 v211 v212 v213 v214 v215 v216 v217 v218 v219 : Value) :
  Code.wp Tryz.prog tailC41 (bodyPost Tryz.prog Tryz.f128 (RetSwC (fun z => MrgE K a b zs z) g w)) ⟨#[.slice (some ⟨g, 0, none⟩) n cap, .int .i64 a, .int .i64 m, .int .i64 b, .func (.func fc) #[] lb, v5, v6, v7, v8, v9, v10, v11, v12, v13, v14, v15, v16, v17, .int .i64 mid, v19, .int .i64 i, v21, v22, v23, .int .i64 e, v25, v26, v27, v28, v29, v30, v31, v32, v33, v34, v35, v36, v37, v38, v39, v40, v41, v42, v43, v44, v45, v46, v47, v48, v49, v50, v51, v52, v53, v54, v55, v56, v57, v58, v59, v60, v61, v62, v63, v64, v65, v66, v67, v68, v69, v70, v71, v72, v73, v74, v75, v76, v77, v78, v79, v80, v81, v82, v83, v84, v85, v86, v87, v88, v89, v90, v91, v92, v93, v94, v95, v96, v97, v98, v99, v100, v101, v102, v103, v104, v105, v106, v107, v108, v109, v110, v111, v112, v113, v114, v115, v116, v117, v118, v119, v120, v121, v122, v123, v124, v125, v126, v127, v128, v129, v130, v131, v132, v133, v134, v135, v136, v137, v138, v139, v140, v141, v142, v143, v144, v145, v146, v147, v148, v149, v150, v151, v152, v153, v154, v155, v156, v157, v158, v159, v160, v161, v162, v163, v164, v165, v166, v167, v168, v169, v170, v171, v172, v173, v174, v175, v176, v177, v178, v179, v180, v181, v182, v183, v184, v185, v186, v187, v188, v189, v190, v191, v192, v193, v194, v195, v196, v197, v198, v199, v200, v201, v202, v203, v204, v205, v206, v207, v208, v209, v210, v211, v212, v213, v214, v215, v216, v217, v218, v219], []⟩ wc := by
 have HG := Lib.hid hg
 have HREC := Lib.hid hrec
 have HME := Lib.hid hme
 have HN := Lib.hid hn
 have H5 := Lib.hid hz5
 have HMZ : Hid (∀ x ∈ Z, x ∈ xs) := fun x hx => hme x (hz5.perm.mem_iff.1 hx)
 have HLZ : Hid (Z.length = n) := by show _ = _; rw [hz5.perm.length_eq, hn]
 obtain ⟨hi1, hi2⟩ := hi
 have HE := Lib.hid he
 clear hg hrec hme hn hz5 he
 conv => arg 2; whnf
 conv => arg 4; dsimp only
 obtain ⟨Wb, hWb⟩ : ∃ Wb, Wb = wc := ⟨_, rfl⟩
 rw [← hWb] at hrw2 hgr2 ⊢
 have HRB := Lib.hid hrw2
 have HGB := Lib.hid hgr2
 clear hWb hrw2 hgr2
 go_upto_region 41 with (fail)
 go_cut [199] (fun x wx => x = .bool (decide (a < i ∧ i < mid)) ∧ wx = Wb)
 case first =>
  by_cases hA : a < i
  ·by_cases hB : i < mid
   ·go_wp2
    go_meet
    exact ⟨by rw [decide_eq_true (And.intro hA hB)], rfl⟩
   ·go_wp2
    go_meet
    exact ⟨by rw [decide_eq_false (by omega)], rfl⟩
  ·go_wp2
   go_meet
   exact ⟨by rw [decide_eq_false (by omega)], rfl⟩
 case rest =>
  obtain ⟨rfl, hwx⟩ := hcut
  rw [hwx]
  clear hwx
  go_upto_if 199 with (fail)
  go_cut [24] (fun x wx => x = .int .i64 (e : Nat) ∧ ∃ Z2, Mrg6 K a mid e b zs Z2 ∧ RowC wx g Z2 ∧ w.grownBy wx (some g))
  case first =>
   by_cases hA : a < i ∧ i < mid
   ·have C := Lib.hid (HREC.out a i mid Z Wb (by omega) hA.1 hA.2 (by omega) (HG.out.trans HGB.out) HRB.out HMZ.out HLZ.out H5.out.first)
    rw [decide_eq_true hA]
    clear hA
    go_wp2_with fail
    refine C.out.mono ?_
    rintro e' w1 ⟨rfl, z2, hm2, hr2, hg2⟩
    have HM2 := Lib.hid (H5.out.to6 hm2)
    have HR2 := Lib.hid hr2
    have HG2 := Lib.hid (HGB.out.trans hg2)
    clear hm2 hr2 hg2 C
    go_wp2
    go_meet
    exact ⟨rfl, z2, HM2.out, HR2.out, HG2.out⟩
   ·have HM2 := Lib.hid (H5.out.skip (by omega))
    rw [decide_eq_false hA]
    clear hA
    go_wp2
    go_meet
    exact ⟨rfl, Z, HM2.out, HRB.out, HGB.out⟩
  case rest =>
   obtain ⟨rfl, Z2, hm6, hrw2, hgr2⟩ := hcut
   apply_assumption
   exact symTailC43 fc lb K xs zs g n cap a m b mid i e d W0 w HREC.out HG.out hd hab hmb hb HE.out HME.out HN.out Z2 _ hm6 hrw2 hgr2 _ _ _ _ _ _ _ _ _ _ _ _ _ _ _ _ _ _ _ _ _ _ _ _ _ _ _ _ _ _ _ _ _ _ _ _ _ _ _ _ _ _ _ _ _ _ _ _ _ _ _ _ _ _ _ _ _ _ _ _ _ _ _ _ _ _ _ _ _ _ _ _ _ _ _ _ _ _ _ _ _ _ _ _ _ _ _ _ _ _ _ _ _ _ _ _ _ _ _ _ _ _ _ _ _ _ _ _ _ _ _ _ _ _ _ _ _ _ _ _ _ _ _ _ _ _ _ _ _ _ _ _ _ _ _ _ _ _ _ _ _ _ _ _ _ _ _ _ _ _ _ _ _ _ _ _ _ _ _ _ _ _ _ _ _ _ _ _ _ _ _ _ _ _ _ _ _ _ _ _ _ _ _ _ _ _ _ _ _ _ _ _ _ _ _ _ _ _ _ _ _ _ _ _ _ _ _ _ _ _ _ _
set_option maxHeartbeats 16000000 in
set_option maxRecDepth 100000 in
theorem symTailC38 (fc : Nat) (lb : Array Value) (K : ElC → List Int) (xs zs : List ElC) (g n cap a m b mid nn i d : Nat) (W0 w : World) (hrec : SymRecC fc lb K xs g n cap W0 d) (hg : W0.grownBy w (some g)) (hd : b - a ≤ d) (hab : a < mid) (hmb : mid < b) (hb : b ≤ n) (hnl : n ≤ 1000000) (hnn : nn = mid + m) (hi : a ≤ i ∧ i ≤ mid ∧ i ≤ m ∧ nn ≤ b + i) (hme : ∀ x ∈ zs, x ∈ xs) (hsl : ∀ x ∈ xs, ShC x) (hn : zs.length = n)
  (wr : World) (hf4 : Mrg4 K a m b i (nn - i) zs) (hrw : RowC wr g zs) (hgr : w.grownBy wr (some g)) (v5 v6 v7 v8 v9 v10 v11 v12 v13 v14 v15 v16 v17 v21 v22 v23 v24 v25 v26 v27 v28 v29 v30 v31 v32 v33 v34 v35 v36 v37 v38 v39 v40 v41 v42 v43 v44 v45 v46 v47 v48 v49 v50 v51 v52 v53 v54 v55 v56 v57 v58 v59 v60 v61 v62 v63 v64 v65 v66 v67 v68 v69 v70 v71 v72 v73 v74 v75 v76 v77 v78 v79 v80 v81 v82 v83 v84 v85 v86 v87 v88 v89 v90 v91 v92 v93 v94 v95 v96 v97 v98 v99 v100 v101 v102 v103 v104 v105 v106 v107 v108 v109 v110 v111 v112 v113 v114 v115 v116 v117 v118 v119 v120 v121 v122 v123 v124 v125 v126 v127 v128 v129 v130 v131 v132 v133 v134 v135 v136 v137 v138 v139 v140 v141 v142 v143 v144 v145 v146 v147 v148 v149 v150 v151 v152 v153 v154 v155 v156 v157 v158 v159 v160 v161 v162 v163 v164 v165 v166 v167 v168 v169 v170 v171 v172 v173 v174 v175 v176 v177 v178 v179 v180 v181 v182 v183 v184 v185 v186 v187 v188 v189 v190 v191 v192 v193 v194 v195 v196 v197 v198 v199 v200 v201 v202 v203 v204 v205 v206 v207 v208 v209 v210 v211 v212 v213 v214 v215 v216 v217 v218 v219 : Value) :
  Code.wp Tryz.prog tailC38 (bodyPost Tryz.prog Tryz.f128 (RetSwC (fun z => MrgE K a b zs z) g w)) ⟨#[.slice (some ⟨g, 0, none⟩) n cap, .int .i64 a, .int .i64 m, .int .i64 b, .func (.func fc) #[] lb, v5, v6, v7, v8, v9, v10, v11, v12, v13, v14, v15, v16, v17, .int .i64 mid, .int .i64 nn, .int .i64 i, v21, v22, v23, v24, v25, v26, v27, v28, v29, v30, v31, v32, v33, v34, v35, v36, v37, v38, v39, v40, v41, v42, v43, v44, v45, v46, v47, v48, v49, v50, v51, v52, v53, v54, v55, v56, v57, v58, v59, v60, v61, v62, v63, v64, v65, v66, v67, v68, v69, v70, v71, v72, v73, v74, v75, v76, v77, v78, v79, v80, v81, v82, v83, v84, v85, v86, v87, v88, v89, v90, v91, v92, v93, v94, v95, v96, v97, v98, v99, v100, v101, v102, v103, v104, v105, v106, v107, v108, v109, v110, v111, v112, v113, v114, v115, v116, v117, v118, v119, v120, v121, v122, v123, v124, v125, v126, v127, v128, v129, v130, v131, v132, v133, v134, v135, v136, v137, v138, v139, v140, v141, v142, v143, v144, v145, v146, v147, v148, v149, v150, v151, v152, v153, v154, v155, v156, v157, v158, v159, v160, v161, v162, v163, v164, v165, v166, v167, v168, v169, v170, v171, v172, v173, v174, v175, v176, v177, v178, v179, v180, v181, v182, v183, v184, v185, v186, v187, v188, v189, v190, v191, v192, v193, v194, v195, v196, v197, v198, v199, v200, v201, v202, v203, v204, v205, v206, v207, v208, v209, v210, v211, v212, v213, v214, v215, v216, v217, v218, v219], []⟩ wr := by
 have HG := Lib.hid hg
 have HREC := Lib.hid hrec
 have HME := Lib.hid hme
 have HN := Lib.hid hn
 have HSL := Lib.hid (fun x hx => hsl x (hme x hx))
 have HRW := Lib.hid hrw
 have HGR := Lib.hid hgr
 have hnn2 := Lib.hid hnn
 have HI := Lib.hid hi
 obtain ⟨hi1, hi2, hi3, hi4⟩ := hi
 obtain ⟨e, he⟩ : ∃ e, e = nn - i := ⟨_, rfl⟩
 have M4 : Hid ((nn : Int) - (i : Int) = (e : Int)) := by show _ = _; have := hnn2.out; omega
 have q6 : mid ≤ e ∧ m ≤ e ∧ e ≤ b := by have := hnn2.out; omega
 rw [← he] at hf4
 obtain ⟨Z, hz5, hzr, hz0⟩ := hf4.rot (mid := mid) (by have := hnn2.out; omega)
 have H5 := Lib.hid hz5
 have HZR := Lib.hid hzr
 have HZ0 := Lib.hid hz0
 have HMZ : Hid (∀ x ∈ Z, x ∈ xs) := fun x hx => HME.out x (hz5.perm.mem_iff.1 hx)
 have HLZ : Hid (Z.length = n) := by show _ = _; rw [hz5.perm.length_eq, HN.out]
 obtain ⟨Wa, hWa⟩ : ∃ Wa, Wa = wr := ⟨_, rfl⟩
 rw [← hWa] at HRW HGR ⊢
 clear hWa he hf4 hz5 hzr hz0 hg hrec hme hn hsl hrw hgr hnn
 conv => arg 2; whnf
 conv => arg 4; dsimp only
 go_upto_region 39 with (fail)
 rw [M4.out]
 go_cut [185] (fun x wx => x = .bool (decide (i < m ∧ m < e)) ∧ wx = Wa)
 case first =>
  by_cases hA : i < m
  ·by_cases hB : m < e
   ·go_wp2
    go_meet
    exact ⟨by rw [decide_eq_true (And.intro hA hB)], rfl⟩
   ·go_wp2
    go_meet
    exact ⟨by rw [decide_eq_false (by omega)], rfl⟩
  ·go_wp2
   go_meet
   exact ⟨by rw [decide_eq_false (by omega)], rfl⟩
 case rest =>
  obtain ⟨rfl, hwx⟩ := hcut
  rw [hwx]
  clear hwx
  go_upto_if 185 with (fail)
  go_cut [24] (fun x wx => x = .int .i64 (e : Nat) ∧ RowC wx g Z ∧ w.grownBy wx (some g))
  case first =>
   by_cases hA : i < m ∧ m < e
   ·have C := Lib.hid (rotateC_any zs Z (.func (.func fc) #[] lb) ⟨_, _, _, rfl⟩ g n cap i m e Wa HRW.out (fun x hx => HSL.out x hx) HN.out hA.1 hA.2 (by omega) hnl HZR.out)
    rw [decide_eq_true hA]
    clear hA
    go_wp2_with fail
    refine C.out.mono ?_
    rintro e' w1 ⟨rfl, z2, rfl, hr2, hg2⟩
    have HR2 := Lib.hid hr2
    have HG2 := Lib.hid (HGR.out.trans hg2)
    clear hr2 hg2 C
    go_wp2
    go_meet
    exact ⟨rfl, HR2.out, HG2.out⟩
   ·have hzz : Z = zs := HZ0.out (by omega)
    rw [decide_eq_false hA]
    have HR2 : Hid (RowC Wa g Z) := by rw [hzz]; exact HRW.out
    clear hA hzz
    go_wp2
    go_meet
    exact ⟨rfl, HR2.out, HGR.out⟩
  case rest =>
   obtain ⟨rfl, hrw2, hgr2⟩ := hcut
   apply_assumption
   exact symTailC41 fc lb K xs zs g n cap a m b mid i e d W0 w HREC.out HG.out hd hab hmb hb ⟨q6.1, q6.2.2⟩ ⟨HI.out.1, HI.out.2.1⟩ HME.out HN.out Z _ H5.out hrw2 hgr2 _ _ _ _ _ _ _ _ _ _ _ _ _ _ _ _ _ _ _ _ _ _ _ _ _ _ _ _ _ _ _ _ _ _ _ _ _ _ _ _ _ _ _ _ _ _ _ _ _ _ _ _ _ _ _ _ _ _ _ _ _ _ _ _ _ _ _ _ _ _ _ _ _ _ _ _ _ _ _ _ _ _ _ _ _ _ _ _ _ _ _ _ _ _ _ _ _ _ _ _ _ _ _ _ _ _ _ _ _ _ _ _ _ _ _ _ _ _ _ _ _ _ _ _ _ _ _ _ _ _ _ _ _ _ _ _ _ _ _ _ _ _ _ _ _ _ _ _ _ _ _ _ _ _ _ _ _ _ _ _ _ _ _ _ _ _ _ _ _ _ _ _ _ _ _ _ _ _ _ _ _ _ _ _ _ _ _ _ _ _ _ _ _ _ _ _ _ _ _ _ _ _ _ _ _ _ _ _ _ _ _ _
set_option maxHeartbeats 16000000 in
set_option maxRecDepth 100000 in
theorem symMidC_any (fc : Nat) (lb : Array Value) (K : ElC → List Int) (xs zs : List ElC) (g n cap a m b d : Nat) (W0 w : World) (eg : ∀ args w, (callFunc fc args).run Tryz.prog w = .ok (.enter fc args) w) (hrec : SymRecC fc lb K xs g n cap W0 d)
  (hg : W0.grownBy w (some g)) (hr : RowC w g zs) (hme : ∀ x ∈ zs, x ∈ xs) (hsl : ∀ x ∈ xs, ShC x) (hc : CmpC fc lb K xs g W0) (hn : zs.length = n) (hd : b - a ≤ d) (hma : a + 1 < m) (hmb : m + 1 < b) (hb : b ≤ n) (hnl : n ≤ 1000000) (hm : MrgS K a m b zs) :
  Calls Tryz.prog 128 #[.slice (some ⟨g, 0, none⟩) n cap, .int .i64 a, .int .i64 m, .int .i64 b, .func (.func fc) #[] lb] w (RetSwC (fun z => MrgE K a b zs z) g w) := by
 have HR := Lib.hid hr
 have HG := Lib.hid hg
 have HSL := Lib.hid (fun x hx => hsl x (hme x hx))
 have HSX := Lib.hid hsl
 have HME := Lib.hid hme
 have HC := Lib.hid hc
 have HN := Lib.hid hn
 have HM := Lib.hid hm
 have HREC := Lib.hid hrec
 have t0 : ((m : Int) - (a : Int) == 1) = false := by rw [beq_eq_false_iff_ne]; omega
 have t1 : ((b : Int) - (m : Int) == 1) = false := by rw [beq_eq_false_iff_ne]; omega
 obtain ⟨mid, hmid⟩ : ∃ mid, mid = (a + b) / 2 := ⟨_, rfl⟩
 have M1 : Hid (((a : Int) + (b : Int)) / 2 = (mid : Int)) := by show _ = _; omega
 have q1 : a < mid := by omega
 have q2 : mid < b := by omega
 have q3 : 2 * mid ≤ a + b := by omega
 have q4 : a + b ≤ 2 * mid + 1 := by omega
 obtain ⟨nn, hnn⟩ : ∃ nn, nn = mid + m := ⟨_, rfl⟩
 have M2 : Hid ((mid : Int) + (m : Int) = (nn : Int)) := by show _ = _; omega
 obtain ⟨s0, hs0⟩ : ∃ s0, s0 = if mid < m then nn - b else a := ⟨_, rfl⟩
 obtain ⟨r0, hr0⟩ : ∃ r0, r0 = if mid < m then mid else m := ⟨_, rfl⟩
 obtain ⟨p, hp⟩ : ∃ p, p = nn - 1 := ⟨_, rfl⟩
 have M3 : Hid ((nn : Int) - 1 = (p : Int)) := by show _ = _; omega
 have HS0 : Hid (s0 = if mid < m then nn - b else a) := hs0
 have HR0 : Hid (r0 = if mid < m then mid else m) := hr0
 have HFOUR : Hid (∀ s, Bis (MirK K zs p) s0 r0 s s → Mrg4 K a m b s (nn - s) zs) := fun s hs => by
  have := hm.four (by omega) (by omega) (s := s)
  rw [← hmid, ← hnn, ← hp, ← hs0, ← hr0] at this
  exact this hs
 have q5 : a ≤ s0 ∧ s0 ≤ r0 ∧ r0 ≤ m ∧ r0 ≤ mid ∧ nn ≤ b + s0 := by
  by_cases h : mid < m
  ·rw [if_pos h] at hs0 hr0; omega
  ·rw [if_neg h] at hs0 hr0; omega
 have hdm := hm.downMir (lo := s0) (hi := r0) (p := p) (by omega) (by omega) (fun c h1 h2 => by
  by_cases h : mid < m
  ·rw [if_pos h] at hs0 hr0; omega
  ·rw [if_neg h] at hs0 hr0; omega)
 have HDM := Lib.hid hdm
 have QR : Hid (∀ c, s0 ≤ c → c < r0 → c < p ∧ p - c < b ∧ c < n) := fun c h1 h2 => by
  by_cases h : mid < m
  ·rw [if_pos h] at hs0 hr0; omega
  ·rw [if_neg h] at hs0 hr0; omega
 have hnn2 : Hid (nn = mid + m) := hnn
 clear hr hg hsl hme hc hn hm hrec hmid hs0 hr0 hp hdm
 go_enter Tryz.func128, Tryz.ntmps128
 have hd3 : IntKind.i64.wrap ((a : Int) + (b : Int)) = (a : Int) + (b : Int) := IntWalk.i64_in _ (by omega)
 have hd4 : IntKind.u64.wrap ((a : Int) + (b : Int)) = (a : Int) + (b : Int) := by rw [IntKind.wrap_u64]; omega
 clear hnn
 go_upto_region 25 with (fail)
 rw [M1.out]
 clear hd3 hd4 t0 t1
 go_upto_region 26 with (fail)
 rw [M2.out]
 let KF : (Ending → World → Prop) → Exit → Act → World → Prop := bodyPost Tryz.prog Tryz.f128
 go_upto_if 140 with (fail)
 go_cut [20, 21] (fun x y wx => x = .int .i64 (s0 : Nat) ∧ y = .int .i64 (r0 : Nat) ∧ wx = w)
 case first =>
  by_cases h : mid < m
  ·have t2 : (mid : Int) < (m : Int) := by omega
   have e1 : (nn : Int) - (b : Int) = (s0 : Int) := by
    have := HS0.out
    have := hnn2.out
    rw [if_pos h] at *
    omega
   have E1 := Lib.hid e1
   have E2 : Hid (r0 = mid) := by show _ = _; rw [HR0.out, if_pos h]
   clear e1 h
   go_wp2
   go_meet
   exact ⟨by rw [← E1.out], by rw [E2.out], rfl⟩
  ·have t2 : ¬ (mid : Int) < (m : Int) := by omega
   have E1 : Hid (s0 = a) := by show _ = _; rw [HS0.out, if_neg h]
   have E2 : Hid (r0 = m) := by show _ = _; rw [HR0.out, if_neg h]
   clear h
   go_wp2
   go_meet
   exact ⟨by rw [E1.out], by rw [E2.out], rfl⟩
 case rest =>
  obtain ⟨rfl, rfl, hwx⟩ := hcut
  rw [hwx]
  clear hwx
  go_upto_block 8 with (fail)
  rw [M3.out]
  go_cut [20] (fun x wx => ∃ s : Nat, s0 ≤ s ∧ s ≤ r0 ∧ x = .int .i64 (s : Nat) ∧ Bis (MirK K zs p) s0 r0 s s ∧ RowC wx g zs ∧ w.grownBy wx (some g))
  case first =>
   go_wp2
   go_loopw [20, 21] (fun iv jv wr => ∃ i j : Nat, s0 ≤ i ∧ i ≤ j ∧ j ≤ r0 ∧ iv = .int .i64 (i : Nat) ∧ jv = .int .i64 (j : Nat) ∧ Bis (MirK K zs p) s0 r0 i j ∧ RowC wr g zs ∧ w.grownBy wr (some g)) (fun iv jv _ => (intOf jv).toNat - (intOf iv).toNat)
   case atStart => exact ⟨s0, r0, Nat.le_refl _, q5.2.1, Nat.le_refl _, rfl, rfl, Bis.start q5.2.1, HR.out, grown_of_below (Below.refl _ _) _⟩
   case round =>
    obtain ⟨i, j, h1, h2, h3, rfl, rfl, hbi, hrw, hgr⟩ := hrel
    have HBI := Lib.hid hbi
    have HRW := Lib.hid hrw
    have HGR := Lib.hid hgr
    clear hbi hrw hgr
    by_cases hlt : i < j
    ·obtain ⟨c, hc⟩ : ∃ c, c = (i + j) / 2 := ⟨_, rfl⟩
     have N3 : Hid (((i : Int) + (j : Int)) / 2 = (c : Int)) := by show _ = _; omega
     have ci1 : i ≤ c := by omega
     have ci2 : c < j := by omega
     clear hc
     have hqr := QR.out c (by omega) (by omega)
     obtain ⟨q, hq⟩ : ∃ q, q = p - c := ⟨_, rfl⟩
     have HQ : Hid (p - c = q) := hq.symm
     have b5 : (p : Int) - (c : Int) = (q : Int) := by omega
     have b6 : q < n := by omega
     have b7 : c < n := hqr.2.2
     obtain ⟨x, hx⟩ : ∃ x, zs[c]? = some x := ⟨_, List.getElem?_eq_getElem (by rw [HN.out]; omega)⟩
     obtain ⟨y, hy⟩ : ∃ y, zs[q]? = some y := ⟨_, List.getElem?_eq_getElem (by rw [HN.out]; omega)⟩
     have HX := Lib.hid hx
     have HY := Lib.hid hy
     obtain ⟨hcx, hcx'⟩ := HRW.out.cell c x hx
     obtain ⟨hcy, hcy'⟩ := HRW.out.cell q y hy
     obtain ⟨p1, m1, c1, p1', m1', c1', e1⟩ := HSL.out x (List.mem_of_getElem? hx)
     obtain ⟨p2, m2, c2, p2', m2', c2', e2⟩ := HSL.out y (List.mem_of_getElem? hy)
     have HCC := Lib.hid (fun w1 (h1 : W0.grownBy w1 (some g)) => HC.out w1 y x h1 (HME.out y (List.mem_of_getElem? hy)) (HME.out x (List.mem_of_getElem? hx)))
     rw [e1] at hcx hcx'
     rw [e2] at hcy hcy'
     rw [show aggC x = .agg #[.slice p1 m1 c1, .slice p1' m1' c1'] from by rw [aggC, e1], show aggC y = .agg #[.slice p2 m2 c2, .slice p2' m2' c2'] from by rw [aggC, e2]] at HCC
     clear hx hy e1 e2 hq hqr
     have K1 : Hid (∀ w', Below wr.heap.size wr w' → w'.cell? ⟨g, c * 2, none⟩ = some (.slice p1 m1 c1) ∧ w'.cell? ⟨g, c * 2 + 1, none⟩ = some (.slice p1' m1' c1') ∧ w'.cell? ⟨g, q * 2, none⟩ = some (.slice p2 m2 c2) ∧ w'.cell? ⟨g, q * 2 + 1, none⟩ = some (.slice p2' m2' c2') ∧ Below wr.heap.size wr w') := fun w' hb' => ⟨cell_later hcx hb', cell_later hcx' hb', cell_later hcy hb', cell_later hcy' hb', hb'⟩
     have HIS : Hid (g < wr.heap.size) := World.block_lt_of_cell? _ _ hcx
     have hd3 : IntKind.i64.wrap ((i : Int) + (j : Int)) = (i : Int) + (j : Int) := IntWalk.i64_in _ (by omega)
     have hd4 : IntKind.u64.wrap ((i : Int) + (j : Int)) = (i : Int) + (j : Int) := by rw [IntKind.wrap_u64]; omega
     generalize hcm : cmpI (K y) (K x) = cv at HCC
     have HCM := Lib.hid hcm
     have HCI := Lib.hid (And.intro ci1 ci2)
     have B5 := Lib.hid b5
     have b1 : (0 : Int) ≤ (c : Int) := by omega
     have b2 : (c : Int) < (n : Int) := by omega
     have b3 : (0 : Int) ≤ (q : Int) := by omega
     have b4 : (q : Int) < (n : Int) := by omega
     have b8 : IntKind.i64.wrap ((p : Int) - (c : Int)) = (q : Int) := by rw [b5]; exact IntWalk.i64_in _ (by omega)
     have B8 := Lib.hid b8
     have b9 : IntKind.i64.wrap (q : Int) = (q : Int) := IntWalk.i64_in _ (by omega)
     have B9 := Lib.hid b9
     clear hcm hcx hcy hcx' hcy' b5 b8 b9
     go_upto_region 35 with (fail)
     rw [N3.out]
     clear hd3 hd4
     have b5 := B5.out
     have b8 := B8.out
     have b9 := B9.out
     obtain ⟨hcx, hcx', hcy, hcy', -⟩ := K1.out wr (Below.refl _ _)
     go_region_held3 (fun w' => w'.cell? ⟨g, c * 2, none⟩ = some (.slice p1 m1 c1) ∧ w'.cell? ⟨g, c * 2 + 1, none⟩ = some (.slice p1' m1' c1') ∧ w'.cell? ⟨g, q * 2, none⟩ = some (.slice p2 m2 c2) ∧ w'.cell? ⟨g, q * 2 + 1, none⟩ = some (.slice p2' m2' c2') ∧ Below wr.heap.size wr w')
      (first | exact K1.out _ (Below.refl _ _).drew | exact K1.out _ (by assumption))
      ((refine (HCC.out _ ((HG.out.trans HGR.out).trans (grown_of_below (Below.refl _ _).drew _))).mono ?_; rintro e w2 ⟨rfl, hb2⟩; have hb3 : Below wr.heap.size wr w2 := below_keep (Below.refl _ _).drew hb2))
     have HG2 := Lib.hid ((HGR.out.trans (grown_of_below hb3 (some g))))
     have HR2 := Lib.hid (HRW.out.kept (hb3.block g HIS.out))
     clear hb2 hb3 HCC K1 hcx hcy hcx' hcy' b5 b8 b9
     rcases cmpI_cases (K y) (K x) with hv | hv | hv
     ·have HB2 := Lib.hid (HBI.out.down HDM.out HCI.out.1 HCI.out.2 (by
       rintro ⟨x', y', hx', hy', hl⟩
       rw [HX.out] at hx'
       rw [HQ.out, HY.out] at hy'
       cases hx'
       cases hy'
       exact hl hv))
      rw [HCM.out] at hv
      subst hv
      go_wp2
      exact ⟨⟨i, c, h1, by omega, by omega, rfl, rfl, HB2.out, HR2.out, HG2.out⟩, by show (intOf _).toNat - _ < _ - _; simp [intOf]; omega⟩
     ·have HB2 := Lib.hid (HBI.out.up HDM.out HCI.out.1 HCI.out.2 ⟨x, y, HX.out, by rw [HQ.out]; exact HY.out, by unfold ltK; rw [hv]; decide⟩)
      rw [HCM.out] at hv
      subst hv
      go_wp2
      exact ⟨⟨c + 1, j, by omega, by omega, h3, by go_num, rfl, HB2.out, HR2.out, HG2.out⟩, by show (intOf _).toNat - _ < _ - _; simp [intOf]; omega⟩
     ·have HB2 := Lib.hid (HBI.out.up HDM.out HCI.out.1 HCI.out.2 ⟨x, y, HX.out, by rw [HQ.out]; exact HY.out, by unfold ltK; rw [hv]; decide⟩)
      rw [HCM.out] at hv
      subst hv
      go_wp2
      exact ⟨⟨c + 1, j, by omega, by omega, h3, by go_num, rfl, HB2.out, HR2.out, HG2.out⟩, by show (intOf _).toNat - _ < _ - _; simp [intOf]; omega⟩
    ·obtain rfl : i = j := by omega
     go_wp2
     go_meet
     exact ⟨i, h1, h3, rfl, HBI.out, HRW.out, HGR.out⟩
  case rest =>
    obtain ⟨i, h1, h3, rfl, hbi, hrw, hgr⟩ := hcut
    apply_assumption
    exact symTailC38 fc lb K xs zs g n cap a m b mid nn i d W0 w HREC.out HG.out hd q1 q2 hb hnl hnn2.out ⟨by omega, by omega, by omega, by omega⟩ HME.out HSX.out HN.out _ (HFOUR.out i hbi) hrw hgr _ _ _ _ _ _ _ _ _ _ _ _ _ _ _ _ _ _ _ _ _ _ _ _ _ _ _ _ _ _ _ _ _ _ _ _ _ _ _ _ _ _ _ _ _ _ _ _ _ _ _ _ _ _ _ _ _ _ _ _ _ _ _ _ _ _ _ _ _ _ _ _ _ _ _ _ _ _ _ _ _ _ _ _ _ _ _ _ _ _ _ _ _ _ _ _ _ _ _ _ _ _ _ _ _ _ _ _ _ _ _ _ _ _ _ _ _ _ _ _ _ _ _ _ _ _ _ _ _ _ _ _ _ _ _ _ _ _ _ _ _ _ _ _ _ _ _ _ _ _ _ _ _ _ _ _ _ _ _ _ _ _ _ _ _ _ _ _ _ _ _ _ _ _ _ _ _ _ _ _ _ _ _ _ _ _ _ _ _ _ _ _ _ _ _ _ _ _ _ _ _ _ _ _ _ _ _ _ _ _ _ _
theorem symC_any (fc : Nat) (lb : Array Value) (K : ElC → List Int) (xs : List ElC) (g n cap : Nat) (W0 : World) (eg : ∀ args w, (callFunc fc args).run Tryz.prog w = .ok (.enter fc args) w)
  (hsl : ∀ x ∈ xs, ShC x) (hc : CmpC fc lb K xs g W0) (hnl : n ≤ 1000000) : ∀ d, SymRecC fc lb K xs g n cap W0 d
 | 0 => fun a m b zs w h => absurd h (Nat.not_lt_zero _)
 | d + 1 => fun a m b zs w h1 h2 h3 h4 hg hr hme hn hm => by
  by_cases e1 : m = a + 1
  ·exact symLeftC_any fc lb K xs zs g n cap a m b W0 w eg hg hr hme hsl hc hn e1 h3 h4 hnl hm
  ·by_cases e2 : b = m + 1
   ·exact symRightC_any fc lb K xs zs g n cap a m b W0 w eg hg hr hme hsl hc hn (by omega) e2 h4 hnl hm
   ·exact symMidC_any fc lb K xs zs g n cap a m b d W0 w eg (symC_any fc lb K xs g n cap W0 eg hsl hc hnl d) hg hr hme hsl hc hn (by omega) (by omega) (by omega) h4 hnl hm
end Go.Proofs.YthlkcppbljpooaaGreatDoor
/- slices.SortStableFunc at cells, of any length: the contract. (turned from SymD by wip/gen/srtc.py) -/
namespace Go.Proofs.YthlkcppbljpooaaGreatDoor
open Go.RowKit

/-- the row is sorted, nothing else is changed -/
def RetSoC (K : ElC → List Int) (xs : List ElC) (g : Nat) (w : World) (e : Ending) (w' : World) : Prop := e = .returned (.tuple #[]) ∧ ∃ zs, zs.Perm xs ∧ SortK K zs ∧ RowC w' g zs ∧ w.grownBy w' (some g)
theorem CmpC.sub {fc : Nat} {lb : Array Value} {K : ElC → List Int} {xs zs : List ElC} {g : Nat} {W0 w : World} (h : CmpC fc lb K xs g W0) (hs : ∀ x ∈ zs, x ∈ xs) (hg : W0.grownBy w (some g)) : CmpC fc lb K zs g w :=
 fun W x y h1 hx hy => h W x y (hg.trans h1) (hs x hx) (hs y hy)
set_option maxHeartbeats 2000000 in
theorem insertionC_nil (fc : Nat) (lb : Array Value) (g n cap a : Nat) (w : World) (hnl : a ≤ 1000000) :
  Calls Tryz.prog 127 #[.slice (some ⟨g, 0, none⟩) n cap, .int .i64 a, .int .i64 a, .func (.func fc) #[] lb] w fun e w' => e = .returned (.tuple #[]) ∧ w = w' := by
 have h1 : ¬ (a : Int) + 1 < (a : Int) := by omega
 go_enter Tryz.func127, Tryz.ntmps127
 go_wp2
 go_loop [8] (fun iv => iv = .int .i64 ((a : Int) + 1)) (fun _ => 0)
 case atStart => rfl
 case round =>
  obtain rfl := hrel
  go_wp2
  go_end0
  exact ⟨rfl, rfl⟩
/-- an insertion sort of a segment, which may be empty -/
theorem insertionC_seg (fc : Nat) (lb : Array Value) (K : ElC → List Int) (xs : List ElC) (g n cap a b : Nat) (w : World) (eg : ∀ args w, (callFunc fc args).run Tryz.prog w = .ok (.enter fc args) w)
  (hr : RowC w g xs) (hsl : ∀ x ∈ xs, ShC x) (hc : CmpC fc lb K xs g w) (hn : xs.length = n) (ha : a ≤ b) (hb : b ≤ n) (hnl : n ≤ 1000000) :
  Calls Tryz.prog 127 #[.slice (some ⟨g, 0, none⟩) n cap, .int .i64 a, .int .i64 b, .func (.func fc) #[] lb] w (RetSwC (fun z => MrgE K a b xs z) g w) := by
 by_cases h : a < b
 ·exact (insertionC_any fc lb K xs g n cap a b w eg hr hsl hc hn h hb hnl).mono fun e w' ⟨he, zs, h1, h2, h3, h4⟩ => ⟨he, zs, mrgE_of ha (by omega) h1.perm h1.pre h1.suf h2, h3, h4⟩
 ·obtain rfl : a = b := by omega
  refine (insertionC_nil fc lb g n cap a w (by omega)).mono fun e w' ⟨he, hw⟩ => ⟨he, xs, ?_, hw ▸ hr, hw ▸ grown_of_below (Below.refl _ _) _⟩
  exact ⟨xs.take a, [], [], xs.drop a, by simp, by simp, by rw [List.length_take]; omega, rfl, List.Perm.refl _, List.Pairwise.nil⟩

set_option maxHeartbeats 8000000 in
set_option maxRecDepth 100000 in
theorem stableC_any (fc : Nat) (lb : Array Value) (K : ElC → List Int) (xs : List ElC) (g n cap : Nat) (w : World) (eg : ∀ args w, (callFunc fc args).run Tryz.prog w = .ok (.enter fc args) w)
  (hr : RowC w g xs) (hsl : ∀ x ∈ xs, ShC x) (hc : CmpC fc lb K xs g w) (hn : xs.length = n) (hnl : n ≤ 1000000) :
  Calls Tryz.prog 106 #[.slice (some ⟨g, 0, none⟩) n cap, .int .i64 n, .func (.func fc) #[] lb] w (RetSoC K xs g w) := by
 have HR := Lib.hid hr
 have HN := Lib.hid hn
 have HI := Lib.hid (fun (zs : List ElC) (A B : Nat) (w1 : World) (h1 : RowC w1 g zs) (h2 : zs.Perm xs) (h3 : w.grownBy w1 (some g)) (h4 : A ≤ B) (h5 : B ≤ n) =>
  insertionC_seg fc lb K zs g n cap A B w1 eg h1 (fun x hx => hsl x (h2.mem_iff.1 hx)) (hc.sub (fun x hx => h2.mem_iff.1 hx) h3) (by rw [h2.length_eq, hn]) h4 h5 hnl)
 have HS := Lib.hid (fun (zs : List ElC) (A M B : Nat) (w1 : World) (h1 : RowC w1 g zs) (h2 : zs.Perm xs) (h3 : w.grownBy w1 (some g)) (h4 : A < M) (h5 : M < B) (h6 : B ≤ n) (h7 : MrgS K A M B zs) =>
  symC_any fc lb K xs g n cap w eg hsl hc hnl (n + 1) A M B zs w1 (by omega) h4 h5 h6 h3 h1 (fun x hx => h2.mem_iff.1 hx) (by rw [h2.length_eq, hn]) h7)
 clear hr hsl hc hn eg
 go_enter Tryz.func106, Tryz.ntmps106
 go_wp2
 go_loopw [7, 8] (fun av bv wr => ∃ (A B q : Nat) (zs : List ElC), A ≤ n ∧ B = A + 20 ∧ Hid (A = q * 20) ∧ av = .int .i64 (A : Nat) ∧ bv = .int .i64 (B : Nat) ∧ BlkP K 1 20 q zs ∧ zs.Perm xs ∧ RowC wr g zs ∧ w.grownBy wr (some g)) (fun av _ _ => n - (intOf av).toNat)
 case atStart => exact ⟨0, 20, 0, xs, Nat.zero_le _, rfl, by show _ = _; rfl, by go_num, by go_num, (BlkS.one K xs).start 20, List.Perm.refl _, HR.out, grown_of_below (Below.refl _ _) _⟩
 case round =>
  obtain ⟨A, B, q, zs, hA, hBA, HA, rfl, rfl, hbp, hpe, hrw, hgr⟩ := hrel
  have HBP := Lib.hid hbp
  have HPE := Lib.hid hpe
  have HRW := Lib.hid hrw
  have HGR := Lib.hid hgr
  have HBA := Lib.hid hBA
  clear hbp hpe hrw hgr
  by_cases hlt : B ≤ n
  ·have C := Lib.hid (HI.out zs A B wr HRW.out HPE.out HGR.out (by omega) hlt)
   clear hBA
   go_wp2_with fail
   refine C.out.mono ?_
   rintro e w1 ⟨rfl, z2, hm2, hr2, hg2⟩
   have HM2 : Hid (BlkP K 1 20 (q + 1) z2) := HBP.out.step (by decide) (by rw [← HA.out, ← HBA.out]; exact hm2)
   have HP2 := Lib.hid (hm2.perm.trans HPE.out)
   have HR2 := Lib.hid hr2
   have HG2 := Lib.hid (HGR.out.trans hg2)
   clear hm2 hr2 hg2 C
   go_wp2
   exact ⟨⟨B, B + 20, q + 1, z2, hlt, rfl, by show _ = _; rw [HBA.out, HA.out, Nat.add_mul], rfl, by go_num, HM2.out, HP2.out, HR2.out, HG2.out⟩, by have := HBA.out; show n - _ < n - _; simp [intOf]; omega⟩
  ·have C := Lib.hid (HI.out zs A n wr HRW.out HPE.out HGR.out hA (Nat.le_refl _))
   clear hBA
   go_wp2_with fail
   refine C.out.mono ?_
   rintro e w1 ⟨rfl, z2, hm2, hr2, hg2⟩
   have HB2 : Hid (BlkS K 20 z2) := HBP.out.last (by decide) (by rw [← HA.out, HPE.out.length_eq, HN.out]; exact hm2)
   have HP2 := Lib.hid (hm2.perm.trans HPE.out)
   have HR2 := Lib.hid hr2
   have HG2 := Lib.hid (HGR.out.trans hg2)
   clear hm2 hr2 hg2 C HBP HPE HRW HGR
   go_wp2
   obtain ⟨w0, hw0⟩ : ∃ w0, w0 = w1 := ⟨_, rfl⟩
   rw [← hw0] at HR2 HG2 ⊢
   clear hw0 hA hlt HA HBA
   go_loopw [6, 7, 8, 9] (fun sv _ _ _ wy => ∃ (s : Nat) (zs : List ElC), 20 ≤ s ∧ s ≤ 2000020 ∧ sv = .int .i64 (s : Nat) ∧ BlkS K s zs ∧ zs.Perm xs ∧ RowC wy g zs ∧ w.grownBy wy (some g)) (fun sv _ _ _ _ => n - (intOf sv).toNat)
   case atStart => exact ⟨20, z2, Nat.le_refl _, by omega, rfl, HB2.out, HP2.out, HR2.out, HG2.out⟩
   case round =>
    clear HB2 HP2 HR2 HG2
    obtain ⟨s, zs, hs1, hs2, rfl, hbs, hpe, hrw, hgr⟩ := hrel
    have HBS := Lib.hid hbs
    have HPE := Lib.hid hpe
    have HRW := Lib.hid hrw
    have HGR := Lib.hid hgr
    clear hbs hpe hrw hgr
    by_cases hsn : s < n
    ·obtain ⟨t, ht⟩ : ∃ t, t = 2 * s := ⟨_, rfl⟩
     have HT := Lib.hid ht
     have m1 : (2 : Int) * (s : Int) = (t : Int) := by omega
     have b1 : t ≤ 2000000 := by omega
     have b2 : s < t := by omega
     have HSB : Hid (BlkP K s (2 * s) 0 zs) := HBS.out.start _
     clear ht
     go_wp2
     clear m1
     obtain ⟨w0, hw0⟩ : ∃ w0, w0 = wr := ⟨_, rfl⟩
     rw [← hw0] at HRW HGR ⊢
     clear hw0
     go_loopw [7, 8] (fun av bv wz => ∃ (A B q : Nat) (zz : List ElC), A ≤ n ∧ B = A + t ∧ Hid (A = q * (2 * s)) ∧ av = .int .i64 (A : Nat) ∧ bv = .int .i64 (B : Nat) ∧ BlkP K s (2 * s) q zz ∧ zz.Perm xs ∧ RowC wz g zz ∧ w.grownBy wz (some g)) (fun av _ _ => n - (intOf av).toNat)
     case atStart => exact ⟨0, t, 0, zs, Nat.zero_le _, by omega, by show _ = _; omega, by go_num, by go_num, HSB.out, HPE.out, HRW.out, HGR.out⟩
     case round =>
      clear HSB HPE HRW HGR HBS
      obtain ⟨A, B, q, zz, hA, hBA, HA, rfl, rfl, hbp, hpe, hrw, hgr⟩ := hrel
      have HBP := Lib.hid hbp
      have HPE := Lib.hid hpe
      have HRW := Lib.hid hrw
      have HGR := Lib.hid hgr
      have HBA := Lib.hid hBA
      have HLZ : Hid (zz.length = n) := by show _ = _; rw [hpe.length_eq, HN.out]
      obtain ⟨M, hM⟩ : ∃ M, M = A + s := ⟨_, rfl⟩
      have HM := Lib.hid hM
      have c1 : (A : Int) + (s : Int) = (M : Int) := by omega
      clear hbp hpe hrw hgr
      by_cases hlt : B ≤ n
      ·have C := Lib.hid (HS.out zz A M B wr HRW.out HPE.out HGR.out (by omega) (by omega) hlt (by
        have h2 := HBP.out.two (b := B) (by omega) (by rw [← HA.out]; omega) (by rw [← HA.out]; have := HT.out; omega) (by rw [HLZ.out]; exact hlt)
        rw [← HA.out, ← hM] at h2
        exact h2))
       clear hBA hM
       go_wp2_with fail
       refine C.out.mono ?_
       rintro e w1 ⟨rfl, z2, hm2, hr2, hg2⟩
       have HM2 : Hid (BlkP K s (2 * s) (q + 1) z2) := HBP.out.step (by omega) (by rw [← HA.out, ← HT.out, ← HBA.out]; exact hm2)
       have HP2 := Lib.hid (hm2.perm.trans HPE.out)
       have HR2 := Lib.hid hr2
       have HG2 := Lib.hid (HGR.out.trans hg2)
       have m1 : (2 : Int) * (s : Int) = (t : Int) := by have := HT.out; omega
       clear hm2 hr2 hg2 C c1
       go_wp2
       clear m1
       exact ⟨⟨B, B + t, q + 1, z2, hlt, rfl, by show _ = _; rw [HBA.out, HA.out, HT.out, Nat.add_mul, Nat.one_mul], rfl, by go_num, HM2.out, HP2.out, HR2.out, HG2.out⟩, by have := HBA.out; show n - _ < n - _; simp [intOf]; omega⟩
      ·by_cases hMn : M < n
       ·have C := Lib.hid (HS.out zz A M n wr HRW.out HPE.out HGR.out (by omega) hMn (Nat.le_refl _) (by
         have h2 := HBP.out.two (b := n) (by omega) (by rw [← HA.out]; omega) (by rw [← HA.out]; have := HT.out; omega) (by rw [HLZ.out]; exact Nat.le_refl _)
         rw [← HA.out, ← hM] at h2
         exact h2))
        clear hBA hM
        go_wp2_with fail
        refine C.out.mono ?_
        rintro e w1 ⟨rfl, z2, hm2, hr2, hg2⟩
        have HM2 : Hid (BlkS K t z2) := by
         rw [HT.out]
         exact HBP.out.last (by omega) (by rw [← HA.out, HLZ.out]; exact hm2)
        have HP2 := Lib.hid (hm2.perm.trans HPE.out)
        have HR2 := Lib.hid hr2
        have HG2 := Lib.hid (HGR.out.trans hg2)
        have m2 : (s : Int) * (2 : Int) = (t : Int) := by have := HT.out; omega
        clear hm2 hr2 hg2 C c1
        go_wp2
        clear m2
        exact ⟨⟨t, z2, by omega, by omega, rfl, HM2.out, HP2.out, HR2.out, HG2.out⟩, by show n - _ < n - _; simp [intOf]; omega⟩
       ·have HM2 : Hid (BlkS K t zz) := by
         rw [HT.out]
         exact HBP.out.skip (by omega) (by rw [← HA.out, HLZ.out]; omega)
        have m2 : (s : Int) * (2 : Int) = (t : Int) := by have := HT.out; omega
        clear hBA hM
        go_wp2
        clear m2 c1
        exact ⟨⟨t, zz, by omega, by omega, rfl, HM2.out, HPE.out, HRW.out, HGR.out⟩, by show n - _ < n - _; simp [intOf]; omega⟩
    ·have HF := Lib.hid (HBS.out.whole (by rw [HPE.out.length_eq, HN.out]; omega))
     go_wp2
     go_end0
     exact ⟨rfl, zs, HPE.out, HF.out, HRW.out, HGR.out⟩
theorem sortStableC_any (fc : Nat) (lb : Array Value) (K : ElC → List Int) (xs : List ElC) (g n cap : Nat) (w : World) (eg : ∀ args w, (callFunc fc args).run Tryz.prog w = .ok (.enter fc args) w)
  (hr : RowC w g xs) (hsl : ∀ x ∈ xs, ShC x) (hc : CmpC fc lb K xs g w) (hn : xs.length = n) (hnl : n ≤ 1000000) :
  Calls Tryz.prog 77 #[.slice (some ⟨g, 0, none⟩) n cap, .func (.func fc) #[] lb] w (RetSoC K xs g w) := by
 have C := Lib.hid (stableC_any fc lb K xs g n cap w eg hr hsl hc hn hnl)
 clear hr hsl hc hn eg
 go_enter Tryz.func77, Tryz.ntmps77
 go_wp2_with fail
 refine C.out.mono ?_
 rintro e w1 ⟨rfl, hx⟩
 have HX := Lib.hid hx
 clear hx C
 go_wp2
 go_end0
 exact ⟨rfl, HX.out⟩
end Go.Proofs.YthlkcppbljpooaaGreatDoor
/- space.sortBy at cells: the closures: contracts. -/
namespace Go.Proofs.YthlkcppbljpooaaGreatDoor
open Go.RowKit

/-- the closure of Make: the coordinates of a cell -/
theorem make1_any (a1 : Option Addr) (n1 c1 : Nat) (a2 : Option Addr) (n2 c2 : Nat) (w : World) :
  Calls Tryz.prog 36 #[.agg #[.slice a1 n1 c1, .slice a2 n2 c2]] w fun e w' => e = .returned (.slice a1 n1 c1) ∧ Below w.heap.size w w' := by
 go_enter Tryz.func36, Tryz.ntmps36
 go_wp2
 go_ret
 exact ⟨rfl, below_alloc _ _⟩

set_option maxHeartbeats 4000000 in
set_option maxRecDepth 100000 in
theorem sortCmpC_any (gk : Nat) (a1 : Option Addr) (n1 c1 : Nat) (a2 : Option Addr) (n2 c2 : Nat) (a3 : Option Addr) (n3 c3 : Nat) (a4 : Option Addr) (n4 c4 : Nat) (kx ky : List Int) (w : World) (hk : w.cell? ⟨gk, 0, none⟩ = some (.func (.func 36) #[] #[]))
  (hx : Ints w (.slice a1 n1 c1) kx) (hy : Ints w (.slice a3 n3 c3) ky) :
  Calls Tryz.prog 78 #[.agg #[.slice a1 n1 c1, .slice a2 n2 c2], .agg #[.slice a3 n3 c3, .slice a4 n4 c4], .pointer (some ⟨gk, 0, none⟩)] w fun e w' => e = .returned (.int .i64 (cmpI kx ky)) ∧ Below w.heap.size w w' := by
 have HX := Lib.hid hx
 have HY := Lib.hid hy
 have eg : ∀ args w, (callFunc 36 args).run Tryz.prog w = .ok (.enter 36 args) w := enters_of Tryz.func36 (by kernel_rfl) rfl
 obtain ⟨W, hW⟩ : ∃ W, W = (w.alloc (.cells #[.slice a1 n1 c1, .slice a2 n2 c2] 38)).alloc (.cells #[.slice a3 n3 c3, .slice a4 n4 c4] 38) := ⟨_, rfl⟩
 have hbW : Below w.heap.size w W := by rw [hW]; exact (below_alloc _ _).trans ((below_alloc _ _).mono (by simp))
 have e0 : W.cell? ⟨w.heap.size, 0, none⟩ = some (.slice a1 n1 c1) := by rw [hW, World.cell?_alloc_lt _ _ _ (by simp), World.cell?_alloc_at _ _ _ _ rfl]; rfl
 have e1 : W.cell? ⟨w.heap.size, 1, none⟩ = some (.slice a2 n2 c2) := by rw [hW, World.cell?_alloc_lt _ _ _ (by simp), World.cell?_alloc_at _ _ _ _ rfl]; rfl
 have e2 : W.cell? ⟨w.heap.size + 1, 0, none⟩ = some (.slice a3 n3 c3) := by rw [hW, World.cell?_alloc_at _ _ _ _ (by simp)]; rfl
 have e3 : W.cell? ⟨w.heap.size + 1, 1, none⟩ = some (.slice a4 n4 c4) := by rw [hW, World.cell?_alloc_at _ _ _ _ (by simp)]; rfl
 have ek := cell_later hk hbW
 have K : Hid (∀ w', Below W.heap.size W w' → w'.cell? ⟨gk, 0, none⟩ = some (.func (.func 36) #[] #[]) ∧ w'.cell? ⟨w.heap.size, 0, none⟩ = some (.slice a1 n1 c1) ∧ w'.cell? ⟨w.heap.size, 1, none⟩ = some (.slice a2 n2 c2) ∧ w'.cell? ⟨w.heap.size + 1, 0, none⟩ = some (.slice a3 n3 c3) ∧ w'.cell? ⟨w.heap.size + 1, 1, none⟩ = some (.slice a4 n4 c4) ∧ Below W.heap.size W w') :=
  fun w' hb => ⟨cell_later ek hb, cell_later e0 hb, cell_later e1 hb, cell_later e2 hb, cell_later e3 hb, hb⟩
 have HBW := Lib.hid hbW
 clear hx hy hk hbW
 go_enter Tryz.func78, Tryz.ntmps78
 go_upto_region 1 with (fail)
 rw [← hW]
 clear hW
 go_wp2_with fail
 have hb0 : Below W.heap.size W W.drew := (Below.refl _ _).drew
 go_region_held3 (fun w' => w'.cell? ⟨gk, 0, none⟩ = some (.func (.func 36) #[] #[]) ∧ w'.cell? ⟨w.heap.size, 0, none⟩ = some (.slice a1 n1 c1) ∧ w'.cell? ⟨w.heap.size, 1, none⟩ = some (.slice a2 n2 c2) ∧ w'.cell? ⟨w.heap.size + 1, 0, none⟩ = some (.slice a3 n3 c3) ∧ w'.cell? ⟨w.heap.size + 1, 1, none⟩ = some (.slice a4 n4 c4) ∧ Below W.heap.size W w')
  (first | exact K.out _ (by assumption))
  (first
   | (go_at_call_of 36 (Value.agg #[.slice a1 n1 c1, .slice a2 n2 c2]); refine (make1_any a1 n1 c1 a2 n2 c2 _).mono ?_; rintro e w1 ⟨rfl, hb1⟩; have hB1 := below_keep (by assumption) hb1)
   | (go_at_call_of 36 (Value.agg #[.slice a3 n3 c3, .slice a4 n4 c4]); refine (make1_any a3 n3 c3 a4 n4 c4 _).mono ?_; rintro e w2 ⟨rfl, hb2⟩; have hB2 := below_keep (by assumption) hb2)
   | (go_at_call 37; refine (compare_any kx ky _ _ _ (HX.out.later IntR.lasts (below_keep HBW.out (by assumption))) (HY.out.later IntR.lasts (below_keep HBW.out (by assumption)))).mono ?_; rintro e w3 ⟨rfl, rfl⟩))
 all_goals
  first
   | have HB := Lib.hid (below_keep HBW.out hB2)
   | have HB := Lib.hid (below_keep HBW.out hB1)
  go_wp2
  go_ret
  exact ⟨rfl, HB.out⟩
end Go.Proofs.YthlkcppbljpooaaGreatDoor
/- space.sortBy at cells: the contract. -/
namespace Go.Proofs.YthlkcppbljpooaaGreatDoor
open Go.RowKit

/-- a cell in memory of its own -/
structure CellN (n : Nat) (w : World) (g o : Nat) (c : CellT) : Prop where
 ex : ∃ v1 v2, w.cell? ⟨g, o, none⟩ = some v1 ∧ w.cell? ⟨g, o + 1, none⟩ = some v2 ∧ CeO n w v1 v2 c
/-- a list of cells in memory of its own -/
structure CellsN (n : Nat) (w : World) (v : Value) (l : List CellT) : Prop where
 ls : Ls 2 (CellN n) w v l
 lt : ∀ b, v.ownBlock = some b → n ≤ b
theorem CeO.apart {n : Nat} {w w' : World} {u1 u2 : Value} {c : CellT} (h : CeO n w u1 u2 c) (hk : ∀ b, n ≤ b → b < w.heap.size → w'.heap[b]? = w.heap[b]?) : CeO n w' u1 u2 c :=
 have k1 : ∀ b, u1.ownBlock = some b → w'.heap[b]? = w.heap[b]? := fun b hb => hk b (h.ti.own b hb).1 (h.ti.tag b hb).lt
 have k2 : ∀ b, u2.ownBlock = some b → w'.heap[b]? = w.heap[b]? := fun b hb => hk b (h.tv.own b hb).1 (h.tv.tag b hb).lt
 ⟨h.i.kept IntR.local k1, h.ti.kept k1, h.v.kept ValR.local k2, h.tv.kept k2⟩
/-- what keeps the blocks from n on keeps the list -/
theorem CellsN.apart {n : Nat} {w w' : World} {v : Value} {l : List CellT} (h : CellsN n w v l) (hk : ∀ b, n ≤ b → b < w.heap.size → w'.heap[b]? = w.heap[b]?) : CellsN n w' v l := by
 obtain ⟨⟨a, cap, rfl, h1, h2, h3⟩, hl⟩ := h
 refine ⟨⟨a, cap, rfl, h1, h2, fun h0 => ?_⟩, hl⟩
 obtain ⟨g, o, rfl, hx⟩ := h3 h0
 refine ⟨g, o, rfl, fun i x hi => ?_⟩
 obtain ⟨v1, v2, e1, e2, hc⟩ := (hx i x hi).ex
 have hg := hk g (hl g rfl) (World.block_lt_of_cell? _ _ e1)
 exact ⟨v1, v2, (World.cell?_of_block (a := ⟨g, _, none⟩) hg).trans e1, (World.cell?_of_block (a := ⟨g, _, none⟩) hg).trans e2, hc.apart hk⟩
theorem CellsN.later {n : Nat} {w w' : World} {v : Value} {l : List CellT} (h : CellsN n w v l) (hb : Below w.heap.size w w') : CellsN n w' v l := h.apart fun b _ hl => hb.block b hl
theorem CellsN.base {n m : Nat} {w : World} {v : Value} {l : List CellT} (h : CellsN n w v l) (hn : m ≤ n) : CellsN m w v l := by
 obtain ⟨⟨a, cap, rfl, h1, h2, h3⟩, hl⟩ := h
 refine ⟨⟨a, cap, rfl, h1, h2, fun h0 => ?_⟩, fun b hb => Nat.le_trans hn (hl b hb)⟩
 obtain ⟨g, o, rfl, hx⟩ := h3 h0
 refine ⟨g, o, rfl, fun i x hi => ?_⟩
 obtain ⟨v1, v2, e1, e2, hc⟩ := (hx i x hi).ex
 exact ⟨v1, v2, e1, e2, hc.base hn⟩
theorem CellsN.cells {n : Nat} {w : World} {v : Value} {l : List CellT} (h : CellsN n w v l) : CellsA w v l := by
 obtain ⟨⟨a, cap, rfl, h1, h2, h3⟩, hl⟩ := h
 refine ⟨a, cap, rfl, h1, h2, fun h0 => ?_⟩
 obtain ⟨g, o, rfl, hx⟩ := h3 h0
 refine ⟨g, o, rfl, fun i x hi => ?_⟩
 obtain ⟨v1, v2, e1, e2, hc⟩ := (hx i x hi).ex
 exact ⟨v1, v2, e1, e2, hc.i, hc.v⟩
theorem CellsN.nil (n : Nat) (w : World) (cap : Nat) (h : cap ≤ 9223372036854775807) : CellsN n w (.slice none 0 cap) [] := ⟨Ls.nil _ _ _ h, fun b h => by cases h⟩
/-- the row of a list of cells, as what is sorted -/
theorem cellsO_row {n₀ : Nat} {w : World} {v : Value} {l : List CellT} (h : CellsO n₀ w v l) : (v = .slice none 0 0 ∧ l = []) ∨ ∃ (g cap : Nat) (xs : List ElC), v = .slice (some ⟨g, 0, none⟩) l.length cap ∧ n₀ ≤ g ∧ g < w.heap.size ∧ xs.map Prod.snd = l ∧ RowC w g xs ∧ l.length ≤ cap ∧ cap ≤ 9223372036854775807 ∧ TagB w g 38 ∧ ∀ x ∈ xs, CeO n₀ w x.1.1 x.1.2 x.2 := by
 obtain ⟨us, hul, ho, hx⟩ := h
 have hc : ∀ {g : Nat}, v.ownBlock = some g → ∀ j u, (us.flatMap fun u => [u.1, u.2])[j]? = some u → w.cell? ((⟨g, 0, none⟩ : Addr).add j) = some u := fun hg => ho.cells hg
 have ht := ownsRow_tag ho
 rcases ho.2 with ⟨rfl, h1⟩ | ⟨g, cap, cur, rfl, h1, h2, h3, h4, h5, h6⟩
 ·exact .inl ⟨rfl, List.length_eq_zero_iff.1 h1⟩
 ·unfold maxLen at h4
  refine .inr ⟨g, cap, us.zip l, rfl, h1, (ht g rfl).lt, by rw [List.map_snd_zip (by omega)], ⟨fun i x hi => ?_, fun i => by simp [World.frozen?, h2]⟩, h3, h4, ht g rfl, fun x hx' => ?_⟩
  ·rw [List.getElem?_zip_eq_some] at hi
   have e0 := hc (g := g) rfl _ _ (flat_at (k := 2) (f := fun u : Value × Value => [u.1, u.2]) (fun _ => rfl) us i x.1 0 x.1.1 hi.1 rfl)
   have e1 := hc (g := g) rfl _ _ (flat_at (k := 2) (f := fun u : Value × Value => [u.1, u.2]) (fun _ => rfl) us i x.1 1 x.1.2 hi.1 rfl)
   rw [show (⟨g, 0, none⟩ : Addr).add (i * 2 + 0) = ⟨g, i * 2, none⟩ from by unfold Addr.add; split <;> simp_all] at e0
   rw [show (⟨g, 0, none⟩ : Addr).add (i * 2 + 1) = ⟨g, i * 2 + 1, none⟩ from by unfold Addr.add; split <;> simp_all] at e1
   exact ⟨e0, e1⟩
  ·obtain ⟨i, hi⟩ := List.mem_iff_getElem?.1 hx'
   rw [List.getElem?_zip_eq_some] at hi
   exact hx i x.2 x.1 hi.2 hi.1
theorem CellsO.new {n₀ : Nat} {w : World} {v : Value} {l : List CellT} (h : CellsO n₀ w v l) : CellsN n₀ w v l := by
 rcases cellsO_row h with ⟨rfl, rfl⟩ | ⟨g, cap, xs, rfl, hg, -, rfl, hr, hc, hc2, -, hx⟩
 ·exact CellsN.nil _ _ _ (by omega)
 ·refine ⟨⟨_, cap, rfl, hc, hc2, fun _ => ⟨g, 0, rfl, fun i x hi => ?_⟩⟩, fun b hb => by cases hb; exact hg⟩
  rw [List.getElem?_map] at hi
  obtain ⟨z, hz, rfl⟩ := Option.map_eq_some_iff.1 hi
  rw [Nat.zero_add]
  exact ⟨z.1.1, z.1.2, (hr.cell i z hz).1, (hr.cell i z hz).2, hx z (List.mem_of_getElem? hz)⟩

/-- nothing to be sorted -/
theorem insertionC_none (fc : Nat) (lb : Array Value) (w : World) :
  Calls Tryz.prog 127 #[.slice none 0 0, .int .i64 0, .int .i64 0, .func (.func fc) #[] lb] w fun e w' => e = .returned (.tuple #[]) ∧ w = w' := by
 go_enter Tryz.func127, Tryz.ntmps127
 go_wp2
 go_loop [8] (fun iv => iv = .int .i64 1) (fun _ => 0)
 case atStart => rfl
 case round =>
  obtain rfl := hrel
  go_wp2
  go_end0
  exact ⟨rfl, rfl⟩
theorem stableC_none (fc : Nat) (lb : Array Value) (w : World) :
  Calls Tryz.prog 106 #[.slice none 0 0, .int .i64 0, .func (.func fc) #[] lb] w fun e w' => e = .returned (.tuple #[]) ∧ w = w' := by
 go_enter Tryz.func106, Tryz.ntmps106
 go_wp2
 go_loop [7, 8] (fun av bv => av = .int .i64 0 ∧ bv = .int .i64 20) (fun _ _ => 0)
 case atStart => exact ⟨rfl, rfl⟩
 case round =>
  obtain ⟨rfl, rfl⟩ := hrel
  go_wp2_with fail
  refine (insertionC_none fc lb w).mono ?_
  rintro e w1 ⟨rfl, rfl⟩
  go_wp2
  go_loop [6, 7, 8, 9] (fun sv _ _ _ => sv = .int .i64 20) (fun _ _ _ _ => 0)
  case atStart => rfl
  case round =>
   obtain rfl := hrel
   go_wp2
   go_end0
   exact ⟨rfl, rfl⟩
theorem sortStableC_none (fc : Nat) (lb : Array Value) (w : World) :
  Calls Tryz.prog 77 #[.slice none 0 0, .func (.func fc) #[] lb] w fun e w' => e = .returned (.tuple #[]) ∧ w = w' := by
 go_enter Tryz.func77, Tryz.ntmps77
 go_wp2_with fail
 refine (stableC_none fc lb w).mono ?_
 rintro e w1 ⟨rfl, rfl⟩
 go_wp2
 go_end0
 exact ⟨rfl, rfl⟩

abbrev keyCV : Value := .func (.func 36) #[] #[]
def RetSbC (n₀ : Nat) (v : Value) (l : List CellT) (w : World) (e : Ending) (w' : World) : Prop := e = .returned (.tuple #[]) ∧ ∃ l', l'.Perm l ∧ SortK CellT.co l' ∧ CellsN n₀ w' v l' ∧ w.grownBy w' v.ownBlock
theorem sortByC_none (w : World) :
  Calls Tryz.prog 35 #[.slice none 0 0, keyCV] w fun e w' => e = .returned (.tuple #[]) ∧ Below w.heap.size w w' := by
 go_enter Tryz.func35, Tryz.ntmps35
 go_wp2_with fail
 refine (sortStableC_none _ _ _).mono ?_
 rintro e w1 ⟨rfl, rfl⟩
 go_wp2
 go_end0
 exact ⟨rfl, below_alloc _ _⟩
set_option maxHeartbeats 4000000 in
theorem sortByC_any (n₀ : Nat) (v : Value) (w : World) (l : List CellT) (hr : CellsO n₀ w v l) (hn9 : l.length ≤ 1000000) :
  Calls Tryz.prog 35 #[v, keyCV] w (RetSbC n₀ v l w) := by
 rcases cellsO_row hr with ⟨rfl, rfl⟩ | ⟨g, cap, xs, rfl, hg0, hgl, hxs, hru, hcap, hcap2, htg, hio⟩
 ·refine (sortByC_none w).mono ?_
  rintro e w1 ⟨rfl, hb1⟩
  exact ⟨rfl, [], List.Perm.refl _, List.Pairwise.nil, CellsN.nil _ _ _ (by omega), grown_of_below hb1 _⟩
 ·obtain ⟨W, hW⟩ : ∃ W, W = w.alloc (.cells #[keyCV] 82) := ⟨_, rfl⟩
  have hbW : Below w.heap.size w W := by rw [hW]; exact below_alloc _ _
  have hck : W.cell? ⟨w.heap.size, 0, none⟩ = some keyCV := by rw [hW, World.cell?_alloc_at _ _ _ _ rfl]; rfl
  have hWs : W.heap.size = w.heap.size + 1 := by rw [hW]; simp
  have hn : xs.length = l.length := by rw [← hxs, List.length_map]
  have hnt : ∀ r, some g = some r → ¬ TagB W r 3 ∧ ¬ TagB W r 40 := fun r e => by
   cases e
   exact not_tag (htg.kept (hbW.block g hgl)) (by decide) (by decide)
  have hsh : ∀ x ∈ xs, ShC x := fun x hx => by
   obtain ⟨a1, b1, e1, -⟩ := (hio x hx).i.shape
   obtain ⟨a2, b2, e2, -⟩ := (hio x hx).v.shape
   exact ⟨a1, _, b1, a2, _, b2, by rw [← e1, ← e2]⟩
  have C := Lib.hid (sortStableC_any 78 #[.pointer (some ⟨w.heap.size, 0, none⟩)] (fun e => e.2.co) xs g l.length cap W (enters_of Tryz.func78 (by kernel_rfl) rfl)
   (hru.kept (hbW.block g hgl)) hsh
   (by
    intro W1 x y hgr hx1 hy1
    have hk : W1.cell? ⟨w.heap.size, 0, none⟩ = some keyCV := (hgr.cell_far ⟨w.heap.size, 0, none⟩ (by show w.heap.size < _; omega) (fun e => by injection e with e; have e9 : w.heap.size = g := e; omega)).trans hck
    have i1 := ((hio x hx1).later hbW).grown hgr hnt
    have i2 := ((hio y hy1).later hbW).grown hgr hnt
    obtain ⟨p1, m1, c1, p1', m1', c1', e1⟩ := hsh x hx1
    obtain ⟨p2, m2, c2, p2', m2', c2', e2⟩ := hsh y hy1
    rw [e1] at i1
    rw [e2] at i2
    rw [aggC, aggC, e1, e2]
    exact sortCmpC_any w.heap.size p1 m1 c1 p1' m1' c1' p2 m2 c2 p2' m2' c2' x.2.co y.2.co W1 hk i1.i i2.i)
   hn hn9)
  have POST : Hid (∀ W1 (zs : List ElC), zs.Perm xs → SortK (fun e : ElC => e.2.co) zs → RowC W1 g zs → W.grownBy W1 (some g) → ∃ l', l'.Perm l ∧ SortK CellT.co l' ∧ CellsN n₀ W1 (.slice (some ⟨g, 0, none⟩) l.length cap) l' ∧ w.grownBy W1 (some g)) := by
   intro W1 zs hp hs hu hgr
   refine ⟨zs.map Prod.snd, by rw [← hxs]; exact hp.map _, List.pairwise_map.2 hs, ⟨?_, fun b hb => by cases hb; exact hg0⟩, (grown_of_below hbW _).trans hgr⟩
   have hzl : (zs.map Prod.snd).length = l.length := by rw [List.length_map, hp.length_eq, hn]
   rw [← hzl] at hcap ⊢
   refine ⟨_, cap, rfl, hcap, hcap2, fun _ => ⟨g, 0, rfl, fun i x hi => ?_⟩⟩
   rw [List.getElem?_map] at hi
   obtain ⟨z, hz, rfl⟩ := Option.map_eq_some_iff.1 hi
   have hzm : z ∈ xs := hp.mem_iff.1 (List.mem_of_getElem? hz)
   rw [Nat.zero_add]
   exact ⟨z.1.1, z.1.2, (hu.cell i z hz).1, (hu.cell i z hz).2, ((hio z hzm).later hbW).grown hgr hnt⟩
  have HWE := Lib.hid hW
  rw [hW] at C
  clear hr hru hio hbW hck hxs hW hnt hsh
  go_enter Tryz.func35, Tryz.ntmps35
  go_wp2_with fail
  refine C.out.mono ?_
  rintro e w1 ⟨rfl, zs, h1', h2', h3', h4'⟩
  have P1 := Lib.hid (POST.out w1 zs h1' h2' h3' (by rw [HWE.out]; exact h4'))
  clear h1' h2' h3' h4' C POST
  go_wp2
  go_end0
  exact ⟨rfl, P1.out⟩
end Go.Proofs.YthlkcppbljpooaaGreatDoor
