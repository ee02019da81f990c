/- Lemmas and contracts, each under its own condition: The part of a code that begins with a region: what stands behind a loop is proved as a lemma of its own. space.axes.tiled: the contract; as a function that computes keys. space.Inter: the contract. (region 10 printed by gen_homes.py) SpaceKnown: the examples' values, computed. SpaceKnown: the examples of Hilbert's order and of the order of tiles. SpaceKnown: the end of the walk (Inter, Parse, the chapter's examples), as a lemma about the code from region 24 on. Printed by wip/gen/knw.py. SpaceKnown: the orders' examples, as a lemma about the code from region 20 on. Printed by wip/gen/knw.py. SpaceKnown: the layouts, as a lemma about the code from region 9 on. Printed by wip/gen/knw.py. The walk of SpaceKnown. Printed by wip/gen/knw.py. -/
import Derived.WalkKit
import Derived.Lib.Hide
import Derived.IntWalk
import Derived.Deep.AppendLies
import Derived.Lib.SliceRun
import Derived.Lib.AppendZeros
import Derived.Deep.DeepCutAuto
import Derived.Deep.CutBlock
import Derived.Deep.RegionHeld3
import Derived.BigQuiet
import Derived.Test.YtdbnebhehiiakaaGreatDoorS10
import Derived.Test.YtdbnebhehiiakaaGreatDoorS13
import Derived.Test.YtdbnebhehiiakaaGreatDoorS15
import Derived.Test.YtdbnebhehiiakaaGreatDoorS21
import Derived.Test.YtdbnebhehiiakaaGreatDoorS24
import Derived.Test.YtdbnebhehiiakaaGreatDoorS26
import Derived.Test.YtdbnebhehiiakaaGreatDoorS27
import Derived.Test.YtdbnebhehiiakaaGreatDoorS30
import Derived.Test.YtdbnebhehiiakaaGreatDoorS60
import Derived.Test.YtdbnebhehiiakaaGreatDoorS68
import Derived.Test.YtdbnebhehiiakaaGreatDoorS69
import Derived.Test.YtdbnebhehiiakaaGreatDoorS9
namespace Go.Proofs.YtdbnebhehiiakaaGreatDoor
def firstReg:Code→Option Nat
 | .region n _ _ => some n
 | .seq a _ => firstReg a
 | _ => none
def fromReg (k:Nat):Code→Option Code
 | .seq a b => if firstReg a=some k then some (.seq a b) else match fromReg k a with
  | some c => some c
  | none => fromReg k b
 | .block _ c => fromReg k c
 | .loop c => fromReg k c
 | .scope c => fromReg k c
 | .cond _ a b => match fromReg k a with
  | some c => some c
  | none => fromReg k b
 | _ => none
end Go.Proofs.YtdbnebhehiiakaaGreatDoor
namespace Go.Proofs.YtdbnebhehiiakaaGreatDoor
open Go.RowKit
theorem run_makeC {t:TypeId} (ht:Tryz.prog.underlying t=some (.slice 3)) (n:Nat) (hn:n≤1000000000000) (w:World) :
  (Instr.makeSlice t (.int .i64 0) (.int .i64 (n:Int))).run Tryz.prog w=.ok (.slice (some ⟨w.heap.size,0,none⟩) 0 n) (w.alloc (.cells (madeCells #[.int .i64 0] n) 3)):=by
 obtain ⟨i0,hi,hz0,hz1,hz2⟩:=info_parts infoZ
 have h:=run_make (P:=Tryz.prog) w t 3 i0 (.int .i64 0) ht hi hz0 .i64 .i64 (0:Int) (n:Int) (by omega) (by omega) (by rw [hz2]; omega) (by omega)
 simpa [hz1,Value.cells] using h
theorem owns_made0 (w:World) (base n:Nat) (hb:base≤w.heap.size) (hn:n≤1000000):(w.alloc (.cells (madeCells #[.int .i64 0] n) 3)).ownsRow base 3 1 (.slice (some ⟨w.heap.size,0,none⟩) 0 n) 0 [] :=
 ⟨by simp,.inr ⟨w.heap.size,n,_,rfl,hb,World.alloc_heap_new w _,Nat.zero_le _,by unfold maxLen; omega,by simp [madeCells],by simp⟩⟩
def tilL (tl:Int) (y:List Int):List Int:=y.map (· / tl)
theorem tilL_snoc {tl:Int} {y:List Int} {i:Nat} {c:Int} (h:y[i]? = some c):tilL tl (y.take (i+1))=tilL tl (y.take i) ++ [c / tl]:=by
 unfold tilL; rw [take_snoc' h,List.map_append]; rfl
set_option maxHeartbeats 4000000 in
set_option maxRecDepth 100000 in
theorem tiled_any (b tl:Int) (y:List Int) (v:Value) (w:World) (hy:Ints w v y) (hn:y.length≤1000) (h0:1≤tl) (h1:tl≤64) (hc:∀ c ∈ y,0≤c∧c≤4095) :
  Calls Tryz.prog 106 #[.agg #[.int .i64 b,.int .i64 tl],v] w fun e w' => ∃ u,e=.returned u∧Ints w' u (y.map (· / tl) ++ y)∧Below w.heap.size w w':=by
 have HY:=Lib.hid hy
 have HC:=Lib.hid hc
 have hmk:=run_makeC Tryz.underlying36 (2 * y.length) (by omega)
 have hm2:IntKind.i64.wrap (2 * (y.length:Int))=((2 * y.length:Nat):Int):=by
  rw [show 2 * (y.length:Int)=((2 * y.length:Nat):Int) from by omega]
  exact IntWalk.i64_in _ (by omega)
 obtain ⟨p1,k1,rfl,-⟩:=hy.shape
 obtain ⟨i0,hi0,hz0,hz1,hz2⟩:=info_parts infoZ
 obtain ⟨m,hmm⟩:∃ m,m=2 * y.length:=⟨_,rfl⟩
 rw [← hmm] at hmk hm2
 have HBX:=Lib.hid (below_alloc w (.cells #[.int .i64 b,.int .i64 tl] 158))
 have hx1:(w.alloc (.cells #[.int .i64 b,.int .i64 tl] 158)).cell? ⟨w.heap.size,1,none⟩=some (.int .i64 tl):=by rw [World.cell?_alloc_at _ _ _ _ rfl]; rfl
 obtain ⟨W0,hW0⟩:∃ W0,W0=w.alloc (.cells #[.int .i64 b,.int .i64 tl] 158):=⟨_,rfl⟩
 rw [← hW0] at HBX hx1
 have HX1:=Lib.hid hx1
 have HOW:=Lib.hid (owns_made0 W0 W0.heap.size m (Nat.le_refl _) (by omega))
 obtain ⟨W1,hW1⟩:∃ W1,W1=W0.alloc (.cells (madeCells #[.int .i64 0] m) 3):=⟨_,rfl⟩
 rw [← hW1] at HOW
 have HB1:Hid (Below W0.heap.size W0 W1):=by show Below _ _ _; rw [hW1]; exact below_alloc _ _
 clear hy hc hx1 hmm
 go_enter Tryz.func106,Tryz.ntmps106
 go_upto_region 1 with (fail)
 rw [← hW0]
 clear hW0
 go_wp2
 rw [← hW1]
 clear hW1 hmk
 go_loopw [5,14] (fun sv iv wr => ∃ i:Nat,i≤y.length∧iv=.int .i64 (i:Nat)∧wr.ownsRow W0.heap.size 3 1 sv (tilL tl (y.take i)).length ((tilL tl (y.take i)).map (Value.int .i64))∧Below W0.heap.size W0 wr) (fun _ iv _ => y.length - (intOf iv).toNat)
 case atStart => exact ⟨0,Nat.zero_le _,rfl,HOW.out,HB1.out⟩
 case round =>
  obtain ⟨i,hi,rfl,how,hb⟩:=hrel
  obtain ⟨la,hla⟩:∃ la,la=tilL tl (y.take i):=⟨_,rfl⟩
  rw [← hla] at how
  have hge:W0.heap.size≤wr.heap.size:=hb.size
  by_cases hlt:i<y.length
  ·obtain ⟨g,o,c,ea,hcx,hr⟩:=HY.out.at i hlt
   subst ea
   have hr:=cell_later hr (below_keep HBX.out hb)
   have hx:=cell_later HX1.out hb
   rw [Nat.mul_one] at hr
   have hcb:=HC.out c (List.mem_of_getElem? hcx)
   have hq1:c.tdiv tl=c / tl:=Int.tdiv_eq_ediv_of_nonneg hcb.1
   have hq2:0≤c / tl:=Int.ediv_nonneg hcb.1 (by omega)
   have hq3:c / tl≤c:=Int.ediv_le_self _ hcb.1
   obtain ⟨Q,hQ⟩:∃ Q,Q=c / tl:=⟨_,rfl⟩
   rw [← hQ] at hq1 hq2 hq3
   have hq4:IntKind.i64.wrap Q=Q:=IntWalk.i64_in _ (by omega)
   have htn:¬ tl=0:=by omega
   have HN:Hid (la ++ [Q]=tilL tl (y.take (i+1))):=by show _=_; rw [tilL_snoc hcx,hla,hQ]
   have hll:la.length≤1000:=by rw [hla,tilL,List.length_map,List.length_take]; omega
   have ib0:(0:Int)≤(i:Int):=by omega
   have ib1:(i:Int)<(y.length:Int):=by omega
   have HI1:Hid (i+1≤y.length∧y.length - (i+1)<y.length - i):=by show _∧_; omega
   have HB:=Lib.hid hb
   have HOW2:=Lib.hid how
   clear hcx hcb hQ hla hlt hi hb
   go_wp2_with (at_builtin; refine wpList_append_lies _ (by rfl) _ _ 36 (by rfl) W0.heap.size 3 i0 (.int .i64 0) 1 8 Tryz.underlying36 hi0 hz0 hz1 hz2 rfl (by decide) _ la.length (la.map (Value.int .i64)) (by rfl) (how.alloc _) ⟨wr.heap.size,0,none⟩ 1 1 [.int .i64 Q] (by rfl) (by rfl) (cell_one_new _ _ _) (by simp [Value.oneCell']) (by omega) (by unfold maxLen; omega) (by omega) (by simp; omega) (wr.heap.size+1) (by simp) ?_)
   intro g1 cp1 w6 hown hgrow hat hlt6
   have hbd:Below wr.heap.size wr (wr.alloc (.cells #[.int .i64 Q] 3)):=below_alloc _ _
   have HB6:=Lib.hid (HB.out.trans ((hbd.mono hge).grown hgrow (Nat.le_trans hge hbd.size) (fun k e => (HOW2.out.lt k e).1)))
   have HOE:Hid (w6.ownsRow W0.heap.size 3 1 (.slice (some ⟨g1,0,none⟩) (la.length+1) cp1) (tilL tl (y.take (i+1))).length ((tilL tl (y.take (i+1))).map (Value.int .i64))):=by
    show World.ownsRow _ _ _ _ _ _ _
    rw [← HN.out,List.length_append,List.map_append]; exact hown
   clear hown hgrow hat hlt6 hbd how
   go_wp2
   exact ⟨⟨i+1,HI1.out.1,by go_num,HOE.out,HB6.out⟩,HI1.out.2⟩
  ·have hin:i=y.length:=by omega
   rw [hin,List.take_length] at hla
   have HLA:Hid (la=y.map (· / tl)):=hla
   have hll:la.length=y.length:=by rw [hla,tilL,List.length_map]
   have hy2:=HY.out.later IntR.lasts (below_keep HBX.out hb)
   obtain ⟨v',w',hrun,hown,hgr⟩:=append_ints wr W0.heap.size hge _ la how _ y hy2 (by omega) 36
   have HRUN:=Lib.hid hrun
   have HI:=Lib.hid (RowZ.append_owns hown (by rw [List.length_append]))
   have HB6:=Lib.hid (below_keep HBX.out (hb.grown hgr hge (fun k e => (how.lt k e).1)))
   clear hrun hown hgr hla hlt hi hb hy2
   go_wp2_with (at_builtin; refine Lib.wpList_append_run _ rfl _ _ _ _ rfl _ _ rfl rfl _ _ HRUN.out ?_)
   go_wp2
   go_ret
   exact ⟨_,rfl,by rw [← HLA.out]; exact HI.out.ints,HB6.out⟩
theorem tiled_fn (b tl:Int) (n:Nat) (h4:n≤4) (h0:1≤tl) (h1:tl≤64):FnOf (.func (.func 106) #[.agg #[.int .i64 b,.int .i64 tl]] #[]) (fun y => y.map (· / tl) ++ y) n :=
 ⟨_,_,rfl,enters_of Tryz.func106 (by kernel_rfl) rfl,fun W v y hy hn hc => tiled_any b tl y v W hy (by omega) h0 h1 hc⟩
end Go.Proofs.YtdbnebhehiiakaaGreatDoor
namespace Go.Proofs.YtdbnebhehiiakaaGreatDoor
open Go.RowKit Go.Shelf
attribute [local go_sem] Oper.semAt_some
set_option maxHeartbeats 3200000 in
set_option maxRecDepth 100000 in
theorem inter_bad (va1 va2 vb1 vb2:Value) (al ah bl bh:List Int) (w:World) (h1:Ints w va1 al) (h2:Ints w va2 ah) (h3:Ints w vb1 bl) (h4:Ints w vb2 bh) (h:formedB al ah=false ∨ formedB bl bh=false ∨ al.length ≠ bl.length) :
  Calls Tryz.prog 21 #[.agg #[va1,va2],.agg #[vb1,vb2]] w (RetBxB none w):=by
 have CF1:=Lib.hid (fun w1 (hb:Below w.heap.size w w1) => formed_any va1 va2 al ah w1 (h1.later IntR.lasts hb) (h2.later IntR.lasts hb))
 have CF2:=Lib.hid (fun w1 (hb:Below w.heap.size w w1) => formed_any vb1 vb2 bl bh w1 (h3.later IntR.lasts hb) (h4.later IntR.lasts hb))
 obtain ⟨a1,c1,rfl,-⟩:=h1.shape
 obtain ⟨a2,c2,rfl,-⟩:=h2.shape
 obtain ⟨a3,c3,rfl,-⟩:=h3.shape
 obtain ⟨a4,c4,rfl,-⟩:=h4.shape
 obtain ⟨W1,hW1,hb1,hs1,hbx⟩:=box3_at w (.slice a1 al.length c1) (.slice a2 ah.length c2) (.slice a3 bl.length c3) (.slice a4 bh.length c4)
 have HB1:=Lib.hid hb1
 have HBX:=Lib.hid hbx
 have HS1:=Lib.hid hs1
 clear h1 h2 h3 h4 hb1 hbx hs1
 cases hf:formedB al ah with
 | false =>
  rw [hf] at CF1
  clear hf h
  go_enter Tryz.func21,Tryz.ntmps21
  go_wp2_with fail
  rw [← hW1]
  refine (CF1.out _ HB1.out).mono ?_
  rintro e w2 ⟨rfl,hb⟩
  have HB2:=Lib.hid hb
  obtain ⟨d0,d1,d2,d3,⟨r0,r1,r2,r3⟩⟩:=HBX.out w2 hb
  clear hb hW1 CF1
  go_wp2
  refine bodyPost_ret (by simp [results,Tryz.results21,go_sem,r0,r1]; try rfl) rfl ?_
  exact ⟨_,_,rfl,IntsO.nil _,IntsO.nil _,((below_keep HB1.out HB2.out).setCell (by simp <;> omega) _).setCell (by simp <;> omega) _⟩
 | true =>
  rw [hf] at CF1
  cases hg:formedB bl bh with
  | false =>
   rw [hg] at CF2
   clear hf h hg
   go_enter Tryz.func21,Tryz.ntmps21
   go_wp2_with fail
   rw [← hW1]
   refine (CF1.out _ HB1.out).mono ?_
   rintro e w2 ⟨rfl,hb⟩
   have HB2:=Lib.hid hb
   obtain ⟨d0,d1,d2,d3,-⟩:=HBX.out w2 hb
   clear hb hW1 CF1
   go_wp2_with fail
   refine (CF2.out _ (below_keep HB1.out HB2.out)).mono ?_
   rintro e w3 ⟨rfl,hb⟩
   have HB3:=Lib.hid (below_keep HB2.out hb)
   obtain ⟨d0,d1,d2,d3,⟨r0,r1,r2,r3⟩⟩:=HBX.out w3 HB3.out
   clear hb CF2
   go_wp2
   refine bodyPost_ret (by simp [results,Tryz.results21,go_sem,r0,r1]; try rfl) rfl ?_
   exact ⟨_,_,rfl,IntsO.nil _,IntsO.nil _,((below_keep HB1.out HB3.out).setCell (by simp <;> omega) _).setCell (by simp <;> omega) _⟩
  | true =>
   have h5:((al.length:Int) != bl.length)=true:=by
    rw [bne_iff_ne]
    rcases h with h | h | h
    ·rw [hf] at h; cases h
    ·rw [hg] at h; cases h
    ·omega
   rw [hg] at CF2
   clear hf h hg
   go_enter Tryz.func21,Tryz.ntmps21
   go_wp2_with fail
   rw [← hW1]
   refine (CF1.out _ HB1.out).mono ?_
   rintro e w2 ⟨rfl,hb⟩
   have HB2:=Lib.hid hb
   obtain ⟨d0,d1,d2,d3,-⟩:=HBX.out w2 hb
   clear hb hW1 CF1
   go_wp2_with fail
   refine (CF2.out _ (below_keep HB1.out HB2.out)).mono ?_
   rintro e w3 ⟨rfl,hb⟩
   have HB3:=Lib.hid (below_keep HB2.out hb)
   obtain ⟨d0,d1,d2,d3,⟨r0,r1,r2,r3⟩⟩:=HBX.out w3 HB3.out
   clear hb CF2
   go_wp2
   refine bodyPost_ret (by simp [results,Tryz.results21,go_sem,r0,r1]; try rfl) rfl ?_
   exact ⟨_,_,rfl,IntsO.nil _,IntsO.nil _,((below_keep HB1.out HB3.out).setCell (by simp <;> omega) _).setCell (by simp <;> omega) _⟩
set_option maxHeartbeats 32000000 in
set_option maxRecDepth 100000 in
theorem inter_core (va1 va2 vb1 vb2:Value) (al ah bl bh:List Int) (w:World) (h1:Ints w va1 al) (h2:Ints w va2 ah) (h3:Ints w vb1 bl) (h4:Ints w vb2 bh) (hf:formedB al ah=true) (hg:formedB bl bh=true) (h:al.length=bl.length) :
  Calls Tryz.prog 21 #[.agg #[va1,va2],.agg #[vb1,vb2]] w (RetBxB (interL [] [] al ah bl bh) w):=by
 have CF1:=Lib.hid (fun w1 (hb:Below w.heap.size w w1) => formed_any va1 va2 al ah w1 (h1.later IntR.lasts hb) (h2.later IntR.lasts hb))
 have CF2:=Lib.hid (fun w1 (hb:Below w.heap.size w w1) => formed_any vb1 vb2 bl bh w1 (h3.later IntR.lasts hb) (h4.later IntR.lasts hb))
 rw [hf] at CF1
 rw [hg] at CF2
 unfold formedB at hf hg
 simp only [Bool.and_eq_true,decide_eq_true_eq] at hf hg
 have hla:ah.length=al.length:=hf.1.1.symm
 have hlb:bh.length=bl.length:=hg.1.1.symm
 have hn4:al.length≤4:=hf.2
 have hbl:bl.length=al.length:=h.symm
 have hbh:bh.length=al.length:=hlb.trans hbl
 have HA1:=Lib.hid h1
 have HA2:=Lib.hid h2
 have HA3:=Lib.hid h3
 have HA4:=Lib.hid h4
 have HLA:=Lib.hid hla
 have HLB:=Lib.hid hbl
 have HLC:=Lib.hid hbh
 obtain ⟨a1,c1,rfl,-⟩:=h1.shape
 obtain ⟨a2,c2,rfl,-⟩:=h2.shape
 obtain ⟨a3,c3,rfl,-⟩:=h3.shape
 obtain ⟨a4,c4,rfl,-⟩:=h4.shape
 simp only [hla,hbl,hbh] at CF1 CF2 HA1 HA2 HA3 HA4 ⊢
 obtain ⟨i0,hi0,hz0,hz1,hz2⟩:=info_parts infoZ
 obtain ⟨R9,hR9⟩:∃ R,R=interL [] [] al ah bl bh:=⟨_,rfl⟩
 rw [← hR9]
 have HR9:=Lib.hid hR9
 obtain ⟨W1,hW1,hb1,hs1,hbx⟩:=box3_at w (.slice a1 al.length c1) (.slice a2 al.length c2) (.slice a3 al.length c3) (.slice a4 al.length c4)
 have HB1:=Lib.hid hb1
 have HBX:=Lib.hid hbx
 have HS1:=Lib.hid hs1
 clear h1 h2 h3 h4 hb1 hbx hs1 hf hg h hla hlb hbl hbh hR9
 go_enter Tryz.func21,Tryz.ntmps21
 go_wp2_with fail
 rw [← hW1]
 refine (CF1.out _ HB1.out).mono ?_
 rintro e w2 ⟨rfl,hb⟩
 have HB2:=Lib.hid hb
 obtain ⟨d0,d1,d2,d3,-⟩:=HBX.out w2 hb
 clear hb hW1 CF1
 go_wp2_with fail
 refine (CF2.out _ (below_keep HB1.out HB2.out)).mono ?_
 rintro e w3 ⟨rfl,hb⟩
 have HB3:=Lib.hid (below_keep HB2.out hb)
 have HS3:Hid (w.heap.size+3≤w3.heap.size):=by have:=HB3.out.size; have:=HS1.out; show _≤_; omega
 obtain ⟨d0,d1,d2,d3,-⟩:=HBX.out w3 HB3.out
 have HBN:Hid (BoxO w3.heap.size w3.heap.size (w3.alloc (.cells #[.slice none 0 0,.slice none 0 0] 44)) (.slice none 0 0) (.slice none 0 0) [] []) :=
  ⟨ResB.made w3 _,World.ownsRow_nil _ _ _ _,World.ownsRow_nil _ _ _ _,(fun b hb => by cases hb),⟨_,(0,0),World.alloc_heap_new w3 _⟩⟩
 have hq:w.heap.size<w3.heap.size:=by have:=HS3.out; omega
 have hq':w.heap.size ≠ w3.heap.size:=Nat.ne_of_lt hq
 have hq1:w.heap.size+1<w3.heap.size:=by have:=HS3.out; omega
 have hq1':w.heap.size+1 ≠ w3.heap.size:=Nat.ne_of_lt hq1
 clear hb CF2
 go_wp2
 clear d0 d1 d2 d3 hq hq' hq1 hq1'
 go_loopw [31] (fun iv wr => ∃ (i:Nat) (v1 v2:Value) (lo hi:List Int),i≤al.length∧iv=.int .i64 (i:Nat)∧Hid (lo.length=i∧hi.length=i)∧Hid (interL lo hi (al.drop i) (ah.drop i) (bl.drop i) (bh.drop i)=R9)∧BoxO w3.heap.size w3.heap.size wr v1 v2 lo hi∧Below w3.heap.size w3 wr) (fun iv _ => al.length - (intOf iv).toNat)
 case atStart => exact ⟨0,_,_,[],[],Nat.zero_le _,rfl,⟨rfl,rfl⟩,HR9.out.symm,HBN.out,below_alloc _ _⟩
 case round =>
  obtain ⟨i,v1,v2,lo,hi,hi',rfl,HLN,HN,hbo,hb⟩:=hrel
  have HBO:=Lib.hid hbo
  have HBR:=Lib.hid hb
  have HBX3:=Lib.hid (HBX.out wr (below_keep HB3.out hb))
  have HBW:=Lib.hid (below_keep HB1.out (below_keep HB3.out hb))
  clear hbo hb
  by_cases hlt:i<al.length
  ·obtain ⟨g1,o1,x1,e1,hx1,hr1⟩:=(HA1.out.later IntR.lasts HBW.out).at i hlt
   obtain ⟨g2,o2,x2,e2,hx2,hr2⟩:=Ls.at (n:=al.length) (HA2.out.later IntR.lasts HBW.out) i (by rw [HLA.out]; exact hlt)
   obtain ⟨g3,o3,x3,e3,hx3,hr3⟩:=Ls.at (n:=al.length) (HA3.out.later IntR.lasts HBW.out) i (by rw [HLB.out]; exact hlt)
   obtain ⟨g4,o4,x4,e4,hx4,hr4⟩:=Ls.at (n:=al.length) (HA4.out.later IntR.lasts HBW.out) i (by rw [HLC.out]; exact hlt)
   subst e1 e2 e3 e4
   rw [Nat.mul_one] at hr1 hr2 hr3 hr4
   unfold IntR at hr1 hr2 hr3 hr4
   have hn:=HN.out
   rw [interL_drop hx1 hx2 hx3 hx4] at hn
   have HI1:Hid (i+1≤al.length):=hlt
   have HI2:Hid (al.length - (i+1)<al.length - i):=by show _<_; omega
   have ib0:(0:Int)≤(i:Int):=by omega
   have ib1:(i:Int)<(al.length:Int):=by omega
   obtain ⟨d0,d1,d2,d3,-⟩:=HBX3.out
   obtain ⟨G,hG⟩:∃ G,G=if (1073741825:Int)<(if x4<x2 then x4 else x2) then 1073741825 else if x4<x2 then x4 else x2:=⟨_,rfl⟩
   obtain ⟨F,hF⟩:∃ F,F=max x1 x3:=⟨_,rfl⟩
   have hG':min3 x2 x4=G:=hG.symm
   rw [hG',← hF] at hn
   have HNN:=Lib.hid hn
   have HG:=Lib.hid hG
   have HF:=Lib.hid hF
   have CU:=Lib.hid (fun w1 => upTo_any F G w1)
   obtain ⟨U,hU⟩:∃ U,U=upB F G:=⟨_,rfl⟩
   rw [← hU] at CU HNN
   clear hx1 hx2 hx3 hx4 hn HN hU hG hF hG'
   go_wp2_with fail
   go_quiet (fail)
   rw [← HG.out,← HF.out]
   have HBQ:=Lib.hid (below_drewN' wr nq)
   have HBXQ:=Lib.hid (HBX.out (wr.drewN nq) (below_keep HB3.out (below_keep HBR.out HBQ.out)))
   clear d0 d1 d2 d3 hr1 hr2 hr3 hr4
   go_wp2_with fail
   refine (CU.out _).mono ?_
   rintro e w5 ⟨rfl,rfl⟩
   cases U with
   | false =>
    have HE:Hid (R9=none):=by have:=HNN.out; rw [if_neg (by decide)] at this; exact this.symm
    obtain ⟨-,-,-,-,⟨r0,r1,r2,r3⟩⟩:=HBXQ.out
    go_wp2
    refine bodyPost_ret (by simp [results,Tryz.results21,go_sem,r0,r1]; try rfl) rfl ?_
    rw [HE.out]
    exact ⟨_,_,rfl,IntsO.nil _,IntsO.nil _,((below_keep HBW.out HBQ.out).setCell (by simp <;> omega) _).setCell (by simp <;> omega) _⟩
   | true =>
    have hE:=HNN.out
    rw [if_pos rfl] at hE
    have HE:=Lib.hid hE
    obtain ⟨Wd,hWd⟩:∃ Wd,Wd=wr.drewN nq:=⟨_,rfl⟩
    rw [← hWd] at HBQ HBXQ ⊢
    have HB0:Hid (BoxA w3.heap.size w3.heap.size Wd v1 v2 v1 v2 lo hi):=(BoxA.of HBO.out).later HBQ.out
    have HBC:=Lib.hid (HBR.out.trans (HBQ.out.mono HBR.out.size))
    have HNX:Hid (∀ wx,Below w3.heap.size Wd wx→w3.heap.size≤wx.heap.size):=fun wx h => Nat.le_trans HBC.out.size h.size
    have HSZ:Hid (∀ wx,Below w3.heap.size Wd wx→w3.heap.size<wx.heap.size):=fun wx h => Nat.lt_of_lt_of_le HB0.out.tag.lt h.size
    have HV1:Hid (∀ wx,Below w3.heap.size Wd wx→v1.ownBlock ≠ some wx.heap.size):=fun wx h e => by
     have:=(HB0.out.own1.lt _ e).2
     have:=h.size
     omega
    have HGN:Hid (w3.heap.size≤w3.heap.size):=Nat.le_refl _
    have hll:lo.length≤900:=by have:=HLN.out.1; omega
    have hlh:hi.length≤900:=by have:=HLN.out.2; omega
    clear hE hWd HNN
    go_wp2
    refine wp_region_inv [some 61,some 62,some 63,some 64,some 65,some 66,some 67,some 68,some 69,some 70,some 71,none,some 72,none] (HmJ w3.heap.size w3.heap.size Wd v1 v2 lo hi F G) rfl (by kernel_rfl) (by kernel_rfl) (by kernel_rfl) (by kernel_rfl) ?_ ?_ ?_
    ·exact { below:=(Below.refl _ _).drew,res:=fun _ _ => (HB0.out.later (Below.refl _ _).drew).res,s0:=fun _ => HB0.out.later (Below.refl _ _).drew,s1:=fun h _ => Bool.noConfusion h,s2:=fun h _ => Bool.noConfusion h,s3:=fun h _ => Bool.noConfusion h,s4:=fun h => Bool.noConfusion h,f0:=fun h => Bool.noConfusion h,f1:=fun h => Bool.noConfusion h,f2:=fun h => Bool.noConfusion h,f3:=fun h _ => Bool.noConfusion h,f4:=fun h => Bool.noConfusion h,f5:=fun h => Bool.noConfusion h,f6:=fun h => Bool.noConfusion h,f7:=fun h => Bool.noConfusion h,f8:=fun h _ => Bool.noConfusion h,f9:=fun h => Bool.noConfusion h,f10:=fun h => Bool.noConfusion h,f12:=fun h => Bool.noConfusion h }
    ·intro i9 op9 ho
     have hi9:i9<14:=(Array.getElem?_eq_some_iff.1 ho).1
     match i9,hi9 with
     | 0,_ =>
      obtain rfl:=Option.some.inj ho
      intro a9 dn vals wx hJ0 hdi hde hdj hev hsl hun
      have hJ:=Lib.hid hJ0
      rw [if_pos (wanted_none rfl)]
      have f6:(a9.tmps[6]?).getD undef=.pointer (some ⟨w3.heap.size,0,none⟩):=hev 6 (by kernel_rfl)
      clear hde hdj hev hsl hun hJ0 hdi
      go_simp
      exact { below:=hJ.out.below,res:=fun h h2 => hJ.out.res h h2,s0:=fun h => hJ.out.s0 h,s1:=fun h h2 => hJ.out.s1 h h2,s2:=fun h h2 => hJ.out.s2 h h2,s3:=fun h h2 => hJ.out.s3 h h2,s4:=fun h => hJ.out.s4 h,f0:=fun _ => rfl,f1:=fun h => hJ.out.f1 h,f2:=fun h => hJ.out.f2 h,f3:=fun h h2 => hJ.out.f3 h h2,f4:=fun h => hJ.out.f4 h,f5:=fun h => hJ.out.f5 h,f6:=fun h => hJ.out.f6 h,f7:=fun h => hJ.out.f7 h,f8:=fun h h2 => hJ.out.f8 h h2,f9:=fun h => hJ.out.f9 h,f10:=fun h => hJ.out.f10 h,f12:=fun h => hJ.out.f12 h }
     | 1,_ =>
      obtain rfl:=Option.some.inj ho
      intro a9 dn vals wx hJ0 hdi hde hdj hev hsl hun
      have hJ:=Lib.hid hJ0
      rw [if_pos (wanted_none rfl)]
      have f61:(a9.tmps[61]?).getD undef=.pointer (some ⟨w3.heap.size,0,none⟩):=(hsl 0 61 (hde 0 _ rfl rfl) rfl).trans (hJ.out.f0 (hde 0 _ rfl rfl))
      have n4:Hid (dn 4=false):=hdj 4 0 _ _ rfl rfl rfl rfl
      obtain ⟨k0,k1,k2,k3⟩:=(hJ.out.s0 n4.out).res
      clear hde hdj hev hsl hun hJ0 hdi
      clear n4
      go_simp
      exact { below:=hJ.out.below,res:=fun h h2 => hJ.out.res h h2,s0:=fun h => hJ.out.s0 h,s1:=fun h h2 => hJ.out.s1 h h2,s2:=fun h h2 => hJ.out.s2 h h2,s3:=fun h h2 => hJ.out.s3 h h2,s4:=fun h => hJ.out.s4 h,f0:=fun h => hJ.out.f0 h,f1:=fun _ => rfl,f2:=fun h => hJ.out.f2 h,f3:=fun h h2 => hJ.out.f3 h h2,f4:=fun h => hJ.out.f4 h,f5:=fun h => hJ.out.f5 h,f6:=fun h => hJ.out.f6 h,f7:=fun h => hJ.out.f7 h,f8:=fun h h2 => hJ.out.f8 h h2,f9:=fun h => hJ.out.f9 h,f10:=fun h => hJ.out.f10 h,f12:=fun h => hJ.out.f12 h }
     | 2,_ =>
      obtain rfl:=Option.some.inj ho
      intro a9 dn vals wx hJ0 hdi hde hdj hev hsl hun
      have hJ:=Lib.hid hJ0
      rw [if_pos (wanted_none rfl)]
      have f8:(a9.tmps[8]?).getD undef=.int .i64 F:=hev 8 (by kernel_rfl)
      clear hde hdj hev hsl hun hJ0 hdi
      go_simp
      exact { below:=hJ.out.below,res:=fun h h2 => hJ.out.res h h2,s0:=fun h => hJ.out.s0 h,s1:=fun h h2 => hJ.out.s1 h h2,s2:=fun h h2 => hJ.out.s2 h h2,s3:=fun h h2 => hJ.out.s3 h h2,s4:=fun h => hJ.out.s4 h,f0:=fun h => hJ.out.f0 h,f1:=fun h => hJ.out.f1 h,f2:=fun _ => rfl,f3:=fun h h2 => hJ.out.f3 h h2,f4:=fun h => hJ.out.f4 h,f5:=fun h => hJ.out.f5 h,f6:=fun h => hJ.out.f6 h,f7:=fun h => hJ.out.f7 h,f8:=fun h h2 => hJ.out.f8 h h2,f9:=fun h => hJ.out.f9 h,f10:=fun h => hJ.out.f10 h,f12:=fun h => hJ.out.f12 h }
     | 3,_ =>
      obtain rfl:=Option.some.inj ho
      intro a9 dn vals wx hJ0 hdi hde hdj hev hsl hun
      have hJ:=Lib.hid hJ0
      rw [if_pos (wanted_none rfl)]
      have f63:(a9.tmps[63]?).getD undef=.int .i64 F:=(hsl 2 63 (hde 0 _ rfl rfl) rfl).trans (hJ.out.f2 (hde 0 _ rfl rfl))
      have HLT:Hid (w3.heap.size<wx.heap.size):=HSZ.out wx hJ.out.below
      clear hde hdj hev hsl hun hJ0 hdi
      go_simp
      exact { below:=(hJ.out.below.trans (((below_alloc _ _)).mono (HNX.out wx hJ.out.below))),res:=fun h h2 => (hJ.out.res h h2).later (below_alloc _ _) HLT.out,s0:=fun h => (hJ.out.s0 h).later (below_alloc _ _),s1:=fun h h2 => (hJ.out.s1 h h2).later (below_alloc _ _),s2:=fun h h2 => (hJ.out.s2 h h2).later (below_alloc _ _),s3:=fun h h2 => (hJ.out.s3 h h2).later (below_alloc _ _),s4:=fun h => (hJ.out.s4 h).later (below_alloc _ _),f0:=fun h => hJ.out.f0 h,f1:=fun h => hJ.out.f1 h,f2:=fun h => hJ.out.f2 h,f3:=fun _ _ => ⟨wx.heap.size,rfl,by rw [World.cell?_alloc_at _ _ _ _ rfl]; rfl⟩,f4:=fun h => hJ.out.f4 h,f5:=fun h => hJ.out.f5 h,f6:=fun h => hJ.out.f6 h,f7:=fun h => hJ.out.f7 h,f8:=fun h h2 => let ⟨q,q1,q2,q3⟩:=hJ.out.f8 h h2; ⟨q,q1,cell_later q2 (below_alloc _ _),q3⟩,f9:=fun h => hJ.out.f9 h,f10:=fun h => hJ.out.f10 h,f12:=fun h => hJ.out.f12 h }
     | 4,_ =>
      obtain rfl:=Option.some.inj ho
      intro a9 dn vals wx hJ0 hdi hde hdj hev hsl hun
      have hJ:=Lib.hid hJ0
      rw [if_pos (wanted_none rfl)]
      have f62:(a9.tmps[62]?).getD undef=v1:=(hsl 1 62 (hde 0 _ rfl rfl) rfl).trans (hJ.out.f1 (hde 0 _ rfl rfl))
      obtain ⟨b3,e3,q3⟩:=hJ.out.f3 (hde 1 _ rfl rfl) hdi
      have f64:(a9.tmps[64]?).getD undef=.slice (some ⟨b3,0,none⟩) 1 1:=(hsl 3 64 (hde 1 _ rfl rfl) rfl).trans e3
      have n9:Hid (dn 9=false):=hdj 9 2 _ _ rfl rfl rfl rfl
      have n11:Hid (dn 11=false):=hdj 11 1 _ _ rfl rfl rfl rfl
      have n13:Hid (dn 13=false):=hdj 13 7 _ _ rfl rfl rfl rfl
      have hS:=hJ.out.s0 hdi
      obtain ⟨g9,cap9,w9,hrun,hown,hgr,hat,hlt9⟩:=run_append_lies (P:=Tryz.prog) (w:=wx) 36 36 w3.heap.size 3 i0 (.int .i64 0) 1 8 Tryz.underlying36 hi0 hz0 hz1 hz2 rfl (by decide) v1 lo.length _ hS.own1 ⟨b3,0,none⟩ 1 1 [.int .i64 F] rfl (fun j u hj => by
       match j,hj with
       | 0,hj => simp at hj; subst hj; exact q3) (fun u hu => by simp at hu; subst hu; rfl) (by decide) (by unfold maxLen; omega) (by omega) (HNX.out wx hJ.out.below) _ rfl
      have hS2:=hS.app1 (by decide) hown hgr hat
      have HB2:Hid (Below w3.heap.size Wd w9):=hJ.out.below.grown hgr (HNX.out wx hJ.out.below) (fun k e => (hS.own1.lt k e).1)
      have HRUN:=Lib.hid hrun
      have HS2:=Lib.hid hS2
      have HGR:=Lib.hid hgr
      clear hde hdj hev hsl hun hJ0 hdi
      clear hrun hown hgr hat hlt9 hS hS2 q3 e3
      refine does_append2 (s:=.tmp 62) (x:=.tmp 64) (T:=36) rfl (by rw [eval_tmp]; exact f62) (by rw [eval_tmp]; exact f64) HRUN.out ?_
      exact { below:=HB2.out,res:=fun _ _ => HS2.out.res,s0:=fun h => Bool.noConfusion h,s1:=fun _ _ => HS2.out,s2:=fun h _ => Bool.noConfusion ((show dn 9=true from h).symm.trans n9.out),s3:=fun h _ => Bool.noConfusion ((show dn 11=true from h).symm.trans n11.out),s4:=fun h => Bool.noConfusion ((show dn 13=true from h).symm.trans n13.out),f0:=fun h => hJ.out.f0 h,f1:=fun h => hJ.out.f1 h,f2:=fun h => hJ.out.f2 h,f3:=fun _ h => Bool.noConfusion h,f4:=fun _ => ⟨_,_,rfl⟩,f5:=fun h => hJ.out.f5 h,f6:=fun h => hJ.out.f6 h,f7:=fun h => hJ.out.f7 h,f8:=fun h h2 => let ⟨q,q1,q2,q3⟩:=hJ.out.f8 h h2; ⟨q,q1,HGR.out.cell q2 (fun e => q3 e.symm),q3⟩,f9:=fun h => hJ.out.f9 h,f10:=fun h => hJ.out.f10 h,f12:=fun h => hJ.out.f12 h }
     | 5,_ =>
      obtain rfl:=Option.some.inj ho
      intro a9 dn vals wx hJ0 hdi hde hdj hev hsl hun
      have hJ:=Lib.hid hJ0
      rw [if_pos (wanted_none rfl)]
      have f6:(a9.tmps[6]?).getD undef=.pointer (some ⟨w3.heap.size,0,none⟩):=hev 6 (by kernel_rfl)
      clear hde hdj hev hsl hun hJ0 hdi
      go_simp
      exact { below:=hJ.out.below,res:=fun h h2 => hJ.out.res h h2,s0:=fun h => hJ.out.s0 h,s1:=fun h h2 => hJ.out.s1 h h2,s2:=fun h h2 => hJ.out.s2 h h2,s3:=fun h h2 => hJ.out.s3 h h2,s4:=fun h => hJ.out.s4 h,f0:=fun h => hJ.out.f0 h,f1:=fun h => hJ.out.f1 h,f2:=fun h => hJ.out.f2 h,f3:=fun h h2 => hJ.out.f3 h h2,f4:=fun h => hJ.out.f4 h,f5:=fun _ => rfl,f6:=fun h => hJ.out.f6 h,f7:=fun h => hJ.out.f7 h,f8:=fun h h2 => hJ.out.f8 h h2,f9:=fun h => hJ.out.f9 h,f10:=fun h => hJ.out.f10 h,f12:=fun h => hJ.out.f12 h }
     | 6,_ =>
      obtain rfl:=Option.some.inj ho
      intro a9 dn vals wx hJ0 hdi hde hdj hev hsl hun
      have hJ:=Lib.hid hJ0
      rw [if_pos (wanted_none rfl)]
      have f66:(a9.tmps[66]?).getD undef=.pointer (some ⟨w3.heap.size,1,none⟩):=(hsl 5 66 (hde 0 _ rfl rfl) rfl).trans (hJ.out.f5 (hde 0 _ rfl rfl))
      have n11:Hid (dn 11=false):=hdj 11 9 _ _ rfl rfl rfl rfl
      have n13:Hid (dn 13=false):=hdj 13 9 _ _ rfl rfl rfl rfl
      obtain ⟨k0,k1,k2,k3⟩:=hJ.out.res n11.out n13.out
      clear hde hdj hev hsl hun hJ0 hdi
      clear n11 n13
      go_simp
      exact { below:=hJ.out.below,res:=fun h h2 => hJ.out.res h h2,s0:=fun h => hJ.out.s0 h,s1:=fun h h2 => hJ.out.s1 h h2,s2:=fun h h2 => hJ.out.s2 h h2,s3:=fun h h2 => hJ.out.s3 h h2,s4:=fun h => hJ.out.s4 h,f0:=fun h => hJ.out.f0 h,f1:=fun h => hJ.out.f1 h,f2:=fun h => hJ.out.f2 h,f3:=fun h h2 => hJ.out.f3 h h2,f4:=fun h => hJ.out.f4 h,f5:=fun h => hJ.out.f5 h,f6:=fun _ => rfl,f7:=fun h => hJ.out.f7 h,f8:=fun h h2 => hJ.out.f8 h h2,f9:=fun h => hJ.out.f9 h,f10:=fun h => hJ.out.f10 h,f12:=fun h => hJ.out.f12 h }
     | 7,_ =>
      obtain rfl:=Option.some.inj ho
      intro a9 dn vals wx hJ0 hdi hde hdj hev hsl hun
      have hJ:=Lib.hid hJ0
      rw [if_pos (wanted_none rfl)]
      have f9:(a9.tmps[9]?).getD undef=.int .i64 G:=hev 9 (by kernel_rfl)
      clear hde hdj hev hsl hun hJ0 hdi
      go_simp
      exact { below:=hJ.out.below,res:=fun h h2 => hJ.out.res h h2,s0:=fun h => hJ.out.s0 h,s1:=fun h h2 => hJ.out.s1 h h2,s2:=fun h h2 => hJ.out.s2 h h2,s3:=fun h h2 => hJ.out.s3 h h2,s4:=fun h => hJ.out.s4 h,f0:=fun h => hJ.out.f0 h,f1:=fun h => hJ.out.f1 h,f2:=fun h => hJ.out.f2 h,f3:=fun h h2 => hJ.out.f3 h h2,f4:=fun h => hJ.out.f4 h,f5:=fun h => hJ.out.f5 h,f6:=fun h => hJ.out.f6 h,f7:=fun _ => rfl,f8:=fun h h2 => hJ.out.f8 h h2,f9:=fun h => hJ.out.f9 h,f10:=fun h => hJ.out.f10 h,f12:=fun h => hJ.out.f12 h }
     | 8,_ =>
      obtain rfl:=Option.some.inj ho
      intro a9 dn vals wx hJ0 hdi hde hdj hev hsl hun
      have hJ:=Lib.hid hJ0
      rw [if_pos (wanted_none rfl)]
      have f68:(a9.tmps[68]?).getD undef=.int .i64 G:=(hsl 7 68 (hde 0 _ rfl rfl) rfl).trans (hJ.out.f7 (hde 0 _ rfl rfl))
      have HLT:Hid (w3.heap.size<wx.heap.size):=HSZ.out wx hJ.out.below
      clear hde hdj hev hsl hun hJ0 hdi
      go_simp
      exact { below:=(hJ.out.below.trans (((below_alloc _ _)).mono (HNX.out wx hJ.out.below))),res:=fun h h2 => (hJ.out.res h h2).later (below_alloc _ _) HLT.out,s0:=fun h => (hJ.out.s0 h).later (below_alloc _ _),s1:=fun h h2 => (hJ.out.s1 h h2).later (below_alloc _ _),s2:=fun h h2 => (hJ.out.s2 h h2).later (below_alloc _ _),s3:=fun h h2 => (hJ.out.s3 h h2).later (below_alloc _ _),s4:=fun h => (hJ.out.s4 h).later (below_alloc _ _),f0:=fun h => hJ.out.f0 h,f1:=fun h => hJ.out.f1 h,f2:=fun h => hJ.out.f2 h,f3:=fun h h2 => let ⟨q,q1,q2⟩:=hJ.out.f3 h h2; ⟨q,q1,cell_later q2 (below_alloc _ _)⟩,f4:=fun h => hJ.out.f4 h,f5:=fun h => hJ.out.f5 h,f6:=fun h => hJ.out.f6 h,f7:=fun h => hJ.out.f7 h,f8:=fun _ _ => ⟨wx.heap.size,rfl,by rw [World.cell?_alloc_at _ _ _ _ rfl]; rfl,HV1.out wx hJ.out.below⟩,f9:=fun h => hJ.out.f9 h,f10:=fun h => hJ.out.f10 h,f12:=fun h => hJ.out.f12 h }
     | 9,_ =>
      obtain rfl:=Option.some.inj ho
      intro a9 dn vals wx hJ0 hdi hde hdj hev hsl hun
      have hJ:=Lib.hid hJ0
      rw [if_pos (wanted_none rfl)]
      have f67:(a9.tmps[67]?).getD undef=v2:=(hsl 6 67 (hde 0 _ rfl rfl) rfl).trans (hJ.out.f6 (hde 0 _ rfl rfl))
      obtain ⟨b8,e8,q8,k8⟩:=hJ.out.f8 (hde 1 _ rfl rfl) hdi
      have f69:(a9.tmps[69]?).getD undef=.slice (some ⟨b8,0,none⟩) 1 1:=(hsl 8 69 (hde 1 _ rfl rfl) rfl).trans e8
      have d4:Hid (dn 4=true):=hde 2 _ rfl rfl
      have n11:Hid (dn 11=false):=hdj 11 2 _ _ rfl rfl rfl rfl
      have n13:Hid (dn 13=false):=hdj 13 1 _ _ rfl rfl rfl rfl
      have hS:=hJ.out.s1 d4.out hdi
      obtain ⟨g9,cap9,w9,hrun,hown,hgr,hat,hlt9⟩:=run_append_lies (P:=Tryz.prog) (w:=wx) 36 36 w3.heap.size 3 i0 (.int .i64 0) 1 8 Tryz.underlying36 hi0 hz0 hz1 hz2 rfl (by decide) v2 hi.length _ hS.own2 ⟨b8,0,none⟩ 1 1 [.int .i64 G] rfl (fun j u hj => by
       match j,hj with
       | 0,hj => simp at hj; subst hj; exact q8) (fun u hu => by simp at hu; subst hu; rfl) (by decide) (by unfold maxLen; omega) (by omega) (HNX.out wx hJ.out.below) _ rfl
      have hS2:=hS.app2 (by decide) hown hgr hat
      have HB2:Hid (Below w3.heap.size Wd w9):=hJ.out.below.grown hgr (HNX.out wx hJ.out.below) (fun k e => (hS.own2.lt k e).1)
      have HRUN:=Lib.hid hrun
      have HS2:=Lib.hid hS2
      clear hde hdj hev hsl hun hJ0 hdi
      clear hrun hown hgr hat hlt9 hS hS2 q8 e8 k8
      refine does_append2 (s:=.tmp 67) (x:=.tmp 69) (T:=36) rfl (by rw [eval_tmp]; exact f67) (by rw [eval_tmp]; exact f69) HRUN.out ?_
      exact { below:=HB2.out,res:=fun _ _ => HS2.out.res,s0:=fun h => Bool.noConfusion ((show dn 4=false from h).symm.trans d4.out),s1:=fun _ h => Bool.noConfusion h,s2:=fun _ _ => HS2.out,s3:=fun h _ => Bool.noConfusion ((show dn 11=true from h).symm.trans n11.out),s4:=fun h => Bool.noConfusion ((show dn 13=true from h).symm.trans n13.out),f0:=fun h => hJ.out.f0 h,f1:=fun h => hJ.out.f1 h,f2:=fun h => hJ.out.f2 h,f3:=fun _ h => Bool.noConfusion ((show dn 4=false from h).symm.trans d4.out),f4:=fun h => hJ.out.f4 h,f5:=fun h => hJ.out.f5 h,f6:=fun h => hJ.out.f6 h,f7:=fun h => hJ.out.f7 h,f8:=fun _ h => Bool.noConfusion h,f9:=fun _ => ⟨_,_,rfl⟩,f10:=fun h => hJ.out.f10 h,f12:=fun h => hJ.out.f12 h }
     | 10,_ =>
      obtain rfl:=Option.some.inj ho
      intro a9 dn vals wx hJ0 hdi hde hdj hev hsl hun
      have hJ:=Lib.hid hJ0
      rw [if_pos (wanted_none rfl)]
      have f6:(a9.tmps[6]?).getD undef=.pointer (some ⟨w3.heap.size,0,none⟩):=hev 6 (by kernel_rfl)
      clear hde hdj hev hsl hun hJ0 hdi
      go_simp
      exact { below:=hJ.out.below,res:=fun h h2 => hJ.out.res h h2,s0:=fun h => hJ.out.s0 h,s1:=fun h h2 => hJ.out.s1 h h2,s2:=fun h h2 => hJ.out.s2 h h2,s3:=fun h h2 => hJ.out.s3 h h2,s4:=fun h => hJ.out.s4 h,f0:=fun h => hJ.out.f0 h,f1:=fun h => hJ.out.f1 h,f2:=fun h => hJ.out.f2 h,f3:=fun h h2 => hJ.out.f3 h h2,f4:=fun h => hJ.out.f4 h,f5:=fun h => hJ.out.f5 h,f6:=fun h => hJ.out.f6 h,f7:=fun h => hJ.out.f7 h,f8:=fun h h2 => hJ.out.f8 h h2,f9:=fun h => hJ.out.f9 h,f10:=fun _ => rfl,f12:=fun h => hJ.out.f12 h }
     | 11,_ =>
      obtain rfl:=Option.some.inj ho
      intro a9 dn vals wx hJ0 hdi hde hdj hev hsl hun
      have hJ:=Lib.hid hJ0
      rw [if_pos (wanted_none rfl)]
      have f71:(a9.tmps[71]?).getD undef=.pointer (some ⟨w3.heap.size,0,none⟩):=(hsl 10 71 (hde 0 _ rfl rfl) rfl).trans (hJ.out.f10 (hde 0 _ rfl rfl))
      obtain ⟨b4,cp4,e4⟩:=hJ.out.f4 (hde 1 _ rfl rfl)
      have f65:(a9.tmps[65]?).getD undef=.slice (some ⟨b4,0,none⟩) (lo.length+1) cp4:=(hsl 4 65 (hde 1 _ rfl rfl) rfl).trans e4
      have d4:Hid (dn 4=true):=hde 1 _ rfl rfl
      have d9:Hid (dn 9=true):=hde 2 _ rfl rfl
      have n13:Hid (dn 13=false):=hdj 13 2 _ _ rfl rfl rfl rfl
      have hS:=hJ.out.s2 d9.out hdi
      obtain ⟨k0,k1,k2,k3⟩:=hS.res
      have hS2:=hS.st1 (by decide)
      rw [e4] at hS2
      have HS2:=Lib.hid hS2
      have E4:=Lib.hid e4
      have HB2:Hid (Below w3.heap.size Wd (wx.setCell ⟨w3.heap.size,0,none⟩ (.slice (some ⟨b4,0,none⟩) (lo.length+1) cp4))):=hJ.out.below.setCell (p:=⟨w3.heap.size,0,none⟩) HGN.out _
      clear hde hdj hev hsl hun hJ0 hdi
      clear hS hS2 e4
      go_simp
      exact { below:=HB2.out,res:=fun h _ => Bool.noConfusion h,s0:=fun h => Bool.noConfusion ((show dn 4=false from h).symm.trans d4.out),s1:=fun _ h => Bool.noConfusion ((show dn 9=false from h).symm.trans d9.out),s2:=fun _ h => Bool.noConfusion h,s3:=fun _ _ => by show BoxA _ _ _ (vals 4) _ (vals 4) (vals 9) _ _; rw [E4.out]; exact HS2.out,s4:=fun h => Bool.noConfusion ((show dn 13=true from h).symm.trans n13.out),f0:=fun h => hJ.out.f0 h,f1:=fun h => hJ.out.f1 h,f2:=fun h => hJ.out.f2 h,f3:=fun _ h => Bool.noConfusion ((show dn 4=false from h).symm.trans d4.out),f4:=fun h => hJ.out.f4 h,f5:=fun h => hJ.out.f5 h,f6:=fun h => hJ.out.f6 h,f7:=fun h => hJ.out.f7 h,f8:=fun _ h => Bool.noConfusion ((show dn 9=false from h).symm.trans d9.out),f9:=fun h => hJ.out.f9 h,f10:=fun h => hJ.out.f10 h,f12:=fun h => hJ.out.f12 h }
     | 12,_ =>
      obtain rfl:=Option.some.inj ho
      intro a9 dn vals wx hJ0 hdi hde hdj hev hsl hun
      have hJ:=Lib.hid hJ0
      rw [if_pos (wanted_none rfl)]
      have f6:(a9.tmps[6]?).getD undef=.pointer (some ⟨w3.heap.size,0,none⟩):=hev 6 (by kernel_rfl)
      clear hde hdj hev hsl hun hJ0 hdi
      go_simp
      exact { below:=hJ.out.below,res:=fun h h2 => hJ.out.res h h2,s0:=fun h => hJ.out.s0 h,s1:=fun h h2 => hJ.out.s1 h h2,s2:=fun h h2 => hJ.out.s2 h h2,s3:=fun h h2 => hJ.out.s3 h h2,s4:=fun h => hJ.out.s4 h,f0:=fun h => hJ.out.f0 h,f1:=fun h => hJ.out.f1 h,f2:=fun h => hJ.out.f2 h,f3:=fun h h2 => hJ.out.f3 h h2,f4:=fun h => hJ.out.f4 h,f5:=fun h => hJ.out.f5 h,f6:=fun h => hJ.out.f6 h,f7:=fun h => hJ.out.f7 h,f8:=fun h h2 => hJ.out.f8 h h2,f9:=fun h => hJ.out.f9 h,f10:=fun h => hJ.out.f10 h,f12:=fun _ => rfl }
     | 13,_ =>
      obtain rfl:=Option.some.inj ho
      intro a9 dn vals wx hJ0 hdi hde hdj hev hsl hun
      have hJ:=Lib.hid hJ0
      rw [if_pos (wanted_none rfl)]
      have f72:(a9.tmps[72]?).getD undef=.pointer (some ⟨w3.heap.size,1,none⟩):=(hsl 12 72 (hde 0 _ rfl rfl) rfl).trans (hJ.out.f12 (hde 0 _ rfl rfl))
      obtain ⟨b9,cp9,e9⟩:=hJ.out.f9 (hde 1 _ rfl rfl)
      have f70:(a9.tmps[70]?).getD undef=.slice (some ⟨b9,0,none⟩) (hi.length+1) cp9:=(hsl 9 70 (hde 1 _ rfl rfl) rfl).trans e9
      have d4:Hid (dn 4=true):=hde 7 _ rfl rfl
      have d9:Hid (dn 9=true):=hde 1 _ rfl rfl
      have d11:Hid (dn 11=true):=hde 2 _ rfl rfl
      have hS:=hJ.out.s3 d11.out hdi
      obtain ⟨k0,k1,k2,k3⟩:=hS.res
      have hS2:=hS.st2 (by decide)
      rw [e9] at hS2
      have HS2:=Lib.hid hS2
      have E9:=Lib.hid e9
      have HB2:Hid (Below w3.heap.size Wd (wx.setCell ⟨w3.heap.size,1,none⟩ (.slice (some ⟨b9,0,none⟩) (hi.length+1) cp9))):=hJ.out.below.setCell (p:=⟨w3.heap.size,1,none⟩) HGN.out _
      obtain ⟨b4,cp4,e4⟩:=hJ.out.f4 d4.out
      rw [e4] at k0
      have E4:=Lib.hid e4
      clear hde hdj hev hsl hun hJ0 hdi
      clear hS hS2 e9 e4
      go_simp
      exact { below:=HB2.out,res:=fun _ h => Bool.noConfusion h,s0:=fun h => Bool.noConfusion ((show dn 4=false from h).symm.trans d4.out),s1:=fun _ h => Bool.noConfusion ((show dn 9=false from h).symm.trans d9.out),s2:=fun _ h => Bool.noConfusion ((show dn 11=false from h).symm.trans d11.out),s3:=fun _ h => Bool.noConfusion h,s4:=fun _ => by show BoxA _ _ _ (vals 4) (vals 9) (vals 4) (vals 9) _ _; rw [E9.out]; exact HS2.out,f0:=fun h => hJ.out.f0 h,f1:=fun h => hJ.out.f1 h,f2:=fun h => hJ.out.f2 h,f3:=fun _ h => Bool.noConfusion ((show dn 4=false from h).symm.trans d4.out),f4:=fun h => hJ.out.f4 h,f5:=fun h => hJ.out.f5 h,f6:=fun h => hJ.out.f6 h,f7:=fun h => hJ.out.f7 h,f8:=fun _ h => Bool.noConfusion ((show dn 9=false from h).symm.trans d9.out),f9:=fun h => hJ.out.f9 h,f10:=fun h => hJ.out.f10 h,f12:=fun h => hJ.out.f12 h }
    ·intro dn vals wx hall hJ
     have hS:=hJ.s4 (hall 13 (by decide))
     have g0:=hJ.f0 (hall 0 (by decide))
     have g1:=hJ.f1 (hall 1 (by decide))
     have g2:=hJ.f2 (hall 2 (by decide))
     have g5:=hJ.f5 (hall 5 (by decide))
     have g6:=hJ.f6 (hall 6 (by decide))
     have g7:=hJ.f7 (hall 7 (by decide))
     have g10:=hJ.f10 (hall 10 (by decide))
     have g12:=hJ.f12 (hall 12 (by decide))
     obtain ⟨b4,cp4,g4⟩:=hJ.f4 (hall 4 (by decide))
     obtain ⟨b9,cp9,g9⟩:=hJ.f9 (hall 9 (by decide))
     rw [g4,g9] at hS
     have HS9:=Lib.hid hS.to
     have HB9:=Lib.hid hJ.below
     simp only [putDs,Act.put,Nat.zero_add,Nat.reduceAdd,List.setIfInBounds_toArray,List.set_cons_succ,List.set_cons_zero,g0,g1,g2,g4,g5,g6,g7,g9,g10,g12]
     clear g0 g1 g2 g4 g5 g6 g7 g9 g10 g12 hS hJ hall
     have HB5:=Lib.hid (HBC.out.trans HB9.out)
     go_wp2
     refine ⟨⟨i+1,_,_,_,_,HI1.out,by go_num,?_,HE.out,HS9.out,HB5.out⟩,HI2.out⟩
     exact ⟨by rw [List.length_append,HLN.out.1]; rfl,by rw [List.length_append,HLN.out.2]; rfl⟩
  ·obtain rfl:i=al.length:=by omega
   have hn:=HN.out
   rw [List.drop_length,interL] at hn
   ·have HWS:Hid (R9=some (lo,hi)):=hn.symm
    obtain ⟨⟨f0,f1,f2,f3⟩,ow1,ow2,hap,htg⟩:=HBO.out
    obtain ⟨-,-,-,-,⟨r0,r1,r2,r3⟩⟩:=HBX3.out
    have h1:=RowZ.append_owns ow1 rfl
    have h2:=RowZ.append_owns ow2 rfl
    have H1:=Lib.hid h1
    have H2:=Lib.hid h2
    obtain ⟨q1,k1,e1,-⟩:=h1.ints.shape
    obtain ⟨q2,k2,e2,-⟩:=h2.ints.shape
    have hlt2:w.heap.size+2<wr.heap.size:=World.block_lt_of_cell? _ _ r0
    have hltg:w.heap.size+2<w3.heap.size:=by have:=HS3.out; omega
    have HNG:Hid (∀ (v:Value) (n:Nat) (xs:List Value),wr.ownsRow w3.heap.size 3 1 v n xs→∀ b,v.ownBlock=some b→b ≠ w.heap.size+2):=fun v n xs h b hb => by
     have:=(h.lt b hb).1
     omega
    have HK1:=Lib.hid (HNG.out v1 _ _ ow1)
    have HK2:=Lib.hid (HNG.out v2 _ _ ow2)
    clear hn ow1 ow2 hap htg h1 h2
    subst e1 e2
    go_wp2
    refine bodyPost_ret (by simp [results,Tryz.results21,go_sem,r0,r1]; try rfl) rfl ?_
    rw [HWS.out]
    have hk:∀ (x:Value) (l:List Int) (u u':Value),IntsO wr x l→(∀ b,x.ownBlock=some b→b ≠ w.heap.size+2)→IntsO ((wr.setCell ⟨w.heap.size+2,0,none⟩ u).setCell ⟨w.heap.size+2,1,none⟩ u') x l:=fun x l u u' h hne =>
     (h.grown (grown_setG wr (w.heap.size+2) 0 u) (fun r er e2 => by cases er; exact hne _ e2 rfl)).grown (grown_setG _ (w.heap.size+2) 1 u') (fun r er e2 => by cases er; exact hne _ e2 rfl)
    exact ⟨_,_,rfl,hk _ _ _ _ H1.out HK1.out,hk _ _ _ _ H2.out HK2.out,(HBW.out.setCell (by simp <;> omega) _).setCell (by simp <;> omega) _⟩
   ·intro a1 a2 a3 a4 a5 a6 a7 a8 h9
    cases h9
theorem inter_any (va1 va2 vb1 vb2:Value) (al ah bl bh:List Int) (w:World) (h1:Ints w va1 al) (h2:Ints w va2 ah) (h3:Ints w vb1 bl) (h4:Ints w vb2 bh) :
  Calls Tryz.prog 21 #[.agg #[va1,va2],.agg #[vb1,vb2]] w (RetBxB (interB al ah bl bh) w):=by
 unfold interB
 by_cases h:formedB al ah=true∧formedB bl bh=true∧al.length=bl.length
 ·rw [if_pos h]
  exact inter_core va1 va2 vb1 vb2 al ah bl bh w h1 h2 h3 h4 h.1 h.2.1 h.2.2
 ·rw [if_neg h]
  refine inter_bad va1 va2 vb1 vb2 al ah bl bh w h1 h2 h3 h4 ?_
  cases hf:formedB al ah with
  | false => exact .inl rfl
  | true =>
   cases hg:formedB bl bh with
   | false => exact .inr (.inl rfl)
   | true => exact .inr (.inr fun e => h ⟨hf,hg,e⟩)
end Go.Proofs.YtdbnebhehiiakaaGreatDoor
namespace Go.Proofs.YtdbnebhehiiakaaGreatDoor
open Go.RowKit
abbrev kn1:List DimT:=[⟨[120],-2,5⟩]
abbrev knFull:LayT:=⟨[64,64],[0,0],3,8,2,3⟩
abbrev knWide:LayT:=⟨[64,64],[1,0],3,8,2,3⟩
abbrev knLong:LayT:=⟨[65,1],[0,0],3,8,2,3⟩
abbrev knFar:LayT:=⟨[4,3],[5,0],1,0,1,1⟩
abbrev knNone:LayT:=⟨[4,3],[1,0],1,3,1,1⟩
abbrev knH:LayT:=⟨[],[],2,0,0,0⟩
abbrev knT:LayT:=⟨[],[],3,2,0,0⟩
theorem kn_chunkE:chunkE exD exL [6,0]=3:=by kernel_rfl
theorem kn_core:widE exD exL [2,0] false=3:=by kernel_rfl
theorem kn_vol1:volE kn1=0:=by kernel_rfl
theorem kn_vol2:volQ kn1=8:=by kernel_rfl
theorem kn_vol3:volE exD=3:=by kernel_rfl
theorem kn_atE:atE kn1 7=0:=by kernel_rfl
theorem kn_atQ:atQ kn1 7=[5]:=by kernel_rfl
theorem kn_full:layoutE exD knFull=0:=by kernel_rfl
theorem kn_wide:layoutE exD knWide=9:=by kernel_rfl
theorem kn_long:layoutE exD knLong=3:=by kernel_rfl
theorem kn_far:layoutE exD knFar=3:=by kernel_rfl
theorem kn_none:layoutE exD knNone=2:=by kernel_rfl
theorem kn_int1:interB [0] [1073741825] [-5] [3]=some ([0],[3]):=by kernel_rfl
theorem kn_int2:interB [4] [1073741825] [-5] [3]=none:=by kernel_rfl
def knS1:List UInt8:=[100,105,109,32,120,32,48,58,42,10,97,116,116,114,32,118,32,116,101,120,116,10,51,58,32,39,105,116,39,39,115,44,32,34,115,111,34,39,10]
def knS2:List UInt8:=[100,105,109,32,120,32,48,58,51,10,97,116,116,114,32,118,32,105,110,116,10,51,58,32,48,53,10]
theorem kn_read2:readA knS2=none:=by kernel_rfl
theorem kn_read0:(readA knS1).map (fun x => x.cells.map fun c => c.vals.map fun y => y.str)=some [[[105,116,39,115,44,32,34,115,111,34]]]:=by kernel_rfl
theorem kn_read1:∃ x c y,readA knS1=some x∧x.cells=[c]∧c.vals=[y]∧y.str=[105,116,39,115,44,32,34,115,111,34]:=by
 have h:=kn_read0
 cases hx:readA knS1 with
 | none =>
  rw [hx] at h
  cases h
 | some x =>
  rw [hx] at h
  have h1:(x.cells.map fun c => c.vals.map fun y => y.str)=[[[105,116,39,115,44,32,34,115,111,34]]]:=Option.some.inj h
  cases hc:x.cells with
  | nil =>
   rw [hc] at h1
   cases h1
  | cons c r =>
   rw [hc] at h1
   have h2:(c.vals.map fun y => y.str)=[[105,116,39,115,44,32,34,115,111,34]]∧_:=List.cons.inj h1
   cases r with
   | cons a b => cases h2.2
   | nil =>
    cases hv:c.vals with
    | nil =>
     rw [hv] at h2
     cases h2.1
    | cons y t =>
     rw [hv] at h2
     have h3:=List.cons.inj h2.1
     cases t with
     | cons a b => cases h3.2
     | nil => exact ⟨x,c,y,rfl,hc,hv,h3.1⟩
end Go.Proofs.YtdbnebhehiiakaaGreatDoor
namespace Go.Proofs.YtdbnebhehiiakaaGreatDoor
open Go.RowKit
def knHr:List (List Int):=[[0,0],[0,1],[1,1],[1,0]]
def knTr:List (List Int):=[[0,0],[0,1],[1,0],[1,1],[0,2],[1,2],[2,0],[2,1],[2,2]]
theorem knH_sorted:SortK (fun x => keyF 2 0 (bitsL 0 [0,0] [1,1]) (subL x [0,0])) knHr:=by
 unfold SortK leK
 decide +kernel
theorem knH_perm:knHr.Perm (ptsL [0,0] [1,1]):=by decide +kernel
theorem knH_apart:∀ x ∈ ptsL [0,0] [1,1],∀ y ∈ ptsL [0,0] [1,1],keyF 2 0 (bitsL 0 [0,0] [1,1]) (subL x [0,0])=keyF 2 0 (bitsL 0 [0,0] [1,1]) (subL y [0,0])→x=y:=by decide +kernel
theorem knH_seq (r:List (List Int)) (h:SortedBy knH [0,0] [1,1] r):r=knHr :=
 sortK_unique (h.1.trans knH_perm.symm) h.2 knH_sorted fun x hx y hy => knH_apart x (h.1.mem_iff.1 hx) y (h.1.mem_iff.1 hy)
theorem knT_sorted:SortK (fun x => keyF 3 2 (bitsL 0 [0,0] [2,2]) (subL x [0,0])) knTr:=by
 unfold SortK leK
 decide +kernel
theorem knT_perm:knTr.Perm (ptsL [0,0] [2,2]):=by decide +kernel
theorem knT_apart:∀ x ∈ ptsL [0,0] [2,2],∀ y ∈ ptsL [0,0] [2,2],keyF 3 2 (bitsL 0 [0,0] [2,2]) (subL x [0,0])=keyF 3 2 (bitsL 0 [0,0] [2,2]) (subL y [0,0])→x=y:=by decide +kernel
theorem knT_seq (r:List (List Int)) (h:SortedBy knT [0,0] [2,2] r):r=knTr :=
 sortK_unique (h.1.trans knT_perm.symm) h.2 knT_sorted fun x hx y hy => knT_apart x (h.1.mem_iff.1 hx) y (h.1.mem_iff.1 hy)
theorem knH_any (vs vo vlo vhi:Value) (w:World) (hl:LayR w vs vo knH) (hlo:Ints w vlo [0,0]) (hhi:Ints w vhi [1,1]) :
  Calls Tryz.prog 19 #[layV vs vo knH,.agg #[vlo,vhi]] w (fun e w' => ∃ v,e=.returned (.tuple #[v,.int .i64 0])∧RowsI w' v knHr∧Below w.heap.size w w'):=by
 refine (seq_small vs vo vlo vhi knH [0,0] [1,1] w hl hlo hhi (by decide) (by kernel_rfl) (by kernel_rfl) (by kernel_rfl) (ofV_fn _ _ _ _ (by decide) (by decide) (by decide) (by decide)) (by decide)).mono ?_
 rintro e w' ⟨v,l,rfl,h1,h2,h3⟩
 rw [knH_seq l h1] at h2
 exact ⟨v,rfl,h2,h3⟩
theorem knT_fn (b:Nat):FnOf (ofV 3 b 2) (keyF 3 2 b) 2:=by
 have e1:keyF 3 2 b=fun y => y.map (· / 2) ++ y:=by
  funext y
  unfold keyF
  rw [if_neg (by decide),if_pos rfl]
 have e2:ofV 3 b 2=.func (.func 106) #[.agg #[.int .i64 (b:Int),.int .i64 2]] #[]:=by
  unfold ofV
  rw [if_neg (by decide),if_pos rfl]
 rw [e1,e2]
 exact tiled_fn b 2 2 (by decide) (by decide) (by decide)
theorem knT_any (vs vo vlo vhi:Value) (w:World) (hl:LayR w vs vo knT) (hlo:Ints w vlo [0,0]) (hhi:Ints w vhi [2,2]) :
  Calls Tryz.prog 19 #[layV vs vo knT,.agg #[vlo,vhi]] w (fun e w' => ∃ v,e=.returned (.tuple #[v,.int .i64 0])∧RowsI w' v knTr∧Below w.heap.size w w'):=by
 refine (seq_small vs vo vlo vhi knT [0,0] [2,2] w hl hlo hhi (by decide) (by kernel_rfl) (by kernel_rfl) (by kernel_rfl) (knT_fn _) (by decide)).mono ?_
 rintro e w' ⟨v,l,rfl,h1,h2,h3⟩
 rw [knT_seq l h1] at h2
 exact ⟨v,rfl,h2,h3⟩
end Go.Proofs.YtdbnebhehiiakaaGreatDoor
namespace Go.Proofs.YtdbnebhehiiakaaGreatDoor
open Go.RowKit
def seqL:Code→Code
 | .seq a _ => a
 | c => c
def seqR:Code→Code
 | .seq _ b => b
 | c => c
noncomputable def tail24:Code:=(Tryz.f4.body.bind (fromReg 24)).getD .skip
theorem kn_one {w w':World} {g:Nat} {x:Int} (hg:g=w.heap.size) (hb:Below (w.alloc (.cells #[.int .i64 x] 3)).heap.size (w.alloc (.cells #[.int .i64 x] 3)) w'):Ints w' (.slice (some ⟨g,0,none⟩) 1 1) [x]:=by
 subst hg
 refine Ls.later IntR.lasts ?_ hb
 refine ⟨_,_,rfl,Nat.le_refl _,by decide,fun _ => ⟨_,_,rfl,fun i z h => ?_⟩⟩
 match i,h with
 | 0,h => cases h; show World.cell? _ _=_; rw [World.cell?_alloc_at _ _ _ _ rfl]; rfl
 | n+1,h => simp at h
theorem kn_two {w w':World} {g:Nat} {x y:Int} (hg:g=w.heap.size) (hb:Below (w.alloc (.cells #[.int .i64 x,.int .i64 y] 3)).heap.size (w.alloc (.cells #[.int .i64 x,.int .i64 y] 3)) w'):Ints w' (.slice (some ⟨g,0,none⟩) 2 2) [x,y]:=by
 subst hg
 exact (ls_new2 w x y).later IntR.lasts hb
theorem kn_b2 (w:World) (o1 o2:Obj):Below w.heap.size w ((w.alloc o1).alloc o2):=below_keep (below_alloc _ _) (below_alloc _ _)
theorem kn_b3 (w:World) (o1 o2 o3:Obj):Below w.heap.size w (((w.alloc o1).alloc o2).alloc o3):=below_keep (kn_b2 _ _ _) (below_alloc _ _)
theorem kn_b4 (w:World) (o1 o2 o3 o4:Obj):Below w.heap.size w ((((w.alloc o1).alloc o2).alloc o3).alloc o4):=below_keep (kn_b3 _ _ _ _) (below_alloc _ _)
theorem kn_eq (l:List Int) (v u:Value) (w:World) (h1:Ints w v l) (h2:Ints w u l):Calls Tryz.prog 17 #[v,u] w (RetV' (.bool true) w) :=
 (lequal_any l l v u w h1 h2).mono fun e w' h => by
  obtain ⟨he,hb⟩:=h.below
  rw [decide_eq_true rfl] at he
  exact ⟨he,hb⟩
theorem kn_inter_yes (v1 v2 u1 u2:Value) (w:World) (h1:Ints w v1 [0]) (h2:Ints w v2 [1073741825]) (h3:Ints w u1 [-5]) (h4:Ints w u2 [3]) :
  Calls Tryz.prog 21 #[.agg #[v1,v2],.agg #[u1,u2]] w fun e w' => ∃ a c a' c',e=.returned (.tuple #[.agg #[.slice a 1 c,.slice a' 1 c'],.bool true])∧Ints w' (.slice a 1 c) [0]∧Ints w' (.slice a' 1 c') [3]∧Below w.heap.size w w' :=
 (inter_any v1 v2 u1 u2 [0] [1073741825] [-5] [3] w h1 h2 h3 h4).mono fun e w' ⟨y1,y2,he,k1,k2,hb⟩ => by
  rw [kn_int1] at he k1 k2
  obtain ⟨a,c,e1,-⟩:=k1.ints.shape
  obtain ⟨a',c',e2,-⟩:=k2.ints.shape
  subst e1 e2
  exact ⟨a,c,a',c',he,k1.ints,k2.ints,hb⟩
theorem kn_inter_no (v1 v2 u1 u2:Value) (w:World) (h1:Ints w v1 [4]) (h2:Ints w v2 [1073741825]) (h3:Ints w u1 [-5]) (h4:Ints w u2 [3]) :
  Calls Tryz.prog 21 #[.agg #[v1,v2],.agg #[u1,u2]] w fun e w' => ∃ a c a' c',e=.returned (.tuple #[.agg #[.slice a 0 c,.slice a' 0 c'],.bool false])∧Below w.heap.size w w' :=
 (inter_any v1 v2 u1 u2 [4] [1073741825] [-5] [3] w h1 h2 h3 h4).mono fun e w' ⟨y1,y2,he,k1,k2,hb⟩ => by
  rw [kn_int2] at he k1 k2
  obtain ⟨a,c,e1,-⟩:=k1.ints.shape
  obtain ⟨a',c',e2,-⟩:=k2.ints.shape
  subst e1 e2
  exact ⟨a,c,a',c',he,hb⟩
theorem kn_parse1 (w:World) (hg:Gl w):Calls Tryz.prog 9 #[.string ⟨#[100,105,109,32,120,32,48,58,42,10,97,116,116,114,32,118,32,116,101,120,116,10,51,58,32,39,105,116,39,39,115,44,32,34,115,111,34,39,10]⟩] w fun e w' => ∃ a1 n1 c1 a2 n2 c2 gc oc kc gv ov kv,e=.returned (.tuple #[.agg #[.slice a1 n1 c1,.slice a2 n2 c2,.slice (some ⟨gc,oc,none⟩) 1 kc],.int .i64 0]) ∧
   w'.cell? ⟨gc,oc+1,none⟩=some (.slice (some ⟨gv,ov,none⟩) 1 kv)∧w'.cell? ⟨gv,ov+3,none⟩=some (.string ⟨#[105,116,39,115,44,32,34,115,111,34]⟩)∧Below w.heap.size w w':=by
 refine (parseT_any knS1 w hg (by decide)).mono ?_
 obtain ⟨x,c,y,hx,hc,hy,hs⟩:=kn_read1
 rw [hx]
 rintro e w' (⟨x',n,u1,u2,u3,ex,he,ho,hb⟩ | ⟨ex,-⟩)
 ·injection ex with ex
  subst ex
  have ha:=ho.arr
  obtain ⟨a1,c1,e1,-⟩:=ha.dims.shape
  obtain ⟨a2,c2,e2,-⟩:=ha.attrs.shape
  obtain ⟨a3,c3,e3,-⟩:=ha.cells.shape
  subst e1 e2 e3
  obtain ⟨gc,oc,c',ea,hcx,hr⟩:=ha.cells.at 0 (by rw [hc]; exact Nat.zero_lt_one)
  rw [hc] at hcx
  have hcx':=Option.some.inj hcx
  subst hcx' ea
  obtain ⟨w1,w2,hw1,hw2,hw3,hw4⟩:=hr.ex
  obtain ⟨a4,c4,e4,-⟩:=hw4.shape
  subst e4
  obtain ⟨gv,ov,y',ev,hyx,hv⟩:=hw4.at 0 (by rw [hy]; exact Nat.zero_lt_one)
  rw [hy] at hyx
  have hyx':=Option.some.inj hyx
  subst hyx' ev
  have h4:=hv.str
  rw [hs] at h4
  have hl1:x.cells.length=1:=by rw [hc]; rfl
  have hl2:c.vals.length=1:=by rw [hy]; rfl
  rw [hl1] at he
  rw [hl2] at hw2
  rw [Nat.zero_mul,Nat.add_zero] at hw2 h4
  exact ⟨_,_,_,_,_,_,gc,oc,c3,gv,ov,c4,he,hw2,h4,hb⟩
 ·cases ex
theorem kn_parse2 (w:World) (hg:Gl w):Calls Tryz.prog 9 #[.string ⟨#[100,105,109,32,120,32,48,58,51,10,97,116,116,114,32,118,32,105,110,116,10,51,58,32,48,53,10]⟩] w fun e w' => e=.returned (.tuple #[.agg #[.slice none 0 0,.slice none 0 0,.slice none 0 0],.int .i64 7])∧Below w.heap.size w w':=by
 refine (parseT_any knS2 w hg (by decide)).mono ?_
 rw [kn_read2]
 rintro e w' (⟨x',n,u1,u2,u3,ex,he,ho,hb⟩ | ⟨-,he,hb⟩)
 ·cases ex
 ·exact ⟨he,hb⟩
set_option maxHeartbeats 16000000 in
set_option maxRecDepth 100000 in
theorem knTail24 (w W:World) (hg:Gl W) (hb0:Below w.heap.size w W) (v0 v1 v2 v3 v4 v5 v6 v7 v8 v9 v10 v11 v12 v13 v14 v15 v16 v17 v18 v19 v20 v21 v22 v23 v24 v25 v26 v27 v28 v29 v30 v31 v32 v33 v34 v35 v36 v37 v38 v39 v40 v41 v42 v43 v44 v45 v46 v47 v48 v49 v50 v51 v52 v53 v54 v55 v56 v57 v58 v59 v60 v61 v62 v63 v64 v65 v66 v67 v68 v69 v70 v71 v72 v73 v74 v75 v76 v77 v78 v79 v80 v81 v82 v83 v84 v85 v86 v87 v88 v89 v90 v91 v92 v93 v94 v95 v96 v97 v98 v99 v100 v101 v102 v103 v104 v105 v106 v107 v108 v109 v110 v111 v112 v113 v114 v115 v116 v117 v118 v119 v120 v121 v122 v123 v124 v125 v126 v127 v128 v129 v130 v131 v132 v133 v134 v135 v136 v137 v138 v139 v140 v141 v142 v143 v144 v145 v146 v147 v148 v149 v150 v151 v152 v153 v154 v155 v156 v157 v158 v159 v160 v161 v162 v163 v164 v165 v166 v167 v168 v169 v170 v171 v172 v173 v174 v175 v176 v177 v178 v179 v180 v181 v182 v183 v184 v185 v186 v187 v188 v189 v190 v191 v192 v193 v194 v195 v196 v197 v198 v199 v200 v201 v202 v203 v204 v205 v206 v207 v208 v209 v210 v211 v212 v213 v214 v215 v216 v217 v218 v219 v220 v221 v222 v223 v224 v225 v226 v227 v228 v229 v230 v231 v232 v233 v234 v235 v236 v237 v238 v239 v240 v241 v242 v243 v244 v245 v246 v247 v248 v249 v250 v251 v252:Value) (K:Act→World→Prop):(∀ a w1,Code.wp Tryz.prog (seqR tail24) (bodyPost Tryz.prog Tryz.f4 (RetV' (.bool true) w)) a w1→K a w1) →
  Code.wp Tryz.prog (seqL tail24) (Exit.then K (bodyPost Tryz.prog Tryz.f4 (RetV' (.bool true) w))) ⟨#[v0,v1,v2,v3,v4,v5,v6,v7,v8,v9,v10,v11,v12,v13,v14,v15,v16,v17,v18,v19,v20,v21,v22,v23,v24,v25,v26,v27,v28,v29,v30,v31,v32,v33,v34,v35,v36,v37,v38,v39,v40,v41,v42,v43,v44,v45,v46,v47,v48,v49,v50,v51,v52,v53,v54,v55,v56,v57,v58,v59,v60,v61,v62,v63,v64,v65,v66,v67,v68,v69,v70,v71,v72,v73,v74,v75,v76,v77,v78,v79,v80,v81,v82,v83,v84,v85,v86,v87,v88,v89,v90,v91,v92,v93,v94,v95,v96,v97,v98,v99,v100,v101,v102,v103,v104,v105,v106,v107,v108,v109,v110,v111,v112,v113,v114,v115,v116,v117,v118,v119,v120,v121,v122,v123,v124,v125,v126,v127,v128,v129,v130,v131,v132,v133,v134,v135,v136,v137,v138,v139,v140,v141,v142,v143,v144,v145,v146,v147,v148,v149,v150,v151,v152,v153,v154,v155,v156,v157,v158,v159,v160,v161,v162,v163,v164,v165,v166,v167,v168,v169,v170,v171,v172,v173,v174,v175,v176,v177,v178,v179,v180,v181,v182,v183,v184,v185,v186,v187,v188,v189,v190,v191,v192,v193,v194,v195,v196,v197,v198,v199,v200,v201,v202,v203,v204,v205,v206,v207,v208,v209,v210,v211,v212,v213,v214,v215,v216,v217,v218,v219,v220,v221,v222,v223,v224,v225,v226,v227,v228,v229,v230,v231,v232,v233,v234,v235,v236,v237,v238,v239,v240,v241,v242,v243,v244,v245,v246,v247,v248,v249,v250,v251,v252],[]⟩ W:=by
 have HG:=Lib.hid hg
 have HB0:=Lib.hid hb0
 clear hg hb0
 conv => arg 1; intro a w1; arg 1; arg 2; whnf
 conv => arg 2; arg 2; whnf
 conv => arg 2; arg 4; dsimp only
 intro hK
 go_wp2_with fail
 refine (kn_inter_yes _ _ _ _ _ ?_ ?_ ?_ ?_).mono ?_
 ·exact kn_one rfl (kn_b3 _ _ _ _)
 ·exact kn_one (by simp) (kn_b2 _ _ _)
 ·exact kn_one (by simp) (below_alloc _ _)
 ·exact kn_one (by simp) (Below.refl _ _)
 rintro e w1 ⟨a,c,a',c',rfl,i1,i2,hb⟩
 obtain ⟨W1,hW1,hb1,hs1,hx1⟩:=blk_at w1 [.slice a 1 c,.slice a' 1 c'] 44
 have HB1:=Lib.hid (below_keep (below_keep (kn_b4 _ _ _ _ _) hb) hb1)
 have I1:=Lib.hid (i1.later IntR.lasts hb1)
 have I2:=Lib.hid (i2.later IntR.lasts hb1)
 have X1:=Lib.hid hx1
 obtain ⟨g1,hg1⟩:∃ g1,g1=w1.heap.size:=⟨_,rfl⟩
 rw [← hg1] at X1
 clear hb i1 i2 hb1 hx1 hs1
 go_upto_region 25 with (fail)
 rw [← hW1,← hg1]
 clear hW1 hg1
 go_wp2_with fail
 refine (kn_inter_no _ _ _ _ _ ?_ ?_ ?_ ?_).mono ?_
 ·exact kn_one rfl (kn_b3 _ _ _ _)
 ·exact kn_one (by simp) (kn_b2 _ _ _)
 ·exact kn_one (by simp) (below_alloc _ _)
 ·exact kn_one (by simp) (Below.refl _ _)
 rintro e w2 ⟨b,d,b',d',rfl,hb⟩
 have HB2:=Lib.hid (below_keep (below_keep (kn_b4 W1 _ _ _ _) hb) (below_alloc w2 (.cells #[.slice b 0 d,.slice b' 0 d'] 44)))
 clear hb
 go_wp2_with fail
 refine (kn_parse1 _ (HG.out.later (below_keep HB1.out HB2.out))).mono ?_
 rintro e w3 ⟨a1,n1,c1,a2,n2,c2,gc,oc,kc,gv,ov,kv,rfl,q1,q2,hb⟩
 obtain ⟨W3,hW3,hb3,hs3,hx3⟩:=blk_at w3 [.slice a1 n1 c1,.slice a2 n2 c2,.slice (some ⟨gc,oc,none⟩) 1 kc] 26
 have HB3:=Lib.hid (below_keep (below_keep HB2.out hb) hb3)
 have Q1:=Lib.hid (cell_later q1 hb3)
 have Q2:=Lib.hid (cell_later q2 hb3)
 have X3:=Lib.hid hx3
 obtain ⟨g3,hg3⟩:∃ g3,g3=w3.heap.size:=⟨_,rfl⟩
 rw [← hg3] at X3
 clear hb q1 q2 hb3 hx3 hs3
 go_upto_region 27 with (fail)
 rw [← hW3,← hg3]
 clear hW3 hg3
 go_wp2_with fail
 refine (kn_parse2 _ (HG.out.later (below_keep HB1.out HB3.out))).mono ?_
 rintro e w4 ⟨rfl,hb4⟩
 have HB4:=Lib.hid hb4
 have HB14:=Lib.hid (below_keep HB3.out hb4)
 have y0:=(X1.out w4 HB14.out).1 0 _ rfl
 clear hb4
 go_wp2_with fail
 refine (kn_eq [0] _ _ _ ?_ ?_).mono ?_
 ·exact (I1.out.later IntR.lasts HB14.out).later IntR.lasts (below_alloc _ _)
 ·exact kn_one rfl (Below.refl _ _)
 rintro e w5 ⟨rfl,hb⟩
 have HB5:=Lib.hid (below_keep HB4.out (below_keep (below_alloc _ _) hb))
 have HB15:=Lib.hid (below_keep HB3.out HB5.out)
 have y1:=(X1.out w5 HB15.out).1 1 _ rfl
 clear hb y0
 go_wp2_with fail
 refine (kn_eq [3] _ _ _ ?_ ?_).mono ?_
 ·exact (I2.out.later IntR.lasts HB15.out).later IntR.lasts (below_alloc _ _)
 ·exact kn_one rfl (Below.refl _ _)
 rintro e w6 ⟨rfl,hb⟩
 have HB6:=Lib.hid (below_keep HB5.out (below_keep (below_alloc _ _) hb))
 have y2:=(X3.out w6 HB6.out).1 2 _ rfl
 have y3:=cell_later Q1.out HB6.out
 have y4:=cell_later Q2.out HB6.out
 clear hb y1
 go_wp2_with fail
 refine (works_any w6 (HG.out.later (below_keep HB1.out (below_keep HB3.out HB6.out))).ml).mono ?_
 rintro e w7 ⟨rfl,hb⟩
 have HB7:=Lib.hid (below_keep HB1.out (below_keep HB3.out (below_keep HB6.out hb)))
 clear hb y2 y3 y4
 go_wp2
 go_ret
 exact ⟨rfl,below_keep HB0.out HB7.out⟩
end Go.Proofs.YtdbnebhehiiakaaGreatDoor
namespace Go.Proofs.YtdbnebhehiiakaaGreatDoor
open Go.RowKit
noncomputable def tail20:Code:=(Tryz.f4.body.bind (fromReg 20)).getD .skip
theorem kn_b1 (w:World) (o1:Obj):Below w.heap.size w (w.alloc o1):=below_alloc _ _
theorem kn_b5 (w:World) (o1 o2 o3 o4 o5:Obj):Below w.heap.size w (((((w.alloc o1).alloc o2).alloc o3).alloc o4).alloc o5):=below_keep (kn_b4 _ _ _ _ _) (below_alloc _ _)
theorem kn_b6 (w:World) (o1 o2 o3 o4 o5 o6:Obj):Below w.heap.size w ((((((w.alloc o1).alloc o2).alloc o3).alloc o4).alloc o5).alloc o6):=below_keep (kn_b5 _ _ _ _ _ _) (below_alloc _ _)
theorem kn_b7 (w:World) (o1 o2 o3 o4 o5 o6 o7:Obj):Below w.heap.size w (((((((w.alloc o1).alloc o2).alloc o3).alloc o4).alloc o5).alloc o6).alloc o7):=below_keep (kn_b6 _ _ _ _ _ _ _) (below_alloc _ _)
def knT6:List (List Int):=[[0,0],[0,1],[1,0],[1,1],[0,2],[1,2]]
theorem kn_rows4 (w:World):RowsI (((((w.alloc (.cells #[.int .i64 0,.int .i64 0] 3)).alloc (.cells #[.int .i64 0,.int .i64 1] 3)).alloc (.cells #[.int .i64 1,.int .i64 1] 3)).alloc (.cells #[.int .i64 1,.int .i64 0] 3)).alloc (.cells #[.slice (some ⟨w.heap.size,0,none⟩) 2 2,.slice (some ⟨w.heap.size+1,0,none⟩) 2 2,.slice (some ⟨w.heap.size+1+1,0,none⟩) 2 2,.slice (some ⟨w.heap.size+1+1+1,0,none⟩) 2 2] 36)) (.slice (some ⟨w.heap.size+1+1+1+1,0,none⟩) 4 4) knHr:=by
 refine ⟨_,_,rfl,Nat.le_refl _,by decide,fun _ => ⟨_,_,rfl,fun i z h => ?_⟩⟩
 match i,h with
 | 0,h =>
  cases h
  exact ⟨⟨_,by ((repeat (first | (refine Eq.trans (World.cell?_alloc_lt _ _ _ ?_) ?_; · (simp only [World.size_alloc]; omega)) | (refine Eq.trans (World.cell?_alloc_at _ _ _ _ ?_) ?_; · (first | exact rfl | simp only [World.size_alloc])))); rfl),kn_two (by simp) (kn_b4 _ _ _ _ _)⟩⟩
 | 1,h =>
  cases h
  exact ⟨⟨_,by ((repeat (first | (refine Eq.trans (World.cell?_alloc_lt _ _ _ ?_) ?_; · (simp only [World.size_alloc]; omega)) | (refine Eq.trans (World.cell?_alloc_at _ _ _ _ ?_) ?_; · (first | exact rfl | simp only [World.size_alloc])))); rfl),kn_two (by simp) (kn_b3 _ _ _ _)⟩⟩
 | 2,h =>
  cases h
  exact ⟨⟨_,by ((repeat (first | (refine Eq.trans (World.cell?_alloc_lt _ _ _ ?_) ?_; · (simp only [World.size_alloc]; omega)) | (refine Eq.trans (World.cell?_alloc_at _ _ _ _ ?_) ?_; · (first | exact rfl | simp only [World.size_alloc])))); rfl),kn_two (by simp) (kn_b2 _ _ _)⟩⟩
 | 3,h =>
  cases h
  exact ⟨⟨_,by ((repeat (first | (refine Eq.trans (World.cell?_alloc_lt _ _ _ ?_) ?_; · (simp only [World.size_alloc]; omega)) | (refine Eq.trans (World.cell?_alloc_at _ _ _ _ ?_) ?_; · (first | exact rfl | simp only [World.size_alloc])))); rfl),kn_two (by simp) (kn_b1 _ _)⟩⟩
 | n+4,h => simp [knHr] at h
theorem kn_rows6 (w:World):RowsI (((((((w.alloc (.cells #[.int .i64 0,.int .i64 0] 3)).alloc (.cells #[.int .i64 0,.int .i64 1] 3)).alloc (.cells #[.int .i64 1,.int .i64 0] 3)).alloc (.cells #[.int .i64 1,.int .i64 1] 3)).alloc (.cells #[.int .i64 0,.int .i64 2] 3)).alloc (.cells #[.int .i64 1,.int .i64 2] 3)).alloc (.cells #[.slice (some ⟨w.heap.size,0,none⟩) 2 2,.slice (some ⟨w.heap.size+1,0,none⟩) 2 2,.slice (some ⟨w.heap.size+1+1,0,none⟩) 2 2,.slice (some ⟨w.heap.size+1+1+1,0,none⟩) 2 2,.slice (some ⟨w.heap.size+1+1+1+1,0,none⟩) 2 2,.slice (some ⟨w.heap.size+1+1+1+1+1,0,none⟩) 2 2] 36)) (.slice (some ⟨w.heap.size+1+1+1+1+1+1,0,none⟩) 6 6) knT6:=by
 refine ⟨_,_,rfl,Nat.le_refl _,by decide,fun _ => ⟨_,_,rfl,fun i z h => ?_⟩⟩
 match i,h with
 | 0,h =>
  cases h
  exact ⟨⟨_,by ((repeat (first | (refine Eq.trans (World.cell?_alloc_lt _ _ _ ?_) ?_; · (simp only [World.size_alloc]; omega)) | (refine Eq.trans (World.cell?_alloc_at _ _ _ _ ?_) ?_; · (first | exact rfl | simp only [World.size_alloc])))); rfl),kn_two (by simp) (kn_b6 _ _ _ _ _ _ _)⟩⟩
 | 1,h =>
  cases h
  exact ⟨⟨_,by ((repeat (first | (refine Eq.trans (World.cell?_alloc_lt _ _ _ ?_) ?_; · (simp only [World.size_alloc]; omega)) | (refine Eq.trans (World.cell?_alloc_at _ _ _ _ ?_) ?_; · (first | exact rfl | simp only [World.size_alloc])))); rfl),kn_two (by simp) (kn_b5 _ _ _ _ _ _)⟩⟩
 | 2,h =>
  cases h
  exact ⟨⟨_,by ((repeat (first | (refine Eq.trans (World.cell?_alloc_lt _ _ _ ?_) ?_; · (simp only [World.size_alloc]; omega)) | (refine Eq.trans (World.cell?_alloc_at _ _ _ _ ?_) ?_; · (first | exact rfl | simp only [World.size_alloc])))); rfl),kn_two (by simp) (kn_b4 _ _ _ _ _)⟩⟩
 | 3,h =>
  cases h
  exact ⟨⟨_,by ((repeat (first | (refine Eq.trans (World.cell?_alloc_lt _ _ _ ?_) ?_; · (simp only [World.size_alloc]; omega)) | (refine Eq.trans (World.cell?_alloc_at _ _ _ _ ?_) ?_; · (first | exact rfl | simp only [World.size_alloc])))); rfl),kn_two (by simp) (kn_b3 _ _ _ _)⟩⟩
 | 4,h =>
  cases h
  exact ⟨⟨_,by ((repeat (first | (refine Eq.trans (World.cell?_alloc_lt _ _ _ ?_) ?_; · (simp only [World.size_alloc]; omega)) | (refine Eq.trans (World.cell?_alloc_at _ _ _ _ ?_) ?_; · (first | exact rfl | simp only [World.size_alloc])))); rfl),kn_two (by simp) (kn_b2 _ _ _)⟩⟩
 | 5,h =>
  cases h
  exact ⟨⟨_,by ((repeat (first | (refine Eq.trans (World.cell?_alloc_lt _ _ _ ?_) ?_; · (simp only [World.size_alloc]; omega)) | (refine Eq.trans (World.cell?_alloc_at _ _ _ _ ?_) ?_; · (first | exact rfl | simp only [World.size_alloc])))); rfl),kn_two (by simp) (kn_b1 _ _)⟩⟩
 | n+6,h => simp [knT6] at h
theorem kn_same (l:List (List Int)) (v u:Value) (w:World) (h1:RowsI w v l) (h2:RowsI w u l):Calls Tryz.prog 20 #[v,u] w (RetV' (.bool true) w):=by
 have:=sameRows_any l l v u w h1 h2
 rwa [decide_eq_true rfl] at this
set_option maxHeartbeats 16000000 in
set_option maxRecDepth 100000 in
theorem knTail20 (w W:World) (hg:Gl W) (hb0:Below w.heap.size w W) (v0 v1 v2 v3 v4 v5 v6 v7 v8 v9 v10 v11 v12 v13 v14 v15 v16 v17 v18 v19 v20 v21 v22 v23 v24 v25 v26 v27 v28 v29 v30 v31 v32 v33 v34 v35 v36 v37 v38 v39 v40 v41 v42 v43 v44 v45 v46 v47 v48 v49 v50 v51 v52 v53 v54 v55 v56 v57 v58 v59 v60 v61 v62 v63 v64 v65 v66 v67 v68 v69 v70 v71 v72 v73 v74 v75 v76 v77 v78 v79 v80 v81 v82 v83 v84 v85 v86 v87 v88 v89 v90 v91 v92 v93 v94 v95 v96 v97 v98 v99 v100 v101 v102 v103 v104 v105 v106 v107 v108 v109 v110 v111 v112 v113 v114 v115 v116 v117 v118 v119 v120 v121 v122 v123 v124 v125 v126 v127 v128 v129 v130 v131 v132 v133 v134 v135 v136 v137 v138 v139 v140 v141 v142 v143 v144 v145 v146 v147 v148 v149 v150 v151 v152 v153 v154 v155 v156 v157 v158 v159 v160 v161 v162 v163 v164 v165 v166 v167 v168 v169 v170 v171 v172 v173 v174 v175 v176 v177 v178 v179 v180 v181 v182 v183 v184 v185 v186 v187 v188 v189 v190 v191 v192 v193 v194 v195 v196 v197 v198 v199 v200 v201 v202 v203 v204 v205 v206 v207 v208 v209 v210 v211 v212 v213 v214 v215 v216 v217 v218 v219 v220 v221 v222 v223 v224 v225 v226 v227 v228 v229 v230 v231 v232 v233 v234 v235 v236 v237 v238 v239 v240 v241 v242 v243 v244 v245 v246 v247 v248 v249 v250 v251 v252:Value) (K:Act→World→Prop):(∀ a w1,Code.wp Tryz.prog (seqR tail20) (bodyPost Tryz.prog Tryz.f4 (RetV' (.bool true) w)) a w1→K a w1) →
  Code.wp Tryz.prog (seqL tail20) (Exit.then K (bodyPost Tryz.prog Tryz.f4 (RetV' (.bool true) w))) ⟨#[v0,v1,v2,v3,v4,v5,v6,v7,v8,v9,v10,v11,v12,v13,v14,v15,v16,v17,v18,v19,v20,v21,v22,v23,v24,v25,v26,v27,v28,v29,v30,v31,v32,v33,v34,v35,v36,v37,v38,v39,v40,v41,v42,v43,v44,v45,v46,v47,v48,v49,v50,v51,v52,v53,v54,v55,v56,v57,v58,v59,v60,v61,v62,v63,v64,v65,v66,v67,v68,v69,v70,v71,v72,v73,v74,v75,v76,v77,v78,v79,v80,v81,v82,v83,v84,v85,v86,v87,v88,v89,v90,v91,v92,v93,v94,v95,v96,v97,v98,v99,v100,v101,v102,v103,v104,v105,v106,v107,v108,v109,v110,v111,v112,v113,v114,v115,v116,v117,v118,v119,v120,v121,v122,v123,v124,v125,v126,v127,v128,v129,v130,v131,v132,v133,v134,v135,v136,v137,v138,v139,v140,v141,v142,v143,v144,v145,v146,v147,v148,v149,v150,v151,v152,v153,v154,v155,v156,v157,v158,v159,v160,v161,v162,v163,v164,v165,v166,v167,v168,v169,v170,v171,v172,v173,v174,v175,v176,v177,v178,v179,v180,v181,v182,v183,v184,v185,v186,v187,v188,v189,v190,v191,v192,v193,v194,v195,v196,v197,v198,v199,v200,v201,v202,v203,v204,v205,v206,v207,v208,v209,v210,v211,v212,v213,v214,v215,v216,v217,v218,v219,v220,v221,v222,v223,v224,v225,v226,v227,v228,v229,v230,v231,v232,v233,v234,v235,v236,v237,v238,v239,v240,v241,v242,v243,v244,v245,v246,v247,v248,v249,v250,v251,v252],[]⟩ W:=by
 have HG:=Lib.hid hg
 have HB0:=Lib.hid hb0
 clear hg hb0
 conv => arg 1; intro a w1; arg 1; arg 2; whnf
 conv => arg 2; arg 2; whnf
 conv => arg 2; arg 4; dsimp only
 intro hK
 go_wp2_with fail
 refine (knH_any (.slice none 0 0) (.slice none 0 0) _ _ _ ⟨Ls.nil _ _ _ (by omega),Ls.nil _ _ _ (by omega)⟩ ?_ ?_).mono ?_
 ·exact kn_two rfl (below_alloc _ _)
 ·exact kn_two (by simp) (Below.refl _ _)
 rintro e w1 ⟨v1,rfl,r1,hb⟩
 have HB1:=Lib.hid (below_keep (kn_b2 _ _ _) hb)
 have R1:=Lib.hid r1
 obtain ⟨a1,c1,e1,-⟩:=r1.shape
 subst e1
 clear hb r1
 go_wp2_with fail
 refine (knT_any (.slice none 0 0) (.slice none 0 0) _ _ _ ⟨Ls.nil _ _ _ (by omega),Ls.nil _ _ _ (by omega)⟩ ?_ ?_).mono ?_
 ·exact kn_two rfl (below_alloc _ _)
 ·exact kn_two (by simp) (Below.refl _ _)
 rintro e w2 ⟨v2,rfl,r2,hb⟩
 have HB12:=Lib.hid (below_keep (kn_b2 w1 _ _) hb)
 have HB2:=Lib.hid (below_keep HB1.out HB12.out)
 have R2:=Lib.hid r2
 obtain ⟨a2,c2,e2,hc2,hc3⟩:=r2.shape
 subst e2
 have HF2:=Lib.hid (r2.front (m:=6) (by decide))
 have q9:9≤c2:=hc2
 have SX:Hid (∀ y,Below w2.heap.size w2 y→∀ u,RowsI y u knHr→Calls Tryz.prog 20 #[.slice a1 knHr.length c1,u] y (RetV' (.bool true) y)):=fun y h1 u h2 => kn_same knHr _ u y ((R1.out.later RowR.lasts HB12.out).later RowR.lasts h1) h2
 clear hb r2 hc2
 go_wp2_with fail
 refine (SX.out _ (kn_b5 _ _ _ _ _ _) _ (kn_rows4 _)).mono ?_
 rintro e w3 ⟨rfl,hb⟩
 have HB23:=Lib.hid (below_keep (kn_b5 w2 _ _ _ _ _) hb)
 have HB3:=Lib.hid (below_keep HB2.out HB23.out)
 clear hb SX
 have q6:6≤c2:=by omega
 go_wp2_with fail
 refine (kn_same knT6 _ _ _ ((HF2.out.later RowR.lasts HB23.out).later RowR.lasts (kn_b7 _ _ _ _ _ _ _ _)) (kn_rows6 _)).mono ?_
 rintro e w4 ⟨rfl,hb⟩
 have HB4:=Lib.hid (below_keep HB3.out (below_keep (kn_b7 w3 _ _ _ _ _ _ _) hb))
 clear hb
 go_upto_region 24 with (fail)
 exact knTail24 w w4 (HG.out.later HB4.out) (below_keep HB0.out HB4.out) _ _ _ _ _ _ _ _ _ _ _ _ _ _ _ _ _ _ _ _ _ _ _ _ _ _ _ _ _ _ _ _ _ _ _ _ _ _ _ _ _ _ _ _ _ _ _ _ _ _ _ _ _ _ _ _ _ _ _ _ _ _ _ _ _ _ _ _ _ _ _ _ _ _ _ _ _ _ _ _ _ _ _ _ _ _ _ _ _ _ _ _ _ _ _ _ _ _ _ _ _ _ _ _ _ _ _ _ _ _ _ _ _ _ _ _ _ _ _ _ _ _ _ _ _ _ _ _ _ _ _ _ _ _ _ _ _ _ _ _ _ _ _ _ _ _ _ _ _ _ _ _ _ _ _ _ _ _ _ _ _ _ _ _ _ _ _ _ _ _ _ _ _ _ _ _ _ _ _ _ _ _ _ _ _ _ _ _ _ _ _ _ _ _ _ _ _ _ _ _ _ _ _ _ _ _ _ _ _ _ _ _ _ _ _ _ _ _ _ _ _ _ _ _ _ _ _ _ _ _ _ _ _ _ _ _ _ _ _ _ _ _ _ _ _ _ _ _ _ _ _ _ _ _ (by assumption)
end Go.Proofs.YtdbnebhehiiakaaGreatDoor
namespace Go.Proofs.YtdbnebhehiiakaaGreatDoor
open Go.RowKit
noncomputable def tail9:Code:=(Tryz.f4.body.bind (fromReg 9)).getD .skip
theorem kn_lay (l:LayT) (r:Int) (hr:layoutE exD l=r) (vd vs vo:Value) (w:World) (hd:Dims w vd exD) (hs:Ints w vs l.sides) (ho:Ints w vo l.over):Calls Tryz.prog 18 #[vd,layV vs vo l] w (RetV' (.int .i64 r) w):=by
 subst hr
 exact layout_any exD l vd vs vo w hd ⟨hs,ho⟩ ex_str
def KnLy (B:Nat) (W:World) (u:Nat→Option Value):Prop:=∀ w',Below W.heap.size W w'→∀ j v,u j=some v→w'.cell? ⟨B,j,none⟩=some v
theorem KnLy.six {B:Nat} {W w':World} {a b c d e f:Value} (h:KnLy B W (fun j => [a,b,c,d,e,f][j]?)) (hb:Below W.heap.size W w'):w'.cell? ⟨B,0,none⟩=some a∧w'.cell? ⟨B,1,none⟩=some b∧w'.cell? ⟨B,2,none⟩=some c∧w'.cell? ⟨B,3,none⟩=some d∧w'.cell? ⟨B,4,none⟩=some e∧w'.cell? ⟨B,5,none⟩=some f :=
 ⟨h w' hb 0 _ rfl,h w' hb 1 _ rfl,h w' hb 2 _ rfl,h w' hb 3 _ rfl,h w' hb 4 _ rfl,h w' hb 5 _ rfl⟩
theorem KnLy.later {B:Nat} {W W':World} {u:Nat→Option Value} (h:KnLy B W u) (hb:Below W.heap.size W W'):KnLy B W' u:=fun w' hw => h w' (below_keep hb hw)
theorem lay_new (w:World) (n0:Nat) (hn:n0=w.heap.size):∃ Z,Z=((w.alloc (.cells #[.int .i64 64,.int .i64 64] 3)).alloc (.cells #[.int .i64 0,.int .i64 0] 3)).alloc (.cells #[.slice (some ⟨n0,0,none⟩) 2 2,.slice (some ⟨n0+1,0,none⟩) 2 2,.int .i64 3,.int .i64 8,.int .i64 2,.int .i64 3] 38) ∧
  Below w.heap.size w Z∧Ints Z (.slice (some ⟨n0,0,none⟩) 2 2) [64,64]∧Ints Z (.slice (some ⟨n0+1,0,none⟩) 2 2) [0,0]∧KnLy (n0+1+1) Z (fun j => [.slice (some ⟨n0,0,none⟩) 2 2,.slice (some ⟨n0+1,0,none⟩) 2 2,.int .i64 3,.int .i64 8,.int .i64 2,.int .i64 3][j]?)∧n0+1+1<Z.heap.size:=by
 subst hn
 refine ⟨_,rfl,kn_b3 _ _ _ _,kn_two rfl (kn_b2 _ _ _),kn_two (by simp) (kn_b1 _ _),fun w' hb j v hv => ?_,by simp <;> omega⟩
 obtain ⟨W1,hW1,-,-,hx⟩:=blk_at ((w.alloc (.cells #[.int .i64 64,.int .i64 64] 3)).alloc (.cells #[.int .i64 0,.int .i64 0] 3)) [.slice (some ⟨w.heap.size,0,none⟩) 2 2,.slice (some ⟨w.heap.size+1,0,none⟩) 2 2,.int .i64 3,.int .i64 8,.int .i64 2,.int .i64 3] 38
 have:=(hx w' (by rw [hW1]; exact hb)).1 j v hv
 simpa using this
theorem lay_put (w:World) (n:Nat) (hn:n=w.heap.size) (us:List Value) (x y:Int):∃ Z,Z=(w.alloc (.cells us.toArray 38)).alloc (.cells #[.int .i64 x,.int .i64 y] 3) ∧
  Below w.heap.size w Z∧Ints Z (.slice (some ⟨n+1,0,none⟩) 2 2) [x,y]∧KnLy n Z (fun j => us[j]?)∧n<Z.heap.size:=by
 subst hn
 refine ⟨_,rfl,kn_b2 _ _ _,kn_two (by simp) (Below.refl _ _),fun w' hb j v hv => ?_,by simp <;> omega⟩
 obtain ⟨W1,hW1,-,-,hx⟩:=blk_at w us 38
 exact (hx w' (by rw [hW1]; exact below_keep (below_alloc _ _) hb)).1 j v hv
theorem lay_set (w:World) (n:Nat) (hn:n=w.heap.size) (us:List Value):∃ Z,Z=w.alloc (.cells us.toArray 38) ∧
  Below w.heap.size w Z∧KnLy n Z (fun j => us[j]?)∧n<Z.heap.size:=by
 subst hn
 obtain ⟨W1,hW1,-,-,hx⟩:=blk_at w us 38
 exact ⟨_,rfl,below_alloc _ _,fun w' hb j v hv => (hx w' (by rw [hW1]; exact hb)).1 j v hv,by simp⟩
set_option maxHeartbeats 16000000 in
set_option maxRecDepth 100000 in
theorem knTail9 (w W:World) (B:Nat) (p1 p2 p3:Option Addr) (k1 k2 k3:Nat) (hg:Gl W) (hb0:Below w.heap.size w W) (hB:B<W.heap.size) (hd:Dims W (.slice p1 2 k1) exD) (hs:Ints W (.slice p2 2 k2) [4,3]) (ho:Ints W (.slice p3 2 k3) [1,0])
  (hc:KnLy B W (fun j => [.slice p2 2 k2,.slice p3 2 k3,.int .i64 1,.int .i64 0,.int .i64 1,.int .i64 1][j]?)) (v0 v3 v4 v5 v6 v7 v8 v9 v10 v11 v12 v13 v14 v15 v16 v17 v18 v19 v20 v21 v22 v23 v24 v25 v26 v27 v28 v29 v30 v31 v32 v33 v34 v35 v36 v37 v38 v39 v40 v41 v42 v43 v44 v45 v46 v47 v48 v49 v50 v51 v52 v53 v54 v55 v56 v57 v58 v59 v60 v61 v62 v63 v64 v65 v66 v67 v68 v69 v70 v71 v72 v73 v74 v75 v76 v77 v78 v79 v80 v81 v82 v83 v84 v85 v86 v87 v88 v89 v90 v91 v92 v93 v94 v95 v96 v97 v98 v99 v100 v101 v102 v103 v104 v105 v106 v107 v108 v109 v110 v111 v112 v113 v114 v115 v116 v117 v118 v119 v120 v121 v122 v123 v124 v125 v126 v127 v128 v129 v130 v131 v132 v133 v134 v135 v136 v137 v138 v139 v140 v141 v142 v143 v144 v145 v146 v147 v148 v149 v150 v151 v152 v153 v154 v155 v156 v157 v158 v159 v160 v161 v162 v163 v164 v165 v166 v167 v168 v169 v170 v171 v172 v173 v174 v175 v176 v177 v178 v179 v180 v181 v182 v183 v184 v185 v186 v187 v188 v189 v190 v191 v192 v193 v194 v195 v196 v197 v198 v199 v200 v201 v202 v203 v204 v205 v206 v207 v208 v209 v210 v211 v212 v213 v214 v215 v216 v217 v218 v219 v220 v221 v222 v223 v224 v225 v226 v227 v228 v229 v230 v231 v232 v233 v234 v235 v236 v237 v238 v239 v240 v241 v242 v243 v244 v245 v246 v247 v248 v249 v250 v251 v252:Value) (K:Act→World→Prop):(∀ a w1,Code.wp Tryz.prog (seqR tail9) (bodyPost Tryz.prog Tryz.f4 (RetV' (.bool true) w)) a w1→K a w1) →
  Code.wp Tryz.prog (seqL tail9) (Exit.then K (bodyPost Tryz.prog Tryz.f4 (RetV' (.bool true) w))) ⟨#[v0,.slice p1 2 k1,.pointer (some ⟨B,0,none⟩),v3,v4,v5,v6,v7,v8,v9,v10,v11,v12,v13,v14,v15,v16,v17,v18,v19,v20,v21,v22,v23,v24,v25,v26,v27,v28,v29,v30,v31,v32,v33,v34,v35,v36,v37,v38,v39,v40,v41,v42,v43,v44,v45,v46,v47,v48,v49,v50,v51,v52,v53,v54,v55,v56,v57,v58,v59,v60,v61,v62,v63,v64,v65,v66,v67,v68,v69,v70,v71,v72,v73,v74,v75,v76,v77,v78,v79,v80,v81,v82,v83,v84,v85,v86,v87,v88,v89,v90,v91,v92,v93,v94,v95,v96,v97,v98,v99,v100,v101,v102,v103,v104,v105,v106,v107,v108,v109,v110,v111,v112,v113,v114,v115,v116,v117,v118,v119,v120,v121,v122,v123,v124,v125,v126,v127,v128,v129,v130,v131,v132,v133,v134,v135,v136,v137,v138,v139,v140,v141,v142,v143,v144,v145,v146,v147,v148,v149,v150,v151,v152,v153,v154,v155,v156,v157,v158,v159,v160,v161,v162,v163,v164,v165,v166,v167,v168,v169,v170,v171,v172,v173,v174,v175,v176,v177,v178,v179,v180,v181,v182,v183,v184,v185,v186,v187,v188,v189,v190,v191,v192,v193,v194,v195,v196,v197,v198,v199,v200,v201,v202,v203,v204,v205,v206,v207,v208,v209,v210,v211,v212,v213,v214,v215,v216,v217,v218,v219,v220,v221,v222,v223,v224,v225,v226,v227,v228,v229,v230,v231,v232,v233,v234,v235,v236,v237,v238,v239,v240,v241,v242,v243,v244,v245,v246,v247,v248,v249,v250,v251,v252],[]⟩ W:=by
 have HG:=Lib.hid hg
 have HB0:=Lib.hid hb0
 have HD:=Lib.hid hd
 have HS:=Lib.hid hs
 have HO:=Lib.hid ho
 have HC:=Lib.hid hc
 have HBB:=Lib.hid hB
 clear hg hb0 hB hd hs ho hc
 conv => arg 1; intro a w1; arg 1; arg 2; whnf
 conv => arg 2; arg 2; whnf
 conv => arg 2; arg 4; dsimp only
 intro hK
 obtain ⟨n0,hn0⟩:∃ n,n=W.heap.size:=⟨_,rfl⟩
 obtain ⟨Z1,hZ1,b1,i1,i2,x1,s1⟩:=lay_new W n0 hn0
 have HB1:=Lib.hid b1
 have I1:=Lib.hid i1
 have I1b:=Lib.hid i2
 have X1:=Lib.hid x1
 have S1:=Lib.hid s1
 clear b1 i1 i2 x1 s1
 go_upto_region 10 with (fail)
 rw [← hn0,← hZ1]
 clear hZ1 hn0
 obtain ⟨n2,hn2⟩:∃ n,n=Z1.heap.size:=⟨_,rfl⟩
 obtain ⟨Z2,hZ2,b2,i2,x2,s2⟩:=lay_put Z1 n2 hn2 [.slice (some ⟨n0,0,none⟩) 2 2,.slice (some ⟨n2+1,0,none⟩) 2 2,.int .i64 3,.int .i64 8,.int .i64 2,.int .i64 3] 1 (0)
 have I2:=Lib.hid i2
 have HB2:=Lib.hid b2
 have X2:=Lib.hid x2
 have S2:=Lib.hid s2
 clear b2 x2 s2 i2
 obtain ⟨l0,l1,l2,l3,l4,l5⟩:=X1.out.six (Below.refl _ _)
 have s1:=S1.out
 go_upto_region 12 with (fail)
 rw [← hn2,← hZ2]
 clear hn2 hZ2 l0 l1 l2 l3 l4 l5 s1
 have H12:=Lib.hid HB2.out
 obtain ⟨n3,hn3⟩:∃ n,n=Z2.heap.size:=⟨_,rfl⟩
 obtain ⟨Z3,hZ3,b3,i3,x3,s3⟩:=lay_put Z2 n3 hn3 [.slice (some ⟨n3+1,0,none⟩) 2 2,.slice (some ⟨n0+1,0,none⟩) 2 2,.int .i64 3,.int .i64 8,.int .i64 2,.int .i64 3] 65 (1)
 have I3:=Lib.hid i3
 have HB3:=Lib.hid b3
 have X3:=Lib.hid x3
 have S3:=Lib.hid s3
 clear b3 x3 s3 i3
 obtain ⟨l0,l1,l2,l3,l4,l5⟩:=X1.out.six H12.out
 have s1:=Nat.lt_of_lt_of_le S1.out H12.out.size
 go_upto_region 14 with (fail)
 rw [← hn3,← hZ3]
 clear hn3 hZ3 l0 l1 l2 l3 l4 l5 s1
 have H03:=Lib.hid (below_keep HB1.out (below_keep HB2.out HB3.out))
 obtain ⟨n4,hn4⟩:∃ n,n=Z3.heap.size:=⟨_,rfl⟩
 obtain ⟨Z4,hZ4,b4,i4,x4,s4⟩:=lay_put Z3 n4 hn4 [.slice p2 2 k2,.slice (some ⟨n4+1,0,none⟩) 2 2,.int .i64 1,.int .i64 0,.int .i64 1,.int .i64 1] 5 (0)
 have I4:=Lib.hid i4
 have HB4:=Lib.hid b4
 have X4:=Lib.hid x4
 have S4:=Lib.hid s4
 clear b4 x4 s4 i4
 obtain ⟨l0,l1,l2,l3,l4,l5⟩:=HC.out.six H03.out
 have s1:=Nat.lt_of_lt_of_le HBB.out H03.out.size
 go_upto_region 16 with (fail)
 rw [← hn4,← hZ4]
 clear hn4 hZ4 l0 l1 l2 l3 l4 l5 s1
 have H04:=Lib.hid (below_keep H03.out HB4.out)
 obtain ⟨n5,hn5⟩:∃ n,n=Z4.heap.size:=⟨_,rfl⟩
 obtain ⟨Z5,hZ5,b5,x5,s5⟩:=lay_set Z4 n5 hn5 [.slice p2 2 k2,.slice p3 2 k3,.int .i64 1,.int .i64 3,.int .i64 1,.int .i64 1]
 have HB5:=Lib.hid b5
 have X5:=Lib.hid x5
 have S5:=Lib.hid s5
 clear b5 x5 s5
 obtain ⟨l0,l1,l2,l3,l4,l5⟩:=HC.out.six H04.out
 have s1:=Nat.lt_of_lt_of_le HBB.out H04.out.size
 go_upto_region 18 with (fail)
 rw [← hn5,← hZ5]
 clear hn5 hZ5 l0 l1 l2 l3 l4 l5 s1
 have H05:=Lib.hid (below_keep H04.out HB5.out)
 have H15:=Lib.hid (below_keep HB2.out (below_keep HB3.out (below_keep HB4.out HB5.out)))
 have H25:=Lib.hid (below_keep HB3.out (below_keep HB4.out HB5.out))
 have H35:=Lib.hid (below_keep HB4.out HB5.out)
 have H45:=Lib.hid HB5.out
 obtain ⟨l0,l1,l2,l3,l4,l5⟩:=X1.out.six (H15.out)
 go_wp2_with fail
 refine (kn_lay knFull 0 kn_full _ _ _ _ (HD.out.later DimR.lasts (H05.out)) (I1.out.later IntR.lasts (H15.out)) (I1b.out.later IntR.lasts (H15.out))).mono ?_
 rintro e w1 ⟨rfl,hb⟩
 have K1:=Lib.hid (hb)
 clear hb l0 l1 l2 l3 l4 l5
 obtain ⟨l0,l1,l2,l3,l4,l5⟩:=X2.out.six (below_keep H25.out K1.out)
 go_wp2_with fail
 refine (kn_lay knWide 9 kn_wide _ _ _ _ (HD.out.later DimR.lasts (below_keep H05.out K1.out)) (I1.out.later IntR.lasts (below_keep H15.out K1.out)) (I2.out.later IntR.lasts (below_keep H25.out K1.out))).mono ?_
 rintro e w2 ⟨rfl,hb⟩
 have K2:=Lib.hid ((below_keep K1.out hb))
 clear hb l0 l1 l2 l3 l4 l5
 obtain ⟨l0,l1,l2,l3,l4,l5⟩:=X3.out.six (below_keep H35.out K2.out)
 go_wp2_with fail
 refine (kn_lay knLong 3 kn_long _ _ _ _ (HD.out.later DimR.lasts (below_keep H05.out K2.out)) (I3.out.later IntR.lasts (below_keep H35.out K2.out)) (I1b.out.later IntR.lasts (below_keep H15.out K2.out))).mono ?_
 rintro e w3 ⟨rfl,hb⟩
 have K3:=Lib.hid ((below_keep K2.out hb))
 clear hb l0 l1 l2 l3 l4 l5
 obtain ⟨l0,l1,l2,l3,l4,l5⟩:=X4.out.six (below_keep H45.out K3.out)
 go_wp2_with fail
 refine (kn_lay knFar 3 kn_far _ _ _ _ (HD.out.later DimR.lasts (below_keep H05.out K3.out)) (HS.out.later IntR.lasts (below_keep H05.out K3.out)) (I4.out.later IntR.lasts (below_keep H45.out K3.out))).mono ?_
 rintro e w4 ⟨rfl,hb⟩
 have K4:=Lib.hid ((below_keep K3.out hb))
 clear hb l0 l1 l2 l3 l4 l5
 obtain ⟨l0,l1,l2,l3,l4,l5⟩:=X5.out.six K4.out
 go_wp2_with fail
 refine (kn_lay knNone 2 kn_none _ _ _ _ (HD.out.later DimR.lasts (below_keep H05.out K4.out)) (HS.out.later IntR.lasts (below_keep H05.out K4.out)) (HO.out.later IntR.lasts (below_keep H05.out K4.out))).mono ?_
 rintro e w5 ⟨rfl,hb⟩
 have K5:=Lib.hid ((below_keep K4.out hb))
 clear hb l0 l1 l2 l3 l4 l5
 go_upto_region 20 with (fail)
 exact knTail20 w w5 (HG.out.later (below_keep H05.out K5.out)) (below_keep HB0.out (below_keep H05.out K5.out)) _ _ _ _ _ _ _ _ _ _ _ _ _ _ _ _ _ _ _ _ _ _ _ _ _ _ _ _ _ _ _ _ _ _ _ _ _ _ _ _ _ _ _ _ _ _ _ _ _ _ _ _ _ _ _ _ _ _ _ _ _ _ _ _ _ _ _ _ _ _ _ _ _ _ _ _ _ _ _ _ _ _ _ _ _ _ _ _ _ _ _ _ _ _ _ _ _ _ _ _ _ _ _ _ _ _ _ _ _ _ _ _ _ _ _ _ _ _ _ _ _ _ _ _ _ _ _ _ _ _ _ _ _ _ _ _ _ _ _ _ _ _ _ _ _ _ _ _ _ _ _ _ _ _ _ _ _ _ _ _ _ _ _ _ _ _ _ _ _ _ _ _ _ _ _ _ _ _ _ _ _ _ _ _ _ _ _ _ _ _ _ _ _ _ _ _ _ _ _ _ _ _ _ _ _ _ _ _ _ _ _ _ _ _ _ _ _ _ _ _ _ _ _ _ _ _ _ _ _ _ _ _ _ _ _ _ _ _ _ _ _ _ _ _ _ _ _ _ _ _ _ _ _ _ (by assumption)
end Go.Proofs.YtdbnebhehiiakaaGreatDoor
namespace Go.Proofs.YtdbnebhehiiakaaGreatDoor
open Go.RowKit
theorem kn_sides (w:World):Calls Tryz.prog 12 #[] w (fun e w' => ∃ p1 k1 p2 k2 p3 k3,e=.returned (.tuple #[.slice p1 2 k1,.agg #[.slice p2 2 k2,.slice p3 2 k3,.int .i64 1,.int .i64 0,.int .i64 1,.int .i64 1]])∧2≤k1∧Dims w' (.slice p1 2 k1) exD∧Ints w' (.slice p2 2 k2) [4,3]∧Ints w' (.slice p3 2 k3) [1,0]∧Below w.heap.size w w') :=
 (sides_any w).mono fun e w' ⟨vd,vs,vo,he,hd,hl,hb⟩ => by
  obtain ⟨p1,k1,e1,q1,-⟩:=hd.shape
  obtain ⟨p2,k2,e2,-⟩:=hl.sides.shape
  obtain ⟨p3,k3,e3,-⟩:=hl.over.shape
  subst e1 e2 e3
  exact ⟨p1,k1,p2,k2,p3,k3,he,q1,hd,hl.sides,hl.over,hb⟩
theorem kn_chunk (vd vs vo vc:Value) (w:World) (hd:Dims w vd exD) (hs:Ints w vs [4,3]) (ho:Ints w vo [1,0]) (hc:Ints w vc [6,0]) :
  Calls Tryz.prog 13 #[vd,layV vs vo exL,vc] w (fun e w' => ∃ a n c,e=.returned (.tuple #[.slice a n c,.int .i64 3])∧Below w.heap.size w w') :=
 (chunk_any exD exL [6,0] vd vs vo vc w hd ⟨hs,ho⟩ hc ex_str).mono fun e w' ⟨v,he,hi,hb⟩ => by
  rw [kn_chunkE] at he
  obtain ⟨a,c,e1,-⟩:=hi.ints.shape
  subst e1
  exact ⟨_,_,_,he,hb⟩
theorem kn_corec (vd vs vo vc:Value) (w:World) (hd:Dims w vd exD) (hs:Ints w vs [4,3]) (ho:Ints w vo [1,0]) (hc:Ints w vc [2,0]) :
  Calls Tryz.prog 14 #[vd,layV vs vo exL,vc] w (fun e w' => ∃ a n c a' n' c',e=.returned (.tuple #[.agg #[.slice a n c,.slice a' n' c'],.int .i64 3])∧Below w.heap.size w w') :=
 (core_any exD exL [2,0] vd vs vo vc w hd ⟨hs,ho⟩ hc ex_str (by intro x hx; simp at hx; omega)).mono fun e w' ⟨v1,v2,he,h1,h2,hb⟩ => by
  rw [kn_core] at he
  obtain ⟨a,c,e1,-⟩:=h1.ints.shape
  obtain ⟨a',c',e2,-⟩:=h2.ints.shape
  subst e1 e2
  exact ⟨_,_,_,_,_,_,he,hb⟩
theorem kn1_str:StrD kn1:=by
 intro x hx
 exact ex_str x (by simp only [kn1,List.mem_cons,List.not_mem_nil,or_false] at hx; subst hx; simp [exD])
theorem kn_volc1 (v:Value) (w:World) (hd:Dims w v kn1):Calls Tryz.prog 15 #[v] w (fun e w' => e=.returned (.tuple #[.int .i64 8,.int .i64 0])∧Below w.heap.size w w') :=
 (volume_any kn1 v w hd kn1_str).mono fun e w' ⟨he,hb⟩ => by
  rw [kn_vol1,kn_vol2] at he
  exact ⟨he,hb⟩
theorem kn_volc2 (v:Value) (w:World) (hd:Dims w v exD):Calls Tryz.prog 15 #[v] w (fun e w' => ∃ n:Int,e=.returned (.tuple #[.int .i64 n,.int .i64 3])∧Below w.heap.size w w') :=
 (volume_any exD v w hd ex_str).mono fun e w' ⟨he,hb⟩ => by
  rw [kn_vol3] at he
  exact ⟨_,he,hb⟩
theorem kn_atc (v:Value) (w:World) (hd:Dims w v kn1):Calls Tryz.prog 16 #[v,.int .i64 7] w (fun e w' => ∃ a c,e=.returned (.tuple #[.slice a 1 c,.int .i64 0])∧Ints w' (.slice a 1 c) [5]∧Below w.heap.size w w') :=
 (at_any kn1 7 v w hd kn1_str).mono fun e w' ⟨u,he,hi,hb⟩ => by
  rw [kn_atE] at he
  rw [kn_atQ] at hi
  obtain ⟨a,c,e1,-⟩:=hi.ints.shape
  subst e1
  exact ⟨_,_,he,hi.ints,hb⟩
set_option maxHeartbeats 16000000 in
set_option maxRecDepth 100000 in
theorem spaceKnown_any (w:World) (hg:Gl w):Calls Tryz.prog 4 #[] w (RetV' (.bool true) w):=by
 have HG:=Lib.hid hg
 clear hg
 go_enter Tryz.func4,Tryz.ntmps4
 go_wp2_with fail
 refine (kn_sides w).mono ?_
 rintro e w1 ⟨p1,k1,p2,k2,p3,k3,rfl,q1,hd,hs,ho,hb⟩
 obtain ⟨W1,hW1,hb1,hs1,hx1⟩:=blk_at w1 [.slice p2 2 k2,.slice p3 2 k3,.int .i64 1,.int .i64 0,.int .i64 1,.int .i64 1] 38
 obtain ⟨B,hB⟩:∃ n,n=w1.heap.size:=⟨_,rfl⟩
 rw [← hB] at hs1 hx1
 have HB1:=Lib.hid (below_keep hb hb1)
 have HD:=Lib.hid (hd.later DimR.lasts hb1)
 have HS:=Lib.hid (hs.later IntR.lasts hb1)
 have HO:=Lib.hid (ho.later IntR.lasts hb1)
 have HX:Hid (KnLy B W1 (fun j => [.slice p2 2 k2,.slice p3 2 k3,.int .i64 1,.int .i64 0,.int .i64 1,.int .i64 1][j]?)):=fun w' hb j v hv => (hx1 w' hb).1 j v hv
 have HBS:=Lib.hid hs1
 have HD1:=Lib.hid (HD.out.front (m:=1) (by decide))
 clear hd hs ho hb hb1 hx1
 go_upto_region 2 with (fail)
 rw [← hB,← hW1]
 clear hB hW1
 obtain ⟨l0,l1,l2,l3,l4,l5⟩:=HX.out.six (Below.refl _ _)
 go_wp2_with fail
 refine (kn_chunk _ _ _ _ _ (HD.out.later DimR.lasts (below_alloc _ _)) (HS.out.later IntR.lasts (below_alloc _ _)) (HO.out.later IntR.lasts (below_alloc _ _)) (kn_two rfl (Below.refl _ _))).mono ?_
 rintro e w2 ⟨a2,n2,c2,rfl,hb⟩
 have HB2:=Lib.hid (below_keep (below_alloc W1 _) hb)
 obtain ⟨l0,l1,l2,l3,l4,l5⟩:=HX.out.six HB2.out
 have hs1:=Nat.lt_of_lt_of_le HBS.out HB2.out.size
 clear hb
 go_wp2_with fail
 refine (kn_corec _ _ _ _ _ ((HD.out.later DimR.lasts HB2.out).later DimR.lasts (below_alloc _ _)) ((HS.out.later IntR.lasts HB2.out).later IntR.lasts (below_alloc _ _)) ((HO.out.later IntR.lasts HB2.out).later IntR.lasts (below_alloc _ _)) (kn_two rfl (Below.refl _ _))).mono ?_
 rintro e w3 ⟨a3,n3,c3,a4,n4,c4,rfl,hb⟩
 have HB3:=Lib.hid (below_keep (below_keep HB2.out (below_alloc _ _)) hb)
 clear hb l0 l1 l2 l3 l4 l5 hs1
 go_wp2_with fail
 refine (kn_volc1 _ _ ((HD1.out.later DimR.lasts HB3.out).later DimR.lasts (below_alloc _ _))).mono ?_
 rintro e w4 ⟨rfl,hb⟩
 have HB4:=Lib.hid (below_keep (below_keep HB3.out (below_alloc w3 (.cells #[.slice a3 n3 c3,.slice a4 n4 c4] 44))) hb)
 clear hb
 go_wp2_with fail
 refine (kn_volc2 _ _ (HD.out.later DimR.lasts HB4.out)).mono ?_
 rintro e w5 ⟨n5,rfl,hb⟩
 have HB5:=Lib.hid (below_keep HB4.out hb)
 clear hb
 go_wp2_with fail
 refine (kn_atc _ _ (HD1.out.later DimR.lasts HB5.out)).mono ?_
 rintro e w6 ⟨a6,c6,rfl,i6,hb⟩
 have HB6:=Lib.hid (below_keep HB5.out hb)
 have I6:=Lib.hid i6
 clear hb i6
 go_wp2_with fail
 refine (kn_eq [5] _ _ _ (I6.out.later IntR.lasts (below_alloc _ _)) (kn_one rfl (Below.refl _ _))).mono ?_
 rintro e w7 ⟨rfl,hb⟩
 have HB7:=Lib.hid (below_keep (below_keep HB6.out (below_alloc _ _)) hb)
 clear hb
 go_upto_region 9 with (fail)
 exact knTail9 w w7 B p1 p2 p3 k1 k2 k3 (HG.out.later (below_keep HB1.out HB7.out)) (below_keep HB1.out HB7.out) (Nat.lt_of_lt_of_le HBS.out HB7.out.size) (HD.out.later DimR.lasts HB7.out) (HS.out.later IntR.lasts HB7.out) (HO.out.later IntR.lasts HB7.out) (HX.out.later HB7.out) _ _ _ _ _ _ _ _ _ _ _ _ _ _ _ _ _ _ _ _ _ _ _ _ _ _ _ _ _ _ _ _ _ _ _ _ _ _ _ _ _ _ _ _ _ _ _ _ _ _ _ _ _ _ _ _ _ _ _ _ _ _ _ _ _ _ _ _ _ _ _ _ _ _ _ _ _ _ _ _ _ _ _ _ _ _ _ _ _ _ _ _ _ _ _ _ _ _ _ _ _ _ _ _ _ _ _ _ _ _ _ _ _ _ _ _ _ _ _ _ _ _ _ _ _ _ _ _ _ _ _ _ _ _ _ _ _ _ _ _ _ _ _ _ _ _ _ _ _ _ _ _ _ _ _ _ _ _ _ _ _ _ _ _ _ _ _ _ _ _ _ _ _ _ _ _ _ _ _ _ _ _ _ _ _ _ _ _ _ _ _ _ _ _ _ _ _ _ _ _ _ _ _ _ _ _ _ _ _ _ _ _ _ _ _ _ _ _ _ _ _ _ _ _ _ _ _ _ _ _ _ _ _ _ _ _ _ _ _ _ _ _ _ _ _ _ _ _ _ _ _ _ (by assumption)
end Go.Proofs.YtdbnebhehiiakaaGreatDoor
