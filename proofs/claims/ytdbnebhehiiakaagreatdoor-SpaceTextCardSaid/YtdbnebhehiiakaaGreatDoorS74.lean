/- Lemmas and contracts, each under its own condition: space.Print at every valid array. (printed by txs.py out of PrB) Both Prints: what they return. The reference's Parse: the contract. The walk of SpaceText. -/
import Derived.StillTailTactics
import Derived.Deep.DeepCutAuto
import Derived.BigQuiet
import Derived.Test.YtdbnebhehiiakaaGreatDoorS11
import Derived.Test.YtdbnebhehiiakaaGreatDoorS15
import Derived.Test.YtdbnebhehiiakaaGreatDoorS16
import Derived.Test.YtdbnebhehiiakaaGreatDoorS17
import Derived.Test.YtdbnebhehiiakaaGreatDoorS22
import Derived.Test.YtdbnebhehiiakaaGreatDoorS68
import Derived.Test.YtdbnebhehiiakaaGreatDoorS69
import Derived.Test.YtdbnebhehiiakaaGreatDoorS73
namespace Go.Proofs.YtdbnebhehiiakaaGreatDoor
open Go.RowKit
def hiGl (x:DimT):List UInt8:=if x.hi=1073741825 then [42] else itS x.hi
def dimGl (x:DimT):List UInt8:=[100,105,109,32] ++ x.name ++ [32] ++ itS x.lo ++ [58] ++ hiGl x ++ [10]
def attrGl (x:AttrT):List UInt8:=[97,116,116,114,32] ++ x.name ++ [32] ++ typeW x.ty ++ [10]
theorem dimsG_take {l:List DimT} {i:Nat} {x:DimT} (h:l[i]? = some x):(l.take (i+1)).flatMap dimGl=(l.take i).flatMap dimGl ++ dimGl x:=by
 rw [take_snoc' h,List.flatMap_append]; simp
theorem attrsG_take {l:List AttrT} {i:Nat} {x:AttrT} (h:l[i]? = some x):(l.take (i+1)).flatMap attrGl=(l.take i).flatMap attrGl ++ attrGl x:=by
 rw [take_snoc' h,List.flatMap_append]; simp
def coGl (l:List Int):Nat→List UInt8
 | 0 => []
 | j+1 => coGl l j ++ (if 0<j then [32] else []) ++ itS (l.getD j 0)
def cellGl (c:CellT):List UInt8:=coGl c.co c.co.length ++ vaW c.vals c.vals.length ++ [10]
theorem coGl_succ {l:List Int} {j:Nat} {n:Int} (h:l[j]? = some n):coGl l (j+1)=coGl l j ++ (if 0<j then [32] else []) ++ itS n:=by
 rw [coGl,List.getD_eq_getElem?_getD,h]; rfl
def prGl (x:ArrT):List UInt8:=x.dims.flatMap dimGl ++ x.attrs.flatMap attrGl ++ x.cells.flatMap cellGl
theorem cellsG_take {l:List CellT} {i:Nat} {x:CellT} (h:l[i]? = some x):(l.take (i+1)).flatMap cellGl=(l.take i).flatMap cellGl ++ cellGl x:=by
 rw [take_snoc' h,List.flatMap_append]; simp
set_option maxHeartbeats 16000000 in
set_option maxRecDepth 100000 in
theorem printG_any (x:ArrT) (vd va vc:Value) (w:World) (hg:Gl w) (hx:ArrR w vd va vc x) (hs:StrD x.dims) (hsa:StrA x.attrs) (h:checkE x=0)
  (hl1:∀ i,((x.dims.take i).flatMap dimGl).length≤3000000)
  (hl2:∀ i,((x.attrs.take i).flatMap attrGl).length≤3000000) (han:∀ a ∈ x.attrs,0≤a.ty∧a.ty≤4)
  (hl3:∀ i,((x.cells.take i).flatMap cellGl).length≤3000000) (hl4:∀ c ∈ x.cells,(∀ j,j≤c.co.length→(coGl c.co j).length≤3000000)∧∀ j,j≤c.vals.length→(vaW c.vals j).length≤3000000)
  (hcn:∀ c ∈ x.cells,∀ n ∈ c.co,-9223372036854775808≤n∧n≤9223372036854775807)
  (hdn:∀ d ∈ x.dims,-9223372036854775808≤d.lo∧d.lo≤9223372036854775807∧(d.hi=1073741825 ∨ -9223372036854775808≤d.hi∧d.hi≤9223372036854775807)) :
  Calls Tryz.prog 7 #[.agg #[vd,va,vc]] w (fun e w' => e=.returned (.tuple #[strV (prGl x),.int .i64 0])∧Below w.heap.size w w'):=by
 have CC:=Lib.hid (fun w1 (hb:Below w.heap.size w w1) => h ▸ checkA_any x vd va vc w1 (hx.later hb) hs hsa)
 have HGL:=Lib.hid hg
 have HX:=Lib.hid hx
 have HDN:=Lib.hid hdn
 have HAN:=Lib.hid han
 have HL3:=Lib.hid hl3
 have HL4:=Lib.hid hl4
 have HCN:=Lib.hid hcn
 have HL2:=Lib.hid hl2
 have HM:=Lib.hid hg.ml
 obtain ⟨p1,cap1,rfl,cl1,cl1'⟩:=hx.dims.shape
 obtain ⟨p2,cap2,rfl,cl2,cl2'⟩:=hx.attrs.shape
 obtain ⟨p3,cap3,rfl,cl3,cl3'⟩:=hx.cells.shape
 clear hx hdn hg hs hsa h han hl2 hl3 hl4 hcn
 go_enter Tryz.func7,Tryz.ntmps7
 go_wp2_with fail
 refine (CC.out _ (below_alloc _ _)).mono ?_
 rintro e w1 ⟨rfl,hb⟩
 have HB1:=Lib.hid (((below_alloc _ _).trans (hb.mono (by simp))))
 have HL1:=Lib.hid hl1
 have hc:∀ j,w1.cell? ⟨w.heap.size,j,none⟩=(w.alloc (.cells #[.slice p1 x.dims.length cap1,.slice p2 x.attrs.length cap2,.slice p3 x.cells.length cap3] 26)).cell? ⟨w.heap.size,j,none⟩:=fun j => hb.cell (p:=⟨w.heap.size,j,none⟩) (by simp)
 have b0:w1.cell? ⟨w.heap.size,0,none⟩=some (.slice p1 x.dims.length cap1):=by rw [hc,World.cell?_alloc_at _ _ _ _ rfl]; rfl
 have b1:w1.cell? ⟨w.heap.size,1,none⟩=some (.slice p2 x.attrs.length cap2):=by rw [hc,World.cell?_alloc_at _ _ _ _ rfl]; rfl
 have b2:w1.cell? ⟨w.heap.size,2,none⟩=some (.slice p3 x.cells.length cap3):=by rw [hc,World.cell?_alloc_at _ _ _ _ rfl]; rfl
 have HBB:=Lib.hid (And.intro b0 (And.intro b1 b2))
 have hg1:w.heap.size<w1.heap.size:=World.block_lt_of_cell? _ _ b0
 have hg2:w.heap.size ≠ w1.heap.size:=Nat.ne_of_lt hg1
 clear hb CC hl1 hc
 go_wp2
 go_loopw [25] (fun iv wr => ∃ i:Nat,i≤x.dims.length∧iv=.int .i64 (i:Nat)∧Lib.IsBuilder TB T8 w1.heap.size w1.heap.size (Lib.byteCells ((x.dims.take i).flatMap dimGl)) wr∧Below w1.heap.size w1 wr) (fun iv _ => x.dims.length - (intOf iv).toNat)
 case atStart => exact ⟨0,Nat.zero_le _,rfl,Lib.fresh_isBuilder TB T8 w1,below_alloc _ _⟩
 case round =>
  obtain ⟨i,hi,rfl,hB,hbw⟩:=hrel
  have HBI:=Lib.hid hB
  have HBR:=Lib.hid hbw
  have HBW:=Lib.hid (below_keep HB1.out hbw)
  clear hB hbw
  by_cases hlt:i<x.dims.length
  ·have HI1:Hid (i+1≤x.dims.length):=hlt
   have HI2:Hid (x.dims.length - (i+1)<x.dims.length - i):=by show _<_; omega
   obtain ⟨gd,od,d,ea,hd,hr⟩:=Ls.at HX.out.dims i hlt
   subst ea
   obtain ⟨x0,x1,x2⟩:=DimR.lasts _ _ _ _ _ hr HBW.out
   have hdd:=HDN.out d (List.mem_of_getElem? hd)
   have hh1:=hdd.1
   have hh2:=hdd.2.1
   have HH3:=Lib.hid hdd.2.2
   have HTK:=Lib.hid (dimsG_take hd)
   have hgd:gd<wr.heap.size:=World.block_lt_of_cell? _ _ x0
   have hgn:gd ≠ wr.heap.size:=Nat.ne_of_lt hgd
   obtain ⟨nm,xl,xh⟩:=d
   simp only at x0 x1 x2 hh1 hh2
   have ib0:(0:Int)≤(i:Int):=by omega
   have ib1:(i:Int)<(x.dims.length:Int):=by omega
   have hn9:=HL1.out (i+1)
   rw [HTK.out,List.length_append] at hn9
   simp only [dimGl,List.length_append] at hn9
   have hn1:nm.length≤3000000:=by omega
   have hn2:(itS xl).length≤3000000:=by omega
   have CI:=Lib.hid (fun w9 (hb9:Below w.heap.size w w9) => itoaT_any xl w9 (HGL.out.later hb9) hh1 hh2)
   obtain ⟨S1,hS1⟩:∃ S1,S1=itS xl:=⟨_,rfl⟩
   rw [← hS1] at hn2 CI
   have HS1:=Lib.hid hS1
   clear hr hdd hd hn9 hS1
   by_cases hst:xh=1073741825
   ·subst hst
    go_wp2_with fail
    obtain ⟨W9,hW9⟩:∃ W9,W9=wr.alloc (.cells #[.string ⟨nm.toArray⟩,.int .i64 xl,.int .i64 1073741825] 74):=⟨_,rfl⟩
    have k0:W9.cell? ⟨wr.heap.size,0,none⟩=some (.string ⟨nm.toArray⟩):=by rw [hW9,World.cell?_alloc_at _ _ _ _ rfl]; rfl
    have k1:W9.cell? ⟨wr.heap.size,1,none⟩=some (.int .i64 xl):=by rw [hW9,World.cell?_alloc_at _ _ _ _ rfl]; rfl
    have HW9:Hid (Below wr.heap.size wr W9):=by rw [hW9]; exact below_alloc _ _
    rw [← hW9]
    clear hW9
    have s1:¬ 9223372036854775807<4+nm.length:=by omega
    have s2:¬ 9223372036854775807<4+nm.length+1:=by omega
    have s3:¬ 9223372036854775807<4+nm.length+1+S1.length:=by omega
    have s4:¬ 9223372036854775807<4+nm.length+1+S1.length+1:=by omega
    have s5:¬ 9223372036854775807<4+nm.length+1+S1.length+1+1:=by omega
    have s6:¬ 9223372036854775807<4+nm.length+1+S1.length+1+1+1:=by omega
    go_region_law ((first
     | (refine step_wp rfl ?_; unfold Oper.wp; go_simp; go_at_call 30; refine (CI.out _ (below_keep HBW.out (HW9.out.drew))).mono ?_; rintro e wq ⟨rfl,hb5⟩; have HBQ:Hid (Below wr.heap.size wr wq):=below_keep HW9.out.drew hb5; have q0:=cell_later k0 (below_keep (Below.refl _ _).drew hb5); have q1:=cell_later k1 (below_keep (Below.refl _ _).drew hb5); clear hb5)
     | (refine step_wp rfl ?_; unfold Oper.wp; go_simp; go_at_call 31; refine (bld_write w1.heap.size w1.heap.size _ _ _ (isB_later HBI.out HBQ.out) (Nat.le_trans (Nat.add_le_add (Nat.le_of_eq (Lib.byteCells_length _)) (Nat.le_refl _)) (by have h9:=HL1.out i; generalize ((x.dims.take i).flatMap dimGl).length=q9 at h9 ⊢; rw [← Lib.strCells_length]; simp [Lib.strCells,ByteArray.data_append]; omega)) (Nat.le_trans HBR.out.size HBQ.out.size)).mono ?_; rintro e w2 ⟨rfl,h1,hb2⟩; have HB2:=Lib.hid h1; have HBR2:Hid (Below w1.heap.size w1 w2):=(HBR.out.trans (HBQ.out.mono HBR.out.size)).trans hb2; clear h1 hb2)))
    all_goals
     clear s1 s2 s3 s4 s5 s6 k0 k1 q0 q1 hn1 hn2
     go_wp2
     refine ⟨⟨i+1,HI1.out,by go_num,?_,HBR2.out⟩,HI2.out⟩
     rw [HTK.out,Lib.byteCells_append]
     have e9:Lib.strCells ((⟨#[100,105,109,32]⟩:ByteArray) ++ ⟨nm.toArray⟩ ++ ⟨#[32]⟩ ++ ⟨S1.toArray⟩ ++ ⟨#[58]⟩ ++ ⟨#[42]⟩ ++ ⟨#[10]⟩)=Lib.byteCells (dimGl ⟨nm,xl,1073741825⟩):=by
      rw [HS1.out]
      simp [Lib.strCells,Lib.byteCells,dimGl,hiGl,ByteArray.data_append]
     rw [← e9]
     exact .inr HB2.out
   ·have hh3:=HH3.out.resolve_left hst
    have HST:=Lib.hid hst
    have hstb:(xh != 1073741825)=true:=by rw [bne_iff_ne]; exact hst
    have hn8:=HL1.out (i+1)
    rw [HTK.out,List.length_append] at hn8
    simp only [dimGl,hiGl,if_neg hst,List.length_append] at hn8
    have hn3:(itS xh).length≤3000000:=by omega
    have CI2:=Lib.hid (fun w9 (hb9:Below w.heap.size w w9) => itoaT_any xh w9 (HGL.out.later hb9) hh3.1 hh3.2)
    obtain ⟨S2,hS2⟩:∃ S2,S2=itS xh:=⟨_,rfl⟩
    rw [← hS2] at hn3 CI2
    have HS2:=Lib.hid hS2
    clear hn8 hS2 hh3
    go_wp2_with fail
    obtain ⟨W9,hW9⟩:∃ W9,W9=wr.alloc (.cells #[.string ⟨nm.toArray⟩,.int .i64 xl,.int .i64 xh] 74):=⟨_,rfl⟩
    have k0:W9.cell? ⟨wr.heap.size,0,none⟩=some (.string ⟨nm.toArray⟩):=by rw [hW9,World.cell?_alloc_at _ _ _ _ rfl]; rfl
    have k1:W9.cell? ⟨wr.heap.size,1,none⟩=some (.int .i64 xl):=by rw [hW9,World.cell?_alloc_at _ _ _ _ rfl]; rfl
    have HW8:Hid (Below wr.heap.size wr W9):=by rw [hW9]; exact below_alloc _ _
    have HE9:=Lib.hid hW9
    clear hW9
    rw [← HE9.out]
    refine (CI2.out W9 (below_keep HBW.out HW8.out)).mono ?_
    rintro e w8 ⟨rfl,hb8⟩
    have HB8:=Lib.hid (below_keep HW8.out hb8)
    have k0:=cell_later k0 hb8
    have k1:=cell_later k1 hb8
    clear hb8
    go_wp2_with fail
    have HW9:Hid (Below wr.heap.size wr w8):=HB8.out
    have s1:¬ 9223372036854775807<4+nm.length:=by omega
    have s2:¬ 9223372036854775807<4+nm.length+1:=by omega
    have s3:¬ 9223372036854775807<4+nm.length+1+S1.length:=by omega
    have s4:¬ 9223372036854775807<4+nm.length+1+S1.length+1:=by omega
    have s5:¬ 9223372036854775807<4+nm.length+1+S1.length+1+S2.length:=by omega
    have s6:¬ 9223372036854775807<4+nm.length+1+S1.length+1+S2.length+1:=by omega
    go_region_law ((first
     | (refine step_wp rfl ?_; unfold Oper.wp; go_simp; go_at_call 30; refine (CI.out _ (below_keep HBW.out (below_keep HB8.out (Below.refl _ _).drew))).mono ?_; rintro e wq ⟨rfl,hb5⟩; have HBQ:Hid (Below wr.heap.size wr wq):=below_keep (below_keep HB8.out (Below.refl _ _).drew) hb5; have q0:=cell_later k0 (below_keep (Below.refl _ _).drew hb5); have q1:=cell_later k1 (below_keep (Below.refl _ _).drew hb5); clear hb5)
     | (refine step_wp rfl ?_; unfold Oper.wp; go_simp; go_at_call 31; refine (bld_write w1.heap.size w1.heap.size _ _ _ (isB_later HBI.out HBQ.out) (Nat.le_trans (Nat.add_le_add (Nat.le_of_eq (Lib.byteCells_length _)) (Nat.le_refl _)) (by have h9:=HL1.out i; generalize ((x.dims.take i).flatMap dimGl).length=q9 at h9 ⊢; rw [← Lib.strCells_length]; simp [Lib.strCells,ByteArray.data_append]; omega)) (Nat.le_trans HBR.out.size HBQ.out.size)).mono ?_; rintro e w2 ⟨rfl,h1,hb2⟩; have HB2:=Lib.hid h1; have HBR2:Hid (Below w1.heap.size w1 w2):=(HBR.out.trans (HBQ.out.mono HBR.out.size)).trans hb2; clear h1 hb2)))
    all_goals
     clear s1 s2 s3 s4 s5 s6 k0 k1 q0 q1 hn1 hn2 hn3 hstb
     go_wp2
     refine ⟨⟨i+1,HI1.out,by go_num,?_,HBR2.out⟩,HI2.out⟩
     rw [HTK.out,Lib.byteCells_append]
     have e9:Lib.strCells ((⟨#[100,105,109,32]⟩:ByteArray) ++ ⟨nm.toArray⟩ ++ ⟨#[32]⟩ ++ ⟨S1.toArray⟩ ++ ⟨#[58]⟩ ++ ⟨S2.toArray⟩ ++ ⟨#[10]⟩)=Lib.byteCells (dimGl ⟨nm,xl,xh⟩):=by
      rw [HS1.out,HS2.out]
      simp [Lib.strCells,Lib.byteCells,dimGl,hiGl,HST.out,ByteArray.data_append]
     rw [← e9]
     exact .inr HB2.out
  ·obtain rfl:i=x.dims.length:=by omega
   have HBI':=HBI.out
   rw [List.take_length] at HBI'
   have HBJ:=Lib.hid HBI'
   obtain ⟨T1,hT1⟩:∃ T1,T1=x.dims.flatMap dimGl:=⟨_,rfl⟩
   have hT1l:T1.length≤3000000:=by have:=HL1.out x.dims.length; rwa [List.take_length,← hT1] at this
   rw [← hT1] at HBJ
   have HT1:=Lib.hid hT1
   have HT1L:=Lib.hid hT1l
   have b1:=cell_later HBB.out.2.1 HBR.out
   have b2:=cell_later HBB.out.2.2 HBR.out
   obtain ⟨W2,hW2⟩:∃ W2,W2=wr:=⟨_,rfl⟩
   rw [← hW2] at HBJ HBR HBW b1 b2 ⊢
   have HB2C:=Lib.hid b2
   clear HBI' hT1 hT1l hW2 HBI
   go_wp2
   go_loopw [52] (fun iv wr => ∃ i:Nat,i≤x.attrs.length∧iv=.int .i64 (i:Nat)∧Lib.IsBuilder TB T8 w1.heap.size w1.heap.size (Lib.byteCells (T1 ++ (x.attrs.take i).flatMap attrGl)) wr∧Below w1.heap.size w1 wr) (fun iv _ => x.attrs.length - (intOf iv).toNat)
   case atStart => exact ⟨0,Nat.zero_le _,rfl,by rw [List.take_zero,List.flatMap_nil,List.append_nil]; exact HBJ.out,HBR.out⟩
   case round =>
    obtain ⟨i,hi,rfl,hB,hbw⟩:=hrel
    have HBI:=Lib.hid hB
    have HBR3:=Lib.hid hbw
    have HBW3:=Lib.hid (below_keep HB1.out hbw)
    clear hB hbw b1 b2
    by_cases hlt:i<x.attrs.length
    ·have HI1:Hid (i+1≤x.attrs.length):=hlt
     have HI2:Hid (x.attrs.length - (i+1)<x.attrs.length - i):=by show _<_; omega
     obtain ⟨gd,od,d,ea,hd,hr⟩:=Ls.at HX.out.attrs i hlt
     subst ea
     obtain ⟨x0,x1⟩:=AttrR.lasts _ _ _ _ _ hr HBW3.out
     have hdd:=HAN.out d (List.mem_of_getElem? hd)
     have HTK:=Lib.hid (attrsG_take hd)
     have hgd:gd<wr.heap.size:=World.block_lt_of_cell? _ _ x0
     have hgn:gd ≠ wr.heap.size:=Nat.ne_of_lt hgd
     obtain ⟨nm,ty⟩:=d
     simp only at x0 x1
     have ib0:(0:Int)≤(i:Int):=by omega
     have ib1:(i:Int)<(x.attrs.length:Int):=by omega
     have hn9:=HL2.out (i+1)
     rw [HTK.out,List.length_append] at hn9
     simp only [attrGl,List.length_append] at hn9
     have hn1:nm.length≤3000000:=by omega
     have hn2:(typeW ty).length≤3000000:=by omega
     have CI:=Lib.hid (fun w9 => typeWord_any ty w9 hdd.1 hdd.2)
     obtain ⟨S1,hS1⟩:∃ S1,S1=typeW ty:=⟨_,rfl⟩
     rw [← hS1] at hn2 CI
     have HS1:=Lib.hid hS1
     clear hr hdd hd hn9 hS1
     go_wp2_with fail
     refine wp_region_still_tail 9 (by kernel_rfl) (by kernel_rfl) ?_
     simp only [List.take_succ_cons,List.take_zero,List.drop_succ_cons,List.drop_zero]
     obtain ⟨W9,hW9⟩:∃ W9,W9=wr.alloc (.cells #[.string ⟨nm.toArray⟩,.int .i64 ty] 81):=⟨_,rfl⟩
     have k0:W9.cell? ⟨wr.heap.size,0,none⟩=some (.string ⟨nm.toArray⟩):=by rw [hW9,World.cell?_alloc_at _ _ _ _ rfl]; rfl
     have k1:W9.cell? ⟨wr.heap.size,1,none⟩=some (.int .i64 ty):=by rw [hW9,World.cell?_alloc_at _ _ _ _ rfl]; rfl
     have HW9:Hid (Below wr.heap.size wr W9):=by rw [hW9]; exact below_alloc _ _
     rw [← hW9]
     clear hW9
     have s1:¬ 9223372036854775807<5+nm.length:=by omega
     have s2:¬ 9223372036854775807<5+nm.length+1:=by omega
     have s3:¬ 9223372036854775807<5+nm.length+1+S1.length:=by omega
     have s4:¬ 9223372036854775807<5+nm.length+1+S1.length+1:=by omega
     change wpStill _ _ W9.drew _ _ _
     repeat still_step
     still_call (CI.out W9.drew)
     repeat still_step
     refine wpStill_nil ?_
     change wpList _ _ _ _ _ W9.drew
     go_wp2_with fail
     refine (bld_write w1.heap.size w1.heap.size _ _ _ (isB_later HBI.out (HW9.out.drew)) ?l1 ?l2).mono ?_
     case l1 => exact Nat.le_trans (Nat.add_le_add (Nat.le_of_eq (Lib.byteCells_length _)) (Nat.le_refl _)) (by
      have h9:=HL2.out i
      have h8:T1.length≤3000000:=HT1L.out
      rw [List.length_append]
      generalize ((x.attrs.take i).flatMap attrGl).length=q9 at h9 ⊢
      rw [← Lib.strCells_length]
      simp [Lib.strCells,ByteArray.data_append]
      omega)
     case l2 => exact Nat.le_trans HBR3.out.size HW9.out.size
     rintro e w2 ⟨rfl,h1,hb2⟩
     have HB2:=Lib.hid h1
     have HBR2:Hid (Below w1.heap.size w1 w2):=(HBR3.out.trans ((HW9.out.drew).mono HBR3.out.size)).trans hb2
     clear h1 hb2 s1 s2 s3 s4 k0 k1 hn1 hn2
     go_wp2
     refine ⟨⟨i+1,HI1.out,by go_num,?_,HBR2.out⟩,HI2.out⟩
     rw [HTK.out,← List.append_assoc,Lib.byteCells_append]
     have e9:Lib.strCells ((⟨#[97,116,116,114,32]⟩:ByteArray) ++ ⟨nm.toArray⟩ ++ ⟨#[32]⟩ ++ ⟨S1.toArray⟩ ++ ⟨#[10]⟩)=Lib.byteCells (attrGl ⟨nm,ty⟩):=by
      rw [HS1.out]
      simp [Lib.strCells,Lib.byteCells,attrGl,ByteArray.data_append]
     rw [← e9]
     exact .inr HB2.out
    ·obtain rfl:i=x.attrs.length:=by omega
     have HBI':=HBI.out
     rw [List.take_length] at HBI'
     obtain ⟨T2,hT2⟩:∃ T2,T2=T1 ++ x.attrs.flatMap attrGl:=⟨_,rfl⟩
     rw [← hT2] at HBI'
     have HBJ2:=Lib.hid HBI'
     have HT2:=Lib.hid hT2
     have b2:=cell_later HBB.out.2.2 HBR3.out
     obtain ⟨W3,hW3⟩:∃ W3,W3=wr:=⟨_,rfl⟩
     rw [← hW3] at HBJ2 HBR3 HBW3 b2 ⊢
     clear HBI' hT2 hW3 HBI
     go_wp2
     go_loopw [70] (fun iv wr => ∃ i:Nat,i≤x.cells.length∧iv=.int .i64 (i:Nat)∧Lib.IsBuilder TB T8 w1.heap.size w1.heap.size (Lib.byteCells (T2 ++ (x.cells.take i).flatMap cellGl)) wr∧Below w1.heap.size w1 wr) (fun iv _ => x.cells.length - (intOf iv).toNat)
     case atStart => exact ⟨0,Nat.zero_le _,rfl,by rw [List.take_zero,List.flatMap_nil,List.append_nil]; exact HBJ2.out,HBR3.out⟩
     case round =>
      obtain ⟨i,hi,rfl,hB,hbw⟩:=hrel
      have HBI:=Lib.hid hB
      have HBR4:=Lib.hid hbw
      have HBW4:=Lib.hid (below_keep HB1.out hbw)
      clear hB hbw b2
      by_cases hlt:i<x.cells.length
      ·have HI1:Hid (i+1≤x.cells.length):=hlt
       have HI2:Hid (x.cells.length - (i+1)<x.cells.length - i):=by show _<_; omega
       obtain ⟨gd,od,d,ea,hd,hr⟩:=Ls.at HX.out.cells i hlt
       subst ea
       obtain ⟨v1,v2,x0,x1,hco,hva⟩:=hr.ex
       have x0:=cell_later x0 HBW4.out
       have x1:=cell_later x1 HBW4.out
       obtain ⟨q1,kp1,rfl,kl1,kl1'⟩:=hco.shape
       obtain ⟨q2,kp2,rfl,kl2,kl2'⟩:=hva.shape
       have HCO:=Lib.hid hco
       have HVA:=Lib.hid hva
       have hgd:gd<wr.heap.size:=World.block_lt_of_cell? _ _ x0
       have hgn:gd ≠ wr.heap.size:=Nat.ne_of_lt hgd
       have ib0:(0:Int)≤(i:Int):=by omega
       have ib1:(i:Int)<(x.cells.length:Int):=by omega
       have hl4:=HL4.out d (List.mem_of_getElem? hd)
       have HCO4:=Lib.hid hl4.1
       have HVA4:=Lib.hid hl4.2
       have HCNd:=Lib.hid (HCN.out d (List.mem_of_getElem? hd))
       have HTK:=Lib.hid (cellsG_take hd)
       obtain ⟨T3,hT3⟩:∃ T3,T3=T2 ++ (x.cells.take i).flatMap cellGl:=⟨_,rfl⟩
       have HT3:=Lib.hid hT3
       have hT3l:T3.length≤9000000:=by
        have h1:=HT1L.out
        have h2:=HL2.out x.attrs.length
        have h3:=HL3.out i
        have h4:=HT2.out
        rw [List.take_length] at h2
        rw [hT3,List.length_append,h4,List.length_append]
        omega
       have HT3L:=Lib.hid hT3l
       have hBI:=HBI.out
       rw [← hT3] at hBI
       obtain ⟨W4,hW4⟩:∃ W4,W4=wr.alloc (.cells #[.slice q1 d.co.length kp1,.slice q2 d.vals.length kp2] 62):=⟨_,rfl⟩
       have HW4:Hid (Below wr.heap.size wr W4):=by rw [hW4]; exact below_alloc _ _
       have HTG:Hid (TagB W4 wr.heap.size 62):=⟨_,(0,0),by rw [hW4]; exact World.alloc_heap_new _ _⟩
       have HC41:Hid (W4.cell? ⟨wr.heap.size,1,none⟩=some (.slice q2 d.vals.length kp2)):=by show _=_; rw [hW4,World.cell?_alloc_at _ _ _ _ rfl]; rfl
       have HBI4:=Lib.hid (isB_later hBI HW4.out)
       clear hr hd hco hva hl4 hT3 hT3l hBI
       go_wp2
       rw [← hW4]
       clear hW4 x0 x1
       go_loopw [77] (fun jv wy => ∃ j:Nat,j≤d.co.length∧jv=.int .i64 (j:Nat)∧Lib.IsBuilder TB T8 w1.heap.size w1.heap.size (Lib.byteCells (T3 ++ coGl d.co j)) wy∧Below w1.heap.size W4 wy∧wy.heap[wr.heap.size]? = W4.heap[wr.heap.size]?) (fun jv _ => d.co.length - (intOf jv).toNat)
       case atStart => exact ⟨0,Nat.zero_le _,rfl,by rw [coGl,List.append_nil]; exact HBI4.out,Below.refl _ _,rfl⟩
       case round =>
        obtain ⟨j,hj,rfl,hB,hbw,hkp⟩:=hrel
        have HBI5:=Lib.hid hB
        have HBR5:=Lib.hid hbw
        have HKP:=Lib.hid hkp
        have HBR45:=Lib.hid ((HBR4.out.trans (HW4.out.mono HBR4.out.size)).trans hbw)
        have HBWy:=Lib.hid (below_keep HB1.out HBR45.out)
        clear hB hbw hkp
        by_cases hjl:j<d.co.length
        ·have HJ1:Hid (j+1≤d.co.length):=hjl
         have HJ2:Hid (d.co.length - (j+1)<d.co.length - j):=by show _<_; omega
         obtain ⟨gc,oc,n,e,hn,hrn⟩:=Ls.at (HCO.out.later IntR.lasts HBWy.out) j hjl
         subst e
         rw [Nat.mul_one] at hrn
         unfold IntR at hrn
         have hnn:=HCNd.out n (List.mem_of_getElem? hn)
         have CI:=Lib.hid (fun w9 (hb9:Below w.heap.size w w9) => itoaT_any n w9 (HGL.out.later hb9) hnn.1 hnn.2)
         have HSU:=Lib.hid (coGl_succ hn)
         have hs9:=HCO4.out (j+1) hjl
         rw [HSU.out,List.length_append,List.length_append] at hs9
         have hs8:=HCO4.out j hj
         have HLJ:Hid ((Lib.byteCells (T3 ++ coGl d.co j)).length≤12000000):=by
          show _≤_
          rw [Lib.byteCells_length,List.length_append]
          have:=HT3L.out
          omega
         have HIL:Hid ((itS n).length≤3000000):=by show _≤_; omega
         have jb0:(0:Int)≤(j:Int):=by omega
         have jb1:(j:Int)<(d.co.length:Int):=by omega
         clear hn hnn hs9 hs8
         by_cases h0:j=0
         ·subst h0
          rw [Nat.add_zero] at hrn
          go_wp2_with fail
          refine (CI.out _ HBWy.out).mono ?_
          rintro e w8 ⟨rfl,hb8⟩
          have HB8:=Lib.hid hb8
          have HKP:=Lib.hid ((hb8.block _ (HTG.out.kept HKP.out).lt).trans HKP.out)
          clear hb8
          go_wp2_with fail
          refine (bld_writeK w1.heap.size w1.heap.size _ _ _ (isB_later HBI5.out HB8.out) ?l5 (Nat.le_trans HBR45.out.size HB8.out.size)).mono ?_
          case l5 => exact Nat.le_trans (Nat.add_le_add HLJ.out (Nat.le_refl _)) (by
           have:=HIL.out
           simp [ByteArray.size]
           omega)
          rintro e w2 ⟨rfl,h1,hb2,hk2⟩
          have HB2:=Lib.hid h1
          have HBR6:=Lib.hid ((HBR5.out.trans (HB8.out.mono HBR45.out.size)).trans hb2)
          have HKP6:=Lib.hid ((hk2 _ _ (HTG.out.kept HKP.out) (by decide) (by decide)).trans HKP.out)
          clear h1 hb2 hk2
          go_wp2
          refine ⟨⟨1,HJ1.out,by go_num,?_,HBR6.out,HKP6.out⟩,HJ2.out⟩
          rw [HSU.out]
          simp only [Nat.lt_irrefl,if_false,List.append_nil]
          rw [← List.append_assoc,Lib.byteCells_append]
          exact .inr HB2.out
         ·have hjp:(0:Int)<(j:Int):=by omega
          have HJP:Hid (0<j):=by show _<_; omega
          have HTW:=Lib.hid (HTG.out.kept HKP.out)
          have hrW:Hid (∀ w',Below w.heap.size wr w'→True):=fun _ _ => trivial
          clear hrW
          go_wp2_with fail
          refine (bld_byteK w1.heap.size w1.heap.size _ 32 _ HBI5.out ?l5 HBR45.out.size).mono ?_
          case l5 => have:=HLJ.out; omega
          rintro e w2 ⟨rfl,h1,hb2,hk2⟩
          have HB2:=Lib.hid h1
          have HBR6:=Lib.hid (HBR5.out.trans hb2)
          have HBX2:=Lib.hid hb2
          have HKP6:=Lib.hid ((hk2 _ _ HTW.out (by decide) (by decide)).trans HKP.out)
          clear h1 hb2 hk2
          go_wp2_with fail
          refine (CI.out _ (below_keep HB1.out (HBR45.out.trans HBX2.out))).mono ?_
          rintro e w8 ⟨rfl,hb8⟩
          have HB8:=Lib.hid hb8
          have HKP6:=Lib.hid ((hb8.block _ (HTG.out.kept HKP6.out).lt).trans HKP6.out)
          clear hb8
          go_wp2_with fail
          refine (bld_writeK w1.heap.size w1.heap.size _ _ _ (isB_later (.inr HB2.out) HB8.out) ?l6 (Nat.le_trans (Nat.le_trans HBR45.out.size HBX2.out.size) HB8.out.size)).mono ?_
          case l6 => exact Nat.le_trans (Nat.add_le_add (by rw [List.length_append]; exact Nat.add_le_add HLJ.out (Nat.le_refl _)) (Nat.le_refl _)) (by
           have:=HIL.out
           simp [ByteArray.size]
           omega)
          rintro e w3 ⟨rfl,h1,hb2,hk2⟩
          have HB3:=Lib.hid h1
          have HBR7:=Lib.hid ((HBR6.out.trans (HB8.out.mono (Nat.le_trans HBR45.out.size HBX2.out.size))).trans hb2)
          have HKP7:=Lib.hid ((hk2 _ _ (HTG.out.kept HKP6.out) (by decide) (by decide)).trans HKP6.out)
          clear h1 hb2 hk2
          go_wp2
          refine ⟨⟨j+1,HJ1.out,by go_num,?_,HBR7.out,HKP7.out⟩,HJ2.out⟩
          rw [HSU.out,if_pos HJP.out]
          rw [← List.append_assoc,← List.append_assoc,Lib.byteCells_append,Lib.byteCells_append]
          exact .inr HB3.out
        ·have hje:j=d.co.length:=by omega
         subst hje
         have b9:=keep_cell HC41.out HKP.out
         obtain ⟨T4,hT4⟩:∃ T4,T4=T3 ++ coGl d.co d.co.length:=⟨_,rfl⟩
         have hBI:=HBI5.out
         rw [← hT4] at hBI
         have hT4l:T4.length≤12000000:=by
          have h1:=HT3L.out
          have h2:=HCO4.out _ (Nat.le_refl _)
          rw [hT4,List.length_append]
          omega
         have HT4:=Lib.hid hT4
         have HT4L:=Lib.hid hT4l
         have HBI6:=Lib.hid hBI
         obtain ⟨W5,hW5⟩:∃ W5,W5=wr:=⟨_,rfl⟩
         rw [← hW5] at HBI6 HBR45 HBWy b9 ⊢
         clear hBI hT4 hT4l hW5 HBI5 HKP
         go_wp2
         go_loopw [14,92] (fun lv kv wz => ∃ k:Nat,k≤d.vals.length∧kv=.int .i64 (k:Nat)∧lv=strV (ldW k)∧Lib.IsBuilder TB T8 w1.heap.size w1.heap.size (Lib.byteCells (T4 ++ vaW d.vals k)) wz∧Below w1.heap.size w1 wz) (fun _ kv _ => d.vals.length - (intOf kv).toNat)
         case atStart => exact ⟨0,Nat.zero_le _,rfl,rfl,by rw [vaW,List.append_nil]; exact HBI6.out,HBR45.out⟩
         case round =>
          obtain ⟨k,hk,rfl,rfl,hB,hbw⟩:=hrel
          have HBI7:=Lib.hid hB
          have HBR7:=Lib.hid hbw
          have HBW7:=Lib.hid (below_keep HB1.out hbw)
          clear hB hbw
          by_cases hkl:k<d.vals.length
          ·have HJ1:Hid (k+1≤d.vals.length):=hkl
           have HJ2:Hid (d.vals.length - (k+1)<d.vals.length - k):=by show _<_; omega
           obtain ⟨gv,ov,x9,e,hn,hrn⟩:=Ls.at (HVA.out.later ValR.lasts HBW7.out) k hkl
           subst e
           obtain ⟨y0,y1,y2,y3⟩:=hrn
           have HSU:=Lib.hid (vaW_succ hn)
           have hs9:=HVA4.out (k+1) hkl
           rw [HSU.out,List.length_append,List.length_append] at hs9
           have hs8:=HVA4.out k hk
           have HLJ:Hid ((Lib.byteCells (T4 ++ vaW d.vals k)).length≤15000000):=by
            show _≤_
            rw [Lib.byteCells_length,List.length_append]
            have:=HT4L.out
            omega
           have hIL:(valW x9).length≤3000000:=by omega
           have CP:=Lib.hid (fun w9 (hb:Below w.heap.size w w9) => print_any x9 w9 (HM.out.later hb))
           obtain ⟨S1,hS1⟩:∃ S1,S1=valW x9:=⟨_,rfl⟩
           have hpE:∃ E,printE x9=.tuple #[.string ⟨S1.toArray⟩,.int .i64 E]:=⟨_,by rw [hS1]; rfl⟩
           obtain ⟨E,hpE⟩:=hpE
           rw [hpE] at CP
           rw [← hS1] at hIL HSU
           have HS1:=Lib.hid hS1
           have kb0:(0:Int)≤(k:Int):=by omega
           have kb1:(k:Int)<(d.vals.length:Int):=by omega
           have hl2:(ldW k).length=2:=ldW_len k
           have s1:¬ 9223372036854775807<(ldW k).length+S1.length:=by omega
           obtain ⟨L1,hL1⟩:∃ L1,L1=ldW k:=⟨_,rfl⟩
           rw [← hL1] at s1 hl2 HSU ⊢
           have hl2':L1.length≤2:=by omega
           obtain ⟨kd,nu,de,st⟩:=x9
           simp only at y0 y1 y2 y3
           clear hn hs9 hs8 hS1 hpE hL1 hl2
           go_wp2_with fail
           refine (CP.out _ (HBW7.out.trans ((below_alloc _ _).mono HBW7.out.size))).mono ?_
           rintro e w8 ⟨rfl,hb⟩
           have HBP:Hid (Below wr.heap.size wr w8):=(below_alloc wr (.cells #[.int .i64 kd,.int .i64 nu,.int .i64 de,.string ⟨st.toArray⟩] 59)).trans (hb.mono (by simp))
           clear hb y0 y1 y2 y3
           go_wp2_with fail
           refine (bld_write w1.heap.size w1.heap.size _ _ _ (isB_later HBI7.out HBP.out) ?l7 (Nat.le_trans HBR7.out.size HBP.out.size)).mono ?_
           case l7 => exact Nat.le_trans (Nat.add_le_add HLJ.out (Nat.le_refl _)) (by
            rw [← Lib.strCells_length]
            simp [Lib.strCells,ByteArray.data_append]
            omega)
           rintro e w2 ⟨rfl,h1,hb2⟩
           have HB2:=Lib.hid h1
           have HBR8:Hid (Below w1.heap.size w1 w2):=(HBR7.out.trans (HBP.out.mono HBR7.out.size)).trans hb2
           clear h1 hb2 s1 hl2' hIL
           go_wp2
           refine ⟨⟨k+1,HJ1.out,by go_num,rfl,?_,HBR8.out⟩,HJ2.out⟩
           rw [HSU.out,← List.append_assoc,← List.append_assoc,List.append_assoc (T4 ++ _),Lib.byteCells_append]
           have e9:Lib.strCells ((⟨L1.toArray⟩:ByteArray) ++ ⟨S1.toArray⟩)=Lib.byteCells (L1 ++ S1):=by
            simp [Lib.strCells,Lib.byteCells,ByteArray.data_append]
           rw [← e9]
           exact .inr HB2.out
          ·have hke:k=d.vals.length:=by omega
           subst hke
           have HLK:Hid ((Lib.byteCells (T4 ++ vaW d.vals d.vals.length)).length+1≤140737488355328):=by
            show _≤_
            have h1:=HVA4.out _ (Nat.le_refl _)
            have h2:=HT4L.out
            rw [Lib.byteCells_length,List.length_append]
            omega
           go_wp2_with fail
           refine (bld_byte w1.heap.size w1.heap.size _ 10 _ HBI7.out HLK.out HBR7.out.size).mono ?_
           rintro e w2 ⟨rfl,h1,hb2⟩
           have HB2:=Lib.hid h1
           have HBR8:=Lib.hid (HBR7.out.trans hb2)
           clear h1 hb2
           go_wp2
           refine ⟨⟨i+1,HI1.out,by go_num,?_,HBR8.out⟩,HI2.out⟩
           rw [HTK.out,cellGl,← List.append_assoc,← List.append_assoc,← List.append_assoc,← HT3.out,← HT4.out,Lib.byteCells_append]
           exact .inr HB2.out
      ·have HBI':=HBI.out
       have hii:i=x.cells.length:=by omega
       subst hii
       rw [List.take_length] at HBI'
       have HBZ:=Lib.hid HBI'
       clear HBI'
       go_wp2_with fail
       refine (Tryz.Builder_String_any w1.heap.size w1.heap.size _ _ HBZ.out HBR4.out.size).mono ?_
       rintro e w5 ⟨rfl,hb5⟩
       have HB5:=Lib.hid (HBW4.out.trans (hb5.mono HB1.out.size))
       clear hb5
       go_wp2
       go_ret2
       refine ⟨?_,HB5.out⟩
       rw [HT2.out,HT1.out]
       rfl
theorem coGl_coP {l:List Int}:∀ (j:Nat),j≤l.length→coGl l j=coP l j
 | 0,_ => by unfold coP; rw [List.take_zero]; rfl
 | j+1,h => by
  obtain ⟨n,hn⟩:∃ n,l[j]? = some n:=⟨_,List.getElem?_eq_getElem (by omega)⟩
  rw [coGl_succ hn,coP_succ hn,coGl_coP j (by omega)]
theorem valW_print {v:Va} (h:rightV v=true):valW v=printV v:=by unfold valW; rw [if_pos h]
theorem vaW_vaP {l:List Va} (hv:∀ v ∈ l,rightV v=true):∀ (j:Nat),j+1≤l.length→vaW l (j+1)=58 :: vaP l (j+1)
 | 0,h => by
  obtain ⟨v,hn⟩:∃ v,l[0]? = some v:=⟨_,List.getElem?_eq_getElem (by omega)⟩
  rw [vaW_succ hn,vaP_succ hn,valW_print (hv v (List.mem_of_getElem? hn))]
  unfold vaP
  rw [if_pos rfl]
  rfl
 | j+1,h => by
  obtain ⟨v,hn⟩:∃ v,l[j+1]? = some v:=⟨_,List.getElem?_eq_getElem (by omega)⟩
  rw [vaW_succ hn,vaP_succ hn,valW_print (hv v (List.mem_of_getElem? hn)),vaW_vaP hv j (by omega),if_pos (by omega)]
  show 58 :: vaP l (j+1) ++ [44,32] ++ printV v=_
  simp
theorem cellGl_cellB {c:CellT} (h0:c.vals ≠ []) (hv:∀ v ∈ c.vals,rightV v=true):cellGl c=cellB c ++ [10]:=by
 unfold cellGl
 obtain ⟨m,hm⟩:∃ m,c.vals.length=m+1:=⟨c.vals.length - 1,by
  have:c.vals.length ≠ 0:=fun e => h0 (List.length_eq_zero_iff.1 e)
  omega⟩
 rw [coGl_coP _ (Nat.le_refl _),hm,vaW_vaP hv m (by omega),← hm,lineB_eq h0]
theorem dimGl_dimL (d:DimT):dimGl d=dimL d ++ [10]:=by
 unfold dimGl dimL dimB hiGl hiS
 simp
theorem attrGl_attrL (a:AttrT):attrGl a=attrL a ++ [10]:=by
 unfold attrGl attrL attrB
 rw [word_type]
 simp
theorem prGl_prA {x:ArrT} (h:GoodT x):prGl x=prA x:=by
 rw [prA_parts]
 unfold prGl linesF
 rw [List.flatMap_map,List.flatMap_map,List.flatMap_map]
 congr 1
 ·congr 1
  ·exact congrArg (fun f => x.dims.flatMap f) (funext dimGl_dimL)
  ·exact congrArg (fun f => x.attrs.flatMap f) (funext attrGl_attrL)
 ·have:∀ (l:List CellT),(∀ c ∈ l,c.vals ≠ []∧∀ v ∈ c.vals,rightV v=true)→l.flatMap cellGl=l.flatMap fun c => cellB c ++ [10]:=by
   intro l hl
   induction l with
   | nil => rfl
   | cons c r ih =>
    rw [List.flatMap_cons,List.flatMap_cons,ih (fun y hy => hl y (List.mem_cons_of_mem _ hy)),cellGl_cellB (hl c (by simp)).1 (hl c (by simp)).2]
  exact this x.cells fun c hc => ⟨(h.c0 c hc).2,h.cv c hc⟩
theorem flat_le {α:Type} (f:α→List UInt8) (m:Nat):∀ (l:List α),(∀ x ∈ l,(f x).length≤m)→(l.flatMap f).length≤m * l.length
 | [],_ => by simp
 | x :: r,h => by
  have ih:=flat_le f m r (fun y hy => h y (List.mem_cons_of_mem _ hy))
  have hx:=h x (by simp)
  rw [List.flatMap_cons,List.length_append,List.length_cons,Nat.mul_add]
  omega
theorem flat_take {α:Type} (f:α→List UInt8) (m k i:Nat) (l:List α) (hk:m * l.length≤k) (h:∀ x ∈ l,(f x).length≤m):((l.take i).flatMap f).length≤k:=by
 refine Nat.le_trans (flat_le f m (l.take i) (fun x hx => h x (List.mem_of_mem_take hx))) (Nat.le_trans (Nat.mul_le_mul_left m ?_) hk)
 rw [List.length_take]; omega
theorem printP_ok (x:ArrT) (vd va vc:Value) (w:World) (hg:Gl w) (hx:ArrR w vd va vc x) (hs:StrD x.dims) (hsa:StrA x.attrs) (h:checkE x=0) :
  Calls Tryz.prog 7 #[.agg #[vd,va,vc]] w (RetV' (.tuple #[strV (prA x),.int .i64 0]) w):=by
 have hG:=check_goodT h
 have hd:∀ d ∈ x.dims,(dimGl d).length≤100:=fun d hm => by
  have h1:=(hG.dn d hm).2
  have h2:=hG.db d hm
  have h3:=itS_len (n:=d.lo) (by omega) (by omega)
  have h4:=hiS_len (h:=d.hi) (by omega) (by omega)
  rw [dimGl_dimL]
  unfold dimL dimB
  simp only [List.length_append,List.length_cons,List.length_nil]
  omega
 have ha:∀ a ∈ x.attrs,(attrGl a).length≤100:=fun a hm => by
  have h1:=(hG.an a hm).2
  have h2:=wordT_len a.ty
  rw [attrGl_attrL]
  unfold attrL attrB
  simp only [List.length_append,List.length_cons,List.length_nil]
  omega
 have hc:∀ c ∈ x.cells,(cellGl c).length≤400:=fun c hm => by
  rw [cellGl_cellB (hG.c0 c hm).2 (hG.cv c hm),List.length_append,List.length_singleton]
  have:=cellB_len (hG.c0 c hm).2 (hG.ci c hm) (hG.cv c hm) (hG.cc c hm).1 (hG.cc c hm).2
  omega
 have hdl:=hG.dl
 have hal:=hG.al
 have hcl:=hG.cl
 have:=printG_any x vd va vc w hg hx hs hsa h (fun i => flat_take _ 100 _ i _ (by omega) hd) (fun i => flat_take _ 100 _ i _ (by omega) ha) (fun a hm => by have:=hG.at' a hm; omega) (fun i => flat_take _ 400 _ i _ (by omega) hc)
  (fun c hm => ⟨fun j hj => by
   rw [coGl_coP j hj]
   unfold coP
   have h1:=join_len 32 12 ((c.co.take j).map itS) (fun p hp => by
    obtain ⟨n,hn,rfl⟩:=List.mem_map.1 hp
    have:=hG.ci c hm n (List.mem_of_mem_take hn)
    exact itS_len (by omega) (by omega))
   rw [List.length_map,List.length_take] at h1
   have:=(hG.cc c hm).1
   omega,fun j hj => by
   cases j with
   | zero => rw [vaW]; simp
   | succ j =>
    rw [vaW_vaP (hG.cv c hm) j hj]
    unfold vaP
    rw [if_neg (by omega),List.length_cons,List.length_cons]
    have h1:=vaS_len (c.vals.take (j+1)) (fun v hv => hG.cv c hm v (List.mem_of_mem_take hv))
    rw [List.length_take] at h1
    have:=(hG.cc c hm).2
    omega⟩)
  (fun c hm n hn => by have:=hG.ci c hm n hn; omega) (fun d hm => by have:=hG.db d hm; omega)
 rwa [prGl_prA hG] at this
def printQ (x:ArrT):Value:=.tuple #[strV (if checkE x=0 then prA x else []),.int .i64 (if checkE x=0 then 0 else 2)]
set_option maxHeartbeats 1600000 in
set_option maxRecDepth 100000 in
theorem printP_any (x:ArrT) (vd va vc:Value) (w:World) (hg:Gl w) (hx:ArrR w vd va vc x) (hs:StrD x.dims) (hsa:StrA x.attrs) :
  Calls Tryz.prog 7 #[.agg #[vd,va,vc]] w (RetV' (printQ x) w):=by
 unfold printQ
 by_cases h:checkE x=0
 ·rw [if_pos h,if_pos h]
  exact printP_ok x vd va vc w hg hx hs hsa h
 ·rw [if_neg h,if_neg h]
  have CC:=Lib.hid (fun w1 (hb:Below w.heap.size w w1) => checkA_any x vd va vc w1 (hx.later hb) hs hsa)
  obtain ⟨E,hE⟩:∃ E,checkE x=E:=⟨_,rfl⟩
  rw [hE] at CC h
  have hz:(E != 0)=true:=by rw [bne_iff_ne]; exact h
  obtain ⟨p1,k1,rfl,-⟩:=hx.dims.shape
  obtain ⟨p2,k2,rfl,-⟩:=hx.attrs.shape
  obtain ⟨p3,k3,rfl,-⟩:=hx.cells.shape
  clear hg hx hs hsa h hE
  go_enter Tryz.func7,Tryz.ntmps7
  go_wp2_with fail
  refine (CC.out _ (below_alloc _ _)).mono ?_
  rintro e w1 ⟨rfl,hb⟩
  have HB1:=Lib.hid (below_keep (below_alloc _ _) hb)
  clear hb CC
  go_wp2
  go_ret2
  exact ⟨rfl,HB1.out⟩
set_option maxHeartbeats 1600000 in
set_option maxRecDepth 100000 in
theorem printR_any (x:ArrT) (vd va vc:Value) (w:World) (hx:ArrR w vd va vc x) (hs:StrD x.dims) (hsa:StrA x.attrs) (hsc:StrC x.cells) :
  Calls Tryz.prog 8 #[.agg #[vd,va,vc]] w (RetV' (printQ x) w):=by
 unfold printQ
 by_cases h:checkE x=0
 ·rw [if_pos h,if_pos h]
  exact printR_ok x vd va vc w hx hs hsa hsc h
 ·rw [if_neg h,if_neg h]
  have CC:=Lib.hid (fun w1 (hb:Below w.heap.size w w1) => rarr_any x vd va vc w1 (hx.later hb) hs hsa hsc)
  obtain ⟨E,hE⟩:∃ E,checkE x=E:=⟨_,rfl⟩
  rw [hE] at CC h
  have hz:(E != 0)=true:=by rw [bne_iff_ne]; exact h
  obtain ⟨p1,k1,rfl,-⟩:=hx.dims.shape
  obtain ⟨p2,k2,rfl,-⟩:=hx.attrs.shape
  obtain ⟨p3,k3,rfl,-⟩:=hx.cells.shape
  clear hx hs hsa hsc h hE
  go_enter Tryz.func8,Tryz.ntmps8
  go_wp2_with fail
  refine (CC.out _ (below_alloc _ _)).mono ?_
  rintro e w1 ⟨rfl,hb⟩
  have HB1:=Lib.hid (below_keep (below_alloc _ _) hb)
  clear hb CC
  go_wp2
  go_ret2
  exact ⟨rfl,HB1.out⟩
theorem valG_str (t:List UInt8):(valG t).str.length≤16:=by
 unfold valG
 split
 ·rename_i h
  rcases right_cases h with ⟨r,h1,h2,e⟩ | ⟨b,e⟩ | ⟨q,hq,e⟩ | ⟨s,h1,h2,e⟩
  ·rw [e]; simp
  ·rw [e]; simp
  ·rw [e]; simp
  ·rw [e]; exact h1
 ·simp
structure StrX (x:ArrT):Prop where
 d:∀ y ∈ x.dims,y.name.length≤20000
 a:∀ y ∈ x.attrs,y.name.length≤20000
 c:∀ y ∈ x.cells,∀ v ∈ y.vals,v.str.length≤16
theorem getD_len {F:List (List UInt8)} {i m:Nat} (h:∀ p ∈ F,p.length≤m):(F.getD i []).length≤m:=by
 rw [List.getD_eq_getElem?_getD]
 cases hi:F[i]? with
 | none => simp
 | some p => exact h p (List.mem_of_getElem? hi)
theorem guessL_str {x:ArrT} {l:List UInt8} (h:StrX x) (hl:l.length≤20000):StrX (guessL x l):=by
 have hF:∀ p ∈ cutT 32 false [] l,p.length≤20000:=fun p hp => by
  have:=cutT_part 32 l false [] p hp
  simp only [List.length_nil] at this; omega
 unfold guessL
 split
 ·refine ⟨fun y hy => ?_,h.a,h.c⟩
  rcases List.mem_append.1 hy with hy | hy
  ·exact h.d y hy
  ·simp only [List.mem_singleton] at hy
   subst hy
   exact getD_len hF
 ·split
  ·refine ⟨h.d,fun y hy => ?_,h.c⟩
   rcases List.mem_append.1 hy with hy | hy
   ·exact h.a y hy
   ·simp only [List.mem_singleton] at hy
    subst hy
    exact getD_len hF
  ·split
   ·exact h
   ·refine ⟨h.d,h.a,fun y hy => ?_⟩
    rcases List.mem_append.1 hy with hy | hy
    ·exact h.c y hy
    ·simp only [List.mem_singleton] at hy
     subst hy
     intro v hv
     obtain ⟨t,-,rfl⟩:=List.mem_map.1 hv
     exact valG_str _
theorem guessF_str:∀ (ls:List (List UInt8)) (x:ArrT),StrX x→(∀ l ∈ ls,l.length≤20000)→StrX (guessF x ls)
 | [],_,h,_ => h
 | l :: r,x,h,hl => guessF_str r (guessL x l) (guessL_str h (hl l (by simp))) (fun y hy => hl y (List.mem_cons_of_mem _ hy))
theorem guessE_str {s:List UInt8} (hs:s.length≤20000):StrX (guessE s):=by
 refine guessF_str _ _ ⟨(fun y hy => by cases hy),(fun y hy => by cases hy),(fun y hy => by cases hy)⟩ fun l hl => ?_
 have:=cutT_part 10 s false [] l hl
 simp only [List.length_nil] at this; omega
set_option maxHeartbeats 3200000 in
set_option maxRecDepth 100000 in
theorem parseR_any (s:List UInt8) (w:World) (hl:s.length≤20000):Calls Tryz.prog 10 #[strV s] w (RetAeT (readA s) w):=by
 obtain ⟨x,hx⟩:∃ x,x=guessE s:=⟨_,rfl⟩
 have hst:StrX x:=by rw [hx]; exact guessE_str hl
 have CG:Hid (∀ w1,Calls Tryz.prog 46 #[strV s] w1 (RetGu x w1)):=fun w1 => by
  rw [hx]; exact guessR_any ⟨s.toArray⟩ w1 (by simp [ByteArray.size]; exact hl)
 have CP:=Lib.hid (fun (v1 v2 v3:Value) w1 (h1:ArrR w1 v1 v2 v3 x) => printR_any x v1 v2 v3 w1 h1 (fun y hy => by have:=hst.d y hy; omega) (fun y hy => by have:=hst.a y hy; omega) (fun y hy v hv => by have:=hst.c y hy v hv; omega))
 have HO:Hid (readA s=if checkE x=0∧prA x=s then some x else none):=by show _=_; rw [hx]; rfl
 obtain ⟨W0,hW0,hb0,hs0,hx0⟩:=blk_at w [.slice none 0 0,.slice none 0 0,.slice none 0 0] 26
 have HB0:=Lib.hid hb0
 have HX0:=Lib.hid hx0
 clear hl hx hst hb0 hs0 hx0
 go_enter Tryz.func10,Tryz.ntmps10
 go_upto_region 1 with (fail)
 rw [← hW0]
 clear hW0
 go_wp2_with fail
 refine (CG.out W0).mono ?_
 rintro e w1 ⟨n0,v1,v2,v3,rfl,hao,hb⟩
 have har:=hao.arr
 have HA:=Lib.hid hao
 have HB1:=Lib.hid hb
 obtain ⟨a1,n1,e1,-⟩:=har.dims.shape
 obtain ⟨a2,n2,e2,-⟩:=har.attrs.shape
 obtain ⟨a3,n3,e3,-⟩:=har.cells.shape
 subst e1 e2 e3
 obtain ⟨W2,hW2,hb2,-,hx2⟩:=blk_at w1 [.slice a1 x.dims.length n1,.slice a2 x.attrs.length n2,.slice a3 x.cells.length n3] 26
 have HB2:=Lib.hid (below_keep HB1.out hb2)
 have HA2:=Lib.hid (HA.out.later hb2)
 have HX2:=Lib.hid hx2
 obtain ⟨z,-,-⟩:=hx2 W2 (Below.refl _ _)
 have z0:=z 0 _ rfl
 have z1:=z 1 _ rfl
 have z2:=z 2 _ rfl
 have CPx:=Lib.hid (CP.out _ _ _ W2 HA2.out.arr)
 clear har hao hb hb2 hx2 z CP CG
 go_upto_region 2 with (fail)
 rw [← hW2]
 clear hW2
 go_wp2_with fail
 refine CPx.out.mono ?_
 rintro e w3 ⟨rfl,hb3⟩
 have HB3:=Lib.hid (below_keep HB2.out hb3)
 have HA3:=Lib.hid (HA2.out.later hb3)
 obtain ⟨y,yf,yt⟩:=HX0.out w3 HB3.out
 have r0:=y 0 _ rfl
 have r1:=y 1 _ rfl
 have r2:=y 2 _ rfl
 have f0:=yf 0
 have f1:=yf 1
 have f2:=yf 2
 have HYT:=Lib.hid yt
 obtain ⟨q,-,-⟩:=HX2.out w3 hb3
 have q0:=q 0 _ rfl
 have q1:=q 1 _ rfl
 have q2:=q 2 _ rfl
 clear hb3 CPx z0 z1 z2 y yf yt HX0 q HX2
 unfold printQ
 by_cases hc:checkE x=0
 ·rw [if_pos hc,if_pos hc]
  obtain ⟨P,hP⟩:∃ P,P=prA x:=⟨_,rfl⟩
  rw [← hP]
  by_cases he:P=s
  ·have HS:Hid (readA s=some x):=by show _=_; rw [HO.out,if_pos ⟨hc,by rw [← hP,he]⟩]
   subst he
   clear HO hc hP
   go_wp2
   refine bodyPost_ret (by simp [results,Tryz.results10,go_sem,r0,r1,r2]; try rfl) rfl ?_
   refine .inl ⟨x,_,_,_,_,HS.out,rfl,HA3.out.set3 HYT.out,below_res (below_keep HB0.out HB3.out) _ _ _⟩
  ·have HS:Hid (readA s=none):=by show _=_; rw [HO.out,if_neg (fun h => he (by rw [hP]; exact h.2))]
   have te:(P == s)=false:=by rw [beq_eq_false_iff_ne]; exact he
   have te2:(P != s)=true:=by rw [bne_iff_ne]; exact he
   clear HO hc hP he
   go_wp2
   refine bodyPost_ret (by simp [results,Tryz.results10,go_sem,r0,r1,r2]; try rfl) rfl ?_
   exact .inr ⟨HS.out,rfl,below_res (below_keep HB0.out HB3.out) _ _ _⟩
 ·rw [if_neg hc,if_neg hc]
  have HS:Hid (readA s=none):=by show _=_; rw [HO.out,if_neg (fun h => hc h.1)]
  clear HO hc
  go_wp2
  refine bodyPost_ret (by simp [results,Tryz.results10,go_sem,r0,r1,r2]; try rfl) rfl ?_
  exact .inr ⟨HS.out,rfl,below_res (below_keep HB0.out HB3.out) _ _ _⟩
theorem equal_sameT (x:ArrT) (vd va vc ud ua uc:Value) (w:World) (hx:ArrR w vd va vc x) (hy:ArrR w ud ua uc x) :
  Calls Tryz.prog 11 #[.agg #[vd,va,vc],.agg #[ud,ua,uc]] w (RetV' (.bool true) w):=by
 have:=equal_any x x vd va vc ud ua uc w hx hy
 rwa [show eqA x x=true by unfold eqA; simp] at this
def arrO (o:Option ArrT):ArrT:=o.getD ⟨[],[],[]⟩
def codeO (o:Option ArrT):Int:=if o.isSome then 0 else 7
def RetAz (Y:ArrT) (C:Int) (w:World) (e:Ending) (w':World):Prop:=∃ v1 v2 v3,e=.returned (.tuple #[.agg #[v1,v2,v3],.int .i64 C])∧(∃ n,ArrO n w' v1 v2 v3 Y)∧Below w.heap.size w w'
def RetAy (o:Option ArrT) (w:World) (e:Ending) (w':World):Prop:=∃ v1 v2 v3,e=.returned (.tuple #[.agg #[v1,v2,v3],.int .i64 (codeO o)])∧(∃ n,ArrO n w' v1 v2 v3 (arrO o))∧Below w.heap.size w w'
theorem RetAeT.as {o:Option ArrT} {w:World} {e:Ending} {w':World} (h:RetAeT o w e w'):RetAy o w e w':=by
 rcases h with ⟨x,n,v1,v2,v3,rfl,he,ha,hb⟩ | ⟨rfl,he,hb⟩
 ·exact ⟨v1,v2,v3,he,⟨n,ha⟩,hb⟩
 ·exact ⟨_,_,_,he,⟨0,⟨OwR.nil,OwR.nil,CellsO.nil _ _⟩⟩,hb⟩
theorem few_len {x:ArrT} (h:checkE x=0) (hf:FewS x 40):(prA x).length≤20000:=by
 have hG:=check_goodT h
 have hl:=hf.cells.len
 have h1:=flat_le (fun l:List UInt8 => l ++ [10]) 400 (linesA x) (fun p hp => by
  show (p ++ [10]).length≤400
  rw [List.length_append,List.length_singleton]
  unfold linesA at hp
  rcases List.mem_append.1 hp with hp | hp
  ·rcases List.mem_append.1 hp with hp | hp
   ·obtain ⟨d,hd,rfl⟩:=List.mem_map.1 hp
    have h1:=(hG.dn d hd).2
    have h2:=hG.db d hd
    have h3:=itS_len (n:=d.lo) (by omega) (by omega)
    have h4:=hiS_len (h:=d.hi) (by omega) (by omega)
    unfold dimL dimB
    simp only [List.length_append,List.length_cons]
    omega
   ·obtain ⟨a,ha,rfl⟩:=List.mem_map.1 hp
    have h1:=(hG.an a ha).2
    have h2:=wordT_len a.ty
    unfold attrL attrB
    simp only [List.length_append,List.length_cons]
    omega
  ·obtain ⟨c,hc,rfl⟩:=List.mem_map.1 hp
   have:=cellB_len (hG.c0 c hc).2 (hG.ci c hc) (hG.cv c hc) (hG.cc c hc).1 (hG.cc c hc).2
   omega)
 have h2:(linesA x).length≤50:=by
  unfold linesA
  simp only [List.length_append,List.length_map]
  have:=hG.dl
  have:=hG.al
  omega
 unfold prA
 exact Nat.le_trans h1 (Nat.le_trans (Nat.mul_le_mul_left 400 h2) (by decide))
set_option maxHeartbeats 16000000 in
set_option maxRecDepth 100000 in
theorem spaceText_any (x:ArrT) (s:List UInt8) (vd va vc:Value) (w:World) (hg:Gl w) (hx:ArrR w vd va vc x) (hs:StrD x.dims) (hsa:StrA x.attrs) (hsc:StrC x.cells) (hss:s.length≤9223372036854775807) :
  Calls Tryz.prog 3 #[.agg #[vd,va,vc],strV s] w (RetV' (.bool true) w):=by
 have CW:=Lib.hid (fun w1 (hb:Below w.heap.size w w1) => works_any w1 (hg.ml.later hb))
 have CF:=Lib.hid (fun w1 (hb:Below w.heap.size w w1) => few_any x 40 vd va vc w1 (hx.later hb))
 have CP1:=Lib.hid (fun w1 (hb:Below w.heap.size w w1) => printP_any x vd va vc w1 (hg.later hb) (hx.later hb) hs hsa)
 have CP2:=Lib.hid (fun w1 (hb:Below w.heap.size w w1) => printR_any x vd va vc w1 (hx.later hb) hs hsa hsc)
 have CS1:Hid (∀ (t:List UInt8) w1,Below w.heap.size w w1→t.length≤20000→Calls Tryz.prog 9 #[strV t] w1 (RetAy (readA t) w1)):=fun t w1 hb ht => (parseT_any t w1 (hg.later hb) ht).mono fun _ _ h => h.as
 have CS2:Hid (∀ (t:List UInt8) w1,t.length≤20000→Calls Tryz.prog 10 #[strV t] w1 (RetAy (readA t) w1)):=fun t w1 ht => (parseR_any t w1 ht).mono fun _ _ h => h.as
 have HX:=Lib.hid hx
 obtain ⟨p1,k1,rfl,-⟩:=hx.dims.shape
 obtain ⟨p2,k2,rfl,-⟩:=hx.attrs.shape
 obtain ⟨p3,k3,rfl,-⟩:=hx.cells.shape
 obtain ⟨W0,hW0,hb0,-,hx0⟩:=blk_at w [.slice p1 x.dims.length k1,.slice p2 x.attrs.length k2,.slice p3 x.cells.length k3] 26
 have HB0:=Lib.hid hb0
 have HX0:=Lib.hid hx0
 obtain ⟨z,-,-⟩:=hx0 W0 (Below.refl _ _)
 have z0:=z 0 _ rfl
 have z1:=z 1 _ rfl
 have z2:=z 2 _ rfl
 clear hg hx hs hsa hsc hb0 hx0 z
 go_enter Tryz.func3,Tryz.ntmps3
 go_upto_region 1 with (fail)
 rw [← hW0]
 clear hW0
 go_wp2_with fail
 refine (CF.out W0 HB0.out).mono ?_
 rintro e w1 ⟨b,rfl,hfew,hb⟩
 have HFW:=Lib.hid hfew
 have HB1:=Lib.hid hb
 clear hfew hb CF z0 z1 z2
 have hcase:b=false ∨ (b=true∧decide ((2000:Int)<(s.length:Int))=true) ∨ (b=true∧decide ((2000:Int)<(s.length:Int))=false∧s.length≤2000):=by
  cases b with
  | false => exact .inl rfl
  | true =>
   by_cases h:s.length≤2000
   ·exact .inr (.inr ⟨rfl,decide_eq_false (by omega),h⟩)
   ·exact .inr (.inl ⟨rfl,decide_eq_true (by omega)⟩)
 rcases hcase with rfl | ⟨rfl,t1⟩ | ⟨rfl,t1,hsl⟩
 ·go_wp2_with fail
  refine (CW.out _ (below_keep HB0.out HB1.out)).mono ?_
  rintro e z9 ⟨rfl,hb⟩
  have HBE:=Lib.hid (below_keep (below_keep HB0.out HB1.out) hb)
  clear hb CW
  go_wp2
  go_ret
  exact ⟨rfl,HBE.out⟩
 ·go_wp2_with fail
  refine (CW.out _ (below_keep HB0.out HB1.out)).mono ?_
  rintro e z9 ⟨rfl,hb⟩
  have HBE:=Lib.hid (below_keep (below_keep HB0.out HB1.out) hb)
  clear hb CW
  go_wp2
  go_ret
  exact ⟨rfl,HBE.out⟩
 ·obtain ⟨y,-,-⟩:=HX0.out w1 HB1.out
  have z0:=y 0 _ rfl
  have z1:=y 1 _ rfl
  have z2:=y 2 _ rfl
  obtain ⟨T,hT⟩:∃ T,T=if checkE x=0 then prA x else []:=⟨_,rfl⟩
  obtain ⟨E,hE⟩:∃ E:Int,E=if checkE x=0 then 0 else 2:=⟨_,rfl⟩
  unfold printQ at CP1 CP2
  rw [← hT,← hE] at CP1 CP2
  have HTE:=Lib.hid (And.intro hT hE)
  obtain ⟨Y,hY⟩:∃ Y,Y=arrO (readA s):=⟨_,rfl⟩
  obtain ⟨C,hC⟩:∃ C,C=codeO (readA s):=⟨_,rfl⟩
  have C3:Hid (∀ w1,Below w.heap.size w w1→Calls Tryz.prog 9 #[strV s] w1 (RetAz Y C w1)):=fun w1 hb => by rw [hY,hC]; exact CS1.out s w1 hb (by omega)
  have C4:Hid (∀ w1,Calls Tryz.prog 10 #[strV s] w1 (RetAz Y C w1)):=fun w1 => by rw [hY,hC]; exact CS2.out s w1 (by omega)
  have tE:(E != E)=false:=by simp
  have tC:(C != C)=false:=by simp
  have tT:(T != T)=false:=by simp
  have tT2:(T == T)=true:=by simp
  clear y hT hE hY hC CS2 hsl
  go_wp2_with fail
  refine (CP1.out w1 (below_keep HB0.out HB1.out)).mono ?_
  rintro e w2 ⟨rfl,hb⟩
  have HB2:=Lib.hid (below_keep HB1.out hb)
  obtain ⟨y,-,-⟩:=HX0.out w2 HB2.out
  clear hb CP1 z0 z1 z2
  have z0:=y 0 _ rfl
  have z1:=y 1 _ rfl
  have z2:=y 2 _ rfl
  clear y
  go_wp2_with fail
  refine (CP2.out w2 (below_keep HB0.out HB2.out)).mono ?_
  rintro e w3 ⟨rfl,hb⟩
  have HB3:=Lib.hid (below_keep HB2.out hb)
  clear hb CP2 z0 z1 z2
  go_wp2_with fail
  refine (C3.out w3 (below_keep HB0.out HB3.out)).mono ?_
  rintro e w4 ⟨u1,u2,u3,rfl,⟨n4,ho⟩,hb⟩
  have hu:=ho.arr
  clear ho
  have HU:=Lib.hid hu
  have HB4:=Lib.hid (below_keep HB3.out hb)
  obtain ⟨a1,n1,e1,-⟩:=hu.dims.shape
  obtain ⟨a2,n2,e2,-⟩:=hu.attrs.shape
  obtain ⟨a3,n3,e3,-⟩:=hu.cells.shape
  subst e1 e2 e3
  obtain ⟨W5,hW5,hb5,hs5,hx5⟩:=blk_at w4 [.slice a1 Y.dims.length n1,.slice a2 Y.attrs.length n2,.slice a3 Y.cells.length n3] 26
  have HB5:=Lib.hid (below_keep HB4.out hb5)
  have HU5:=Lib.hid (HU.out.later hb5)
  have HX5:=Lib.hid hx5
  clear hu hb hb5 hs5 hx5 C3
  go_upto_region 6 with (fail)
  rw [← hW5]
  clear hW5
  go_wp2_with fail
  refine (C4.out W5).mono ?_
  rintro e w6 ⟨u1,u2,u3,rfl,⟨n6,ho⟩,hb⟩
  have hu:=ho.arr
  clear ho
  have HR:=Lib.hid hu
  have HB6:=Lib.hid (below_keep HB5.out hb)
  have HB56:=Lib.hid hb
  obtain ⟨c1,m1,e1,-⟩:=hu.dims.shape
  obtain ⟨c2,m2,e2,-⟩:=hu.attrs.shape
  obtain ⟨c3,m3,e3,-⟩:=hu.cells.shape
  subst e1 e2 e3
  obtain ⟨W7,hW7,hb7,hs7,hx7⟩:=blk_at w6 [.slice c1 Y.dims.length m1,.slice c2 Y.attrs.length m2,.slice c3 Y.cells.length m3] 26
  have HB7:=Lib.hid (below_keep HB6.out hb7)
  have HB57:=Lib.hid (below_keep HB56.out hb7)
  have HR7:=Lib.hid (HR.out.later hb7)
  obtain ⟨y,-,-⟩:=HX5.out W7 HB57.out
  have z0:=y 0 _ rfl
  have z1:=y 1 _ rfl
  have z2:=y 2 _ rfl
  obtain ⟨y',-,-⟩:=hx7 W7 (Below.refl _ _)
  have q0:=y' 0 _ rfl
  have q1:=y' 1 _ rfl
  have q2:=y' 2 _ rfl
  have CE:=Lib.hid (equal_sameT Y _ _ _ _ _ _ W7 (HU5.out.later HB57.out) HR7.out)
  clear hu hb hb7 hs7 hx7 y y' C4
  go_upto_region 7 with (fail)
  rw [← hW7]
  clear hW7
  go_wp2_with fail
  refine CE.out.mono ?_
  rintro e w8 ⟨rfl,hb⟩
  have HB8:=Lib.hid (below_keep HB7.out hb)
  have HB58:=Lib.hid (below_keep HB57.out hb)
  clear hb CE z0 z1 z2 q0 q1 q2 tE tC tT tT2
  by_cases hc:checkE x=0
  ·obtain ⟨hT,hE⟩:=HTE.out
   rw [if_pos hc] at hT hE
   have C5:Hid (∀ w1,Below w.heap.size w w1→Calls Tryz.prog 9 #[strV T] w1 (RetAz x 0 w1)):=fun w1 hb => by
    have h1:=CS1.out T w1 hb (by rw [hT]; exact few_len hc (HFW.out trivial))
    rw [show readA T=some x from readA_iff.2 ⟨hc,hT.symm⟩] at h1
    exact h1
   clear hT HTE hc CS1
   subst hE
   go_wp2_with fail
   refine (C5.out w8 (below_keep HB0.out HB8.out)).mono ?_
   rintro e w9 ⟨u1,u2,u3,rfl,⟨n9,ho⟩,hb⟩
   have hu:=ho.arr
   have HO:=Lib.hid ho
   have HB9:=Lib.hid (below_keep HB8.out hb)
   have HB59:=Lib.hid (below_keep HB58.out hb)
   obtain ⟨d1,l1,e1,-⟩:=hu.dims.shape
   obtain ⟨d2,l2,e2,-⟩:=hu.attrs.shape
   obtain ⟨d3,l3,e3,-⟩:=hu.cells.shape
   subst e1 e2 e3
   obtain ⟨y,yf,yt⟩:=HX5.out w9 HB59.out
   have z0:=y 0 _ rfl
   have z1:=y 1 _ rfl
   have z2:=y 2 _ rfl
   have f0:=yf 0
   have f1:=yf 1
   have f2:=yf 2
   obtain ⟨W10,hW10⟩:∃ W,W=((w9.setCell ⟨w4.heap.size,0,none⟩ (.slice d1 x.dims.length l1)).setCell ⟨w4.heap.size,1,none⟩ (.slice d2 x.attrs.length l2)).setCell ⟨w4.heap.size,2,none⟩ (.slice d3 x.cells.length l3):=⟨_,rfl⟩
   have HA10:Hid (ArrR W10 (.slice d1 x.dims.length l1) (.slice d2 x.attrs.length l2) (.slice d3 x.cells.length l3) x):=by rw [hW10]; exact (HO.out.set3 yt).arr
   have HC10:Hid (W10.cell? ⟨w4.heap.size,0,none⟩=some (.slice d1 x.dims.length l1)∧W10.cell? ⟨w4.heap.size,1,none⟩=some (.slice d2 x.attrs.length l2)∧W10.cell? ⟨w4.heap.size,2,none⟩=some (.slice d3 x.cells.length l3)):=by rw [hW10]; exact set3_at z0 z1 z2 _ _ _
   have hge:W0.heap.size≤w4.heap.size:=HB4.out.size
   have HB10:Hid (Below W0.heap.size W0 W10):=by
    rw [hW10]
    exact ((HB9.out.setCell (p:=⟨w4.heap.size,0,none⟩) hge _).setCell (p:=⟨w4.heap.size,1,none⟩) hge _).setCell (p:=⟨w4.heap.size,2,none⟩) hge _
   clear ho hu hb y yf yt C5 hge
   go_upto_region 11 with (fail)
   rw [← hW10]
   clear hW10 z0 z1 z2 f0 f1 f2
   obtain ⟨q0,q1,q2⟩:=HC10.out
   obtain ⟨y,-,-⟩:=HX0.out W10 HB10.out
   have z0:=y 0 _ rfl
   have z1:=y 1 _ rfl
   have z2:=y 2 _ rfl
   have CE:=Lib.hid (equal_sameT x _ _ _ _ _ _ W10 (HX.out.later (below_keep HB0.out HB10.out)) HA10.out)
   clear y
   go_wp2_with fail
   refine CE.out.mono ?_
   rintro e w11 ⟨rfl,hb⟩
   have HB11:=Lib.hid (below_keep HB10.out hb)
   clear hb CE z0 z1 z2 q0 q1 q2
   go_wp2_with fail
   refine (CW.out _ (below_keep HB0.out HB11.out)).mono ?_
   rintro e z9 ⟨rfl,hb⟩
   have HBE:=Lib.hid (below_keep (below_keep HB0.out HB11.out) hb)
   clear hb CW
   go_wp2
   go_ret
   exact ⟨rfl,HBE.out⟩
  ·obtain ⟨hT,hE⟩:=HTE.out
   rw [if_neg hc] at hE
   clear hT HTE hc CS1
   subst hE
   go_wp2_with fail
   refine (CW.out _ (below_keep HB0.out HB8.out)).mono ?_
   rintro e z9 ⟨rfl,hb⟩
   have HBE:=Lib.hid (below_keep (below_keep HB0.out HB8.out) hb)
   clear hb CW
   go_wp2
   go_ret
   exact ⟨rfl,HBE.out⟩
end Go.Proofs.YtdbnebhehiiakaaGreatDoor
